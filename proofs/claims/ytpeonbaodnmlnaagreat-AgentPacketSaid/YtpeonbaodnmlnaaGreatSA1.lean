/- Lemmas of this claim, put together out of: A, H1, Z, V, Z2, V2, V4, X, C1, C2, C3, C4, XR, C5, C6, C7, C8, C9, C10, C11, C12, H2, XK, XM, H3, H4, XW, HW, H5, C14, C15, C13, C16, H6, I1, I2. -/
import Derived.Test.YtpeonbaodnmlnaaGreatProg
import Derived.ScopeJumps
import Derived.Lib.Hide
import Derived.Deep.DeepFit
import Derived.Deep.DeepCutAuto
import Derived.WalkKit
import Derived.WalkSpells
import Derived.WalkLawsBesides
import Derived.Deep.QuietTactic
import Derived.BigQuiet
import Derived.Deep.RegionWith
import Derived.Deep.RegionHeld3
import Derived.RangeFuncNested
import Derived.Maps.AppendAt
import Derived.OwnWalkIn
import Derived.TacticsInMore
import Derived.RangeFuncOne
import Derived.RangeFuncBound
import Derived.Deep.AppendLies
import Derived.Deep.MidRow
import Derived.Deep.Quiet
import Derived.Shelf.Abstract
import Derived.RegionIn
import Derived.Lib.SliceRun
import Derived.Deep.RegionLaw
import Derived.LoopNIn
import Derived.LoopIn
import Derived.Stop.RegionWithIn
import Derived.Lib.Overlaps
import Derived.Lib.AppendZerosOnto
import Derived.Laws.IdiomCopy
import Derived.Laws.NewBlocks
import Derived.Laws.Externs
import Derived.Laws.BitsLemmas
set_option linter.unusedSimpArgs false
set_option linter.unusedVariables false
set_option maxRecDepth 100000
set_option maxHeartbeats 16000000
namespace Go.Proofs.YtpeonbaodnmlnaaGreat
open Go.RowKit
variable{K Q:Act→World→Prop}{listed:Array Bool}{after:Array Edge}{ops:Array Oper}{args:Array Value}{f:FuncId}{bs:List Int}{xs:List Value}{N base fuel i k m:Nat}{C:Nat→Prop}{o oi:Oper}{x:Operand}{ρ:Operand→Value}{g:Option (Nat×Bool)}{dst:Option Tmp}{P:Program}{pos:String}{e ty:TypeId}{A B W w w' w1:World}
theorem Kr{p:Prop}(h:p:=by kernel_rfl):p:=h
theorem Om{p:Prop}(h:p:=by omega):p:=h
theorem Dc{p:Prop}(h:p:=by decide):p:=h
theorem Qp{a:Act}{Q:Exit→Act→World→Prop}{c rest:Code}(l:Nat)(hf:findLabel c l=some rest)
  (first:c.wp P (Exit.jump l (fun a w=>rest.wp P (Exit.noGoto Q) a w) Q) a w):(Code.scope c).wp P Q a w:=by
 refine wp_scope_jumps l _ (fun _ _=>0) hf first ?_
 intro a w h;refine wp_mono h ?_;intro e a w q
 cases e<;>first|exact q|exact q.elim
def Lt(b:Nat)(W:World):Prop:=b<W.heap.size
section
variable {W:World} {b:Nat}
@[go_sem] theorem Qxl(o:Obj):Lt b (W.alloc o)=(b=W.heap.size∨Lt b W):=by
 unfold Lt;simp;omega
@[go_sem] theorem Zk(a:Addr)(v:Value):Lt b (W.setCell a v)=Lt b W:=by unfold Lt;simp [World.setCell]
@[go_sem] theorem Qzy:Lt b W.drew=Lt b W:=rfl
@[go_sem] theorem Qxm(n:Nat):Lt b (W.drewN n)=Lt b W:=rfl
@[go_sem] theorem QrG(h:Lt b W)(o:Obj)(i:Nat):(W.alloc o).cell? ⟨b,i,none⟩=W.cell? ⟨b,i,none⟩:=World.cell?_alloc_past _ _ _ h
@[go_sem] theorem Qob(h:Lt b W)(o:Obj)(i:Nat):(W.alloc o).frozen? ⟨b,i,none⟩=W.frozen? ⟨b,i,none⟩:=World.frozen?_alloc_past _ _ _ h
@[go_sem] theorem QAt(h:Lt b W):(b=W.heap.size)=False:=by unfold Lt at h;simp;omega
@[go_sem] theorem Qz6(h:Lt b W):(W.heap.size=b)=False:=by unfold Lt at h;simp;omega
@[go_sem] theorem Qz7(h:Lt b W):(b=W.heap.size+1)=False:=by unfold Lt at h;simp;omega
@[go_sem] theorem Qzz(h:Lt b W):(W.heap.size+1=b)=False:=by unfold Lt at h;simp;omega
@[go_sem] theorem Qz8(h:Lt b W):(b=W.heap.size+1+1)=False:=by unfold Lt at h;simp;omega
@[go_sem] theorem QzA(h:Lt b W):(W.heap.size+1+1=b)=False:=by unfold Lt at h;simp;omega
end
def QtF(w:World)(b o:Nat):Option Value:=w.cell? ⟨b,o,none⟩
def Qlh(w:World)(b o:Nat):Bool:=w.frozen? ⟨b,o,none⟩
def LtX(b:Nat)(w:World):Prop:=b<w.heap.size
open Classical in
abbrev Qz9(W w':World):Prop:=(∀b o,w'.cell? ⟨b,o,none⟩=if Lt b W then W.cell? ⟨b,o,none⟩else QtF w' b o)∧(∀b o,w'.frozen? ⟨b,o,none⟩=if Lt b W then W.frozen? ⟨b,o,none⟩else Qlh w' b o)∧(∀b,Lt b w'=(Lt b W∨LtX b w'))∧W.heap.size≤w'.heap.size∧Below W.heap.size W w'
theorem QU{W:World}(h:Below W.heap.size W w'):Qz9 W w':=by
 refine⟨fun b o=> ?_,fun b o=> ?_,fun b=> ?_,h.size,h⟩
 ·split
  ·exact h.cell (p:=⟨b,o,none⟩) ‹Lt b W›
  ·rfl
 ·split
  ·exact h.frozen (p:=⟨b,o,none⟩) ‹Lt b W›
  ·rfl
 ·unfold Lt LtX;have:=h.size;simp only [eq_iff_iff];omega
abbrev Up(W w':World):Prop:=(∀b o,Lt b W→w'.cell? ⟨b,o,none⟩=W.cell? ⟨b,o,none⟩)∧(∀b o,Lt b W→w'.frozen? ⟨b,o,none⟩=W.frozen? ⟨b,o,none⟩)∧(∀b,Lt b W→Lt b w')∧W.heap.size≤w'.heap.size∧Below W.heap.size W w'
theorem up{W:World}(h:Below W.heap.size W w'):Up W w':=
 ⟨fun b o hb=>h.cell (p:=⟨b,o,none⟩) hb,fun b o hb=>h.frozen (p:=⟨b,o,none⟩) hb,fun _ hb=>Nat.lt_of_lt_of_le hb h.size,h.size,h⟩
theorem Up.start(W:World):Up W W.drew:=up ((Below.refl _ _).drew)
theorem Up.next{W w2:World}(h:Up W w1)(hb:Below w1.heap.size w1 w2):Up W w2:=up (h.2.2.2.2.trans (hb.mono h.2.2.2.2.size))
theorem Up.al{W:World}(h:Up W w1)(o:Obj):Up W (w1.alloc o):=up (Below.alloc h.2.2.2.2 h.2.2.2.1 o)
theorem Up.dr{W:World}(h:Up W w1):Up W w1.drew:=up (Below.drew h.2.2.2.2)
theorem Up.st{W:World}(h:Up W w1){p:Addr}(v:Value)(hp:W.heap.size≤p.block):Up W (w1.setCell p v):=up (Below.setCell h.2.2.2.2 hp v)
abbrev Ext(w w':World):Prop:=Below w.heap.size w w'
theorem Ext.rf(w:World):Ext w w:=Below.refl _ _
theorem Ext.al{W:World}(h:Ext w W)(o:Obj):Ext w (W.alloc o):=Below.alloc h h.size o
theorem Ext.dr{W:World}(h:Ext w W):Ext w W.drew:=Below.drew h
theorem Ext.dn{W:World}(h:Ext w W)(n:Nat):Ext w (W.drewN n):=⟨h.os,h.tape,h.output,h.size,h.block⟩
theorem Ext.st{W:World}{p:Addr}(v:Value)(hp:w.heap.size≤p.block)(h:Ext w W):Ext w (W.setCell p v):=Below.setCell h hp v
theorem Ext.tr{W W':World}(h:Ext w W)(hb:Ext W W'):Ext w W':=h.trans (hb.mono h.size)
theorem Qog{W:World}(h:Up W w'):Ext W w':=h.2.2.2.2
theorem Ext.of{W W':World}(e:Hid (W=W'))(h:Ext w W'):Ext w W:=by rw [e.out];exact h
theorem QW{c:Code}{Q:Exit→Act→World→Prop}{a:Act}
  (h: ∀W:World,(∀b o,W.cell? ⟨b,o,none⟩=w.cell? ⟨b,o,none⟩)→(∀b o,W.frozen? ⟨b,o,none⟩=w.frozen? ⟨b,o,none⟩)→(∀b,Lt b W=Lt b w)→W.heap.size=w.heap.size→Hid (W=w)→c.wp P Q a W):c.wp P Q a w:=
 h w (fun _ _=>rfl) (fun _ _=>rfl) (fun _=>rfl) rfl rfl
theorem Qm{a b:Bool}(h:a=b):Ending.returned (.bool a)= .returned (.bool b):=by rw [h]
theorem Xe{W:World}(h:Ext w W:=by repeat(first|(with_reducible first|exact Ext.rf _|assumption|refine Ext.al ?_ _|refine Ext.dr ?_|refine Ext.dn ?_ _)|((with_reducible refine Ext.st _ ?_ ?_);focus(first|omega|(simp;omega)|simp))|(with_reducible first|refine Ext.tr ?_ (by assumption)|refine Ext.tr ?_ (Qog (by assumption))|refine Ext.of (by assumption) ?_))):Ext w W:=h
theorem Xl{a b c:Nat}(h:a<b)(k:b≤c):a<c:=Nat.lt_of_lt_of_le h k
theorem Xt{a b c:Nat}(h:a≤b)(k:b≤c):a≤c:=Nat.le_trans h k
theorem Xh{p:Prop}(h:p):Hid p:=Lib.hid h
theorem Xu{W:World}(h:Ext w W:=by repeat(first|(with_reducible first|exact Ext.rf _|exact Qog (by assumption)|refine Ext.al ?_ _|refine Ext.dr ?_|refine Ext.dn ?_ _)|((with_reducible refine Ext.st _ ?_ ?_);focus(first|omega|(simp;omega)|simp))|with_reducible refine Ext.tr ?_ (by assumption))):Ext w W:=h
theorem Ea{o:Obj}:Ext w (w.alloc o):=Ext.al (Ext.rf w) o
abbrev Cr(f:FuncId)(a:Array Value)(w:World)(v:Value):Prop:=Calls Tryz.prog f a w fun e w'=>e= .returned v∧Ext w w'
def QbX(c:Int):Int:=(167*c+13) % 256 % 16*16+(167*c+13) % 256/16
def Qgy(s c:Int):Int:=bits BinOp.xor IntKind.u8 s c
theorem QrZ(c:Int):0≤QbX c∧QbX c<256:=by unfold QbX;omega
theorem Qr0(s c:Int):0≤Qgy s c∧Qgy s c<256:=by
 have a:=bits_lo_u8 .xor s c;have b:=bits_hi_u8 .xor s c;unfold Qgy;omega
theorem QfK(p:Int→Prop)[∀c,Decidable (p c)](h:((List.range 256).all fun n=>decide (p (n:Int)))=true){c:Int}(h0:0≤c)(h1:c<256):p c:=by
 obtain⟨n,rfl⟩: ∃n:Nat,c=n:=⟨c.toNat,Om⟩;exact of_decide_eq_true (List.all_eq_true.1 h n (List.mem_range.2 Om))
theorem QuS(n:Int)(h0:0≤n)(h1:n<256):bits BinOp.or IntKind.u8 (n*16 % 256) (n/16)=n % 16*16+n/16:=by
 refine QfK (fun n=>bits BinOp.or IntKind.u8 (n*16 % 256) (n/16)=n % 16*16+n/16) ?_ h0 h1
 kernel_rfl
def Qei(s:Int):Int:=s/16 % 16+s % 16- 2*(bits BinOp.and IntKind.u8 (s/16) (s % 16))
theorem Qov(n:Int)(h0:0≤n)(h1:n<256):wrap64 (bits BinOp.and IntKind.u8 (bits BinOp.xor IntKind.u8 n (n/16)) 15)=Qei n:=by
 refine QfK (fun n=>wrap64 (bits BinOp.and IntKind.u8 (bits BinOp.xor IntKind.u8 n (n/16)) 15)=Qei n) ?_ h0 h1
 kernel_rfl
theorem Qr1(n:Int)(h0:0≤n)(h1:n<256):0≤Qei n∧Qei n<16:=by
 refine QfK (fun n=>0≤Qei n∧Qei n<16) ?_ h0 h1
 kernel_rfl
theorem Qr2(c:Int)(w:World)(h0:0≤c)(h1:c<256):Calls Tryz.prog 239 #[.int .u8 c,.int .i64 4] w fun e w'=>e= .returned (.int .u8 (c % 16*16+c/16))∧w=w':=by
 have a:=Xh (QuS c h0 h1);have b:bits BinOp.and IntKind.u64 4 7=4:=Kr
 clear h0 h1
 go_enter Tryz.func239,Tryz.ntmps239
 go_wp2;go_ret;exact⟨by rw [←a.out];rfl,rfl⟩
theorem Qjo(c:Int)(w:World)(h0:0≤c)(h1:c<256):Calls Tryz.prog 104 #[.int .u8 c] w fun e w'=>e= .returned (.int .i64 (Qei c))∧w=w':=by
 have a:=Xh (Qov c h0 h1);clear h0 h1
 go_enter Tryz.func104,Tryz.ntmps104
 go_wp2;go_ret;exact⟨by rw [←a.out];rfl,rfl⟩
theorem Qow(c:Int)(w:World):Calls Tryz.prog 219 #[.int .u8 c] w fun e w'=>e= .returned (.int .u8 (QbX c))∧w=w':=by
 have a:=Xh (fun w=>Qr2 ((167*c+13) % 256) w Om Om)
 go_enter Tryz.func219,Tryz.ntmps219
 go_wp2_with ((with_reducible refine(a.out _).mono ?_);(rintro e w' ⟨rfl,rfl⟩))
 exact bodyPost_ret (v:= .int .u8 ((167*c+13) % 16*16+(167*c+13) % 256/16)) Kr rfl ⟨by rw [show(167*c+13) % 16*16+(167*c+13) % 256/16=QbX c by unfold QbX;omega],rfl⟩
theorem QmB(c:Int)(h0:0≤c)(h1:c<256):(wrap64 (wrap64 ((wrap64 (wrap64 (167*wrap64 c)+13)).tmod 16*16)+wrap64 (((wrap64 (wrap64 (167*wrap64 c)+13)).tmod 256).tdiv 16)) % 256)=QbX c:=by
 refine QfK (fun c=>(wrap64 (wrap64 ((wrap64 (wrap64 (167*wrap64 c)+13)).tmod 16*16)+wrap64 (((wrap64 (wrap64 (167*wrap64 c)+13)).tmod 256).tdiv 16)) % 256)=QbX c) ?_ h0 h1
 kernel_rfl
theorem QmC(c:Int)(w:World)(h0:0≤c)(h1:c<256):Calls Tryz.prog 207 #[.int .u8 c] w fun e w'=>e= .returned (.int .u8 (QbX c))∧w=w':=by
 have a:=Xh (QmB c h0 h1);clear h0 h1
 go_enter Tryz.func207,Tryz.ntmps207
 go_wp2;go_ret;exact⟨by rw [←a.out];rfl,rfl⟩
structure Mv(C:Nat→Prop)(A B:World):Prop where
 os:B.os=A.os
 tape:B.tape=A.tape
 output:B.output=A.output
 size:A.heap.size≤B.heap.size
 same: ∀k,k<A.heap.size→ ¬C k→B.heap[k]?=A.heap[k]?
theorem Mv.refl(C:Nat→Prop)(A:World):Mv C A A:=⟨rfl,rfl,rfl,Nat.le_refl _,fun _ _ _=>rfl⟩
theorem Mv.trans{X Y Z:World}(h:Mv C X Y)(k:Mv C Y Z):Mv C X Z:=
 ⟨k.os.trans h.os,k.tape.trans h.tape,k.output.trans h.output,Xt h.size k.size,fun i hi hc=>(k.same i (Xl hi h.size) hc).trans (h.same i hi hc)⟩
theorem Mv.mono{D:Nat→Prop}(h:Mv C A B)(hd: ∀k,k<A.heap.size→C k→D k):Mv D A B:=
 ⟨h.os,h.tape,h.output,h.size,fun k hk hn=>h.same k hk (fun hc=>hn (hd k hk hc))⟩
theorem Mv.of_ext(h:Ext A B):Mv C A B:=⟨h.os,h.tape,h.output,h.size,fun k hk _=>h.block k hk⟩
theorem Mv.ext(h:Mv C w A)(hc: ∀k,k<w.heap.size→ ¬C k):Ext w A:=
 ⟨h.os,h.tape,h.output,h.size,fun k hk=>h.same k hk (hc k hk)⟩
theorem Mv.ext_of(h:Ext w A)(m:Mv C A B)(hc: ∀k,C k→w.heap.size≤k):Ext w B:=
 h.trans ⟨m.os,m.tape,m.output,m.size,fun k hk=>m.same k (Xl hk h.size) (fun c=>by have:=hc k c;omega)⟩
theorem Mv.st{b:Nat}(v:Value)(hb:C b∨A.heap.size≤b)(h:Mv C A B):Mv C A (B.setCell ⟨b,i,none⟩ v):=
 ⟨h.os,h.tape,h.output,by simpa using h.size,fun k hk hc=>by
  have a:k≠b:=fun e=>by subst e;rcases hb with h1|h1;exact hc h1;omega
  rw [←h.same k hk hc];simp only [World.setCell,Array.getElem?_modify]
  rw [if_neg (fun e=>a e.symm)]⟩
theorem Mv.al(o:Obj)(h:Mv C A B):Mv C A (B.alloc o):=
 h.trans (Mv.of_ext (Ext.al (Ext.rf _) o))
theorem Mv.dr(h:Mv C A B):Mv C A B.drew:=h.trans (Mv.of_ext (Ext.dr (Ext.rf _)))
theorem Mv.tr{B':World}(h:Mv C A B)(e:Ext B B'):Mv C A B':=h.trans (Mv.of_ext e)
theorem Mv.put(A:World)(l:Nat)(o:Obj)(hl:C l):Mv C A (A.putObj l o):=
 ⟨rfl,rfl,rfl,by simp,fun k _ hc=>World.putObj_heap_other (fun e=>hc (e▸hl))⟩
def QcT{α:Type}(F:Fence)(n:Nat)(P:Program)(g:Nat)(lb:Array Value)(encs:α→Array Value)(T U:Nat→Prop)(xs:List α)(w:World):Prop:=
 ∀(l:Nat) (J:Nat→World→Prop) (Jx:World→Prop) (W:World),Ext w W→
  (∀i A B,J i A→Mv T A B→J i B)→(∀A B,Jx A→Mv T A B→Jx B)→
  (∃(fn:FuncId) (tm:Array Value→Array Value) (assign body:Code),∀i x W1,J i W1→xs[i]?=some x→
   (Instr.yield l (encs x)).run P W1= .ok (.round l fn (tm (encs x)) assign body) W1∧
   RoundIn F (n- 1) P l fn (tm (encs x)) assign body W1 fun e W'=> ∃b:Bool,e= .returned (.bool b)∧((b=true∧J (i+1) W'∧Mv (fun k=>U k∨w.heap.size≤k) W1 W')∨(b=false∧Jx W')))→
  J 0 W→
  CallsIn F n P g (#[.func (.yield l) #[] #[]]++lb) W fun e W'=>(∃v,e= .returned v)∧(J xs.length W'∨Jx W')
def QxA(U:Nat→Prop)(B:Nat)(I:Nat→World→Prop)(Ix:Code→World→Prop)(i:Nat)(W:World):Exit→Act→World→Prop
 | .normal,_,W'=>Mv (fun k=>U k∨B≤k) W W'∧I (i+1) W'
 | .ret,_,W'=>Mv (fun k=>U k∨B≤k) W W'∧Ix .ret W'
 | .exit id,_,W'=>Mv (fun k=>U k∨B≤k) W W'∧Ix (.exit id) W'
 | .goto t,_,W'=>Mv (fun k=>U k∨B≤k) W W'∧Ix (.goto t) W'
 | .panic _,_,_=>False
 | .outgrown,_,_=>False
theorem ZI{α:Type}{F:Fence}{n:Nat}{g:Operand}{ps:Array Tmp}{assign body:Code}{Q:Exit→Act→World→Prop}{a:Act}
  (hro:F.round=none)(h1:1≤n){gf:Nat}{lb:Array Value}(hg:a.eval g= .func (.func gf) #[] lb)(hFg:F.fn gf)(eg: ∀args w,(callFunc gf args).run P w= .ok (.enter gf args) w)
  {encs:α→Array Value}{T U:Nat→Prop}{xs:List α}(hseq:QcT F (n- 1) P gf lb encs T U xs w)
  (hT: ∀k,T k→k<w.heap.size)(hU: ∀k,U k→k<w.heap.size)(hps: ∀x,(encs x).size=ps.size)
  (I:Nat→World→Prop)(Ix:Code→World→Prop)(hI: ∀i A B,I i A→Mv (fun k=>T k∨k=w.heap.size∨k=w.heap.size+1) A B→I i B)
  (hIx: ∀c A B,Ix c A→Mv (fun k=>T k∨k=w.heap.size∨k=w.heap.size+1) A B→Ix c B)(h0:I 0 w)
  (Ax:α→Act→World→Prop)(hAx: ∀x a' A B,Ax x a' A→Mv (fun k=>k=w.heap.size+1) A B→Ax x a' B)
  (hassign: ∀(l i:Nat) (x:α) (W:World) (K:Act→World→Prop),w.heap.size+2≤W.heap.size→Mv (fun k=>T k∨U k) w W→I i W→xs[i]?=some x→
   (∀a' W',Mv (fun k=>U k∨w.heap.size+2≤k) W W'→I i W'→Ax x a' W'→K a' W')→
   assign.wpIn (F.inRound l) (n- 1- 1) P (Exit.then K (fun _ _ _=>False)) {tmps:=(ps.zip (encs x)).foldl (fun t (p,v)=>t.setIfInBounds p v) a.tmps,defers:= []} W)
  (hbody: ∀(l i:Nat) (x:α) (a':Act) (W:World),w.heap.size≤l→(∃r,W.heap[l]?=some (.loop r))→w.heap.size+2≤W.heap.size→Mv (fun k=>T k∨U k) w W→I i W→xs[i]?=some x→Ax x a' W→
   body.wpIn (F.inRound l) (n- 1- 1) P (QxA U (w.heap.size+2) I Ix i W) a' W)
  (hdone: ∀(W:World),I xs.length W→Mv (fun k=>T k∨U k) w W→W.heap[w.heap.size]?=some (.deferred (some []))→Q .normal {a with defers:={target:= .collected w.heap.size,args:=#[]}::a.defers} W)
  (hstop: ∀(c:Code) (W:World),Ix c W→Mv (fun k=>T k∨U k) w W→W.heap[w.heap.size]?=some (.deferred (some []))→c.wpIn F n P Q {a with defers:={target:= .collected w.heap.size,args:=#[]}::a.defers} W):
  (Code.rangeFunc g ps assign body).wpIn F n P Q a w:=by
 refine wpIn_rangeFunc ?_;intro fn b8;rw [hro];obtain⟨f,y⟩: ∃f:LoopState→Option Code→Loop,f=fun st pe=>{state:=st,pending:=pe,fn,tmps:=a.tmps,params:=ps,assign,body,defers:=w.heap.size}:=⟨_,rfl⟩;obtain⟨u,a0⟩: ∃u,(w.alloc (.deferred (some []))).alloc (.loop (f .ready none))=u:=⟨_,rfl⟩;have a9:u.heap[w.heap.size+1]?=some (.loop (f .ready none)):=by
  rw [←a0];have:=World.alloc_heap_new (w.alloc (.deferred (some []))) (.loop (f .ready none));rwa [World.size_alloc]at this
 have b0:u.heap[w.heap.size]?=some (.deferred (some [])):=by
  rw [←a0];exact(Below.heap_alloc _ _ _ (by simp)).trans (World.alloc_heap_new w _)
 have a1:Ext w u:=by rw [←a0];exact Ext.al Ea _
 have b1:I 0 u:=hI 0 _ _ h0 (Mv.of_ext a1)
 refine⟨w.heap.size+1,[{target:= .collected w.heap.size,args:=#[]}],u,{target:= .fn (.func gf) lb,args:=#[.func (.yield (w.heap.size+1)) #[] #[]]},u,gf,
  #[.func (.yield (w.heap.size+1)) #[] #[]]++lb,u,?_,?_,?_,?_,fun _=>h1,?_⟩
 ·rw [←a0,y];exact run_enterLoop_outer _ _ _ _ _
 ·simp only [resolve,hg];simp [go_sem]
 ·intro f' a8;simp [Target.leads]at a8;subst a8;exact hFg
 ·simp [invoke,go_sem,eg]
 ·have X: ∀{k:Nat} {A B:World} {o:Obj},w.heap.size≤k→A.heap[k]?=some o→Mv T A B→B.heap[k]?=some o:=fun b ha hm=>
   (hm.same _ (Array.getElem?_eq_some_iff.1 ha).1 (fun ht=>by have:=hT _ ht;omega)).trans ha
  refine(hseq (w.heap.size+1)
   (fun i W=>I i W∧Mv (fun k=>T k∨U k) w W∧W.heap[w.heap.size+1]?=some (.loop (f .ready none))∧W.heap[w.heap.size]?=some (.deferred (some [])))
   (fun W=> ∃c,Ix c W∧Mv (fun k=>T k∨U k) w W∧W.heap[w.heap.size+1]?=some (.loop (f .done (some c)))∧W.heap[w.heap.size]?=some (.deferred (some [])))
   u a1
   (fun i A B hs hm=>⟨hI i A B hs.1 (hm.mono fun _ _ h=> .inl h),hs.2.1.trans (hm.mono fun _ _ h=> .inl h),X Om hs.2.2.1 hm,X (Nat.le_refl _) hs.2.2.2 hm⟩)
   (fun A B hs hm=>by
    obtain⟨c,s,j,z,b⟩:=hs
    exact⟨c,hIx c A B s (hm.mono fun _ _ h=> .inl h),j.trans (hm.mono fun _ _ h=> .inl h),X Om z hm,X (Nat.le_refl _) b hm⟩)
   ?_ ⟨b1,Mv.of_ext a1,a9,b0⟩).mono ?_
  ·refine⟨fn,fun args=>(ps.zip args).foldl (fun t (p,v)=>t.setIfInBounds p v) a.tmps,assign,body,?_⟩;rintro i x W ⟨S,j,z,b⟩ hx;have c1:w.heap.size+1<W.heap.size:=(Array.getElem?_eq_some_iff.1 z).1;have hy:=run_yield (P:=P) (args:=encs x) z (by rw [y];exact hps x);rw [y]at hy;refine⟨hy,roundIn_of_wpIn b8 (hassign _ i x W _ Om j S hx ?_)⟩;clear hy;intro a' V D b9 c0;have Y: ∀{k:Nat} {A B:World} {o:Obj},w.heap.size≤k→k<w.heap.size+2→A.heap[k]?=some o→Mv (fun k=>U k∨w.heap.size+2≤k) A B→B.heap[k]?=some o:=fun hk1 a6 ha hm=>
    (hm.same _ (Array.getElem?_eq_some_iff.1 ha).1 (fun ht=>by rcases ht with ht|ht;(have:=hU _ ht;omega);omega)).trans ha
   have a4:=Y Om Om z D;have b2:=Y (Nat.le_refl _) Om b D;have b3:Mv (fun k=>T k∨U k) w V:=
    ⟨D.os.trans j.os,D.tape.trans j.tape,D.output.trans j.output,Xt j.size D.size,fun k b s=>(D.same k (Xl b j.size) (fun hh=>by rcases hh with hh|hh;exact s (.inr hh);omega)).trans (j.same k b s)⟩
   have b4:w.heap.size+1<V.heap.size:=(Array.getElem?_eq_some_iff.1 a4).1;refine⟨_,run_beginRound a4 (by rw [y]),?_⟩;have a2: ∀(A:World) (o:Obj),Mv (fun k=>k=w.heap.size+1) A (A.putObj (w.heap.size+1) o):=fun A o=>Mv.put A _ o rfl;have C: ∀(A:World) (o:Obj),Mv (fun k=>T k∨k=w.heap.size∨k=w.heap.size+1) A (A.putObj (w.heap.size+1) o):=fun A o=>Mv.put A _ o (.inr (.inr rfl));have R: ∀(A:World) (o:Obj),Mv (fun k=>T k∨U k) w A→Mv (fun k=>T k∨U k) w (A.putObj (w.heap.size+1) o):=fun A o h=>
    ⟨h.os,h.tape,h.output,by simpa using h.size,fun k b s=>(World.putObj_heap_other Om).trans (h.same k b s)⟩
   obtain⟨q,E⟩: ∃q,q=V.putObj (w.heap.size+1) (.loop {f .ready none with state:= .busy}):=⟨_,rfl⟩;rw [←E];have a5:q.heap[w.heap.size+1]?=some (.loop {f .ready none with state:= .busy}):=by rw [E];exact World.putObj_heap_same b4
   have a6:q.heap[w.heap.size]?=some (.deferred (some [])):=by rw [E];exact(World.putObj_heap_other Om).trans b2
   have G:Mv (fun k=>T k∨U k) w q:=by rw [E];exact R _ _ b3
   have b5:I i q:=by rw [E];exact hI _ _ _ b9 (C _ _)
   have b6:Ax x a' q:=by rw [E];exact hAx _ _ _ _ c0 (a2 _ _)
   have b7:w.heap.size+2≤q.heap.size:=by rw [E];simp;omega
   refine wpIn_mono (hbody (w.heap.size+1) i x a' q Om ⟨_,a5⟩ b7 G b5 hx b6) ?_;have Z: ∀(jump:Option Code) (m:World),Mv (fun k=>U k∨w.heap.size+2≤k) q m→
     (Instr.endRound (w.heap.size+1) jump).run P m= .ok (.bool jump.isNone) (m.putObj (w.heap.size+1) (.loop (f (if jump.isNone then .ready else .done) jump)))∧
     Mv (fun k=>T k∨U k) w (m.putObj (w.heap.size+1) (.loop (f (if jump.isNone then .ready else .done) jump)))∧
     (m.putObj (w.heap.size+1) (.loop (f (if jump.isNone then .ready else .done) jump))).heap[w.heap.size+1]?=some (.loop (f (if jump.isNone then .ready else .done) jump))∧
     (m.putObj (w.heap.size+1) (.loop (f (if jump.isNone then .ready else .done) jump))).heap[w.heap.size]?=some (.deferred (some [])):=fun jump m d=>by
    have a7:=Y Om Om a5 d;have:=run_endRound (P:=P) jump a7;rw [y]at this⊢;refine⟨this,?_,World.putObj_heap_same (Array.getElem?_eq_some_iff.1 a7).1,(World.putObj_heap_other Om).trans (Y (Nat.le_refl _) Om a6 d)⟩;exact R _ _ ⟨d.os.trans G.os,d.tape.trans G.tape,d.output.trans G.output,Xt G.size d.size,fun k b s=>(d.same k (Xl b G.size) (fun hh=>by rcases hh with hh|hh;exact s (.inr hh);omega)).trans (G.same k b s)⟩
   rintro e a3 m O
   cases e with
   |normal=>
    obtain⟨d,H⟩:=O;obtain⟨J,L,M,N⟩:=Z none m d;refine⟨_,_,J,true,rfl,.inl ⟨rfl,⟨hI _ _ _ H (C _ _),L,M,N⟩,?_⟩⟩;have e1:Mv (fun k=>U k∨w.heap.size≤k) W V:=D.mono fun k _ h=>h.imp id (fun h=>by omega);have e2:Mv (fun k=>U k∨w.heap.size≤k) V q:=by rw [E];exact(a2 _ _).mono fun k _ h=> .inr Om
    have e3:Mv (fun k=>U k∨w.heap.size≤k) q m:=d.mono fun k _ h=>h.imp id (fun h=>by omega);exact((e1.trans e2).trans e3).trans ((a2 _ _).mono fun k _ h=> .inr Om)
   |ret=>
    obtain⟨d,H⟩:=O;obtain⟨J,L,M,N⟩:=Z (some .ret) m d;exact⟨_,_,J,false,rfl,.inr ⟨rfl,.ret,hIx _ _ _ H (C _ _),L,M,N⟩⟩
   |exit id=>
    obtain⟨d,H⟩:=O;obtain⟨J,L,M,N⟩:=Z (some (.exit id)) m d;exact⟨_,_,J,false,rfl,.inr ⟨rfl,.exit id,hIx _ _ _ H (C _ _),L,M,N⟩⟩
   |goto t=>
    obtain⟨d,H⟩:=O;obtain⟨J,L,M,N⟩:=Z (some (.goto t)) m d;exact⟨_,_,J,false,rfl,.inr ⟨rfl,.goto t,hIx _ _ _ H (C _ _),L,M,N⟩⟩
   |panic ch=>exact O.elim
   |outgrown=>exact O.elim
  ·have C: ∀(A:World) (o:Obj),Mv (fun k=>T k∨k=w.heap.size∨k=w.heap.size+1) A (A.putObj (w.heap.size+1) o):=fun A o=>Mv.put A _ o (.inr (.inr rfl));have R: ∀(A:World) (o:Obj),Mv (fun k=>T k∨U k) w A→Mv (fun k=>T k∨U k) w (A.putObj (w.heap.size+1) o):=fun A o h=>
    ⟨h.os,h.tape,h.output,by simpa using h.size,fun k b s=>(World.putObj_heap_other Om).trans (h.same k b s)⟩
   rintro e W2 ⟨⟨v,rfl⟩,(⟨S,j,z,b⟩|⟨c,S,j,z,b⟩)⟩
   ·exact⟨none,_,by have:=run_endLoop (P:=P) z (by rw [y];simp);rw [y]at this;exact this,hdone _ (hI _ _ _ S (C _ _)) (R _ _ j) ((World.putObj_heap_other Om).trans b)⟩
   ·exact⟨some c,_,by have:=run_endLoop (P:=P) z (by rw [y];simp);rw [y]at this;exact this,hstop c _ (hIx _ _ _ S (C _ _)) (R _ _ j) ((World.putObj_heap_other Om).trans b)⟩
def upd{α:Type}(f:Nat→α)(k:Nat)(v:α):Nat→α:=fun i=>if i=k then v else f i
def rowv(n:Nat)(f:Nat→Value):Array Value:=Array.ofFn (n:=n) fun i=>f i.1
@[go_sem, simp] theorem QY(n:Nat)(f:Nat→Value):(rowv n f).size=n:=by simp [rowv]
theorem QM(n:Nat)(f:Nat→Value)(i:Nat):(rowv n f)[i]?=if i<n then some (f i)else none:=by
 unfold rowv;simp [Array.getElem?_ofFn]
theorem QhA(n:Nat)(f:Nat→Value)(k:Nat)(v:Value):(rowv n f).setIfInBounds k v=rowv n (upd f k v):=by
 apply Array.ext (by simp)
 intro i a b;simp only [rowv,upd,Array.getElem_setIfInBounds,Array.getElem_ofFn]
 by_cases h:k=i
 ·subst h;simp
 ·rw [if_neg (fun e=>h e.symm),Array.getElem_setIfInBounds_ne (by simpa [rowv]using a) h];simp
theorem QH(n:Nat)(f g:Nat→Value)(h: ∀i,i<n→f i=g i):rowv n f=rowv n g:=by
 apply Array.ext (by simp)
 intro i a b;simp at a;simp [rowv,h i a]
def Qc(w:World)(b:Nat):Array Value:=match w.heap[b]? with|some (.cells cs _ _)=>cs|_=>#[]
theorem Zn(w:World)(cs:Array Value)(t:TypeId)(fr:Nat×Nat):Qc (w.alloc (.cells cs t fr)) w.heap.size=cs:=by
 unfold Qc;rw [World.alloc_heap_new]
theorem Qf{b:Nat}(h:w'.heap[b]?=w.heap[b]?):Qc w' b=Qc w b:=by unfold Qc;rw [h]
theorem Qa(w:World)(b i:Nat):w.cell? ⟨b,i,none⟩=(Qc w b)[i]?:=by
 unfold Qc World.cell?
 cases h:w.heap[b]? with
 |none=>simp
 |some o=>cases o<;>simp
theorem YA(w:World)(b i:Nat)(v:Value)(b':Nat):Qc (w.setCell ⟨b,i,none⟩ v) b'=if b'=b then(Qc w b).setIfInBounds i v else Qc w b':=by
 unfold Qc World.setCell;simp only [Array.getElem?_modify]
 by_cases h:b'=b
 ·subst h;simp only [if_true]
  cases a:w.heap[b']? with
  |none=>simp
  |some o=>cases o<;>simp
 ·rw [if_neg (fun e=>h e.symm),if_neg h]
theorem Mv.of_grown{row:Option Nat}(h:A.grownBy B row)(hr: ∀r,row=some r→C r∨A.heap.size≤r):Mv C A B:=
 ⟨h.os,h.tape,h.output,h.size,fun k hk hc=>h.block k hk (fun e=>by rcases hr k e.symm with h|h;exact hc h;omega)⟩
theorem Qj{b:Nat}{t:TypeId}{v:Value}(h:Boxed A b t v)(hm:Mv C A B)(hb: ¬C b):Boxed B b t v:=
 (hm.same b h.lt hb).trans h
theorem Qw{size:Nat}{v:Value}{n:Nat}(h:A.ownsRow base e size v n xs)(hm:Mv C A B)(hc: ∀k,base≤k→ ¬C k):B.ownsRow base e size v n xs:=by
 refine⟨h.1,?_⟩;rcases h.2 with h|⟨g,cap,cur,rfl,hg,hgb,h1,h2,h3,h4⟩
 ·exact .inl h
 ·exact .inr ⟨g,cap,cur,rfl,hg,(hm.same g (Array.getElem?_eq_some_iff.1 hgb).1 (hc g hg)).trans hgb,h1,h2,h3,h4⟩
theorem Qi{size:Nat}{v:Value}{n:Nat}(h:A.ownsRow base e size v n xs): ∀r,v.ownBlock=some r→base≤r:=by
 intro r a;rcases h.2 with⟨rfl,_⟩|⟨g,cap,cur,rfl,hg,_⟩
 ·cases a
 ·simp only [Value.ownBlock,Option.some.injEq]at a;omega
theorem QA{base':Nat}{size:Nat}{v:Value}{n:Nat}(h:A.ownsRow base e size v n xs)(hb:base'≤base):A.ownsRow base' e size v n xs:=by
 refine⟨h.1,?_⟩;rcases h.2 with h|⟨g,cap,cur,rfl,hg,r⟩
 ·exact .inl h
 ·exact .inr ⟨g,cap,cur,rfl,Om,r⟩
theorem Qfi{size:Nat}{v:Value}{n:Nat}(h:A.ownsRow base e size v n xs): ∃p n c,v= .slice p n c:=by
 rcases h.2 with⟨rfl,_⟩|⟨g,cap,cur,rfl,_⟩<;>exact⟨_,_,_,rfl⟩
def Qs(w:World)(b:Nat):Nat×Nat:=match w.heap[b]? with|some (.cells _ _ fr)=>fr|_=>(0,0)
theorem Y7(w:World)(b i:Nat):w.frozen? ⟨b,i,none⟩=(decide ((Qs w b).1≤i)&&decide (i<(Qs w b).2)):=by
 unfold Qs World.frozen?
 cases h:w.heap[b]? with
 |none=>simp
 |some o=>cases o<;>simp
theorem Ql{b:Nat}(h:Qs w b=(0,0))(i:Nat):w.frozen? ⟨b,i,none⟩=false:=by rw [Y7,h];simp
@[go_sem] theorem QuH(w:World)(cs:Array Value)(t:TypeId)(b:Nat):Qs (w.alloc (.cells cs t)) b=if b=w.heap.size then(0,0)else Qs w b:=by
 by_cases h:b=w.heap.size
 ·subst h;rw [if_pos rfl];unfold Qs;rw [World.alloc_heap_new]
 ·rw [if_neg h];unfold Qs
  by_cases a:b<w.heap.size
  ·rw [Below.heap_alloc _ _ _ a]
  ·rw [Array.getElem?_eq_none (by simp;omega),Array.getElem?_eq_none Om]
@[go_sem] theorem Qwp(w:World)(b:Nat):Qs w.drew b=Qs w b:=rfl
@[go_sem] theorem QuI(w:World)(n b:Nat):Qs (w.drewN n) b=Qs w b:=rfl
@[go_sem] theorem QR(w:World)(b' i:Nat)(v:Value)(b:Nat):Qs (w.setCell ⟨b',i,none⟩ v) b=Qs w b:=by
 unfold Qs World.setCell;simp only [Array.getElem?_modify]
 by_cases h:b'=b
 ·subst h;simp only [if_true]
  cases a:w.heap[b']? with
  |none=>simp
  |some o=>cases o<;>simp
 ·rw [if_neg h]
@[go_sem] theorem Qd8(w:World)(cs:Array Value)(t:TypeId)(b:Nat):Qc (w.alloc (.cells cs t)) b=if b=w.heap.size then cs else Qc w b:=by
 by_cases h:b=w.heap.size
 ·subst h;rw [Zn];simp
 ·rw [if_neg h];unfold Qc
  by_cases a:b<w.heap.size
  ·rw [Below.heap_alloc _ _ _ a]
  ·rw [Array.getElem?_eq_none (by simp;omega),Array.getElem?_eq_none Om]
@[go_sem] theorem Qwq(w:World)(b:Nat):Qc w.drew b=Qc w b:=rfl
@[go_sem] theorem QuJ(w:World)(n b:Nat):Qc (w.drewN n) b=Qc w b:=rfl
attribute [go_sem] YA
def Jz(w:World)(b:Nat)(cs:Array Value):World:=w.setCells b 0 cs.toList
theorem Za(b:Nat): ∀(vs:List Value) (o:Nat) (w:World),(w.setCells b o vs).heap.size=w.heap.size∧(∀k,k≠b→(w.setCells b o vs).heap[k]?=w.heap[k]?)∧(w.setCells b o vs).os=w.os∧(w.setCells b o vs).tape=w.tape∧(w.setCells b o vs).output=w.output∧Qs (w.setCells b o vs) b=Qs w b
 | [],_,_=>⟨rfl,fun _ _=>rfl,rfl,rfl,rfl,rfl⟩
 |v::r,o,w=>by
  rw [World.setCells];obtain⟨a,c,d,f,g,h⟩:=Za b r (o+1) (w.setCell ⟨b,o,none⟩ v);refine⟨by rw [a];simp [World.setCell],fun k hk=> ?_,d,f,g,by rw [h,QR]⟩;rw [c k hk];simp only [World.setCell,Array.getElem?_modify];rw [if_neg (fun e=>hk e.symm)]
@[go_sem] theorem Qdy(w:World)(b:Nat)(cs:Array Value):(Jz w b cs).heap.size=w.heap.size:=(Za b _ 0 w).1
theorem QaJ(w:World)(b:Nat)(cs:Array Value)(k:Nat)(h:k≠b):(Jz w b cs).heap[k]?=w.heap[k]?:=(Za b _ 0 w).2.1 k h
theorem JU(b:Nat): ∀(vs:List Value) (o:Nat) (w:World),Qc (w.setCells b o vs) b=(vs.zipIdx o).foldl (fun cs x=>cs.setIfInBounds x.2 x.1) (Qc w b)
 | [],_,_=>rfl
 |v::r,o,w=>by
  rw [World.setCells,JU b r (o+1),YA,if_pos rfl];rfl
theorem Qd9(vs:List Value): ∀(o:Nat) (cs:Array Value) (i:Nat),((vs.zipIdx o).foldl (fun cs x=>cs.setIfInBounds x.2 x.1) cs)[i]?=if o≤i∧i<o+vs.length∧i<cs.size then vs[i- o]? else cs[i]?:=by
 induction vs with
 |nil=>intro o cs i;rw [if_neg (by simp;omega)];rfl
 |cons v r ih=>
  intro o cs i;simp only [List.zipIdx_cons,List.foldl_cons];rw [ih]
  by_cases b:i=o
  ·subst b;rw [if_neg Om]
   by_cases a:i<cs.size
   ·rw [if_pos ⟨Nat.le_refl _,by simp,a⟩];simp [a]
   ·rw [if_neg Om,Array.getElem?_eq_none (by simpa using a),Array.getElem?_eq_none Om]
  ·rw [Array.getElem?_setIfInBounds_ne (fun e=>b e.symm)];simp only [Array.size_setIfInBounds,List.length_cons]
   by_cases h:o+1≤i∧i<o+1+r.length∧i<cs.size
   ·rw [if_pos h,if_pos Om];obtain⟨k,rfl⟩: ∃k,i=o+1+k:=⟨i- (o+1),Om⟩;rw [show o+1+k- (o+1)=k by omega,show o+1+k- o=k+1 by omega,List.getElem?_cons_succ]
   ·rw [if_neg h,if_neg Om]
theorem J0(w:World)(b:Nat)(cs:Array Value)(h:(Qc w b).size=cs.size):Qc (Jz w b cs) b=cs:=by
 unfold Jz;rw [JU]
 apply Array.ext_getElem?
 intro i;rw [Qd9]
 by_cases a:i<cs.size
 ·rw [if_pos ⟨Nat.zero_le _,by simpa using a,Om⟩];simp
 ·rw [if_neg (by simp;omega),Array.getElem?_eq_none Om,Array.getElem?_eq_none Om]
theorem Qch(w:World)(b b':Nat)(cs:Array Value)(h:b'≠b):Qc (Jz w b cs) b'=Qc w b':=Qf (QaJ w b cs b' h)
open Classical in
@[go_sem] theorem QtG(w:World)(b b':Nat)(cs:Array Value):Qc (Jz w b cs) b'=if b'=b then(if(Qc w b).size=cs.size then cs else Qc (Jz w b cs) b)else Qc w b':=by
 by_cases h:b'=b
 ·subst h;rw [if_pos rfl];split
  ·exact J0 _ _ _ ‹_›
  ·rfl
 ·rw [if_neg h,Qch _ _ _ _ h]
@[go_sem] theorem QhB(w:World)(b b':Nat)(cs:Array Value):Qs (Jz w b cs) b'=Qs w b':=by
 by_cases h:b'=b
 ·subst h;exact(Za b' _ 0 w).2.2.2.2.2
 ·unfold Qs;rw [QaJ _ _ _ _ h]
@[go_sem] theorem Qwr(w:World)(b b':Nat)(cs:Array Value):Lt b' (Jz w b cs)=Lt b' w:=by unfold Lt;rw [Qdy]
@[go_sem] theorem QrH(w:World)(b b' i:Nat)(cs:Array Value):(Jz w b cs).frozen? ⟨b',i,none⟩=w.frozen? ⟨b',i,none⟩:=by rw [Y7,Y7,QhB]
theorem Ext.sr{b:Nat}(cs:Array Value)(hp:w.heap.size≤b)(h:Ext w W):Ext w (Jz W b cs):=
 let s:=Za b cs.toList 0 W
 h.trans ⟨s.2.2.1,s.2.2.2.1,s.2.2.2.2.1,by rw [Qdy];exact Nat.le_refl _,fun k hk=>QaJ W b cs k Om⟩
def QK(cs:Array Value):Prop:=cs.all (·.oneCell')=true
def Qb:Value→Nat| .pointer (some a)=>a.block|_=>0
@[go_sem] theorem Qws(a:Addr):Qb (.pointer (some a))=a.block:=rfl
def Qxn(w:World)(b:Nat):Array Value:=Qc w b
def Qxo(w:World)(b:Nat):Nat×Nat:=Qs w b
open Classical in
abbrev Qxp(W w':World):Prop:=(∀b,Qc w' b=if Lt b W then Qc W b else Qxn w' b)∧(∀b,Qs w' b=if Lt b W then Qs W b else Qxo w' b)
theorem QtH(h:Below W.heap.size W w'):Qxp W w':=by
 refine⟨fun b=> ?_,fun b=> ?_⟩
 ·split
  ·exact Qf (h.block b ‹Lt b W›)
  ·rfl
 ·split
  ·unfold Qs;rw [h.block b ‹Lt b W›]
  ·rfl
def J1(W:World):Type:={w:World//Ext W w}
def later{W:World}(d:J1 W):World:=d.1
theorem Qt(d:J1 W):Ext W (later d):=d.2
instance {W:World}:Nonempty (J1 W):=⟨⟨W,Ext.rf W⟩⟩
open Classical in
@[go_sem] theorem QuK(d:J1 W)(b o:Nat):(later d).cell? ⟨b,o,none⟩=if Lt b W then W.cell? ⟨b,o,none⟩else QtF (later d) b o:=(QU (Qt d)).1 b o
open Classical in
@[go_sem] theorem QrM(d:J1 W)(b o:Nat):(later d).frozen? ⟨b,o,none⟩=if Lt b W then W.frozen? ⟨b,o,none⟩else Qlh (later d) b o:=(QU (Qt d)).2.1 b o
@[go_sem] theorem Qxq(d:J1 W)(b:Nat):Lt b (later d)=(Lt b W∨LtX b (later d)):=(QU (Qt d)).2.2.1 b
open Classical in
@[go_sem] theorem QuL(d:J1 W)(b:Nat):Qc (later d) b=if Lt b W then Qc W b else Qxn (later d) b:=(QtH (Qt d)).1 b
open Classical in
@[go_sem] theorem QuM(d:J1 W)(b:Nat):Qs (later d) b=if Lt b W then Qs W b else Qxo (later d) b:=(QtH (Qt d)).2 b
def Qbj(W w':World):Prop:= ∃d:J1 W,w'=later d
@[go_sem ↓ high] theorem QtI{a:Act}{K:Act→Prop}:
  Oper.quiet P o a (Qbj W) K=(∃v,(∀d:J1 W,o.quietAt P a (Qbj W) (later d) v)∧K (a.put o.dst v)):=by
 unfold Oper.quiet;refine propext (exists_congr fun v=>and_congr_left' ⟨fun h d=>h _ ⟨d,rfl⟩,fun h w hw=> ?_⟩);obtain⟨d,rfl⟩:=hw;exact h d
theorem Qk{id:Nat}{Q:Exit→Act→World→Prop}{a:Act}{l:List Oper}(hm:P.follows .mixedOrders=true)(hB:Region.lexB .any l.toArray=true)
  (h:wpQuiet P l.toArray (Qbj w) (fun a'=> ∀d:J1 w,Q .normal a' (later d)) l a):(Code.region id l.toArray true).wp P Q a w:=by
 refine wp_region_quiet (C:=Qbj w) hm hB ⟨⟨w.drew,Ext.dr (Ext.rf w)⟩,rfl⟩ ?_;have e:(fun a'=> ∀w',Qbj w w'→Q .normal a' w')=(fun a'=> ∀d:J1 w,Q .normal a' (later d)):=by
  funext a'
  exact propext ⟨fun h d=>h _ ⟨d,rfl⟩,fun h w' ⟨d,hd⟩=>by rw [hd];exact h d⟩
 rw [e];simpa using h
theorem Zo{d:J1 W}{v:Value}(h:Calls P f args (later d) fun e w'=>e= .returned v∧Ext (later d) w'):
  Calls P f args (later d) fun e w''=>e= .returned v∧Qbj W w'':=
 h.mono fun _ w' ⟨he,hx⟩=>⟨he,⟨w',(Qt d).tr hx⟩,rfl⟩
section
variable {P:Program} {ops:Array Oper} {md:Region.Mode}
def xUpon(P:Program)(N:Value→World→Prop):Result Next→Prop
 | .ok (.value u) w'=>N u w'
 | .ok .skip w'=>N undef w'
 | .ok (.enter f args) w'=>Calls P f args w' (fun e w''=> ∃v,e= .returned v∧N v w'')
 |_=>False
theorem Qea{N N':Value→World→Prop}(h: ∀v w,N v w→N' v w): ∀r:Result Next,xUpon P N r→xUpon P N' r
 | .ok (.value u) w',hh=>h _ _ hh
 | .ok .skip w',hh=>h _ _ hh
 | .ok (.enter f args) w',hh=>Calls.mono hh fun e w'' ⟨v,h1,h2⟩=>⟨v,h1,h _ _ h2⟩
def xOp(P:Program)(ops:Array Oper)(i:Nat)(K:Act→World→Prop)(a:Act)(w:World):Prop:=
 match ops[i]? with
 |none=>K a w
 |some o=>if Region.wanted o (yielded ops a.tmps)=true then xUpon P (fun v w'=>K (a.put o.dst v) w') ((execOp a.eval o).run P w)else K (a.put o.dst undef) w
theorem QhC{a:Act}{K':Act→World→Prop}(h: ∀a w,K a w→K' a w)(hh:xOp P ops i K a w):xOp P ops i K' a w:=by
 unfold xOp at*
 split
 ·exact h _ _ (by simpa [*]using hh)
 ·rename_i o ho
  simp only [ho]at hh
  split
  ·rename_i hw;simp only [hw,if_true]at hh;exact Qea (fun v w' h1=>h _ _ h1) _ hh
  ·rename_i hw;simp only [hw]at hh;exact h _ _ hh
theorem QhD{a:Act}{Q:Exit→Act→World→Prop}(hh:xOp P ops i K a w):wpOp P ops Q i K a w:=by
 unfold xOp at hh;unfold wpOp
 split
 ·rename_i ho;simp only [ho]at hh;exact hh
 ·rename_i o ho
  simp only [ho]at hh
  split
  ·rename_i hw
   simp only [hw,if_true]at hh
   left
   unfold Oper.wp;generalize (execOp a.eval o).run P w=r at*
   cases r with
   |ok n w'=>
    cases n<;>simp only [xUpon]at hh<;>simp only [Oper.upon]
    case value u=>exact hh
    case skip=>exact hh
    case enter f args=>exact hh.mono fun e w'' ⟨v,he,hw''⟩=>by subst he;exact hw''
   |halt x w'=>simp only [xUpon]at hh
  ·rename_i hw;simp only [hw]at hh;exact hh
def Zg(P:Program)(md:Region.Mode)(ops:Array Oper)(Q:Act→World→Prop):Nat→Array Bool→Act→World→Prop
 |0,listed,a,w=>Region.ready md ops listed= []∧Q a w
 |fuel+1,listed,a,w=>(Region.ready md ops listed= []→Q a w)∧
  ∀i∈Region.ready md ops listed,xOp P ops i (fun a' w'=>Ext w w'∧Zg P md ops Q fuel (listed.setIfInBounds i true) a' w') a w
theorem Qeb{Q':Exit→Act→World→Prop}(hQ: ∀a w,Q a w→Q' .normal a w): ∀(fuel:Nat) (listed:Array Bool) (a:Act) (w:World),
  Zg P md ops Q fuel listed a w→wpAny P md ops Q' fuel listed a w
 |0,_,_,_,h=>⟨h.1,hQ _ _ h.2⟩
 |fuel+1,_,_,_,h=>⟨fun h0=>hQ _ _ (h.1 h0),fun i hi=>QhD (QhC (fun a' w' h1=>Qeb hQ fuel _ a' w' h1.2) (h.2 i hi))⟩
def YY(P:Program)(ops:Array Oper)(w:World)(o:Oper)(v:Value)(a:Act):Prop:=
 (Region.wanted o (yielded ops a.tmps)=true∧ ∀w',Ext w w'→(execOp a.eval o).run P w'= .ok (.value v) w')∨(Region.wanted o (yielded ops a.tmps)=false∧v=undef)∨
  (Region.wanted o (yielded ops a.tmps)=true∧ ∃f args,∀w',Ext w w'→(execOp a.eval o).run P w'= .ok (.enter f args) w'∧Calls P f args w' fun e w''=>e= .returned v∧w''=w')
theorem YY.later{v:Value}{a:Act}(h:YY P ops w o v a)(e:Ext w w'):YY P ops w' o v a:=by
 rcases h with⟨h1,h2⟩|h|⟨h1,f,args,h2⟩
 ·exact .inl ⟨h1,fun w2 e2=>h2 w2 (e.tr e2)⟩
 ·exact .inr (.inl h)
 ·exact .inr (.inr ⟨h1,f,args,fun w2 e2=>h2 w2 (e.tr e2)⟩)
theorem YY.xOp{v:Value}{a:Act}(hi:ops[i]?=some o)(hy:YY P ops w o v a)(h:K (a.put o.dst v) w):xOp P ops i K a w:=by
 unfold Go.Proofs.YtpeonbaodnmlnaaGreat.xOp;simp only [hi];rcases hy with⟨hw,hv⟩|⟨hw,rfl⟩|⟨hw,f,args,hv⟩
 ·simp only [hw,if_true,hv w (Ext.rf _),xUpon];exact h
 ·simp only [hw,Bool.false_eq_true,if_false];exact h
 ·simp only [hw,if_true,(hv w (Ext.rf _)).1,xUpon];exact(hv w (Ext.rf _)).2.mono fun e w'' ⟨h1,h2⟩=>⟨v,h1,by rw [h2];exact h⟩
theorem QrN{j:Nat}{oj:Oper}{v:Value}(hj:ops[j]?=some oj)(hap:oi.apart ops oj=true)
  (hsi: ∀cs b,oi.op≠ .select cs b)(hsj: ∀cs b,oj.op≠ .select cs b){a:Act}
  (hy:YY P ops w oi v a)(h:xOp P ops j K (a.put oi.dst v) w):
  xOp P ops j (fun a' w'=>YY P ops w oi v a'∧K (a'.put oi.dst v) w') a w:=by
 obtain⟨d,e,f⟩:=Oper.apart_spec hap;have c: ∀u,YY P ops w oi v (a.put oj.dst u):=fun u=>by
  unfold YY at*;rw [execOp_put oi hsi a oj.dst u f,wanted_put oi a oj.dst u f];exact hy
 unfold xOp at*;simp only [hj]at*;rw [wanted_put oj a oi.dst v d]at h
 split
 ·rename_i hw
  simp only [hw,if_true]at h;rw [execOp_put oj hsj a oi.dst v d]at h;exact Qea (fun u w' h4=>⟨c u,by rw [←Act.put_comm a v u e];exact h4⟩) _ h
 ·rename_i hw
  simp only [hw]at h;exact⟨c _,by rw [←Act.put_comm a v undef e];exact h⟩
theorem Qci{v:Value}(hi:ops[i]?=some oi)(hsel: ∀(j:Nat) (o:Oper) cs b,ops[j]?=some o→o.op≠ .select cs b):
  ∀(fuel:Nat) (listed:Array Bool) (a:Act) (w:World),
   (∀j oj,ops[j]?=some oj→j≠i→listed.getD j true=false→(∀e∈oj.after,Region.binds md e=true→e.on≠i)→oi.apart ops oj=true)→
   i∈Region.ready md ops listed→YY P ops w oi v a→
   Zg P md ops Q fuel (listed.setIfInBounds i true) (a.put oi.dst v) w→Zg P md ops Q (fuel+1) listed a w:=by
 intro fuel
 induction fuel with
 |zero=>
  intro listed a w _ f g H;refine⟨fun h=>(by rw [h]at f;cases f),fun j hj=> ?_⟩
  by_cases c:j=i
  ·subst c;exact g.xOp hi ⟨Ext.rf _,H⟩
  ·have:=ready_mono hj c;rw [H.1]at this
   cases this
 |succ fuel ih=>
  intro listed a w p f g H;refine⟨fun h=>(by rw [h]at f;cases f),fun j hj=> ?_⟩
  by_cases c:j=i
  ·subst c;exact g.xOp hi ⟨Ext.rf _,H⟩
  ·have d:=H.2 j (ready_mono hj c);obtain⟨q,oj,l,hall⟩:=mem_ready.1 hj;have r: ∀e∈oj.after,Region.binds md e=true→e.on≠i:=fun e he hb heq=>by
    have d:=hall e he hb;have m:=(mem_ready.1 f).1;rw [heq]at d;rcases Nat.lt_or_ge i listed.size with h'|h'
    ·simp [h']at m d;rw [m]at d;cases d
    ·simp [Array.getElem?_eq_none h']at d
   have s:=QrN l (p j oj l c q r) (fun cs b=>hsel i oi cs b hi) (fun cs b=>hsel j oj cs b l) g d;have t: ∀k ok,ops[k]?=some ok→k≠i→(listed.setIfInBounds j true).getD k true=false→
     (∀e∈ok.after,Region.binds md e=true→e.on≠i)→oi.apart ops ok=true:=fun k ok hk hki hun hno=>by
    refine p k ok hk hki ?_ hno
    by_cases n:j=k
    ·subst n;exact q
    ·rw [getD_set_ne true n]at hun;exact hun
   refine QhC (fun a' w' h3=>⟨h3.2.1,ih (listed.setIfInBounds j true) a' w' t (ready_mono f (Ne.symm c)) (h3.1.later h3.2.1) ?_⟩) s;have u:=h3.2.2;rw [Array.setIfInBounds_comm _ _ c];exact u
theorem Qxr{n:Nat}{v:Value}{a:Act}(hi:ops[k]?=some oi)(hs:Region.noSelect ops=true)
  (hf:Region.free md ops listed k=true)(hr:(Region.ready md ops listed).contains k=true)(hw:Region.wanted oi (yielded ops a.tmps)=true)
  (he: ∀w',Ext w w'→(execOp a.eval oi).run P w'= .ok (.enter f args) w')(hc: ∀w',Ext w w'→Calls P f args w' fun e w''=>e= .returned v∧w''=w')
  (H:Zg P md ops Q fuel (listed.setIfInBounds k true) (a.put oi.dst v) w):Zg P md ops Q (fuel+1) listed a w:=
 Qci hi (Region.noSelect_spec hs) fuel listed a w (Region.free_spec hi hf) (by simpa using hr) (.inr (.inr ⟨hw,f,args,fun w' h=>⟨he w' h,hc w' h⟩⟩)) H
theorem QhE{a:Act}(hr:Region.ready md ops listed= [i])
  (h:xOp P ops i (fun a' w'=>Ext w w'∧Zg P md ops Q fuel (listed.setIfInBounds i true) a' w') a w):Zg P md ops Q (fuel+1) listed a w:=
 by
  refine⟨fun h0=> ?_,fun j hj=> ?_⟩
  ·rw [hr]at h0;cases h0
  ·rw [hr]at hj;obtain rfl:j=i:=by simpa using hj
   exact h
theorem Qxs{v:Value}{a:Act}(hi:ops[i]?=some oi)(hs:Region.noSelect ops=true)
  (hf:Region.free md ops listed i=true)(hr:(Region.ready md ops listed).contains i=true)(hw:Region.wanted oi (yielded ops a.tmps)=true)
  (hy: ∀w',Ext w w'→(execOp a.eval oi).run P w'= .ok (.value v) w')
  (H:Zg P md ops Q fuel (listed.setIfInBounds i true) (a.put oi.dst v) w):Zg P md ops Q (fuel+1) listed a w:=
 Qci hi (Region.noSelect_spec hs) fuel listed a w (Region.free_spec hi hf) (by simpa using hr) (.inl ⟨hw,hy⟩) H
theorem QtJ{a:Act}(hi:ops[i]?=some oi)(hr:Region.ready md ops listed= [i])(hw:Region.wanted oi (yielded ops a.tmps)=true)
  (H:xUpon P (fun v w'=>Ext w w'∧Zg P md ops Q fuel (listed.setIfInBounds i true) (a.put oi.dst v) w') ((execOp a.eval oi).run P w)):Zg P md ops Q (fuel+1) listed a w:=
 QhE hr (by unfold xOp;simp only [hi,hw,if_true];exact H)
theorem Qxt{a:Act}(hr:Region.ready md ops listed= [])(H:Q a w):Zg P md ops Q fuel listed a w:=by
 cases fuel with
 |zero=>exact⟨hr,H⟩
 |succ n=>exact⟨fun _=>H,fun i hi=>by rw [hr]at hi;cases hi⟩
theorem QhF{id:Nat}{Q:Exit→Act→World→Prop}{a:Act}(hm:P.follows .mixedOrders=true)
  (h:Zg P .any ops (fun a w=>Q .normal a w) ops.size (Array.replicate ops.size false) a w.drew):(Code.region id ops true).wp P Q a w:=
 wp_region_any hm (Qeb (fun _ _ h=>h) _ _ _ _ h)
theorem Qxu{v:Value}{a:Act}(hi:ops[i]?=some oi)(hr:Region.ready md ops listed= [i])(hw:Region.wanted oi (yielded ops a.tmps)=true)
  (he:(execOp a.eval oi).run P w= .ok (.enter f args) w)(hc:Calls P f args w fun e w'=>e= .returned v∧Ext w w')
  (H: ∀w',Ext w w'→Zg P md ops Q fuel (listed.setIfInBounds i true) (a.put oi.dst v) w'):Zg P md ops Q (fuel+1) listed a w:=by
 refine QtJ hi hr hw ?_;rw [he];exact hc.mono fun e w' h=>⟨v,h.1,h.2,H w' h.2⟩
theorem Qxv{v:Value}{a:Act}(hi:ops[i]?=some oi)(hr:Region.ready md ops listed= [i])(hw:Region.wanted oi (yielded ops a.tmps)=true)
  (he:(execOp a.eval oi).run P w= .ok (.value v) w1)(hE:Ext w w1)
  (H:Zg P md ops Q fuel (listed.setIfInBounds i true) (a.put oi.dst v) w1):Zg P md ops Q (fuel+1) listed a w:=by
 refine QtJ hi hr hw ?_;rw [he];exact⟨hE,H⟩
end
def Qh(n:Nat):Code→Option (Array Oper)
 | .region id ops _=>if id=n then some ops else none
 | .seq a b=>match Qh n a with|some o=>some o|none=>Qh n b
 | .cond _ a b=>match Qh n a with|some o=>some o|none=>Qh n b
 | .block _ b=>Qh n b
 | .loop b=>Qh n b
 | .rangeFunc _ _ a b=>match Qh n a with|some o=>some o|none=>Qh n b
 | .scope b=>Qh n b
 |_=>none
def lst(n k:Nat):Array Bool:=((List.range n).map fun j=>decide (j<k)).toArray
theorem JJ(n k:Nat):(lst n k).setIfInBounds k true=lst n (k+1):=by
 unfold lst;refine Array.ext_getElem? fun i=> ?_;rw [Array.getElem?_setIfInBounds]
 by_cases a:i<n
 ·by_cases h:k=i
  ·subst h;simp [a]
  ·simp [h,a,show(i<k+1)=(i<k)from propext ⟨fun h=>by omega,fun h=>by omega⟩]
 ·by_cases h:k=i
  ·subst h;simp [a]
  ·simp [h,a]
theorem Qec(n:Nat):Array.replicate n false=lst n 0:=by
 unfold lst;refine Array.ext_getElem? fun i=> ?_
 by_cases a:i<n<;>simp [a,Array.getElem?_replicate]
def upX(ops:Array Oper)(listed:Array Bool)(k:Nat):Bool:=decide (k<ops.size)&&(!listed.getD k true&&((ops[k]?).map (·.after.all fun e=>!Region.binds .any e||listed.getD e.on false)).getD false)
theorem ZZ{ops:Array Oper}(h:upX ops listed k=true):(Region.ready .any ops listed).contains k=true:=by
 unfold upX at h;rw [Bool.and_eq_true,decide_eq_true_eq]at h;rw [List.contains_iff_mem];unfold Region.ready;rw [List.mem_filter,List.mem_range];exact h
def okX(ops:Array Oper)(n k:Nat):Bool:=Region.free .any ops (lst n k) k&&upX ops (lst n k) k
def Qjh(ops:Array Oper)(n:Nat)(l:List Nat)(lo hi:Nat):Bool:=(List.range hi).all fun k=>decide (k<lo)||l.contains k||okX ops n k
theorem Qms{ops:Array Oper}{n lo hi:Nat}{l:List Nat}(h:Qjh ops n l lo hi=true)(h1:lo≤k)(h2:k<hi)(h3:l.contains k=false):okX ops n k=true:=by
 unfold Qjh at h;have:=List.all_eq_true.1 h k (List.mem_range.2 h2);rw [h3,decide_eq_false Om]at this;simpa using this
theorem takeL{P:Program}{ops:Array Oper}{n:Nat}{v:Value}{a:Act}(hs:Region.noSelect ops=true)(hok:okX ops n k=true)(hi:ops[k]?=some oi)(hw:Region.wanted oi (yielded ops a.tmps)=true)
  (hy: ∀w',Ext w w'→(execOp a.eval oi).run P w'= .ok (.value v) w')
  (H:Zg P .any ops Q fuel (lst n (k+1)) (a.put oi.dst v) w):Zg P .any ops Q (fuel+1) (lst n k) a w:=by
 unfold okX at hok;rw [Bool.and_eq_true]at hok;refine Qxs hi hs hok.1 (ZZ hok.2) hw hy ?_;rw [JJ];exact H
theorem Qxw{P:Program}{ops:Array Oper}{n:Nat}{v:Value}{a:Act}(hr:Region.ready .any ops (lst n k)= [k])(hi:ops[k]?=some oi)(hw:Region.wanted oi (yielded ops a.tmps)=true)
  (he:(execOp a.eval oi).run P w= .ok (.enter f args) w)(hc:Calls P f args w fun e w'=>e= .returned v∧Ext w w')
  (H: ∀w',Ext w w'→Zg P .any ops Q fuel (lst n (k+1)) (a.put oi.dst v) w'):Zg P .any ops Q (fuel+1) (lst n k) a w:=
 Qxu hi hr hw he hc fun w' h=>by rw [JJ];exact H w' h
theorem Qxx{P:Program}{ops:Array Oper}{n:Nat}{v:Value}{a:Act}(hr:Region.ready .any ops (lst n k)= [k])(hi:ops[k]?=some oi)(hw:Region.wanted oi (yielded ops a.tmps)=true)
  (he:(execOp a.eval oi).run P w= .ok (.value v) w1)(hE:Ext w w1)
  (H:Zg P .any ops Q fuel (lst n (k+1)) (a.put oi.dst v) w1):Zg P .any ops Q (fuel+1) (lst n k) a w:=
 Qxv hi hr hw he hE (by rw [JJ];exact H)
theorem Qgk{P:Program}{ops:Array Oper}{n:Nat}{v:Value}{a:Act}(hs:Region.noSelect ops=true)(hok:okX ops n k=true)(hi:ops[k]?=some oi)(hw:Region.wanted oi (yielded ops a.tmps)=true)
  (he: ∀w',Ext w w'→(execOp a.eval oi).run P w'= .ok (.enter f args) w')(hc: ∀w',Ext w w'→Calls P f args w' fun e w''=>e= .returned v∧w''=w')
  (H:Zg P .any ops Q fuel (lst n (k+1)) (a.put oi.dst v) w):Zg P .any ops Q (fuel+1) (lst n k) a w:=by
 unfold okX at hok;rw [Bool.and_eq_true]at hok;refine Qxr (n:=n) hi hs hok.1 (ZZ hok.2) hw he hc ?_;rw [JJ];exact H
theorem Qxy{P:Program}{ops E:Array Oper}{n:Nat}{a:Act}{R:Array Oper→Prop}(h:ops=E)(hR:R E)(hf:ops.size=n)
  (H:R ops→Zg P .any ops Q n (lst n 0) a w):Zg P .any ops Q ops.size (Array.replicate ops.size false) a w:=by
 rw [hf,Qec];exact H (h▸hR)
structure Tu where
 a:Int
 b:Int
 c:Int
 d:Int
 deriving DecidableEq
abbrev tu(a b c d:Int):Value:= .agg #[.int .u32 a,.int .u32 b,.int .u16 c,.int .u16 d]
abbrev Tu.v(t:Tu):Value:=tu t.a t.b t.c t.d
def cmpI(x y:Int):Int:=if x<y then-1 else if y<x then 1 else 0
def orR(f:Nat→Int):Nat→Int
 |0=>0
 |r+1=>if f (3- r)=0 then orR f r else f (3- r)
def QrO(x y z t:Int):Nat→Int
 |0=>x
 |1=>y
 |2=>z
 |_=>t
def YQ(s t:Tu):Int:=orR (QrO (cmpI s.a t.a) (cmpI s.b t.b) (cmpI s.c t.c) (cmpI s.d t.d)) 4
theorem QrP(x:Int)(w:World):Calls Tryz.prog 221 #[.int .u32 x] w fun e w'=>e= .returned (.bool false)∧w=w':=by
 go_enter Tryz.func221,Tryz.ntmps221
 go_wp2;go_ret;exact⟨Qm (by simp),rfl⟩
theorem Qdz(x y:Int)(w:World):Calls Tryz.prog 181 #[.int .u32 x,.int .u32 y] w fun e w'=>e= .returned (.int .i64 (cmpI x y))∧w=w':=by
 go_enter Tryz.func181,Tryz.ntmps181
 go_wp2_with (go_at_call 221;(refine(QrP _ _).mono ?_);rintro e w' ⟨rfl,rfl⟩)
 all_goals(go_ret;refine⟨?_,rfl⟩)
 all_goals(refine congrArg (fun z=>Ending.returned (.int .i64 z)) ?_;unfold cmpI;first|(simp [*];done)|(simp_all;omega)|(split<;>(try split)<;>omega))
theorem Qag{B O:Nat}{a:Int}(h0:w.cell? ⟨B,O,none⟩=some (.int .u32 a))(hl:Lt B w)
  (hx:ρ x= .pointer (some ⟨B,O,none⟩)): ∀w',Ext w w'→(execOp ρ ⟨dst,.load 61 x,ty,pos,after,g⟩).run Tryz.prog w'= .ok (.value (.int .u32 a)) w':=by
 intro w' b;have h0:=(b.cell (p:=⟨B,_,none⟩) hl).trans h0;simp only [execOp,hx];go_simp
theorem QrQ(x:Int)(w:World):Calls Tryz.prog 222 #[.int .u16 x] w fun e w'=>e= .returned (.bool false)∧w=w':=by
 go_enter Tryz.func222,Tryz.ntmps222
 go_wp2;go_ret;exact⟨Qm (by simp),rfl⟩
theorem QdA(x y:Int)(w:World):Calls Tryz.prog 182 #[.int .u16 x,.int .u16 y] w fun e w'=>e= .returned (.int .i64 (cmpI x y))∧w=w':=by
 go_enter Tryz.func182,Tryz.ntmps182
 go_wp2_with (go_at_call 222;(refine(QrQ _ _).mono ?_);rintro e w' ⟨rfl,rfl⟩)
 all_goals(go_ret;refine⟨?_,rfl⟩)
 all_goals(refine congrArg (fun z=>Ending.returned (.int .i64 z)) ?_;unfold cmpI;first|(simp [*];done)|(simp_all;omega)|(split<;>(try split)<;>omega))
theorem Qah{B O:Nat}{a:Int}(h0:w.cell? ⟨B,O,none⟩=some (.int .u16 a))(hl:Lt B w)
  (hx:ρ x= .pointer (some ⟨B,O,none⟩)): ∀w',Ext w w'→(execOp ρ ⟨dst,.load 62 x,ty,pos,after,g⟩).run Tryz.prog w'= .ok (.value (.int .u16 a)) w':=by
 intro w' b;have h0:=(b.cell (p:=⟨B,_,none⟩) hl).trans h0;simp only [execOp,hx];go_simp
theorem QrR(x y z t:Int)(W:World):
  Cr 180 #[.slice (some ⟨W.heap.size,0,none⟩) 4 4] (W.alloc (.cells #[.int .i64 x,.int .i64 y,.int .i64 z,.int .i64 t] 3)) (.int .i64 (orR (QrO x y z t) 4)):=by
 have g: ∀j,j<4→(W.alloc (.cells #[.int .i64 x,.int .i64 y,.int .i64 z,.int .i64 t] 3)).cell? ⟨W.heap.size,j,none⟩=some (.int .i64 (QrO x y z t j)):=fun j hj=>by
  rw [Qa,Zn];obtain rfl|rfl|rfl|rfl:j=0∨j=1∨j=2∨j=3:=by omega
  all_goals rfl
 have h:=Xh g;clear g;obtain⟨f,n⟩: ∃f,QrO x y z t=f:=⟨_,rfl⟩;rw [n]at h⊢;clear n;generalize m:W.alloc (.cells #[.int .i64 x,.int .i64 y,.int .i64 z,.int .i64 t] 3)=V at*;have o:Lt W.heap.size V:=by rw [←m];simp [Lt]
 clear m;generalize W.heap.size=B at*
 go_enter Tryz.func180,Tryz.ntmps180
 go_wp2
 go_loopw [5,8] (fun _ a wr=> ∃k:Nat,k≤4∧a= .int .i64 k∧orR f 4=orR f (4- k)∧Ext V wr) (fun _ a _=>4- (intOf a).toNat)
 case atStart=>exact⟨0,Nat.zero_le _,rfl,rfl,Ext.rf _⟩
 case round=>
  obtain⟨k,C,rfl,d,e⟩:=hrel;have v:(k:Int)≤4:=by omega
  by_cases s:k<4
  ·have w:(k:Int)<4:=by omega
   have A:=(e.cell (p:=⟨B,k,none⟩) o).trans (h.out k s);have i:orR f (4- k)=(if f k=0 then orR f (4- (k+1))else f k):=by
    obtain⟨r,u⟩: ∃r,4- k=r+1:=⟨4- (k+1),Om⟩;rw [u,show 4- (k+1)=r by omega];show(if f (3- r)=0 then orR f r else f (3- r))=_;rw [show 3- r=k by omega]
   have l:=Xh (d.trans i);clear d i
   cases c:(f k==0)
   ·have q:(f k !=0)=true:=by rw [bne,c];rfl
    have b:=Xh (show orR f 4=f k by rw [l.out,if_neg (by simpa using c)]);go_wp2;go_ret;exact⟨by rw [b.out];rfl,e⟩
   ·have q:(f k !=0)=false:=by rw [bne,c];rfl
    have b:=Xh (show orR f 4=orR f (4- (k+1))by rw [l.out,if_pos (by simpa using c)]);go_wp2
    go_roundw
    case rel=>exact⟨k+1,Om,by go_num,b.out,e⟩
    case measure=>simp [intOf];omega
  ·obtain rfl:k=4:=by omega
   have b:=Xh (show orR f 4=0 from d);clear d;go_wp2;go_ret;exact⟨by rw [b.out];rfl,e⟩
def Qxz(ops:Array Oper):Prop:=Region.noSelect ops=true∧(∀k,k<23→ [20,21].contains k=false→okX ops 23 k=true)∧(∀k,[20,21].contains k=true→Region.ready .any ops (lst 23 k)= [k])∧Region.ready .any ops (lst 23 23)= []
theorem QuN:Qjh ((Tryz.f108.body.bind (Qh 1)).getD #[]) 23 [20,21] 0 23=true:=Kr
theorem QrS:Region.ready .any ((Tryz.f108.body.bind (Qh 1)).getD #[]) (lst 23 20)= [20]:=Kr
theorem QrT:Region.ready .any ((Tryz.f108.body.bind (Qh 1)).getD #[]) (lst 23 21)= [21]:=Kr
theorem QAa:Qxz ((Tryz.f108.body.bind (Qh 1)).getD #[]):=by
 refine⟨Kr,fun k hk hl=>Qms QuN (Nat.zero_le _) hk hl,fun k hk=> ?_,Kr⟩;simp only [List.contains_iff_mem,List.mem_cons,List.not_mem_nil,or_false]at hk;rcases hk with rfl|rfl
 ·exact QrS
 ·exact QrT
theorem Qgl(s t:Tu)(w:World):
  Cr 108 #[tu s.a s.b s.c s.d,tu t.a t.b t.c t.d] w (.int .i64 (YQ s t)):=by
 go_enter Tryz.func108,Tryz.ntmps108
 go_wp2_with (fail)
 obtain⟨e,i⟩: ∃e,(w.alloc (.cells #[.int .u32 s.a,.int .u32 s.b,.int .u16 s.c,.int .u16 s.d] 64)).alloc (.cells #[.int .u32 t.a,.int .u32 t.b,.int .u16 t.c,.int .u16 t.d] 64)=e:=⟨_,rfl⟩;rw [i];have G:Ext w e:=by rw [←i];exact Ext.al Ea _
 have o:Qc e w.heap.size=#[.int .u32 s.a,.int .u32 s.b,.int .u16 s.c,.int .u16 s.d]:=by rw [←i];simp [go_sem]
 have q:Qc e (w.heap.size+1)=#[.int .u32 t.a,.int .u32 t.b,.int .u16 t.c,.int .u16 t.d]:=by rw [←i];simp [go_sem]
 have j:Lt w.heap.size e:=by rw [←i];simp [Lt];try omega
 have l:Lt (w.heap.size+1) e:=by rw [←i];simp [Lt];try omega
 clear i;have r:e.cell? ⟨w.heap.size,0,none⟩=some (.int .u32 s.a):=by rw [Qa,o];rfl
 have u:e.cell? ⟨w.heap.size,1,none⟩=some (.int .u32 s.b):=by rw [Qa,o];rfl
 have x:e.cell? ⟨w.heap.size,2,none⟩=some (.int .u16 s.c):=by rw [Qa,o];rfl
 have y:e.cell? ⟨w.heap.size,3,none⟩=some (.int .u16 s.d):=by rw [Qa,o];rfl
 have z:e.cell? ⟨w.heap.size+1,0,none⟩=some (.int .u32 t.a):=by rw [Qa,q];rfl
 have B:e.cell? ⟨w.heap.size+1,1,none⟩=some (.int .u32 t.b):=by rw [Qa,q];rfl
 have C:e.cell? ⟨w.heap.size+1,2,none⟩=some (.int .u16 t.c):=by rw [Qa,q];rfl
 have D:e.cell? ⟨w.heap.size+1,3,none⟩=some (.int .u16 t.d):=by rw [Qa,q];rfl
 clear o q;refine QhF Kr ?_;obtain⟨m,i⟩: ∃m,e.drew=m:=⟨_,rfl⟩;have g:Ext e m:=by rw [←i];exact Ext.dr (Ext.rf _)
 rw [i];clear i;have r:=(g.cell (p:=⟨w.heap.size,_,none⟩) j).trans r;have u:=(g.cell (p:=⟨w.heap.size,_,none⟩) j).trans u;have x:=(g.cell (p:=⟨w.heap.size,_,none⟩) j).trans x;have y:=(g.cell (p:=⟨w.heap.size,_,none⟩) j).trans y;have z:=(g.cell (p:=⟨w.heap.size+1,_,none⟩) l).trans z;have B:=(g.cell (p:=⟨w.heap.size+1,_,none⟩) l).trans B;have C:=(g.cell (p:=⟨w.heap.size+1,_,none⟩) l).trans C;have D:=(g.cell (p:=⟨w.heap.size+1,_,none⟩) l).trans D;have j:Lt w.heap.size m:=Xl j g.size;have l:Lt (w.heap.size+1) m:=Xl l g.size;refine Qxy (n:=23) (R:=Qxz) (E:=((Tryz.f108.body.bind (Qh 1)).getD #[])) Kr QAa Kr fun hS=> ?_;refine takeL (n:=23) (k:=0) (v:= .pointer (some ⟨w.heap.size,0,none⟩)) hS.1 (hS.2.1 0 Dc Dc) rfl Kr (fun _ _=>by kernel_rfl) ?_;refine takeL (n:=23) (k:=1) (v:= .int .u32 s.a) hS.1 (hS.2.1 1 Dc Dc) rfl Kr (Qag r j Kr) ?_;refine takeL (n:=23) (k:=2) (v:= .pointer (some ⟨(w.heap.size+1),0,none⟩)) hS.1 (hS.2.1 2 Dc Dc) rfl Kr (fun _ _=>by kernel_rfl) ?_;refine takeL (n:=23) (k:=3) (v:= .int .u32 t.a) hS.1 (hS.2.1 3 Dc Dc) rfl Kr (Qag z l Kr) ?_;refine Qgk (n:=23) (k:=4) (v:= .int .i64 (cmpI s.a t.a)) (f:=181) (args:=#[.int .u32 s.a,.int .u32 t.a]) hS.1 (hS.2.1 4 Dc Dc) rfl Kr (fun _ _=>by kernel_rfl) (fun w' _=>(Qdz s.a t.a w').mono fun _ _ h=>⟨h.1,h.2.symm⟩) ?_;refine takeL (n:=23) (k:=5) (v:= .pointer (some ⟨w.heap.size,1,none⟩)) hS.1 (hS.2.1 5 Dc Dc) rfl Kr (fun _ _=>by kernel_rfl) ?_;refine takeL (n:=23) (k:=6) (v:= .int .u32 s.b) hS.1 (hS.2.1 6 Dc Dc) rfl Kr (Qag u j Kr) ?_;refine takeL (n:=23) (k:=7) (v:= .pointer (some ⟨(w.heap.size+1),1,none⟩)) hS.1 (hS.2.1 7 Dc Dc) rfl Kr (fun _ _=>by kernel_rfl) ?_;refine takeL (n:=23) (k:=8) (v:= .int .u32 t.b) hS.1 (hS.2.1 8 Dc Dc) rfl Kr (Qag B l Kr) ?_;refine Qgk (n:=23) (k:=9) (v:= .int .i64 (cmpI s.b t.b)) (f:=181) (args:=#[.int .u32 s.b,.int .u32 t.b]) hS.1 (hS.2.1 9 Dc Dc) rfl Kr (fun _ _=>by kernel_rfl) (fun w' _=>(Qdz s.b t.b w').mono fun _ _ h=>⟨h.1,h.2.symm⟩) ?_;refine takeL (n:=23) (k:=10) (v:= .pointer (some ⟨w.heap.size,2,none⟩)) hS.1 (hS.2.1 10 Dc Dc) rfl Kr (fun _ _=>by kernel_rfl) ?_;refine takeL (n:=23) (k:=11) (v:= .int .u16 s.c) hS.1 (hS.2.1 11 Dc Dc) rfl Kr (Qah x j Kr) ?_;refine takeL (n:=23) (k:=12) (v:= .pointer (some ⟨(w.heap.size+1),2,none⟩)) hS.1 (hS.2.1 12 Dc Dc) rfl Kr (fun _ _=>by kernel_rfl) ?_;refine takeL (n:=23) (k:=13) (v:= .int .u16 t.c) hS.1 (hS.2.1 13 Dc Dc) rfl Kr (Qah C l Kr) ?_;refine Qgk (n:=23) (k:=14) (v:= .int .i64 (cmpI s.c t.c)) (f:=182) (args:=#[.int .u16 s.c,.int .u16 t.c]) hS.1 (hS.2.1 14 Dc Dc) rfl Kr (fun _ _=>by kernel_rfl) (fun w' _=>(QdA s.c t.c w').mono fun _ _ h=>⟨h.1,h.2.symm⟩) ?_;refine takeL (n:=23) (k:=15) (v:= .pointer (some ⟨w.heap.size,3,none⟩)) hS.1 (hS.2.1 15 Dc Dc) rfl Kr (fun _ _=>by kernel_rfl) ?_;refine takeL (n:=23) (k:=16) (v:= .int .u16 s.d) hS.1 (hS.2.1 16 Dc Dc) rfl Kr (Qah y j Kr) ?_;refine takeL (n:=23) (k:=17) (v:= .pointer (some ⟨(w.heap.size+1),3,none⟩)) hS.1 (hS.2.1 17 Dc Dc) rfl Kr (fun _ _=>by kernel_rfl) ?_;refine takeL (n:=23) (k:=18) (v:= .int .u16 t.d) hS.1 (hS.2.1 18 Dc Dc) rfl Kr (Qah D l Kr) ?_;refine Qgk (n:=23) (k:=19) (v:= .int .i64 (cmpI s.d t.d)) (f:=182) (args:=#[.int .u16 s.d,.int .u16 t.d]) hS.1 (hS.2.1 19 Dc Dc) rfl Kr (fun _ _=>by kernel_rfl) (fun w' _=>(QdA s.d t.d w').mono fun _ _ h=>⟨h.1,h.2.symm⟩) ?_;refine Qxx (n:=23) (k:=20) (v:= .slice (some ⟨m.heap.size,0,none⟩) 4 4) (w1:=m.alloc (.cells #[.int .i64 (cmpI s.a t.a),.int .i64 (cmpI s.b t.b),.int .i64 (cmpI s.c t.c),.int .i64 (cmpI s.d t.d)] 3)) (hS.2.2.1 20 Dc) rfl Kr Kr Ea ?_;refine Qxw (n:=23) (k:=21) (v:= .int .i64 (YQ s t)) (f:=180) (args:=#[.slice (some ⟨m.heap.size,0,none⟩) 4 4]) (hS.2.2.1 21 Dc) rfl Kr Kr (QrR _ _ _ _ _) ?_;intro I H;refine takeL (n:=23) (k:=22) (v:= .int .i64 (YQ s t)) hS.1 (hS.2.1 22 Dc Dc) rfl Kr (fun _ _=>by kernel_rfl) ?_;refine Qxt hS.2.2.2 ?_;generalize F:Act.put _ _ _=A;go_wp2;exact bodyPost_ret (v:= .int .i64 (YQ s t)) (by subst F;kernel_rfl) (by subst F;kernel_rfl) ⟨rfl,(((G.tr g).tr Ea).tr H)⟩
def idx{α:Type}(pr:α→Bool)(ms:List α):Int:=if ms.any pr then ms.findIdx pr else-1
theorem QhG{α:Type}(pr:α→Bool)(ms:List α)(h: ∀k (hk:k<ms.length),pr ms[k]=false):idx pr ms= -1:=by
 unfold idx;rw [if_neg];intro b;obtain⟨x,c,a⟩:=List.any_eq_true.1 b;obtain⟨k,hk,rfl⟩:=List.mem_iff_getElem.1 c;rw [h k hk]at a;cases a
theorem QhH{α:Type}(pr:α→Bool)(ms:List α)(k:Nat)(hk:k<ms.length)(h: ∀j (hj:j<k),pr (ms[j]'Om)=false)(hp:pr ms[k]=true):idx pr ms=k:=by
 unfold idx;rw [if_pos (List.any_eq_true.2 ⟨ms[k],List.getElem_mem hk,hp⟩)]
 congr 1
 rw [List.findIdx_eq hk];exact⟨hp,fun j hj=>by simpa using h j hj⟩
theorem Qoh{α:Type}(pr:α→Bool)(ms:List α):decide (0≤idx pr ms)=ms.any pr:=by
 unfold idx
 cases h:ms.any pr<;>simp
structure Co where
 t:Tu
 s:Int
 l:Int
 deriving DecidableEq
abbrev Co.v(x:Co):Value:= .agg #[.int .u32 x.t.a,.int .u32 x.t.b,.int .u16 x.t.c,.int .u16 x.t.d,.int .i64 x.s,.int .i64 x.l]
def SlC(w:World)(p:Option Addr)(xs:List Co):Prop:= ∀k,(h:k<xs.length)→ ∃b off,p=some ⟨b,off,none⟩∧b<w.heap.size∧w.cell? ⟨b,off+k*6,none⟩=some (.int .u32 xs[k].t.a)∧w.cell? ⟨b,off+k*6+1,none⟩=some (.int .u32 xs[k].t.b)∧w.cell? ⟨b,off+k*6+2,none⟩=some (.int .u16 xs[k].t.c)∧w.cell? ⟨b,off+k*6+3,none⟩=some (.int .u16 xs[k].t.d)∧w.cell? ⟨b,off+k*6+4,none⟩=some (.int .i64 xs[k].s)∧w.cell? ⟨b,off+k*6+5,none⟩=some (.int .i64 xs[k].l)
theorem SlC.ext{p:Option Addr}{xs:List Co}(h:SlC w p xs)(e:Ext w w'):SlC w' p xs:=fun k hk=>by
 obtain⟨b,a,d,c,f,g,i,j,l,m⟩:=h k hk;exact⟨b,a,d,Xl c e.size,(e.cell (p:=⟨b,a+k*6,none⟩) c).trans f,(e.cell (p:=⟨b,a+k*6+1,none⟩) c).trans g,(e.cell (p:=⟨b,a+k*6+2,none⟩) c).trans i,(e.cell (p:=⟨b,a+k*6+3,none⟩) c).trans j,(e.cell (p:=⟨b,a+k*6+4,none⟩) c).trans l,(e.cell (p:=⟨b,a+k*6+5,none⟩) c).trans m⟩
theorem SlC.nil(w:World)(p:Option Addr):SlC w p []:=fun k hk=>by simp at hk
theorem QdB(g:Nat)(lb:Array Value)(eg: ∀args w,(callFunc g args).run Tryz.prog w= .ok (.enter g args) w)(pr:Co→Bool)(p:Option Addr)(xs:List Co)(c:Nat)(w:World)
  (hs:SlC w p xs)(hl:xs.length≤1000)(hf: ∀x W,x∈xs→Ext w W→Cr g (#[.agg #[.int .u32 x.t.a,.int .u32 x.t.b,.int .u16 x.t.c,.int .u16 x.t.d,.int .i64 x.s,.int .i64 x.l]]++lb) W (.bool (pr x))):
  Cr 106 #[.slice p xs.length c,.func (.func g) #[] lb] w (.int .i64 (idx pr xs)):=by
 have B:=Xh hf;clear hf
 go_enter Tryz.func106,Tryz.ntmps106
 go_wp2
 go_loopw [5,8] (fun _ i wr=> ∃k:Nat,k≤xs.length∧i= .int .i64 k∧(∀j,j<k→ ∀(hj:j<xs.length),pr xs[j]=false)∧Ext w wr) (fun _ i _=>xs.length- (intOf i).toNat)
 case atStart=>exact⟨0,Nat.zero_le _,rfl,fun j hj=>by omega,Ext.rf _⟩
 case round=>
  obtain⟨k,M,rfl,A,n⟩:=hrel;have o:=Xh A;clear A
  by_cases u:k<xs.length
  ·have K:(k:Int)<xs.length:=by omega
   obtain⟨b,N,rfl,C,D,E,F,G,H,I⟩:=(hs.ext n) k u;have L:Lt b wr:=C;have f:=B.out xs[k] wr (List.getElem_mem u) n;obtain⟨x,v⟩: ∃x,xs[k]=x:=⟨_,rfl⟩;rw [v]at D E F G H I f;have z:=Xh v;clear v
   cases m:pr x
   ·rw [m]at f;have q:=Xh m;clear m;have r:=Xh f;clear f
    go_wp2_with ((with_reducible refine(r.out).mono ?_);rintro e J ⟨rfl,y⟩)
    go_roundw
    case rel=>exact⟨k+1,Om,by go_num,fun j hj hj'=>by
     rcases Nat.lt_or_ge j k with h|h
     ·exact o.out j h hj'
     ·obtain rfl:j=k:=by omega
      rw [z.out,q.out],n.tr y⟩
    case measure=>simp [intOf];omega
   ·rw [m]at f;have q:=Xh m;clear m;have r:=Xh f;clear f
    go_wp2_with ((with_reducible refine(r.out).mono ?_);rintro e J ⟨rfl,y⟩)
    go_ret;exact⟨by rw [QhH pr xs k u (fun j hj=>o.out j hj _) (by rw [z.out,q.out])];rfl,n.tr y⟩
  ·obtain rfl:k=xs.length:=by omega
   go_wp2;go_ret;exact⟨by rw [QhG pr xs (fun j hj=>o.out j hj hj)];rfl,n⟩
theorem QaK(g:Nat)(lb:Array Value)(eg: ∀args w,(callFunc g args).run Tryz.prog w= .ok (.enter g args) w)(pr:Co→Bool)(p:Option Addr)(xs:List Co)(c:Nat)(w:World)
  (hs:SlC w p xs)(hl:xs.length≤1000)(hf: ∀x W,x∈xs→Ext w W→Cr g (#[.agg #[.int .u32 x.t.a,.int .u32 x.t.b,.int .u16 x.t.c,.int .u16 x.t.d,.int .i64 x.s,.int .i64 x.l]]++lb) W (.bool (pr x))):
  Cr 76 #[.slice p xs.length c,.func (.func g) #[] lb] w (.bool (xs.any pr)):=by
 have f:=Xh hf;have h:=Xh eg;clear hf eg
 go_enter Tryz.func76,Tryz.ntmps76
 go_wp2_with (go_at_call 106;(refine(QdB g lb h.out pr p xs c _ hs hl f.out).mono ?_);rintro e j ⟨rfl,i⟩)
 go_ret;exact⟨Qm (Qoh _ _),i⟩
structure Ho where
 t:Tu
 n:Int
 deriving DecidableEq
abbrev Ho.v(x:Ho):Value:= .agg #[.int .u32 x.t.a,.int .u32 x.t.b,.int .u16 x.t.c,.int .u16 x.t.d,.int .i64 x.n]
def SlH(w:World)(p:Option Addr)(xs:List Ho):Prop:= ∀k,(h:k<xs.length)→ ∃b off,p=some ⟨b,off,none⟩∧b<w.heap.size∧w.cell? ⟨b,off+k*5,none⟩=some (.int .u32 xs[k].t.a)∧w.cell? ⟨b,off+k*5+1,none⟩=some (.int .u32 xs[k].t.b)∧w.cell? ⟨b,off+k*5+2,none⟩=some (.int .u16 xs[k].t.c)∧w.cell? ⟨b,off+k*5+3,none⟩=some (.int .u16 xs[k].t.d)∧w.cell? ⟨b,off+k*5+4,none⟩=some (.int .i64 xs[k].n)
theorem SlH.ext{p:Option Addr}{xs:List Ho}(h:SlH w p xs)(e:Ext w w'):SlH w' p xs:=fun k hk=>by
 obtain⟨b,a,d,c,f,g,i,j,l⟩:=h k hk;exact⟨b,a,d,Xl c e.size,(e.cell (p:=⟨b,a+k*5,none⟩) c).trans f,(e.cell (p:=⟨b,a+k*5+1,none⟩) c).trans g,(e.cell (p:=⟨b,a+k*5+2,none⟩) c).trans i,(e.cell (p:=⟨b,a+k*5+3,none⟩) c).trans j,(e.cell (p:=⟨b,a+k*5+4,none⟩) c).trans l⟩
theorem SlH.nil(w:World)(p:Option Addr):SlH w p []:=fun k hk=>by simp at hk
def eqT(s t:Tu):Bool:=s.a==t.a&&s.b==t.b&&s.c==t.c&&s.d==t.d
theorem YZ{s t:Tu}:eqT s t=true↔s=t:=by
 constructor
 ·intro h;unfold eqT at h;simp only [Bool.and_eq_true,beq_iff_eq]at h
  cases s;cases t;simp_all
 ·rintro rfl;unfold eqT;simp
@[go_sem ↓ high] theorem QAu(a b c d a' b' c' d':Int)(w:World):
  (binOp .eql 64 (tu a b c d) (tu a' b' c' d')).run Tryz.prog w= .ok (.bool (a==a'&&b==b'&&c==c'&&d==d')) w:=by
 go_simp
 by_cases e:a=a'<;>by_cases f:b=b'<;>by_cases g:c=c'<;>by_cases h:d=d'<;>simp [*]
def YM(w:World)(b:Nat)(t:Tu):Prop:=Qc w b=#[.int .u32 t.a,.int .u32 t.b,.int .u16 t.c,.int .u16 t.d]∧Lt b w
theorem YM.cells{b:Nat}{t:Tu}(h:YM w b t):w.cell? ⟨b,0,none⟩=some (.int .u32 t.a)∧w.cell? ⟨b,1,none⟩=some (.int .u32 t.b)∧w.cell? ⟨b,2,none⟩=some (.int .u16 t.c)∧w.cell? ⟨b,3,none⟩=some (.int .u16 t.d):=by
 refine⟨?_,?_,?_,?_⟩<;>rw [Qa,h.1]<;>rfl
theorem YM.ext{b:Nat}{t:Tu}(h:YM w b t)(e:Ext w w'):YM w' b t:=⟨by rw [Qf (e.block b h.2)];exact h.1,Xl h.2 e.size⟩
def geT(t:Tu)(x:Co):Bool:=decide (0≤YQ x.t t)
theorem Qmt(x:Co)(t:Tu)(b:Nat)(w:World)(ht:YM w b t):
  Cr 107 #[.agg #[.int .u32 x.t.a,.int .u32 x.t.b,.int .u16 x.t.c,.int .u16 x.t.d,.int .i64 x.s,.int .i64 x.l],.pointer (some ⟨b,0,none⟩)] w (.bool (geT t x)):=by
 obtain⟨g,h,i,j⟩:=ht.cells;have f:Lt b w:=ht.2;clear ht
 go_enter Tryz.func107,Tryz.ntmps107
 go_wp2_with (go_at_call 108;(refine(Qgl x.t t _).mono ?_);rintro e k ⟨rfl,m⟩)
 go_ret;refine⟨rfl,?_⟩
 (exact Xe)
theorem Qoi(x:Co)(t:Tu)(b:Nat)(w:World)(ht:YM w b t):
  Cr 107 (#[.agg #[.int .u32 x.t.a,.int .u32 x.t.b,.int .u16 x.t.c,.int .u16 x.t.d,.int .i64 x.s,.int .i64 x.l]]++ #[.pointer (some ⟨b,0,none⟩)]) w (.bool (geT t x)):=by
 rw [show(#[Value.agg #[.int .u32 x.t.a,.int .u32 x.t.b,.int .u16 x.t.c,.int .u16 x.t.d,.int .i64 x.s,.int .i64 x.l]]++ #[Value.pointer (some ⟨b,0,none⟩)]:Array Value)=#[.agg #[.int .u32 x.t.a,.int .u32 x.t.b,.int .u16 x.t.c,.int .u16 x.t.d,.int .i64 x.s,.int .i64 x.l],.pointer (some ⟨b,0,none⟩)]from rfl];exact Qmt x t b w ht
def atC(xs:List Co)(t:Tu):Nat:=xs.findIdx (geT t)
def okC(xs:List Co)(t:Tu):Bool:=match xs[atC xs t]? with|some x=>eqT x.t t|none=>false
theorem QuO(pr:Co→Bool)(xs:List Co)(h:xs.any pr=true):idx pr xs=(xs.findIdx pr:Nat)∧xs.findIdx pr<xs.length:=by
 unfold idx;rw [if_pos h];refine⟨rfl,?_⟩;obtain⟨x,a,b⟩:=List.any_eq_true.1 h;exact List.findIdx_lt_length_of_exists ⟨x,a,b⟩
theorem QuP(pr:Co→Bool)(xs:List Co)(h:xs.any pr=false):idx pr xs= -1∧xs.findIdx pr=xs.length:=by
 unfold idx;rw [if_neg (by rw [h];decide)];refine⟨rfl,?_⟩;rw [List.findIdx_eq_length];intro x b
 cases a:pr x
 ·rfl
 ·have:xs.any pr=true:=List.any_eq_true.2 ⟨x,b,a⟩;rw [this]at h;cases h
theorem Qgm: ∀args w,(callFunc 107 args).run Tryz.prog w= .ok (.enter 107 args) w:=enters_of Tryz.func107 Kr rfl
theorem Qed(t:Tu)(p:Option Addr)(xs:List Co)(c:Nat)(w:World)(hs:SlC w p xs)(hl:xs.length≤1000):
  Cr 44 #[.slice p xs.length c,tu t.a t.b t.c t.d] w (.tuple #[.int .i64 (atC xs t),.bool (okC xs t)]):=by
 go_enter Tryz.func44,Tryz.ntmps44
 go_upto_region 1 with(fail)
 obtain⟨n,o⟩: ∃n,w.alloc (.cells #[.int .u32 t.a,.int .u32 t.b,.int .u16 t.c,.int .u16 t.d] 64)=n:=⟨_,rfl⟩;have l:Ext w n:=by rw [←o];exact Ea
 have i:=hs.ext l;have f:YM n w.heap.size t:=by rw [←o];unfold YM;simp [go_sem,Lt]
 rw [o];clear o hs;generalize w.heap.size=B at*
 go_upto_region 2 with(go_at_call 106;go_must (with_reducible refine(QdB 107 #[.pointer (some ⟨B,0,none⟩)] Qgm (geT t) p xs c _ i hl (fun x W _ hE=>Qoi x t B W (f.ext hE))).mono ?_);rintro e z ⟨rfl,j⟩)
 have f:=f.ext j;have i:=i.ext j;have y:=l.tr j
 cases m:xs.any (geT t)
 ·obtain⟨g,h⟩:=QuP _ _ m
  have q:=Xh (show(Value.tuple #[.int .i64 (atC xs t),.bool (okC xs t)])= .tuple #[.int .i64 xs.length,.bool false]by
   have r:atC xs t=xs.length:=h
   unfold okC;rw [r];simp)
  rw [g];clear h m j l g;go_wp2;exact bodyPost_ret (v:= .tuple #[.int .i64 xs.length,.bool false]) (by simp [results,Tryz.results44,go_sem]) rfl ⟨by rw [q.out],y⟩
 ·obtain⟨g,h⟩:=QuO _ _ m;obtain⟨k,s⟩: ∃k,xs.findIdx (geT t)=k:=⟨_,rfl⟩;rw [s]at g h;obtain⟨b,M,rfl,C,D,E,F,G,H,I⟩:=i k h;have J:Lt b z:=C;obtain⟨x,u⟩: ∃x,xs[k]=x:=⟨_,rfl⟩;rw [u]at D E F G H I
  have q:=Xh (show(Value.tuple #[.int .i64 (atC xs t),.bool (okC xs t)])= .tuple #[.int .i64 k,.bool (x.t.a==t.a&&x.t.b==t.b&&x.t.c==t.c&&x.t.d==t.d)]by
   have r:atC xs t=k:=s
   unfold okC;rw [r,List.getElem?_eq_getElem h,u];rfl)
  rw [g];have K:(k:Int)<xs.length:=by omega
  obtain⟨N,O,P,Q⟩:=f.cells;have L:Lt B z:=f.2;clear u s g m j l f i;go_wp2;refine Qk Kr Kr ?_;(repeat(go_big_quiet_step (fail)));refine wpQuiet_nil ?_;intro d
  have A:=Qt d;go_wp2;exact bodyPost_ret (v:= .tuple #[.int .i64 k,.bool (x.t.a==t.a&&x.t.b==t.b&&x.t.c==t.c&&x.t.d==t.d)]) (by simp [results,Tryz.results44,go_sem]) rfl ⟨by rw [q.out],y.tr A⟩
theorem Qee(p:Option Addr)(n c:Nat)(w:World):
  Calls Tryz.prog 46 #[.slice p n c] w fun e w'=>e= .returned (.bool (decide ((n:Int)<32)))∧w=w':=by
 go_enter Tryz.func46,Tryz.ntmps46
 go_wp2;go_ret;exact⟨Qm (by simp),rfl⟩
section
variable {P:Program} {ops:Array Oper} {md:Region.Mode} {n:Nat} {r:Nat}
def xUponR(n:Nat)(P:Program)(N:Value→World→Prop):Result Next→Prop
 | .ok (.value u) w'=>N u w'
 | .ok .skip w'=>N undef w'
 | .ok (.round l f tmps assign body) w'=>RoundIn Fence.wide (n- 1) P l f tmps assign body w' (fun e w''=> ∃v,e= .returned v∧N v w'')
 |_=>False
theorem QdC{N N':Value→World→Prop}(h: ∀v w,N v w→N' v w): ∀r:Result Next,xUponR n P N r→xUponR n P N' r
 | .ok (.value u) w',hh=>h _ _ hh
 | .ok .skip w',hh=>h _ _ hh
 | .ok (.round l f tmps assign body) w',hh=>RoundIn.mono hh fun e w'' ⟨v,h1,h2⟩=>⟨v,h1,h _ _ h2⟩
def QdT(n:Nat)(P:Program)(ops:Array Oper)(i:Nat)(K:Act→World→Prop)(a:Act)(w:World):Prop:=
 match ops[i]? with
 |none=>K a w
 |some o=>if Region.wanted o (yielded ops a.tmps)=true then xUponR n P (fun v w'=>K (a.put o.dst v) w') ((execOp a.eval o).run P w)else K (a.put o.dst undef) w
theorem QfG{a:Act}{K':Act→World→Prop}(h: ∀a w,K a w→K' a w)(hh:QdT n P ops i K a w):QdT n P ops i K' a w:=by
 unfold QdT at*
 split
 ·exact h _ _ (by simpa [*]using hh)
 ·rename_i o ho
  simp only [ho]at hh
  split
  ·rename_i hw;simp only [hw,if_true]at hh;exact QdC (fun v w' h1=>h _ _ h1) _ hh
  ·rename_i hw;simp only [hw]at hh;exact h _ _ hh
theorem QhI{a:Act}{Q:Exit→Act→World→Prop}(hh:QdT n P ops i K a w):wpOpIn Fence.wide n P ops Q i K a w:=by
 unfold QdT at hh;unfold wpOpIn
 split
 ·rename_i ho;simp only [ho]at hh;exact hh
 ·rename_i o ho
  simp only [ho]at hh
  split
  ·rename_i hw
   simp only [hw,if_true]at hh;refine⟨fun _ _=>trivial,?_⟩;show o.uponIn Fence.wide n P a K Q ((execOp a.eval o).run P w);generalize (execOp a.eval o).run P w=q at*
   cases q with
   |ok x w'=>
    cases x<;>simp only [xUponR]at hh<;>simp only [Oper.uponIn]
    case value u=>exact hh
    case skip=>exact hh
    case round l f tmps assign body=>exact⟨fun h=>by simp [Fence.wide]at h,hh.mono fun e w'' ⟨v,he,hw''⟩=>by subst he;exact hw''⟩
   |halt x w'=>simp only [xUponR]at hh
  ·rename_i hw;simp only [hw]at hh;exact⟨fun _ _=>trivial,hh⟩
def Yk(n:Nat)(P:Program)(md:Region.Mode)(ops:Array Oper)(r:Nat)(Q:Act→World→Prop):Nat→Array Bool→Act→World→Prop
 |0,listed,a,w=>Region.ready md ops listed= []∧Q a w
 |fuel+1,listed,a,w=>(Region.ready md ops listed= []→Q a w)∧
  ∀i∈Region.ready md ops listed,QdT n P ops i (fun a' w'=>(i=r∨Ext w w')∧Yk n P md ops r Q fuel (listed.setIfInBounds i true) a' w') a w
theorem Qcj{Q':Exit→Act→World→Prop}(hQ: ∀a w,Q a w→Q' .normal a w): ∀(fuel:Nat) (listed:Array Bool) (a:Act) (w:World),
  Yk n P md ops r Q fuel listed a w→wpAnyIn Fence.wide n P md ops Q' fuel listed a w
 |0,_,_,_,h=>⟨h.1,hQ _ _ h.2⟩
 |fuel+1,_,_,_,h=>⟨fun h0=>hQ _ _ (h.1 h0),fun i hi=>QhI (QfG (fun a' w' h1=>Qcj hQ fuel _ a' w' h1.2) (h.2 i hi))⟩
def Y0(P:Program)(ops:Array Oper)(w:World)(o:Oper)(v:Value)(a:Act):Prop:=
 (Region.wanted o (yielded ops a.tmps)=true∧ ∀w',Ext w w'→(execOp a.eval o).run P w'= .ok (.value v) w')∨(Region.wanted o (yielded ops a.tmps)=false∧v=undef)
theorem Y0.later{v:Value}{a:Act}(h:Y0 P ops w o v a)(e:Ext w w'):Y0 P ops w' o v a:=by
 rcases h with⟨h1,h2⟩|h
 ·exact .inl ⟨h1,fun w2 e2=>h2 w2 (e.tr e2)⟩
 ·exact .inr h
theorem Y0.xOp{v:Value}{a:Act}(hi:ops[i]?=some o)(hy:Y0 P ops w o v a)(h:K (a.put o.dst v) w):QdT n P ops i K a w:=by
 unfold QdT;simp only [hi];rcases hy with⟨hw,hv⟩|⟨hw,rfl⟩
 ·simp only [hw,if_true,hv w (Ext.rf _),xUponR];exact h
 ·simp only [hw,Bool.false_eq_true,if_false];exact h
theorem Qoj{j:Nat}{oj:Oper}{v:Value}(hj:ops[j]?=some oj)(hap:oi.apart ops oj=true)
  (hsi: ∀cs b,oi.op≠ .select cs b)(hsj: ∀cs b,oj.op≠ .select cs b){a:Act}
  (hy:Y0 P ops w oi v a)(h:QdT n P ops j K (a.put oi.dst v) w):
  QdT n P ops j (fun a' w'=>Y0 P ops w oi v a'∧K (a'.put oi.dst v) w') a w:=by
 obtain⟨d,e,f⟩:=Oper.apart_spec hap;have c: ∀u,Y0 P ops w oi v (a.put oj.dst u):=fun u=>by
  unfold Y0 at*;rw [execOp_put oi hsi a oj.dst u f,wanted_put oi a oj.dst u f];exact hy
 unfold QdT at*;simp only [hj]at*;rw [wanted_put oj a oi.dst v d]at h
 split
 ·rename_i hw
  simp only [hw,if_true]at h;rw [execOp_put oj hsj a oi.dst v d]at h;exact QdC (fun u w' h4=>⟨c u,by rw [←Act.put_comm a v u e];exact h4⟩) _ h
 ·rename_i hw
  simp only [hw]at h;exact⟨c _,by rw [←Act.put_comm a v undef e];exact h⟩
def Qai(md:Region.Mode)(ops:Array Oper)(listed:Array Bool):Prop:= ∀k o,ops[k]?=some o→listed.getD k true=true→ ∀e∈o.after,Region.binds md e=true→listed.getD e.on false=true
theorem Qai.set{j:Nat}(h:Qai md ops listed)(hj:j∈Region.ready md ops listed):Qai md ops (listed.setIfInBounds j true):=by
 intro k o b c e d f;refine getD_set_true ?_
 by_cases a:k=j
 ·subst a;obtain⟨-,i,g,hall⟩:=mem_ready.1 hj;rw [b]at g
  cases g
  exact hall e d f
 ·rw [getD_set_ne true (Ne.symm a)]at c;exact h k o b c e d f
def YR(md:Region.Mode)(ops:Array Oper):List Nat→Bool
 |a::b::rest=>((ops[b]?).map (fun o=>o.after.any fun e=>Region.binds md e&&e.on==a)).getD false&&YR md ops (b::rest)
 |_=>true
theorem Qaj(hc:Qai md ops listed)(hr:r∈Region.ready md ops listed): ∀(l:List Nat) (a:Nat),YR md ops (a::l)=true→(a::l).getLast?=some r→a≠r→listed.getD a false=true
 | [],a,_,hl,hn=>by simp at hl;exact absurd hl hn
 |b::rest,a,hw,hl,_=>by
  unfold YR at hw;rw [Bool.and_eq_true]at hw;obtain⟨c,n⟩:=hw
  cases d:ops[b]? with
  |none=>rw [d]at c;simp at c
  |some o=>
   rw [d]at c;simp only [Option.map_some,Option.getD_some,Array.any_eq_true',Bool.and_eq_true,beq_iff_eq]at c;obtain⟨e,h,i,j⟩:=c
   by_cases g:b=r
   ·subst g;obtain⟨-,p,k,hall⟩:=mem_ready.1 hr;rw [d]at k
    cases k
    rw [←j];exact hall e h i
   ·have f:=Qaj hc hr rest b n (by simpa using hl) g;have m:listed.getD b true=true:=by
     rcases Nat.lt_or_ge b listed.size with h'|h'
     ·simp [h']at f⊢;exact f
     ·simp [Array.getElem?_eq_none h']
    rw [←j];exact hc b o d m e h i
theorem Qgn{v:Value}{l:List Nat}(hi:ops[i]?=some oi)(hsel: ∀(j:Nat) (o:Oper) cs b,ops[j]?=some o→o.op≠ .select cs b)
  (hwt:YR md ops (i::l)=true)(hla:(i::l).getLast?=some r)(hir:i≠r):
  ∀(fuel:Nat) (listed:Array Bool) (a:Act) (w:World),Qai md ops listed→
   (∀j oj,ops[j]?=some oj→j≠i→listed.getD j true=false→(∀e∈oj.after,Region.binds md e=true→e.on≠i)→oi.apart ops oj=true)→
   i∈Region.ready md ops listed→Y0 P ops w oi v a→
   Yk n P md ops r Q fuel (listed.setIfInBounds i true) (a.put oi.dst v) w→Yk n P md ops r Q (fuel+1) listed a w:=by
 intro fuel
 induction fuel with
 |zero=>
  intro listed a w _ _ f m H;refine⟨fun h=>(by rw [h]at f;cases f),fun j hj=> ?_⟩
  by_cases d:j=i
  ·subst d;exact m.xOp hi ⟨.inr (Ext.rf _),H⟩
  ·have:=ready_mono hj d;rw [H.1]at this
   cases this
 |succ fuel ih=>
  intro listed a w s t f m H;refine⟨fun h=>(by rw [h]at f;cases f),fun j hj=> ?_⟩
  by_cases d:j=i
  ·subst d;exact m.xOp hi ⟨.inr (Ext.rf _),H⟩
  ·have x:j≠r:=fun e=>by
    subst e;have c:=Qaj s hj l i hwt hla hir;have g:=(mem_ready.1 f).1;rcases Nat.lt_or_ge i listed.size with h'|h'
    ·simp [h']at g c;rw [g]at c;cases c
    ·simp [Array.getElem?_eq_none h']at c
   have c:=H.2 j (ready_mono hj d);obtain⟨u,oj,p,hall⟩:=mem_ready.1 hj;have y: ∀e∈oj.after,Region.binds md e=true→e.on≠i:=fun e he hb heq=>by
    have c:=hall e he hb;have g:=(mem_ready.1 f).1;rw [heq]at c;rcases Nat.lt_or_ge i listed.size with h'|h'
    ·simp [h']at g c;rw [g]at c;cases c
    ·simp [Array.getElem?_eq_none h']at c
   have z:=Qoj p (t j oj p d u y) (fun cs b=>hsel i oi cs b hi) (fun cs b=>hsel j oj cs b p) m c;have A: ∀k ok,ops[k]?=some ok→k≠i→(listed.setIfInBounds j true).getD k true=false→
     (∀e∈ok.after,Region.binds md e=true→e.on≠i)→oi.apart ops ok=true:=fun k ok hk hki hun hno=>by
    refine t k ok hk hki ?_ hno
    by_cases q:j=k
    ·subst q;exact u
    ·rw [getD_set_ne true q]at hun;exact hun
   refine QfG (fun a' w' h3=>⟨h3.2.1,ih (listed.setIfInBounds j true) a' w' (s.set hj) A (ready_mono f (Ne.symm d)) (h3.1.later (h3.2.1.resolve_left x)) ?_⟩) z;have B:=h3.2.2;rw [Array.setIfInBounds_comm _ _ d];exact B
def closedB(md:Region.Mode)(ops:Array Oper)(listed:Array Bool):Bool:=(List.range ops.size).all fun k=>!listed.getD k true||((ops[k]?).map (·.after.all fun e=>!Region.binds md e||listed.getD e.on false)).getD true
theorem QfH(h:closedB md ops listed=true):Qai md ops listed:=by
 intro k o a c e d f;unfold closedB at h;have b:k<ops.size:=(Array.getElem?_eq_some_iff.1 a).1;have:=List.all_eq_true.1 h k (List.mem_range.2 b);rw [c,a]at this;simp only [Bool.not_true,Bool.false_or,Option.map_some,Option.getD_some,Array.all_eq_true',Bool.or_eq_true,Bool.not_eq_true']at this;rcases this e d with h1|h1
 ·rw [f]at h1;cases h1
 ·exact h1
theorem ZR{l:List Nat}{v:Value}{a:Act}(hs:Region.noSelect ops=true)(hok:okX ops N k=true)
  (hcl:closedB .any ops (lst N k)=true)(hwt:YR .any ops (k::l)=true)(hla:(k::l).getLast?=some r)(hir:k≠r)(hi:ops[k]?=some oi)(hw:Region.wanted oi (yielded ops a.tmps)=true)
  (hy: ∀w',Ext w w'→(execOp a.eval oi).run P w'= .ok (.value v) w')
  (H:Yk n P .any ops r Q fuel (lst N (k+1)) (a.put oi.dst v) w):Yk n P .any ops r Q (fuel+1) (lst N k) a w:=by
 unfold okX at hok;rw [Bool.and_eq_true]at hok;refine Qgn hi (Region.noSelect_spec hs) hwt hla hir fuel _ a w (QfH hcl) (Region.free_spec hi hok.1) (by simpa using ZZ hok.2) (.inl ⟨hw,hy⟩) ?_;rw [JJ];exact H
theorem QtK{a:Act}(hr:Region.ready .any ops (lst N k)= [k])(hi:ops[k]?=some oi)(hw:Region.wanted oi (yielded ops a.tmps)=true)
  (H:xUponR n P (fun v w'=>(k=r∨Ext w w')∧Yk n P .any ops r Q fuel (lst N (k+1)) (a.put oi.dst v) w') ((execOp a.eval oi).run P w)):Yk n P .any ops r Q (fuel+1) (lst N k) a w:=by
 refine⟨fun h0=> ?_,fun j hj=> ?_⟩
 ·rw [hr]at h0;cases h0
 ·rw [hr]at hj;obtain rfl:j=k:=by simpa using hj
  unfold QdT;simp only [hi,hw,if_true];rw [JJ];exact H
theorem Qok{a:Act}{l:Nat}{tm:Array Value}{asg bo:Code}(hr:Region.ready .any ops (lst N r)= [r])(hi:ops[r]?=some oi)(hw:Region.wanted oi (yielded ops a.tmps)=true)
  (he:(execOp a.eval oi).run P w= .ok (.round l f tm asg bo) w){R:Ending→World→Prop}(hR:RoundIn Fence.wide (n- 1) P l f tm asg bo w R)
  (H: ∀e w',R e w'→ ∃v,e= .returned v∧Yk n P .any ops r Q fuel (lst N (r+1)) (a.put oi.dst v) w'):Yk n P .any ops r Q (fuel+1) (lst N r) a w:=by
 refine QtK hr hi hw ?_;rw [he];exact hR.mono fun e w' h=>by
  obtain⟨v,b,c⟩:=H e w' h;exact⟨v,b,.inl rfl,c⟩
theorem valueR{v:Value}{a:Act}(hr:Region.ready .any ops (lst N k)= [k])(hi:ops[k]?=some oi)(hw:Region.wanted oi (yielded ops a.tmps)=true)
  (he:(execOp a.eval oi).run P w= .ok (.value v) w)(H:Yk n P .any ops r Q fuel (lst N (k+1)) (a.put oi.dst v) w):Yk n P .any ops r Q (fuel+1) (lst N k) a w:=by
 refine QtK hr hi hw ?_;rw [he];exact⟨.inr (Ext.rf _),H⟩
theorem doneR{a:Act}(hr:Region.ready md ops listed= [])(H:Q a w):Yk n P md ops r Q fuel listed a w:=by
 cases fuel with
 |zero=>exact⟨hr,H⟩
 |succ m=>exact⟨fun _=>H,fun i hi=>by rw [hr]at hi;cases hi⟩
theorem QdD(r:Nat){id:Nat}{Q:Exit→Act→World→Prop}{a:Act}(hm:P.follows .mixedOrders=true)
  (h:Yk n P .any ops r (fun a w=>Q .normal a w) ops.size (Array.replicate ops.size false) a w.drew):(Code.region id ops true).wpIn Fence.wide n P Q a w:=
 wpIn_region_any hm (Qcj (fun _ _ h=>h) _ _ _ _ h)
theorem QtL{P:Program}{ops E:Array Oper}{a:Act}{R:Array Oper→Prop}(h:ops=E)(hR:R E)(hf:ops.size=N)
  (H:R ops→Yk n P .any ops r Q N (lst N 0) a w):Yk n P .any ops r Q ops.size (Array.replicate ops.size false) a w:=by
 rw [hf,Qec];exact H (h▸hR)
end
def Qol:List (Nat×List Nat):= [(0,[3,4,15]),(1,[2,3,4,15]),(2,[3,4,15]),(3,[4,15]),(4,[15]),(5,[15]),(6,[9,10,15]),(7,[8,9,10,15]),(8,[9,10,15]),(9,[10,15]),(10,[15]),(11,[13,14,15]),(12,[13,14,15]),(13,[14,15]),(14,[15])]
def QtM(ops:Array Oper):Prop:=Region.noSelect ops=true∧(∀k,k<15→okX ops 17 k=true)∧(∀k,k<15→closedB .any ops (lst 17 k)=true)∧(∀k l,(k,l)∈Qol→YR .any ops (k::l)=true)∧Region.ready .any ops (lst 17 15)= [15]∧Region.ready .any ops (lst 17 16)= [16]∧Region.ready .any ops (lst 17 17)= []
theorem QxB:QtM ((Tryz.f198.body.bind (Qh 1)).getD #[]):=by
 have a:((List.range 15).all fun k=>okX ((Tryz.f198.body.bind (Qh 1)).getD #[]) 17 k)=true:=Kr
 have b:((List.range 15).all fun k=>closedB .any ((Tryz.f198.body.bind (Qh 1)).getD #[]) (lst 17 k))=true:=Kr
 have c:(Qol.all fun kl=>YR .any ((Tryz.f198.body.bind (Qh 1)).getD #[]) (kl.1::kl.2))=true:=Kr
 exact⟨Kr,fun k hk=>List.all_eq_true.1 a k (List.mem_range.2 hk),fun k hk=>List.all_eq_true.1 b k (List.mem_range.2 hk),fun k l h=>List.all_eq_true.1 c (k,l) h,Kr,Kr,Kr⟩
theorem QbU{B O:Nat}{a:Option Addr}{c:Nat}(h0:w.cell? ⟨B,O,none⟩=some (.slice a m c))(hl:Lt B w)
  (hx:ρ x= .pointer (some ⟨B,O,none⟩)): ∀w',Ext w w'→(execOp ρ ⟨dst,.load 25 x,ty,pos,after,g⟩).run Tryz.prog w'= .ok (.value (.slice a m c)) w':=by
 intro w' b;have h0:=(b.cell (p:=⟨B,_,none⟩) hl).trans h0;simp only [execOp,hx];go_simp
theorem QfI{B O c:Nat}(hi:i<m){y:Operand}
  (hx:ρ x= .slice (some ⟨B,O,none⟩) m c)(hy:ρ y= .int .i64 (i:Nat)): ∀w',Ext w w'→(execOp ρ ⟨dst,.indexAddr 25 x y,ty,pos,after,g⟩).run Tryz.prog w'= .ok (.value (.pointer (some ⟨B,O+i*6,none⟩))) w':=by
 intro w' b;have a:(i:Int)<m:=by omega
 simp only [execOp,hx,hy];go_simp
theorem QhJ{B O:Nat}{x:Co}(h0:w.cell? ⟨B,O+i*6,none⟩=some (.int .u32 x.t.a))(h1:w.cell? ⟨B,O+i*6+1,none⟩=some (.int .u32 x.t.b))(h2:w.cell? ⟨B,O+i*6+2,none⟩=some (.int .u16 x.t.c))(h3:w.cell? ⟨B,O+i*6+3,none⟩=some (.int .u16 x.t.d))(h4:w.cell? ⟨B,O+i*6+4,none⟩=some (.int .i64 x.s))(h5:w.cell? ⟨B,O+i*6+5,none⟩=some (.int .i64 x.l))(hl:Lt B w){q:Operand}
  (hx:ρ q= .pointer (some ⟨B,O+i*6,none⟩)): ∀w',Ext w w'→(execOp ρ ⟨dst,.load 66 q,ty,pos,after,g⟩).run Tryz.prog w'= .ok (.value (.agg #[.int .u32 x.t.a,.int .u32 x.t.b,.int .u16 x.t.c,.int .u16 x.t.d,.int .i64 x.s,.int .i64 x.l])) w':=by
 intro w' e;have h0:=(e.cell (p:=⟨B,_,none⟩) hl).trans h0;have h1:=(e.cell (p:=⟨B,_,none⟩) hl).trans h1;have h2:=(e.cell (p:=⟨B,_,none⟩) hl).trans h2;have h3:=(e.cell (p:=⟨B,_,none⟩) hl).trans h3;have h4:=(e.cell (p:=⟨B,_,none⟩) hl).trans h4;have h5:=(e.cell (p:=⟨B,_,none⟩) hl).trans h5;simp only [execOp,hx];go_simp
theorem Qmu{y:Nat}{v1 v2:Value}{R:Result Next}(h:(Instr.yield y #[v1,v2]).run Tryz.prog w=R){q1 q2:Operand}(tys:Array TypeId)
  (hx:ρ x= .func (.yield y) #[] #[])(h1:ρ q1=v1)(h2:ρ q2=v2):(execOp ρ ⟨dst,.call {callee:= .value x,args:=#[q1,q2],argTypes:=tys},ty,pos,after,g⟩).run Tryz.prog w=R:=by
 rw [←h];subst h1 h2;simp only [execOp,hx];go_simp
def YS(xs:List Co):List (Co×Co):=xs.zip xs.tail
theorem Qef(xs:List Co):(YS xs).length=xs.length- 1:=by simp [YS]
theorem QbV(xs:List Co)(i:Nat)(hi:i+1<xs.length):(YS xs)[i]?=some (xs[i],xs[i+1]):=by
 unfold YS;rw [List.getElem?_eq_getElem (by simp;omega)];simp
theorem QhK(p:Option Addr)(m c:Nat)(w:World):
  Calls Tryz.prog 146 #[.slice p m c] w fun e w'=>e= .returned (.func (.func 198) #[] #[.pointer (some ⟨w.heap.size,0,none⟩)])∧w'=w.alloc (.cells #[.slice p m c] 25):=by
 go_enter Tryz.func146,Tryz.ntmps146
 go_wp2;go_ret;exact⟨rfl,rfl⟩
theorem Qgo(n:Nat)(xs:List Co)(p:Option Addr)(c:Nat)(w0 w:World)(Bl:Nat)(U:Nat→Prop)(h0:Ext w0 w)(hs:SlC w0 p xs)(hl:xs.length≤1000)(hc:w.cell? ⟨Bl,0,none⟩=some (.slice p xs.length c))(lb:Lt Bl w)(hU: ∀k,U k→w0.heap.size≤k∧k≠Bl):
  QcT Fence.wide n Tryz.prog 198 #[.pointer (some ⟨Bl,0,none⟩)] (fun x:Co×Co=>#[.agg #[.int .u32 x.1.t.a,.int .u32 x.1.t.b,.int .u16 x.1.t.c,.int .u16 x.1.t.d,.int .i64 x.1.s,.int .i64 x.1.l],.agg #[.int .u32 x.2.t.a,.int .u32 x.2.t.b,.int .u16 x.2.t.c,.int .u16 x.2.t.d,.int .i64 x.2.s,.int .i64 x.2.l]]) (fun _=>False) U (YS xs) w:=by
 intro y J Jx W T hJ b1 O b2;have HJ:=Xh hJ;have e2:=Xh b1;have HU:=Xh hU;clear hJ b1 hU;obtain⟨c8,c9,d6,d7,O⟩:=O;have HY:=Xh O;clear O;have a2:W.cell? ⟨Bl,0,none⟩=some (.slice p xs.length c):=(T.cell (p:=⟨Bl,0,none⟩) lb).trans hc;have a3:Lt Bl W:=Xl lb T.size;have a4:=h0.tr T;refine callsIn_of_wp Tryz.func198 rfl trivial ?_ rfl;simp only [Tryz.ntmps198,List.size_toArray,List.length_cons,List.length_nil,Nat.reduceAdd,Nat.reduceSub,Array.replicate_succ,Array.replicate_zero,List.push_toArray,List.append_toArray,List.nil_append,List.cons_append];refine wpIn_wide.2 ?_;go_wp2
 go_loopw [3] (fun a wr=> ∃i:Nat,(i=0∨i<xs.length)∧a= .int .i64 ((i:Int)+1)∧J i wr∧wr.cell? ⟨Bl,0,none⟩=some (.slice p xs.length c)∧Lt Bl wr∧Ext w0 wr) (fun a _=>xs.length+1- (intOf a).toNat)
 case atStart=>exact⟨0,.inl rfl,rfl,b2,a2,a3,a4⟩
 case round=>
  clear a2 a3 a4 b2;obtain⟨i,hi,rfl,V,d8,b3,X⟩:=hrel
  by_cases S:i+1<xs.length
  ·have hg:decide ((i:Int)+1<xs.length)=true:=decide_eq_true Om;have e3:0≤(i:Int)+1- 1∧(i:Int)+1- 1<xs.length:=by omega
   have b4:=Xh V;clear V;have a5:=Xh (QbV xs i S);obtain⟨b,o,rfl,hb,u,B,D,G,I,L⟩:=(hs.ext X) i Om;obtain⟨b',e4,d9,-,A,C,F,H,K,M⟩:=(hs.ext X) (i+1) S
   cases d9
   have g:Lt b wr:=hb;obtain⟨x,Y⟩: ∃x,xs[i]=x:=⟨_,rfl⟩;obtain⟨z,Z⟩: ∃z,xs[i+1]=z:=⟨_,rfl⟩;rw [Y]at u B D G I L;rw [Z]at A C F H K M;have b5:IntKind.i64.wrap ((i:Int)+1- 1)=i:=by
    have a1:((i:Int)+1- 1)=i:=by omega
    rw [a1];simp only [IntKind.wrap,IntKind.bits,IntKind.signed];simp;omega
   go_wp2_with (fail)
   refine(wpIn_wide (n:=n)).1 ?_;refine QdD 15 Kr ?_;obtain⟨j,a0⟩: ∃j,wr.drew=j:=⟨_,rfl⟩;have f:Ext wr j:=by rw [←a0];exact Ext.dr (Ext.rf _)
   rw [a0];clear a0;have a6:J i j:=HJ.out _ _ _ b4.out (Mv.of_ext f);have r:j.cell? ⟨Bl,0,none⟩=some (.slice (some ⟨b,o,none⟩) xs.length c):=(f.cell (p:=⟨Bl,0,none⟩) b3).trans d8;have q:Lt Bl j:=Xl b3 f.size;have a7:Lt b j:=Xl g f.size;have b6:=X.tr f;have u:=(f.cell (p:=⟨b,_,none⟩) g).trans u;have A:=(f.cell (p:=⟨b,_,none⟩) g).trans A;have B:=(f.cell (p:=⟨b,_,none⟩) g).trans B;have C:=(f.cell (p:=⟨b,_,none⟩) g).trans C;have D:=(f.cell (p:=⟨b,_,none⟩) g).trans D;have F:=(f.cell (p:=⟨b,_,none⟩) g).trans F;have G:=(f.cell (p:=⟨b,_,none⟩) g).trans G;have H:=(f.cell (p:=⟨b,_,none⟩) g).trans H;have I:=(f.cell (p:=⟨b,_,none⟩) g).trans I;have K:=(f.cell (p:=⟨b,_,none⟩) g).trans K;have L:=(f.cell (p:=⟨b,_,none⟩) g).trans L;have M:=(f.cell (p:=⟨b,_,none⟩) g).trans M;refine QtL (N:=17) (R:=QtM) (E:=((Tryz.f198.body.bind (Qh 1)).getD #[])) Kr QxB Kr fun hS=> ?_;refine ZR (N:=17) (k:=0) (l:= [3,4,15]) (v:= .int .i64 ((i:Int)+1)) hS.1 (hS.2.1 0 Dc) (hS.2.2.1 0 Dc) (hS.2.2.2.1 0 [3,4,15] Dc) rfl Dc rfl Kr (fun _ _=>by kernel_rfl) ?_;refine ZR (N:=17) (k:=1) (l:= [2,3,4,15]) (v:= .slice (some ⟨b,o,none⟩) xs.length c) hS.1 (hS.2.1 1 Dc) (hS.2.2.1 1 Dc) (hS.2.2.2.1 1 [2,3,4,15] Dc) rfl Dc rfl Kr (QbU r q Kr) ?_;refine ZR (N:=17) (k:=2) (l:= [3,4,15]) (v:= .int .i64 xs.length) hS.1 (hS.2.1 2 Dc) (hS.2.2.1 2 Dc) (hS.2.2.2.1 2 [3,4,15] Dc) rfl Dc rfl Kr (fun _ _=>by kernel_rfl) ?_;refine ZR (N:=17) (k:=3) (l:= [4,15]) (v:= .bool (decide ((i:Int)+1<xs.length))) hS.1 (hS.2.1 3 Dc) (hS.2.2.1 3 Dc) (hS.2.2.2.1 3 [4,15] Dc) rfl Dc rfl Kr (fun _ _=>by kernel_rfl) ?_;rw [hg];refine ZR (N:=17) (k:=4) (l:= [15]) (v:= .bool true) hS.1 (hS.2.1 4 Dc) (hS.2.2.1 4 Dc) (hS.2.2.2.1 4 [15] Dc) rfl Dc rfl Kr (fun _ _=>by kernel_rfl) ?_;refine ZR (N:=17) (k:=5) (l:= [15]) (v:= .func (.yield y) #[] #[]) hS.1 (hS.2.1 5 Dc) (hS.2.2.1 5 Dc) (hS.2.2.2.1 5 [15] Dc) rfl Dc rfl Kr (fun _ _=>by kernel_rfl) ?_;refine ZR (N:=17) (k:=6) (l:= [9,10,15]) (v:= .slice (some ⟨b,o,none⟩) xs.length c) hS.1 (hS.2.1 6 Dc) (hS.2.2.1 6 Dc) (hS.2.2.2.1 6 [9,10,15] Dc) rfl Dc rfl Kr (QbU r q Kr) ?_;refine ZR (N:=17) (k:=7) (l:= [8,9,10,15]) (v:= .int .i64 ((i:Int)+1)) hS.1 (hS.2.1 7 Dc) (hS.2.2.1 7 Dc) (hS.2.2.2.1 7 [8,9,10,15] Dc) rfl Dc rfl Kr (fun _ _=>by kernel_rfl) ?_;refine ZR (N:=17) (k:=8) (l:= [9,10,15]) (v:= .int .i64 (IntKind.i64.wrap ((i:Int)+1- 1))) hS.1 (hS.2.1 8 Dc) (hS.2.2.1 8 Dc) (hS.2.2.2.1 8 [9,10,15] Dc) rfl Dc rfl Kr (fun _ _=>by kernel_rfl) ?_;rw [b5];refine ZR (N:=17) (k:=9) (l:= [10,15]) (v:= .pointer (some ⟨b,o+i*6,none⟩)) hS.1 (hS.2.1 9 Dc) (hS.2.2.1 9 Dc) (hS.2.2.2.1 9 [10,15] Dc) rfl Dc rfl Kr (QfI (i:=i) (m:=xs.length) (c:=c) Om Kr Kr) ?_;refine ZR (N:=17) (k:=10) (l:= [15]) (v:= .agg #[.int .u32 x.t.a,.int .u32 x.t.b,.int .u16 x.t.c,.int .u16 x.t.d,.int .i64 x.s,.int .i64 x.l]) hS.1 (hS.2.1 10 Dc) (hS.2.2.1 10 Dc) (hS.2.2.2.1 10 [15] Dc) rfl Dc rfl Kr (QhJ u B D G I L a7 Kr) ?_;refine ZR (N:=17) (k:=11) (l:= [13,14,15]) (v:= .slice (some ⟨b,o,none⟩) xs.length c) hS.1 (hS.2.1 11 Dc) (hS.2.2.1 11 Dc) (hS.2.2.2.1 11 [13,14,15] Dc) rfl Dc rfl Kr (QbU r q Kr) ?_;refine ZR (N:=17) (k:=12) (l:= [13,14,15]) (v:= .int .i64 ((i:Int)+1)) hS.1 (hS.2.1 12 Dc) (hS.2.2.1 12 Dc) (hS.2.2.2.1 12 [13,14,15] Dc) rfl Dc rfl Kr (fun _ _=>by kernel_rfl) ?_;refine ZR (N:=17) (k:=13) (l:= [14,15]) (v:= .pointer (some ⟨b,o+(i+1)*6,none⟩)) hS.1 (hS.2.1 13 Dc) (hS.2.2.1 13 Dc) (hS.2.2.2.1 13 [14,15] Dc) rfl Dc rfl Kr (QfI (i:=i+1) (m:=xs.length) (c:=c) Om Kr Kr) ?_;refine ZR (N:=17) (k:=14) (l:= [15]) (v:= .agg #[.int .u32 z.t.a,.int .u32 z.t.b,.int .u16 z.t.c,.int .u16 z.t.d,.int .i64 z.s,.int .i64 z.l]) hS.1 (hS.2.1 14 Dc) (hS.2.2.1 14 Dc) (hS.2.2.2.1 14 [15] Dc) rfl Dc rfl Kr (QhJ A C F H K M a7 Kr) ?_;have a8:(Instr.yield y #[.agg #[.int .u32 x.t.a,.int .u32 x.t.b,.int .u16 x.t.c,.int .u16 x.t.d,.int .i64 x.s,.int .i64 x.l],.agg #[.int .u32 z.t.a,.int .u32 z.t.b,.int .u16 z.t.c,.int .u16 z.t.d,.int .i64 z.s,.int .i64 z.l]]).run Tryz.prog j= .ok (.round y c8 (c9 #[.agg #[.int .u32 x.t.a,.int .u32 x.t.b,.int .u16 x.t.c,.int .u16 x.t.d,.int .i64 x.s,.int .i64 x.l],.agg #[.int .u32 z.t.a,.int .u32 z.t.b,.int .u16 z.t.c,.int .u16 z.t.d,.int .i64 z.s,.int .i64 z.l]]) d6 d7) j:=by
    have:=(HY.out i (x,z) j a6 (by rw [a5.out,Y,Z])).1;exact this
   have a9:=Xh (HY.out i (x,z) j a6 (by rw [a5.out,Y,Z])).2;refine Qok (N:=17) hS.2.2.2.2.1 rfl Kr (Qmu a8 _ Kr Kr Kr) a9.out ?_;rintro e P ⟨bb,rfl,hP⟩;refine⟨_,rfl,?_⟩;refine valueR (N:=17) (k:=16) (v:= .bool bb) hS.2.2.2.2.2.1 rfl Kr Kr ?_;refine doneR hS.2.2.2.2.2.2 ?_;clear hS a9 a8;go_simp;obtain⟨rfl,e0,Q⟩|⟨rfl,e1⟩:=hP
   ·have b7:P.cell? ⟨Bl,0,none⟩=some (.slice (some ⟨b,o,none⟩) xs.length c):=by
     rw [Qa,Qf (Q.same Bl q (fun h=>by rcases h with h|h;exact(HU.out _ h).2 rfl;unfold Lt at lb;omega)),←Qa];exact r
    have b8:Lt Bl P:=Xl q Q.size;have b9:Ext w0 P:=Mv.ext_of b6 Q (fun k h=>by rcases h with h|h;exact(HU.out _ h).1;exact Xt h0.size h);clear Q;go_wp2;have c6:(i:Int)+1+1=((i+1:Nat):Int)+1:=by omega
    exact⟨⟨i+1,.inr S,by rw [c6],e0,b7,b8,b9⟩,by simp [intOf];omega⟩
   ·go_wp2
    go_end0
    exact⟨⟨_,rfl⟩,.inr e1⟩
  ·have hg:decide ((i:Int)+1<xs.length)=false:=decide_eq_false Om;have b0:(YS xs).length=i:=by rw [Qef];omega
   have c7:=Xh b0;clear b0
   go_wp2_with (fail)
   refine Qk Kr Kr ?_;(repeat(go_big_quiet_step (fail)));refine wpQuiet_nil ?_;intro d
   have hd:=Qt d;generalize later d=P at*;go_wp2
   go_end0
   exact⟨⟨_,rfl⟩,.inl (by rw [c7.out];exact HJ.out _ _ _ V (Mv.of_ext hd))⟩
def ZU(x:Co):Bool:=decide (x.s<0)||decide (x.l<x.s)||decide (1099511627776<x.l)
theorem Qmv(x:Co)(w:World):
  Cr 145 #[.agg #[.int .u32 x.t.a,.int .u32 x.t.b,.int .u16 x.t.c,.int .u16 x.t.d,.int .i64 x.s,.int .i64 x.l]] w (.bool (ZU x)):=by
 go_enter Tryz.func145,Tryz.ntmps145
 go_wp2
 all_goals go_ret
 all_goals refine⟨Qm ?_,?_⟩
 all_goals first|(guard_target=~ Below _ _ _;(exact Xe))|(simp [ZU, *];done)|grind [ZU]
theorem Qom(x:Co)(w:World):
  Cr 145 (#[.agg #[.int .u32 x.t.a,.int .u32 x.t.b,.int .u16 x.t.c,.int .u16 x.t.d,.int .i64 x.s,.int .i64 x.l]]++ #[]) w (.bool (ZU x)):=by
 rw [show(#[Value.agg #[.int .u32 x.t.a,.int .u32 x.t.b,.int .u16 x.t.c,.int .u16 x.t.d,.int .i64 x.s,.int .i64 x.l]]++ #[]:Array Value)=#[.agg #[.int .u32 x.t.a,.int .u32 x.t.b,.int .u16 x.t.c,.int .u16 x.t.d,.int .i64 x.s,.int .i64 x.l]]from rfl];exact Qmv x w
theorem Qgp: ∀args w,(callFunc 145 args).run Tryz.prog w= .ok (.enter 145 args) w:=enters_of Tryz.func145 Kr rfl
theorem Qgq: ∀args w,(callFunc 198 args).run Tryz.prog w= .ok (.enter 198 args) w:=enters_of Tryz.func198 Kr rfl
def QdE(p:Co×Co):Bool:=decide (YQ p.1.t p.2.t<0)
def QJ(xs:List Co):Bool:=decide (xs.length≤32)&&!xs.any ZU&&(YS xs).all QdE
theorem ZG(p:Option Addr)(xs:List Co)(c:Nat)(w:World)(hs:SlC w p xs)(hl:xs.length≤1000):
  Cr 75 #[.slice p xs.length c] w (.bool (QJ xs)):=by
 have F:=Xh (fun W (hE:Ext w W)=>QaK 145 #[] Qgp ZU p xs c W (hs.ext hE) hl (fun x W' _ _=>Qom x W'));refine(callsIn_wide (n:=5)).1 ?_;refine callsIn_of_wp_marks Tryz.func75 rfl trivial ?_ rfl;simp only [Tryz.ntmps75,List.size_toArray,List.length_cons,List.length_nil,Nat.reduceAdd,Nat.reduceSub,Array.replicate_succ,Array.replicate_zero,List.push_toArray,List.append_toArray,List.nil_append,List.cons_append];refine wpIn_wide.2 ?_;go_wp2;refine Qp 0 rfl ?_
 cases X:decide (32<(xs.length:Int))
 ·have T:decide (xs.length≤32)=true:=by have:=of_decide_eq_false X;exact decide_eq_true Om
  cases H:xs.any ZU
  ·have D:=Xh (show QJ xs=(YS xs).all QdE by unfold QJ;rw [T,H];rfl);rw [H]at F;clear H T
   go_wp2_with (first|(go_at_call 76;(with_reducible refine(F.out _ (Ext.rf _)).mono ?_);rintro e o ⟨rfl,q⟩)|(go_at_call 146;(with_reducible refine(QhK _ _ _ _).mono ?_);rintro e w2 ⟨rfl,rfl⟩))
   obtain⟨m,I⟩: ∃m,o.alloc (.cells #[.slice p xs.length c] 25)=m:=⟨_,rfl⟩;have G:Ext o m:=by rw [←I];exact Ea
   have a1:m.cell? ⟨o.heap.size,0,none⟩=some (.slice p xs.length c):=by rw [←I,Qa,Zn];rfl
   have a2:Lt o.heap.size m:=by rw [←I];simp [Lt]
   have a3:=hs.ext q;rw [I];clear I F;refine(wpIn_wide (n:=5)).1 ?_;refine ZI rfl Om (gf:=198) (lb:=#[.pointer (some ⟨o.heap.size,0,none⟩)]) rfl trivial Qgq
    (Qgo _ xs p c o m o.heap.size (fun _=>False) G a3 hl a1 a2 (fun _ h=>h.elim))
    (fun k h=>h.elim) (fun k h=>h.elim) (fun _=>rfl)
    (fun i _=> ∀j,j<i→ ∀h:j<(YS xs).length,QdE (YS xs)[j]=true) (fun cc _=>cc= .goto 0∧(YS xs).all QdE=false)
    (fun _ _ _ h _=>h) (fun _ _ _ h _=>h) (fun j M=>by omega)
    (fun x R W=> ∃f g,m.heap.size+2≤f∧f<W.heap.size∧m.heap.size+2≤g∧g<W.heap.size∧Qc W f=#[.int .u32 x.1.t.a,.int .u32 x.1.t.b,.int .u16 x.1.t.c,.int .u16 x.1.t.d,.int .i64 x.1.s,.int .i64 x.1.l]∧Qc W g=#[.int .u32 x.2.t.a,.int .u32 x.2.t.b,.int .u16 x.2.t.c,.int .u16 x.2.t.d,.int .i64 x.2.s,.int .i64 x.2.l]∧R={tmps:=#[.slice p xs.length c,undef,.bool false,.func (.func 145) #[] #[],.pointer (some ⟨f,0,none⟩),.pointer (some ⟨g,0,none⟩),.slice p xs.length c,.int .i64 xs.length,.bool false,.bool false,.slice p xs.length c,.func (.func 145) #[] #[],.bool false,.bool false,.slice p xs.length c,.func (.func 198) #[] #[.pointer (some ⟨o.heap.size,0,none⟩)],.agg #[.int .u32 x.1.t.a,.int .u32 x.1.t.b,.int .u16 x.1.t.c,.int .u16 x.1.t.d,.int .i64 x.1.s,.int .i64 x.1.l],.agg #[.int .u32 x.2.t.a,.int .u32 x.2.t.b,.int .u16 x.2.t.c,.int .u16 x.2.t.d,.int .i64 x.2.s,.int .i64 x.2.l],undef,undef,undef,undef,undef,undef],defers:= []})
    (fun x R A B h hm=>by
     obtain⟨f,g,Z,P,q3,Q,r,u,q7⟩:=h
     exact⟨f,g,Z,Xl P hm.size,q3,Xl Q hm.size,by rw [Qf (hm.same f P Om)];exact r,by rw [Qf (hm.same g Q Om)];exact u,q7⟩)
    ?assign ?body ?done ?stop
   case assign=>
    intro y i x W K a0 E v L J
    gi_wp2
    repeat(rw [Oper.semAt_some _ _ _ (by intro c h;cases h)];go_simp;gi_wp2)
    refine J _ _ ?_ v ⟨W.heap.size,W.heap.size+1,a0,?_,Om,?_,?_,?_,rfl⟩
    ·exact Mv.al _ (Mv.al _ (Mv.refl _ _))
    ·simp;omega
    ·simp
    ·simp [go_sem]
    ·simp [go_sem]
   case body=>
    rintro y i x R W a9 ⟨rr,hr⟩ a0 E v L ⟨f,g,Z,P,q3,Q,r,u,rfl⟩;have a4:i<(YS xs).length:=(List.getElem?_eq_some_iff.1 L).1;have U:(YS xs)[i]=x:=(List.getElem?_eq_some_iff.1 L).2;have c0:W.cell? ⟨f,0,none⟩=some (.int .u32 x.1.t.a):=by rw [Qa,r];rfl
    have c1:W.cell? ⟨f,1,none⟩=some (.int .u32 x.1.t.b):=by rw [Qa,r];rfl
    have c2:W.cell? ⟨f,2,none⟩=some (.int .u16 x.1.t.c):=by rw [Qa,r];rfl
    have c3:W.cell? ⟨f,3,none⟩=some (.int .u16 x.1.t.d):=by rw [Qa,r];rfl
    have d0:W.cell? ⟨g,0,none⟩=some (.int .u32 x.2.t.a):=by rw [Qa,u];rfl
    have d1:W.cell? ⟨g,1,none⟩=some (.int .u32 x.2.t.b):=by rw [Qa,u];rfl
    have d2:W.cell? ⟨g,2,none⟩=some (.int .u16 x.2.t.c):=by rw [Qa,u];rfl
    have d3:W.cell? ⟨g,3,none⟩=some (.int .u16 x.2.t.d):=by rw [Qa,u];rfl
    have HI:=Xh v;have V:=Xh U;clear v U L hr r u E
    cases Y:decide (0≤YQ x.1.t x.2.t)
    ·have a7:=of_decide_eq_false Y;have N:=Xh (show QdE x=true from decide_eq_true Om)
     gi_wp2
     repeat(rw [Oper.semAt_some _ _ _ (by intro c h;cases h)];go_simp;gi_wp2)
     refine⟨trivial,CallsIn.mono (CallsIn.inRound y (callsIn_wide.2 (Qgl x.1.t x.2.t _))) ?_⟩;rintro e w6 ⟨rfl,S⟩
     gi_wp2
     repeat(rw [Oper.semAt_some _ _ _ (by intro c h;cases h)];go_simp;gi_wp2)
     exact⟨(Mv.of_ext S),fun j M hjl=>by
      rcases Nat.lt_or_ge j i with h|h
      ·exact HI.out j h hjl
      ·obtain rfl:j=i:=by omega
       rw [V.out];exact N.out⟩
    ·have a8:=of_decide_eq_true Y;have N:=Xh (show QdE x=false from decide_eq_false Om)
     gi_wp2
     repeat(rw [Oper.semAt_some _ _ _ (by intro c h;cases h)];go_simp;gi_wp2)
     refine⟨trivial,CallsIn.mono (CallsIn.inRound y (callsIn_wide.2 (Qgl x.1.t x.2.t _))) ?_⟩;rintro e w6 ⟨rfl,S⟩
     gi_wp2
     repeat(rw [Oper.semAt_some _ _ _ (by intro c h;cases h)];go_simp;gi_wp2)
     refine wpIn_goto ?_;exact⟨Mv.of_ext S,rfl,List.all_eq_false.2 ⟨x,by rw [←V.out];exact List.getElem_mem a4,by rw [N.out];decide⟩⟩
   case done=>
    rintro W v E J;have a5:=Xh (show QJ xs=true by rw [D.out];exact List.all_eq_true.2 fun z hz=>by obtain⟨j,M,rfl⟩:=List.mem_iff_getElem.1 hz;exact v j M M);clear v;go_wp2;simp only [Exit.jump];refine⟨by simp,.inl ⟨_,_,rfl,run_takeDeferred J,?_⟩⟩;refine⟨_,results_tmp rfl _ _ _,by rw [a5.out];rfl,?_⟩;have O:Ext w W:=Mv.ext_of (q.tr G) E (fun k h=>by rcases h with h|h<;>exact h.elim);exact Mv.ext_of O (Mv.put (C:=fun k=>k=m.heap.size) _ _ _ rfl) (fun k h=>by have:=q.size;have:=G.size;omega)
   case stop=>
    rintro cc W ⟨rfl,hn⟩ E J;have a6:=Xh (show QJ xs=false by rw [D.out];exact hn);clear hn;refine wpIn_goto ?_;simp only [Exit.inBlock,Exit.then,Exit.jump];refine⟨rfl,?_⟩;go_wp2;rw [Exit.noGoto_ret];refine⟨by simp,.inl ⟨_,_,rfl,run_takeDeferred J,?_⟩⟩;refine⟨_,results_tmp rfl _ _ _,by rw [a6.out];rfl,?_⟩;have O:Ext w W:=Mv.ext_of (q.tr G) E (fun k h=>by rcases h with h|h<;>exact h.elim);exact Mv.ext_of O (Mv.put (C:=fun k=>k=m.heap.size) _ _ _ rfl) (fun k h=>by have:=q.size;have:=G.size;omega)
  ·have D:=Xh (show QJ xs=false by unfold QJ;rw [H];simp);rw [H]at F
   go_wp2_with (go_at_call 76;(refine(F.out _ (Ext.rf _)).mono ?_);rintro e o ⟨rfl,q⟩)
   go_step3;refine⟨rfl,?_⟩;go_wp2;rw [Exit.noGoto_ret];exact⟨_,results_tmp rfl _ _ _,by rw [D.out];rfl,q⟩
 ·have D:=Xh (show QJ xs=false by unfold QJ;rw [show decide (xs.length≤32)=false from decide_eq_false (by have:=of_decide_eq_true X;omega)];rfl);go_wp2;go_step3;refine⟨rfl,?_⟩;go_wp2;rw [Exit.noGoto_ret];exact⟨_,results_tmp rfl _ _ _,by rw [D.out];rfl,Ext.rf _⟩
def Co.cl(x:Co):List Value:= [.int .u32 x.t.a,.int .u32 x.t.b,.int .u16 x.t.c,.int .u16 x.t.d,.int .i64 x.s,.int .i64 x.l]
def flC(xs:List Co):List Value:=xs.flatMap Co.cl
theorem Q8: ∀xs:List Co,(flC xs).length=xs.length*6
 | []=>rfl
 |x::xs=>by
  show(Co.cl x++flC xs).length=_;rw [List.length_append,Q8 xs,List.length_cons];show 6+_=_;omega
theorem Qbk: ∀(xs:List Co) (k j:Nat) (hk:k<xs.length),j<6→(flC xs)[k*6+j]?=(xs[k]).cl[j]?
 |x::xs,0,j,_,hj=>by
  show(Co.cl x++flC xs)[0*6+j]?=_;rw [Nat.zero_mul,Nat.zero_add,List.getElem?_append_left (by show j<6;exact hj)];rfl
 |x::xs,k+1,j,hk,hj=>by
  show(Co.cl x++flC xs)[(k+1)*6+j]?=_;have a:(Co.cl x).length=6:=rfl;rw [List.getElem?_append_right Om,a,show(k+1)*6+j- 6=k*6+j by omega];exact Qbk xs k j (by simpa using hk) hj
theorem QhL(xs:List Co)(x:Co):flC (xs++ [x])=flC xs++x.cl:=by unfold flC;simp
theorem Qbl(xs:List Co): ∀u∈flC xs,u.oneCell'=true:=by
 intro u a;unfold flC at a;rw [List.mem_flatMap]at a;obtain⟨x,_,b⟩:=a;unfold Co.cl at b;simp only [List.mem_cons,List.not_mem_nil,or_false]at b;rcases b with rfl|rfl|rfl|rfl|rfl|rfl<;>rfl
theorem QcU:(Tryz.prog.info? 66).map (fun i=>(i.zero,i.size,i.bytes))=some (some (.agg #[.int .u32 0,.int .u32 0,.int .u16 0,.int .u16 0,.int .i64 0,.int .i64 0]),6,32):=Kr
theorem SlC.own{v:Value}{xs:List Co}(h:w.ownsRow base 66 6 v xs.length (flC xs)): ∃p c,v= .slice p xs.length c∧xs.length≤c∧SlC w p xs:=by
 rcases h.2 with⟨rfl,h0⟩|⟨g,cap,cur,rfl,hg,hgb,h1,h2,h3,h4⟩
 ·have:xs= []:=List.length_eq_zero_iff.1 h0;subst this;exact⟨none,0,rfl,Nat.le_refl _,SlC.nil _ _⟩
 ·refine⟨some ⟨g,0,none⟩,cap,rfl,h1,fun k hk=> ?_⟩;have a: ∀j,j<6→w.cell? ⟨g,0+k*6+j,none⟩=(xs[k]).cl[j]?:=fun j hj=>by
   rw [←Qbk xs k j hk hj,←h4,List.getElem?_take_of_lt (by have:=Q8 xs;omega)];simp only [World.cell?,hgb];simp
  exact⟨g,0,rfl,(Array.getElem?_eq_some_iff.1 hgb).1,a 0 Om,a 1 Om,a 2 Om,a 3 Om,a 4 Om,a 5 Om⟩
theorem Qgr(p:Option Addr)(xs:List Co)(c:Nat)(w:World)(hs:SlC w p xs)(hl:xs.length≤1000):
  Calls Tryz.prog 79 #[.slice p xs.length c] w fun e w'=> ∃v,e= .returned v∧w'.ownsRow w.heap.size 66 6 v xs.length (flC xs)∧Ext w w':=by
 obtain⟨F,G,H,I,J⟩:=info_parts QcU;have T:=fun(W:World) (a:Option Addr) (n c:Nat)=>Lib.run_eql_slice_nil (P:=Tryz.prog) W 25 66 a n c 0 0 Tryz.underlying25
 cases p with
 |none=>
  have x:xs= []:=by
   cases xs with
   |nil=>rfl
   |cons m r=>obtain⟨b,f,h,_⟩:=hs 0 (by simp);cases h
  subst x
  go_enter Tryz.func79,Tryz.ntmps79
  go_wp2;go_ret;exact⟨_,rfl,World.ownsRow_nil _ _ _ _,Ext.rf _⟩
 |some a=>
  have g:(w.alloc (.cells #[] 66)).ownsRow w.heap.size 66 6 (.slice (some ⟨w.heap.size,0,none⟩) 0 0) 0 []:=⟨rfl,.inr ⟨w.heap.size,0,#[],rfl,Nat.le_refl _,World.alloc_heap_new _ _,Nat.le_refl _,by unfold maxLen;omega,rfl,rfl⟩⟩;have i: ∀j u,(flC xs)[j]?=some u→(w.alloc (.cells #[] 66)).cell? (a.add j)=some u:=by
   intro j u o;have U:j<xs.length*6:=by have:=(List.getElem?_eq_some_iff.1 o).1;rwa [Q8]at this
   have d:j/6<xs.length:=by omega
   obtain⟨b,f,h,K,L,M,N,O,Q,R⟩:=hs (j/6) d
   cases h
   have e:(⟨b,f,none⟩:Addr).add j=⟨b,f+j,none⟩:=by unfold Addr.add;split<;>simp_all
   have l:=Qbk xs (j/6) (j % 6) d (Nat.mod_lt _ Om);rw [show j/6*6+j % 6=j by omega]at l;rw [e,World.cell?_alloc_past _ _ _ K,←o,l];have V:j % 6<6:=Nat.mod_lt _ Om;generalize X:j/6=q at*;generalize Y:j % 6=r at*;have y:j=q*6+r:=by omega
   subst y;obtain rfl|rfl|rfl|rfl|rfl|rfl:r=0∨r=1∨r=2∨r=3∨r=4∨r=5:=by omega
   ·exact L
   ·exact M
   ·exact N
   ·exact O
   ·exact Q
   ·exact R
  have z:=Xh i;have A:=Xh g;clear i g hs
  go_enter Tryz.func79,Tryz.ntmps79
  go_wp2_with (at_builtin;refine wpList_append_own _ rfl _ _ 25 rfl w.heap.size 66 F (.agg #[.int .u32 0,.int .u32 0,.int .u16 0,.int .u16 0,.int .i64 0,.int .i64 0]) 6 32 Tryz.underlying25 G H I J rfl Dc _ _ _ rfl A.out a xs.length c (flC xs) rfl (by simp [Q8]) z.out (Qbl xs) (by unfold maxLen;omega) Om (by simp) ?_;intro S Z s t _;have B:=Xh s;have D:=Xh t;clear s t)
  go_ret;refine⟨S,rfl,?_,?_⟩
  ·have:=B.out;rw [Nat.zero_add,List.nil_append]at this;exact this
  ·exact Mv.ext (C:=fun k=>k=w.heap.size) ((Mv.al _ (Mv.refl _ _)).trans (Mv.of_grown D.out fun r e=> .inl (by have E:some w.heap.size=some r:=e;injection E with h;exact h.symm))) (fun k d e=>by omega)
theorem Qeg{row:Option Nat}{size:Nat}{v:Value}{n:Nat}(h:A.ownsRow base e size v n xs)(hg:A.grownBy B row)(hne: ∀g,v.ownBlock=some g→row≠some g):B.ownsRow base e size v n xs:=by
 refine⟨h.1,?_⟩;rcases h.2 with h|⟨g,cap,cur,rfl,hb,hgb,h1,h2,h3,h4⟩
 ·exact .inl h
 ·have a:Mv (fun k=>row=some k) A B:=Mv.of_grown hg fun r e=> .inl e;exact .inr ⟨g,cap,cur,rfl,hb,(a.same g (Array.getElem?_eq_some_iff.1 hgb).1 (hne g rfl)).trans hgb,h1,h2,h3,h4⟩
theorem Zl{size:Nat}{v:Value}{n:Nat}(h:A.ownsRow base e size v n xs)(he:Ext A B):B.ownsRow base e size v n xs:=
 Qw (C:=fun _=>False) h (Mv.of_ext he) (fun _ _ h=>h)
theorem QbW{size:Nat}{v:Value}{n:Nat}(h:A.ownsRow base e size v n xs): ∀g,v.ownBlock=some g→g<A.heap.size:=by
 intro g a;rcases h.2 with⟨rfl,_⟩|⟨b,cap,cur,rfl,hb,hgb,_⟩
 ·cases a
 ·have e:b=g:=by simpa [Value.ownBlock]using a
  subst e;exact(Array.getElem?_eq_some_iff.1 hgb).1
theorem Qon(x:Co): ∀u∈x.cl,u.oneCell'=true:=by
 intro u a;unfold Co.cl at a;simp only [List.mem_cons,List.not_mem_nil,or_false]at a;rcases a with rfl|rfl|rfl|rfl|rfl|rfl<;>rfl
theorem QdF(W:World)(x:Co)(t:TypeId): ∀j u,x.cl[j]?=some u→(W.alloc (.cells #[.int .u32 x.t.a,.int .u32 x.t.b,.int .u16 x.t.c,.int .u16 x.t.d,.int .i64 x.s,.int .i64 x.l] t)).cell? ((⟨W.heap.size,0,none⟩:Addr).add j)=some u:=by
 intro j u f;have g:j<6:=(List.getElem?_eq_some_iff.1 f).1;have e:(⟨W.heap.size,0,none⟩:Addr).add j=⟨W.heap.size,j,none⟩:=by unfold Addr.add;split<;>simp_all
 rw [e,Qa,Zn,←f];obtain rfl|rfl|rfl|rfl|rfl|rfl:j=0∨j=1∨j=2∨j=3∨j=4∨j=5:=by omega
 all_goals rfl
def Qeh(so:Co→Bool)(xs:List Co)(k:Nat):List Co:=(xs.take k).filter so
def noN(so:Co→Bool)(xs:List Co)(k:Nat):List Co:=(xs.take k).filter fun x=>!so x
theorem Qoo(so:Co→Bool)(xs:List Co)(k:Nat)(x:Co)(h:k<xs.length)(hx:xs[k]=x)(hs:so x=true):Qeh so xs (k+1)=Qeh so xs k++ [x]∧noN so xs (k+1)=noN so xs k:=by
 unfold Qeh noN;rw [List.take_succ_eq_append_getElem h,List.filter_append,List.filter_append,hx];simp [hs]
theorem QrU(so:Co→Bool)(xs:List Co)(k:Nat)(x:Co)(h:k<xs.length)(hx:xs[k]=x)(hs:so x=false):Qeh so xs (k+1)=Qeh so xs k∧noN so xs (k+1)=noN so xs k++ [x]:=by
 unfold Qeh noN;rw [List.take_succ_eq_append_getElem h,List.filter_append,List.filter_append,hx];simp [hs]
theorem Qop(so:Co→Bool)(xs:List Co)(k:Nat):(Qeh so xs k).length≤xs.length∧(noN so xs k).length≤xs.length:=by
 unfold Qeh noN;exact⟨Xt (List.length_filter_le _ _) (List.length_take_le' _ _),Xt (List.length_filter_le _ _) (List.length_take_le' _ _)⟩
def QuQ(base:Nat)(w:World)(v1 v2:Value)(l1 l2:List Co):Prop:=
 w.ownsRow base 66 6 v1 l1.length (flC l1)∧w.ownsRow base 66 6 v2 l2.length (flC l2)∧ ∀g,v1.ownBlock=some g→v2.ownBlock≠some g
theorem ZJ(g:Nat)(lb:Array Value)(eg: ∀args w,(callFunc g args).run Tryz.prog w= .ok (.enter g args) w)(so:Co→Bool)(p:Option Addr)(xs:List Co)(c:Nat)(w:World)
  (hs:SlC w p xs)(hl:xs.length≤1000)(hf: ∀x W,x∈xs→Ext w W→Cr g (#[.agg #[.int .u32 x.t.a,.int .u32 x.t.b,.int .u16 x.t.c,.int .u16 x.t.d,.int .i64 x.s,.int .i64 x.l]]++lb) W (.bool (so x))):
  Calls Tryz.prog 139 #[.slice p xs.length c,.func (.func g) #[] lb] w fun e w'=> ∃v1 v2,e= .returned (.tuple #[v1,v2])∧QuQ w.heap.size w' v1 v2 (xs.filter so) (xs.filter fun x=>!so x)∧Ext w w':=by
 obtain⟨i0,hi,a2,a3,a4⟩:=info_parts QcU;have HF:=Xh hf;clear hf
 go_enter Tryz.func139,Tryz.ntmps139
 go_wp2
 go_loopw [4,5,7,10] (fun vy vn _ a wr=> ∃k:Nat,k≤xs.length∧a= .int .i64 k∧QuQ w.heap.size wr vy vn (Qeh so xs k) (noN so xs k)∧Ext w wr) (fun _ _ _ a _=>xs.length- (intOf a).toNat)
 case atStart=>exact⟨0,Nat.zero_le _,rfl,⟨World.ownsRow_nil _ _ _ _,World.ownsRow_nil _ _ _ _,fun g h=>by cases h⟩,Ext.rf _⟩
 case round=>
  obtain⟨k,hk,rfl,⟨D,E,S⟩,T⟩:=hrel
  by_cases R:k<xs.length
  ·have b0:(k:Int)<xs.length:=by omega
   obtain⟨b,b5,rfl,hb,c0,c1,c2,c3,c4,c5⟩:=(hs.ext T) k R;have a5:Lt b wr:=hb;obtain⟨x,y⟩: ∃x,xs[k]=x:=⟨_,rfl⟩;have U:x∈xs:=by rw [←y];exact List.getElem_mem R
   rw [y]at c0 c1 c2 c3 c4 c5;have P:=Xh D;have Q:=Xh E;have m:=Xh S;have b3:=Qop so xs k;clear D E S
   go_upto_region 4 with(fail)
   obtain⟨f,F⟩: ∃f,wr.alloc (.cells #[.int .u32 x.t.a,.int .u32 x.t.b,.int .u16 x.t.c,.int .u16 x.t.d,.int .i64 x.s,.int .i64 x.l] 66)=f:=⟨_,rfl⟩;have z:Ext wr f:=by rw [←F];exact Ea
   have j:Qc f wr.heap.size=#[.int .u32 x.t.a,.int .u32 x.t.b,.int .u16 x.t.c,.int .u16 x.t.d,.int .i64 x.s,.int .i64 x.l]:=by rw [←F];simp [go_sem]
   have lx:Lt wr.heap.size f:=by rw [←F];simp [Lt]
   rw [F];have b4:=T.size;clear F c0 c1 c2 c3 c4 c5 a5 hb;generalize wr.heap.size=BX at*;have x0:f.cell? ⟨BX,0,none⟩=some (.int .u32 x.t.a):=by rw [Qa,j];rfl
   have x1:f.cell? ⟨BX,1,none⟩=some (.int .u32 x.t.b):=by rw [Qa,j];rfl
   have x2:f.cell? ⟨BX,2,none⟩=some (.int .u16 x.t.c):=by rw [Qa,j];rfl
   have x3:f.cell? ⟨BX,3,none⟩=some (.int .u16 x.t.d):=by rw [Qa,j];rfl
   have x4:f.cell? ⟨BX,4,none⟩=some (.int .i64 x.s):=by rw [Qa,j];rfl
   have x5:f.cell? ⟨BX,5,none⟩=some (.int .i64 x.l):=by rw [Qa,j];rfl
   have A:=T.tr z;have n:=HF.out x f U A;clear j
   cases u:so x
   ·rw [u]at n;have V:=Xh n;obtain⟨G,H⟩:=QrU so xs k x R y u;have X:=Xh G;have Y:=Xh H;clear n G H y u U
    go_wp2_with (first|(at_builtin;go_must (refine wpList_append_own_at _ rfl _ _ 25 rfl w.heap.size 66 i0 (.agg #[.int .u32 0,.int .u32 0,.int .u16 0,.int .u16 0,.int .i64 0,.int .i64 0]) 6 32 Tryz.underlying25 hi a2 a3 a4 rfl Dc u5 _ _ rfl (q.out.alloc _) ⟨L.heap.size,0,none⟩ 1 1 x.cl rfl rfl (QdF _ _ _) (Qon x) (by unfold maxLen;omega) Om (by simp;omega) ?_);intro v' w3 I J _ K;have Z:=Xh I;have B:=Xh J;have a0:=Xh K;clear I J K)|((with_reducible refine(V.out).mono ?_);rintro e L ⟨rfl,i⟩;obtain⟨a7,a8,a9,a1,-⟩:=QU i;(try simp at a1);have o:=Xh (Zl P.out (z.tr i));have q:=Xh (Zl Q.out (z.tr i));have a6:=(A.tr i).size))
    go_roundw
    case rel=>
     have gX:Ext w (L.alloc (.cells #[.int .u32 x.t.a,.int .u32 x.t.b,.int .u16 x.t.c,.int .u16 x.t.d,.int .i64 x.s,.int .i64 x.l] 66)):=Ext.al (A.tr i) _;refine⟨k+1,Om,by go_num,⟨?_,?_,?_⟩,?_⟩
     ·rw [X.out];exact Qeg (o.out.alloc _) B.out (fun g h e=>m.out g h e)
     ·rw [Y.out,List.length_append,QhL];exact Z.out
     ·intro M N O;have b1:=QbW o.out;have b2:=QbW q.out;rcases a0.out with e|e
      ·exact m.out M N (e▸O)
      ·have:=b1 M N;rw [O]at e;simp at e;omega
     ·exact Mv.ext_of gX (Mv.of_grown (C:=fun k=>w.heap.size≤k) B.out fun r e=> .inl (Qi q.out r e)) (fun k h=>h)
    case measure=>simp [intOf];omega
   ·rw [u]at n;have V:=Xh n;obtain⟨G,H⟩:=Qoo so xs k x R y u;have X:=Xh G;have Y:=Xh H;clear n G H y u U
    go_wp2_with (first|(at_builtin;go_must (refine wpList_append_own_at _ rfl _ _ 25 rfl w.heap.size 66 i0 (.agg #[.int .u32 0,.int .u32 0,.int .u16 0,.int .u16 0,.int .i64 0,.int .i64 0]) 6 32 Tryz.underlying25 hi a2 a3 a4 rfl Dc u4 _ _ rfl (o.out.alloc _) ⟨L.heap.size,0,none⟩ 1 1 x.cl rfl rfl (QdF _ _ _) (Qon x) (by unfold maxLen;omega) Om (by simp;omega) ?_);intro v' w3 I J _ K;have Z:=Xh I;have B:=Xh J;have a0:=Xh K;clear I J K)|((with_reducible refine(V.out).mono ?_);rintro e L ⟨rfl,i⟩;obtain⟨a7,a8,a9,a1,-⟩:=QU i;(try simp at a1);have o:=Xh (Zl P.out (z.tr i));have q:=Xh (Zl Q.out (z.tr i));have a6:=(A.tr i).size))
    go_roundw
    case rel=>
     have gX:Ext w (L.alloc (.cells #[.int .u32 x.t.a,.int .u32 x.t.b,.int .u16 x.t.c,.int .u16 x.t.d,.int .i64 x.s,.int .i64 x.l] 66)):=Ext.al (A.tr i) _;refine⟨k+1,Om,by go_num,⟨?_,?_,?_⟩,?_⟩
     ·rw [X.out,List.length_append,QhL];exact Z.out
     ·rw [Y.out];exact Qeg (q.out.alloc _) B.out (fun g h e=>m.out g e h)
     ·intro M N O;have b1:=QbW o.out;have b2:=QbW q.out;rcases a0.out with e|e
      ·exact m.out M (e▸N) O
      ·have:=b2 M O;rw [N]at e;simp at e;omega
     ·exact Mv.ext_of gX (Mv.of_grown (C:=fun k=>w.heap.size≤k) B.out fun r e=> .inl (Qi o.out r e)) (fun k h=>h)
    case measure=>simp [intOf];omega
  ·obtain rfl:k=xs.length:=by omega
   have e1:Qeh so xs xs.length=xs.filter so:=by unfold Qeh;rw [List.take_length]
   have e2:noN so xs xs.length=xs.filter fun x=>!so x:=by unfold noN;rw [List.take_length]
   rw [e1]at D;rw [e2]at E;have P:=Xh D;have Q:=Xh E;have m:=Xh S;clear D E S;go_wp2;exact bodyPost_ret (v:= .tuple #[u4,u5]) (by simp [results,Tryz.results139,go_sem]) rfl ⟨u4,u5,rfl,⟨P.out,Q.out,m.out⟩,T⟩
def Z6(idle now:Int):Bool:=decide (0≤idle)&&decide (0≤now)&&decide (now≤1099511627776)
def idleB(idle now:Int)(x:Co):Bool:=Z6 idle now&&decide (x.l≤now- idle)
theorem Qmw(x:Co)(idle now:Int)(ba bn bi:Nat)(w:World)(hi:idle≤9223372036854775807)(la:Lt ba w)(ln:Lt bn w)(li:Lt bi w)(ha:w.cell? ⟨ba,0,none⟩=some (.bool (Z6 idle now)))(hn:w.cell? ⟨bn,0,none⟩=some (.int .i64 now))(hd:w.cell? ⟨bi,0,none⟩=some (.int .i64 idle)):
  Cr 142 #[.agg #[.int .u32 x.t.a,.int .u32 x.t.b,.int .u16 x.t.c,.int .u16 x.t.d,.int .i64 x.s,.int .i64 x.l],.pointer (some ⟨ba,0,none⟩),.pointer (some ⟨bn,0,none⟩),.pointer (some ⟨bi,0,none⟩)] w (.bool (idleB idle now x)):=by
 cases e:Z6 idle now
 ·rw [e]at ha;have f:=Xh (show idleB idle now x=false by unfold idleB;rw [e];rfl);clear e
  go_enter Tryz.func142,Tryz.ntmps142
  go_wp2;go_ret;refine⟨by rw [f.out];rfl,?_⟩
  (exact Xe)
 ·rw [e]at ha;have f:=Xh (show idleB idle now x=decide (x.l≤now- idle)by unfold idleB;rw [e];rfl);unfold Z6 at e;simp only [Bool.and_eq_true,decide_eq_true_eq]at e;obtain⟨⟨g,h⟩,i⟩:=e
  go_enter Tryz.func142,Tryz.ntmps142
  go_wp2;go_ret;refine⟨by rw [f.out];rfl,?_⟩
  (exact Xe)
theorem Y8(x:Co)(idle now:Int)(ba bn bi:Nat)(w:World)(hi:idle≤9223372036854775807)(la:Lt ba w)(ln:Lt bn w)(li:Lt bi w)(ha:w.cell? ⟨ba,0,none⟩=some (.bool (Z6 idle now)))(hn:w.cell? ⟨bn,0,none⟩=some (.int .i64 now))(hd:w.cell? ⟨bi,0,none⟩=some (.int .i64 idle)):
  Cr 142 (#[.agg #[.int .u32 x.t.a,.int .u32 x.t.b,.int .u16 x.t.c,.int .u16 x.t.d,.int .i64 x.s,.int .i64 x.l]]++ #[.pointer (some ⟨ba,0,none⟩),.pointer (some ⟨bn,0,none⟩),.pointer (some ⟨bi,0,none⟩)]) w (.bool (idleB idle now x)):=by
 rw [show(#[Value.agg #[.int .u32 x.t.a,.int .u32 x.t.b,.int .u16 x.t.c,.int .u16 x.t.d,.int .i64 x.s,.int .i64 x.l]]++ #[Value.pointer (some ⟨ba,0,none⟩),.pointer (some ⟨bn,0,none⟩),.pointer (some ⟨bi,0,none⟩)]:Array Value)=#[.agg #[.int .u32 x.t.a,.int .u32 x.t.b,.int .u16 x.t.c,.int .u16 x.t.d,.int .i64 x.s,.int .i64 x.l],.pointer (some ⟨ba,0,none⟩),.pointer (some ⟨bn,0,none⟩),.pointer (some ⟨bi,0,none⟩)]from rfl];exact Qmw x idle now ba bn bi w hi la ln li ha hn hd
theorem ZS: ∀args w,(callFunc 142 args).run Tryz.prog w= .ok (.enter 142 args) w:=enters_of Tryz.func142 Kr rfl
theorem Qoq(p:Option Addr)(xs:List Co)(c:Nat)(idle now:Int)(w:World)(hs:SlC w p xs)(hl:xs.length≤1000)(hi:idle≤9223372036854775807)(b1 b2 b3:Bool)(e1:decide (0≤idle)=b1)(e2:decide (0≤now)=b2)(e3:decide (now≤1099511627776)=b3):
  Calls Tryz.prog 69 #[.slice p xs.length c,.int .i64 idle,.int .i64 now] w fun e w'=> ∃v1 v2,e= .returned (.tuple #[v1,v2])∧QuQ w.heap.size w' v1 v2 (xs.filter (idleB idle now)) (xs.filter fun x=>!idleB idle now x)∧Ext w w':=by
 have n:=Xh (show Z6 idle now=(b1&&b2&&b3)by unfold Z6;rw [e1,e2,e3])
 cases b1<;>cases b2<;>cases b3
 all_goals
  go_enter Tryz.func69,Tryz.ntmps69
  go_upto_region 2 with(fail)
  obtain⟨a,b⟩: ∃a,((w.alloc (.cells #[.int .i64 idle] 3)).alloc (.cells #[.int .i64 now] 3)).alloc (.cells #[.bool (Z6 idle now)] 4)=a:=⟨_,rfl⟩;have d:=n.out;simp only [Bool.and_true,Bool.and_false]at d;rw [d]at b;rw [b];have f:Ext w a:=by rw [←b];exact Ext.al (Ext.al Ea _) _
  have o:a.cell? ⟨w.heap.size,0,none⟩=some (.int .i64 idle):=by rw [←b];simp [go_sem]
  have q:a.cell? ⟨w.heap.size+1,0,none⟩=some (.int .i64 now):=by rw [←b];simp [go_sem]
  have r:a.cell? ⟨w.heap.size+1+1,0,none⟩=some (.bool (Z6 idle now)):=by rw [d,←b];simp [go_sem]
  have g:Lt w.heap.size a:=by rw [←b];simp [Lt];try omega
  have h:Lt (w.heap.size+1) a:=by rw [←b];simp [Lt];try omega
  have i:Lt (w.heap.size+1+1) a:=by rw [←b];simp [Lt];try omega
  have s:=hs.ext f;have j:w.heap.size≤a.heap.size:=f.size;clear b hs;have t:=Xh (fun(x:Co) (W:World) (_:x∈xs) (hE:Ext a W)=>Y8 x idle now _ _ _ W hi (Xl i hE.size) (Xl h hE.size) (Xl g hE.size) ((hE.cell (p:=⟨w.heap.size+1+1,0,none⟩) i).trans r) ((hE.cell (p:=⟨w.heap.size+1,0,none⟩) h).trans q) ((hE.cell (p:=⟨w.heap.size,0,none⟩) g).trans o))
  go_wp2_with (go_at_call 139;go_must (with_reducible refine(ZJ 142 #[.pointer (some ⟨w.heap.size+1+1,0,none⟩),.pointer (some ⟨w.heap.size+1,0,none⟩),.pointer (some ⟨w.heap.size,0,none⟩)] ZS (idleB idle now) p xs c _ s hl t.out).mono ?_);rintro e w' ⟨v1,v2,rfl,⟨k,l,m⟩,A⟩;have u:=Xh k;have y:=Xh l;have z:=Xh m;clear k l m)
  exact bodyPost_ret (v:= .tuple #[v1,v2]) (by simp [results,Tryz.results69,go_sem]) rfl ⟨v1,v2,rfl,⟨QA u.out j,QA y.out j,z.out⟩,f.tr A⟩
def Qor(g:Nat)(lb:Array Value)(f:List Co→Nat→List Co)(W0:World):Prop:=
 ∀(base:Nat) (W:World) (v:Value) (xs:List Co) (k:Nat),Ext W0 W→W0.heap.size≤base→xs.length≤1000→W.ownsRow base 66 6 v xs.length (flC xs)→k<xs.length→
  Calls Tryz.prog g (#[v,.int .i64 k]++lb) W fun e w'=> ∃v',e= .returned v'∧w'.ownsRow base 66 6 v' (f xs k).length (flC (f xs k))∧Mv (fun b=>base≤b) W w'
def withOk(xs:List Co)(t:Tu):Bool:=okC xs t&&QJ xs
def withX(f:List Co→Nat→List Co)(xs:List Co)(t:Tu):List Co:=if withOk xs t=true then f xs (atC xs t)else xs
theorem QuR{xs:List Co}{t:Tu}(h:okC xs t=true):atC xs t<xs.length:=by
 unfold okC at h
 cases a:xs[atC xs t]? with
 |none=>rw [a]at h;cases h
 |some x=>exact(List.getElem?_eq_some_iff.1 a).1
theorem QhM(g:Nat)(lb:Array Value)(eg: ∀args w,(callFunc g args).run Tryz.prog w= .ok (.enter g args) w)(f:List Co→Nat→List Co)(t:Tu)(p:Option Addr)(xs:List Co)(c:Nat)(w:World)
  (hs:SlC w p xs)(hl:xs.length≤1000)(hf:Qor g lb f w):
  Calls Tryz.prog 188 #[.slice p xs.length c,tu t.a t.b t.c t.d,.func (.func g) #[] lb] w fun e w'=> ∃v,e= .returned (.tuple #[v,.bool (withOk xs t)])∧w'.ownsRow w.heap.size 66 6 v (withX f xs t).length (flC (withX f xs t))∧Ext w w':=by
 have L:=Xh hf;clear hf
 go_enter Tryz.func188,Tryz.ntmps188
 go_upto_region 1 with(fail)
 obtain⟨q,y⟩: ∃q,w.alloc (.cells #[.int .u32 t.a,.int .u32 t.b,.int .u16 t.c,.int .u16 t.d] 64)=q:=⟨_,rfl⟩;have u:Ext w q:=by rw [←y];exact Ea
 have E:=hs.ext u;have n:YM q w.heap.size t:=by rw [←y];unfold YM;simp [go_sem,Lt]
 have M:w.heap.size≤q.heap.size:=u.size;rw [y];clear y hs
 go_upto_region 2 with(go_at_call 79;go_must (with_reducible refine(Qgr p xs c _ E hl).mono ?_);rintro e I ⟨v,rfl,o,C⟩)
 have n:=n.ext C;have F:=u.tr C;have o:I.ownsRow w.heap.size 66 6 v xs.length (flC xs):=QA o M;obtain⟨r,s,rfl,X,D⟩:=SlC.own o;have G:=Xh o;obtain⟨R,S,T,U⟩:=n.cells;have N:Lt w.heap.size I:=n.2;clear o E u C n
 go_upto_region 3 with(go_at_call 44;go_must (with_reducible refine(Qed t r xs s _ D hl).mono ?_);rintro e Y ⟨rfl,z⟩)
 have H:=D.ext z;have x:=F.tr z;have A:=Xh (Zl G.out z);clear D F R S T U N z G
 cases j:okC xs t
 ·have i:=Xh (show withOk xs t=false∧withX f xs t=xs by unfold withX withOk;rw [j];exact⟨rfl,rfl⟩);go_wp2;exact bodyPost_ret (v:= .tuple #[.slice r xs.length s,.bool false]) (by simp [results,Tryz.results188,go_sem]) rfl ⟨_,by rw [i.out.1],by rw [i.out.2];exact A.out,x⟩
 have O:=QuR j
 cases l:QJ xs
 ·have i:=Xh (show withOk xs t=false∧withX f xs t=xs by unfold withX withOk;rw [j,l];exact⟨rfl,rfl⟩);have B:=Xh l;clear l j
  go_wp2_with (go_at_call 75;(refine(ZG r xs s _ H hl).mono ?_);rw [B.out];rintro e J ⟨rfl,m⟩)
  exact bodyPost_ret (v:= .tuple #[.slice r xs.length s,.bool false]) (by simp [results,Tryz.results188,go_sem]) rfl ⟨_,by rw [i.out.1],by rw [i.out.2];exact Zl A.out m,x.tr m⟩
 ·have i:=Xh (show withOk xs t=true∧withX f xs t=f xs (atC xs t)by unfold withX withOk;rw [j,l];exact⟨rfl,rfl⟩);have B:=Xh l;clear l j;generalize atC xs t=k at*
  go_upto_region 5 with(go_at_call 75;(refine(ZG r xs s _ H hl).mono ?_);rw [B.out];rintro e J ⟨rfl,m⟩)
  have P:=Xh (L.out w.heap.size J _ xs k (x.tr m) (Nat.le_refl _) hl (Zl A.out m) O)
  go_wp2_with ((with_reducible refine(P.out).mono ?_);rintro e Z ⟨V,rfl,K,W⟩;have Q:=Xh K;clear K)
  exact bodyPost_ret (v:= .tuple #[V,.bool true]) (by simp [results,Tryz.results188,go_sem]) rfl ⟨_,by rw [i.out.1],by rw [i.out.2];exact Q.out,Mv.ext_of (x.tr m) W (fun _ h=>h)⟩
theorem Qgs{size n cap g:Nat}(h:w.ownsRow base e size (.slice (some ⟨g,0,none⟩) n cap) n xs)(i:Nat)(u:Value):
  (w.setCell ⟨g,i,none⟩ u).ownsRow base e size (.slice (some ⟨g,0,none⟩) n cap) n (xs.set i u):=by
 refine⟨by rw [List.length_set];exact h.1,?_⟩;rcases h.2 with⟨h0,_⟩|⟨g',cap',cur,e1,hb,hgb,h1,h2,h3,h4⟩
 ·cases h0
 ·cases e1
  refine .inr ⟨g,cap,cur.setIfInBounds i u,rfl,hb,?_,h1,h2,by simpa using h3,?_⟩
  ·simp only [World.setCell];rw [Array.getElem?_modify,if_pos rfl,hgb];rfl
  ·rw [Array.toList_setIfInBounds,List.take_set,h4]
theorem QrV(xs:List Co)(k:Nat)(x:Co)(y:Int)(hk:k<xs.length)(hx:xs[k]=x):(flC xs).set (k*6+5) (.int .i64 y)=flC (xs.set k {x with l:=y}):=by
 refine List.ext_getElem? fun j=> ?_
 by_cases i:j<xs.length*6
 ·have a:j/6<xs.length:=by omega
  have e:j/6*6+j % 6=j:=by omega
  have b:j % 6<6:=Nat.mod_lt _ Om;have c:=Qbk xs (j/6) (j % 6) a b;have d:=Qbk (xs.set k {x with l:=y}) (j/6) (j % 6) (by simpa using a) b;rw [e]at c d;rw [d,List.getElem?_set,List.getElem_set,c];have h:(flC xs).length=xs.length*6:=Q8 xs
  by_cases f:k=j/6
  ·subst f;rw [if_pos rfl];rw [hx]
   by_cases g:j % 6=5
   ·rw [if_pos Om,if_pos Om,g];rfl
   ·rw [if_neg Om];generalize j % 6=r at*;obtain rfl|rfl|rfl|rfl|rfl:r=0∨r=1∨r=2∨r=3∨r=4:=by omega
    all_goals rfl
  ·rw [if_neg f,if_neg Om]
 ·rw [List.getElem?_eq_none (by rw [List.length_set,Q8];omega),List.getElem?_eq_none (by rw [Q8,List.length_set];omega)]
def touchF(now:Int)(xs:List Co)(k:Nat):List Co:=match xs[k]? with|some x=>xs.set k {x with l:=max x.l (min now 1099511627776)}|none=>xs
theorem Qgt: ∀args w,(callFunc 189 args).run Tryz.prog w= .ok (.enter 189 args) w:=enters_of Tryz.func189 Kr rfl
theorem Qji(now:Int)(bn:Nat)(W0:World)(ln:Lt bn W0)(hn:W0.cell? ⟨bn,0,none⟩=some (.int .i64 now)):Qor 189 #[.pointer (some ⟨bn,0,none⟩)] (touchF now) W0:=by
 intro n W v a k o Q R d f;have K:=(o.cell (p:=⟨bn,0,none⟩) ln).trans hn;have L:Lt bn W:=Xl ln o.size;obtain⟨g,c,rfl,A,B,q,S⟩: ∃g c,v= .slice (some ⟨g,0,none⟩) a.length c∧n≤g∧g<W.heap.size∧Qs W g=(0,0)∧a.length≤c:=by
  rcases d.2 with⟨_,h0⟩|⟨g,c,cur,rfl,h1,hgb,h2,h3,h4,h5⟩
  ·omega
  ·exact⟨g,c,rfl,h1,(Array.getElem?_eq_some_iff.1 hgb).1,by unfold Qs;rw [hgb],h2⟩
 obtain⟨T,U,C,_,r⟩:=SlC.own d
 cases C
 obtain⟨b,V,D,_,E,F,G,H,I,J⟩:=r k f
 cases D
 obtain⟨x,e⟩: ∃x,a[k]=x:=⟨_,rfl⟩;rw [e,Nat.zero_add]at J;have s:=Xh d;have t:=Xh e;have M:(k:Int)<a.length:=by omega
 have N:Lt g W:=B;have O:=Ql q (k*6+5);have P: ¬bn=g:=by unfold Lt at ln;omega
 have u:=Xh (show touchF now a k=a.set k {x with l:=max x.l (min now 1099511627776)}by unfold touchF;rw [List.getElem?_eq_getElem f,e]);clear d r e E F G H I q;rw [show(#[Value.slice (some ⟨g,0,none⟩) a.length c,Value.int .i64 (k:Nat)]++ #[Value.pointer (some ⟨bn,0,none⟩)]:Array Value)=#[.slice (some ⟨g,0,none⟩) a.length c,.int .i64 (k:Nat),.pointer (some ⟨bn,0,none⟩)]from rfl]
 go_enter Tryz.func189,Tryz.ntmps189
 go_wp2_with (fail)
 go_region
 generalize j:(if 1099511627776<now then 1099511627776 else now)=z;generalize m:(if x.l<z then z else x.l)=y;have h:min now 1099511627776=z:=by rw [←j];split<;>omega
 have i:max x.l (min now 1099511627776)=y:=by rw [h,←m];split<;>omega
 have w:=Xh i;clear m i j h;go_wp2;go_ret;refine⟨_,rfl,?_,Mv.dr (Mv.st _ (.inl A) (Mv.refl _ _))⟩;show(W.setCell ⟨g,k*6+5,none⟩ (.int .i64 y)).ownsRow n 66 6 (.slice (some ⟨g,0,none⟩) a.length c) (touchF now a k).length (flC (touchF now a k));rw [u.out,w.out,List.length_set,←QrV a k x y f t.out];exact Qgs s.out _ _
theorem Qmx(t:Tu)(now:Int)(p:Option Addr)(xs:List Co)(c:Nat)(w:World)(hs:SlC w p xs)(hl:xs.length≤1000):
  Calls Tryz.prog 115 #[.slice p xs.length c,tu t.a t.b t.c t.d,.int .i64 now] w fun e w'=> ∃v,e= .returned (.tuple #[v,.bool (withOk xs t)])∧w'.ownsRow w.heap.size 66 6 v (withX (touchF now) xs t).length (flC (withX (touchF now) xs t))∧Ext w w':=by
 go_enter Tryz.func115,Tryz.ntmps115
 go_upto_region 1 with(fail)
 obtain⟨f,g⟩: ∃f,(w.alloc (.cells #[.int .u32 t.a,.int .u32 t.b,.int .u16 t.c,.int .u16 t.d] 64)).alloc (.cells #[.int .i64 now] 3)=f:=⟨_,rfl⟩;rw [g];have h:Ext w f:=by rw [←g];exact Ext.al Ea _
 have i:YM f w.heap.size t:=by rw [←g];unfold YM;simp [go_sem,Lt];try omega
 have k:f.cell? ⟨w.heap.size+1,0,none⟩=some (.int .i64 now):=by rw [←g];simp [go_sem]
 have l:Lt (w.heap.size+1) f:=by rw [←g];simp [Lt];try omega
 have m:=hs.ext h;have n:w.heap.size≤f.heap.size:=h.size;obtain⟨u,x,y,z⟩:=i.cells;have s:Lt w.heap.size f:=i.2;have o:=Xh (Qji now (w.heap.size+1) f l k);clear g hs i
 go_wp2_with (go_at_call 188;go_must (with_reducible refine(QhM 189 #[.pointer (some ⟨w.heap.size+1,0,none⟩)] Qgt (touchF now) t p xs c _ m hl o.out).mono ?_);rintro e w' ⟨v,rfl,j,r⟩;have q:=Xh j;clear j)
 exact bodyPost_ret (v:= .tuple #[v,.bool (withOk xs t)]) (by simp [results,Tryz.results115,go_sem]) rfl ⟨v,rfl,QA q.out n,h.tr r⟩
def Qck:List Value→Nat→List Value→List Value
 |xs,_,[]=>xs
 |xs,o,v::vs=>Qck (xs.set o v) (o+1) vs
theorem Y9: ∀(vs:List Value) (xs:List Value) (o:Nat),(Qck xs o vs).length=xs.length
 | [],_,_=>rfl
 |v::vs,xs,o=>by unfold Qck;rw [Y9 vs,List.length_set]
theorem JA: ∀(vs:List Value) (xs:List Value) (o j:Nat),j<xs.length→(Qck xs o vs)[j]?=if o≤j∧j<o+vs.length then vs[j- o]? else xs[j]?
 | [],xs,o,j,_=>by
  unfold Qck;rw [if_neg (by simp<;>omega)]
 |v::vs,xs,o,j,hj=>by
  unfold Qck;rw [JA vs _ _ _ (by simpa using hj),List.getElem?_set,List.length_cons]
  by_cases h:o=j
  ·subst h;rw [if_neg Om,if_pos rfl,if_pos hj,if_pos Om,Nat.sub_self];rfl
  ·by_cases a:o+1≤j∧j<o+1+vs.length
   ·rw [if_pos a,if_pos Om,show j- o=(j- (o+1))+1 by omega];rfl
   ·rw [if_neg a,if_neg h,if_neg Om]
theorem Qak{size n cap g:Nat}: ∀(vs:List Value) (o:Nat) (w:World) (xs:List Value),w.ownsRow base e size (.slice (some ⟨g,0,none⟩) n cap) n xs→(w.setCells g o vs).ownsRow base e size (.slice (some ⟨g,0,none⟩) n cap) n (Qck xs o vs)
 | [],_,_,_,h=>h
 |v::vs,o,w,xs,h=>Qak vs (o+1) _ _ (Qgs h o v)
theorem Qjj{size n cap g:Nat}(h:w.ownsRow base e size (.slice (some ⟨g,0,none⟩) n cap) n xs)(hm:m≤n):w.ownsRow base e size (.slice (some ⟨g,0,none⟩) m cap) m (xs.take (m*size)):=by
 have a:m*size≤n*size:=Nat.mul_le_mul_right _ hm;refine⟨by rw [List.length_take,h.1];omega,?_⟩;rcases h.2 with⟨h0,_⟩|⟨g',cap',cur,e1,hb,hgb,h1,h2,h3,h4⟩
 ·cases h0
 ·cases e1
  refine .inr ⟨g,cap,cur,rfl,hb,hgb,Om,h2,h3,?_⟩;rw [←h4,List.take_take,Nat.min_eq_left a]
theorem Mv.sc{b:Nat}(hb:C b): ∀(vs:List Value) (o:Nat) (A B:World),Mv C A B→Mv C A (B.setCells b o vs)
 | [],_,_,_,h=>h
 |v::vs,o,A,B,h=>Mv.sc hb vs (o+1) A _ (Mv.st v (.inl hb) h)
theorem Qgu(xs ys:List Co):flC (xs++ys)=flC xs++flC ys:=by unfold flC;simp
theorem Qjk(xs:List Co)(k:Nat)(zs:List Value)(hk:k<xs.length):
  (Qck (Qck (flC xs) (k*6) (flC (xs.drop (k+1)))) ((xs.length- 1)*6) zs).take ((xs.length- 1)*6)=flC (xs.eraseIdx k):=by
 rw [List.eraseIdx_eq_take_drop_succ,Qgu];have d:=Q8 xs;have b:(flC (xs.take k)).length=k*6:=by rw [Q8,List.length_take];rw [Nat.min_eq_left Om]
 have e:(flC (xs.drop (k+1))).length=(xs.length- (k+1))*6:=by rw [Q8,List.length_drop]
 refine List.ext_getElem? fun j=> ?_;rw [List.getElem?_take]
 by_cases a:j<(xs.length- 1)*6
 ·rw [if_pos a,JA _ _ _ _ (by rw [Y9];omega),if_neg Om,JA _ _ _ _ Om]
  by_cases f:k*6≤j
  ·rw [if_pos Om,List.getElem?_append_right Om,b]
  ·rw [if_neg Om,List.getElem?_append_left Om];have c:flC xs=flC (xs.take k)++flC (xs.drop k):=by rw [←Qgu,List.take_append_drop]
   rw [c,List.getElem?_append_left Om]
 ·rw [if_neg a,List.getElem?_eq_none (by rw [List.length_append];omega)]
theorem Y1{g n:Nat}: ∀(vs:List Value) (o:Nat) (w:World),(∀i,i<n→(w.cell? ⟨g,i,none⟩).isSome=true)→ ∀i,i<n→((w.setCells g o vs).cell? ⟨g,i,none⟩).isSome=true
 | [],_,_,h=>h
 |v::vs,o,w,h=>Y1 vs (o+1) _ fun i hi=>by
  have a:=h i hi;rw [Qa]at a⊢;rw [YA,if_pos rfl];simpa using a
theorem Qal{g b:Nat}: ∀(vs:List Value) (o:Nat) (w:World),Qs (w.setCells g o vs) b=Qs w b
 | [],_,_=>rfl
 |v::vs,o,w=>(Qal vs (o+1) _).trans (QR _ _ _ _ _)
theorem Qfj(w:World)(t e ty:TypeId)(z:Value)(ht:P.underlying t=some (.slice e))(hv: ∀w,(zeroValue e).run P w= .ok z w)(b o c:Nat)
  (hc: ∀j,j<z.cells.toList.length→(w.cell? ⟨b,o+j,none⟩).isSome=true)(hf: ∀j,j<z.cells.toList.length→w.frozen? ⟨b,o+j,none⟩=false)(h1: ∀u∈z.cells.toList,u.oneCell'=true):
  (Builtin.clear_ #[t] ty #[.slice (some ⟨b,o,none⟩) 1 c]).run P w= .ok (.tuple #[]) (w.setCells b o z.cells.toList):=by
 have f:(Builtin.zeroCells z.cells 1).toList=z.cells.toList:=by
  simp [Builtin.zeroCells]
  apply List.ext_getElem
  ·simp
  ·intro i h1 a;simp at a;simp [Nat.mod_eq_of_lt a,a]
 have d:=run_storeCells_cells (P:=P) b o z.cells.toList 0 w (by simpa using hc) (by simpa using hf) h1;simp only [Nat.add_zero]at d;simp [Builtin.clear_,run_underlying ht,hv,f,d]
theorem Qjl(base:Nat)(w:World)(v:Value)(xs:List Co)(k j:Nat)(hj:j=k+1)(hl:xs.length≤1000)(ho:w.ownsRow base 66 6 v xs.length (flC xs))(hk:k<xs.length):
  Calls Tryz.prog 191 #[v,.int .i64 k,.int .i64 j] w fun e w'=> ∃v',e= .returned v'∧w'.ownsRow base 66 6 v' (xs.eraseIdx k).length (flC (xs.eraseIdx k))∧Mv (fun b=>base≤b) w w':=by
 obtain⟨M,p,a4,N,a5⟩:=info_parts QcU;obtain⟨g,a,f,rfl,D,E,a6,a7,a8,F⟩: ∃g a f,v= .slice (some ⟨g,0,none⟩) xs.length a∧base≤g∧w.heap[g]?=some (.cells f 66 (0,0))∧xs.length≤a∧a≤maxLen∧f.size=a*6∧f.toList.take (xs.length*6)=flC xs:=by
  rcases ho.2 with⟨_,C⟩|h
  ·omega
  ·obtain⟨g,a,f,n,O,P,Q,R,S,T⟩:=h;exact⟨g,a,f,n,O,P,Q,R,S,T⟩
 have s:Qc w g=f:=by unfold Qc;rw [E]
 have x:Qs w g=(0,0):=by unfold Qs;rw [E]
 have o: ∀j,j<a*6→(w.cell? ⟨g,j,none⟩).isSome=true:=fun j hj=>by rw [Qa,s,Array.getElem?_eq_getElem Om];rfl
 have V:=Xh o;have G:=Xh ho;have W:((k:Int)==(j:Int))=false:=by rw [beq_eq_false_iff_ne];omega
 have X:k≤a:=by omega
 have Y:j≤a:=by omega
 have Z:j≤xs.length:=by omega
 have a0:k≤j:=by omega
 have a1:(k:Int)<xs.length:=by omega
 obtain⟨A,hA,U⟩: ∃A:Addr,(if a=j then some (⟨g,0,none⟩:Addr)else some ⟨g,j*6,none⟩)=some A∧Hid (∀t u,(flC (xs.drop j))[t]?=some u→w.drew.cell? (A.add t)=some u):=by
  by_cases h:a=j
  ·refine⟨⟨g,0,none⟩,by simp [h],fun t u d=> ?_⟩;rw [show xs.drop j= []from List.drop_eq_nil_of_le Om]at d
   cases d
  ·refine⟨⟨g,j*6,none⟩,by simp [h],fun t u d=> ?_⟩;have y:t<(xs.length- j)*6:=by
    have:=(List.getElem?_eq_some_iff.1 d).1
    rwa [Q8,List.length_drop]at this
   have l:(flC xs)[j*6+t]?=some u:=by
    rw [←List.take_append_drop j xs,Qgu,List.getElem?_append_right (by rw [Q8,List.length_take];omega),←d]
    congr 1
    rw [Q8,List.length_take];omega
   rw [Addr.add_lit];show w.cell? _=_;rw [Qa,s];rw [←F,List.getElem?_take,if_pos Om,Array.getElem?_toList]at l;exact l
 have H:Hid ((flC (xs.drop j)).length=(xs.length- j)*6):=by rw [Q8,List.length_drop];rfl
 have I:Hid (∀u∈flC (xs.drop j),u.oneCell'=true):=Qbl _;have J:Hid (∀t,t<(flC (xs.drop j)).length→(w.drew.cell? ⟨g,0+k*6+t,none⟩).isSome=true∧w.drew.frozen? ⟨g,0+k*6+t,none⟩=false):=by
  intro t y;rw [Q8,List.length_drop]at y;exact⟨o _ Om,Ql x _⟩
 obtain⟨c,q⟩: ∃c,c=w.drew.setCells g (0+k*6) (flC (xs.drop j)):=⟨_,rfl⟩;have z: ∀i,i<a*6→(c.cell? ⟨g,i,none⟩).isSome=true:=by rw [q];exact Y1 _ _ w.drew o
 have B:Qs c g=(0,0):=by rw [q,Qal];exact x
 have K:k+(xs.length- j)=xs.length- 1:=by omega
 have a2: ∀ty,(Builtin.clear_ #[25] ty #[.slice (some ⟨g,(k+(xs.length- j))*6,none⟩) (xs.length- (k+(xs.length- j))) (a- (k+(xs.length- j)))]).run Tryz.prog c= .ok (.tuple #[]) (c.setCells g ((k+(xs.length- j))*6) [.int .u32 0,.int .u32 0,.int .u16 0,.int .u16 0,.int .i64 0,.int .i64 0]):=fun ty=>by
  rw [show xs.length- (k+(xs.length- j))=1 by omega];exact Qfj c 25 66 ty (.agg #[.int .u32 0,.int .u32 0,.int .u16 0,.int .u16 0,.int .i64 0,.int .i64 0]) Tryz.underlying25 (fun w=>by kernel_rfl) g _ _ (fun i p=>z _ (by have:i<6:=p;omega)) (fun i p=>Ql B _) (by intro u d;simp [Value.cells]at d;rcases d with rfl|rfl|rfl|rfl|rfl|rfl<;>rfl)
 have r:Hid (c=w.drew.setCells g (0+k*6) (flC (xs.drop j))):=q;have L:=Xh hj;have a3: ¬a=k+(xs.length- j):=by omega
 clear q z B K;clear ho o F hj
 go_enter Tryz.func191,Tryz.ntmps191
 go_wp2_with (fail)
 go_region_law (refine step_append_room rfl (.tmp 22) (.tmp 25) 25 rfl 66 M 6 Tryz.underlying25 p N g 0 k a (by simp [Act.eval,Act.put]) A (xs.length- j) (a- j) (flC (xs.drop j)) (by simp [Act.eval,Act.put]) H.out U.out I.out Om J.out ?_;rw [←r.out])
 go_wp2;have hj:=L.out;have C:w.drew.ownsRow base 66 6 (.slice (some ⟨g,0,none⟩) xs.length a) xs.length (flC xs):=G.out;have l:k+(xs.length- j)=xs.length- 1:=by omega
 have n:=Qjj (Qak [.int .u32 0,.int .u32 0,.int .u16 0,.int .u16 0,.int .i64 0,.int .i64 0] ((k+(xs.length- j))*6) _ _ (Qak (flC (xs.drop j)) (0+k*6) w.drew _ C)) (m:=k+(xs.length- j)) Om;rw [←r.out]at n;refine bodyPost_ret (v:= .slice (some ⟨g,0,none⟩) (k+(xs.length- j)) a) Kr rfl ⟨_,rfl,?_,?_⟩
 ·rw [List.length_eraseIdx_of_lt hk,←l];rw [l,Nat.zero_add]at n;subst hj;rw [Qjk xs k _ hk]at n;rw [l];exact n
 ·rw [r.out];exact Mv.sc D _ _ _ _ (Mv.sc D _ _ _ _ (Mv.dr (Mv.refl _ _)))
def SlB(w:World)(p:Option Addr)(bs:List Int):Prop:= ∀k,(h:k<bs.length)→ ∃b off,p=some ⟨b,off,none⟩∧b<w.heap.size∧w.cell? ⟨b,off+k,none⟩=some (.int .u8 bs[k])
theorem SlB.ext{p:Option Addr}(h:SlB w p bs)(e:Ext w w'):SlB w' p bs:=fun k hk=>by
 obtain⟨b,a,d,c,f⟩:=h k hk;exact⟨b,a,d,Xl c e.size,(e.cell (p:=⟨b,a+k,none⟩) c).trans f⟩
def goL(s:Int)(bs:List Int):Int:=bs.foldl (fun s c=>QbX (Qgy s c)) s
def stL:Int→List Int→List Int
 |_,[]=> []
 |s,c::cs=>QbX (Qgy s c)::stL (QbX (Qgy s c)) cs
theorem Qd0: ∀(bs:List Int) (s:Int),(stL s bs).length=bs.length
 | [],_=>rfl
 |c::cs,s=>by unfold stL;simp [Qd0 cs]
theorem Qgz: ∀(bs:List Int) (s:Int) (i:Nat),i<bs.length→(stL s bs)[i]?=some (goL s (bs.take (i+1)))
 |c::cs,s,0,_=>rfl
 |c::cs,s,i+1,h=>by
  unfold stL;rw [List.getElem?_cons_succ,Qgz cs _ i (by simpa using h)];rfl
theorem Qej(bs:List Int)(s:Int)(i:Nat)(h:i<bs.length):goL s (bs.take (i+1))=QbX (Qgy (goL s (bs.take i)) bs[i]):=by
 unfold goL;rw [List.take_succ_eq_append_getElem h,List.foldl_append];rfl
theorem QuT(bs:List Int)(s:Int)(h0:0≤s)(h1:s<256):0≤goL s bs∧goL s bs<256:=by
 induction bs generalizing s with
 |nil=>exact⟨h0,h1⟩
 |cons c cs ih=>have:=QrZ (Qgy s c);exact ih _ this.1 this.2
theorem Qjp(s:Int)(p:Option Addr)(n c:Nat)(w:World):
  Calls Tryz.prog 238 #[.func (.func 219) #[] #[],.int .u8 s,.slice p n c] w fun e w'=>
   e= .returned (.func (.func 255) #[] #[.pointer (some ⟨w.heap.size+2,0,none⟩),.pointer (some ⟨w.heap.size,0,none⟩),.pointer (some ⟨w.heap.size+1,0,none⟩)])∧
   w'=((w.alloc (.cells #[.func (.func 219) #[] #[]] 239)).alloc (.cells #[.int .u8 s] 5)).alloc (.cells #[.slice p n c] 28):=by
 go_enter Tryz.func238,Tryz.ntmps238
 go_wp2;go_ret;exact⟨rfl,rfl⟩
theorem Qfk: ∀args w,(callFunc 255 args).run Tryz.prog w= .ok (.enter 255 args) w:=enters_of Tryz.func255 Kr rfl
theorem QhP(n:Nat)(s0:Int)(bs:List Int)(p:Option Addr)(c:Nat)(w0 w:World)(Bb Bt Bs:Nat)(U:Nat→Prop)(h0:Ext w0 w)(hb:SlB w0 p bs)(hl:bs.length≤1000)
  (hcb:w.cell? ⟨Bb,0,none⟩=some (.slice p bs.length c))(hct:w.cell? ⟨Bt,0,none⟩=some (.func (.func 219) #[] #[]))(hcs:w.cell? ⟨Bs,0,none⟩=some (.int .u8 s0))(hz:Qs w Bs=(0,0))
  (lb:Lt Bb w)(lt:Lt Bt w)(ls:Lt Bs w)(n1:Bb≠Bs)(n2:Bt≠Bs)(nb:w0.heap.size≤Bs)(hU: ∀k,U k→w0.heap.size≤k∧k≠Bb∧k≠Bt∧k≠Bs):
  QcT Fence.wide n Tryz.prog 255 #[.pointer (some ⟨Bb,0,none⟩),.pointer (some ⟨Bt,0,none⟩),.pointer (some ⟨Bs,0,none⟩)] (fun x:Int=>#[.int .u8 x]) (fun k=>k=Bs) U (stL s0 bs) w:=by
 intro y J Jx W j hJ a2 v a3;have HJ:=Xh hJ;have c6:=Xh a2;have I:=Xh hU;clear hJ a2 hU;obtain⟨b9,c0,c1,c2,v⟩:=v;have K:=Xh v;clear v;have o:W.cell? ⟨Bb,0,none⟩=some (.slice p bs.length c):=(j.cell (p:=⟨Bb,0,none⟩) lb).trans hcb;have q:W.cell? ⟨Bt,0,none⟩=some (.func (.func 219) #[] #[]):=(j.cell (p:=⟨Bt,0,none⟩) lt).trans hct;have r:W.cell? ⟨Bs,0,none⟩=some (.int .u8 s0):=(j.cell (p:=⟨Bs,0,none⟩) ls).trans hcs;have l:Qs W Bs=(0,0):=by unfold Qs;rw [j.block Bs ls];exact hz
 have L:Lt Bb W:=Xl lb j.size;have M:Lt Bt W:=Xl lt j.size;have N:Lt Bs W:=Xl ls j.size;have O:=h0.tr j;clear hcb hct hcs hz;refine callsIn_of_wp Tryz.func255 rfl trivial ?_ rfl;simp only [Tryz.ntmps255,List.size_toArray,List.length_cons,List.length_nil,Nat.reduceAdd,Nat.reduceSub,Array.replicate_succ,Array.replicate_zero,List.push_toArray,List.append_toArray,List.nil_append,List.cons_append];refine wpIn_wide.2 ?_;go_wp2
 go_loopw [6,9] (fun _ a wr=> ∃i:Nat,i≤bs.length∧a= .int .i64 i∧J i wr∧wr.cell? ⟨Bb,0,none⟩=some (.slice p bs.length c)∧wr.cell? ⟨Bt,0,none⟩=some (.func (.func 219) #[] #[])∧wr.cell? ⟨Bs,0,none⟩=some (.int .u8 (goL s0 (bs.take i)))∧Qs wr Bs=(0,0)∧Lt Bb wr∧Lt Bt wr∧Lt Bs wr∧Ext w0 wr) (fun _ a _=>bs.length- (intOf a).toNat)
 case atStart=>exact⟨0,Nat.zero_le _,rfl,a3,o,q,r,l,L,M,N,O⟩
 case round=>
  clear o q r l L M N O a3;obtain⟨i,hi,rfl,G,o,q,r,l,a4,a5,c3,hE⟩:=hrel
  by_cases u:i<bs.length
  ·have c7:(i:Int)<bs.length:=by omega
   obtain⟨b,a6,rfl,c8,c9⟩:=(hb.ext hE) i u;have z:=Xh ((Qgz bs s0 i u).trans (congrArg some (Qej bs s0 i u)));have P:=Xh (Qej bs s0 i u);generalize goL s0 (bs.take i)=S at*;generalize bs[i]=C at*;have Q:=Xh G;have a7:=Ql l 0;obtain⟨V,H⟩: ∃V,QbX (Qgy S C)=V:=⟨_,rfl⟩;rw [H]at z P;have HV:=Xh H;clear H;clear G
   go_upto_region 4 with(go_at_call 219;(refine(Qow _ _).mono ?_);rintro e w' ⟨rfl,rfl⟩)
   rw [show QbX (bits BinOp.xor IntKind.u8 S C)=V from HV.out];obtain⟨d,t⟩: ∃d,wr.setCell ⟨Bs,0,none⟩ (.int .u8 V)=d:=⟨_,rfl⟩;have g:Mv (fun k=>k=Bs) wr d:=by rw [←t];exact Mv.st _ (.inl rfl) (Mv.refl _ _)
   have R:d.cell? ⟨Bs,0,none⟩=some (.int .u8 V):=by rw [←t];exact World.cell?_setCell_same _ _ _ r
   have D:Qs d Bs=(0,0):=by rw [←t,QR];exact l
   rw [t];clear t;have E: ∀{k:Nat} {A B:World},k≠Bs→Lt k A→Mv (fun k=>k=Bs) A B→B.heap[k]?=A.heap[k]?:=fun hk hl hm=>hm.same _ hl hk;have T:d.cell? ⟨Bb,0,none⟩=some (.slice (some ⟨b,a6,none⟩) bs.length c):=by rw [Qa,Qf (E n1 a4 g),←Qa];exact o
   have X:d.cell? ⟨Bt,0,none⟩=some (.func (.func 219) #[] #[]):=by rw [Qa,Qf (E n2 a5 g),←Qa];exact q
   have Y:Lt Bb d:=Xl a4 g.size;have Z:Lt Bt d:=Xl a5 g.size;have F:Lt Bs d:=Xl c3 g.size;have a8:Ext w0 d:=Mv.ext_of hE g (fun k e=>by rw [e];exact nb);have a0:J i d:=HJ.out _ _ _ Q.out g;have a9:(Instr.yield y #[.int .u8 V]).run Tryz.prog d= .ok (.round y b9 (c0 #[.int .u8 V]) c1 c2) d:=(K.out i V d a0 z.out).1;have a1:=Xh (K.out i V d a0 z.out).2;clear o q r l a7 g Q;refine(wpIn_wide (n:=n)).1 ?_
   gi_wp2
   refine⟨(fun h=>by cases h),(a1.out).mono ?_⟩;rintro e f ⟨bb,rfl,hP⟩;clear a9 a1;obtain⟨rfl,c4,m⟩|⟨rfl,c5⟩:=hP
   ·have s: ∀{k:Nat},k<w.heap.size→k=Bb∨k=Bt∨k=Bs→Lt k d→f.heap[k]?=d.heap[k]?:=fun hk h hl=>m.same _ hl (fun hh=>by rcases hh with hh|hh;(have:=I.out _ hh;omega);omega);have b0:f.cell? ⟨Bb,0,none⟩=some (.slice (some ⟨b,a6,none⟩) bs.length c):=by rw [Qa,Qf (s lb (.inl rfl) Y),←Qa];exact T
    have b1:f.cell? ⟨Bt,0,none⟩=some (.func (.func 219) #[] #[]):=by rw [Qa,Qf (s lt (.inr (.inl rfl)) Z),←Qa];exact X
    have b2:f.cell? ⟨Bs,0,none⟩=some (.int .u8 V):=by rw [Qa,Qf (s ls (.inr (.inr rfl)) F),←Qa];exact R
    have b3:Qs f Bs=(0,0):=by unfold Qs at D⊢;rw [s ls (.inr (.inr rfl)) F];exact D
    have b4:Lt Bb f:=Xl Y m.size;have b5:Lt Bt f:=Xl Z m.size;have b6:Lt Bs f:=Xl F m.size;have b7:Ext w0 f:=Mv.ext_of a8 m (fun k h=>by rcases h with h|h;exact(I.out _ h).1;exact Xt h0.size h);clear m T X R D s E
    gi_wp2
    go_wp2
    go_roundw
    case rel=>exact⟨i+1,Om,by go_num,c4,b0,b1,by rw [P.out];exact b2,b3,b4,b5,b6,b7⟩
    case measure=>simp [intOf];omega
   ·gi_wp2
    go_wp2;refine bodyPost_ret (results_none rfl _ _ _) rfl ⟨⟨_,rfl⟩,.inr c5⟩
  ·obtain rfl:i=bs.length:=by omega
   have b8:=Xh (Qd0 bs s0);go_wp2
   go_end0
   exact⟨⟨_,rfl⟩,.inl (by rw [b8.out];exact G)⟩
section
variable {P:Program} {ops:Array Oper} {md:Region.Mode} {C:Nat→Prop}
def xUponK(P:Program)(N:Value→World→Prop):Result Next→Prop
 | .ok (.value u) w'=>N u w'
 | .ok .skip w'=>N undef w'
 | .ok (.enter f args) w'=>Calls P f args w' (fun e w''=> ∃v,e= .returned v∧N v w'')
 |_=>False
theorem QdI{N N':Value→World→Prop}(h: ∀v w,N v w→N' v w): ∀r:Result Next,xUponK P N r→xUponK P N' r
 | .ok (.value u) w',hh=>h _ _ hh
 | .ok .skip w',hh=>h _ _ hh
 | .ok (.enter f args) w',hh=>Calls.mono hh fun e w'' ⟨v,h1,h2⟩=>⟨v,h1,h _ _ h2⟩
def Jj(P:Program)(ops:Array Oper)(i:Nat)(K:Act→World→Prop)(a:Act)(w:World):Prop:=
 match ops[i]? with
 |none=>K a w
 |some o=>if Region.wanted o (yielded ops a.tmps)=true then xUponK P (fun v w'=>K (a.put o.dst v) w') ((execOp a.eval o).run P w)else K (a.put o.dst undef) w
theorem Jv{a:Act}{K':Act→World→Prop}(h: ∀a w,K a w→K' a w)(hh:Jj P ops i K a w):Jj P ops i K' a w:=by
 unfold Jj at*
 split
 ·exact h _ _ (by simpa [*]using hh)
 ·rename_i o ho
  simp only [ho]at hh
  split
  ·rename_i hw;simp only [hw,if_true]at hh;exact QdI (fun v w' h1=>h _ _ h1) _ hh
  ·rename_i hw;simp only [hw]at hh;exact h _ _ hh
theorem Qcn{a:Act}{Q:Exit→Act→World→Prop}(hh:Jj P ops i K a w):wpOp P ops Q i K a w:=by
 unfold Jj at hh;unfold wpOp
 split
 ·rename_i ho;simp only [ho]at hh;exact hh
 ·rename_i o ho
  simp only [ho]at hh
  split
  ·rename_i hw
   simp only [hw,if_true]at hh
   left
   unfold Oper.wp;generalize (execOp a.eval o).run P w=r at*
   cases r with
   |ok n w'=>
    cases n<;>simp only [xUponK]at hh<;>simp only [Oper.upon]
    case value u=>exact hh
    case skip=>exact hh
    case enter f args=>exact hh.mono fun e w'' ⟨v,he,hw''⟩=>by subst he;exact hw''
   |halt x w'=>simp only [xUponK]at hh
  ·rename_i hw;simp only [hw]at hh;exact hh
def QN(C:Nat→Prop)(P:Program)(md:Region.Mode)(ops:Array Oper)(Q:Act→World→Prop):Nat→Array Bool→Act→World→Prop
 |0,listed,a,w=>Region.ready md ops listed= []∧Q a w
 |fuel+1,listed,a,w=>(Region.ready md ops listed= []→Q a w)∧
  ∀i∈Region.ready md ops listed,Jj P ops i (fun a' w'=>Mv C w w'∧QN C P md ops Q fuel (listed.setIfInBounds i true) a' w') a w
theorem QbZ{Q':Exit→Act→World→Prop}(hQ: ∀a w,Q a w→Q' .normal a w): ∀(fuel:Nat) (listed:Array Bool) (a:Act) (w:World),
  QN C P md ops Q fuel listed a w→wpAny P md ops Q' fuel listed a w
 |0,_,_,_,h=>⟨h.1,hQ _ _ h.2⟩
 |fuel+1,_,_,_,h=>⟨fun h0=>hQ _ _ (h.1 h0),fun i hi=>Qcn (Jv (fun a' w' h1=>QbZ hQ fuel _ a' w' h1.2) (h.2 i hi))⟩
def Yr(C:Nat→Prop)(P:Program)(ops:Array Oper)(w:World)(o:Oper)(v:Value)(a:Act):Prop:=
 (Region.wanted o (yielded ops a.tmps)=true∧ ∀w',Mv C w w'→(execOp a.eval o).run P w'= .ok (.value v) w')∨(Region.wanted o (yielded ops a.tmps)=false∧v=undef)∨
  (Region.wanted o (yielded ops a.tmps)=true∧ ∃f args,∀w',Mv C w w'→(execOp a.eval o).run P w'= .ok (.enter f args) w'∧Calls P f args w' fun e w''=>e= .returned v∧w''=w')
theorem Yr.later{v:Value}{a:Act}(h:Yr C P ops w o v a)(e:Mv C w w'):Yr C P ops w' o v a:=by
 rcases h with⟨h1,h2⟩|h|⟨h1,f,args,h2⟩
 ·exact .inl ⟨h1,fun w2 e2=>h2 w2 (e.trans e2)⟩
 ·exact .inr (.inl h)
 ·exact .inr (.inr ⟨h1,f,args,fun w2 e2=>h2 w2 (e.trans e2)⟩)
theorem Yr.xOpK{v:Value}{a:Act}(hi:ops[i]?=some o)(hy:Yr C P ops w o v a)(h:K (a.put o.dst v) w):Jj P ops i K a w:=by
 unfold Go.Proofs.YtpeonbaodnmlnaaGreat.Jj;simp only [hi];rcases hy with⟨hw,hv⟩|⟨hw,rfl⟩|⟨hw,f,args,hv⟩
 ·simp only [hw,if_true,hv w (Mv.refl _ _),xUponK];exact h
 ·simp only [hw,Bool.false_eq_true,if_false];exact h
 ·simp only [hw,if_true,(hv w (Mv.refl _ _)).1,xUponK];exact(hv w (Mv.refl _ _)).2.mono fun e w'' ⟨h1,h2⟩=>⟨v,h1,by rw [h2];exact h⟩
theorem Qel{j:Nat}{oj:Oper}{v:Value}(hj:ops[j]?=some oj)(hap:oi.apart ops oj=true)
  (hsi: ∀cs b,oi.op≠ .select cs b)(hsj: ∀cs b,oj.op≠ .select cs b){a:Act}
  (hy:Yr C P ops w oi v a)(h:Jj P ops j K (a.put oi.dst v) w):
  Jj P ops j (fun a' w'=>Yr C P ops w oi v a'∧K (a'.put oi.dst v) w') a w:=by
 obtain⟨d,e,f⟩:=Oper.apart_spec hap;have c: ∀u,Yr C P ops w oi v (a.put oj.dst u):=fun u=>by
  unfold Yr at*;rw [execOp_put oi hsi a oj.dst u f,wanted_put oi a oj.dst u f];exact hy
 unfold Jj at*;simp only [hj]at*;rw [wanted_put oj a oi.dst v d]at h
 split
 ·rename_i hw
  simp only [hw,if_true]at h;rw [execOp_put oj hsj a oi.dst v d]at h;exact QdI (fun u w' h4=>⟨c u,by rw [←Act.put_comm a v u e];exact h4⟩) _ h
 ·rename_i hw
  simp only [hw]at h;exact⟨c _,by rw [←Act.put_comm a v undef e];exact h⟩
theorem Qco{v:Value}(hi:ops[i]?=some oi)(hsel: ∀(j:Nat) (o:Oper) cs b,ops[j]?=some o→o.op≠ .select cs b):
  ∀(fuel:Nat) (listed:Array Bool) (a:Act) (w:World),
   (∀j oj,ops[j]?=some oj→j≠i→listed.getD j true=false→(∀e∈oj.after,Region.binds md e=true→e.on≠i)→oi.apart ops oj=true)→
   i∈Region.ready md ops listed→Yr C P ops w oi v a→
   QN C P md ops Q fuel (listed.setIfInBounds i true) (a.put oi.dst v) w→QN C P md ops Q (fuel+1) listed a w:=by
 intro fuel
 induction fuel with
 |zero=>
  intro listed a w _ f g H;refine⟨fun h=>(by rw [h]at f;cases f),fun j hj=> ?_⟩
  by_cases c:j=i
  ·subst c;exact g.xOpK hi ⟨Mv.refl _ _,H⟩
  ·have:=ready_mono hj c;rw [H.1]at this
   cases this
 |succ fuel ih=>
  intro listed a w p f g H;refine⟨fun h=>(by rw [h]at f;cases f),fun j hj=> ?_⟩
  by_cases c:j=i
  ·subst c;exact g.xOpK hi ⟨Mv.refl _ _,H⟩
  ·have d:=H.2 j (ready_mono hj c);obtain⟨q,oj,l,hall⟩:=mem_ready.1 hj;have r: ∀e∈oj.after,Region.binds md e=true→e.on≠i:=fun e he hb heq=>by
    have d:=hall e he hb;have m:=(mem_ready.1 f).1;rw [heq]at d;rcases Nat.lt_or_ge i listed.size with h'|h'
    ·simp [h']at m d;rw [m]at d;cases d
    ·simp [Array.getElem?_eq_none h']at d
   have s:=Qel l (p j oj l c q r) (fun cs b=>hsel i oi cs b hi) (fun cs b=>hsel j oj cs b l) g d;have t: ∀k ok,ops[k]?=some ok→k≠i→(listed.setIfInBounds j true).getD k true=false→
     (∀e∈ok.after,Region.binds md e=true→e.on≠i)→oi.apart ops ok=true:=fun k ok hk hki hun hno=>by
    refine p k ok hk hki ?_ hno
    by_cases n:j=k
    ·subst n;exact q
    ·rw [getD_set_ne true n]at hun;exact hun
   refine Jv (fun a' w' h3=>⟨h3.2.1,ih (listed.setIfInBounds j true) a' w' t (ready_mono f (Ne.symm c)) (h3.1.later h3.2.1) ?_⟩) s;have u:=h3.2.2;rw [Array.setIfInBounds_comm _ _ c];exact u
theorem QtP{v:Value}{a:Act}(hi:ops[i]?=some oi)(hs:Region.noSelect ops=true)
  (hf:Region.free md ops listed i=true)(hr:(Region.ready md ops listed).contains i=true)(hw:Region.wanted oi (yielded ops a.tmps)=true)
  (hy: ∀w',Mv C w w'→(execOp a.eval oi).run P w'= .ok (.value v) w')
  (H:QN C P md ops Q fuel (listed.setIfInBounds i true) (a.put oi.dst v) w):QN C P md ops Q (fuel+1) listed a w:=
 Qco hi (Region.noSelect_spec hs) fuel listed a w (Region.free_spec hi hf) (by simpa using hr) (.inl ⟨hw,hy⟩) H
theorem doneK{a:Act}(hr:Region.ready md ops listed= [])(H:Q a w):QN C P md ops Q fuel listed a w:=by
 cases fuel with
 |zero=>exact⟨hr,H⟩
 |succ n=>exact⟨fun _=>H,fun i hi=>by rw [hr]at hi;cases hi⟩
theorem QO{id:Nat}{Q:Exit→Act→World→Prop}{a:Act}(C:Nat→Prop)(hm:P.follows .mixedOrders=true)
  (h:QN C P .any ops (fun a w=>Q .normal a w) ops.size (Array.replicate ops.size false) a w.drew):(Code.region id ops true).wp P Q a w:=
 wp_region_any hm (QbZ (fun _ _ h=>h) _ _ _ _ h)
def don(n:Nat)(l:List Nat):Array Bool:=((List.range n).map fun j=>l.contains j).toArray
theorem Qlk(n k:Nat)(l:List Nat):(don n l).setIfInBounds k true=don n (k::l):=by
 unfold don;refine Array.ext_getElem? fun i=> ?_;rw [Array.getElem?_setIfInBounds]
 by_cases a:i<n
 ·by_cases h:k=i
  ·subst h;simp [a]
  ·have b: ¬i=k:=fun e=>h e.symm;simp [h,b,a]
 ·by_cases h:k=i
  ·subst h;simp [a]
  ·simp [h,a]
theorem QoE(n:Nat):Array.replicate n false=don n []:=by
 unfold don;refine Array.ext_getElem? fun i=> ?_
 by_cases a:i<n<;>simp [a,Array.getElem?_replicate]
def JW(ops:Array Oper)(n:Nat):List Nat→List Nat→Bool
 | [],_=>true
 |k::rest,d=>Region.free .any ops (don n d) k&&upX ops (don n d) k&&JW ops n rest (k::d)
theorem ZY{d rest:List Nat}{v:Value}{a:Act}(hs:Region.noSelect ops=true)(ht:JW ops N (k::rest) d=true)
  (hi:ops[k]?=some oi)(hw:Region.wanted oi (yielded ops a.tmps)=true)(hy: ∀w',Mv C w w'→(execOp a.eval oi).run P w'= .ok (.value v) w')
  (H:JW ops N rest (k::d)=true→QN C P .any ops Q fuel (don N (k::d)) (a.put oi.dst v) w):QN C P .any ops Q (fuel+1) (don N d) a w:=by
 unfold JW at ht;simp only [Bool.and_eq_true]at ht;obtain⟨⟨b,c⟩,e⟩:=ht;refine QtP hi hs b (ZZ c) hw hy ?_;rw [Qlk];exact H e
def Qem(C:Nat→Prop)(P:Program)(ops:Array Oper)(Q:Act→World→Prop)(fuel N k:Nat)(d:List Nat)(a:Act)(w:World):Prop:=
 Jj P ops k (fun a' w'=>Mv C w w'∧QN C P .any ops Q fuel (don N (k::d)) a' w') a w
theorem JK{d:List Nat}{a:Act}(hr:Region.ready .any ops (don N d)= [k])(H:Qem C P ops Q fuel N k d a w):QN C P .any ops Q (fuel+1) (don N d) a w:=by
 refine⟨fun h0=> ?_,fun j hj=> ?_⟩
 ·rw [hr]at h0;cases h0
 ·rw [hr]at hj;obtain rfl:j=k:=by simpa using hj
  rw [Qlk];exact H
theorem QhS{d:List Nat}{v:Value}{a:Act}(hi:ops[k]?=some oi)(hw:Region.wanted oi (yielded ops a.tmps)=true)
  (he:(execOp a.eval oi).run P w= .ok (.value v) w1)(hE:Mv C w w1)(H:QN C P .any ops Q fuel (don N (k::d)) (a.put oi.dst v) w1):Qem C P ops Q fuel N k d a w:=by
 unfold Qem Jj;simp only [hi,hw,if_true,he];exact⟨hE,H⟩
theorem QfO{R:Value→World→Prop}{d:List Nat}{a:Act}(hi:ops[k]?=some oi)(hw:Region.wanted oi (yielded ops a.tmps)=true)
  (he:(execOp a.eval oi).run P w= .ok (.enter f args) w)(hc:Calls P f args w fun e w'=> ∃v,e= .returned v∧R v w'∧Ext w w')
  (H: ∀v w',Ext w w'→R v w'→QN C P .any ops Q fuel (don N (k::d)) (a.put oi.dst v) w'):Qem C P ops Q fuel N k d a w:=by
 unfold Qem Jj;simp only [hi,hw,if_true,he];exact hc.mono fun e w' ⟨v,h1,h2,h3⟩=>⟨v,h1,Mv.of_ext h3,H v w' h3 h2⟩
theorem Qll{P:Program}{ops E:Array Oper}{a:Act}{R:Array Oper→Prop}(h:ops=E)(hR:R E)(hf:ops.size=N)
  (H:R ops→QN C P .any ops Q N (don N []) a w):QN C P .any ops Q ops.size (Array.replicate ops.size false) a w:=by
 rw [hf,QoE];exact H (h▸hR)
end
section
variable {P:Program} {ops:Array Oper} {C:Nat→Prop}
def msk(n m:Nat):Array Bool:=((List.range n).map fun j=>m.testBit j).toArray
theorem Qcq(n k m:Nat):(msk n m).setIfInBounds k true=msk n (m|||(1<<<k)):=by
 unfold msk;refine Array.ext_getElem? fun i=> ?_;rw [Array.getElem?_setIfInBounds]
 by_cases a:i<n
 ·by_cases h:k=i
  ·subst h;simp [a,Nat.testBit_or,Nat.testBit_shiftLeft]
  ·have b: ¬i=k:=fun e=>h e.symm
   by_cases c:k≤i
   ·have: ¬i- k=0:=by omega
    simp [h,b,a,Nat.testBit_or,Nat.testBit_shiftLeft,c,Nat.testBit_one_eq_true_iff_self_eq_zero,this]
   ·simp [h,b,a,Nat.testBit_or,Nat.testBit_shiftLeft,c]
 ·by_cases h:k=i
  ·subst h;simp [a]
  ·simp [h,a]
theorem QhY(n:Nat):Array.replicate n false=msk n 0:=by
 unfold msk;refine Array.ext_getElem? fun i=> ?_
 by_cases a:i<n<;>simp [a,Array.getElem?_replicate]
def Qv(ops:Array Oper)(n:Nat):List Nat→Nat→Bool
 | [],_=>true
 |k::rest,m=>Region.free .any ops (msk n m) k&&upX ops (msk n m) k&&Qv ops n rest (m|||(1<<<k))
theorem Qep{m':Nat}{rest:List Nat}(ht:Qv ops N (k::rest) m=true)(hm:m|||(1<<<k)=m'):Region.free .any ops (msk N m) k=true∧upX ops (msk N m) k=true∧(msk N m).setIfInBounds k true=msk N m'∧Qv ops N rest m'=true:=by
 unfold Qv at ht;simp only [Bool.and_eq_true]at ht;obtain⟨⟨a,b⟩,c⟩:=ht;exact⟨a,b,by rw [Qcq,hm],by rw [←hm];exact c⟩
theorem QtT{m':Nat}{rest:List Nat}{v:Value}{a:Act}(hs:Region.noSelect ops=true)(ht:Qv ops N (k::rest) m=true)(hm:m|||(1<<<k)=m')
  (hi:ops[k]?=some oi)(hw:Region.wanted oi (yielded ops a.tmps)=true)(hy: ∀w',Mv C w w'→(execOp a.eval oi).run P w'= .ok (.value v) w')
  (H:Qv ops N rest m'=true→QN C P .any ops Q fuel (msk N m') (a.put oi.dst v) w):QN C P .any ops Q (fuel+1) (msk N m) a w:=by
 obtain⟨b,c,d,e⟩:=Qep ht hm;refine QtP hi hs b (ZZ c) hw hy ?_;rw [d];exact H e
theorem QxL{m':Nat}{rest:List Nat}{a:Act}(hs:Region.noSelect ops=true)(ht:Qv ops N (k::rest) m=true)(hm:m|||(1<<<k)=m')
  (hi:ops[k]?=some oi)(hw:Region.wanted oi (yielded ops a.tmps)=false)
  (H:Qv ops N rest m'=true→QN C P .any ops Q fuel (msk N m') (a.put oi.dst undef) w):QN C P .any ops Q (fuel+1) (msk N m) a w:=by
 obtain⟨b,c,d,e⟩:=Qep ht hm;refine Qco hi (Region.noSelect_spec hs) fuel _ a w (Region.free_spec hi b) (by simpa using ZZ c) (.inr (.inl ⟨hw,rfl⟩)) ?_;rw [d];exact H e
structure Qlr(C:Nat→Prop)(P:Program)(ops:Array Oper)(Q:Act→World→Prop)(fuel N k m:Nat)(a:Act)(w:World):Prop where
 h:Jj P ops k (fun a' w'=>Mv C w w'∧QN C P .any ops Q fuel (msk N (m|||(1<<<k))) a' w') a w
theorem QaO{a:Act}(hr:Region.ready .any ops (msk N m)= [k])(H:Qlr C P ops Q fuel N k m a w):QN C P .any ops Q (fuel+1) (msk N m) a w:=by
 refine⟨fun h0=> ?_,fun j hj=> ?_⟩
 ·rw [hr]at h0;cases h0
 ·rw [hr]at hj;obtain rfl:j=k:=by simpa using hj
  rw [Qcq];exact H.h
theorem QxM{R:Value→World→Prop}{m':Nat}{a:Act}(hm:m|||(1<<<k)=m')(hi:ops[k]?=some oi)(hw:Region.wanted oi (yielded ops a.tmps)=true)
  (he:(execOp a.eval oi).run P w= .ok (.enter f args) w)(hc:Calls P f args w fun e w'=> ∃v,e= .returned v∧R v w'∧Ext w w')
  (H: ∀v w',Ext w w'→R v w'→QN C P .any ops Q fuel (msk N m') (a.put oi.dst v) w'):Qlr C P ops Q fuel N k m a w:=by
 refine⟨?_⟩;unfold Jj;simp only [hi,hw,if_true,he,hm];exact hc.mono fun e w' ⟨v,h1,h2,h3⟩=>⟨v,h1,Mv.of_ext h3,H v w' h3 h2⟩
theorem QuX{R:Value→World→Prop}{m':Nat}{a:Act}(hm:m|||(1<<<k)=m')(hi:ops[k]?=some oi)(hw:Region.wanted oi (yielded ops a.tmps)=true)
  (he:(execOp a.eval oi).run P w= .ok (.enter f args) w)(hc:Calls P f args w fun e w'=> ∃v,e= .returned v∧R v w'∧Mv C w w')
  (H: ∀v w',Mv C w w'→R v w'→QN C P .any ops Q fuel (msk N m') (a.put oi.dst v) w'):Qlr C P ops Q fuel N k m a w:=by
 refine⟨?_⟩;unfold Jj;simp only [hi,hw,if_true,he,hm];exact hc.mono fun e w' ⟨v,h1,h2,h3⟩=>⟨v,h1,h3,H v w' h3 h2⟩
theorem QaH{E:Array Oper}{a:Act}{R:Array Oper→Prop}(h:ops=E)(hR:R E)(hf:ops.size=N)
  (H:R ops→QN C P .any ops Q N (msk N 0) a w):QN C P .any ops Q ops.size (Array.replicate ops.size false) a w:=by
 rw [hf,QhY];exact H (h▸hR)
end
section
variable {P:Program} {ops:Array Oper} {C:Nat→Prop}
theorem tM{rest:List Nat}{a:Act}(m':Nat)(v:Value)(hs:Region.noSelect ops=true)(ht:Qv ops N (k::rest) m=true)(hi:ops[k]?=some oi)(hy: ∀w',Mv C w w'→(execOp a.eval oi).run P w'= .ok (.value v) w')
  (H:Qv ops N rest m'=true→QN C P .any ops Q fuel (msk N m') (a.put oi.dst v) w)(hm:m|||(1<<<k)=m':=by rfl)(hw:Region.wanted oi (yielded ops a.tmps)=true:=by kernel_rfl):QN C P .any ops Q (fuel+1) (msk N m) a w:=QtT hs ht hm hi hw hy H
theorem tMk{rest:List Nat}{a:Act}(m':Nat)(v:Value)(hs:Region.noSelect ops=true)(ht:Qv ops N (k::rest) m=true)(hi:ops[k]?=some oi)
  (H:Qv ops N rest m'=true→QN C P .any ops Q fuel (msk N m') (a.put oi.dst v) w)(hm:m|||(1<<<k)=m':=by rfl)(hw:Region.wanted oi (yielded ops a.tmps)=true:=by kernel_rfl)(hy: ∀w',Mv C w w'→(execOp a.eval oi).run P w'= .ok (.value v) w':=by(intro _ _;kernel_rfl)):QN C P .any ops Q (fuel+1) (msk N m) a w:=QtT hs ht hm hi hw hy H
theorem tMU{rest:List Nat}{a:Act}(m':Nat)(hs:Region.noSelect ops=true)(ht:Qv ops N (k::rest) m=true)(hi:ops[k]?=some oi)
  (H:Qv ops N rest m'=true→QN C P .any ops Q fuel (msk N m') (a.put oi.dst undef) w)(hm:m|||(1<<<k)=m':=by rfl)(hw:Region.wanted oi (yielded ops a.tmps)=false:=by kernel_rfl):QN C P .any ops Q (fuel+1) (msk N m) a w:=QxL hs ht hm hi hw H
theorem sM{a:Act}(m':Nat)(R:Value→World→Prop)(hr:Region.ready .any ops (msk N m)= [k])(hi:ops[k]?=some oi)(hc:Calls P f args w fun e w'=> ∃v,e= .returned v∧R v w'∧Ext w w')
  (H: ∀v w',Ext w w'→R v w'→QN C P .any ops Q fuel (msk N m') (a.put oi.dst v) w')(hm:m|||(1<<<k)=m':=by rfl)(hw:Region.wanted oi (yielded ops a.tmps)=true:=by kernel_rfl)(he:(execOp a.eval oi).run P w= .ok (.enter f args) w:=by kernel_rfl):QN C P .any ops Q (fuel+1) (msk N m) a w:=QaO hr (QxM hm hi hw he hc H)
end
abbrev Rd(ops:Array Oper)(N d:Nat)(l:List Nat):Prop:=Region.ready .any ops (msk N d)=l
theorem Rk{ops:Array Oper}{d:Nat}{l:List Nat}(h:Region.ready .any ops (msk N d)=l:=by kernel_rfl):Rd ops N d l:=h
section
attribute [local go_sem] Oper.semAt_some
theorem Qox(s:Int)(bs:List Int)(p:Option Addr)(c:Nat)(w:World)(hb:SlB w p bs)(hl:bs.length≤1000):
  Cr 218 #[.func (.func 219) #[] #[],.int .u8 s,.slice p bs.length c] w (.int .u8 (goL s bs)):=by
 refine(callsIn_wide (n:=5)).1 ?_;refine callsIn_of_wp_marks Tryz.func218 rfl trivial ?_ rfl;simp only [Tryz.ntmps218,List.size_toArray,List.length_cons,List.length_nil,Nat.reduceAdd,Nat.reduceSub,Array.replicate_succ,Array.replicate_zero,List.push_toArray,List.append_toArray,List.nil_append,List.cons_append];refine wpIn_wide.2 ?_
 go_wp2_with (go_at_call 238;(refine(Qjp s p bs.length c _).mono ?_);rintro e X ⟨rfl,rfl⟩)
 obtain⟨b,j⟩: ∃b,w.alloc (.cells #[.int .u8 s] 5)=b:=⟨_,rfl⟩;have D:Ext w b:=by rw [←j];exact Ea
 have E:b.cell? ⟨w.heap.size,0,none⟩=some (.int .u8 s):=by rw [←j];simp [go_sem]
 have F:Qs b w.heap.size=(0,0):=by rw [←j];unfold Qs;rw [World.alloc_heap_new]
 have t:Lt w.heap.size b:=by rw [←j];simp [Lt]
 rw [j];have m:b.heap.size=w.heap.size+1:=by rw [←j];simp
 clear j;obtain⟨a,d⟩: ∃a,(((b.alloc (Obj.cells #[.func (.func 219) #[] #[]] 239)).alloc (Obj.cells #[.int .u8 s] 5)).alloc (Obj.cells #[.slice p bs.length c] 28))=a:=⟨_,rfl⟩;have o:Ext b a:=by rw [←d];exact Ext.al (Ext.al Ea _) _
 have U:a.heap.size=w.heap.size+4:=by rw [←d];simp [m]
 have I:a.cell? ⟨w.heap.size+1+2,0,none⟩=some (.slice p bs.length c):=by rw [←d];simp [go_sem,m]
 have J:a.cell? ⟨w.heap.size+1,0,none⟩=some (.func (.func 219) #[] #[]):=by rw [←d];simp [go_sem,m]
 have L:a.cell? ⟨w.heap.size+1+1,0,none⟩=some (.int .u8 s):=by rw [←d];simp [go_sem,m]
 have M:Qs a (w.heap.size+1+1)=(0,0):=by rw [←d];simp [go_sem,m]
 have N:a.cell? ⟨w.heap.size,0,none⟩=some (.int .u8 s):=(o.cell (p:=⟨w.heap.size,0,none⟩) t).trans E;have O:Qs a w.heap.size=(0,0):=by unfold Qs;rw [o.block _ t];exact F
 rw [d];clear d E F;refine(wpIn_wide (n:=5)).1 ?_;refine ZI rfl Om (gf:=255) (lb:=#[.pointer (some ⟨w.heap.size+1+2,0,none⟩),.pointer (some ⟨w.heap.size+1,0,none⟩),.pointer (some ⟨w.heap.size+1+1,0,none⟩)]) rfl trivial Qfk
  (QhP _ s bs p c w a (w.heap.size+1+2) (w.heap.size+1) (w.heap.size+1+1) (fun k=>k=w.heap.size) (D.tr o) hb hl I J L M (by unfold Lt;omega) (by unfold Lt;omega) (by unfold Lt;omega) Om Om Om (fun k e=>by subst e;exact⟨Nat.le_refl _,Om,Om,Om⟩))
  (fun k e=>by omega) (fun k e=>by omega) (fun _=>rfl)
  (fun i W=> ∃v,W.cell? ⟨w.heap.size,0,none⟩=some (.int .u8 v)∧Qs W w.heap.size=(0,0)∧Lt w.heap.size W∧(v=goL s (bs.take i)∨(stL s bs)[i]?=some v)) (fun _ _=>False)
  (fun i A B h hm=>by
   obtain⟨v,l,f,g,q⟩:=h;have G:=hm.same w.heap.size g Om
   exact⟨v,by rw [Qa,Qf G,←Qa];exact l,by unfold Qs at f⊢;rw [G];exact f,Xl g hm.size,q⟩)
  (fun _ _ _ h _=>h) ⟨s,N,O,Xl t o.size,.inl rfl⟩
  (fun x H W=>W.cell? ⟨w.heap.size,0,none⟩=some (.int .u8 x)∧Lt w.heap.size W)
  (fun x H A B h hm=>⟨by rw [Qa,Qf (hm.same w.heap.size h.2 Om),←Qa];exact h.1,Xl h.2 hm.size⟩)
  ?assign ?body ?done ?stop
 case assign=>
  rintro y i x W K S u ⟨v,l,f,g,q⟩ r z;have V:=Ql f 0
  gi_wp2
  repeat(rw [Oper.semAt_some _ _ _ (by intro c h;cases h)];go_simp;gi_wp2)
  refine z _ _ (Mv.st _ (.inl (.inl rfl)) (Mv.refl _ _)) ⟨x,World.cell?_setCell_same _ _ _ l,by rw [QR];exact f,by rw [Zk];exact g,.inr r⟩ ⟨World.cell?_setCell_same _ _ _ l,by rw [Zk];exact g⟩
 case body=>
  rintro y i x H W Y ⟨Z,hr⟩ S u ⟨v,l,f,g,q⟩ r ⟨T,h6⟩;have P:i<bs.length:=by have:=(List.getElem?_eq_some_iff.1 r).1;rwa [Qd0]at this
  gi_wp2
  refine⟨Mv.refl _ _,x,T,f,g,.inl ?_⟩;have:=Qgz bs s i P;rw [r]at this;exact Option.some.inj this
 case done=>
  rintro W ⟨v,l,f,g,q⟩ u z;have Q:v=goL s bs:=by
   rcases q with h|h
   ·rw [h,Qd0,List.take_length]
   ·rw [List.getElem?_eq_none (Nat.le_refl _)]at h;cases h
  subst Q;go_wp2;refine⟨by simp,.inl ⟨_,_,rfl,run_takeDeferred z,?_⟩⟩;refine⟨_,results_tmp rfl _ _ _,rfl,?_⟩;have R:Ext w W:=Mv.ext_of (D.tr o) u (fun k h=>by rcases h with h|h<;>omega);exact Mv.ext_of R (Mv.put (C:=fun k=>k=a.heap.size) _ _ _ rfl) (fun k h=>by omega)
 case stop=>intro _ _ h;exact h.elim
theorem QuU(s:Int)(bs:List Int)(p:Option Addr)(c:Nat)(w:World)(hb:SlB w p bs)(hl:bs.length≤1000):
  Cr 178 #[.int .u8 s,.slice p bs.length c] w (.int .u8 (goL s bs)):=by
 go_enter Tryz.func178,Tryz.ntmps178
 go_wp2_with ((with_reducible refine(Qox s bs p c _ hb hl).mono ?_);rintro e a ⟨rfl,hb⟩)
 go_ret;exact⟨rfl,hb⟩
end
section
def partsL(t:Tu):List (Int×Int):= [(t.a,4),(t.b,4),(t.c,2),(t.d,2)]
theorem QmD(t:Tu)(w:World):
  Calls Tryz.prog 220 #[tu t.a t.b t.c t.d] w fun e w'=>e= .returned (.func (.func 240) #[] #[.pointer (some ⟨w.heap.size,0,none⟩)])∧w'=w.alloc (.cells #[.int .u32 t.a,.int .u32 t.b,.int .u16 t.c,.int .u16 t.d] 64):=by
 go_enter Tryz.func220,Tryz.ntmps220
 go_wp2;go_ret;exact⟨rfl,rfl⟩
theorem QgA: ∀args w,(callFunc 240 args).run Tryz.prog w= .ok (.enter 240 args) w:=enters_of Tryz.func240 Kr rfl
attribute [local go_sem] Oper.semAt_some
theorem Qjq(n:Nat)(t:Tu)(hc:t.c % 4294967296=t.c)(hd:t.d % 4294967296=t.d)(w:World)(Bt:Nat)(U:Nat→Prop)(ht:YM w Bt t)(hU: ∀k,U k→k≠Bt):
  QcT Fence.wide n Tryz.prog 240 #[.pointer (some ⟨Bt,0,none⟩)] (fun x:Int×Int=>#[.int .u32 x.1,.int .i64 x.2]) (fun _=>False) U (partsL t) w:=by
 intro y J Jx W T V X G F;have HJ:=Xh V;have a2:=Xh X;have C:=Xh hU;clear V X hU;obtain⟨H,I,K,L,G⟩:=G;have D:=Xh G;clear G;have S:=ht.ext T;have HC:=Xh hc;have HD:=Xh hd;have E:=Xh ht.2;clear ht hc hd;refine callsIn_of_wp Tryz.func240 rfl trivial ?_ rfl;simp only [Tryz.ntmps240,List.size_toArray,List.length_cons,List.length_nil,Nat.reduceAdd,Nat.reduceSub,Array.replicate_succ,Array.replicate_zero,List.push_toArray,List.append_toArray,List.nil_append,List.cons_append];have r:=S;have F:J 0 W:=F;clear S T;obtain⟨j,l,m,o⟩:=r.cells;have M:=Xh (D.out 0 (t.a,4) W F rfl);have g:(Instr.yield y #[.int .u32 t.a,.int .i64 4]).run Tryz.prog W= .ok (.round y H (I #[.int .u32 t.a,.int .i64 4]) K L) W:=M.out.1;have i:Lt Bt W:=r.2
 skip
 gi_wp2
 refine⟨(fun h=>by cases h),(M.out.2).mono ?_⟩;clear j l m o g i M;rintro e z ⟨R,rfl,p⟩;obtain⟨rfl,Y,f⟩|⟨rfl,q⟩:=p
 rotate_left
 ·gi_wp2
  repeat(refine⟨(fun _ h=>by cases h),?_⟩;gi_wp2)
  go_end0
  exact⟨⟨_,rfl⟩,.inr q⟩
 have s:YM z Bt t:=⟨by rw [Qf (f.same Bt r.2 (fun h=>by rcases h with h|h;exact C.out _ h rfl;have:=E.out;unfold Lt at this;omega))];exact r.1,Xl r.2 f.size⟩;clear f F r;obtain⟨j,l,m,o⟩:=s.cells;have N:=Xh (D.out 1 (t.b,4) z Y rfl);have g:(Instr.yield y #[.int .u32 t.b,.int .i64 4]).run Tryz.prog z= .ok (.round y H (I #[.int .u32 t.b,.int .i64 4]) K L) z:=N.out.1;have i:Lt Bt z:=s.2
 skip
 gi_wp2
 refine⟨(fun h=>by cases h),(N.out.2).mono ?_⟩;clear j l m o g i N;rintro e A ⟨R,rfl,p⟩;obtain⟨rfl,Z,f⟩|⟨rfl,q⟩:=p
 rotate_left
 ·gi_wp2
  repeat(refine⟨(fun _ h=>by cases h),?_⟩;gi_wp2)
  go_end0
  exact⟨⟨_,rfl⟩,.inr q⟩
 have u:YM A Bt t:=⟨by rw [Qf (f.same Bt s.2 (fun h=>by rcases h with h|h;exact C.out _ h rfl;have:=E.out;unfold Lt at this;omega))];exact s.1,Xl s.2 f.size⟩;clear f Y s;obtain⟨j,l,m,o⟩:=u.cells;have O:=Xh (D.out 2 (t.c,2) A Z rfl);have g:(Instr.yield y #[.int .u32 t.c,.int .i64 2]).run Tryz.prog A= .ok (.round y H (I #[.int .u32 t.c,.int .i64 2]) K L) A:=O.out.1;have i:Lt Bt A:=u.2;have P:=HC.out
 gi_wp2
 refine⟨(fun h=>by cases h),(O.out.2).mono ?_⟩;clear j l m o g i O P;rintro e B ⟨R,rfl,p⟩;obtain⟨rfl,a0,f⟩|⟨rfl,q⟩:=p
 rotate_left
 ·gi_wp2
  repeat(refine⟨(fun _ h=>by cases h),?_⟩;gi_wp2)
  go_end0
  exact⟨⟨_,rfl⟩,.inr q⟩
 have v:YM B Bt t:=⟨by rw [Qf (f.same Bt u.2 (fun h=>by rcases h with h|h;exact C.out _ h rfl;have:=E.out;unfold Lt at this;omega))];exact u.1,Xl u.2 f.size⟩;clear f Z u;obtain⟨j,l,m,o⟩:=v.cells;have Q:=Xh (D.out 3 (t.d,2) B a0 rfl);have g:(Instr.yield y #[.int .u32 t.d,.int .i64 2]).run Tryz.prog B= .ok (.round y H (I #[.int .u32 t.d,.int .i64 2]) K L) B:=Q.out.1;have i:Lt Bt B:=v.2;have P:=HD.out
 gi_wp2
 refine⟨(fun h=>by cases h),(Q.out.2).mono ?_⟩;clear j l m o g i Q P;rintro e W4 ⟨R,rfl,p⟩;obtain⟨rfl,a1,f⟩|⟨rfl,q⟩:=p
 rotate_left
 ·gi_wp2
  repeat(refine⟨(fun _ h=>by cases h),?_⟩;gi_wp2)
  go_end0
  exact⟨⟨_,rfl⟩,.inr q⟩
 have a3:YM W4 Bt t:=⟨by rw [Qf (f.same Bt v.2 (fun h=>by rcases h with h|h;exact C.out _ h rfl;have:=E.out;unfold Lt at this;omega))];exact v.1,Xl v.2 f.size⟩;clear f a0 v
 gi_wp2
 go_end0
 exact⟨⟨_,rfl⟩,.inl a1⟩
end
section
variable {P:Program} {ops:Array Oper} {md:Region.Mode} {n:Nat} {r:Nat} {F:Fence} {C:Nat→Prop}
def xUponW(P:Program)(N:Value→World→Prop):Result Next→Prop
 | .ok (.value u) w'=>N u w'
 | .ok .skip w'=>N undef w'
 |_=>False
theorem QdH{N N':Value→World→Prop}(h: ∀v w,N v w→N' v w): ∀r:Result Next,xUponW P N r→xUponW P N' r
 | .ok (.value u) w',hh=>h _ _ hh
 | .ok .skip w',hh=>h _ _ hh
def QdU(P:Program)(ops:Array Oper)(i:Nat)(K:Act→World→Prop)(a:Act)(w:World):Prop:=
 match ops[i]? with
 |none=>K a w
 |some o=>if Region.wanted o (yielded ops a.tmps)=true then xUponW P (fun v w'=>K (a.put o.dst v) w') ((execOp a.eval o).run P w)else K (a.put o.dst undef) w
theorem QfL{a:Act}{K':Act→World→Prop}(h: ∀a w,K a w→K' a w)(hh:QdU P ops i K a w):QdU P ops i K' a w:=by
 unfold QdU at*
 split
 ·exact h _ _ (by simpa [*]using hh)
 ·rename_i o ho
  simp only [ho]at hh
  split
  ·rename_i hw;simp only [hw,if_true]at hh;exact QdH (fun v w' h1=>h _ _ h1) _ hh
  ·rename_i hw;simp only [hw]at hh;exact h _ _ hh
theorem QhQ{a:Act}{Q:Exit→Act→World→Prop}(hF: ∀f,F.fn f)(hd: ∀o,ops[i]?=some o→ ∀c,o.op≠ .defer c)(hh:QdU P ops i K a w):wpOpIn F n P ops Q i K a w:=by
 unfold QdU at hh;unfold wpOpIn
 split
 ·rename_i ho;simp only [ho]at hh;exact hh
 ·rename_i o ho
  simp only [ho]at hh
  split
  ·rename_i hw
   simp only [hw,if_true]at hh;refine⟨fun f _=>hF f,?_⟩;have b:Oper.semAt F.round a.eval o=execOp a.eval o:=by
    cases F.round with
    |none=>rfl
    |some l=>exact Oper.semAt_some l _ _ (hd o ho)
   rw [b];generalize (execOp a.eval o).run P w=q at*
   cases q with
   |ok x w'=>
    cases x<;>simp only [xUponW]at hh<;>simp only [Oper.uponIn]
    case value u=>exact hh
    case skip=>exact hh
   |halt x w'=>simp only [xUponW]at hh
  ·rename_i hw;simp only [hw]at hh;exact⟨fun f _=>hF f,hh⟩
def Yl(C:Nat→Prop)(P:Program)(md:Region.Mode)(ops:Array Oper)(r:Nat)(Q:Act→World→Prop):Nat→Array Bool→Act→World→Prop
 |0,listed,a,w=>Region.ready md ops listed= []∧Q a w
 |fuel+1,listed,a,w=>(Region.ready md ops listed= []→Q a w)∧
  ∀i∈Region.ready md ops listed,QdU P ops i (fun a' w'=>(i=r∨Mv C w w')∧Yl C P md ops r Q fuel (listed.setIfInBounds i true) a' w') a w
theorem Qcl{Q':Exit→Act→World→Prop}(hF: ∀f,F.fn f)(hd: ∀(i:Nat) o,ops[i]?=some o→ ∀c,o.op≠ .defer c)(hQ: ∀a w,Q a w→Q' .normal a w): ∀(fuel:Nat) (listed:Array Bool) (a:Act) (w:World),
  Yl C P md ops r Q fuel listed a w→wpAnyIn F n P md ops Q' fuel listed a w
 |0,_,_,_,h=>⟨h.1,hQ _ _ h.2⟩
 |fuel+1,_,_,_,h=>⟨fun h0=>hQ _ _ (h.1 h0),fun i hi=>QhQ hF (hd i) (QfL (fun a' w' h1=>Qcl hF hd hQ fuel _ a' w' h1.2) (h.2 i hi))⟩
def Y3(C:Nat→Prop)(P:Program)(ops:Array Oper)(w:World)(o:Oper)(v:Value)(a:Act):Prop:=
 (Region.wanted o (yielded ops a.tmps)=true∧ ∀w',Mv C w w'→(execOp a.eval o).run P w'= .ok (.value v) w')∨(Region.wanted o (yielded ops a.tmps)=false∧v=undef)
theorem Y3.later{v:Value}{a:Act}(h:Y3 C P ops w o v a)(e:Mv C w w'):Y3 C P ops w' o v a:=by
 rcases h with⟨h1,h2⟩|h
 ·exact .inl ⟨h1,fun w2 e2=>h2 w2 (e.trans e2)⟩
 ·exact .inr h
theorem Y3.xOp{v:Value}{a:Act}(hi:ops[i]?=some o)(hy:Y3 C P ops w o v a)(h:K (a.put o.dst v) w):QdU P ops i K a w:=by
 unfold QdU;simp only [hi];rcases hy with⟨hw,hv⟩|⟨hw,rfl⟩
 ·simp only [hw,if_true,hv w (Mv.refl _ _),xUponW];exact h
 ·simp only [hw,Bool.false_eq_true,if_false];exact h
theorem Qoy{j:Nat}{oj:Oper}{v:Value}(hj:ops[j]?=some oj)(hap:oi.apart ops oj=true)
  (hsi: ∀cs b,oi.op≠ .select cs b)(hsj: ∀cs b,oj.op≠ .select cs b){a:Act}
  (hy:Y3 C P ops w oi v a)(h:QdU P ops j K (a.put oi.dst v) w):
  QdU P ops j (fun a' w'=>Y3 C P ops w oi v a'∧K (a'.put oi.dst v) w') a w:=by
 obtain⟨d,e,f⟩:=Oper.apart_spec hap;have c: ∀u,Y3 C P ops w oi v (a.put oj.dst u):=fun u=>by
  unfold Y3 at*;rw [execOp_put oi hsi a oj.dst u f,wanted_put oi a oj.dst u f];exact hy
 unfold QdU at*;simp only [hj]at*;rw [wanted_put oj a oi.dst v d]at h
 split
 ·rename_i hw
  simp only [hw,if_true]at h;rw [execOp_put oj hsj a oi.dst v d]at h;exact QdH (fun u w' h4=>⟨c u,by rw [←Act.put_comm a v u e];exact h4⟩) _ h
 ·rename_i hw
  simp only [hw]at h;exact⟨c _,by rw [←Act.put_comm a v undef e];exact h⟩
theorem QgB{v:Value}{l:List Nat}(hi:ops[i]?=some oi)(hsel: ∀(j:Nat) (o:Oper) cs b,ops[j]?=some o→o.op≠ .select cs b)
  (hwt:YR md ops (i::l)=true)(hla:(i::l).getLast?=some r)(hir:i≠r):
  ∀(fuel:Nat) (listed:Array Bool) (a:Act) (w:World),Qai md ops listed→
   (∀j oj,ops[j]?=some oj→j≠i→listed.getD j true=false→(∀e∈oj.after,Region.binds md e=true→e.on≠i)→oi.apart ops oj=true)→
   i∈Region.ready md ops listed→Y3 C P ops w oi v a→
   Yl C P md ops r Q fuel (listed.setIfInBounds i true) (a.put oi.dst v) w→Yl C P md ops r Q (fuel+1) listed a w:=by
 intro fuel
 induction fuel with
 |zero=>
  intro listed a w _ _ f m H;refine⟨fun h=>(by rw [h]at f;cases f),fun j hj=> ?_⟩
  by_cases d:j=i
  ·subst d;exact m.xOp hi ⟨.inr (Mv.refl _ _),H⟩
  ·have:=ready_mono hj d;rw [H.1]at this
   cases this
 |succ fuel ih=>
  intro listed a w q s f m H;refine⟨fun h=>(by rw [h]at f;cases f),fun j hj=> ?_⟩
  by_cases d:j=i
  ·subst d;exact m.xOp hi ⟨.inr (Mv.refl _ _),H⟩
  ·have u:j≠r:=fun e=>by
    subst e;have c:=Qaj q hj l i hwt hla hir;have g:=(mem_ready.1 f).1;rcases Nat.lt_or_ge i listed.size with h'|h'
    ·simp [h']at g c;rw [g]at c;cases c
    ·simp [Array.getElem?_eq_none h']at c
   have c:=H.2 j (ready_mono hj d);obtain⟨t,oj,n,hall⟩:=mem_ready.1 hj;have x: ∀e∈oj.after,Region.binds md e=true→e.on≠i:=fun e he hb heq=>by
    have c:=hall e he hb;have g:=(mem_ready.1 f).1;rw [heq]at c;rcases Nat.lt_or_ge i listed.size with h'|h'
    ·simp [h']at g c;rw [g]at c;cases c
    ·simp [Array.getElem?_eq_none h']at c
   have y:=Qoy n (s j oj n d t x) (fun cs b=>hsel i oi cs b hi) (fun cs b=>hsel j oj cs b n) m c;have z: ∀k ok,ops[k]?=some ok→k≠i→(listed.setIfInBounds j true).getD k true=false→
     (∀e∈ok.after,Region.binds md e=true→e.on≠i)→oi.apart ops ok=true:=fun k ok hk hki hun hno=>by
    refine s k ok hk hki ?_ hno
    by_cases p:j=k
    ·subst p;exact t
    ·rw [getD_set_ne true p]at hun;exact hun
   refine QfL (fun a' w' h3=>⟨h3.2.1,ih (listed.setIfInBounds j true) a' w' (q.set hj) z (ready_mono f (Ne.symm d)) (h3.1.later (h3.2.1.resolve_left u)) ?_⟩) y;have A:=h3.2.2;rw [Array.setIfInBounds_comm _ _ d];exact A
theorem QfM{l:List Nat}{v:Value}{a:Act}(hs:Region.noSelect ops=true)(hok:okX ops N k=true)
  (hcl:closedB .any ops (lst N k)=true)(hwt:YR .any ops (k::l)=true)(hla:(k::l).getLast?=some r)(hir:k≠r)(hi:ops[k]?=some oi)(hw:Region.wanted oi (yielded ops a.tmps)=true)
  (hy: ∀w',Mv C w w'→(execOp a.eval oi).run P w'= .ok (.value v) w')
  (H:Yl C P .any ops r Q fuel (lst N (k+1)) (a.put oi.dst v) w):Yl C P .any ops r Q (fuel+1) (lst N k) a w:=by
 unfold okX at hok;rw [Bool.and_eq_true]at hok;refine QgB hi (Region.noSelect_spec hs) hwt hla hir fuel _ a w (QfH hcl) (Region.free_spec hi hok.1) (by simpa using ZZ hok.2) (.inl ⟨hw,hy⟩) ?_;rw [JJ];exact H
theorem QtN{a:Act}(hr:Region.ready .any ops (lst N k)= [k])(hi:ops[k]?=some oi)(hw:Region.wanted oi (yielded ops a.tmps)=true)
  (H:xUponW P (fun v w'=>(k=r∨Mv C w w')∧Yl C P .any ops r Q fuel (lst N (k+1)) (a.put oi.dst v) w') ((execOp a.eval oi).run P w)):Yl C P .any ops r Q (fuel+1) (lst N k) a w:=by
 refine⟨fun h0=> ?_,fun j hj=> ?_⟩
 ·rw [hr]at h0;cases h0
 ·rw [hr]at hj;obtain rfl:j=k:=by simpa using hj
  unfold QdU;simp only [hi,hw,if_true];rw [JJ];exact H
theorem QtO{v:Value}{a:Act}(hr:Region.ready .any ops (lst N k)= [k])(hi:ops[k]?=some oi)(hw:Region.wanted oi (yielded ops a.tmps)=true)
  (he:(execOp a.eval oi).run P w= .ok (.value v) w1)(hE:k=r∨Mv C w w1)(H:Yl C P .any ops r Q fuel (lst N (k+1)) (a.put oi.dst v) w1):Yl C P .any ops r Q (fuel+1) (lst N k) a w:=by
 refine QtN hr hi hw ?_;rw [he];exact⟨hE,H⟩
theorem QxE{a:Act}(hr:Region.ready .any ops (lst N k)= [k])(hi:ops[k]?=some oi)(hw:Region.wanted oi (yielded ops a.tmps)=true)
  (he:(execOp a.eval oi).run P w= .ok .skip w1)(hE:k=r∨Mv C w w1)(H:Yl C P .any ops r Q fuel (lst N (k+1)) (a.put oi.dst undef) w1):Yl C P .any ops r Q (fuel+1) (lst N k) a w:=by
 refine QtN hr hi hw ?_;rw [he];exact⟨hE,H⟩
theorem QxF{a:Act}(hr:Region.ready md ops listed= [])(H:Q a w):Yl C P md ops r Q fuel listed a w:=by
 cases fuel with
 |zero=>exact⟨hr,H⟩
 |succ m=>exact⟨fun _=>H,fun i hi=>by rw [hr]at hi;cases hi⟩
theorem QhR(r:Nat){id:Nat}{Q:Exit→Act→World→Prop}{a:Act}(C:Nat→Prop)(hF: ∀f,F.fn f)(hd:(ops.all fun o=>match o.op with| .defer _=>false|_=>true)=true)(hm:P.follows .mixedOrders=true)
  (h:Yl C P .any ops r (fun a w=>Q .normal a w) ops.size (Array.replicate ops.size false) a w.drew):(Code.region id ops true).wpIn F n P Q a w:=
 wpIn_region_any hm (Qcl hF (fun i o ho c e=>by
  rw [Array.all_eq_true']at hd;have:=hd o (Array.mem_of_getElem? ho);rw [e]at this
  cases this) (fun _ _ h=>h) _ _ _ _ h)
theorem QxG{P:Program}{ops E:Array Oper}{a:Act}{R:Array Oper→Prop}(h:ops=E)(hR:R E)(hf:ops.size=N)
  (H:R ops→Yl C P .any ops r Q N (lst N 0) a w):Yl C P .any ops r Q ops.size (Array.replicate ops.size false) a w:=by
 rw [hf,Qec];exact H (h▸hR)
end
def byN(n:Int):Nat→List Int
 |0=> []
 |k+1=>(n/256^k % 256)::byN n k
theorem ZA(n:Int): ∀k,(byN n k).length=k
 |0=>rfl
 |k+1=>by simp [byN,ZA n k]
theorem Qlj(n:Int): ∀(m i:Nat) (h:i<m),(byN n m)[i]?=some (n/256^(m- 1- i) % 256)
 |m+1,0,_=>by simp [byN]
 |m+1,i+1,h=>by
  simp only [byN,List.getElem?_cons_succ];rw [Qlj n m i Om];rw [show m- 1- i=m+1- 1- (i+1)by omega]
theorem Qcm(n:Int)(m j:Nat)(h:j<m):(byN n m).take (m- (j+1))++ [n/256^j % 256]=(byN n m).take (m- j):=by
 have a:=Qlj n m (m- (j+1)) Om;have b:m- j=m- (j+1)+1:=by omega
 rw [b,List.take_add_one,a,show m- 1- (m- (j+1))=j by omega];rfl
theorem QmE{B O:Nat}{a:Option Addr}{c:Nat}(h0:w.cell? ⟨B,O,none⟩=some (.slice a m c))(hl:Lt B w)(hC: ¬C B)
  (hx:ρ x= .pointer (some ⟨B,O,none⟩)): ∀w',Mv C w w'→(execOp ρ ⟨dst,.load 28 x,ty,pos,after,g⟩).run Tryz.prog w'= .ok (.value (.slice a m c)) w':=by
 intro w' b;have h0:w'.cell? ⟨B,O,none⟩=some (.slice a m c):=by rw [Qa,Qf (b.same B hl hC),←Qa];exact h0
 simp only [execOp,hx];go_simp
theorem Qoz{j:Nat}(hj:j<4){r:TypeId}(hx:ρ x= .int .i64 (j:Nat))(hk:ρ (.const (.int .i64 8))= .int .i64 8)(w:World):
  (execOp ρ ⟨dst,.binOp .mul 3 (.const (.int .i64 8)) x r,ty,pos,after,g⟩).run Tryz.prog w= .ok (.value (.int .i64 ((8*j:Nat):Int))) w:=by
 obtain rfl|rfl|rfl|rfl:j=0∨j=1∨j=2∨j=3:=by omega
 all_goals(simp only [execOp,hx,hk];go_simp;rfl)
theorem QoA{n:Int}{j:Nat}(hj:j<4)(ρ:Operand→Value)(dst:Option Tmp)(x y:Operand)(s r ty:TypeId)(pos:String)(after:Array Edge)(g:Option (Nat×Bool))(hx:ρ x= .int .u32 n)(hy:ρ y= .int .i64 ((8*j:Nat):Int))(w:World):
  (execOp ρ ⟨dst,.binOp .shr 61 x y 3,ty,pos,after,g⟩).run Tryz.prog w= .ok (.value (.int .u32 (n/256^j))) w:=by
 obtain rfl|rfl|rfl|rfl:j=0∨j=1∨j=2∨j=3:=by omega
 all_goals
  simp only [execOp,hx,hy];go_simp
theorem QmF{n:Int}(hx:ρ x= .int .u32 n)(w:World):
  (execOp ρ ⟨dst,.convert 61 5 x,ty,pos,after,g⟩).run Tryz.prog w= .ok (.value (.int .u8 (n % 256))) w:=by
 simp only [execOp,hx];go_simp;simp [IntKind.wrap,IntKind.bits,IntKind.signed]
theorem QfN{v:Int}(hx:ρ x= .int .u8 v)(w:World):
  (execOp ρ ⟨dst,.buildSlice 28 1 #[(0,x)],ty,pos,after,g⟩).run Tryz.prog w= .ok (.value (.slice (some ⟨w.heap.size,0,none⟩) 1 1)) (w.alloc (.cells #[.int .u8 v] 5)):=by
 simp only [execOp];go_simp
theorem YB:(Tryz.prog.info? 5).map (fun i=>(i.zero,i.size,i.bytes))=some (some (.int .u8 0),1,1):=Kr
theorem Qr3{B A L K:Nat}{v:Int}{u:Value}(hA:w.cell? ⟨A,0,none⟩=some (.int .u8 v))(hL:L+1≤K)(hc:w.cell? ⟨B,L,none⟩=some u)(hf:w.frozen? ⟨B,L,none⟩=false){y:Operand}
  (hx:ρ x= .slice (some ⟨B,0,none⟩) L K)(hy:ρ y= .slice (some ⟨A,0,none⟩) 1 1):
  (execOp ρ ⟨dst,.call {callee:= .builtin .append,args:=#[x,y],argTypes:=#[28,28]},ty,pos,after,g⟩).run Tryz.prog w= .ok (.value (.slice (some ⟨B,0,none⟩) (L+1) K)) (w.setCells B (0+L*1) [.int .u8 v]):=by
 obtain⟨b,c,d,a,e⟩:=info_parts YB
 have h:=run_append_room_cells (P:=Tryz.prog) w 28 ty 5 b Tryz.underlying28 c B 0 L K ⟨A,0,none⟩ 1 1 [.int .u8 v] (by rw [a];rfl) (fun j u h=>by
  match j,h with
  |0,h=>cases h;exact hA) (by simp [Value.oneCell']) hL (fun j hj=>by
   obtain rfl:j=0:=by simpa using hj
   rw [a,show 0+L*1+0=L by omega,hc];rfl) (fun j hj=>by
   obtain rfl:j=0:=by simpa using hj
   rw [a,show 0+L*1+0=L by omega];exact hf)
 rw [a]at h;simp [execOp,resolve,invoke,builtin,hx,hy,h,Result.andThen]
theorem Yt{B:Nat}{v u:Value}(hc:w.cell? ⟨B,0,none⟩=some u)(hf:w.frozen? ⟨B,0,none⟩=false)(hv: ∃a m c,v= .slice a m c){y:Operand}
  (hx:ρ x= .pointer (some ⟨B,0,none⟩))(hy:ρ y=v):
  (execOp ρ ⟨dst,.store 28 x y,ty,pos,after,g⟩).run Tryz.prog w= .ok .skip (w.setCell ⟨B,0,none⟩ v):=by
 obtain⟨a,m,c,rfl⟩:=hv;simp only [execOp,hx,hy];go_simp
def QoB:List (Nat×List Nat):= [(0,[7,8]),(1,[4,5,6,7,8]),(2,[3,4,5,6,7,8]),(3,[4,5,6,7,8]),(4,[5,6,7,8]),(5,[6,7,8])]
def QxH(ops:Array Oper):Prop:=Region.noSelect ops=true∧(∀k,k<6→okX ops 9 k=true)∧(∀k,k<6→closedB .any ops (lst 9 k)=true)∧(∀k l,(k,l)∈QoB→YR .any ops (k::l)=true)∧Region.ready .any ops (lst 9 6)= [6]∧Region.ready .any ops (lst 9 7)= [7]∧Region.ready .any ops (lst 9 8)= [8]∧Region.ready .any ops (lst 9 9)= []
theorem QAb:QxH ((Tryz.f179.body.bind (Qh 8)).getD #[]):=by
 have a:((List.range 6).all fun k=>okX ((Tryz.f179.body.bind (Qh 8)).getD #[]) 9 k)=true:=Kr
 have b:((List.range 6).all fun k=>closedB .any ((Tryz.f179.body.bind (Qh 8)).getD #[]) (lst 9 k))=true:=Kr
 have c:(QoB.all fun kl=>YR .any ((Tryz.f179.body.bind (Qh 8)).getD #[]) (kl.1::kl.2))=true:=Kr
 exact⟨Kr,fun k hk=>List.all_eq_true.1 a k (List.mem_range.2 hk),fun k hk=>List.all_eq_true.1 b k (List.mem_range.2 hk),fun k l h=>List.all_eq_true.1 c (k,l) h,Kr,Kr,Kr,Kr⟩
section
def partN(x:Int×Int):List Int:=byN x.1 x.2.toNat
def tb(t:Tu):List Int:=(partsL t).flatMap partN
def BAt(W:World)(Bv Br:Nat)(bs:List Int):Prop:=W.cell? ⟨Bv,0,none⟩=some (.slice (some ⟨Br,0,none⟩) bs.length 12)∧Qs W Bv=(0,0)∧Lt Bv W∧ ∃cur:Array Value,W.heap[Br]?=some (.cells cur 5 (0,0))∧cur.size=12∧cur.toList.take bs.length=bs.map (Value.int .u8)
theorem BAt.same{Bv Br:Nat}(h:BAt A Bv Br bs)(hs:A.heap.size≤B.heap.size)(h1:B.heap[Bv]?=A.heap[Bv]?)(h2:B.heap[Br]?=A.heap[Br]?):BAt B Bv Br bs:=by
 obtain⟨b,a,c,d,e,f,g⟩:=h;exact⟨by rw [Qa,Qf h1,←Qa];exact b,by unfold Qs at a⊢;rw [h1];exact a,Xl c hs,d,by rw [h2];exact e,f,g⟩
theorem BAt.push{Bv Br L:Nat}{bs':List Int}{v:Int}(hne:Bv≠Br)(h:BAt W Bv Br bs)(hL:bs.length=L)(h12:L<12)(hb:bs++ [v]=bs'):BAt ((W.setCells Br (0+L*1) [.int .u8 v]).setCell ⟨Bv,0,none⟩ (.slice (some ⟨Br,0,none⟩) (L+1) 12)) Bv Br bs':=by
 obtain⟨i,j,k,b,l,c,m⟩:=h;subst hL hb;have a:bs.length+1=(bs++ [v]).length:=by simp
 rw [show 0+bs.length*1=bs.length by omega];have d:(W.setCells Br bs.length [.int .u8 v])=W.setCell ⟨Br,bs.length,none⟩ (.int .u8 v):=rfl;rw [d];refine⟨?_,by rw [QR,QR];exact j,by rw [Zk,Zk];exact k,b.setIfInBounds bs.length (.int .u8 v),?_,by simpa using c,?_⟩
 ·rw [←a];have f:(W.setCell ⟨Br,bs.length,none⟩ (.int .u8 v)).cell? ⟨Bv,0,none⟩=some (.slice (some ⟨Br,0,none⟩) bs.length 12):=by
   rw [World.cell?_setCell_other _ _ _ _ (fun e=>hne (by first|exact congrArg Addr.block e|exact(congrArg Addr.block e).symm))];exact i
  exact World.cell?_setCell_same _ _ _ f
 ·simp only [World.setCell];rw [Array.getElem?_modify,if_neg (by simpa using hne),Array.getElem?_modify,if_pos rfl,l];rfl
 ·have g:bs.length<b.toList.length:=by simpa [c]using h12
  rw [Array.toList_setIfInBounds,←a,List.take_add_one,List.take_set_of_le (Nat.le_refl _),m,List.getElem?_set_self g];simp
def Qr4:Array Value:=Array.replicate 12 (Value.int .u8 0)
theorem QAc(w:World):(Instr.makeSlice 28 (.int .i64 0) (.int .i64 12)).run Tryz.prog w= .ok (.slice (some ⟨w.heap.size,0,none⟩) 0 12) (w.alloc (.cells Qr4 5)):=Kr
attribute [local go_sem] Oper.semAt_some
theorem QmG(t:Tu)(hc:t.c % 4294967296=t.c)(hd:t.d % 4294967296=t.d)(w:World):
  Calls Tryz.prog 179 #[tu t.a t.b t.c t.d] w fun e w'=> ∃b,e= .returned (.slice (some ⟨b,0,none⟩) 12 12)∧SlB w' (some ⟨b,0,none⟩) (tb t)∧Ext w w':=by
 refine(callsIn_wide (n:=5)).1 ?_;refine callsIn_of_wp_marks Tryz.func179 rfl trivial ?_ rfl;simp only [Tryz.ntmps179,List.size_toArray,List.length_cons,List.length_nil,Nat.reduceAdd,Nat.reduceSub,Array.replicate_succ,Array.replicate_zero,List.push_toArray,List.append_toArray,List.nil_append,List.cons_append];refine wpIn_wide.2 ?_;have mk:=QAc
 go_wp2_with (go_at_call 220;(refine(QmD t _).mono ?_);rintro e w2 ⟨rfl,rfl⟩)
 obtain⟨f,r⟩: ∃f,((((w.alloc (.cells #[.int .u32 t.a,.int .u32 t.b,.int .u16 t.c,.int .u16 t.d] 64)).alloc (.cells Qr4 5)).alloc (.cells #[.slice (some ⟨w.heap.size+1,0,none⟩) 0 12] 28)).alloc (.cells #[.int .u32 t.a,.int .u32 t.b,.int .u16 t.c,.int .u16 t.d] 64))=f:=⟨_,rfl⟩;have g2:Ext w f:=by rw [←r];exact Ext.al (Ext.al (Ext.al Ea _) _) _
 have c9:f.heap.size=w.heap.size+4:=by rw [←r];simp
 have a2:YM f (w.heap.size+3) t:=⟨by rw [←r];simp [go_sem],by unfold Lt;omega⟩;have a3:BAt f (w.heap.size+2) (w.heap.size+1) []:=by
  refine⟨by rw [←r];simp [go_sem],by rw [←r];simp [go_sem],by unfold Lt;omega,Qr4,?_,rfl,rfl⟩;rw [←r];rw [Below.heap_alloc _ _ _ (by simp),Below.heap_alloc _ _ _ (by simp)];have:=World.alloc_heap_new (w.alloc (.cells #[.int .u32 t.a,.int .u32 t.b,.int .u16 t.c,.int .u16 t.d] 64)) (.cells Qr4 5)
  rwa [World.size_alloc]at this
 rw [r];clear r mk;refine(wpIn_wide (n:=5)).1 ?_;refine ZI rfl Om (gf:=240) (lb:=#[.pointer (some ⟨w.heap.size+3,0,none⟩)]) rfl trivial QgA
  (Qjq _ t hc hd f (w.heap.size+3) (fun k=>k=w.heap.size+1∨k=w.heap.size+2) a2 (fun k e=>by omega))
  (fun k e=>e.elim) (fun k e=>by omega) (fun _=>rfl)
  (fun i W=>BAt W (w.heap.size+2) (w.heap.size+1) (((partsL t).take i).flatMap partN)) (fun _ _=>False)
  (fun i A B h hm=>h.same hm.size (hm.same _ h.2.2.1 (by rintro(h|h|h)<;>first|exact h.elim|omega)) (hm.same _ (Xl (Nat.lt_succ_self _) (Nat.le_of_lt h.2.2.1)) (by rintro(h|h|h)<;>first|exact h.elim|omega)))
  (fun _ _ _ h _=>h) a3
  (fun x Z W=>Z={tmps:=#[tu t.a t.b t.c t.d,.pointer (some ⟨w.heap.size,0,none⟩),.slice none 0 0,.pointer (some ⟨w.heap.size+2,0,none⟩),.int .u32 x.1,.int .i64 x.2,.slice (some ⟨w.heap.size+1,0,none⟩) 0 12,tu t.a t.b t.c t.d,.func (.func 240) #[] #[.pointer (some ⟨w.heap.size+3,0,none⟩)],.int .u32 x.1,.int .i64 x.2,undef,undef,undef,undef,undef,undef,undef,undef,undef,undef,undef,undef,undef,undef,undef],defers:= []})
  (fun x Z A B h hm=>h)
  ?assign ?body ?done ?stop
 case assign=>
  rintro y i x W K c8 J D X Y
  gi_wp2
  repeat(rw [Oper.semAt_some _ _ _ (by intro c h;cases h)];go_simp;gi_wp2)
  exact Y _ _ (Mv.refl _ _) D rfl
 case body=>
  rintro y i x Z W d4 ⟨rr,hr⟩ c8 J D X rfl;obtain⟨n,q,rfl⟩: ∃n q,x=(n,q):=⟨x.1,x.2,rfl⟩;obtain⟨s,a0⟩: ∃s,((partsL t).take i).flatMap partN=s:=⟨_,rfl⟩;obtain⟨m,rfl,d5,d6,b7⟩: ∃m:Nat,q=m∧m≤4∧s.length+m≤12∧((partsL t).take (i+1)).flatMap partN=s++byN n m:=by
   subst a0
   match i,X with
   |0,h=>cases h;exact⟨4,rfl,Om,by simp [partsL,partN,byN],rfl⟩
   |1,h=>cases h;exact⟨4,rfl,Om,by simp [partsL,partN,byN],rfl⟩
   |2,h=>cases h;exact⟨2,rfl,Om,by simp [partsL,partN,byN],rfl⟩
   |3,h=>cases h;exact⟨2,rfl,Om,by simp [partsL,partN,byN],rfl⟩
  rw [a0]at D;have a4:=Xh b7;clear a0 b7 X hr J
  gi_wp2
  repeat(rw [Oper.semAt_some _ _ _ (by intro c h;cases h)];go_simp;gi_wp2)
  gi_loopw [5] (fun a wr=> ∃q:Nat,q≤m∧a= .int .i64 ((q:Int)- 1)∧BAt wr (w.heap.size+2) (w.heap.size+1) (s++(byN n m).take (m- q))∧Mv (fun k=>(k=w.heap.size+1∨k=w.heap.size+2)∨f.heap.size+2≤k) W wr) (fun a _=>(intOf a+1).toNat)
  case atStart=>exact⟨m,Nat.le_refl _,rfl,by rw [Nat.sub_self];simpa using D,Mv.refl _ _⟩
  case round=>
   obtain⟨q,hq,rfl,M,hM⟩:=hrel;clear D
   by_cases h0:q=0
   ·subst h0;have G:=Xh M;clear M
    gi_wp2
    refine⟨hM,?_⟩;show BAt wr _ _ (List.flatMap partN (List.take (i+1) (partsL t)));rw [a4.out];have:=G.out
    rwa [Nat.sub_zero,List.take_of_length_le (by rw [ZA];omega)]at this
   ·obtain⟨j,rfl⟩: ∃j,q=j+1:=⟨q- 1,Om⟩;have d0:decide ((0:Int)≤((j+1:Nat):Int)- 1)=true:=decide_eq_true Om;have G:=Xh M;have HM:=Xh hM;obtain⟨b1,b2,O,-⟩:=M;clear hM;obtain⟨L,hL⟩: ∃L,(s++(byN n m).take (m- (j+1))).length=L:=⟨_,rfl⟩;rw [hL]at b1;have U:=Xh hL;clear hL a3 a2;have a5:L<12:=by rw [←U.out,List.length_append,List.length_take];omega
    have b9:L+1≤12:=by omega
    gi_wp2
    repeat(rw [Oper.semAt_some _ _ _ (by intro c h;cases h)];go_simp;gi_wp2)
    rw [show(((j+1:Nat):Int)- 1)=j by omega]
    go_wp2_with (fail)
    refine QhR (F:=_) 8 (fun k=>k=w.heap.size+1) (fun _=>trivial) Kr Kr ?_;obtain⟨g,a1⟩: ∃g,wr.drew=g:=⟨_,rfl⟩;have z:Ext wr g:=by rw [←a1];exact Ext.dr (Ext.rf _)
    rw [a1];clear a1;have V:Lt (w.heap.size+2) g:=Xl O z.size;have a6:BAt g (w.heap.size+2) (w.heap.size+1) (s++(byN n m).take (m- (j+1))):=G.out.same z.size (z.block _ O) (z.block _ (Xl (Nat.lt_succ_self _) (Nat.le_of_lt O)));have d1:g.cell? ⟨w.heap.size+2,0,none⟩=some (.slice (some ⟨w.heap.size+1,0,none⟩) L 12):=(z.cell (p:=⟨w.heap.size+2,0,none⟩) O).trans b1;have a7:j<4:=by omega
    refine QxG (N:=9) (R:=QxH) (E:=((Tryz.f179.body.bind (Qh 8)).getD #[])) Kr QAb Kr fun hS=> ?_;refine QfM (N:=9) (k:=0) (l:= [7,8]) (v:= .slice (some ⟨w.heap.size+1,0,none⟩) L 12) hS.1 (hS.2.1 0 Dc) (hS.2.2.1 0 Dc) (hS.2.2.2.1 0 [7,8] Dc) rfl Dc rfl Kr (QmE d1 V Om Kr) ?_;refine QfM (N:=9) (k:=1) (l:= [4,5,6,7,8]) (v:= .int .u32 n) hS.1 (hS.2.1 1 Dc) (hS.2.2.1 1 Dc) (hS.2.2.2.1 1 [4,5,6,7,8] Dc) rfl Dc rfl Kr (fun _ _=>by kernel_rfl) ?_;refine QfM (N:=9) (k:=2) (l:= [3,4,5,6,7,8]) (v:= .int .i64 (j:Nat)) hS.1 (hS.2.1 2 Dc) (hS.2.2.1 2 Dc) (hS.2.2.2.1 2 [3,4,5,6,7,8] Dc) rfl Dc rfl Kr (fun _ _=>by kernel_rfl) ?_;refine QfM (N:=9) (k:=3) (l:= [4,5,6,7,8]) (v:= .int .i64 ((8*j:Nat):Int)) hS.1 (hS.2.1 3 Dc) (hS.2.2.1 3 Dc) (hS.2.2.2.1 3 [4,5,6,7,8] Dc) rfl Dc rfl Kr (fun w' _=>Qoz a7 Kr rfl w') ?_;refine QfM (N:=9) (k:=4) (l:= [5,6,7,8]) (v:= .int .u32 (n/256^j)) hS.1 (hS.2.1 4 Dc) (hS.2.2.1 4 Dc) (hS.2.2.2.1 4 [5,6,7,8] Dc) rfl Dc rfl Kr (fun w' _=>QoA a7 _ _ _ _ 3 3 _ _ _ _ Kr Kr w') ?_;refine QfM (N:=9) (k:=5) (l:= [6,7,8]) (v:= .int .u8 (n/256^j % 256)) hS.1 (hS.2.1 5 Dc) (hS.2.2.1 5 Dc) (hS.2.2.2.1 5 [6,7,8] Dc) rfl Dc rfl Kr (fun w' _=>QmF Kr w') ?_;refine QtO (N:=9) (k:=6) hS.2.2.2.2.1 rfl Kr (QfN (v:=n/256^j % 256) Kr _) (.inr (Mv.of_ext Ea)) ?_;obtain⟨o,P⟩: ∃o,g.alloc (.cells #[.int .u8 (n/256^j % 256)] 5)=o:=⟨_,rfl⟩;have H:Ext g o:=by rw [←P];exact Ea
    have cA:o.cell? ⟨g.heap.size,0,none⟩=some (.int .u8 (n/256^j % 256)):=by rw [←P];simp [go_sem]
    rw [P];clear P;have I:BAt o (w.heap.size+2) (w.heap.size+1) (s++(byN n m).take (m- (j+1))):=a6.same H.size (H.block _ V) (H.block _ (Xl (Nat.lt_succ_self _) (Nat.le_of_lt V)));have a8:Mv (fun k=>(k=w.heap.size+1∨k=w.heap.size+2)∨f.heap.size+2≤k) W o:=(HM.out.tr z).tr H;obtain⟨f1,f2,f3,Q,f4,f5,f6⟩:=Xh I;have a9:L<Q.size:=by rw [f5];exact a5
    refine QtO (N:=9) (k:=7) hS.2.2.2.2.2.1 rfl Kr (Qr3 (u:=Q[L]'a9) cA b9 (by rw [Qa];unfold Qc;rw [f4];exact Array.getElem?_eq_getElem a9) (Ql (by unfold Qs;rw [f4]) L) Kr Kr) (.inr (Mv.sc (C:=fun k=>k=w.heap.size+1) rfl _ _ _ _ (Mv.refl _ _))) ?_;refine QxE (N:=9) (k:=8) hS.2.2.2.2.2.2.1 rfl Kr (Yt (B:=w.heap.size+2) (v:= .slice (some ⟨w.heap.size+1,0,none⟩) (L+1) 12) (u:= .slice (some ⟨w.heap.size+1,0,none⟩) L 12) ?_ ?_ ⟨_,_,_,rfl⟩ Kr Kr) (.inl rfl) ?_
    rotate_left 2
    refine QxF hS.2.2.2.2.2.2.2 ?_;have b0:=BAt.push (v:=n/256^j % 256) Om I U.out a5 (by rw [List.append_assoc,Qcm n m j Om]);have b4:Mv (fun k=>(k=w.heap.size+1∨k=w.heap.size+2)∨f.heap.size+2≤k) W ((o.setCells (w.heap.size+1) (0+L*1) [.int .u8 (n/256^j % 256)]).setCell ⟨w.heap.size+2,0,none⟩ (.slice (some ⟨w.heap.size+1,0,none⟩) (L+1) 12)):=
     Mv.st _ (.inl (.inl (.inr rfl))) (Mv.sc (.inl (.inl rfl)) _ _ _ _ a8)
    obtain⟨W4,b8⟩: ∃W4,((o.setCells (w.heap.size+1) (0+L*1) [.int .u8 (n/256^j % 256)]).setCell ⟨w.heap.size+2,0,none⟩ (.slice (some ⟨w.heap.size+1,0,none⟩) (L+1) 12))=W4:=⟨_,rfl⟩;rw [b8]at b0 b4⊢;clear b8 hS I a8 HM G a4 a6 d1 f1 f2 f4 f5 f6 b1 b2;have d2:IntKind.i64.wrap ((j:Int)- 1)=(j:Int)- 1:=by rw [IntKind.wrap_i64];omega
    go_simp
    gi_wp2
    repeat(rw [Oper.semAt_some _ _ _ (by intro c h;cases h)];go_simp;gi_wp2)
    exact⟨⟨j,Om,rfl,b0,b4⟩,by first|(simp [intOf];done)|(simp [intOf];omega)⟩
    ·show(o.setCell ⟨w.heap.size+1,0+L*1,none⟩ _).cell? _=_;rw [World.cell?_setCell_other _ _ _ _ (fun e=>(show w.heap.size+2≠w.heap.size+1 by omega) (by first|exact congrArg Addr.block e|exact(congrArg Addr.block e).symm))];have:=I.1
     rwa [U.out]at this
    ·refine Ql ?_ 0;rw [Qal];exact f2
 case done=>
  rintro W ⟨S,c2,c3,Q,c4,c5,T⟩ J Y;rw [List.take_length]at S T;change W.cell? _=some (.slice _ (tb t).length 12)at S;change List.take (tb t).length _=(tb t).map _ at T;rw [show(tb t).length=12 from rfl]at S T;have d3:=S;go_wp2;refine⟨by simp,.inl ⟨_,_,rfl,run_takeDeferred Y,?_⟩⟩;refine⟨_,results_tmp rfl _ _ _,⟨_,rfl,?_,?_⟩⟩
  ·intro k hk;have b5:w.heap.size+1<W.heap.size:=Xl (Nat.lt_succ_self _) (Nat.le_of_lt c3);have b6:Mv (fun k=>k=f.heap.size) W (W.putObj f.heap.size (.deferred none)):=Mv.put _ _ _ rfl;have c0:k<12:=hk;refine⟨w.heap.size+1,0,rfl,Xl b5 b6.size,?_⟩;rw [Qa,Qf (b6.same _ b5 Om)];unfold Qc;rw [c4];have e1:(List.take 12 Q.toList)[k]?=((tb t).map (Value.int .u8))[k]?:=by rw [T]
   rw [List.getElem?_take,if_pos c0,Array.getElem?_toList,List.getElem?_map,List.getElem?_eq_getElem hk]at e1;rw [Nat.zero_add];exact e1
  ·have c7:Ext w W:=Mv.ext_of g2 J (fun k h=>by rcases h with(h|h)|h<;>omega);exact Mv.ext_of c7 (Mv.put (C:=fun k=>k=f.heap.size) _ _ _ rfl) (fun k h=>by omega)
 case stop=>intro _ _ h;exact h.elim
end
theorem Y2(w:World)(dT sT ty elem:TypeId)(size b o dLen dCap:Nat)(a:Addr)(sLen sCap:Nat)(cs:List Value)
  (hu:P.underlying dT=some (.slice elem))(hs:(P.info? elem).map (·.size)=some size)(hn:cs.length=Nat.min sLen dLen*size)
  (hsrc: ∀j v,cs[j]?=some v→w.cell? (a.add j)=some v)(hc: ∀j,j<cs.length→(w.cell? ⟨b,o+j,none⟩).isSome=true)(hf: ∀j,j<cs.length→w.frozen? ⟨b,o+j,none⟩=false)(h1: ∀v∈cs,v.oneCell'=true):
  (Builtin.copy_ #[dT,sT] ty #[.slice (some ⟨b,o,none⟩) dLen dCap,.slice (some a) sLen sCap]).run P w= .ok (goInt (Nat.min sLen dLen:Nat)) (w.setCells b o cs):=by
 have e:=run_loadCells_list (P:=P) w a cs hsrc;have d:=run_storeCells_cells (P:=P) b o cs 0 w (by simpa using hc) (by simpa using hf) h1
 cases c:P.info? elem with
 |none=>simp [c]at hs
 |some i=>
  have f:i.size=size:=by simpa [c]using hs
  simp only [Nat.add_zero]at d;have g:Nat.min sLen dLen=min sLen dLen:=rfl;rw [g]at hn;simp [Builtin.copy_,run_underlying hu,Builtin.lenOf,Builtin.firstCells,sizeOf,typeInfo,c,f,←hn,e,d]
theorem Qgv(w:World){a:Act}{Q:Exit→Act→World→Prop}(d s:Operand)(t t':TypeId)
  (ho:o.op= .call {callee:= .builtin .copy,args:=#[d,s],argTypes:=#[t,t']})(v u:Value)(hd:a.eval d=v)(hs:a.eval s=u){v':Value}
  (hr:(Builtin.copy_ #[t,t'] o.type #[v,u]).run P w= .ok v' w')(h:K (a.put o.dst v') w'):o.wp P a w K Q:=by
 unfold Oper.wp execOp;simp only [ho,resolve,invoke,builtin,Sem.run_bind,Sem.run_pure,Result.andThen_ok,List.map_toArray,List.map_cons,List.map_nil,hd,hs,hr];exact h
theorem YT(w:World){rest:List Oper}{a:Act}{Q:Exit→Act→World→Prop}(hgd:o.guard=none)(d s:Operand)(t t':TypeId)
  (ho:o.op= .call {callee:= .builtin .copy,args:=#[d,s],argTypes:=#[t,t']})(v u:Value)(hd:a.eval d=v)(hs:a.eval s=u){v':Value}
  (hr:(Builtin.copy_ #[t,t'] o.type #[v,u]).run P w= .ok v' w')(h:wpList P ops Q rest (a.put o.dst v') w'):wpList P ops Q (o::rest) a w:=
 wpList_plain hgd fun _ hK=>Qgv w d s t t' ho v u hd hs hr (hK _ _ h)
theorem QaL{a:Act}{Q:Exit→Act→World→Prop}{E:Prop}
  (hg:o.guard=none)(d x:Operand)(dT sT:TypeId)(hop:o.op=Op.call {callee:=Callee.builtin Builtin.copy,args:=#[d,x],argTypes:=#[dT,sT]})
  (v u:Value)(hd:a.eval d=v)(hx:a.eval x=u){v':Value}(hr:(Builtin.copy_ #[dT,sT] o.type #[v,u]).run P w= .ok v' w')(hK:K (a.put o.dst v') w'):
  if Region.wanted o (yielded ops a.tmps)=true then Oper.wp P o a w K Q else E:=by
 have b:Region.wanted o (yielded ops a.tmps)=true:=by simp [Region.wanted,hg]
 rw [if_pos b];unfold Oper.wp;simp [execOp,hop,resolve,invoke,builtin,hd,hx,hr,Result.andThen];exact hK
theorem Z7{g:Nat}{T:TypeId}{z:Nat×Nat}: ∀(vs:List Value) (o:Nat) (w:World) (cur:Array Value),w.heap[g]?=some (.cells cur T z)→ ∃cur':Array Value,(w.setCells g o vs).heap[g]?=some (.cells cur' T z)∧cur'.toList=Qck cur.toList o vs
 | [],_,w,cur,h=>⟨cur,h,rfl⟩
 |v::vs,o,w,cur,h=>by
  have a:(w.setCell ⟨g,o,none⟩ v).heap[g]?=some (.cells (cur.setIfInBounds o v) T z):=by
   simp only [World.setCell];rw [Array.getElem?_modify,if_pos rfl,h];rfl
  obtain⟨cur',b,c⟩:=Z7 vs (o+1) _ _ a;exact⟨cur',b,by rw [c,Array.toList_setIfInBounds];rfl⟩
theorem Qos{g:Nat}{size n cap:Nat}{cur:Array Value}(hb:base≤g)(hg:w.heap[g]?=some (.cells cur e (0,0)))(hn:n≤cap)(hm:cap≤maxLen)(hs:cur.toList.length=cap*size)(hx:cur.toList.take (n*size)=xs):
  w.ownsRow base e size (.slice (some ⟨g,0,none⟩) n cap) n xs:=by
 refine⟨?_,.inr ⟨g,cap,cur,rfl,hb,hg,hn,hm,by simpa using hs,hx⟩⟩;rw [←hx,List.length_take,hs];exact Nat.min_eq_left (Nat.mul_le_mul_right _ hn)
theorem QrW(cur cs vs:List Value)(i n s:Nat)(hi:i≤n)(hcs:cur.take (n*s)=cs)(hcl:cs.length=n*s)(hvl:vs.length=s)(hcur:(n+1)*s≤cur.length):
  (Qck (Qck cur ((i+1)*s) (cs.drop (i*s))) (i*s) vs).take ((n+1)*s)=cs.take (i*s)++vs++cs.drop (i*s):=by
 have g:(i+1)*s=i*s+s:=by rw [Nat.add_mul,Nat.one_mul]
 have b:(n+1)*s=n*s+s:=by rw [Nat.add_mul,Nat.one_mul]
 have k:i*s≤n*s:=Nat.mul_le_mul_right _ hi;rw [g,b];rw [b]at hcur;generalize i*s=p at*;generalize n*s=q at*;refine List.ext_getElem? fun j=> ?_;rw [List.getElem?_take];have c:(cs.drop p).length=q- p:=by rw [List.length_drop,hcl]
 have a:(cs.take p).length=p:=by rw [List.length_take,hcl];omega
 by_cases d:j<q+s
 ·rw [if_pos d,JA _ _ _ _ (by rw [Y9];omega),hvl]
  by_cases e:p≤j∧j<p+s
  ·rw [if_pos e,List.getElem?_append_left (by rw [List.length_append,a,hvl];omega),List.getElem?_append_right Om,a]
  ·rw [if_neg e,JA _ _ _ _ Om,c]
   by_cases f:p+s≤j
   ·rw [if_pos ⟨f,Om⟩,List.getElem?_append_right (by rw [List.length_append,a,hvl];omega),List.length_append,a,hvl]
   ·rw [if_neg (fun h=>f h.1),List.append_assoc,List.getElem?_append_left Om,List.getElem?_take_of_lt Om,←hcs,List.getElem?_take_of_lt Om]
 ·rw [if_neg d,List.getElem?_eq_none (by rw [List.length_append,List.length_append,a,c,hvl];omega)]
theorem Qot(cur cs vs r:List Value)(i n s:Nat)(hi:i≤n)(hcur:cur=cs.take (i*s)++r)(hcl:cs.length=n*s)(hvl:vs.length=s)(hlen:(n+1)*s≤cur.length):
  (Qck (Qck cur (i*s) vs) ((i+1)*s) (cs.drop (i*s))).take ((n+1)*s)=cs.take (i*s)++vs++cs.drop (i*s):=by
 have g:(i+1)*s=i*s+s:=by rw [Nat.add_mul,Nat.one_mul]
 have b:(n+1)*s=n*s+s:=by rw [Nat.add_mul,Nat.one_mul]
 have k:i*s≤n*s:=Nat.mul_le_mul_right _ hi;rw [g,b];rw [b]at hlen;generalize i*s=p at*;generalize n*s=q at*;refine List.ext_getElem? fun j=> ?_;rw [List.getElem?_take];have c:(cs.drop p).length=q- p:=by rw [List.length_drop,hcl]
 have a:(cs.take p).length=p:=by rw [List.length_take,hcl];omega
 by_cases d:j<q+s
 ·rw [if_pos d,JA _ _ _ _ (by rw [Y9];omega),c]
  by_cases e:p+s≤j
  ·rw [if_pos ⟨e,Om⟩,List.getElem?_append_right (by rw [List.length_append,a,hvl];omega),List.length_append,a,hvl]
  ·rw [if_neg (fun h=>e h.1),JA _ _ _ _ Om,hvl]
   by_cases f:p≤j
   ·rw [if_pos ⟨f,Om⟩,List.getElem?_append_left (by rw [List.length_append,a,hvl];omega),List.getElem?_append_right Om,a]
   ·rw [if_neg (fun h=>f h.1),List.append_assoc,List.getElem?_append_left Om,hcur,List.getElem?_append_left Om]
 ·rw [if_neg d,List.getElem?_eq_none (by rw [List.length_append,List.length_append,a,c,hvl];omega)]
def Ja{α:Type}(xs:List α)(i:Nat)(x:α):List α:=xs.take i++x::xs.drop i
theorem QfJ{α:Type}(xs:List α)(i:Nat)(x:α):(Ja xs i x).length=xs.length+1:=by
 unfold Ja;rw [List.length_append,List.length_take,List.length_cons,List.length_drop];omega
theorem Qli(xs:List Co)(i:Nat)(hi:i≤xs.length):(flC xs).take (i*6)=flC (xs.take i)∧(flC xs).drop (i*6)=flC (xs.drop i):=by
 have h:flC xs=flC (xs.take i)++flC (xs.drop i):=by
  have b:flC (xs.take i++xs.drop i)=flC (xs.take i)++flC (xs.drop i):=by unfold flC;rw [List.flatMap_append]
  rw [←b,List.take_append_drop]
 have a:(flC (xs.take i)).length=i*6:=by rw [Q8,List.length_take,Nat.min_eq_left hi]
 rw [h];exact⟨by rw [←a,List.take_left],by rw [←a,List.drop_left]⟩
theorem Qgw(xs:List Co)(i:Nat)(x:Co)(hi:i≤xs.length):flC (Ja xs i x)=(flC xs).take (i*6)++x.cl++(flC xs).drop (i*6):=by
 rw [(Qli xs i hi).1,(Qli xs i hi).2];unfold Ja flC;simp
theorem QhN(b n c i vb m vc:Nat)(cs vs:List Value)(w:World)(hi:i<n)(hm:0<m)(hroom:n+m≤c)(hc63:c≤9223372036854775807)(hvb:vb≠b)
  (hcl:cs.length=n*6)(hvl:vs.length=m*6)
  (hcs: ∀j v,cs[j]?=some v→w.cell? ⟨b,j,none⟩=some v)(hsp: ∀j,j<(n+m)*6→(w.cell? ⟨b,j,none⟩).isSome=true)(hfz: ∀j,w.frozen? ⟨b,j,none⟩=false)
  (hvs: ∀j v,vs[j]?=some v→w.cell? ⟨vb,j,none⟩=some v)(h1c: ∀v∈cs,v.oneCell'=true)(h1v: ∀v∈vs,v.oneCell'=true)
  (tA tB:TypeId)(kA kB:Nat)(hsa:w.shape? vb=some (tA,kA))(hsb:w.shape? b=some (tB,kB))(hkB:kB≠0)(hfa:w.frozen? ⟨vb,0,none⟩=false)(hfe:w.frozen? ⟨vb,kA,none⟩=false):
  Calls Tryz.prog 192 #[.slice (some ⟨b,0,none⟩) n c,.int .i64 i,.slice (some ⟨vb,0,none⟩) m vc] w fun e w'=>
   e= .returned (.slice (some ⟨b,0,none⟩) (n+m) c)∧w'=(w.drew.setCells b ((i+m)*6) (cs.drop (i*6))).setCells b (i*6) vs:=by
 obtain⟨H,t,I,u,J⟩:=info_parts QcU;have y: ¬((m:Int)=0):=by omega
 have z: ¬((i:Int)=(n:Int)):=by omega
 have f:(Tryz.prog.info? 66).map (·.size)=some 6:=by rw [t];simp [u]
 have r: ∀lb cb,(callFunc 224 #[.slice (some ⟨vb,0,none⟩) m vc,.slice (some ⟨b,(i+m)*6,none⟩) lb cb]).run Tryz.prog w= .ok (.value (.bool false)) w:=fun lb cb=>by
  rw [run_callFunc_extern Tryz.func224 Kr Kr Kr (e:=Extern.SlicesOverlaps.overlaps #[25,25] #[4]) Kr,
   Lib.run_overlaps_apart w 25 4 66 Tryz.underlying25 6 (fun w=>by kernel_rfl) ⟨vb,0,none⟩ ⟨b,(i+m)*6,none⟩ m vc lb cb hvb tA tB kA kB hsa hsb hkB hfa hfe]
  rfl
 have g:(cs.drop (i*6)).length=(n- i)*6:=by rw [List.length_drop,hcl];omega
 have A:IntKind.i64.wrap ((i:Int)+(m:Int))=(i:Int)+(m:Int):=by rw [IntKind.wrap_i64];omega
 have B:(0:Int)≤(i:Int)+(m:Int):=by omega
 have C:i≤n:=by omega
 have D:((i:Int)+(m:Int)).toNat=i+m:=by omega
 have E: ¬(c=i+m):=by omega
 have F:(i:Int)≤(n:Int)+(m:Int):=by omega
 have G: ¬(c=i):=by omega
 have l:Nat.min (n+m- i) (n+m- (i+m))=n- i:=by show min _ _=_;omega
 have o:Nat.min m (n+m- i)=m:=by show min _ _=_;omega
 have p: ∀ty dc sc,(Builtin.copy_ #[25,25] ty #[.slice (some ⟨b,(i+m)*6,none⟩) (n+m- (i+m)) dc,.slice (some ⟨b,i*6,none⟩) (n+m- i) sc]).run Tryz.prog w.drew= .ok (goInt (Nat.min (n+m- i) (n+m- (i+m)):Nat)) (w.drew.setCells b ((i+m)*6) (cs.drop (i*6))):=fun ty dc sc=>
  Y2 w.drew _ _ ty 66 6 b ((i+m)*6) (n+m- (i+m)) dc ⟨b,i*6,none⟩ (n+m- i) sc (cs.drop (i*6)) Tryz.underlying25 f (by rw [g,l])
   (fun j v hj=>by rw [Addr.add_lit];exact hcs (i*6+j) v (by rwa [List.getElem?_drop]at hj))
   (fun j hj=>hsp _ Om) (fun j hj=>hfz _) (fun v hv=>h1c v (List.mem_of_mem_drop hv))
 obtain⟨a,d⟩: ∃a,a=w.drew.setCells b ((i+m)*6) (cs.drop (i*6)):=⟨_,rfl⟩;have q: ∀k,k<(n+m)*6→(a.cell? ⟨b,k,none⟩).isSome=true:=by rw [d];exact Y1 _ _ w.drew hsp
 have s: ∀(W:World),(∀x,W.cell? x=a.cell? x)→(∀x,W.frozen? x=a.frozen? x)→ ∀ty dc,(Builtin.copy_ #[25,25] ty #[.slice (some ⟨b,i*6,none⟩) (n+m- i) dc,.slice (some ⟨vb,0,none⟩) m vc]).run Tryz.prog W= .ok (goInt (Nat.min m (n+m- i):Nat)) (W.setCells b (i*6) vs):=fun W hWc hWf ty dc=>
  Y2 W _ _ ty 66 6 b (i*6) (n+m- i) dc ⟨vb,0,none⟩ m vc vs Tryz.underlying25 f (by rw [hvl,o])
   (fun j v hj=>by
    rw [Addr.add_lit,hWc,d,World.cell?_setCells_out b _ _ _ _ (fun h _=>absurd h hvb),Nat.zero_add]
    exact hvs j v hj)
   (fun j hj=>by rw [hWc];exact q _ Om) (fun j hj=>by rw [hWf,d,World.frozen?_setCells];exact hfz _) h1v
 rw [←d]at p;clear l o g hcs hsp q hvs h1c h1v
 go_enter Tryz.func192,Tryz.ntmps192
 go_wp2_with (simp only [r])
 go_region_law (refine QaL rfl _ _ 25 25 rfl _ _ (by simp [Act.eval,Act.put]) (by simp [Act.eval,Act.put]) (p _ _ _) ?_)
 go_wp2_with (at_builtin;refine YT _ rfl _ _ 25 25 rfl _ _ rfl rfl (s _ (fun _=>rfl) (fun _=>rfl) _ _) ?_)
 go_ret
 first|exact⟨rfl,rfl⟩|exact⟨rfl,by rw [d]⟩
theorem Qjm(b n c i vb m vc:Nat)(cs vs:List Value)(w:World)(hi:i<n)(hm:0<m)(hnc:n≤c)(hroom:c<n+m)(hbig:(n+m)*32≤140737488355328)
  (hcl:cs.length=n*6)(hvl:vs.length=m*6)
  (hcs: ∀j v,cs[j]?=some v→w.cell? ⟨b,j,none⟩=some v)
  (hvs: ∀j v,vs[j]?=some v→w.cell? ⟨vb,j,none⟩=some v)(h1c: ∀v∈cs,v.oneCell'=true)(h1v: ∀v∈vs,v.oneCell'=true):
  Calls Tryz.prog 192 #[.slice (some ⟨b,0,none⟩) n c,.int .i64 i,.slice (some ⟨vb,0,none⟩) m vc] w fun e w'=>
   e= .returned (.slice (some ⟨w.heap.size,0,none⟩) (n+m) (grownCap w (n+m) c 66))∧
   w'=(((w.alloc (.cells ((cs.take (i*6)).toArray++Builtin.zeroCells (Value.cells (.agg #[.int .u32 0,.int .u32 0,.int .u16 0,.int .u16 0,.int .i64 0,.int .i64 0])) (n+m- i)++Builtin.zeroCells (Value.cells (.agg #[.int .u32 0,.int .u32 0,.int .u16 0,.int .u16 0,.int .i64 0,.int .i64 0])) (grownCap w (n+m) c 66- (n+m))) 66)).drew.setCells w.heap.size (i*6) vs).drew).setCells w.heap.size ((i+m)*6) (cs.drop (i*6)):=by
 obtain⟨A,B,R,C,D⟩:=info_parts QcU;have S: ¬((m:Int)=0):=by omega
 have T: ¬((i:Int)=(n:Int)):=by omega
 have U:(c:Int)<(n:Int)+(m:Int):=by omega
 have p:(Tryz.prog.info? 66).map (·.size)=some 6:=by rw [B];simp [C]
 have E:b<w.heap.size:=block_lt_of_cell (hcs 0 _ (List.getElem?_eq_getElem Om));have F:vb<w.heap.size:=block_lt_of_cell (hvs 0 _ (List.getElem?_eq_getElem Om));have q:(n:Int)+(m:Int)- (i:Int)=((n+m- i:Nat):Int):=by omega
 have l:i+(n+m- i)=n+m:=by omega
 have r:(Builtin.firstCells A.size i (.slice (some ⟨b,0,none⟩) i c)).run Tryz.prog w.drew= .ok (cs.take (i*6)).toArray w.drew:=by
  rw [C]
  exact run_firstCells_some w.drew 6 i ⟨b,0,none⟩ i c (cs.take (i*6)) (by rw [List.length_take];omega) (fun j v hj=>by
   rw [Addr.add_lit,Nat.zero_add];rw [List.getElem?_take]at hj
   split at hj
   ·exact hcs j v hj
   ·cases hj)
 have g: ∀ty,(Builtin.append_ #[25,3] ty #[.slice (some ⟨b,0,none⟩) i c,.int .i64 ((n:Int)+(m:Int)- (i:Int))]).run Tryz.prog w=
   .ok (.slice (some ⟨w.heap.size,0,none⟩) (n+m) (grownCap w (n+m) c 66)) (w.drew.alloc (.cells ((cs.take (i*6)).toArray++Builtin.zeroCells (Value.cells (.agg #[.int .u32 0,.int .u32 0,.int .u16 0,.int .u16 0,.int .i64 0,.int .i64 0])) (n+m- i)++Builtin.zeroCells (Value.cells (.agg #[.int .u32 0,.int .u32 0,.int .u16 0,.int .u16 0,.int .i64 0,.int .i64 0])) (grownCap w (n+m) c 66- (n+m))) 66)):=fun ty=>by
  have h:=Lib.run_append_grow_zeros w 25 3 ty 66 A _ .i64 .i64 Tryz.underlying25 Tryz.underlying3 B R (some ⟨b,0,none⟩) i c (cs.take (i*6)) r (n+m- i) Om Om Om Om (by rw [D];omega) (by rw [D,l];exact growslice_fits hroom hbig);rw [l]at h;rw [q];exact h
 obtain⟨G,k⟩: ∃G,G=grownCap w (n+m) c 66:=⟨_,rfl⟩;obtain⟨a,o⟩: ∃a:Array Value,a=(cs.take (i*6)).toArray++Builtin.zeroCells (Value.cells (.agg #[.int .u32 0,.int .u32 0,.int .u16 0,.int .u16 0,.int .i64 0,.int .i64 0])) (n+m- i)++Builtin.zeroCells (Value.cells (.agg #[.int .u32 0,.int .u32 0,.int .u16 0,.int .u16 0,.int .i64 0,.int .i64 0])) (G- (n+m)):=⟨_,rfl⟩;rw [←k]at g⊢;rw [←o]at g⊢;have H:(n+m)*6≤a.size:=by
  rw [o];simp [Builtin.zeroCells,Value.cells];omega
 obtain⟨d,f⟩: ∃d,d=w.drew.alloc (.cells a 66):=⟨_,rfl⟩;rw [←f]at g;have s: ∀j,j<(n+m)*6→(d.cell? ⟨w.heap.size,j,none⟩).isSome=true:=fun j hj=>by
  rw [f,World.cell?_alloc_at (w:=w.drew) a _ w.heap.size j rfl,Array.getElem?_eq_getElem Om];rfl
 have t: ∀j,d.frozen? ⟨w.heap.size,j,none⟩=false:=fun j=>by rw [f];exact World.frozen?_alloc_at (w:=w.drew) a _ w.heap.size j rfl
 have I: ∀j v,w.cell? ⟨b,j,none⟩=some v→d.cell? ⟨b,j,none⟩=some v:=fun j v h=>by rw [f,World.cell?_alloc_past (w:=w.drew) _ b j E];exact h
 have J: ∀j v,w.cell? ⟨vb,j,none⟩=some v→d.cell? ⟨vb,j,none⟩=some v:=fun j v h=>by rw [f,World.cell?_alloc_past (w:=w.drew) _ vb j F];exact h
 have K:(cs.drop (i*6)).length=(n- i)*6:=by rw [List.length_drop,hcl];omega
 have u:Nat.min (n- i) (n+m- (i+m))=n- i:=by show min _ _=_;omega
 have y:Nat.min m (n+m- i)=m:=by show min _ _=_;omega
 have L: ∀(W:World),(∀x,W.cell? x=d.cell? x)→(∀x,W.frozen? x=d.frozen? x)→ ∀ty dc,(Builtin.copy_ #[25,25] ty #[.slice (some ⟨w.heap.size,i*6,none⟩) (n+m- i) dc,.slice (some ⟨vb,0,none⟩) m vc]).run Tryz.prog W= .ok (goInt (Nat.min m (n+m- i):Nat)) (W.setCells w.heap.size (i*6) vs):=fun W hWc hWf ty dc=>
  Y2 W _ _ ty 66 6 w.heap.size (i*6) (n+m- i) dc ⟨vb,0,none⟩ m vc vs Tryz.underlying25 p (by rw [hvl,y])
   (fun j v hj=>by rw [Addr.add_lit,hWc,Nat.zero_add];exact J _ v (hvs j v hj))
   (fun j hj=>by rw [hWc];exact s _ Om) (fun j hj=>by rw [hWf];exact t _) h1v
 have V:n+m≤G:=by rw [k];exact grownCap_ge w _ _ _
 have X:G≤9223372036854775807:=by
  have:=grownCap_le_maxLen w (n+m) c 66 (by unfold maxLen;omega);rw [←k]at this;unfold maxLen at this;omega
 have Y: ¬(G=i):=by omega
 have Z: ¬(G=i+m):=by omega
 have a0: ¬(c=i):=by omega
 have M:b≠w.heap.size:=by omega
 have z: ∀(W:World),(∀x,W.cell? x=(d.setCells w.heap.size (i*6) vs).cell? x)→(∀x,W.frozen? x=(d.setCells w.heap.size (i*6) vs).frozen? x)→ ∀ty dc sc,(Builtin.copy_ #[25,25] ty #[.slice (some ⟨w.heap.size,(i+m)*6,none⟩) (n+m- (i+m)) dc,.slice (some ⟨b,i*6,none⟩) (n- i) sc]).run Tryz.prog W= .ok (goInt (Nat.min (n- i) (n+m- (i+m)):Nat)) (W.setCells w.heap.size ((i+m)*6) (cs.drop (i*6))):=fun W hWc hWf ty dc sc=>
  Y2 W _ _ ty 66 6 w.heap.size ((i+m)*6) (n+m- (i+m)) dc ⟨b,i*6,none⟩ (n- i) sc (cs.drop (i*6)) Tryz.underlying25 p (by rw [K,u])
   (fun j v hj=>by
    rw [Addr.add_lit,hWc,World.cell?_setCells_out _ _ _ _ _ (fun h _=>absurd h M)]
    exact I _ v (hcs (i*6+j) v (by rwa [List.getElem?_drop]at hj)))
   (fun j hj=>by rw [hWc];exact Y1 _ _ _ s _ Om)
   (fun j hj=>by rw [hWf,World.frozen?_setCells];exact t _) (fun v hv=>h1c v (List.mem_of_mem_drop hv))
 subst f;have N: ∀x,((w.alloc (.cells a 66)).drew).cell? x=(w.drew.alloc (.cells a 66)).cell? x:=fun x=>rfl;have O: ∀x,((w.alloc (.cells a 66)).drew).frozen? x=(w.drew.alloc (.cells a 66)).frozen? x:=fun x=>rfl;have P: ∀x,(((w.alloc (.cells a 66)).drew.setCells w.heap.size (i*6) vs).drew).cell? x=((w.drew.alloc (.cells a 66)).setCells w.heap.size (i*6) vs).cell? x:=fun x=>rfl;have Q: ∀x,(((w.alloc (.cells a 66)).drew.setCells w.heap.size (i*6) vs).drew).frozen? x=((w.drew.alloc (.cells a 66)).setCells w.heap.size (i*6) vs).frozen? x:=fun x=>rfl;have a1:IntKind.i64.wrap ((i:Int)+(m:Int))=(i:Int)+(m:Int):=by rw [IntKind.wrap_i64];omega
 have a2:(0:Int)≤(i:Int)+(m:Int):=by omega
 have a3:i≤n:=by omega
 have a4:((i:Int)+(m:Int)).toNat=i+m:=by omega
 have a5:(i:Int)≤(n:Int):=by omega
 clear q l r o k H u y hcs hvs h1c h1v
 go_enter Tryz.func192,Tryz.ntmps192
 go_wp2_with (first
  |(at_builtin;refine Lib.wpList_append_run _ rfl _ _ _ _ rfl _ _ rfl rfl _ _ (g _) ?_)
  |(at_builtin;refine YT _ rfl _ _ 25 25 rfl _ _ rfl rfl (L _ N O _ _) ?_)
  |(at_builtin;refine YT _ rfl _ _ 25 25 rfl _ _ rfl rfl (z _ (fun _=>rfl) (fun _=>rfl) _ _ _) ?_))
 go_region_law (refine QaL rfl _ _ 25 25 rfl (.slice (some ⟨w.heap.size,(i+m)*6,none⟩) (n+m- (i+m)) (G- (i+m))) (.slice (some ⟨b,i*6,none⟩) (n- i) (c- i)) (by simp [Act.eval,Act.put]) (by simp [Act.eval,Act.put]) (z _ P Q 66 (G- (i+m)) (c- i)) ?_)
 go_wp2;go_ret;exact⟨rfl,rfl⟩
theorem Qmy(w:World):w.drew.heap=w.heap:=rfl
theorem Qmz(base:Nat)(w:World)(v:Value)(xs:List Co)(x:Co)(vb:Nat)(hl:xs.length≤1000)(hbs:base≤w.heap.size)(ho:w.ownsRow base 66 6 v xs.length (flC xs))
  (hx:w.heap[vb]?=some (.cells #[.int .u32 x.t.a,.int .u32 x.t.b,.int .u16 x.t.c,.int .u16 x.t.d,.int .i64 x.s,.int .i64 x.l] 66 (0,0))):
  Calls Tryz.prog 192 #[v,.int .i64 xs.length,.slice (some ⟨vb,0,none⟩) 1 1] w fun e w'=> ∃v',e= .returned v'∧w'.ownsRow base 66 6 v' (xs.length+1) (flC (Ja xs xs.length x))∧Mv (fun b=>base≤b) w w':=by
 obtain⟨E,F,G,H,I⟩:=info_parts QcU;have y: ∀j u,(x.cl)[j]?=some u→w.cell? (Addr.add ⟨vb,0,none⟩ j)=some u:=by
  intro j u K;rw [Addr.add_lit,Nat.zero_add,show w.cell? ⟨vb,j,none⟩=(x.cl.toArray)[j]? by unfold World.cell?;rw [hx];rfl];simpa using K
 have z:=Xh y;have n:=Xh ho;have A: ∀u∈x.cl,u.oneCell'=true:=by
  have:=Qbl [x];unfold flC at this;simpa using this
 have B:flC xs++x.cl=flC (Ja xs xs.length x):=by
  rw [Qgw xs _ x (Nat.le_refl _),←Q8 xs,List.take_length,List.drop_length,List.append_nil]
 have C:=Xh A;have o:=Xh B;have D: ∀r,v.ownBlock=some r→base≤r:=fun r h=>(ho.lt r h).1;clear A B y hx;obtain⟨rfl,f⟩|⟨g,i,rfl,M⟩:(v= .slice none 0 0∧xs.length=0)∨ ∃g i,v= .slice (some ⟨g,0,none⟩) xs.length i∧xs.length≤i:=by
  rcases ho.2 with⟨rfl,f⟩|⟨g,i,cur,rfl,hg,hgb,h1,h2,h3,h4⟩
  ·exact .inl ⟨rfl,f⟩
  ·exact .inr ⟨g,i,rfl,h1⟩
 ·clear ho;rw [f]at n⊢;have J:=Xh f;clear f
  go_enter Tryz.func192,Tryz.ntmps192
  go_wp2_with (at_builtin;refine wpList_append_own _ rfl _ _ 25 rfl base 66 E (.agg #[.int .u32 0,.int .u32 0,.int .u16 0,.int .u16 0,.int .i64 0,.int .i64 0]) 6 32 Tryz.underlying25 F G H I rfl Dc _ _ _ rfl n.out ⟨vb,0,none⟩ 1 1 x.cl rfl rfl z.out C.out (by unfold maxLen;omega) Om hbs ?_;intro v' L k m _;have p:=Xh k;have q:=Xh m;clear k m)
  go_ret;refine⟨v',rfl,?_,Mv.of_grown q.out fun r e=> .inl (D r e)⟩;rw [J.out]at o;rw [←o.out];exact p.out
 ·clear ho
  go_enter Tryz.func192,Tryz.ntmps192
  go_wp2_with (at_builtin;refine wpList_append_own _ rfl _ _ 25 rfl base 66 E (.agg #[.int .u32 0,.int .u32 0,.int .u16 0,.int .u16 0,.int .i64 0,.int .i64 0]) 6 32 Tryz.underlying25 F G H I rfl Dc _ _ _ rfl n.out ⟨vb,0,none⟩ 1 1 x.cl rfl rfl z.out C.out (by unfold maxLen;omega) Om hbs ?_;intro v' L k m _;have p:=Xh k;have q:=Xh m;clear k m)
  all_goals go_ret
  all_goals(refine⟨v',rfl,?_,Mv.of_grown q.out fun r e=> .inl (D r e)⟩;rw [←o.out];exact p.out)
theorem QxC(base:Nat)(w:World)(v:Value)(xs:List Co)(i:Nat)(x:Co)(vb:Nat)(hi:i≤xs.length)(hl:xs.length≤1000)(hbs:base≤w.heap.size)(ho:w.ownsRow base 66 6 v xs.length (flC xs))
  (hx:w.heap[vb]?=some (.cells #[.int .u32 x.t.a,.int .u32 x.t.b,.int .u16 x.t.c,.int .u16 x.t.d,.int .i64 x.s,.int .i64 x.l] 66 (0,0)))(hvb:v.ownBlock≠some vb):
  Calls Tryz.prog 192 #[v,.int .i64 i,.slice (some ⟨vb,0,none⟩) 1 1] w fun e w'=> ∃v',e= .returned v'∧w'.ownsRow base 66 6 v' (Ja xs i x).length (flC (Ja xs i x))∧Mv (fun b=>base≤b) w w':=by
 rw [QfJ]
 by_cases T:i=xs.length
 ·subst T;exact Qmz base w v xs x vb hl hbs ho hx
 obtain⟨g,f,k,rfl,A,y,U,K,V,L⟩: ∃g f k,v= .slice (some ⟨g,0,none⟩) xs.length f∧base≤g∧w.heap[g]?=some (.cells k 66 (0,0))∧xs.length≤f∧f≤maxLen∧k.size=f*6∧k.toList.take (xs.length*6)=flC xs:=by
  rcases ho.2 with⟨_,h0⟩|h
  ·omega
  ·obtain⟨g,f,k,o,p,W,X,Y,Z,h7⟩:=h;exact⟨g,f,k,o,p,W,X,Y,Z,h7⟩
 have N:vb≠g:=fun e=>hvb (by rw [e];rfl);have C:Qc w g=k:=by unfold Qc;rw [y]
 have O: ∀j,w.frozen? ⟨g,j,none⟩=false:=fun j=>Ql (by unfold Qs;rw [y]) j;have D: ∀j,w.frozen? ⟨vb,j,none⟩=false:=fun j=>Ql (by unfold Qs;rw [hx]) j;have E: ∀j u,(flC xs)[j]?=some u→w.cell? ⟨g,j,none⟩=some u:=by
  intro j u m;rw [Qa,C];rw [←L,List.getElem?_take]at m
  split at m
  ·rw [Array.getElem?_toList]at m;exact m
  ·cases m
 have F: ∀j u,(x.cl)[j]?=some u→w.cell? ⟨vb,j,none⟩=some u:=by
  intro j u m;rw [show w.cell? ⟨vb,j,none⟩=(x.cl.toArray)[j]? by unfold World.cell?;rw [hx];rfl];simpa using m
 have H: ∀u∈x.cl,u.oneCell'=true:=by
  have:=Qbl [x];unfold flC at this;simpa using this
 have a1:xs.length*6=(flC xs).length:=(Q8 xs).symm;have P:k.toList.length=f*6:=by simpa using V
 by_cases J:xs.length+1≤f
 ·refine(QhN g xs.length f i vb 1 1 (flC xs) x.cl w Om Om J K N (Q8 xs) rfl E (fun j hj=>by rw [Qa,C,Array.getElem?_eq_getElem Om];rfl) O F (Qbl xs) H
   66 66 6 k.size (by unfold World.shape?;rw [hx];rfl) (by unfold World.shape?;rw [y]) Om (D _) (D _)).mono ?_
  rintro e w' ⟨rfl,rfl⟩;obtain⟨B,o,q⟩:=Z7 ((flC xs).drop (i*6)) ((i+1)*6) w.drew k y;obtain⟨a0,p,r⟩:=Z7 x.cl (i*6) _ B o;refine⟨_,rfl,Qos A p J K ?_ ?_,Mv.sc A _ _ _ _ (Mv.sc A _ _ _ _ (Mv.dr (Mv.refl _ _)))⟩
  ·rw [r,Y9,q,Y9];exact P
  ·rw [r,q,Qgw xs i x hi];exact QrW _ _ _ i xs.length 6 hi L (Q8 xs) rfl Om
 ·have a2:f=xs.length:=by omega
  refine(Qjm g xs.length f i vb 1 1 (flC xs) x.cl w Om Om U Om Om (Q8 xs) rfl E F (Qbl xs) H).mono ?_;rintro e w' ⟨rfl,rfl⟩;have Q:xs.length+1≤grownCap w (xs.length+1) f 66:=grownCap_ge w _ _ _;have S:grownCap w (xs.length+1) f 66≤maxLen:=grownCap_le_maxLen w (xs.length+1) f 66 (by unfold maxLen;omega);generalize grownCap w (xs.length+1) f 66=G at*;obtain⟨n,z⟩: ∃n:Array Value,n=((flC xs).take (i*6)).toArray++Builtin.zeroCells (Value.cells (.agg #[.int .u32 0,.int .u32 0,.int .u16 0,.int .u16 0,.int .i64 0,.int .i64 0])) (xs.length+1- i)++Builtin.zeroCells (Value.cells (.agg #[.int .u32 0,.int .u32 0,.int .u16 0,.int .u16 0,.int .i64 0,.int .i64 0])) (G- (xs.length+1)):=⟨_,rfl⟩;rw [←z];have I:n.toList.length=G*6:=by
   rw [z];simp [Builtin.zeroCells,Value.cells,Q8];omega
  obtain⟨R,M⟩: ∃R:List Value,R=(Builtin.zeroCells (Value.cells (.agg #[.int .u32 0,.int .u32 0,.int .u16 0,.int .u16 0,.int .i64 0,.int .i64 0])) (xs.length+1- i)).toList++(Builtin.zeroCells (Value.cells (.agg #[.int .u32 0,.int .u32 0,.int .u16 0,.int .u16 0,.int .i64 0,.int .i64 0])) (G- (xs.length+1))).toList:=⟨_,rfl⟩;have hcut:n.toList=(flC xs).take (i*6)++R:=by rw [z,M,Array.toList_append,Array.toList_append,List.append_assoc]
  clear z M;obtain⟨B,o,q⟩:=Z7 x.cl (i*6) ((w.alloc (.cells n 66)).drew) n (World.alloc_heap_new _ _);obtain⟨a0,p,r⟩:=Z7 ((flC xs).drop (i*6)) ((i+1)*6) (((w.alloc (.cells n 66)).drew.setCells w.heap.size (i*6) x.cl).drew) B (by rw [Qmy];exact o);refine⟨_,rfl,Qos hbs p Q S ?_ ?_,Mv.sc hbs _ _ _ _ (Mv.dr (Mv.sc hbs _ _ _ _ (Mv.dr (Mv.al _ (Mv.refl _ _)))))⟩
  ·rw [r,Y9,q,Y9];exact I
  ·rw [r,q,Qgw xs i x hi];exact Qot _ _ _ R i xs.length 6 hi hcut (Q8 xs) rfl (by rw [I];omega)
theorem Qgx: ∀args w,(callFunc 190 args).run Tryz.prog w= .ok (.enter 190 args) w:=enters_of Tryz.func190 Kr rfl
theorem Qjn(W0:World):Qor 190 #[] (fun xs k=>xs.eraseIdx k) W0:=by
 intro d W v xs k j l f a g;have b:=Xh (Qjl d W v xs k (k+1) rfl f a g);have e:((k+1:Nat):Int)=(k:Int)+1:=rfl;rw [e]at b;have i:(k:Int)<xs.length:=by omega
 clear a;rw [show(#[v,Value.int .i64 (k:Nat)]++ #[]:Array Value)=#[v,.int .i64 (k:Nat)]from rfl]
 go_enter Tryz.func190,Tryz.ntmps190
 go_wp2_with ((with_reducible refine(b.out).mono ?_);rintro e n ⟨h,rfl,a,m⟩;have c:=Xh a;clear a)
 go_ret;exact⟨h,rfl,c.out,m⟩
theorem QmA(t:Tu)(p:Option Addr)(xs:List Co)(c:Nat)(w:World)(hs:SlC w p xs)(hl:xs.length≤1000):
  Calls Tryz.prog 117 #[.slice p xs.length c,tu t.a t.b t.c t.d] w fun e w'=> ∃v,e= .returned (.tuple #[v,.bool (withOk xs t)])∧w'.ownsRow w.heap.size 66 6 v (withX (fun xs k=>xs.eraseIdx k) xs t).length (flC (withX (fun xs k=>xs.eraseIdx k) xs t))∧Ext w w':=by
 go_enter Tryz.func117,Tryz.ntmps117
 go_upto_region 1 with(fail)
 obtain⟨f,g⟩: ∃f,w.alloc (.cells #[.int .u32 t.a,.int .u32 t.b,.int .u16 t.c,.int .u16 t.d] 64)=f:=⟨_,rfl⟩;rw [g];have h:Ext w f:=by rw [←g];exact Ea
 have i:YM f w.heap.size t:=by rw [←g];unfold YM;simp [go_sem,Lt]
 have l:=hs.ext h;have m:w.heap.size≤f.heap.size:=h.size;obtain⟨r,s,u,x⟩:=i.cells;have q:Lt w.heap.size f:=i.2;clear g hs i
 go_wp2_with (go_at_call 188;go_must (with_reducible refine(QhM 190 #[] Qgx (fun xs k=>xs.eraseIdx k) t p xs c _ l hl (Qjn _)).mono ?_);rintro e w' ⟨v,rfl,j,o⟩;have n:=Xh j;clear j)
 exact bodyPost_ret (v:= .tuple #[v,.bool (withOk xs t)]) (by simp [results,Tryz.results117,go_sem]) rfl ⟨v,rfl,QA n.out m,h.tr o⟩
def QrX(xs:List Co)(now:Int):Bool:=!QJ xs||decide (now<0)||decide (1099511627776<now)
def QaM(xs:List Co)(t:Tu)(now:Int):Int:=if QrX xs now=true then 2 else if okC xs t=true then 201 else if(xs.length:Int)<32 then 0 else 150
def QhO(t:Tu)(now:Int):Co:=⟨t,now,now⟩
def JV(xs:List Co)(t:Tu)(now:Int):List Co:=if QaM xs t now=0 then Ja xs (atC xs t) (QhO t now)else xs
theorem Qou(xs:List Co)(t:Tu):atC xs t≤xs.length:=List.findIdx_le_length
theorem QrY(t:Tu)(now:Int)(p:Option Addr)(xs:List Co)(c:Nat)(w:World)(hs:SlC w p xs)(hl:xs.length≤1000):
  Calls Tryz.prog 119 #[.slice p xs.length c,tu t.a t.b t.c t.d,.int .i64 now] w fun e w'=> ∃v,e= .returned (.tuple #[v,.int .i64 (QaM xs t now)])∧w'.ownsRow w.heap.size 66 6 v (JV xs t now).length (flC (JV xs t now))∧Ext w w':=by
 go_enter Tryz.func119,Tryz.ntmps119
 go_upto_region 1 with(fail)
 obtain⟨u,F⟩: ∃u,w.alloc (.cells #[.int .u32 t.a,.int .u32 t.b,.int .u16 t.c,.int .u16 t.d] 64)=u:=⟨_,rfl⟩;rw [F];have z:Ext w u:=by rw [←F];exact Ea
 have j:YM u w.heap.size t:=by rw [←F];unfold YM;simp [go_sem,Lt]
 have N:=hs.ext z;have S:w.heap.size≤u.heap.size:=z.size;clear F hs
 go_wp2_with (fail)
 refine Qp 0 rfl ?_
 go_upto_region 2 with(go_at_call 79;(refine(Qgr p xs c _ N hl).mono ?_);rintro e W1 ⟨v,rfl,A,G⟩)
 have j:=j.ext G;have T:=z.tr G;have A:W1.ownsRow w.heap.size 66 6 v xs.length (flC xs):=QA A S;have O:=N.ext G;have U:=Xh A;obtain⟨H,I,J,K⟩:=j.cells;have B:Lt w.heap.size W1:=j.2;clear A N z G S
 go_upto_region 3 with(go_at_call 44;go_must (with_reducible refine(Qed t p xs c _ O hl).mono ?_);rintro e R ⟨rfl,x⟩)
 have r:=O.ext x;have C:=T.tr x;have P:=Xh (Zl U.out x);have j:=j.ext x;clear O T H I J K B x U;obtain⟨H,I,J,K⟩:=j.cells;have B:Lt w.heap.size R:=j.2;have HA:=Xh (Qou xs t);have f:QaM xs t now=if QrX xs now=true then 2 else if okC xs t=true then 201 else if(xs.length:Int)<32 then 0 else 150:=rfl
 have l:QrX xs now=(!QJ xs||decide (now<0)||decide (1099511627776<now)):=rfl;have n:JV xs t now=if QaM xs t now=0 then Ja xs (atC xs t) (QhO t now)else xs:=rfl
 have a1:w.heap.size≤R.heap.size:=C.size;have V: ∀(k:Int) W,k≠0→Ext R W→QaM xs t now=k→ ∃y,(Ending.returned (.tuple #[v,.int .i64 k]))= .returned (.tuple #[y,.int .i64 (QaM xs t now)])∧W.ownsRow w.heap.size 66 6 y (JV xs t now).length (flC (JV xs t now))∧Ext w W:=fun k W D g h=>by
  rw [h,if_neg D]at n;exact⟨v,by rw [h],by rw [n];exact Zl P.out g,C.tr g⟩
 have s:=Xh V;clear V
 cases o:QJ xs
 ·have m:=Xh (show QaM xs t now=2 by rw [f,l,o];rfl);clear f l n
  go_wp2_with (go_at_call 75;(refine(ZG p xs c _ r hl).mono ?_);rw [o];rintro e q ⟨rfl,i⟩)
  go_step3;refine⟨rfl,?_⟩;go_wp2;rw [Exit.noGoto_ret];exact bodyPost_ret (v:= .tuple #[v,.int .i64 2]) (by simp [results,Tryz.results119,go_sem]) rfl (s.out 2 _ Om i m.out)
 by_cases h1:now<0
 ·have m:=Xh (show QaM xs t now=2 by rw [f,l,o,decide_eq_true h1];rfl);clear f l n
  go_wp2_with (go_at_call 75;(refine(ZG p xs c _ r hl).mono ?_);rw [o];rintro e q ⟨rfl,i⟩)
  go_step3;refine⟨rfl,?_⟩;go_wp2;rw [Exit.noGoto_ret];exact bodyPost_ret (v:= .tuple #[v,.int .i64 2]) (by simp [results,Tryz.results119,go_sem]) rfl (s.out 2 _ Om i m.out)
 by_cases h2:1099511627776<now
 ·have m:=Xh (show QaM xs t now=2 by rw [f,l,o,decide_eq_true h2];simp);clear f l n
  go_wp2_with (go_at_call 75;(refine(ZG p xs c _ r hl).mono ?_);rw [o];rintro e q ⟨rfl,i⟩)
  go_step3;refine⟨rfl,?_⟩;go_wp2;rw [Exit.noGoto_ret];exact bodyPost_ret (v:= .tuple #[v,.int .i64 2]) (by simp [results,Tryz.results119,go_sem]) rfl (s.out 2 _ Om i m.out)
 rw [o,decide_eq_false h1,decide_eq_false h2]at l;rw [l]at f;simp only [Bool.not_true,Bool.or_false,Bool.false_eq_true,if_false]at f
 cases D:okC xs t
 rotate_left
 ·have m:=Xh (show QaM xs t now=201 by rw [f,if_pos D]);clear f l n
  go_wp2_with (go_at_call 75;(refine(ZG p xs c _ r hl).mono ?_);rw [o];rintro e q ⟨rfl,i⟩)
  go_step3;refine⟨rfl,?_⟩;go_wp2;rw [Exit.noGoto_ret];exact bodyPost_ret (v:= .tuple #[v,.int .i64 201]) (by simp [results,Tryz.results119,go_sem]) rfl (s.out 201 _ Om i m.out)
 rw [if_neg (by rw [D];simp)]at f
 by_cases E:(xs.length:Int)<32
 rotate_left
 ·have m:=Xh (show QaM xs t now=150 by rw [f,if_neg E]);have Q:decide ((xs.length:Int)<32)=false:=decide_eq_false E;clear f l n
  go_wp2_with (first|(go_at_call 75;(with_reducible refine(ZG p xs c _ r hl).mono ?_);rw [o];rintro e q ⟨rfl,i⟩)|(go_at_call 46;(with_reducible refine(Qee p xs.length c _).mono ?_);rw [Q];rintro e W4 ⟨rfl,rfl⟩))
  go_step3;refine⟨rfl,?_⟩;go_wp2;rw [Exit.noGoto_ret];exact bodyPost_ret (v:= .tuple #[v,.int .i64 150]) (by simp [results,Tryz.results119,go_sem]) rfl (s.out 150 _ Om i m.out)
 have Q:decide ((xs.length:Int)<32)=true:=decide_eq_true E;rw [if_pos E]at f;have m:=Xh f;rw [f,if_pos rfl]at n;have HY:=Xh n;clear f l n s
 go_upto_region 9 with(first|(go_at_call 75;(with_reducible refine(ZG p xs c _ r hl).mono ?_);rw [o];rintro e q ⟨rfl,i⟩)|(go_at_call 46;(with_reducible refine(Qee p xs.length c _).mono ?_);rw [Q];rintro e W4 ⟨rfl,rfl⟩))
 have j:=j.ext i;have X:=C.tr i;have Y:=Xh (Zl P.out i);clear H I J K B P r C i a1;obtain⟨H,I,J,K⟩:=j.cells;have B:Lt w.heap.size q:=j.2;have a5:w.heap.size≤q.heap.size:=X.size;obtain⟨L,M⟩: ∃L,L=q.alloc (.cells #[.int .u32 t.a,.int .u32 t.b,.int .u16 t.c,.int .u16 t.d,.int .i64 now,.int .i64 now] 66):=⟨_,rfl⟩;have a2:v.ownBlock≠some q.heap.size:=fun h=>by have:=(Y.out.lt _ h).2;omega
 have a3:L.ownsRow w.heap.size 66 6 v xs.length (flC xs):=by rw [M];exact Zl Y.out Ea
 have Z:=Xh (QxC w.heap.size L v xs (atC xs t) (QhO t now) q.heap.size HA.out hl (by rw [M];simp [go_sem];omega) a3 (by rw [M];exact World.alloc_heap_new _ _) a2);rw [M]at Z
 go_wp2_with ((with_reducible refine(Z.out).mono ?_);rintro e W5 ⟨y,rfl,a0,m5⟩;have a4:=Xh a0;clear a0)
 simp only [Exit.jump];exact bodyPost_ret (v:= .tuple #[y,.int .i64 0]) (by simp [results,Tryz.results119,go_sem]) rfl ⟨y,by rw [m.out],by rw [HY.out];exact a4.out,Mv.ext_of (Ext.al X _) m5 (fun _ h=>h)⟩
def TuR(t:Tu):Prop:=(0≤t.a∧t.a<4294967296)∧(0≤t.b∧t.b<4294967296)∧(0≤t.c∧t.c<65536)∧(0≤t.d∧t.d<65536)
def sumT(t:Tu):Int:=goL 0 (tb t)
def ofT(t:Tu):Int:=Qei (sumT t)
theorem Qbm(t:Tu):0≤sumT t∧sumT t<256:=QuT _ _ Om Om
theorem Qek(t:Tu):(tb t).length=12:=rfl
theorem QbY(t:Tu):0≤ofT t∧ofT t<16:=Qr1 _ (Qbm t).1 (Qbm t).2
def inB(k:Int)(x:Co):Bool:=ofT x.t==k
theorem go12(t:Tu)(p:Option Addr)(w:World)(hb:SlB w p (tb t)):Cr 178 #[.int .u8 0,.slice p 12 12] w (.int .u8 (sumT t)):=QuU 0 (tb t) p 12 w hb (by rw [Qek];omega)
theorem Qr5(t:Tu)(hr:TuR t)(w:World):
  Cr 105 #[tu t.a t.b t.c t.d] w (.int .u8 (sumT t)):=by
 have f:t.c % 4294967296=t.c:=by obtain⟨-,-,h,-⟩:=hr;omega
 have g:t.d % 4294967296=t.d:=by obtain⟨-,-,-,h⟩:=hr;omega
 have j:=Xh f;have k:=Xh g;clear f g hr
 go_enter Tryz.func105,Tryz.ntmps105
 go_wp2_with (first|(go_at_call 179;(with_reducible refine(QmG t j.out k.out _).mono ?_);rintro e o ⟨b,rfl,i,m⟩;have l:=Xh i;clear i)|(go_at_call 178;(with_reducible refine(go12 t _ _ l.out).mono ?_);rintro e p ⟨rfl,n⟩))
 go_ret;refine⟨rfl,?_⟩;exact(Ext.tr Ea m).tr n
theorem QgC(t:Tu)(hr:TuR t)(w:World):
  Cr 43 #[tu t.a t.b t.c t.d] w (.int .i64 (ofT t)):=by
 have f:=Xh hr;clear hr
 go_enter Tryz.func43,Tryz.ntmps43
 go_wp2_with (first|(go_at_call 105;(with_reducible refine(Qr5 t f.out _).mono ?_);rintro e h ⟨rfl,g⟩)|(go_at_call 104;(with_reducible refine(Qjo (sumT t) _ (Qbm t).1 (Qbm t).2).mono ?_);rintro e i ⟨rfl,rfl⟩))
 go_ret;exact⟨rfl,Ext.tr Ea g⟩
theorem QoC(x:Co)(hr:TuR x.t)(k:Int)(bk:Nat)(w:World)(lk:Lt bk w)(hk:w.cell? ⟨bk,0,none⟩=some (.int .i64 k)):
  Cr 140 #[.agg #[.int .u32 x.t.a,.int .u32 x.t.b,.int .u16 x.t.c,.int .u16 x.t.d,.int .i64 x.s,.int .i64 x.l],.pointer (some ⟨bk,0,none⟩)] w (.bool (inB k x)):=by
 have h:=Xh hr;clear hr
 go_enter Tryz.func140,Tryz.ntmps140
 go_upto_region 1 with(fail)
 obtain⟨e,f⟩: ∃e,w.alloc (.cells #[.int .u32 x.t.a,.int .u32 x.t.b,.int .u16 x.t.c,.int .u16 x.t.d,.int .i64 x.s,.int .i64 x.l] 66)=e:=⟨_,rfl⟩;have g:Ext w e:=by rw [←f];exact Ea
 have j:e.cell? ⟨w.heap.size,0,none⟩=some (.int .u32 x.t.a):=by rw [←f];simp [go_sem]
 have m:e.cell? ⟨w.heap.size,1,none⟩=some (.int .u32 x.t.b):=by rw [←f];simp [go_sem]
 have n:e.cell? ⟨w.heap.size,2,none⟩=some (.int .u16 x.t.c):=by rw [←f];simp [go_sem]
 have o:e.cell? ⟨w.heap.size,3,none⟩=some (.int .u16 x.t.d):=by rw [←f];simp [go_sem]
 have q:Lt w.heap.size e:=by rw [←f];simp [Lt]
 have r:Lt bk e:=Xl lk g.size;have u:e.cell? ⟨bk,0,none⟩=some (.int .i64 k):=(g.cell (p:=⟨bk,0,none⟩) lk).trans hk;rw [f];clear f hk;generalize w.heap.size=B at*;refine Qk Kr Kr ?_;(repeat(go_big_quiet_step ((go_at_call 43;exact Zo (QgC x.t h.out _)))));refine wpQuiet_nil ?_;intro d
 have i:=Qt d;go_wp2;go_ret;exact⟨rfl,g.tr i⟩
theorem Qr6(x:Co)(hr:TuR x.t)(k:Int)(bk:Nat)(w:World)(lk:Lt bk w)(hk:w.cell? ⟨bk,0,none⟩=some (.int .i64 k)):
  Cr 140 (#[.agg #[.int .u32 x.t.a,.int .u32 x.t.b,.int .u16 x.t.c,.int .u16 x.t.d,.int .i64 x.s,.int .i64 x.l]]++ #[.pointer (some ⟨bk,0,none⟩)]) w (.bool (inB k x)):=by
 rw [show(#[Value.agg #[.int .u32 x.t.a,.int .u32 x.t.b,.int .u16 x.t.c,.int .u16 x.t.d,.int .i64 x.s,.int .i64 x.l]]++ #[Value.pointer (some ⟨bk,0,none⟩)]:Array Value)=#[.agg #[.int .u32 x.t.a,.int .u32 x.t.b,.int .u16 x.t.c,.int .u16 x.t.d,.int .i64 x.s,.int .i64 x.l],.pointer (some ⟨bk,0,none⟩)]from rfl];exact QoC x hr k bk w lk hk
theorem Qjr: ∀args w,(callFunc 140 args).run Tryz.prog w= .ok (.enter 140 args) w:=enters_of Tryz.func140 Kr rfl
theorem QoD(x:Co)(hr:TuR x.t)(k:Int)(bk:Nat)(w:World)(lk:Lt bk w)(hk:w.cell? ⟨bk,0,none⟩=some (.int .i64 k)):
  Cr 141 #[.agg #[.int .u32 x.t.a,.int .u32 x.t.b,.int .u16 x.t.c,.int .u16 x.t.d,.int .i64 x.s,.int .i64 x.l],.pointer (some ⟨bk,0,none⟩)] w (.bool (inB k x)):=by
 have h:=Xh hr;clear hr
 go_enter Tryz.func141,Tryz.ntmps141
 go_upto_region 1 with(fail)
 obtain⟨e,f⟩: ∃e,w.alloc (.cells #[.int .u32 x.t.a,.int .u32 x.t.b,.int .u16 x.t.c,.int .u16 x.t.d,.int .i64 x.s,.int .i64 x.l] 66)=e:=⟨_,rfl⟩;have g:Ext w e:=by rw [←f];exact Ea
 have j:e.cell? ⟨w.heap.size,0,none⟩=some (.int .u32 x.t.a):=by rw [←f];simp [go_sem]
 have m:e.cell? ⟨w.heap.size,1,none⟩=some (.int .u32 x.t.b):=by rw [←f];simp [go_sem]
 have n:e.cell? ⟨w.heap.size,2,none⟩=some (.int .u16 x.t.c):=by rw [←f];simp [go_sem]
 have o:e.cell? ⟨w.heap.size,3,none⟩=some (.int .u16 x.t.d):=by rw [←f];simp [go_sem]
 have q:Lt w.heap.size e:=by rw [←f];simp [Lt]
 have r:Lt bk e:=Xl lk g.size;have u:e.cell? ⟨bk,0,none⟩=some (.int .i64 k):=(g.cell (p:=⟨bk,0,none⟩) lk).trans hk;rw [f];clear f hk;generalize w.heap.size=B at*;refine Qk Kr Kr ?_;(repeat(go_big_quiet_step ((go_at_call 43;exact Zo (QgC x.t h.out _)))));refine wpQuiet_nil ?_;intro d
 have i:=Qt d;go_wp2;go_ret;exact⟨rfl,g.tr i⟩
theorem Qr7(x:Co)(hr:TuR x.t)(k:Int)(bk:Nat)(w:World)(lk:Lt bk w)(hk:w.cell? ⟨bk,0,none⟩=some (.int .i64 k)):
  Cr 141 (#[.agg #[.int .u32 x.t.a,.int .u32 x.t.b,.int .u16 x.t.c,.int .u16 x.t.d,.int .i64 x.s,.int .i64 x.l]]++ #[.pointer (some ⟨bk,0,none⟩)]) w (.bool (inB k x)):=by
 rw [show(#[Value.agg #[.int .u32 x.t.a,.int .u32 x.t.b,.int .u16 x.t.c,.int .u16 x.t.d,.int .i64 x.s,.int .i64 x.l]]++ #[Value.pointer (some ⟨bk,0,none⟩)]:Array Value)=#[.agg #[.int .u32 x.t.a,.int .u32 x.t.b,.int .u16 x.t.c,.int .u16 x.t.d,.int .i64 x.s,.int .i64 x.l],.pointer (some ⟨bk,0,none⟩)]from rfl];exact QoD x hr k bk w lk hk
theorem Qjs: ∀args w,(callFunc 141 args).run Tryz.prog w= .ok (.enter 141 args) w:=enters_of Tryz.func141 Kr rfl
theorem Qr8(p:Option Addr)(xs:List Co)(c:Nat)(k:Int)(w:World)(hs:SlC w p xs)(hl:xs.length≤1000)(hr: ∀x∈xs,TuR x.t):
  Calls Tryz.prog 61 #[.slice p xs.length c,.int .i64 k] w fun e w'=> ∃v,e= .returned v∧w'.ownsRow w.heap.size 66 6 v (xs.filter (inB k)).length (flC (xs.filter (inB k)))∧Ext w w':=by
 have j:=Xh hr;clear hr
 go_enter Tryz.func61,Tryz.ntmps61
 go_upto_region 1 with(fail)
 obtain⟨a,b⟩: ∃a,w.alloc (.cells #[.int .i64 k] 3)=a:=⟨_,rfl⟩;have d:Ext w a:=by rw [←b];exact Ea
 have l:a.cell? ⟨w.heap.size,0,none⟩=some (.int .i64 k):=by rw [←b];simp [go_sem]
 have f:Lt w.heap.size a:=by rw [←b];simp [Lt]
 have m:=hs.ext d;have n:w.heap.size≤a.heap.size:=d.size;rw [b];clear b hs;have o:=Xh (fun(x:Co) (W:World) (hm:x∈xs) (hE:Ext a W)=>Qr6 x (j.out x hm) k _ W (Xl f hE.size) ((hE.cell (p:=⟨w.heap.size,0,none⟩) f).trans l))
 go_wp2_with (go_at_call 139;go_must (with_reducible refine(ZJ 140 #[.pointer (some ⟨w.heap.size,0,none⟩)] Qjr (inB k) p xs c _ m hl o.out).mono ?_);rintro e w' ⟨g,y,rfl,⟨h,i,r⟩,s⟩;have q:=Xh h;have u:=Xh i;clear h i r)
 exact bodyPost_ret (v:=g) (by simp [results,Tryz.results61,go_sem]) rfl ⟨g,rfl,QA q.out n,d.tr s⟩
theorem Qr9(p:Option Addr)(xs:List Co)(c:Nat)(k:Int)(w:World)(hs:SlC w p xs)(hl:xs.length≤1000)(hr: ∀x∈xs,TuR x.t):
  Calls Tryz.prog 62 #[.slice p xs.length c,.int .i64 k] w fun e w'=> ∃v,e= .returned v∧w'.ownsRow w.heap.size 66 6 v (xs.filter (fun x=>!inB k x)).length (flC (xs.filter (fun x=>!inB k x)))∧Ext w w':=by
 have j:=Xh hr;clear hr
 go_enter Tryz.func62,Tryz.ntmps62
 go_upto_region 1 with(fail)
 obtain⟨a,b⟩: ∃a,w.alloc (.cells #[.int .i64 k] 3)=a:=⟨_,rfl⟩;have d:Ext w a:=by rw [←b];exact Ea
 have l:a.cell? ⟨w.heap.size,0,none⟩=some (.int .i64 k):=by rw [←b];simp [go_sem]
 have f:Lt w.heap.size a:=by rw [←b];simp [Lt]
 have m:=hs.ext d;have n:w.heap.size≤a.heap.size:=d.size;rw [b];clear b hs;have o:=Xh (fun(x:Co) (W:World) (hm:x∈xs) (hE:Ext a W)=>Qr7 x (j.out x hm) k _ W (Xl f hE.size) ((hE.cell (p:=⟨w.heap.size,0,none⟩) f).trans l))
 go_wp2_with (go_at_call 139;go_must (with_reducible refine(ZJ 141 #[.pointer (some ⟨w.heap.size,0,none⟩)] Qjs (inB k) p xs c _ m hl o.out).mono ?_);rintro e w' ⟨y,g,rfl,⟨h,i,r⟩,s⟩;have u:=Xh h;have q:=Xh i;clear h i r)
 exact bodyPost_ret (v:=g) (by simp [results,Tryz.results62,go_sem]) rfl ⟨g,rfl,QA q.out n,d.tr s⟩
theorem QcV(x:Int)(h0:0≤x)(h1:x<4294967296):bits .and .i64 x 255=x % 256:=by
 have h:=bits_mask .i64 32 Dc (fun n h0 h1=>by rw [IntKind.wrap_i64];omega) 8 Dc x h0 Om;have e:((2:Int)^8- 1)=255:=by decide
 have a:((2:Int)^8)=256:=by decide
 rw [e,a]at h;exact h
theorem QcW(x:Int)(h0:0≤x)(h1:x<4294967296)(k:Int)(hk:1≤k):0≤x/k∧x/k<4294967296:=by
 refine⟨Int.ediv_nonneg h0 Om,?_⟩;exact Int.lt_of_le_of_lt (Int.ediv_le_self _ h0) h1
theorem Q1(w:World)(a:Value)(t:TypeId): ∀j u,[a][j]?=some u→(w.alloc (.cells #[a] t)).cell? ((⟨w.heap.size,0,none⟩:Addr).add j)=some u:=by
 intro j u h
 match j,h with
 |0,h=>cases h;simp [go_sem,Addr.add]
theorem Qjt(n:Int)(m:Nat)(hm:m≤4)(h0:0≤n)(h1:n<4294967296)(w:World):
  Calls Tryz.prog 208 #[.int .i64 n,.int .i64 m] w fun e w'=> ∃v,e= .returned v∧w'.ownsRow w.heap.size 5 1 v m ((byN n m).map (Value.int .u8))∧Ext w w':=by
 obtain⟨s,t,x,y,z⟩:=info_parts YB;have G:IntKind.i64.wrap ((m:Int)- 1)=(m:Int)- 1:=by rw [IntKind.wrap_i64];omega
 go_enter Tryz.func208,Tryz.ntmps208
 go_wp2
 go_loopw [5,6] (fun v a wr=> ∃q:Nat,q≤m∧a= .int .i64 ((q:Int)- 1)∧wr.ownsRow w.heap.size 5 1 v (m- q) (((byN n m).take (m- q)).map (Value.int .u8))∧Ext w wr) (fun _ a _=>(intOf a+1).toNat)
 case atStart=>exact⟨m,Nat.le_refl _,rfl,by rw [Nat.sub_self];exact World.ownsRow_nil _ _ _ _,Ext.rf _⟩
 case round=>
  obtain⟨q,I,rfl,A,g⟩:=hrel
  by_cases F:q=0
  ·subst F;have f:=Xh A;clear A;go_wp2;refine bodyPost_ret (v:=u5) (by simp [results,Tryz.results208,go_sem]) rfl ⟨_,rfl,?_,g⟩;have:=f.out
   rwa [Nat.sub_zero,List.take_of_length_le (by rw [ZA];omega)]at this
  ·obtain⟨j,rfl⟩: ∃j,q=j+1:=⟨q- 1,Om⟩;have E:decide ((0:Int)≤((j+1:Nat):Int)- 1)=true:=decide_eq_true Om;have p:=Xh (Qcm n m j Om);have f:=Xh A;clear A;rw [show(((j+1:Nat):Int)- 1)=j by omega]at E⊢;have H:j<4:=by omega
   obtain rfl|rfl|rfl|rfl:j=0∨j=1∨j=2∨j=3:=by omega
   ·have i:=Xh (show bits .and .i64 n 255 % 256=n/256^0 % 256 by
     rw [QcV _ h0 h1,show(256:Int)^0=1 by decide];omega)
    go_wp2_with (at_builtin;go_must (refine wpList_append_own _ rfl _ _ 28 rfl w.heap.size 5 s (.int .u8 0) 1 1 Tryz.underlying28 t x y z rfl Dc _ _ _ rfl (f.out.alloc _) ⟨wr.heap.size,0,none⟩ 1 1 [.int .u8 (bits .and .i64 n 255 % 256)] rfl rfl (Q1 _ _ _) (by intro u b;simp at b;subst b;rfl) (by unfold maxLen;omega) Om (by have:=g.size;simp;omega) ?_);intro B D c d _;have l:=Xh c;have o:=Xh d;clear c d)
    go_roundw
    case rel=>
     refine⟨0,Om,by go_num,?_,Mv.ext_of (Ext.al g _) (Mv.of_grown (C:=fun k=>w.heap.size≤k) o.out fun r e=> .inl (Qi f.out r e)) (fun k h=>h)⟩;have h:=l.out;rw [i.out,show m- (0+1)+1=m- 0 by omega]at h;rw [←p.out,List.map_append];exact h
    case measure=>first|(simp [intOf];done)|(simp [intOf];omega)
   ·have i:=Xh (show bits .and .i64 (n/256) 255 % 256=n/256^1 % 256 by
     rw [QcV _ (QcW n h0 h1 256 Om).1 (QcW n h0 h1 256 Om).2,show(256:Int)^1=256 by decide];omega)
    go_wp2_with (at_builtin;go_must (refine wpList_append_own _ rfl _ _ 28 rfl w.heap.size 5 s (.int .u8 0) 1 1 Tryz.underlying28 t x y z rfl Dc _ _ _ rfl (f.out.alloc _) ⟨wr.heap.size,0,none⟩ 1 1 [.int .u8 (bits .and .i64 (n/256) 255 % 256)] rfl rfl (Q1 _ _ _) (by intro u b;simp at b;subst b;rfl) (by unfold maxLen;omega) Om (by have:=g.size;simp;omega) ?_);intro B D c d _;have l:=Xh c;have o:=Xh d;clear c d)
    go_roundw
    case rel=>
     refine⟨1,Om,by go_num,?_,Mv.ext_of (Ext.al g _) (Mv.of_grown (C:=fun k=>w.heap.size≤k) o.out fun r e=> .inl (Qi f.out r e)) (fun k h=>h)⟩;have h:=l.out;rw [i.out,show m- (1+1)+1=m- 1 by omega]at h;rw [←p.out,List.map_append];exact h
    case measure=>first|(simp [intOf];done)|(simp [intOf];omega)
   ·have i:=Xh (show bits .and .i64 (n/65536) 255 % 256=n/256^2 % 256 by
     rw [QcV _ (QcW n h0 h1 65536 Om).1 (QcW n h0 h1 65536 Om).2,show(256:Int)^2=65536 by decide];omega)
    go_wp2_with (at_builtin;go_must (refine wpList_append_own _ rfl _ _ 28 rfl w.heap.size 5 s (.int .u8 0) 1 1 Tryz.underlying28 t x y z rfl Dc _ _ _ rfl (f.out.alloc _) ⟨wr.heap.size,0,none⟩ 1 1 [.int .u8 (bits .and .i64 (n/65536) 255 % 256)] rfl rfl (Q1 _ _ _) (by intro u b;simp at b;subst b;rfl) (by unfold maxLen;omega) Om (by have:=g.size;simp;omega) ?_);intro B D c d _;have l:=Xh c;have o:=Xh d;clear c d)
    go_roundw
    case rel=>
     refine⟨2,Om,by go_num,?_,Mv.ext_of (Ext.al g _) (Mv.of_grown (C:=fun k=>w.heap.size≤k) o.out fun r e=> .inl (Qi f.out r e)) (fun k h=>h)⟩;have h:=l.out;rw [i.out,show m- (2+1)+1=m- 2 by omega]at h;rw [←p.out,List.map_append];exact h
    case measure=>first|(simp [intOf];done)|(simp [intOf];omega)
   ·have i:=Xh (show bits .and .i64 (n/16777216) 255 % 256=n/256^3 % 256 by
     rw [QcV _ (QcW n h0 h1 16777216 Om).1 (QcW n h0 h1 16777216 Om).2,show(256:Int)^3=16777216 by decide];omega)
    go_wp2_with (at_builtin;go_must (refine wpList_append_own _ rfl _ _ 28 rfl w.heap.size 5 s (.int .u8 0) 1 1 Tryz.underlying28 t x y z rfl Dc _ _ _ rfl (f.out.alloc _) ⟨wr.heap.size,0,none⟩ 1 1 [.int .u8 (bits .and .i64 (n/16777216) 255 % 256)] rfl rfl (Q1 _ _ _) (by intro u b;simp at b;subst b;rfl) (by unfold maxLen;omega) Om (by have:=g.size;simp;omega) ?_);intro B D c d _;have l:=Xh c;have o:=Xh d;clear c d)
    go_roundw
    case rel=>
     refine⟨3,Om,by go_num,?_,Mv.ext_of (Ext.al g _) (Mv.of_grown (C:=fun k=>w.heap.size≤k) o.out fun r e=> .inl (Qi f.out r e)) (fun k h=>h)⟩;have h:=l.out;rw [i.out,show m- (3+1)+1=m- 3 by omega]at h;rw [←p.out,List.map_append];exact h
    case measure=>first|(simp [intOf];done)|(simp [intOf];omega)
theorem Qsa(s:Int)(bs:List Int)(p:Option Addr)(c:Nat)(w:World)(hb:SlB w p bs)(hl:bs.length≤1000):
  Calls Tryz.prog 157 #[.int .u8 s,.slice p bs.length c] w fun e w'=>e= .returned (.int .u8 (goL s bs))∧w=w':=by
 go_enter Tryz.func157,Tryz.ntmps157
 go_wp2
 go_loopw [0,5] (fun v a wr=> ∃k:Nat,k≤bs.length∧a= .int .i64 k∧v= .int .u8 (goL s (bs.take k))∧wr=w) (fun _ a _=>bs.length- (intOf a).toNat)
 case atStart=>exact⟨0,Nat.zero_le _,rfl,rfl,rfl⟩
 case round=>
  obtain⟨k,n,rfl,rfl,rfl⟩:=hrel
  by_cases g:k<bs.length
  ·have j:(k:Int)<bs.length:=by omega
   obtain⟨b,o,rfl,q,m⟩:=hb k g;obtain⟨x,h⟩: ∃x,bs[k]=x:=⟨_,rfl⟩;have d:=Xh (Qej bs s k g);rw [h]at m d;obtain⟨z,i⟩: ∃z,goL s (bs.take k)=z:=⟨_,rfl⟩;rw [i]at d⊢;have f:0≤bits BinOp.xor IntKind.u8 z x∧bits BinOp.xor IntKind.u8 z x<256:=Qr0 z x;clear h i
   go_wp2_with (go_at_call 207;(refine(QmC (bits BinOp.xor IntKind.u8 z x) _ f.1 f.2).mono ?_);rintro e r ⟨rfl,rfl⟩)
   go_roundw
   case rel=>exact⟨k+1,Om,by go_num,by rw [d.out];rfl,trivial⟩
   case measure=>simp [intOf];omega
  ·have j: ¬((k:Int)<bs.length):=by omega
   have l:=Xh (show bs.take k=bs by rw [List.take_of_length_le Om]);go_wp2;exact bodyPost_ret (v:= .int .u8 (goL s (bs.take k))) (by simp [results,Tryz.results157,go_sem]) rfl ⟨by rw [l.out],rfl⟩
def OB(w:World)(base:Nat)(v:Value)(bs:List Int):Prop:=w.ownsRow base 5 1 v bs.length (bs.map (Value.int .u8))
theorem OB.ext{v:Value}(h:OB w base v bs)(e:Ext w w'):OB w' base v bs:=Zl h e
theorem OB.le{b':Nat}{v:Value}(h:OB w base v bs)(e:b'≤base):OB w b' v bs:=QA h e
theorem OB.cells{v:Value}(h:OB w base v bs)(hn:0<bs.length): ∃g c,v= .slice (some ⟨g,0,none⟩) bs.length c∧base≤g∧g<w.heap.size∧ ∀j u,(bs.map (Value.int .u8))[j]?=some u→w.cell? ⟨g,j,none⟩=some u:=by
 rcases h.2 with⟨rfl,h0⟩|⟨g,cap,cur,rfl,hg,hgb,h1,h2,h3,h4⟩
 ·omega
 ·refine⟨g,cap,rfl,hg,(Array.getElem?_eq_some_iff.1 hgb).1,fun j u hu=> ?_⟩;rw [←h4]at hu;rw [Qa];unfold Qc;rw [hgb];obtain⟨a,-⟩:=List.getElem?_eq_some_iff.1 hu;rw [List.length_take]at a;rw [List.getElem?_take,if_pos Om,Array.getElem?_toList]at hu;exact hu
theorem OB.sl{v:Value}(h:OB w base v bs)(hn:0<bs.length): ∃p c,v= .slice p bs.length c∧SlB w p bs:=by
 obtain⟨g,c,rfl,d,a,b⟩:=h.cells hn;refine⟨_,c,rfl,fun k hk=>⟨g,0,rfl,a,?_⟩⟩;rw [Nat.zero_add];refine b k _ ?_;rw [List.getElem?_map,List.getElem?_eq_getElem hk];rfl
theorem QuV{v1 v2:Value}{b1 b2:List Int}{base2:Nat}(h1:OB w base v1 b1)(h2:OB w base2 v2 b2)(hp:0<b2.length)(hl:b1.length+b2.length≤1000)(hb:base≤w.heap.size)
  (ρ:Operand→Value)(dst:Option Tmp)(x y:Operand)(ty:TypeId)(pos:String)(after:Array Edge)(g:Option (Nat×Bool))(hx:ρ x=v1)(hy:ρ y=v2):
  ∃v' w',(execOp ρ ⟨dst,.call {callee:= .builtin .append,args:=#[x,y],argTypes:=#[28,28]},ty,pos,after,g⟩).run Tryz.prog w= .ok (.value v') w'∧OB w' base v' (b1++b2)∧w.grownBy w' v1.ownBlock:=by
 obtain⟨b,d,e,f,h⟩:=info_parts YB;obtain⟨i,c,rfl,p,q,k⟩:=h2.cells hp
 obtain⟨v',w',l,m,n,-,-⟩:=run_append_own_at (P:=Tryz.prog) w base 28 ty 5 b (.int .u8 0) 1 1 Tryz.underlying28 d e f h rfl Dc v1 b1.length _ h1 ⟨i,0,none⟩ b2.length c (b2.map (Value.int .u8)) (by simp) (fun j u a=>by
  have:=k j u a
  by_cases o:j=0<;>simp_all [Addr.add]) (by intro u a;obtain⟨z,-,rfl⟩:=List.mem_map.1 a;rfl) (by unfold maxLen;omega) Om hb
 refine⟨v',w',?_,?_,n⟩
 ·simp [execOp,resolve,invoke,builtin,hx,hy,l,Result.andThen]
 ·unfold OB;rw [List.length_append,List.map_append];exact m
theorem Qcp{v:Value}(h:OB w base v bs)(hg:w.grownBy w' v.ownBlock):Mv (fun k=>base≤k) w w':=Mv.of_grown hg fun r e=> .inl (Qi h r e)
theorem OB.keep{b2:Nat}{v u:Value}{cs:List Int}(h:OB w base v bs)(hg:w.grownBy w' v.ownBlock)(h2:OB w b2 u cs)(hn: ∀g,v.ownBlock=some g→g<b2):OB w' b2 u cs:=
 Qeg h2 hg fun g hu hv=>by
  have a:=Qi h2 g hu;have b:=hn g hv;omega
theorem QuW{d:List Nat}{y:Operand}{a:Act}{base2:Nat}{v1 v2:Value}{b1 b2:List Int}
  (hi:ops[k]?=some ⟨dst,.call {callee:= .builtin .append,args:=#[x,y],argTypes:=#[28,28]},ty,pos,after,none⟩)(hx:a.eval x=v1)(hy:a.eval y=v2)(h1:OB w base v1 b1)(h2:OB w base2 v2 b2)(hp:0<b2.length)(hl:b1.length+b2.length≤1000)(hb:base≤w.heap.size)
  (H: ∀v' w',Mv (fun k=>base≤k) w w'→OB w' base v' (b1++b2)→QN (fun k=>base≤k) Tryz.prog .any ops Q fuel (don N (k::d)) (a.put dst v') w'):Qem (fun k=>base≤k) Tryz.prog ops Q fuel N k d a w:=by
 obtain⟨v',w',c,e,b⟩:=QuV h1 h2 hp hl hb a.eval dst x y ty pos after none hx hy;exact QhS hi rfl c (Qcp h1 b) (H v' w' (Qcp h1 b) e)
end Go.Proofs.YtpeonbaodnmlnaaGreat
