/- Lemmas of this claim, put together out of: IB, NM, NN, NP, NO, NQ, OA1, OA2, F, OE, U1, U2, U3, UP, UQ, US, ZR, ZI, ZJ, ZK. -/
import Derived.Test.YtpeonbaodnmlnaaGreatSA5
import Derived.Test.YtpeonbaodnmlnaaGreatSV
import Derived.WalkKit
import Derived.ProofKit
import Derived.OpenShut
import Derived.Lib.SmallJoins
import Derived.Deep.Slices
import Derived.Deep.Fields
import Derived.ChangeSame
set_option linter.unusedSimpArgs false
set_option linter.unusedVariables false
set_option maxRecDepth 100000
set_option maxHeartbeats 16000000
namespace Go.Proofs.YtpeonbaodnmlnaaGreat
open Go.RowKit
variable{after:Array Edge}{B b:Nat}{x y:Operand}{ρ:Operand→Value}{g:Option (Nat×Bool)}{dst:Option Tmp}{pos:String}{ty:TypeId}{a0 a1 a2 a3 a4 a5:Value}{W w:World}
section
theorem Qmi:(Tryz.prog.info? 96).map (·.size)=some 6:=Kr
theorem QnL{o:Nat}(h:o+6≤(Qc w b).size):(Instr.loadAt 96 (.pointer (some ⟨b,o,none⟩))).run Tryz.prog w= .ok (.agg ((Qc w b).extract o (o+6))) w:=by
 have:=run_loadAt_mid w b o 96 ((Qc w b).extract o (o+6)).toList _ (QC w b o (o+6)) Tryz.underlying96 rfl (by rw [Qmi];simp;omega)
 rwa [Array.toArray_toList]at this
@[go_sem ↓ high] theorem QcQ(ρ:Operand→Value)(dst:Option Tmp)(x:Operand)(ty:TypeId)(pos:String)(after:Array Edge)(g:Option (Nat×Bool))(w:World)
  (hx:ρ x= .pointer (some ⟨Qb (ρ x),Qd (ρ x),none⟩))(h:Fits (Qd (ρ x)) 6 (Qc w (Qb (ρ x)))):
  (execOp ρ ⟨dst,.load 96 x,ty,pos,after,g⟩).run Tryz.prog w= .ok (.value (.agg (QB (Qc w (Qb (ρ x))) (Qd (ρ x)) 6))) w:=by
 unfold Fits at h;generalize a:Qb (ρ x)=B at*;generalize b:Qd (ρ x)=O at*;simp only [execOp,hx,Sem.run_bind,QnL h,Result.andThen_ok,Sem.run_pure,QB]
@[go_sem ↓ high] theorem Quz{l:Option Nat}(w:World)
  (hx:ρ x= .pointer (some ⟨Qb (ρ x),Qd (ρ x),none⟩))(h:Fits (Qd (ρ x)) 6 (Qc w (Qb (ρ x)))):
  (Oper.semAt l ρ ⟨dst,.load 96 x,ty,pos,after,g⟩).run Tryz.prog w= .ok (.value (.agg (QB (Qc w (Qb (ρ x))) (Qd (ρ x)) 6))) w:=by rw [Oper.semAt_eq _ _ _ (fun c h=>by cases h)];exact QcQ ρ dst x ty pos after g w hx h
@[go_sem ↓ high] theorem QfC(ρ:Operand→Value)(dst:Option Tmp)(x y:Operand)(ty:TypeId)(pos:String)(after:Array Edge)(g:Option (Nat×Bool))(w:World)
  (hx:ρ x= .pointer (some ⟨Qb (ρ x),Qd (ρ x),none⟩))(hy:ρ y= .agg (ρ y).cells)(hs:Qn (ρ y).cells 6)(h:Fits (Qd (ρ x)) 6 (Qc w (Qb (ρ x))))(hz:Qs w (Qb (ρ x))=(0,0))(h1:QK (ρ y).cells):
  (execOp ρ ⟨dst,.store 96 x y,ty,pos,after,g⟩).run Tryz.prog w= .ok .skip (Qe w (Qb (ρ x)) (Qd (ρ x)) (ρ y).cells):=by
 unfold Fits at h;unfold Qn at hs;generalize b:Qb (ρ x)=B at*;generalize c:Qd (ρ x)=O at*;generalize d:(ρ y).cells=C at*;have a:(Instr.storeAt 96 (.pointer (some ⟨B,O,none⟩)) (.agg C)).run Tryz.prog w= .ok () (Qe w B O C):=
  run_storeAt_mid w B O 96 C (fun j hj=>⟨by rw [Qa,Array.getElem?_eq_getElem Om];rfl,Ql hz _⟩) (by rw [Qmi,hs]) h1
 simp only [execOp,hx,hy,Sem.run_bind,a,Result.andThen_ok,Sem.run_pure]
@[go_sem ↓ high] theorem Qta{l:Option Nat}(w:World)
  (hx:ρ x= .pointer (some ⟨Qb (ρ x),Qd (ρ x),none⟩))(hy:ρ y= .agg (ρ y).cells)(hs:Qn (ρ y).cells 6)(h:Fits (Qd (ρ x)) 6 (Qc w (Qb (ρ x))))(hz:Qs w (Qb (ρ x))=(0,0))(h1:QK (ρ y).cells):
  (Oper.semAt l ρ ⟨dst,.store 96 x y,ty,pos,after,g⟩).run Tryz.prog w= .ok .skip (Qe w (Qb (ρ x)) (Qd (ρ x)) (ρ y).cells):=by rw [Oper.semAt_eq _ _ _ (fun c h=>by cases h)];exact QfC ρ dst x y ty pos after g w hx hy hs h hz h1
attribute [local go_sem ↓ high] Qz Z1
def cm0(now:Int):Cm:=⟨(0,0),(0,0),⟨0,0,0,0,0,0⟩,none,0,0,⟨⟨0,0,0,0⟩,0,[]⟩,none,0,0,now⟩
@[go_sem] theorem QyV{c:Cm}:(cmv c).size=18:=rfl
@[go_sem] theorem QvX{c:Cm}:Qn (cmv c) 18=True:=eq_true rfl
@[go_sem ↓ high] theorem Qxj{c:Cm}:(Value.agg (cmv c)).cells=cmv c:=QF _
@[go_sem] theorem Qz4{c:Cm}:QK (cmv c):=by unfold cmv;simp [go_sem]
@[go_sem] theorem QuA{c:Cm}:QB (cmv c) 0 18=cmv c:=Q9 _ _ rfl
theorem QvY{c:Cm}(fr tn:Int×Int)(o:Opt)(p:Option Addr)(n k:Nat)(h:RowZ W b (cmv c)):RowZ (Qe W b 0 (wrV fr tn o (.slice p n k))) b (cmv {c with fr:=fr,tn:=tn,o:=o,ip:=p,iN:=n,ic:=k}):=by
 have r:=(((((((((((h.set 0 (.int .u8 fr.1)).set 1 (.int .i64 fr.2)).set 2 (.int .u8 tn.1)).set 3 (.int .i64 tn.2)).set 4 (.int .u8 o.ki)).set 5 (.int .u8 o.bu)).set 6 (.int .i64 o.cu)).set 7 (.int .i64 o.pv)).set 8 (.int .i64 o.ge)).set 9 (.int .i64 o.ti)).set 10 (.slice p n k));have a:((((((((((((cmv c).setIfInBounds 0 (.int .u8 fr.1)).setIfInBounds 1 (.int .i64 fr.2)).setIfInBounds 2 (.int .u8 tn.1)).setIfInBounds 3 (.int .i64 tn.2)).setIfInBounds 4 (.int .u8 o.ki)).setIfInBounds 5 (.int .u8 o.bu)).setIfInBounds 6 (.int .i64 o.cu)).setIfInBounds 7 (.int .i64 o.pv)).setIfInBounds 8 (.int .i64 o.ge)).setIfInBounds 9 (.int .i64 o.ti)).setIfInBounds 10 (.slice p n k))=cmv {c with fr:=fr,tn:=tn,o:=o,ip:=p,iN:=n,ic:=k}:=Kr
 rw [a]at r;have d:Qe W b 0 (wrV fr tn o (.slice p n k))=(((((((((((W.setCell ⟨b,0,none⟩ (.int .u8 fr.1)).setCell ⟨b,1,none⟩ (.int .i64 fr.2)).setCell ⟨b,2,none⟩ (.int .u8 tn.1)).setCell ⟨b,3,none⟩ (.int .i64 tn.2)).setCell ⟨b,4,none⟩ (.int .u8 o.ki)).setCell ⟨b,5,none⟩ (.int .u8 o.bu)).setCell ⟨b,6,none⟩ (.int .i64 o.cu)).setCell ⟨b,7,none⟩ (.int .i64 o.pv)).setCell ⟨b,8,none⟩ (.int .i64 o.ge)).setCell ⟨b,9,none⟩ (.int .i64 o.ti)).setCell ⟨b,10,none⟩ (.slice p n k)):=Kr
 rw [d];exact r
theorem QvZ{c:Cm}(t:Pk)(p:Option Addr)(n k:Nat)(h:RowZ W b (cmv c)):RowZ (Qe W b 11 (pkV t (.slice p n k))) b (cmv {c with pk:=t,bp:=p,bN:=n,bc:=k}):=by
 have r:=((((((h.set 11 (.int .u32 t.tu.a)).set 12 (.int .u32 t.tu.b)).set 13 (.int .u16 t.tu.c)).set 14 (.int .u16 t.tu.d)).set 15 (.int .u8 t.fl)).set 16 (.slice p n k));have e:(((((((cmv c).setIfInBounds 11 (.int .u32 t.tu.a)).setIfInBounds 12 (.int .u32 t.tu.b)).setIfInBounds 13 (.int .u16 t.tu.c)).setIfInBounds 14 (.int .u16 t.tu.d)).setIfInBounds 15 (.int .u8 t.fl)).setIfInBounds 16 (.slice p n k))=cmv {c with pk:=t,bp:=p,bN:=n,bc:=k}:=Kr
 rw [e]at r;have f:Qe W b 11 (pkV t (.slice p n k))=((((((W.setCell ⟨b,11,none⟩ (.int .u32 t.tu.a)).setCell ⟨b,12,none⟩ (.int .u32 t.tu.b)).setCell ⟨b,13,none⟩ (.int .u16 t.tu.c)).setCell ⟨b,14,none⟩ (.int .u16 t.tu.d)).setCell ⟨b,15,none⟩ (.int .u8 t.fl)).setCell ⟨b,16,none⟩ (.slice p n k)):=Kr
 rw [f];exact r
theorem Qtb{o:Nat}{cs:Array Value}(hs:o+11≤(Qc w B).size)(hz:Qs w B=(0,0))(hcs:cs.size=11)(ho:QK cs)
  (hx:ρ x= .pointer (some ⟨B,o,none⟩))(hy:ρ y= .agg cs):(execOp ρ ⟨dst,.store 77 x y,ty,pos,after,g⟩).run Tryz.prog w= .ok .skip (Qe w B o cs):=by
 have e:=QbK ρ dst x y ty pos after g w (by rw [hx];rfl) (by rw [hy];rfl) (by rw [hy];exact hcs) (by rw [hx];show Fits o 11 (Qc w B);unfold Fits;omega) (by rw [hx];exact hz) (by rw [hy];exact ho);rw [e,hx,hy];rfl
theorem Qtc{o:Nat}{cs:Array Value}(hs:o+6≤(Qc w B).size)(hz:Qs w B=(0,0))(hcs:cs.size=6)(ho:QK cs)
  (hx:ρ x= .pointer (some ⟨B,o,none⟩))(hy:ρ y= .agg cs):(execOp ρ ⟨dst,.store 81 x y,ty,pos,after,g⟩).run Tryz.prog w= .ok .skip (Qe w B o cs):=by
 have e:=JX ρ dst x y ty pos after g w (by rw [hx];rfl) (by rw [hy];rfl) (by rw [hy];exact hcs) (by rw [hx];show Fits o 6 (Qc w B);unfold Fits;omega) (by rw [hx];exact hz) (by rw [hy];exact ho);rw [e,hx,hy];rfl
theorem Qdt{i:Nat}{n:Int}{u:Value}(hc:w.cell? ⟨B,i,none⟩=some u)(hf:w.frozen? ⟨B,i,none⟩=false)
  (hx:ρ x= .pointer (some ⟨B,i,none⟩))(hy:ρ y= .int .u8 n):(execOp ρ ⟨dst,.store 5 x y,ty,pos,after,g⟩).run Tryz.prog w= .ok .skip (w.setCell ⟨B,i,none⟩ (.int .u8 n)):=by
 simp only [execOp,hx,hy];go_simp
theorem Qtd{C:Nat→Prop}{i:Nat}{a b:Value}(h0:w.cell? ⟨B,i,none⟩=some a)(h1:w.cell? ⟨B,i+1,none⟩=some b)(hl:Lt B w)(hC: ¬C B)
  (hx:ρ x= .pointer (some ⟨B,i,none⟩)): ∀w',Mv C w w'→(execOp ρ ⟨dst,.load 73 x,ty,pos,after,g⟩).run Tryz.prog w'= .ok (.value (.agg #[a,b])) w':=by
 intro w' c;have e:=Qf (c.same B hl hC);have h0:w'.cell? ⟨B,i,none⟩=some a:=by rw [Qa,e,←Qa];exact h0
 have h1:w'.cell? ⟨B,i+1,none⟩=some b:=by rw [Qa,e,←Qa];exact h1
 simp only [execOp,hx];go_simp
theorem QnM{tn:Int×Int}{id:Int}{nb:Bool}(hn:decide (tn=(2,id))=!nb)(hx:ρ x= .agg #[.int .u8 tn.1,.int .i64 tn.2])(hy:ρ y= .agg #[.int .u8 2,.int .i64 id])(w:World):
  (execOp ρ ⟨dst,.binOp .neq 73 x y 73,ty,pos,after,g⟩).run Tryz.prog w= .ok (.value (.bool nb)) w:=by
 obtain⟨a,b⟩:=tn;simp only [execOp,hx,hy];go_simp
 by_cases c:a=2<;>by_cases d:b=id<;>cases nb<;>simp_all
theorem Qte{C:Nat→Prop}{c:Cm}(h0:RowZ w B (cmv c))(hC: ¬C B){q:Operand}
  (hx:ρ q= .pointer (some ⟨B,11,none⟩)): ∀w',Mv C w w'→(execOp ρ ⟨dst,.load 81 q,ty,pos,after,g⟩).run Tryz.prog w'= .ok (.value (.agg (pkV c.pk (.slice c.bp c.bN c.bc)))) w':=by
 intro w' b;have a:=h0.mv b hC;have e:=Qaq ρ dst q ty pos after g w' (by rw [hx];rfl) (by rw [hx];show Fits 11 6 (Qc w' B);rw [a.r];unfold Fits;exact Nat.le_of_ble_eq_true rfl);rw [e,hx];show Result.ok (Next.value (Value.agg (QB (Qc w' B) 11 6))) w'=_;rw [a.r,QnD]
theorem QbS(w:World):
  (execOp ρ ⟨dst,.alloc 105,ty,pos,after,g⟩).run Tryz.prog w= .ok (.value (.pointer (some ⟨w.heap.size,0,none⟩))) (w.alloc (.cells #[.int .u8 0,.int .u8 0,.int .u8 0,.int .i64 0,.int .i64 0] 105)):=Kr
theorem RowZ.of_heap{cs:Array Value}{t:TypeId}(h:w.heap[b]?=some (.cells cs t)):RowZ w b cs:=
 ⟨by unfold Qc;rw [h],by unfold Qs;rw [h],(Array.getElem?_eq_some_iff.1 h).1⟩
theorem Qv0{C:Nat→Prop}{cs:Array Value}(h0:RowZ w B cs)(h6:cs.size=6)(hC: ¬C B){q:Operand}
  (hx:ρ q= .pointer (some ⟨B,0,none⟩)): ∀w',Mv C w w'→(execOp ρ ⟨dst,.load 96 q,ty,pos,after,g⟩).run Tryz.prog w'= .ok (.value (.agg cs)) w':=by
 intro w' b;have a:=h0.mv b hC;have e:=QcQ ρ dst q ty pos after g w' (by rw [hx];rfl) (by rw [hx];show Fits 0 6 (Qc w' B);rw [a.r];unfold Fits;omega);rw [e,hx];show Result.ok (Next.value (Value.agg (QB (Qc w' B) 0 6))) w'=_;rw [a.r,Q9 _ 6 h6]
theorem QnN{i:Nat}(hi:i<16)(ρ:Operand→Value)(dst:Option Tmp)(x y:Operand)(ty:TypeId)(pos:String)(after:Array Edge)(g:Option (Nat×Bool))(hx:ρ x= .pointer (some ⟨B,2,none⟩))(hy:ρ y= .int .i64 (i:Int))(w:World):
  (execOp ρ ⟨dst,.indexAddr 24 x y,ty,pos,after,g⟩).run Tryz.prog w= .ok (.value (.pointer (some ⟨B,2+i*4,none⟩))) w:=by
 simp only [execOp,hx,hy];go_simp;intro h;omega
theorem Qtf{i:Nat}{n:Int}{u:Value}(hc:w.cell? ⟨B,i,none⟩=some u)(hf:w.frozen? ⟨B,i,none⟩=false)
  (hx:ρ x= .pointer (some ⟨B,i,none⟩))(hy:ρ y= .int .i64 n):(execOp ρ ⟨dst,.store 3 x y,ty,pos,after,g⟩).run Tryz.prog w= .ok .skip (w.setCell ⟨B,i,none⟩ (.int .i64 n)):=by
 simp only [execOp,hx,hy];go_simp
theorem Qk8{i:Nat}{n:Bool}{u:Value}(hc:w.cell? ⟨B,i,none⟩=some u)(hf:w.frozen? ⟨B,i,none⟩=false)
  (hx:ρ x= .pointer (some ⟨B,i,none⟩))(hy:ρ y= .bool n):(execOp ρ ⟨dst,.store 4 x y,ty,pos,after,g⟩).run Tryz.prog w= .ok .skip (w.setCell ⟨B,i,none⟩ (.bool n)):=by
 simp only [execOp,hx,hy];go_simp
def QyW(bs:List Int)(W:World)(v:Value)(w':World):Prop:= ∃fr tn o q pl cq dr,v= .tuple #[.agg (wrV fr tn o (.slice q pl.length cq)),.int .u8 dr]∧Ext W w'∧((Qdb bs=none∧dr=13)∨(Qdb bs=some (fr,tn,o,pl)∧dr=0∧pl.length≤cq∧SlB w' q pl∧ ∀b off,q=some ⟨b,off,none⟩→W.heap.size≤b∧b<w'.heap.size))
def QyX(t:Pk):Bool:=bits .and .u8 t.fl 7==2
def inX(a:Ag)(fr:Int×Int)(o:Opt)(pl:List Int):Ru.Ac:=Ru.Qux (toR (a.md (ofT (pkI pl).tu).toNat)) o.ki (if fr.1=2 then fr.2 else-1) o.ge (QyX (pkI pl)) (okC a.xs (pkI pl).tu) (decide ((a.xs.length:Int)<32))
def inG(a:Ag)(now:Int):Bool:=agR a&&(decide (0≤now)&&decide (now≤1099511627776))
def inR(a:Ag)(bs:List Int)(now:Int):Int×List Co×List Ev×List (List Int):=
 if inG a now=false then(13,a.xs,[],[])
 else match Qdb bs with
  |none=>(13,a.xs,[],[])
  |some (fr,tn,o,pl)=>if tn≠(2,a.id)then(13,a.xs,[],[])else if Yw pl≠0 then(Yw pl,a.xs,[],[])else if ofT (pkI pl).tu≠o.bu then(14,a.xs,[],[])
   else Qae (inX a fr o pl) a ⟨fr,tn,o,none,0,0,pkI pl,none,0,0,now⟩ pl
theorem Qmj{bs:List Int}{fr tn:Int×Int}{o:Opt}{pl:List Int}(hr:ByR bs)(h:Qdb bs=some (fr,tn,o,pl)):ByR pl∧pl.length≤bs.length∧((0≤o.ki∧o.ki<256)∧(0≤o.bu∧o.bu<256)∧ZO o=true):=by
 unfold Qdb at h
 split at h
 ·rename_i h1
  split at h
  ·split at h
   ·simp only [Option.some.injEq,Prod.mk.injEq]at h;obtain⟨-,-,rfl,rfl⟩:=h;exact⟨(Yo hr).2,Qcz.2,Qiz (Yo hr).1 h1.2⟩
   ·cases h
  ·cases h
 ·cases h
theorem Qq1{pl:List Int}(hr:ByR pl):TuR (pkI pl).tu∧(0≤(pkI pl).fl∧(pkI pl).fl<256):=by
 unfold pkI
 split
 ·have a:ByR (hdI pl).pl:=by
   unfold hdI
   split
   ·exact(Yo hr).2
   ·intro z e;cases e
  have c:(0≤(hdI pl).sr∧(hdI pl).sr<4294967296)∧(0≤(hdI pl).ds∧(hdI pl).ds<4294967296):=by
   unfold hdI
   split
   ·have f:=Z2 hr 12;have g:=Z2 hr 14;have h:=Z2 hr 16;have i:=Z2 hr 18;unfold ipH;refine⟨⟨?_,?_⟩,?_,?_⟩<;>dsimp only<;>omega
   ·exact⟨⟨Dc,Dc⟩,Dc,Dc⟩
  generalize (hdI pl).pl=l at*;have b: ∀s d:Int,(0≤(tcI s d l).sp∧(tcI s d l).sp<65536)∧(0≤(tcI s d l).dp∧(tcI s d l).dp<65536)∧(0≤(tcI s d l).fl∧(tcI s d l).fl<256):=fun s d=>by
   unfold tcI
   split
   ·exact⟨Z2 a 0,Z2 a 2,QaI a 13⟩
   ·exact⟨⟨Dc,Dc⟩,⟨Dc,Dc⟩,Dc,Dc⟩
  exact⟨⟨c.1,c.2,(b _ _).1,(b _ _).2.1⟩,(b _ _).2.2⟩
 ·exact⟨⟨⟨Dc,Dc⟩,⟨Dc,Dc⟩,⟨Dc,Dc⟩,Dc,Dc⟩,Dc,Dc⟩
def Qq2(pl:List Int)(W:World)(v:Value)(w':World):Prop:= ∃p n k,v= .tuple #[.agg (pkV (pkI pl) (.slice p n k)),.int .u8 (Yw pl)]∧Ext W w'
theorem Qtg{q:Option Addr}{pl:List Int}{cq:Nat}(hs:SlB W q pl)(hr:ByR pl)(hl:pl.length≤1000)(hlc:pl.length≤cq)(hq: ∀b off,q=some ⟨b,off,none⟩→b<W.heap.size):Calls Tryz.prog 42 #[.slice q pl.length cq] W fun e w'=> ∃v,e= .returned v∧Qq2 pl W v w':=
 (Qij q pl cq W hs hr hl hlc hq).mono fun e w' ⟨vb,h1,h2,p,k,h3,_⟩=>⟨_,h1,p,(pkI pl).by_.length,k,by rw [h3],h2⟩
def Qv1(w:World)(a:Ag)(r:Int×List Co×List Ev×List (List Int))(e:Ending)(w':World):Prop:=
 ∃p c ep ec sp sc,e= .returned (.tuple #[.agg (agv {a with p:=p,xs:=r.2.1,c:=c}),.agg (dnv ⟨r.1,ep,r.2.2.1.length,ec,sp,r.2.2.2.length,sc⟩)])∧SlC w' p r.2.1∧SlE w' ep r.2.2.1∧SlBB w' sp r.2.2.2∧Ext w w'
def Qq3(ops:Array Oper):Prop:=Region.noSelect ops=true∧Qo ops 12 [0,1,2,3,4,5,6,7,8] 0=true∧Rd ops 12 511 [9]∧Qo ops 12 [10] 1023=true∧Rd ops 12 2047 [11]∧Rd ops 12 4095 []
theorem Qk9:Qq3 ((Tryz.f12.body.bind (Qh 17)).getD #[]):=⟨Kr,Kr,Rk,Kr,Rk,Rk⟩
def Qmk(ops:Array Oper):Prop:=Region.noSelect ops=true∧Qo ops 8 [0,1,2,3,4] 0=true∧Rd ops 8 31 [5,6]∧Rd ops 8 63 [6]∧Rd ops 8 127 [7]∧Rd ops 8 255 []
theorem Qi5:Qmk ((Tryz.f12.body.bind (Qh 20)).getD #[]):=⟨Kr,Kr,Rk,Rk,Rk,Rk⟩
def Qml(ops:Array Oper):Prop:=Region.noSelect ops=true∧Qo ops 8 [0,1,2,3,4] 0=true∧Rd ops 8 31 [5,6]∧Rd ops 8 95 [5]∧Rd ops 8 127 [7]∧Rd ops 8 255 []
theorem Qi6:Qml ((Tryz.f12.body.bind (Qh 20)).getD #[]):=⟨Kr,Kr,Rk,Rk,Rk,Rk⟩
def Qq4(ops:Array Oper):Prop:=Qmk ops∧Qml ops
theorem Qla:Qq4 ((Tryz.f12.body.bind (Qh 20)).getD #[]):=⟨Qi5,Qi6⟩
def Qq5(ops:Array Oper):Prop:=Region.noSelect ops=true∧Qo ops 10 [0,1,3,4] 0=true∧Rd ops 10 27 [2]∧Qo ops 10 [6] 31=true∧Rd ops 10 95 [5]∧Rd ops 10 127 [7]∧Qo ops 10 [8] 255=true∧Rd ops 10 511 [9]∧Rd ops 10 1023 []
theorem Qlb:Qq5 ((Tryz.f12.body.bind (Qh 19)).getD #[]):=⟨Kr,Kr,Rk,Kr,Rk,Rk,Kr,Rk,Rk⟩
def Qq6(ops:Array Oper):Prop:=Region.noSelect ops=true∧Qv ops 12 [0,1,2,3,4,5,6,7,8,9,10,11] 0=true∧Rd ops 12 4095 []
theorem Qlc:Qq6 ((Tryz.f12.body.bind (Qh 8)).getD #[]):=⟨Kr,Kr,Rk⟩
def Qq7(ops:Array Oper):Prop:=Region.noSelect ops=true∧Qv ops 12 [0,1,2,3,4,5,6,7,8] 0=true∧Rd ops 12 511 [9]∧Qv ops 12 [10,11] 1023=true∧Rd ops 12 4095 []
theorem Qld:Qq7 ((Tryz.f12.body.bind (Qh 8)).getD #[]):=⟨Kr,Kr,Rk,Kr,Rk⟩
theorem Qq8(a:Ag)(bs:List Int)(pp:Option Addr)(cp:Nat)(now:Int)(w:World)(hs:SlC w a.p a.xs)(hl:a.xs.length≤1000)(hr: ∀x∈a.xs,TuR x.t)(hk: ∀k,k<16→0≤(a.md k).kind)
  (hb:SlB w pp bs)(hB:ByR bs)(hlb:bs.length≤1000)(hcp:bs.length≤cp):
  Calls Tryz.prog 12 #[.agg (agv a),.slice pp bs.length cp,.int .i64 now] w (Qv1 w a (inR a bs now)):=by
 have q2:=Xh (fun W (hE:Ext w W)=>QcD a W (hs.ext hE) hl);have e1:=Xh (fun W (hE:Ext w W)=>YX a W (hs.ext hE) hl hr hk);have n4:=Xh (fun W (hE:Ext w W)=>QiA bs pp cp W (hb.ext hE) hB hlb hcp);have HK:=Xh hk;have j7:=Xh (And.intro hs hl);have j8:=Xh (And.intro hB hlb);obtain⟨r,er⟩: ∃r,inR a bs now=r:=⟨_,rfl⟩;rw [er];have e4:=Xh er;clear er hs hr hk hb hB
 go_enter Tryz.func12,Tryz.ntmps12
 go_upto_region 2 with(fail)
 obtain⟨W0,V⟩: ∃W0,((w.alloc (.cells (agv a) 27)).alloc (.cells (agv agz) 27)).alloc (.cells #[.int .u8 0,.slice none 0 0,.slice none 0 0] 42)=W0:=⟨_,rfl⟩;have E:Ext w W0:=by rw [←V];exact Ext.al (Ext.al Ea _) _
 have F:RowZ W0 w.heap.size (agv a):=by rw [←V];exact⟨by simp [go_sem],by simp [go_sem],by simp [go_sem,Lt]⟩
 have H:RowZ W0 (w.heap.size+1) (agv agz):=by rw [←V];exact⟨by simp [go_sem],by simp [go_sem],by simp [go_sem,Lt]⟩
 have y:RowZ W0 (w.heap.size+1+1) #[.int .u8 0,.slice none 0 0,.slice none 0 0]:=by rw [←V];exact⟨by simp [go_sem],by simp [go_sem],by simp [go_sem,Lt]⟩
 have i5:W0.heap.size=w.heap.size+3:=by rw [←V];simp
 rw [V];clear V;obtain⟨b3,e3⟩: ∃b,w.heap.size=b:=⟨_,rfl⟩;have a0:=Xh e3;rw [e3]at F H y i5⊢;clear e3;obtain⟨b6,e6⟩: ∃b,b3+1=b:=⟨_,rfl⟩;rw [e6]at H y⊢;obtain⟨b7,e7⟩: ∃b,b6+1=b:=⟨_,rfl⟩;rw [e7]at y⊢;refine Qp 0 rfl ?_
 go_upto_region 4 with(fail)
 obtain⟨P,e9⟩: ∃b,b3+3=b:=⟨_,rfl⟩;obtain⟨b10,u4⟩: ∃b,P+1=b:=⟨_,rfl⟩;rw [e9,u4];rw [e9]at i5;obtain⟨V1,T⟩: ∃V1,W0.alloc (.cells #[.int .u8 0,.int .i64 0,.int .i64 0,.bool false,.bool false,.bool false] 96)=V1:=⟨_,rfl⟩;have A:RowZ V1 P #[.int .u8 0,.int .i64 0,.int .i64 0,.bool false,.bool false,.bool false]:=by rw [←T,←i5];exact RowZ.new _ _ _
 have g1:Ext W0 V1:=by rw [←T];exact Ea
 have z1:V1.heap.size=b10:=by rw [←T];simp;omega
 rw [T];obtain⟨V2,h2⟩: ∃V2,Qe V1 P 0 #[.int .u8 0,.int .i64 (-1),.int .i64 0,.bool false,.bool false,.bool false]=V2:=⟨_,rfl⟩;have A:RowZ V2 P #[.int .u8 0,.int .i64 (-1),.int .i64 0,.bool false,.bool false,.bool false]:=by rw [←h2];exact A.all _ rfl
 have g2:Ext W0 V2:=by rw [←h2];exact Mv.ext_of (C:=fun q=>q=P) g1 (Mv.sa _ rfl (Mv.refl _ _)) (fun q e=>by omega)
 have z2:V2.heap.size=b10:=by rw [←h2,Qb2];exact z1
 rw [h2];obtain⟨V3,h3⟩: ∃V3,V2.alloc (.cells (cmv (cm0 0)) 98)=V3:=⟨_,rfl⟩;have u:RowZ V3 b10 (cmv (cm0 0)):=by rw [←h3,←z2];exact RowZ.new _ _ _
 have Y:Ext V2 V3:=by rw [←h3];exact Ea
 have A:=A.ext Y;have j9:=h3;unfold cm0 cmv at j9;rw [j9];obtain⟨V4,h4⟩: ∃V4,Qe V3 b10 0 (cmv (cm0 now))=V4:=⟨_,rfl⟩;have u:RowZ V4 b10 (cmv (cm0 now)):=by rw [←h4];exact u.all _ rfl
 have m4:Mv (fun q=>q=b10) V3 V4:=by rw [←h4];exact Mv.sa _ rfl (Mv.refl _ _)
 have A:=A.mv m4 Om;have g4:Ext W0 V4:=Mv.ext_of (g2.tr Y) m4 (fun q e=>by omega);have k0:=h4;unfold cm0 cmv at k0;rw [k0];have F:=F.ext g4;have H:=H.ext g4;have y:=y.ext g4;have E4:=E.tr g4;have q3:b10<V4.heap.size:=u.l;clear T h2 h3 h4 j9 k0 g1 g2 Y g4 m4 z1 z2 E i5;have q4:=F.r;have HH:=Xh (And.intro F (And.intro H (And.intro y (And.intro A (And.intro u E4)))));clear F H y A u
 go_upto_region 5 with(go_at_call 25;(refine(q2.out _ E4).mono ?_);rintro e w1 ⟨p',c',rfl,o1⟩;have s1:=o1.own;have g1:=o1.ext;clear o1;have q5:=(HH.out.2.1.ext g1).r;have q8:=(HH.out.2.1.ext g1).z)
 obtain⟨o1,eo⟩: ∃o1,({a with p:=p',c:=c'}:Ag)=o1:=⟨_,rfl⟩;have b1:=Xh eo;obtain⟨W5,h5⟩: ∃W5,Qe w1 b6 0 (agv {a with p:=p',c:=c'})=W5:=⟨_,rfl⟩;have m5:Mv (fun q=>q=b6) w1 W5:=by rw [←h5];exact Mv.sa _ rfl (Mv.refl _ _)
 obtain⟨F,H,y,A,u,-⟩:=HH.out;have F:=(F.ext g1).mv m5 Om;have H:RowZ W5 b6 (agv o1):=by rw [←h5,←eo];exact(H.ext g1).all _ (by rw [Qg,Qg])
 have y:=(y.ext g1).mv m5 Om;have A:=(A.ext g1).mv m5 Om;have u:=(u.ext g1).mv m5 Om;have I:SlC W5 p' a.xs:=by
  obtain⟨p,c,e,-,s⟩:=SlC.own (Qw s1 m5 (fun k hk e=>by omega))
  cases e;exact s
 have U: ∀b G,p'=some ⟨b,G,none⟩→b10<b∧b<W5.heap.size:=fun b G e=>by
  have T:=Qi s1 b (by rw [e];rfl);have h2:=QbW s1 b (by rw [e];rfl);have h3:=m5.size;exact⟨Om,Om⟩
 have E5:Ext w W5:=Mv.ext_of (E4.tr g1) m5 (fun q e=>by have:=a0.out;omega);rw [h5,eo];clear h5 eo m5 s1 g1 q5 q8 HH q4 E4 q3;have d0:W5.cell? ⟨b7,0,none⟩=some (.int .u8 0):=y.cell 0 (by show 0<3;omega);have f0:W5.frozen? ⟨b7,0,none⟩=false:=y.frz 0
 go_upto_region 6 with(fail)
 obtain⟨W6,h6⟩: ∃W6,W5.setCell ⟨b7,0,none⟩ (.int .u8 13)=W6:=⟨_,rfl⟩;have m6:Mv (fun q=>q=b7) W5 W6:=by rw [←h6];exact Mv.st _ (.inl rfl) (Mv.refl _ _)
 have y:RowZ W6 b7 #[.int .u8 13,.slice none 0 0,.slice none 0 0]:=by rw [←h6];exact y.set 0 _
 have F:=F.mv m6 Om;have H:=H.mv m6 Om;have A:=A.mv m6 Om;have u:=u.mv m6 Om;have I:=I.mvg m6 (fun b G e=>by have:=U b G e;omega);have E6:Ext w W6:=Mv.ext_of E5 m6 (fun q e=>by have:=a0.out;omega);have U: ∀b G,p'=some ⟨b,G,none⟩→b10<b∧b<W6.heap.size:=fun b G e=>by have T:=U b G e;have h3:=m6.size;exact⟨T.1,Om⟩
 rw [h6];clear h6 m6 d0 f0 E5;have i6:=F.r;have HH:=Xh (And.intro F (And.intro H (And.intro y (And.intro A (And.intro u (And.intro I U))))));clear F H y A u I U
 cases hG:inG a now
 ·have HG:inR a bs now=(13,a.xs,[],[]):=by unfold inR;rw [hG,if_pos rfl]
  have HG:=Xh HG
  cases hA:agR a
  ·rw [hA]at e1;have HA:=Xh hA;clear hA hG
   go_wp2_with (go_at_call 22;(refine(e1.out _ E6).mono ?_);rintro e w3 ⟨rfl,Y⟩)
   have S:=Xh (show RowZ w3 b6 (agv o1)∧RowZ w3 b7 (dnv ⟨13,none,0,0,none,0,0⟩)∧SlC w3 p' a.xs∧Ext w w3 from⟨HH.out.2.1.ext Y,HH.out.2.2.1.ext Y,HH.out.2.2.2.2.2.1.ext Y,E6.tr Y⟩);clear i6;go_step3;refine⟨rfl,?_⟩
   go_upto_region 23 with(fail)
   refine JH (o:=o1) (d:=⟨13,none,0,0,none,0,0⟩) (b6:=b6) (b7:=b7) Kr Kr Kr S.out.1 S.out.2.1 ?_;intro a' w' e' r6 r7 q6 q7 hd;go_wp2;refine bodyPost_ret (ZL rfl _ _ b6 b7 q6 q7 (Yp r6.r) (Qad r7.r rfl)) hd ?_;rw [←e4.out,HG.out,←b1.out];exact⟨p',c',none,0,none,0,rfl,S.out.2.2.1.ext e',SlE.nil _ none,SlBB.nil _ none,S.out.2.2.2.tr e'⟩
  ·rw [hA]at e1;have q9:now<0∨(0≤now∧1099511627776<now):=by
    unfold inG at hG;rw [hA]at hG;simp only [Bool.true_and,Bool.and_eq_false_iff,decide_eq_false_iff_not]at hG;omega
   clear hA hG;rcases q9 with h0|⟨h0,T⟩
   ·have k1:decide (now<0)=true:=decide_eq_true h0;clear h0
    go_wp2_with (go_at_call 22;(refine(e1.out _ E6).mono ?_);rintro e w3 ⟨rfl,Y⟩)
    have S:=Xh (show RowZ w3 b6 (agv o1)∧RowZ w3 b7 (dnv ⟨13,none,0,0,none,0,0⟩)∧SlC w3 p' a.xs∧Ext w w3 from⟨HH.out.2.1.ext Y,HH.out.2.2.1.ext Y,HH.out.2.2.2.2.2.1.ext Y,E6.tr Y⟩);clear i6;go_step3;refine⟨rfl,?_⟩
    go_upto_region 23 with(fail)
    refine JH (o:=o1) (d:=⟨13,none,0,0,none,0,0⟩) (b6:=b6) (b7:=b7) Kr Kr Kr S.out.1 S.out.2.1 ?_;intro a' w' e' r6 r7 q6 q7 hd;go_wp2;refine bodyPost_ret (ZL rfl _ _ b6 b7 q6 q7 (Yp r6.r) (Qad r7.r rfl)) hd ?_;rw [←e4.out,HG.out,←b1.out];exact⟨p',c',none,0,none,0,rfl,S.out.2.2.1.ext e',SlE.nil _ none,SlBB.nil _ none,S.out.2.2.2.tr e'⟩
   ·have k1:decide (now<0)=false:=decide_eq_false Om;have n5:decide (1099511627776<now)=true:=decide_eq_true T;clear h0 T
    go_wp2_with (go_at_call 22;(refine(e1.out _ E6).mono ?_);rintro e w3 ⟨rfl,Y⟩)
    have S:=Xh (show RowZ w3 b6 (agv o1)∧RowZ w3 b7 (dnv ⟨13,none,0,0,none,0,0⟩)∧SlC w3 p' a.xs∧Ext w w3 from⟨HH.out.2.1.ext Y,HH.out.2.2.1.ext Y,HH.out.2.2.2.2.2.1.ext Y,E6.tr Y⟩);clear i6;go_step3;refine⟨rfl,?_⟩
    go_upto_region 23 with(fail)
    refine JH (o:=o1) (d:=⟨13,none,0,0,none,0,0⟩) (b6:=b6) (b7:=b7) Kr Kr Kr S.out.1 S.out.2.1 ?_;intro a' w' e' r6 r7 q6 q7 hd;go_wp2;refine bodyPost_ret (ZL rfl _ _ b6 b7 q6 q7 (Yp r6.r) (Qad r7.r rfl)) hd ?_;rw [←e4.out,HG.out,←b1.out];exact⟨p',c',none,0,none,0,rfl,S.out.2.2.1.ext e',SlE.nil _ none,SlBB.nil _ none,S.out.2.2.2.tr e'⟩
 have hA:agR a=true:=by unfold inG at hG;simp only [Bool.and_eq_true]at hG;exact hG.1
 rw [hA]at e1;have k1:decide (now<0)=false:=by unfold inG at hG;simp only [Bool.and_eq_true,decide_eq_true_eq]at hG;exact decide_eq_false Om
 have n5:decide (1099511627776<now)=false:=by unfold inG at hG;simp only [Bool.and_eq_true,decide_eq_true_eq]at hG;exact decide_eq_false Om
 have f2:=Xh (And.intro hA hG);clear hA hG
 go_upto_region 7 with(go_at_call 22;(refine(e1.out _ E6).mono ?_);rintro e w3 ⟨rfl,Y⟩)
 have r0:Calls Tryz.prog 40 #[.slice pp bs.length cp] w3 fun e w'=> ∃v,e= .returned v∧QyW bs w3 v w':=(n4.out _ (E6.tr Y)).mono fun e w' h=>by
  rcases h with⟨T,h2,h3⟩|⟨fr,tn,o,pl,vp,T,h2,h3,q,cq,h4,h5,h6,h7⟩
  ·exact⟨_,h2,(0,0),(0,0),⟨0,0,0,0,0,0⟩,none,[],0,13,rfl,h3,.inl ⟨T,rfl⟩⟩
  ·exact⟨_,h2,fr,tn,o,q,pl,cq,0,by rw [h4],h3,.inr ⟨T,rfl,h5,h6,h7⟩⟩
 obtain⟨F,H,y,A,u,I,U⟩:=HH.out;refine wp_region_lit ?_;refine listV (v:= .slice pp bs.length cp) (w':=w3) rfl Kr ?_;refine JS (f:=40) (args:=#[.slice pp bs.length cp]) rfl Kr r0 ?_;rintro v8 w8 ⟨fr,tn,o,q,pl,cq,Z,rfl,g8,j⟩;have e5:=Y.tr g8;have F:=F.ext e5;have H:=H.ext e5;have y:=y.ext e5;have A:=A.ext e5;have u:=u.ext e5;have I:=I.ext e5;refine listV (v:= .tuple #[.agg (wrV fr tn o (.slice q pl.length cq)),.int .u8 Z]) (w':=w8) rfl Kr ?_;refine listV (v:= .agg (wrV fr tn o (.slice q pl.length cq))) (w':=w8) rfl Kr ?_;refine listV (v:= .int .u8 Z) (w':=w8) rfl Kr ?_;refine listV (v:= .pointer (some ⟨b10,0,none⟩)) (w':=w8) rfl Kr ?_;refine Zj rfl (Qtb (B:=b10) (o:=0) (cs:=wrV fr tn o (.slice q pl.length cq)) (by rw [u.r];show 0+11≤18;omega) u.z rfl (by unfold wrV;simp [go_sem]) Kr Kr) ?_;obtain⟨W8,h8⟩: ∃W8,Qe w8 b10 0 (wrV fr tn o (.slice q pl.length cq))=W8:=⟨_,rfl⟩;have m8:Mv (fun q=>q=b10) w8 W8:=by rw [←h8];exact Mv.sa _ rfl (Mv.refl _ _)
 obtain⟨c1,l4⟩: ∃c1,({cm0 now with fr:=fr,tn:=tn,o:=o,ip:=q,iN:=pl.length,ic:=cq}:Cm)=c1:=⟨_,rfl⟩;have u:RowZ W8 b10 (cmv c1):=by rw [←h8,←l4];exact QvY fr tn o q pl.length cq u
 have F:=F.mv m8 Om;have H:=H.mv m8 Om;have y:=y.mv m8 Om;have A:=A.mv m8 Om;have I:=I.mvg m8 (fun b G e=>by have:=U b G e;omega);rw [h8];refine listV (v:= .pointer (some ⟨b7,0,none⟩)) (w':=W8) rfl Kr ?_;refine Zj rfl (Qdt (B:=b7) (i:=0) (n:=Z) (y.cell 0 (by show 0<3;omega)) (y.frz 0) Kr Kr) ?_;refine wpList_nil ?_;obtain⟨W9,h9⟩: ∃W9,W8.setCell ⟨b7,0,none⟩ (.int .u8 Z)=W9:=⟨_,rfl⟩;have m9:Mv (fun q=>q=b7) W8 W9:=by rw [←h9];exact Mv.st _ (.inl rfl) (Mv.refl _ _)
 have y:RowZ W9 b7 #[.int .u8 Z,.slice none 0 0,.slice none 0 0]:=by rw [←h9];exact y.set 0 _
 have F:=F.mv m9 Om;have H:=H.mv m9 Om;have A:=A.mv m9 Om;have u:=u.mv m9 Om;have I:=I.mvg m9 (fun b G e=>by have:=U b G e;omega);rw [h9];have r1:W6.heap.size≤w3.heap.size:=Y.size;have r2:w8.heap.size≤W9.heap.size:=Xt m8.size m9.size;have n6:Z=0→SlB W9 q pl∧(∀b G,q=some ⟨b,G,none⟩→b10<b)∧(∀b G,q=some ⟨b,G,none⟩→b<W9.heap.size):=fun h=>by
  rcases j with⟨-,T⟩|⟨-,-,-,T,h2⟩
  ·exfalso;omega
  ·have v1:b10<w3.heap.size:=by have:=HH.out.2.2.2.2.1.l;unfold Lt at this;omega
   have k2: ∀b G,q=some ⟨b,G,none⟩→b10<b:=fun b G e=>by have:=h2 b G e;omega
   exact⟨(T.mvg m8 (fun b G e f=>by have:=k2 b G e;omega)).mvg m9 (fun b G e f=>by have:=k2 b G e;omega),k2,fun b G e=>by have:=(h2 b G e).2;omega⟩
 have K:Ext w W9:=Mv.ext_of (Mv.ext_of (E6.tr e5) m8 (fun q e=>by have:=a0.out;omega)) m9 (fun q e=>by have:=a0.out;omega);have U: ∀b G,p'=some ⟨b,G,none⟩→b10<b∧b<W9.heap.size:=fun b G e=>by have T:=U b G e;have:=g8.size;exact⟨T.1,Om⟩
 have c7:=Xh l4;clear h8 h9 m8 m9 g8 e5 l4 HH E6 r1 r2 e1 n4 i6 k1 n5;rcases j with⟨hN,rfl⟩|⟨hN,rfl,hcq,-,-⟩
 ·have HG:inR a bs now=(13,a.xs,[],[]):=by unfold inR;rw [f2.out.2,if_neg Dc,hN]
  have HG:=Xh HG
  go_upto_region 8 with(fail)
  refine QO (fun _=>False) Kr ?_;obtain⟨WA,V⟩: ∃Wdr,World.drew W9=Wdr:=⟨_,rfl⟩;have O:Ext W9 WA:=by rw [←V];exact Ext.dr (Ext.rf _)
  rw [V];clear V;have K:=K.tr O;have F:=F.ext O;have H:=H.ext O;have y:=y.ext O;have A:=A.ext O;have u:=u.ext O;have I:=I.ext O;refine QaH (N:=12) (R:=Qq6) (E:=((Tryz.f12.body.bind (Qh 8)).getD #[])) Kr Qlc Kr fun D=> ?_;have j:=D.2.1;refine tMk 1 (.pointer (some ⟨b7,0,none⟩)) D.1 j rfl fun j=>tM 3 (.int .u8 13) D.1 j rfl (Yv (C:=fun _=>False) (y.cell 0 (by show 0<3;omega)) y.l (fun h=>h) Kr) fun j=>tMk 7 (.bool true) D.1 j rfl fun j=>tMk 15 (.bool true) D.1 j rfl fun j=>tMU 31 D.1 j rfl fun j=>tMU 63 D.1 j rfl fun j=>tMU 127 D.1 j rfl fun j=>tMU 255 D.1 j rfl fun j=>tMU 511 D.1 j rfl fun j=>tMU 1023 D.1 j rfl fun j=>tMU 2047 D.1 j rfl fun j=>tMk 4095 (.bool true) D.1 j rfl fun j=> ?_;refine doneK D.2.2 ?_;clear D j;go_simp;have d0:=y.cell 0 (by show 0<3;omega);have f0:=y.frz 0
  go_upto_region 9 with(fail)
  have k3:=y;refine wp_region_lit ?_;refine listV (v:= .pointer (some ⟨b7,0,none⟩)) (w':=WA) rfl Kr ?_;refine Zj rfl (Qdt (B:=b7) (i:=0) (n:=13) (y.cell 0 (by show 0<3;omega)) (y.frz 0) Kr Kr) ?_;refine wpList_nil ?_;obtain⟨a3,d4⟩: ∃a3,WA.setCell ⟨b7,0,none⟩ (.int .u8 13)=a3:=⟨_,rfl⟩;have c8:Mv (fun q=>q=b7) WA a3:=by rw [←d4];exact Mv.st _ (.inl rfl) (Mv.refl _ _)
  have S:=Xh (show RowZ a3 b6 (agv o1)∧RowZ a3 b7 (dnv ⟨13,none,0,0,none,0,0⟩)∧SlC a3 p' a.xs∧Ext w a3 from⟨H.mv c8 Om,by rw [←d4];exact y.set 0 _,I.mvg c8 (fun b G e=>by have:=U b G e;omega),Mv.ext_of K c8 (fun q e=>by have:=a0.out;omega)⟩);rw [d4];clear d4 c8;clear k3 F H y A u I K U d0 f0;go_simp;go_wp2;go_step3;refine⟨rfl,?_⟩
  go_upto_region 23 with(fail)
  refine JH (o:=o1) (d:=⟨13,none,0,0,none,0,0⟩) (b6:=b6) (b7:=b7) Kr Kr Kr S.out.1 S.out.2.1 ?_;intro a' w' e' r6 r7 q6 q7 hd;go_wp2;refine bodyPost_ret (ZL rfl _ _ b6 b7 q6 q7 (Yp r6.r) (Qad r7.r rfl)) hd ?_;rw [←e4.out,HG.out,←b1.out];exact⟨p',c',none,0,none,0,rfl,S.out.2.2.1.ext e',SlE.nil _ none,SlBB.nil _ none,S.out.2.2.2.tr e'⟩
 obtain⟨nb,i3⟩: ∃nb:Bool,decide (tn=(2,a.id))=!nb:=⟨!decide (tn=(2,a.id)),by simp⟩;obtain⟨L,b4,l5⟩:=n6 rfl;obtain⟨u5,p5⟩: ∃n,W9.heap.size=n:=⟨_,rfl⟩;rw [p5]at l5 U;have Q:u5≤W9.heap.size:=by omega
 clear p5 n6
 go_upto_region 8 with(fail)
 refine QO (fun _=>False) Kr ?_;obtain⟨WA,V⟩: ∃Wdr,World.drew W9=Wdr:=⟨_,rfl⟩;have O:Ext W9 WA:=by rw [←V];exact Ext.dr (Ext.rf _)
 rw [V];clear V;have K:=K.tr O;have F:=F.ext O;have H:=H.ext O;have y:=y.ext O;have A:=A.ext O;have u:=u.ext O;have I:=I.ext O;have L:=L.ext O;have Q:=Xt Q O.size;have n7:WA.cell? ⟨b10,2,none⟩=some (.int .u8 tn.1):=by have:=u.cell 2 (by show 2<18;omega);rw [this,←c7.out];rfl
 have n8:WA.cell? ⟨b10,2+1,none⟩=some (.int .i64 tn.2):=by have:=u.cell 3 (by show 3<18;omega);rw [this,←c7.out];rfl
 refine QaH (N:=12) (R:=Qq7) (E:=((Tryz.f12.body.bind (Qh 8)).getD #[])) Kr Qld Kr fun D=> ?_;have j:=D.2.1;refine tMk 1 (.pointer (some ⟨b7,0,none⟩)) D.1 j rfl fun j=>tM 3 (.int .u8 0) D.1 j rfl (Yv (C:=fun _=>False) (y.cell 0 (by show 0<3;omega)) y.l (fun h=>h) Kr) fun j=>tMk 7 (.bool false) D.1 j rfl fun j=>tMk 15 (.bool false) D.1 j rfl fun j=>tMk 31 (.pointer (some ⟨b10,0,none⟩)) D.1 j rfl fun j=>tMk 63 (.pointer (some ⟨b10,2,none⟩)) D.1 j rfl fun j=>tM 127 (.agg #[.int .u8 tn.1,.int .i64 tn.2]) D.1 j rfl (Qtd (C:=fun _=>False) n7 n8 u.l (fun h=>h) Kr) fun j=>tMk 255 (.pointer (some ⟨b3,0,none⟩)) D.1 j rfl fun j=>tM 511 (.int .i64 a.id) D.1 j rfl (Q0 (C:=fun _=>False) (ZQ F.r) F.l (fun h=>h) Kr) fun j=> ?_;refine sM 1023 (fun v _=>v= .agg #[.int .u8 2,.int .i64 a.id]) D.2.2.1 rfl (ZC (Qdc a.id WA)) ?_;rintro _ f1 d5 rfl;have K:=K.tr d5;have F:=F.ext d5;have H:=H.ext d5;have y:=y.ext d5;have A:=A.ext d5;have u:=u.ext d5;have I:=I.ext d5;have L:=L.ext d5;have j:=D.2.2.2.1;refine tM 2047 (.bool nb) D.1 j rfl (fun w' _=>QnM i3 Kr Kr w') fun j=>tMk 4095 (.bool nb) D.1 j rfl fun j=> ?_;refine doneK D.2.2.2.2 ?_;clear D j n7 n8;have Q:=Xt Q d5.size
 cases nb
 ·have g7:tn=(2,a.id):=by simpa using i3
  have k4:=Xh g7;clear g7 i3;go_simp;have b2:=Xh (Qmj j8.out.1 hN);have HN:=Xh hN
  go_upto_region 10 with(fail)
  have n9:Calls Tryz.prog 42 #[.slice q pl.length cq] f1 fun e w'=> ∃v,e= .returned v∧Qq2 pl f1 v w':=by
   refine Qtg L b2.out.1 (by have:=b2.out.2.1;have:=j8.out.2;omega) hcq ?_;exact fun b G e=>by have:=l5 b G e;omega
  have o0:f1.cell? ⟨b10,10,none⟩=some (.slice q pl.length cq):=by have:=u.cell 10 (by show 10<18;omega);rw [this,←c7.out];rfl
  refine wp_region_lit ?_;refine listV (v:= .pointer (some ⟨b10,0,none⟩)) (w':=f1) rfl Kr ?_;refine listV (v:= .pointer (some ⟨b10,10,none⟩)) (w':=f1) rfl Kr ?_;refine listV rfl (JY (C:=fun _=>False) o0 u.l (fun h=>h) Kr _ (Mv.refl _ _)) ?_;refine JS (f:=42) (args:=#[.slice q pl.length cq]) rfl Kr n9 ?_;rintro v7 f7 ⟨pb,nb,kb,rfl,b5⟩;have K:=K.tr b5;have F:=F.ext b5;have H:=H.ext b5;have y:=y.ext b5;have A:=A.ext b5;have u:=u.ext b5;have I:=I.ext b5;have L:=L.ext b5;have Q:=Xt Q b5.size;obtain⟨k,hk⟩: ∃k,pkI pl=k:=⟨_,rfl⟩;obtain⟨Z,l6⟩: ∃Z,Yw pl=Z:=⟨_,rfl⟩;have e8:=Xh (And.intro hk l6);rw [hk,l6];clear hk l6;refine listV (v:= .tuple #[.agg (pkV k (.slice pb nb kb)),.int .u8 Z]) (w':=f7) rfl Kr ?_;refine listV (v:= .agg (pkV k (.slice pb nb kb))) (w':=f7) rfl Kr ?_;refine listV (v:= .int .u8 Z) (w':=f7) rfl Kr ?_;refine listV (v:= .pointer (some ⟨b10,11,none⟩)) (w':=f7) rfl Kr ?_;refine Zj rfl (Qtc (B:=b10) (o:=11) (cs:=pkV k (.slice pb nb kb)) (by rw [u.r];show 11+6≤18;omega) u.z rfl (by unfold pkV;simp [go_sem]) Kr Kr) ?_;obtain⟨f4,a4⟩: ∃f4,Qe f7 b10 11 (pkV k (.slice pb nb kb))=f4:=⟨_,rfl⟩;have c9:Mv (fun q=>q=b10) f7 f4:=by rw [←a4];exact Mv.sa _ rfl (Mv.refl _ _)
  obtain⟨J,l7⟩: ∃J,({c1 with pk:=k,bp:=pb,bN:=nb,bc:=kb}:Cm)=J:=⟨_,rfl⟩;have u:RowZ f4 b10 (cmv J):=by rw [←a4,←l7];exact QvZ k pb nb kb u
  have F:=F.mv c9 Om;have H:=H.mv c9 Om;have y:=y.mv c9 Om;have A:=A.mv c9 Om;have I:=I.mvg c9 (fun b G e=>by have:=U b G e;omega);have L:=L.mvg c9 (fun b G e=>by have:=b4 b G e;omega);rw [a4];refine listV (v:= .pointer (some ⟨b7,0,none⟩)) (w':=f4) rfl Kr ?_;refine Zj rfl (Qdt (B:=b7) (i:=0) (n:=Z) (y.cell 0 (by show 0<3;omega)) (y.frz 0) Kr Kr) ?_;refine wpList_nil ?_;obtain⟨a7,j0⟩: ∃a7,f4.setCell ⟨b7,0,none⟩ (.int .u8 Z)=a7:=⟨_,rfl⟩;have d1:Mv (fun q=>q=b7) f4 a7:=by rw [←j0];exact Mv.st _ (.inl rfl) (Mv.refl _ _)
  have y:RowZ a7 b7 #[.int .u8 Z,.slice none 0 0,.slice none 0 0]:=by rw [←j0];exact y.set 0 _
  have F:=F.mv d1 Om;have H:=H.mv d1 Om;have A:=A.mv d1 Om;have u:=u.mv d1 Om;have I:=I.mvg d1 (fun b G e=>by have:=U b G e;omega);have L:=L.mvg d1 (fun b G e=>by have:=b4 b G e;omega);have Q:=Xt (Xt Q c9.size) d1.size;have K:=Mv.ext_of (Mv.ext_of K c9 (fun q e=>by have:=a0.out;omega)) d1 (fun q e=>by have:=a0.out;omega);have f3:=Xh l7;rw [j0];clear a4 j0 c9 d1 b5 l7 o0 n9;have d0:a7.cell? ⟨b7,0,none⟩=some (.int .u8 Z):=y.cell 0 (by show 0<3;omega)
  cases i1:decide (Z=0)
  ·have o2:(Z==0)=false:=by simpa using i1
   have HG:inR a bs now=(Z,a.xs,[],[]):=by
    have g9:Z≠0:=by simpa using i1
    unfold inR;rw [f2.out.2,if_neg Dc,HN.out];show(if tn≠(2,a.id)then _ else if Yw pl≠0 then _ else _)=_;rw [if_neg (by rw [k4.out];exact fun h=>h rfl),e8.out.2,if_pos g9]
   have HG:=Xh HG;have S:=Xh (show RowZ a7 b6 (agv o1)∧RowZ a7 b7 (dnv ⟨Z,none,0,0,none,0,0⟩)∧SlC a7 p' a.xs∧Ext w a7 from⟨H,y,I,K⟩);clear F H y A u I L K U i1;go_simp;go_wp2;go_step3;refine⟨rfl,?_⟩
   go_upto_region 23 with(fail)
   refine JH (o:=o1) (d:=⟨Z,none,0,0,none,0,0⟩) (b6:=b6) (b7:=b7) Kr Kr Kr S.out.1 S.out.2.1 ?_;intro a' w' e' r6 r7 q6 q7 hd;go_wp2;refine bodyPost_ret (ZL rfl _ _ b6 b7 q6 q7 (Yp r6.r) (Qad r7.r rfl)) hd ?_;rw [←e4.out,HG.out,←b1.out];exact⟨p',c',none,0,none,0,rfl,S.out.2.2.1.ext e',SlE.nil _ none,SlBB.nil _ none,S.out.2.2.2.tr e'⟩
  ·have o2:Z=0:=by simpa using i1
   subst o2;clear i1;go_simp;obtain⟨l8,l9⟩:=Qq1 b2.out.1;rw [e8.out.1]at l8 l9;have r3:=Xh (And.intro l8 l9);have f5:J.pk=k:=by rw [←f3.out]
   have o3:J.o=o:=by rw [←f3.out,←c7.out]
   have o4:J.fr=fr:=by rw [←f3.out,←c7.out]
   have o5:J.now=now:=by rw [←f3.out,←c7.out];rfl
   have d2:=Xh (And.intro f5 (And.intro o3 (And.intro o4 o5)));have t0:a7.cell? ⟨b10,11,none⟩=some (.int .u32 k.tu.a):=by rw [←f5];exact u.cell 11 (by show 11<18;omega)
   have t1:a7.cell? ⟨b10,12,none⟩=some (.int .u32 k.tu.b):=by rw [←f5];exact u.cell 12 (by show 12<18;omega)
   have t2:a7.cell? ⟨b10,13,none⟩=some (.int .u16 k.tu.c):=by rw [←f5];exact u.cell 13 (by show 13<18;omega)
   have t3:a7.cell? ⟨b10,14,none⟩=some (.int .u16 k.tu.d):=by rw [←f5];exact u.cell 14 (by show 14<18;omega)
   clear l8 l9 f5 o3 o4 o5;have o6:=Xh (And.intro F (And.intro H (And.intro y (And.intro A (And.intro u (And.intro I (And.intro L K)))))));clear F H y A u I L K;have o7:=Xh (fun W=>QgC k.tu r3.out.1 W);have r4:=QbY k.tu
   go_upto_region 13 with(go_at_call 43;(refine(o7.out _).mono ?_);rintro e m0 ⟨rfl,b8⟩)
   obtain⟨F,H,y,A,u,I,L,K⟩:=o6.out;have F:=F.ext b8;have H:=H.ext b8;have y:=y.ext b8;have A:=A.ext b8;have u:=u.ext b8;have I:=I.ext b8;have L:=L.ext b8;have K:=K.tr b8;have Q:=Xt Q b8.size;refine wp_region_lit ?_;refine listV (v:= .pointer (some ⟨b7,0,none⟩)) (w':=m0) rfl Kr ?_;refine Zj rfl (Qdt (B:=b7) (i:=0) (n:=14) (y.cell 0 (by show 0<3;omega)) (y.frz 0) Kr Kr) ?_;refine wpList_nil ?_;obtain⟨a5,j1⟩: ∃a5,m0.setCell ⟨b7,0,none⟩ (.int .u8 14)=a5:=⟨_,rfl⟩;have d3:Mv (fun q=>q=b7) m0 a5:=by rw [←j1];exact Mv.st _ (.inl rfl) (Mv.refl _ _)
   have y:RowZ a5 b7 #[.int .u8 14,.slice none 0 0,.slice none 0 0]:=by rw [←j1];exact y.set 0 _
   have F:=F.mv d3 Om;have H:=H.mv d3 Om;have A:=A.mv d3 Om;have u:=u.mv d3 Om;have I:=I.mvg d3 (fun b G e=>by have:=U b G e;omega);have L:=L.mvg d3 (fun b G e=>by have:=b4 b G e;omega);have Q:=Xt Q d3.size;have K:=Mv.ext_of K d3 (fun q e=>by have:=a0.out;omega);rw [j1];clear j1 d3 b8 t0 t1 t2 t3 d0 o6 o7;have cb:a5.cell? ⟨b10,5,none⟩=some (.int .u8 o.bu):=by have:=u.cell 5 (by show 5<18;omega);rw [this];show some (Value.int .u8 J.o.bu)=_;rw [d2.out.2.1]
   have v2:0≤o.bu∧o.bu<256:=b2.out.2.2.2.1;go_simp
   cases a6:decide (ofT k.tu=o.bu)
   ·have k5:(ofT k.tu==o.bu)=false:=by simpa using a6
    have HG:inR a bs now=(14,a.xs,[],[]):=by
     have g9:ofT k.tu≠o.bu:=by simpa using a6
     unfold inR;rw [f2.out.2,if_neg Dc,HN.out];show(if tn≠(2,a.id)then _ else if Yw pl≠0 then _ else if ofT (pkI pl).tu≠o.bu then _ else _)=_;rw [if_neg (by rw [k4.out];exact fun h=>h rfl),e8.out.2,if_neg (fun h=>h rfl),e8.out.1,if_pos g9]
    have HG:=Xh HG;have S:=Xh (show RowZ a5 b6 (agv o1)∧RowZ a5 b7 (dnv ⟨14,none,0,0,none,0,0⟩)∧SlC a5 p' a.xs∧Ext w a5 from⟨H,y,I,K⟩);clear F H y A u I L K U a6;go_wp2;go_step3;refine⟨rfl,?_⟩
    go_upto_region 23 with(fail)
    refine JH (o:=o1) (d:=⟨14,none,0,0,none,0,0⟩) (b6:=b6) (b7:=b7) Kr Kr Kr S.out.1 S.out.2.1 ?_;intro a' w' e' r6 r7 q6 q7 hd;go_wp2;refine bodyPost_ret (ZL rfl _ _ b6 b7 q6 q7 (Yp r6.r) (Qad r7.r rfl)) hd ?_;rw [←e4.out,HG.out,←b1.out];exact⟨p',c',none,0,none,0,rfl,S.out.2.2.1.ext e',SlE.nil _ none,SlBB.nil _ none,S.out.2.2.2.tr e'⟩
   ·have k5:ofT k.tu=o.bu:=by simpa using a6
    clear a6;have r5:a5.cell? ⟨b10,0,none⟩=some (.int .u8 fr.1):=by have:=u.cell 0 (by show 0<18;omega);rw [this];show some (Value.int .u8 J.fr.1)=_;rw [d2.out.2.2.1]
    have r8:a5.cell? ⟨b10,1,none⟩=some (.int .i64 fr.2):=by have:=u.cell 1 (by show 1<18;omega);rw [this];show some (Value.int .i64 J.fr.2)=_;rw [d2.out.2.2.1]
    have s0:a5.cell? ⟨P,1,none⟩=some (.int .i64 (-1)):=A.cell 1 (by show 1<6;omega);have s4:a5.frozen? ⟨P,1,none⟩=false:=A.frz 1;obtain⟨fv,p6⟩: ∃fv:Int,(if fr.1=2 then fr.2 else-1)=fv:=⟨_,rfl⟩;have k6:=Xh p6;have i7:=Xh (And.intro F (And.intro H (And.intro y (And.intro A (And.intro u (And.intro I (And.intro L K)))))));clear F H y A u I L K p6;have v3:b10≠P:=by omega
    go_upto_if 77 with(fail)
    have s5:=Xh k5;clear cb k5
    go_cut [78]from 78 to 83 (fun v wx=>RowZ wx P #[.int .u8 0,.int .i64 fv,.int .i64 0,.bool false,.bool false,.bool false]∧Mv (fun q=>q=P) a5 wx)
    case first=>
     cases i2:decide (fr.1=2)
     ·have i8:(fr.1==2)=false:=by simpa using i2
      have HV:=Xh (show fv= -1 by rw [←k6.out,if_neg (by simpa using i2)]);clear i2
      go_wp2_with (fail)
      go_meet
      exact⟨by rw [HV.out];exact i7.out.2.2.2.1,Mv.refl _ _⟩
     ·have i8:fr.1=2:=by simpa using i2
      have HV:=Xh (show fv=fr.2 by rw [←k6.out,if_pos i8]);have v4:(fr.1==2)=true:=by rw [i8];rfl
      clear i2 i8
      go_wp2_with (fail)
      go_meet
      exact⟨by rw [HV.out];exact i7.out.2.2.2.1.set 1 _,Mv.st _ (.inl rfl) (Mv.refl _ _)⟩
    case rest=>
     obtain⟨A,c0⟩:=hcut;obtain⟨p7,p8⟩: ∃W,wc=W:=⟨_,rfl⟩;rw [p8]at A c0⊢;clear p8 r5 r8 s0 s4;obtain⟨F,H,y,-,u,I,L,K⟩:=i7.out;have F:=F.mv c0 Om;have H:=H.mv c0 Om;have y:=y.mv c0 Om;have u:=u.mv c0 Om;have I:=I.mvg c0 (fun b G e=>by have:=U b G e;omega);have L:=L.mvg c0 (fun b G e=>by have:=b4 b G e;omega);have Q:=Xt Q c0.size;have K:=Mv.ext_of K c0 (fun q e=>by have:=a0.out;omega);clear i7 c0;have k7: ¬b10=P:=by omega
     go_upto_region 17 with(fail)
     refine Qy (fun _=>False) (fun q=>q=P) 9 Kr ?_;obtain⟨WG,V⟩: ∃Wdr,World.drew p7=Wdr:=⟨_,rfl⟩;have O:Ext p7 WG:=by rw [←V];exact Ext.dr (Ext.rf _)
     rw [V];clear V;have K:=K.tr O;have F:=F.ext O;have H:=H.ext O;have y:=y.ext O;have A:=A.ext O;have u:=u.ext O;have I:=I.ext O;have L:=L.ext O;have Q:=Xt Q O.size;refine Zi (N:=12) (R:=Qq3) (E:=((Tryz.f12.body.bind (Qh 17)).getD #[])) Kr Qk9 Kr fun D=> ?_;have j:=D.2.1;refine tWk 1 (.pointer (some ⟨b10,0,none⟩)) D.1 j rfl fun j=>tWk 3 (.pointer (some ⟨b10,4,none⟩)) D.1 j rfl fun j=>tWk 7 (.pointer (some ⟨b10,4,none⟩)) D.1 j rfl fun j=>tW 15 (.int .u8 J.o.ki) D.1 j rfl (Yv (C:=fun q=>q=P) (Q2 u 4 (by show 4<18;omega)) u.l k7 Kr) fun j=>tWk 31 (.pointer (some ⟨b10,0,none⟩)) D.1 j rfl fun j=>tWk 63 (.pointer (some ⟨b10,4,none⟩)) D.1 j rfl fun j=>tWk 127 (.pointer (some ⟨b10,8,none⟩)) D.1 j rfl fun j=>tW 255 (.int .i64 J.o.ge) D.1 j rfl (Q0 (Q2 u 8 (by show 8<18;omega)) u.l k7 Kr) fun j=>tWk 511 (.pointer (some ⟨P,0,none⟩)) D.1 j rfl fun j=> ?_;refine Qr D.2.2.1 (QE (m':=1023) rfl rfl Kr (Qdt (B:=P) (i:=0) (n:=J.o.ki) (A.cell 0 (by show 0<6;omega)) (A.frz 0) Kr Kr) ⟨.inl Dc,(Mv.st _ (.inl rfl) (Mv.refl _ _))⟩ ?_);obtain⟨f8,j2⟩: ∃f8,World.setCell WG ⟨P,0,none⟩ (.int .u8 J.o.ki)=f8:=⟨_,rfl⟩;have M:Mv (fun q=>q=P) WG f8:=by rw [←j2];exact Mv.st _ (.inl rfl) (Mv.refl _ _)
     have A:RowZ f8 P #[.int .u8 J.o.ki,.int .i64 fv,.int .i64 0,.bool false,.bool false,.bool false]:=by rw [←j2];exact A.set 0 _
     have K:=Mv.ext_of K M (fun q e=>by have:=a0.out;omega);have F:=F.mv M Om;have H:=H.mv M Om;have y:=y.mv M Om;have u:=u.mv M Om;have I:=I.mvg M (fun b G e=>by have:=U b G e;omega);have L:=L.mvg M (fun b G e=>by have:=b4 b G e;omega);have Q:=Xt Q M.size;rw [j2];clear j2;have j:=D.2.2.2.1;refine tWk 2047 (.pointer (some ⟨P,2,none⟩)) D.1 j rfl fun j=> ?_;refine Qr D.2.2.2.2.1 (QE (m':=4095) rfl rfl Kr (Qtf (B:=P) (i:=2) (n:=J.o.ge) (A.cell 2 (by show 2<6;omega)) (A.frz 2) Kr Kr) ⟨.inl Dc,(Mv.st _ (.inl rfl) (Mv.refl _ _))⟩ ?_);obtain⟨c4,j3⟩: ∃c4,World.setCell f8 ⟨P,2,none⟩ (.int .i64 J.o.ge)=c4:=⟨_,rfl⟩;have M:Mv (fun q=>q=P) f8 c4:=by rw [←j3];exact Mv.st _ (.inl rfl) (Mv.refl _ _)
     have A:RowZ c4 P #[.int .u8 J.o.ki,.int .i64 fv,.int .i64 J.o.ge,.bool false,.bool false,.bool false]:=by rw [←j3];exact A.set 2 _
     have K:=Mv.ext_of K M (fun q e=>by have:=a0.out;omega);have F:=F.mv M Om;have H:=H.mv M Om;have y:=y.mv M Om;have u:=u.mv M Om;have I:=I.mvg M (fun b G e=>by have:=U b G e;omega);have L:=L.mvg M (fun b G e=>by have:=b4 b G e;omega);have Q:=Xt Q M.size;rw [j3];clear j3;refine QZ D.2.2.2.2.2 ?_;clear D j
     go_upto_region 18 with(fail)
     have o8:Calls Tryz.prog 44 #[.slice a.p a.xs.length a.c,.agg #[.int .u32 J.pk.tu.a,.int .u32 J.pk.tu.b,.int .u16 J.pk.tu.c,.int .u16 J.pk.tu.d]] c4 fun e w'=> ∃v,e= .returned v∧(v= .tuple #[.int .i64 (atC a.xs J.pk.tu),.bool (okC a.xs J.pk.tu)]∧Ext c4 w'):=
      (Qed J.pk.tu a.p a.xs a.c c4 (j7.out.1.ext K) j7.out.2).mono fun e w' ⟨T,h2⟩=>⟨_,T,rfl,h2⟩
     refine wp_region_lit ?_;refine listV (v:= .pointer (some ⟨b3,66,none⟩)) (w':=c4) rfl Kr ?_;refine listV rfl (QaB (C:=fun _=>False) (by rw [Qa,F.r,Qu]) F.l (fun h=>h) Kr _ (Mv.refl _ _)) ?_;refine listV (v:= .pointer (some ⟨b10,11,none⟩)) (w':=c4) rfl Kr ?_;refine listV (v:= .pointer (some ⟨b10,11,none⟩)) (w':=c4) rfl Kr ?_;refine listV rfl (Qe8 (C:=fun _=>False) (Q2 u 11 (by show 11<18;omega)) (Q2 u 12 (by show 12<18;omega)) (Q2 u 13 (by show 13<18;omega)) (Q2 u 14 (by show 14<18;omega)) u.l (fun h=>h) Kr _ (Mv.refl _ _)) ?_;refine JS (f:=44) rfl Kr o8 ?_;rintro v9 f9 ⟨rfl,c5⟩;have K:=K.tr c5;have F:=F.ext c5;have H:=H.ext c5;have y:=y.ext c5;have A:=A.ext c5;have u:=u.ext c5;have I:=I.ext c5;have L:=L.ext c5;have Q:=Xt Q c5.size;obtain⟨kn,m1⟩: ∃kn,okC a.xs J.pk.tu=kn:=⟨_,rfl⟩;have s6:=Xh m1;rw [m1];clear m1 o8;refine listV (v:= .tuple #[.int .i64 (atC a.xs J.pk.tu),.bool kn]) (w':=f9) rfl Kr ?_;refine listV (v:= .int .i64 (atC a.xs J.pk.tu)) (w':=f9) rfl Kr ?_;refine listV (v:= .bool kn) (w':=f9) rfl Kr ?_;refine listV (v:= .pointer (some ⟨P,4,none⟩)) (w':=f9) rfl Kr ?_;refine Zj rfl (Qk8 (B:=P) (i:=4) (n:=kn) (A.cell 4 (by show 4<6;omega)) (A.frz 4) Kr Kr) ?_;refine wpList_nil ?_;obtain⟨g0,j4⟩: ∃g0,f9.setCell ⟨P,4,none⟩ (.bool kn)=g0:=⟨_,rfl⟩;have M:Mv (fun q=>q=P) f9 g0:=by rw [←j4];exact Mv.st _ (.inl rfl) (Mv.refl _ _)
     have A:RowZ g0 P #[.int .u8 J.o.ki,.int .i64 fv,.int .i64 J.o.ge,.bool false,.bool kn,.bool false]:=by rw [←j4];exact A.set 4 _
     have K:=Mv.ext_of K M (fun q e=>by have:=a0.out;omega);have F:=F.mv M Om;have H:=H.mv M Om;have y:=y.mv M Om;have u:=u.mv M Om;have I:=I.mvg M (fun b G e=>by have:=U b G e;omega);have L:=L.mvg M (fun b G e=>by have:=b4 b G e;omega);have Q:=Xt Q M.size;rw [j4];clear j4 c5 M
     go_upto_region 19 with(fail)
     obtain⟨sy,m2⟩: ∃sy,QyX J.pk=sy:=⟨_,rfl⟩;obtain⟨rm,m3⟩: ∃rm,decide ((a.xs.length:Int)<32)=rm:=⟨_,rfl⟩;have s7:Hid (∀W,Cr 45 #[.agg (pkV J.pk (.slice J.bp J.bN J.bc))] W (.bool sy)):=Xh (fun W=>by rw [←m2];exact Qs1 J.pk J.bp J.bN J.bc W);have s8:Hid (∀W,Cr 46 #[.slice a.p a.xs.length a.c] W (.bool rm)):=Xh (fun W=>by rw [←m3];exact(Qee a.p a.xs.length a.c W).mono fun e w' ⟨T,h2⟩=>⟨T,by rw [←h2];exact Ext.rf _⟩);have o9:=Xh (And.intro m2 m3);clear m2 m3;have s9: ¬b3=P:=by omega
     refine Qy (fun _=>False) (fun q=>q=P) 7 Kr ?_;obtain⟨WI,V⟩: ∃Wdr,World.drew g0=Wdr:=⟨_,rfl⟩;have O:Ext g0 WI:=by rw [←V];exact Ext.dr (Ext.rf _)
     rw [V];clear V;have K:=K.tr O;have F:=F.ext O;have H:=H.ext O;have y:=y.ext O;have A:=A.ext O;have u:=u.ext O;have I:=I.ext O;have L:=L.ext O;have Q:=Xt Q O.size;refine Zi (N:=10) (R:=Qq5) (E:=((Tryz.f12.body.bind (Qh 19)).getD #[])) Kr Qlb Kr fun D=> ?_;have j:=D.2.1;refine tWk 1 (.pointer (some ⟨b10,11,none⟩)) D.1 j rfl fun j=>tW 3 (.agg (pkV J.pk (.slice J.bp J.bN J.bc))) D.1 j rfl (Qte u k7 Kr) fun j=>tWk 11 (.pointer (some ⟨b3,66,none⟩)) D.1 j rfl fun j=>tW 27 (.slice a.p a.xs.length a.c) D.1 j rfl (QaB (C:=fun q=>q=P) (by rw [Qa,F.r,Qu]) F.l s9 Kr) fun j=> ?_;refine sV 31 (fun v _=>v= .bool sy) D.2.2.1 rfl (ZC (s7.out WI)) ?_;rintro _ u6 d6 rfl;have K:=K.tr d6;have F:=F.ext d6;have H:=H.ext d6;have y:=y.ext d6;have A:=A.ext d6;have u:=u.ext d6;have I:=I.ext d6;have L:=L.ext d6;have Q:=Xt Q d6.size;have j:=D.2.2.2.1;refine tWk 95 (.pointer (some ⟨P,3,none⟩)) D.1 j rfl fun j=> ?_;refine sV 127 (fun v _=>v= .bool rm) D.2.2.2.2.1 rfl (ZC (s8.out u6)) ?_;rintro _ p9 d7 rfl;have K:=K.tr d7;have F:=F.ext d7;have H:=H.ext d7;have y:=y.ext d7;have A:=A.ext d7;have u:=u.ext d7;have I:=I.ext d7;have L:=L.ext d7;have Q:=Xt Q d7.size;refine Qr D.2.2.2.2.2.1 (QE (m':=255) rfl rfl Kr (Qk8 (B:=P) (i:=3) (n:=sy) (A.cell 3 (by show 3<6;omega)) (A.frz 3) Kr Kr) ⟨.inl Dc,(Mv.st _ (.inl rfl) (Mv.refl _ _))⟩ ?_);obtain⟨g5,j5⟩: ∃g5,World.setCell p9 ⟨P,3,none⟩ (.bool sy)=g5:=⟨_,rfl⟩;have M:Mv (fun q=>q=P) p9 g5:=by rw [←j5];exact Mv.st _ (.inl rfl) (Mv.refl _ _)
     have A:RowZ g5 P #[.int .u8 J.o.ki,.int .i64 fv,.int .i64 J.o.ge,.bool sy,.bool kn,.bool false]:=by rw [←j5];exact A.set 3 _
     have K:=Mv.ext_of K M (fun q e=>by have:=a0.out;omega);have F:=F.mv M Om;have H:=H.mv M Om;have y:=y.mv M Om;have u:=u.mv M Om;have I:=I.mvg M (fun b G e=>by have:=U b G e;omega);have L:=L.mvg M (fun b G e=>by have:=b4 b G e;omega);have Q:=Xt Q M.size;rw [j5];clear j5;have j:=D.2.2.2.2.2.2.1;refine tWk 511 (.pointer (some ⟨P,5,none⟩)) D.1 j rfl fun j=> ?_;refine Qr D.2.2.2.2.2.2.2.1 (QE (m':=1023) rfl rfl Kr (Qk8 (B:=P) (i:=5) (n:=rm) (A.cell 5 (by show 5<6;omega)) (A.frz 5) Kr Kr) ⟨.inl Dc,(Mv.st _ (.inl rfl) (Mv.refl _ _))⟩ ?_);obtain⟨i4,j6⟩: ∃i4,World.setCell g5 ⟨P,5,none⟩ (.bool rm)=i4:=⟨_,rfl⟩;have M:Mv (fun q=>q=P) g5 i4:=by rw [←j6];exact Mv.st _ (.inl rfl) (Mv.refl _ _)
     have A:RowZ i4 P #[.int .u8 J.o.ki,.int .i64 fv,.int .i64 J.o.ge,.bool sy,.bool kn,.bool rm]:=by rw [←j6];exact A.set 5 _
     have K:=Mv.ext_of K M (fun q e=>by have:=a0.out;omega);have F:=F.mv M Om;have H:=H.mv M Om;have y:=y.mv M Om;have u:=u.mv M Om;have I:=I.mvg M (fun b G e=>by have:=U b G e;omega);have L:=L.mvg M (fun b G e=>by have:=b4 b G e;omega);have Q:=Xt Q M.size;rw [j6];clear j6;refine QZ D.2.2.2.2.2.2.2.2 ?_;clear D j;go_simp
     go_upto_region 20 with(fail)
     obtain⟨a9,q0⟩: ∃W,i4=W:=⟨_,rfl⟩;rw [q0]at F H y A u I L K Q⊢;clear q0 M;obtain⟨x,hx⟩: ∃x,Ru.Qux (toR (a.md (ofT k.tu).toNat)) J.o.ki fv J.o.ge sy kn rm=x:=⟨_,rfl⟩;obtain⟨bi,m7⟩: ∃bi,(ofT k.tu).toNat=bi:=⟨_,rfl⟩;have i9:bi<16:=by omega
     have k8:ofT k.tu=(bi:Int):=by omega
     have p0:Hid (∀W,Cr 47 #[.agg (mdv (a.md bi)),.agg #[.int .u8 J.o.ki,.int .i64 fv,.int .i64 J.o.ge,.bool sy,.bool kn,.bool rm]] W (.agg (acv x))):=Xh (fun W=>by
      rw [←hx,m7,Qaw]
      exact Ru.QyU (toR (a.md bi)) J.o.ki fv J.o.ge sy kn rm W (HK.out bi i9) (by rw [d2.out.2.1];exact b2.out.2.2.1.1))
     have k9:=Xh (And.intro hx m7);have t4:=Xh (QnN (B:=b3) i9);rw [k8];have v5:=Xh k8;clear hx m7 k8 r4;have l0:=Xh (And.intro F (And.intro H (And.intro y (And.intro A (And.intro u (And.intro I (And.intro L K)))))));obtain⟨b0,u7⟩: ∃n,a9.heap.size=n:=⟨_,rfl⟩;have p1:a9.heap.size≤b0:=by omega
     have a8:b0≤a9.heap.size:=by omega
     clear u7;have t5: ¬b0≤b3:=by have:b10<a9.heap.size:=u.l;omega
     have t6: ¬b0≤P:=by have:b10<a9.heap.size:=u.l;omega
     go_cut [11]from 111 to 117 (fun s wx=> ∃b11,s= .pointer (some ⟨b11,0,none⟩)∧(RowZ wx b11 (acv x)∧Ext a9 wx∧b0≤b11))
     case first=>
      have X:=Ext.rf a9;refine Qy (fun _=>False) (fun q=>b0≤q) 7 Kr ?_;obtain⟨WK,V⟩: ∃Wdr,World.drew a9=Wdr:=⟨_,rfl⟩;have O:Ext a9 WK:=by rw [←V];exact Ext.dr (Ext.rf _)
      rw [V];clear V;have X:=X.tr O;have F:=F.ext O;have A:=A.ext O;have a8:=Xt a8 O.size;refine Zi (N:=8) (R:=Qq4) (E:=((Tryz.f12.body.bind (Qh 20)).getD #[])) Kr Qla Kr fun D=> ?_;obtain⟨D,n0⟩:=D;have j:=D.2.1;refine tWk 1 (.int .i64 (bi:Int)) D.1 j rfl fun j=>tWk 3 (.pointer (some ⟨b3,2,none⟩)) D.1 j rfl fun j=>tW 7 (.pointer (some ⟨b3,2+bi*4,none⟩)) D.1 j rfl (fun w' _=>t4.out _ _ _ _ _ _ _ _ Kr Kr w') fun j=>tW 15 (.agg (mdv (a.md bi))) D.1 j rfl (Qhl (C:=fun q=>b0≤q) F i9 t5 Kr) fun j=>tW 31 (.agg #[.int .u8 J.o.ki,.int .i64 fv,.int .i64 J.o.ge,.bool sy,.bool kn,.bool rm]) D.1 j rfl (Qv0 (C:=fun q=>b0≤q) A rfl t6 Kr) fun j=> ?_;refine QmS D.2.2.1 ?_ ?_
      ·clear l0;refine(QlH (m':=63) (R:=fun v _=>v= .agg (acv x)) rfl rfl Kr Kr (ZC (p0.out WK)) ?_);rintro _ c6 i0 rfl;have X:=X.tr i0;have a8:=Xt a8 i0.size;refine Qr D.2.2.2.1 (Zq (m':=127) rfl rfl Kr (QbS c6) ⟨.inr (Mv.of_ext Ea),(Mv.of_ext Ea)⟩ ?_);obtain⟨g6,n1⟩: ∃g6,c6.alloc (.cells #[.int .u8 0,.int .u8 0,.int .u8 0,.int .i64 0,.int .i64 0] 105)=g6:=⟨_,rfl⟩;have a6:=World.alloc_heap_new c6 (.cells #[.int .u8 0,.int .u8 0,.int .u8 0,.int .i64 0,.int .i64 0] 105);have f6:Ext c6 g6:=by rw [←n1];exact Ea
       rw [n1]at a6⊢;clear n1;have X:=X.tr f6;have a1:=RowZ.of_heap a6;obtain⟨b11,n2⟩: ∃b,c6.heap.size=b:=⟨_,rfl⟩;rw [n2]at a1⊢;have a4:b0≤b11:=by have:=a8;omega
       have a8:=Xt a8 f6.size;clear a6;refine Qr D.2.2.2.2.1 (QE (m':=255) rfl rfl Kr (Qi3 (B:=b11) (cs:=acv x) (by rw [a1.r];rfl) a1.z rfl (by unfold acv;simp [go_sem]) Kr Kr) ⟨.inl Dc,(Mv.sa _ a4 (Mv.refl _ _))⟩ ?_);obtain⟨d8,d9⟩: ∃d8,Qe g6 b11 0 (acv x)=d8:=⟨_,rfl⟩;have HX:=Xh (show RowZ d8 b11 (acv x)∧Ext a9 d8∧b0≤b11 from⟨by rw [←d9];exact a1.all _ rfl,by rw [←d9];exact Mv.ext_of (C:=fun q=>q=b11) X (Mv.sa _ rfl (Mv.refl _ _)) (fun q e=>by have:=p1;omega),a4⟩);rw [d9];clear d9;refine QZ D.2.2.2.2.2 ?_;clear D j
       go_wp2_with (fail)
       go_meet
       exact⟨b11,rfl,HX.out⟩
      ·clear l0;refine(Zq (m':=95) rfl rfl Kr (QbS WK) ⟨.inr (Mv.of_ext Ea),(Mv.of_ext Ea)⟩ ?_);obtain⟨c6,n3⟩: ∃c6,WK.alloc (.cells #[.int .u8 0,.int .u8 0,.int .u8 0,.int .i64 0,.int .i64 0] 105)=c6:=⟨_,rfl⟩;have a6:=World.alloc_heap_new WK (.cells #[.int .u8 0,.int .u8 0,.int .u8 0,.int .i64 0,.int .i64 0] 105);have i0:Ext WK c6:=by rw [←n3];exact Ea
       rw [n3]at a6⊢;clear n3;have X:=X.tr i0;have a1:=RowZ.of_heap a6;obtain⟨b11,n2⟩: ∃b,WK.heap.size=b:=⟨_,rfl⟩;rw [n2]at a1⊢;have a4:b0≤b11:=by have:=a8;omega
       have a8:=Xt a8 i0.size;clear a6;refine sV 127 (fun v _=>v= .agg (acv x)) n0.2.2.2.1 rfl (ZC (p0.out c6)) ?_;rintro _ g6 f6 rfl;have X:=X.tr f6;have a1:=a1.ext f6;have a8:=Xt a8 f6.size;refine Qr n0.2.2.2.2.1 (QE (m':=255) rfl rfl Kr (Qi3 (B:=b11) (cs:=acv x) (by rw [a1.r];rfl) a1.z rfl (by unfold acv;simp [go_sem]) Kr Kr) ⟨.inl Dc,(Mv.sa _ a4 (Mv.refl _ _))⟩ ?_);obtain⟨d8,d9⟩: ∃d8,Qe g6 b11 0 (acv x)=d8:=⟨_,rfl⟩;have HX:=Xh (show RowZ d8 b11 (acv x)∧Ext a9 d8∧b0≤b11 from⟨by rw [←d9];exact a1.all _ rfl,by rw [←d9];exact Mv.ext_of (C:=fun q=>q=b11) X (Mv.sa _ rfl (Mv.refl _ _)) (fun q e=>by have:=p1;omega),a4⟩);rw [d9];clear d9;refine QZ n0.2.2.2.2.2 ?_;clear D j
       go_wp2_with (fail)
       go_meet
       exact⟨b11,rfl,HX.out⟩
     case rest=>
      obtain⟨b11,rfl,hcut⟩:=hcut;obtain⟨w0,q1⟩: ∃W,wc=W:=⟨_,rfl⟩;rw [q1]at hcut⊢;obtain⟨a1,X,a4⟩:=hcut;clear q1;have t7:=Xh (And.intro a1 (And.intro X a4));clear a1 X a4
      go_upto_region 21 with(fail)
      obtain⟨a1,X,a4⟩:=t7.out;obtain⟨F,H,y,A,u,I,L,K⟩:=l0.out;have v6:=X.size;have p3:o1.id=a.id:=by rw [←b1.out]
      have l1:o1.xs=a.xs:=by rw [←b1.out]
      have p4:o1.p=p':=by rw [←b1.out]
      have l2:J.ip=q:=by rw [←f3.out,←c7.out]
      have t8:J.iN=pl.length:=by rw [←f3.out,←c7.out]
      have t9:J.ic=cq:=by rw [←f3.out,←c7.out]
      have l3:(Ru.Qux (toR (a.md bi)) J.o.ki fv J.o.ge sy kn rm)=x:=by have h0:=k9.out.1;rw [k9.out.2]at h0;exact h0
      have u0:(toR (a.md bi)).right=true:=Qga f2.out.1 bi i9;have eo:J.o=o:=d2.out.2.1;have u1:0≤o.ge∧o.ge≤2147483647:=Qs8 b2.out.2.2.2.2
      have u2:=Xh (show inR a bs now=Qae x o1 J pl from by
       have hx:inX a fr o pl=x:=by
        unfold inX;rw [e8.out.1,←d2.out.1,←eo,k6.out,o9.out.1,s6.out,o9.out.2];have h0:=k9.out.1;rw [←d2.out.1]at h0;exact h0
       unfold inR;rw [f2.out.2,if_neg Dc,HN.out];show(if tn≠(2,a.id)then _ else if Yw pl≠0 then _ else if ofT (pkI pl).tu≠o.bu then _ else _)=_;rw [if_neg (by rw [k4.out];exact fun h=>h rfl),e8.out.2,if_neg (fun h=>h rfl),e8.out.1,if_neg (fun h=>h s5.out)];show Qae (inX a fr o pl) a _ pl=_;rw [hx]
       exact(Qk3 l1 p3 (by rw [d2.out.1]) d2.out.2.2.2 eo).symm)
      refine Qq0 (o1:=o1) (c:=J) (x:=x) (pl:=pl) (b6:=b6) (b7:=b7) (b10:=b10) (b11:=b11) Kr (K.tr X) (by have:=a0.out;omega) Om Om (by have:b10<a9.heap.size:=u.l;omega) (H.ext X) (y.ext X) rfl (u.ext X) a1 (by rw [p4,l1];exact I.ext X) (fun b G e=>by rw [p4]at e;have:=U b G e;omega) (by rw [l1];exact j7.out.2) (by rw [l2];exact L.ext X) (fun b G e=>by rw [l2]at e;have T:=b4 b G e;have h2:=l5 b G e;omega) (by rw [←l3];exact Qs9) ?_ ?_
      ·intro h3;have D:=Qk2 (m:=toR (a.md bi)) (k:=J.o.ki) (f:=fv) (g:=J.o.ge) (s:=sy) (n:=kn) (r:=rm) u0 (by rw [eo];exact u1) (by rw [l3];exact h3);rw [l3]at D;have g9:pl≠ []:=fun e=>by have T:=e8.out.2;rw [e]at T;revert T;decide
       have u3:0<pl.length:=List.length_pos_iff.2 g9;obtain⟨b,G,e0,-,-⟩:=L 0 u3;rw [p3,eo,l2,t8,t9];exact⟨QvW f2.out.1,D.1,⟨Om,Om⟩,b2.out.2.2.2.1,QnK b2.out.2.2.2.2 D.2.1 D.2.2,by have:=b2.out.2.1;have:=j8.out.2;omega,⟨b,G,e0⟩,rfl,hcq,b2.out.1⟩
      ·intro a' w' p2 c3 ep ec sp sc h6 h7 hz u9 r6 r7 s1 s2 s3 Ew
       go_upto_region 22 with(fail)
       refine QqT h6 h7 hz r6 r7 ?_;intro a2 w2 e2 r6 r7 q6 q7 v0;go_wp2;refine bodyPost_ret (ZL rfl _ _ b6 b7 q6 q7 (Yp r6.r) (Qad r7.r rfl)) (v0.trans u9) ?_;rw [←e4.out,u2.out];rw [←b1.out]at s1 s2 s3⊢;exact⟨p2,c3,ep,ec,sp,sc,rfl,s1.ext e2,s2.ext e2,s3.ext e2,Ew.tr e2⟩
 ·have g7:tn≠(2,a.id):=by simpa using i3
  have HG:inR a bs now=(13,a.xs,[],[]):=by unfold inR;rw [f2.out.2,if_neg Dc,hN];exact if_pos g7
  have HG:=Xh HG;clear g7 i3;go_simp
  go_upto_region 9 with(fail)
  have k3:=y;refine wp_region_lit ?_;refine listV (v:= .pointer (some ⟨b7,0,none⟩)) (w':=f1) rfl Kr ?_;refine Zj rfl (Qdt (B:=b7) (i:=0) (n:=13) (y.cell 0 (by show 0<3;omega)) (y.frz 0) Kr Kr) ?_;refine wpList_nil ?_;obtain⟨a3,d4⟩: ∃a3,f1.setCell ⟨b7,0,none⟩ (.int .u8 13)=a3:=⟨_,rfl⟩;have c8:Mv (fun q=>q=b7) f1 a3:=by rw [←d4];exact Mv.st _ (.inl rfl) (Mv.refl _ _)
  have S:=Xh (show RowZ a3 b6 (agv o1)∧RowZ a3 b7 (dnv ⟨13,none,0,0,none,0,0⟩)∧SlC a3 p' a.xs∧Ext w a3 from⟨H.mv c8 Om,by rw [←d4];exact y.set 0 _,I.mvg c8 (fun b G e=>by have:=U b G e;omega),Mv.ext_of K c8 (fun q e=>by have:=a0.out;omega)⟩);rw [d4];clear d4 c8;clear k3 F H y A u I K U;go_simp;go_wp2;go_step3;refine⟨rfl,?_⟩
  go_upto_region 23 with(fail)
  refine JH (o:=o1) (d:=⟨13,none,0,0,none,0,0⟩) (b6:=b6) (b7:=b7) Kr Kr Kr S.out.1 S.out.2.1 ?_;intro a' w' e' r6 r7 q6 q7 hd;go_wp2;refine bodyPost_ret (ZL rfl _ _ b6 b7 q6 q7 (Yp r6.r) (Qad r7.r rfl)) hd ?_;rw [←e4.out,HG.out,←b1.out];exact⟨p',c',none,0,none,0,rfl,S.out.2.2.1.ext e',SlE.nil _ none,SlBB.nil _ none,S.out.2.2.2.tr e'⟩
end
def Yd:Tu:=⟨1,2,3,4⟩
def synI:List Int:=QiT ⟨0,0,0,64,6,1,2,[],QkD 1 2 3 4 2⟩
def QdW:List Int:=QiT ⟨0,0,0,64,4,QD (1,0),QD (2,2),Ym ⟨1,13,2,-1,1,0⟩,synI⟩
theorem Qth:ofT Yd=13:=Kr
def wA:Ag:=agN 2 9
def wX2:Ct:=⟨2,0,2,13,1,-1,0,0,0,none,0,0⟩
def wX3:Ct:=⟨2,0,3,13,1,-1,0,0,0,none,0,0⟩
def wB(p:Option Addr)(c:Nat):Ag:={Zt wA wX2 with p:=p,xs:= [],c:=c}
def wC(p:Option Addr)(c:Nat):Ag:={Zt wA wX2 with p:=p,xs:= [⟨Yd,5,5⟩],c:=c}
def wD(p:Option Addr)(c:Nat):Ag:={Zt wA wX2 with p:=p,xs:= [⟨Yd,5,6⟩],c:=c}
def wE(p:Option Addr)(c:Nat):Ag:={Zt wA wX2 with p:=p,xs:= [],c:=c}
theorem Qv2:QeZ 2 9=wA:=if_pos Kr
theorem Qti:Qcb 2 9=0:=Kr
theorem Qv3:QeZ 6 9=agz:=if_neg (by rw [show agR (agN 6 9)=false by kernel_rfl];decide)
theorem Qtj:Qcb 6 9=2:=Kr
theorem QyY:inR wA QdW 5=(15,[],[],[]):=Kr
theorem Qv4:JI wA wX2=true:=Kr
theorem Qv5:JI wA wX3=false:=Kr
theorem Qtk:Yb wA wX2= []:=Kr
theorem Qtl:Yc wA wX2= []:=Kr
theorem Qtm:JR wA wX2=⟨4,2,2,13,1,0,0,0,0,none,0,0⟩:=Kr
theorem QyZ(p:Option Addr)(c:Nat):inR (wB p c) QdW 5=(0,[⟨Yd,5,5⟩],[⟨1,2,Yd⟩],[]):=Kr
theorem Qy0(p:Option Addr)(c:Nat):inR (wC p c) QdW 6=(0,[⟨Yd,5,6⟩],[⟨2,2,Yd⟩],[]):=Kr
theorem Qi7(p:Option Addr)(c:Nat):JN (wD p c) 14= [⟨Yd,5,6⟩]∧Qa6 (wD p c) 14= []:=⟨Kr,Kr⟩
theorem Qi8(p:Option Addr)(c:Nat):JN (wD p c) 15= []∧Qa6 (wD p c) 15= [⟨4,2,Yd⟩]:=⟨Kr,Kr⟩
theorem Qtn(p q:Option Addr)(c d:Nat):Jl (wD p c) (wD q d)=true:=Kr
theorem Qto(p q:Option Addr)(c d:Nat):Jl (wC p c) (wC q d)=true:=Kr
theorem Qtp(p q:Option Addr)(c d:Nat):Jl (wC p c) (wB q d)=false:=Kr
theorem Qq9(p:Option Addr)(c:Nat):agR (wC p c)=true:=Kr
theorem Qra:agR agz=false:=Kr
theorem Qmm:QdW.length=76:=Kr
theorem Qrb:ByR QdW:=by
 have h:QdW.all (fun b=>decide (0≤b)&&decide (b<256))=true:=Kr
 intro b a;have:=List.all_eq_true.1 h b a;simp only [Bool.and_eq_true,decide_eq_true_eq]at this;exact this
theorem Qfc(p:Option Addr)(xs:List Co)(c:Nat): ∀k,k<16→0≤((({Zt wA wX2 with p:=p,xs:=xs,c:=c}:Ag)).md k).kind:=by
 intro k a;have h:(List.range 16).all (fun k=>decide (0≤((Zt wA wX2).md k).kind))=true:=Kr
 exact of_decide_eq_true (List.all_eq_true.1 h k (List.mem_range.2 a))
theorem Qhu: ∀k,k<16→0≤(wA.md k).kind:=fun k _=>by show(0:Int)≤0;omega
theorem Qi9:TuR Yd:=by unfold TuR Yd;decide
theorem Qv6(S:List Int)(hS:synI=S)(g q:Nat)(W:World)(s:SlB W (some ⟨g,0,none⟩) S):Calls Tryz.prog 84 #[.agg #[.int .u8 1,.int .i64 0,.int .u8 2,.int .i64 2,.int .u8 1,.int .u8 13,.int .i64 2,.int .i64 (-1),.int .i64 1,.int .i64 0,.slice (some ⟨g,0,none⟩) S.length q]] W fun e w'=> ∃v,e= .returned (.tuple #[v,.int .u8 0])∧Z8 W w' v QdW:=by
 subst hS;exact Qnz (1,0) (2,2) ⟨1,13,2,-1,1,0⟩ synI (some ⟨g,0,none⟩) q W Dc Dc Kr s (fun e=>by cases e) (by rw [show synI.length=40 by kernel_rfl];omega)
theorem QnO(w:World):Calls Tryz.prog 37 #[] w fun e w'=> ∃v,e= .returned (.tuple #[v,.int .i64 13])∧Z8 w w' v QdW:=by
 obtain⟨S,j⟩: ∃S,synI=S:=⟨_,rfl⟩;have C:=Xh (show S.length=40 by rw [←j];kernel_rfl);have D:=Xh j;have E:Hid (∀W,Cr 33 #[.agg #[.int .u32 1,.int .u32 2,.int .u16 3,.int .u16 4]] W (.int .i64 13)):=Xh (fun W=>by have h:=Qln Yd Qi9 W;rw [Qth]at h;exact h);have F:Hid (∀W,Calls Tryz.prog 91 #[.agg #[.int .u32 1,.int .u32 2,.int .u16 3,.int .u16 4],.int .u8 2,.slice none 0 0] W fun e w'=> ∃v,e= .returned (.tuple #[v,.bool true])∧Z8 W w' v S):=Xh (fun W=>by rw [←j];exact Qnw 1 2 3 4 2 Dc Dc Dc W);have G:Hid (∀W,Cr 92 #[.int .u8 1,.int .i64 13,.agg #[.int .i64 2,.int .i64 (-1),.int .i64 1,.int .i64 0]] W (.tuple #[.agg #[.int .u8 1,.int .u8 13,.int .i64 2,.int .i64 (-1),.int .i64 1,.int .i64 0],.int .i64 0])):=Xh (QqD 1 13 2 (-1) 1 0 Dc Kr);have N: ∀W,(Instr.build 64 #[(0,.int .u32 1),(1,.int .u32 2),(2,.int .u16 3),(3,.int .u16 4)]).run Tryz.prog W= .ok (.agg #[.int .u32 1,.int .u32 2,.int .u16 3,.int .u16 4]) W:=fun W=>by kernel_rfl
 have O: ∀W,(Instr.build 153 #[(0,.int .i64 2),(1,.int .i64 (-1)),(2,.int .i64 1)]).run Tryz.prog W= .ok (.agg #[.int .i64 2,.int .i64 (-1),.int .i64 1,.int .i64 0]) W:=fun W=>by kernel_rfl
 have P: ∀W,(Instr.build 73 #[(0,.int .u8 1)]).run Tryz.prog W= .ok (.agg #[.int .u8 1,.int .i64 0]) W:=fun W=>by kernel_rfl
 have Q: ∀W,(Instr.build 73 #[(0,.int .u8 2),(1,.int .i64 2)]).run Tryz.prog W= .ok (.agg #[.int .u8 2,.int .i64 2]) W:=fun W=>by kernel_rfl
 have R: ∀W (g q:Nat),(Instr.build 77 #[(0,.agg #[.int .u8 1,.int .i64 0]),(1,.agg #[.int .u8 2,.int .i64 2]),(2,.agg #[.int .u8 1,.int .u8 13,.int .i64 2,.int .i64 (-1),.int .i64 1,.int .i64 0]),(3,.slice (some ⟨g,0,none⟩) S.length q)]).run Tryz.prog W= .ok (.agg #[.int .u8 1,.int .i64 0,.int .u8 2,.int .i64 2,.int .u8 1,.int .u8 13,.int .i64 2,.int .i64 (-1),.int .i64 1,.int .i64 0,.slice (some ⟨g,0,none⟩) S.length q]) W:=fun W g q=>by kernel_rfl
 clear j
 go_enter Tryz.func37,Tryz.ntmps37
 go_upto_region 2 with(fail)
 obtain⟨d,b⟩: ∃d,w.alloc (.cells #[.int .u32 1,.int .u32 2,.int .u16 3,.int .u16 4] 64)=d:=⟨_,rfl⟩;have o:Ext w d:=by rw [←b];exact Ea
 have r:RowZ d w.heap.size #[.int .u32 1,.int .u32 2,.int .u16 3,.int .u16 4]:=by rw [←b];exact RowZ.new _ _ _
 rw [b];clear b;have a:=Xh r;have f:=Xh o;clear r o;have H:d.cell? ⟨w.heap.size,0,none⟩=some (.int .u32 1):=a.out.cell 0 (by show 0<4;omega);have I:d.cell? ⟨w.heap.size,1,none⟩=some (.int .u32 2):=a.out.cell 1 (by show 1<4;omega);have J:d.cell? ⟨w.heap.size,2,none⟩=some (.int .u16 3):=a.out.cell 2 (by show 2<4;omega);have K:d.cell? ⟨w.heap.size,3,none⟩=some (.int .u16 4):=a.out.cell 3 (by show 3<4;omega)
 go_upto_region 5 with(first|(go_at_call 33;(with_reducible refine(E.out _).mono ?_);rintro e k ⟨rfl,y⟩;have a:=Xh (a.out.ext y);have f:=Xh (f.out.tr y);have H:k.cell? ⟨w.heap.size,0,none⟩=some (.int .u32 1):=a.out.cell 0 (by show 0<4;omega);have I:k.cell? ⟨w.heap.size,1,none⟩=some (.int .u32 2):=a.out.cell 1 (by show 1<4;omega);have J:k.cell? ⟨w.heap.size,2,none⟩=some (.int .u16 3):=a.out.cell 2 (by show 2<4;omega);have K:k.cell? ⟨w.heap.size,3,none⟩=some (.int .u16 4):=a.out.cell 3 (by show 3<4;omega))|(go_at_call 91;(with_reducible refine(F.out _).mono ?_);rintro e M ⟨U,rfl,l⟩;obtain⟨g,q,rfl,-,-,-,-,-⟩:=l.own.at (by have:=C.out;omega);have t:SlB M (some ⟨g,0,none⟩) S:=(by obtain⟨p,c,e,-,s⟩:=l.sl;cases e;exact s);have f:=Xh (f.out.tr l.ext);have m:=Xh t;clear t l)|(go_at_call 92;(with_reducible refine(G.out _).mono ?_);rintro e wc ⟨rfl,z⟩;have f:=Xh (f.out.tr z);have m:=Xh (m.out.ext z)))
 obtain⟨i,b⟩: ∃i,Qe (wc.alloc (.cells #[.int .u8 0,.int .u8 0,.int .i64 0,.int .i64 0,.int .i64 0,.int .i64 0] 75)) wc.heap.size 0 #[.int .u8 1,.int .u8 13,.int .i64 2,.int .i64 (-1),.int .i64 1,.int .i64 0]=i:=⟨_,rfl⟩;have n:Ext wc i:=by rw [←b];exact Ext.sa _ (Nat.le_refl _) Ea
 have T:Qc i wc.heap.size=#[.int .u8 1,.int .u8 13,.int .i64 2,.int .i64 (-1),.int .i64 1,.int .i64 0]:=by rw [←b];exact Qq _ _ _ (by rw [Zn];rfl)
 rw [b];have u:=Xh (f.out.tr n);have L:=Xh (Qv6 S D.out g q i (m.out.ext n));clear n b
 go_wp2_with (go_at_call 84;(refine(L.out).mono ?_);rintro e V ⟨A,rfl,B⟩;have x:=Xh B;clear B)
 refine bodyPost_ret (v:= .tuple #[A,.int .i64 13]) (by simp [results,Tryz.results37,go_sem]) rfl ?_;exact⟨A,rfl,x.out.own.le u.out.size,u.out.tr x.out.ext⟩
def InW(A:Option Addr→Nat→Ag)(dr:Int)(xs:List Co)(es:List Ev)(v:Value)(w':World):Prop:= ∃p c ep ec sp sc,v= .tuple #[.agg (agv (A p c)),.agg (dnv ⟨dr,ep,es.length,ec,sp,0,sc⟩)]∧SlC w' p xs∧SlE w' ep es
theorem Qv7{a:Ag}{bs:List Int}{now dr:Int}{xs:List Co}{es:List Ev}{g q:Nat}(A:Option Addr→Nat→Ag)(hA: ∀p c,({a with p:=p,xs:=xs,c:=c}:Ag)=A p c)(hr:inR a bs now=(dr,xs,es,[]))(hs:SlC W a.p a.xs)(hl:a.xs.length≤1000)(ht: ∀x∈a.xs,TuR x.t)(hk: ∀k,k<16→0≤(a.md k).kind)
  (hb:SlB W (some ⟨g,0,none⟩) bs)(hB:ByR bs)(hlb:bs.length≤1000)(hq:bs.length≤q):Calls Tryz.prog 12 #[.agg (agv a),.slice (some ⟨g,0,none⟩) bs.length q,.int .i64 now] W fun e w'=> ∃v,e= .returned v∧InW A dr xs es v w'∧Ext W w':=
 (Qq8 a bs _ q now W hs hl ht hk hb hB hlb hq).mono fun e w' ⟨p,c,ep,ec,sp,sc,h1,h2,h3,h4,h5⟩=>by
  rw [hr]at h1 h2 h3;rw [hA]at h1;exact⟨_,h1,⟨p,c,ep,ec,sp,sc,rfl,h2,h3⟩,h5⟩
theorem Qy1{S:List Int}(hS:QdW=S){g q:Nat}(hb:SlB W (some ⟨g,0,none⟩) S)(hq:S.length≤q):Calls Tryz.prog 12 #[.agg (agv wA),.slice (some ⟨g,0,none⟩) S.length q,.int .i64 5] W fun e w'=> ∃v,e= .returned v∧InW (fun p c=>{wA with p:=p,xs:= [],c:=c}) 15 [] [] v w'∧Ext W w':=by
 subst hS;exact Qv7 _ (fun _ _=>rfl) QyY (SlC.nil _ _) (by show 0≤1000;omega) (fun x hx=>by cases hx) Qhu hb Qrb (by rw [Qmm];omega) hq
theorem Qy2{S:List Int}(hS:QdW=S){g q:Nat}(p:Option Addr)(c:Nat)(hb:SlB W (some ⟨g,0,none⟩) S)(hq:S.length≤q):Calls Tryz.prog 12 #[.agg (agv (wB p c)),.slice (some ⟨g,0,none⟩) S.length q,.int .i64 5] W fun e w'=> ∃v,e= .returned v∧InW wC 0 [⟨Yd,5,5⟩] [⟨1,2,Yd⟩] v w'∧Ext W w':=by
 subst hS;exact Qv7 _ (fun _ _=>rfl) (QyZ p c) (SlC.nil _ _) (by show 0≤1000;omega) (fun x hx=>by cases hx) (Qfc p [] c) hb Qrb (by rw [Qmm];omega) hq
theorem Qy3{S:List Int}(hS:QdW=S){g q:Nat}(p:Option Addr)(c:Nat)(hs:SlC W p [⟨Yd,5,5⟩])(hb:SlB W (some ⟨g,0,none⟩) S)(hq:S.length≤q):Calls Tryz.prog 12 #[.agg (agv (wC p c)),.slice (some ⟨g,0,none⟩) S.length q,.int .i64 6] W fun e w'=> ∃v,e= .returned v∧InW wD 0 [⟨Yd,5,6⟩] [⟨2,2,Yd⟩] v w'∧Ext W w':=by
 subst hS;exact Qv7 _ (fun _ _=>rfl) (Qy0 p c) hs (by show 1≤1000;omega) (fun x hx=>by rw [List.mem_singleton.1 hx];exact Qi9) (Qfc p _ c) hb Qrb (by rw [Qmm];omega) hq
def Qy4(v:Value)(w':World):Prop:= ∃p c q d,v= .tuple #[.agg (agv (wB p c)),.slice q 0 d,.agg (ctv ⟨4,2,2,13,1,0,0,0,0,none,0,0⟩),.bool true]
theorem Qy5(W:World):Calls Tryz.prog 16 #[.agg (agv wA),.agg (ctv wX2)] W fun e w'=> ∃v,e= .returned v∧Qy4 v w'∧Ext W w':=
 (Qdl wA wX2 W (SlC.nil _ _) (by show 0≤1000;omega) (fun x hx=>by cases hx) Qhu Dc Dc).mono fun e w' ⟨p,c,q,d,h1,_,_,h4⟩=>by
  rw [Qtk,Qtl,Qtm,Qv4]at h1;exact⟨_,h1,⟨p,c,q,d,rfl⟩,h4⟩
def Qy6(v:Value)(w':World):Prop:= ∃A q n d K,v= .tuple #[.agg (agv A),.slice q n d,.agg (ctv K),.bool false]
theorem Qy7(W:World):Calls Tryz.prog 16 #[.agg (agv wA),.agg (ctv wX3)] W fun e w'=> ∃v,e= .returned v∧Qy6 v w'∧Ext W w':=
 (Qdl wA wX3 W (SlC.nil _ _) (by show 0≤1000;omega) (fun x hx=>by cases hx) Qhu Dc Dc).mono fun e w' ⟨p,c,q,d,h1,_,_,h4⟩=>by
  rw [Qv5]at h1;exact⟨_,h1,⟨_,q,_,d,_,rfl⟩,h4⟩
def TiW(A:Option Addr→Nat→Ag)(xs:List Co)(es:List Ev)(v:Value)(w':World):Prop:= ∃p c q d,v= .tuple #[.agg (agv (A p c)),.slice q es.length d]∧SlC w' p xs∧SlE w' q es
theorem Qv8(p:Option Addr)(c:Nat)(W:World)(hs:SlC W p [⟨Yd,5,6⟩]):Calls Tryz.prog 20 #[.agg (agv (wD p c)),.int .i64 14] W fun e w'=> ∃v,e= .returned v∧TiW wD [⟨Yd,5,6⟩] [] v w'∧Ext W w':=
 (Qdg (wD p c) 14 W hs (by show 1≤1000;omega) (fun x hx=>by rw [List.mem_singleton.1 hx];exact Qi9) (Qfc p _ c)).mono fun e w' ⟨p',c',q,d,h1,h2,h3,h4⟩=>by
  rw [(Qi7 p c).1]at h1 h2;rw [(Qi7 p c).2]at h1 h3;exact⟨_,h1,⟨p',c',q,d,rfl,h2,h3⟩,h4⟩
theorem Qv9(p:Option Addr)(c:Nat)(W:World)(hs:SlC W p [⟨Yd,5,6⟩]):Calls Tryz.prog 20 #[.agg (agv (wD p c)),.int .i64 15] W fun e w'=> ∃v,e= .returned v∧TiW wE [] [⟨4,2,Yd⟩] v w'∧Ext W w':=
 (Qdg (wD p c) 15 W hs (by show 1≤1000;omega) (fun x hx=>by rw [List.mem_singleton.1 hx];exact Qi9) (Qfc p _ c)).mono fun e w' ⟨p',c',q,d,h1,h2,h3,h4⟩=>by
  rw [(Qi8 p c).1]at h1 h2;rw [(Qi8 p c).2]at h1 h3;exact⟨_,h1,⟨p',c',q,d,rfl,h2,h3⟩,h4⟩
theorem QAp(W:World):Cr 10 #[.int .i64 2,.int .i64 9] W (.tuple #[.agg (agv wA),.int .i64 0]):=by
 have h:=QiJ 2 9 W;rw [Qv2,Qti]at h;exact h
theorem QAq(W:World):Cr 10 #[.int .i64 6,.int .i64 9] W (.tuple #[.agg (agv agz),.int .i64 2]):=by
 have h:=QiJ 6 9 W;rw [Qv3,Qtj]at h;exact h
def OwW(v:Value)(w':World):Prop:= ∃p c,v= .agg (agv (wC p c))∧SlC w' p [⟨Yd,5,5⟩]
theorem QAr(p:Option Addr)(c:Nat)(W:World)(hs:SlC W p [⟨Yd,5,5⟩]):Calls Tryz.prog 25 #[.agg (agv (wC p c))] W fun e w'=> ∃v,e= .returned v∧OwW v w'∧Ext W w':=
 (QcD (wC p c) W hs (by show 1≤1000;omega)).mono fun e w' ⟨p',c',h1,h2⟩=>⟨_,h1,⟨p',c',rfl,by
  obtain⟨q,d,a,-,s⟩:=SlC.own h2.own
  cases a
  exact s⟩,h2.ext⟩
theorem QbA(w:World):
  (execOp ρ ⟨dst,.alloc 42,ty,pos,after,g⟩).run Tryz.prog w= .ok (.value (.pointer (some ⟨w.heap.size,0,none⟩))) (w.alloc (.cells #[.int .u8 0,.slice none 0 0,.slice none 0 0] 42)):=Kr
theorem Qdu(w:World):
  (execOp ρ ⟨dst,.alloc 33,ty,pos,after,g⟩).run Tryz.prog w= .ok (.value (.pointer (some ⟨w.heap.size,0,none⟩))) (w.alloc (.cells (ctv ⟨0,0,0,0,0,0,0,0,0,none,0,0⟩) 33)):=Kr
structure EvB(w:World)(b o:Nat)(k a:Int):Prop where
 lt:Lt b w
 cell0:w.cell? ⟨b,o,none⟩=some (.int .u8 k)
 cell1:w.cell? ⟨b,o+1,none⟩=some (.int .i64 a)
theorem EvB.ext{w':World}{o:Nat}{k a:Int}(h:EvB w b o k a)(e:Ext w w'):EvB w' b o k a:=⟨Xl h.lt e.size,(e.cell (p:=⟨b,o,none⟩) h.lt).trans h.cell0,(e.cell (p:=⟨b,o+1,none⟩) h.lt).trans h.cell1⟩
theorem SlE.evb{p:Option Addr}{k a:Int}{t:Tu}(h:SlE w p [⟨k,a,t⟩]): ∃b o,p=some ⟨b,o,none⟩∧EvB w b o k a:=by
 obtain⟨b,o,e,f,c,d,-⟩:=h 0 Nat.zero_lt_one;exact⟨b,o,e,f,by rw [Nat.zero_mul]at c;exact c,by rw [Nat.zero_mul]at d;exact d⟩
theorem QbB{o c:Nat}(hx:ρ x= .slice (some ⟨b,o,none⟩) 1 c)(hy:ρ y= .int .i64 0)(w:World):
  (execOp ρ ⟨dst,.indexAddr 39 x y,ty,pos,after,g⟩).run Tryz.prog w= .ok (.value (.pointer (some ⟨b,o,none⟩))) w:=by
 simp only [execOp,hx,hy];go_simp
theorem Qy8(p q:Option Addr)(c d:Nat)(W:World)(s:SlC W p [⟨Yd,5,6⟩])(t:SlC W q [⟨Yd,5,6⟩]):Cr 24 #[.agg (agv (wD p c)),.agg (agv (wD q d))] W (.bool true):=by
 have h:=Qdf (wD p c) (wD q d) W s t (by show 1≤1000;omega) (by show 1≤1000;omega);rw [Qtn]at h;exact h
theorem Qy9(p q:Option Addr)(c d:Nat)(W:World)(s:SlC W p [⟨Yd,5,5⟩])(t:SlC W q [⟨Yd,5,5⟩]):Cr 24 #[.agg (agv (wC p c)),.agg (agv (wC q d))] W (.bool true):=by
 have h:=Qdf (wC p c) (wC q d) W s t (by show 1≤1000;omega) (by show 1≤1000;omega);rw [Qto]at h;exact h
theorem Qza(p q:Option Addr)(c d:Nat)(W:World)(s:SlC W p [⟨Yd,5,5⟩]):Cr 24 #[.agg (agv (wC p c)),.agg (agv (wB q d))] W (.bool false):=by
 have h:=Qdf (wC p c) (wB q d) W s (SlC.nil _ _) (by show 1≤1000;omega) (by show 0≤1000;omega);rw [Qtp]at h;exact h
theorem Qzb(p:Option Addr)(c:Nat)(W:World)(s:SlC W p [⟨Yd,5,5⟩]):Cr 22 #[.agg (agv (wC p c))] W (.bool true):=by
 have h:=YX (wC p c) W s (by show 1≤1000;omega) (fun x hx=>by rw [List.mem_singleton.1 hx];exact Qi9) (Qfc p _ c);rw [Qq9]at h;exact h
theorem Qzc(W:World):Cr 22 #[.agg (agv agz)] W (.bool false):=by
 have h:=YX agz W (SlC.nil _ _) (by show 0≤1000;omega) (fun x hx=>by cases hx) (fun k hk=>by show(0:Int)≤0;omega);rw [Qra]at h;exact h
def Qrc(ops:Array Oper):Prop:=Region.noSelect ops=true∧Qv ops 107 [0,1,2,3,4,5,6,7,8,9,10,11,12,13] 0=true∧Qv ops 107 [14,15,16,17,18,19,20,21,22,23,24,25,26,27] 16383=true∧Qv ops 107 [28,29,30,31,32,33,34,35,36,37,38,39,40,41] 268435455=true∧Qv ops 107 [42,43,44,45,46,47,48,49,50,51,52,53,54,55] 4398046511103=true∧Qv ops 107 [56,57,58,59,60,61,62,63,64] 72057594037927935=true∧Rd ops 107 36893488147419103231 [65]∧Qv ops 107 [66,67,68,69,70,71,72,73,74,75,76,77,78,79] 73786976294838206463=true∧Qv ops 107 [80,81,82,83,84,85,86] 1208925819614629174706175=true∧Rd ops 107 154742504910672534362390527 [87]∧Qv ops 107 [88,89,90] 309485009821345068724781055=true∧Rd ops 107 2475880078570760549798248447 [91]∧Qv ops 107 [92,93,94,95,97] 4951760157141521099596496895=true∧Rd ops 107 237684487542793012780631851007 [96]∧Rd ops 107 316912650057057350374175801343 [98]∧Qv ops 107 [99,100,101,102] 633825300114114700748351602687=true∧Rd ops 107 10141204801825835211973625643007 [103]∧Qv ops 107 [104,105,106] 20282409603651670423947251286015=true∧Rd ops 107 162259276829213363391578010288127 []
theorem Qrd:Region.noSelect ((Tryz.f9.body.bind (Qh 13)).getD #[])=true:=Kr
theorem Qre:Qv ((Tryz.f9.body.bind (Qh 13)).getD #[]) 107 [0,1,2,3,4,5,6,7,8,9,10,11,12,13] 0=true:=Kr
theorem Qrf:Qv ((Tryz.f9.body.bind (Qh 13)).getD #[]) 107 [14,15,16,17,18,19,20,21,22,23,24,25,26,27] 16383=true:=Kr
theorem Qrg:Qv ((Tryz.f9.body.bind (Qh 13)).getD #[]) 107 [28,29,30,31,32,33,34,35,36,37,38,39,40,41] 268435455=true:=Kr
theorem Qrh:Qv ((Tryz.f9.body.bind (Qh 13)).getD #[]) 107 [42,43,44,45,46,47,48,49,50,51,52,53,54,55] 4398046511103=true:=Kr
theorem Qri:Qv ((Tryz.f9.body.bind (Qh 13)).getD #[]) 107 [56,57,58,59,60,61,62,63,64] 72057594037927935=true:=Kr
theorem Qrj:Region.ready .any ((Tryz.f9.body.bind (Qh 13)).getD #[]) (msk 107 36893488147419103231)= [65]:=Kr
theorem Qrk:Qv ((Tryz.f9.body.bind (Qh 13)).getD #[]) 107 [66,67,68,69,70,71,72,73,74,75,76,77,78,79] 73786976294838206463=true:=Kr
theorem Qrl:Qv ((Tryz.f9.body.bind (Qh 13)).getD #[]) 107 [80,81,82,83,84,85,86] 1208925819614629174706175=true:=Kr
theorem Qrm:Region.ready .any ((Tryz.f9.body.bind (Qh 13)).getD #[]) (msk 107 154742504910672534362390527)= [87]:=Kr
theorem QnP:Qv ((Tryz.f9.body.bind (Qh 13)).getD #[]) 107 [88,89,90] 309485009821345068724781055=true:=Kr
theorem QnQ:Region.ready .any ((Tryz.f9.body.bind (Qh 13)).getD #[]) (msk 107 2475880078570760549798248447)= [91]:=Kr
theorem QnR:Qv ((Tryz.f9.body.bind (Qh 13)).getD #[]) 107 [92,93,94,95,97] 4951760157141521099596496895=true:=Kr
theorem QnS:Region.ready .any ((Tryz.f9.body.bind (Qh 13)).getD #[]) (msk 107 237684487542793012780631851007)= [96]:=Kr
theorem QnT:Region.ready .any ((Tryz.f9.body.bind (Qh 13)).getD #[]) (msk 107 316912650057057350374175801343)= [98]:=Kr
theorem QnU:Qv ((Tryz.f9.body.bind (Qh 13)).getD #[]) 107 [99,100,101,102] 633825300114114700748351602687=true:=Kr
theorem QnV:Region.ready .any ((Tryz.f9.body.bind (Qh 13)).getD #[]) (msk 107 10141204801825835211973625643007)= [103]:=Kr
theorem QnW:Qv ((Tryz.f9.body.bind (Qh 13)).getD #[]) 107 [104,105,106] 20282409603651670423947251286015=true:=Kr
theorem QnX:Region.ready .any ((Tryz.f9.body.bind (Qh 13)).getD #[]) (msk 107 162259276829213363391578010288127)= []:=Kr
theorem Qle:Qrc ((Tryz.f9.body.bind (Qh 13)).getD #[]):=⟨Qrd,Qre,Qrf,Qrg,Qrh,Qri,Qrj,Qrk,Qrl,Qrm,QnP,QnQ,QnR,QnS,QnT,QnU,QnV,QnW,QnX⟩
theorem Qbg(w:World):Cr 9 #[] w (.bool true):=by
 obtain⟨S,eS⟩: ∃S,QdW=S:=⟨_,rfl⟩;have q3:Hid (Calls Tryz.prog 37 #[] w fun e w'=> ∃v,e= .returned (.tuple #[v,.int .i64 13])∧Z8 w w' v S):=Xh (by rw [←eS];exact QnO w);have q4:=Xh (show S.length=76 by rw [←eS];exact Qmm);have o4:=Xh eS;clear eS
 go_enter Tryz.func9,Tryz.ntmps9
 go_upto_region 2 with(go_at_call 37;(refine(q3.out).mono ?_);rintro e W1 ⟨v,rfl,o1⟩;obtain⟨g,q,rfl,hq,-,-,-,-⟩:=o1.own.at (by have:=q4.out;omega);have t:SlB W1 (some ⟨g,0,none⟩) S:=(by obtain⟨p,c,e,-,s⟩:=o1.sl;cases e;exact s);have E:=o1.ext;clear o1)
 go_upto_region 2 with(fail)
 refine wp_region_lit ?_;refine JS (R:=fun v w'=>(fun v _=>v= .tuple #[.agg (agv wA),.int .i64 0]) v w'∧Ext W1 w') rfl Kr (ZC (QAp W1)) ?_;rintro _ c3 ⟨rfl,q2⟩;have E:=E.tr q2;have t:=t.ext q2;have d:=Ext.rf c3;refine listV (v:= .tuple #[.agg (agv wA),.int .i64 0]) (w':=c3) rfl Kr ?_;refine listV (v:= .agg (agv wA)) (w':=c3) rfl Kr ?_;refine listV (v:= .int .i64 0) (w':=c3) rfl Kr ?_;refine listV rfl (Qz _ _ _ _ _ _ _) ?_;obtain⟨b3,e3⟩: ∃b,c3.heap.size=b:=⟨_,rfl⟩;obtain⟨j9,k0⟩: ∃N,c3.alloc (.cells (agv agz) 27)=N:=⟨_,rfl⟩;have u:RowZ j9 b3 (agv agz):=by rw [←k0,←e3];exact RowZ.new _ _ _
 have l3:c3.heap.size≤b3:=by rw [←e3];exact d.size
 have m:Ext c3 j9:=by rw [←k0];exact Ea
 have d:=d.tr m;rw [k0,e3];clear k0 e3 m;refine Zj rfl (Ze (B:=b3) (cs:=agv wA) (by rw [u.r];exact Qg) u.z Qg Zr Kr Kr) ?_;obtain⟨d5,g4⟩: ∃d5,Qe j9 b3 0 (agv wA)=d5:=⟨_,rfl⟩;have y:Mv (fun q=>q=b3) j9 d5:=by rw [←g4];exact Mv.sa _ rfl (Mv.refl _ _)
 have u:RowZ d5 b3 (agv wA):=by rw [←g4];exact u.all _ (Qg.trans Qg.symm)
 have d:Ext c3 d5:=by rw [←g4];exact Ext.sa _ l3 d
 clear y;rw [g4];clear g4;refine listV (v:= .int .i64 0) (w':=d5) rfl Kr ?_;refine wpList_nil ?_;have f:=Xh d;clear d;have E:=E.tr f.out;have t:=t.ext f.out;clear f l3;go_simp
 go_upto_region 3 with(fail)
 refine wp_region_lit ?_;refine JS (R:=fun v w'=>(fun v _=>v= .tuple #[.agg (agv agz),.int .i64 2]) v w'∧Ext d5 w') rfl Kr (ZC (QAq d5)) ?_;rintro _ c4 ⟨rfl,o5⟩;have E:=E.tr o5;have t:=t.ext o5;have u:=u.ext o5;have d:=Ext.rf c4;refine listV (v:= .tuple #[.agg (agv agz),.int .i64 2]) (w':=c4) rfl Kr ?_;refine listV (v:= .agg (agv agz)) (w':=c4) rfl Kr ?_;refine listV (v:= .int .i64 2) (w':=c4) rfl Kr ?_;refine listV rfl (Qz _ _ _ _ _ _ _) ?_;obtain⟨b5,e5⟩: ∃b,c4.heap.size=b:=⟨_,rfl⟩;obtain⟨k1,k2⟩: ∃N,c4.alloc (.cells (agv agz) 27)=N:=⟨_,rfl⟩;have r5:RowZ k1 b5 (agv agz):=by rw [←k2,←e5];exact RowZ.new _ _ _
 have l5:c4.heap.size≤b5:=by rw [←e5];exact d.size
 have m:Ext c4 k1:=by rw [←k2];exact Ea
 have d:=d.tr m;rw [k2,e5];clear k2 e5 m;refine Zj rfl (Ze (B:=b5) (cs:=agv agz) (by rw [r5.r];exact Qg) r5.z Qg Zr Kr Kr) ?_;obtain⟨c5,g5⟩: ∃c5,Qe k1 b5 0 (agv agz)=c5:=⟨_,rfl⟩;have y:Mv (fun q=>q=b5) k1 c5:=by rw [←g5];exact Mv.sa _ rfl (Mv.refl _ _)
 have r5:RowZ c5 b5 (agv agz):=by rw [←g5];exact r5.all _ (Qg.trans Qg.symm)
 have d:Ext c4 c5:=by rw [←g5];exact Ext.sa _ l5 d
 clear y;rw [g5];clear g5;refine listV (v:= .int .i64 2) (w':=c5) rfl Kr ?_;refine wpList_nil ?_;have f:=Xh d;clear d;have E:=E.tr f.out;have t:=t.ext f.out;have u:=u.ext f.out;clear f l5;go_simp
 go_upto_region 4 with(fail)
 refine wp_region_lit ?_;refine listV (v:= .agg (agv wA)) (w':=c5) rfl ((Zx (C:=fun _=>False) u (fun h=>h) Kr) _ (Mv.refl (fun _=>False) _)) ?_;refine listV (v:= .slice (some ⟨g,0,none⟩) S.length q) (w':=c5) rfl Kr ?_;refine JS (R:=fun v w'=>(InW (fun p c=>{wA with p:=p,xs:= [],c:=c}) 15 [] []) v w'∧Ext c5 w') rfl Kr (Qy1 o4.out t hq) ?_;rintro _ a5 ⟨⟨p7,c7,g6,g7,g8,g9,rfl,-,-⟩,o6⟩;have E:=E.tr o6;have t:=t.ext o6;have u:=u.ext o6;have d:=Ext.rf a5;refine listV (v:= .tuple #[.agg (agv {wA with p:=p7,xs:= [],c:=c7}),.agg (dnv ⟨15,g6,0,g7,g8,0,g9⟩)]) (w':=a5) rfl Kr ?_;refine listV (v:= .agg (agv {wA with p:=p7,xs:= [],c:=c7})) (w':=a5) rfl Kr ?_;refine listV (v:= .agg (dnv ⟨15,g6,0,g7,g8,0,g9⟩)) (w':=a5) rfl Kr ?_;refine listV rfl (Qz _ _ _ _ _ _ _) ?_;obtain⟨b7,e7⟩: ∃b,a5.heap.size=b:=⟨_,rfl⟩;obtain⟨h0,k3⟩: ∃N,a5.alloc (.cells (agv agz) 27)=N:=⟨_,rfl⟩;have r7:RowZ h0 b7 (agv agz):=by rw [←k3,←e7];exact RowZ.new _ _ _
 have l7:a5.heap.size≤b7:=by rw [←e7];exact d.size
 have m:Ext a5 h0:=by rw [←k3];exact Ea
 have d:=d.tr m;rw [k3,e7];clear k3 e7 m;refine listV rfl (QbA _) ?_;obtain⟨b8,e8⟩: ∃b,h0.heap.size=b:=⟨_,rfl⟩;obtain⟨k4,k5⟩: ∃N,h0.alloc (.cells (#[.int .u8 0,.slice none 0 0,.slice none 0 0]) 42)=N:=⟨_,rfl⟩;have r4:b7<b8:=by have:=r7.l;unfold Lt at this;omega
 have i:RowZ k4 b8 (#[.int .u8 0,.slice none 0 0,.slice none 0 0]):=by rw [←k5,←e8];exact RowZ.new _ _ _
 have l8:a5.heap.size≤b8:=by rw [←e8];exact d.size
 have m:Ext h0 k4:=by rw [←k5];exact Ea
 have d:=d.tr m;have r7:=r7.ext m;rw [k5,e8];clear k5 e8 m;refine Zj rfl (Ze (B:=b7) (cs:=agv {wA with p:=p7,xs:= [],c:=c7}) (by rw [r7.r];exact Qg) r7.z Qg Zr Kr Kr) ?_;obtain⟨e2,h1⟩: ∃e2,Qe k4 b7 0 (agv {wA with p:=p7,xs:= [],c:=c7})=e2:=⟨_,rfl⟩;have y:Mv (fun q=>q=b7) k4 e2:=by rw [←h1];exact Mv.sa _ rfl (Mv.refl _ _)
 have r7:RowZ e2 b7 (agv {wA with p:=p7,xs:= [],c:=c7}):=by rw [←h1];exact r7.all _ (Qg.trans Qg.symm)
 have d:Ext a5 e2:=by rw [←h1];exact Ext.sa _ l7 d
 have i:=i.mv y Om;clear y;rw [h1];clear h1;refine Zj rfl (Yq (B:=b8) (cs:=dnv ⟨15,g6,0,g7,g8,0,g9⟩) (by rw [i.r];rfl) i.z rfl (by simp [go_sem,dnv]) Kr Kr) ?_;obtain⟨b2,h2⟩: ∃b2,Qe e2 b8 0 (dnv ⟨15,g6,0,g7,g8,0,g9⟩)=b2:=⟨_,rfl⟩;have y:Mv (fun q=>q=b8) e2 b2:=by rw [←h2];exact Mv.sa _ rfl (Mv.refl _ _)
 have i:RowZ b2 b8 (dnv ⟨15,g6,0,g7,g8,0,g9⟩):=by rw [←h2];exact i.all _ rfl
 have d:Ext a5 b2:=by rw [←h2];exact Ext.sa _ l8 d
 have r7:=r7.mv y Om;clear y;rw [h2];clear h2;refine wpList_nil ?_;have f:=Xh d;clear d;have E:=E.tr f.out;have t:=t.ext f.out;have u:=u.ext f.out;clear f l7 l8;go_simp
 go_upto_region 5 with(fail)
 refine wp_region_lit ?_;refine listV (v:= .agg (agv wA)) (w':=b2) rfl ((Zx (C:=fun _=>False) u (fun h=>h) Kr) _ (Mv.refl (fun _=>False) _)) ?_;refine listV (v:= .int .i64 13) (w':=b2) rfl Kr ?_;refine listV (v:= .agg (ctv wX2)) (w':=b2) rfl Kr ?_;refine JS (R:=fun v w'=>(Qy4) v w'∧Ext b2 w') rfl Kr (Qy5 b2) ?_;rintro _ a2 ⟨⟨p9,c9,k6,k7,rfl⟩,k8⟩;have E:=E.tr k8;have t:=t.ext k8;have u:=u.ext k8;have i:=i.ext k8;have d:=Ext.rf a2;refine listV (v:= .tuple #[.agg (agv (wB p9 c9)),.slice k6 0 k7,.agg (ctv ⟨4,2,2,13,1,0,0,0,0,none,0,0⟩),.bool true]) (w':=a2) rfl Kr ?_;refine listV (v:= .agg (agv (wB p9 c9))) (w':=a2) rfl Kr ?_;refine listV (v:= .slice k6 0 k7) (w':=a2) rfl Kr ?_;refine listV (v:= .agg (ctv ⟨4,2,2,13,1,0,0,0,0,none,0,0⟩)) (w':=a2) rfl Kr ?_;refine listV (v:= .bool true) (w':=a2) rfl Kr ?_;refine listV rfl (Qz _ _ _ _ _ _ _) ?_;obtain⟨b9,e9⟩: ∃b,a2.heap.size=b:=⟨_,rfl⟩;obtain⟨h3,k9⟩: ∃N,a2.alloc (.cells (agv agz) 27)=N:=⟨_,rfl⟩;have k:RowZ h3 b9 (agv agz):=by rw [←k9,←e9];exact RowZ.new _ _ _
 have l9:a2.heap.size≤b9:=by rw [←e9];exact d.size
 have m:Ext a2 h3:=by rw [←k9];exact Ea
 have d:=d.tr m;rw [k9,e9];clear k9 e9 m;refine listV rfl (Qdu _) ?_;obtain⟨b4,l0⟩: ∃b,h3.heap.size=b:=⟨_,rfl⟩;obtain⟨l1,l2⟩: ∃N,h3.alloc (.cells (ctv ⟨0,0,0,0,0,0,0,0,0,none,0,0⟩) 33)=N:=⟨_,rfl⟩;have r6:b9<b4:=by have:=k.l;unfold Lt at this;omega
 have j:RowZ l1 b4 (ctv ⟨0,0,0,0,0,0,0,0,0,none,0,0⟩):=by rw [←l2,←l0];exact RowZ.new _ _ _
 have p1:a2.heap.size≤b4:=by rw [←l0];exact d.size
 have m:Ext h3 l1:=by rw [←l2];exact Ea
 have d:=d.tr m;have k:=k.ext m;rw [l2,l0];clear l2 l0 m;refine Zj rfl (Ze (B:=b9) (cs:=agv (wB p9 c9)) (by rw [k.r];exact Qg) k.z Qg Zr Kr Kr) ?_;obtain⟨d6,h4⟩: ∃d6,Qe l1 b9 0 (agv (wB p9 c9))=d6:=⟨_,rfl⟩;have y:Mv (fun q=>q=b9) l1 d6:=by rw [←h4];exact Mv.sa _ rfl (Mv.refl _ _)
 have k:RowZ d6 b9 (agv (wB p9 c9)):=by rw [←h4];exact k.all _ (Qg.trans Qg.symm)
 have d:Ext a2 d6:=by rw [←h4];exact Ext.sa _ l9 d
 have j:=j.mv y Om;clear y;rw [h4];clear h4;refine listV (v:= .slice k6 0 k7) (w':=d6) rfl Kr ?_;refine Zj rfl (JF (B:=b4) (cs:=ctv ⟨4,2,2,13,1,0,0,0,0,none,0,0⟩) (by rw [j.r];exact QS) j.z QS Qbw Kr Kr) ?_;obtain⟨a6,h5⟩: ∃a6,Qe d6 b4 0 (ctv ⟨4,2,2,13,1,0,0,0,0,none,0,0⟩)=a6:=⟨_,rfl⟩;have y:Mv (fun q=>q=b4) d6 a6:=by rw [←h5];exact Mv.sa _ rfl (Mv.refl _ _)
 have j:RowZ a6 b4 (ctv ⟨4,2,2,13,1,0,0,0,0,none,0,0⟩):=by rw [←h5];exact j.all _ (QS.trans QS.symm)
 have d:Ext a2 a6:=by rw [←h5];exact Ext.sa _ p1 d
 have k:=k.mv y Om;clear y;rw [h5];clear h5;refine listV (v:= .bool true) (w':=a6) rfl Kr ?_;refine wpList_nil ?_;have f:=Xh d;clear d;have E:=E.tr f.out;have t:=t.ext f.out;have u:=u.ext f.out;have i:=i.ext f.out;clear f l9 p1;go_simp
 go_upto_region 6 with(fail)
 refine wp_region_lit ?_;refine listV (v:= .agg (agv wA)) (w':=a6) rfl ((Zx (C:=fun _=>False) u (fun h=>h) Kr) _ (Mv.refl (fun _=>False) _)) ?_;refine listV (v:= .int .i64 13) (w':=a6) rfl Kr ?_;refine listV (v:= .agg (ctv wX3)) (w':=a6) rfl Kr ?_;refine JS (R:=fun v w'=>(Qy6) v w'∧Ext a6 w') rfl Kr (Qy7 a6) ?_;rintro _ a3 ⟨⟨h6,o7,o8,o9,h7,rfl⟩,f7⟩;have E:=E.tr f7;have t:=t.ext f7;have u:=u.ext f7;have i:=i.ext f7;have k:=k.ext f7;have j:=j.ext f7;have d:=Ext.rf a3;refine listV (v:= .tuple #[.agg (agv h6),.slice o7 o8 o9,.agg (ctv h7),.bool false]) (w':=a3) rfl Kr ?_;refine listV (v:= .agg (agv h6)) (w':=a3) rfl Kr ?_;refine listV (v:= .slice o7 o8 o9) (w':=a3) rfl Kr ?_;refine listV (v:= .agg (ctv h7)) (w':=a3) rfl Kr ?_;refine listV (v:= .bool false) (w':=a3) rfl Kr ?_;refine listV rfl (Qz _ _ _ _ _ _ _) ?_;obtain⟨e4,l4⟩: ∃b,a3.heap.size=b:=⟨_,rfl⟩;obtain⟨h8,l6⟩: ∃N,a3.alloc (.cells (agv agz) 27)=N:=⟨_,rfl⟩;have c2:RowZ h8 e4 (agv agz):=by rw [←l6,←l4];exact RowZ.new _ _ _
 have p2:a3.heap.size≤e4:=by rw [←l4];exact d.size
 have m:Ext a3 h8:=by rw [←l6];exact Ea
 have d:=d.tr m;rw [l6,l4];clear l6 l4 m;refine listV rfl (Qdu _) ?_;obtain⟨e6,m0⟩: ∃b,h8.heap.size=b:=⟨_,rfl⟩;obtain⟨m1,m2⟩: ∃N,h8.alloc (.cells (ctv ⟨0,0,0,0,0,0,0,0,0,none,0,0⟩) 33)=N:=⟨_,rfl⟩;have s0:e4<e6:=by have:=c2.l;unfold Lt at this;omega
 have f6:RowZ m1 e6 (ctv ⟨0,0,0,0,0,0,0,0,0,none,0,0⟩):=by rw [←m2,←m0];exact RowZ.new _ _ _
 have p3:a3.heap.size≤e6:=by rw [←m0];exact d.size
 have m:Ext h8 m1:=by rw [←m2];exact Ea
 have d:=d.tr m;have c2:=c2.ext m;rw [m2,m0];clear m2 m0 m;refine Zj rfl (Ze (B:=e4) (cs:=agv h6) (by rw [c2.r];exact Qg) c2.z Qg Zr Kr Kr) ?_;obtain⟨d7,h9⟩: ∃d7,Qe m1 e4 0 (agv h6)=d7:=⟨_,rfl⟩;have y:Mv (fun q=>q=e4) m1 d7:=by rw [←h9];exact Mv.sa _ rfl (Mv.refl _ _)
 have c2:RowZ d7 e4 (agv h6):=by rw [←h9];exact c2.all _ (Qg.trans Qg.symm)
 have d:Ext a3 d7:=by rw [←h9];exact Ext.sa _ p2 d
 have f6:=f6.mv y Om;clear y;rw [h9];clear h9;refine listV (v:= .slice o7 o8 o9) (w':=d7) rfl Kr ?_;refine Zj rfl (JF (B:=e6) (cs:=ctv h7) (by rw [f6.r];exact QS) f6.z QS Qbw Kr Kr) ?_;obtain⟨c6,i0⟩: ∃c6,Qe d7 e6 0 (ctv h7)=c6:=⟨_,rfl⟩;have y:Mv (fun q=>q=e6) d7 c6:=by rw [←i0];exact Mv.sa _ rfl (Mv.refl _ _)
 have f6:RowZ c6 e6 (ctv h7):=by rw [←i0];exact f6.all _ (QS.trans QS.symm)
 have d:Ext a3 c6:=by rw [←i0];exact Ext.sa _ p3 d
 have c2:=c2.mv y Om;clear y;rw [i0];clear i0;refine listV (v:= .bool false) (w':=c6) rfl Kr ?_;refine wpList_nil ?_;have f:=Xh d;clear d;have E:=E.tr f.out;have t:=t.ext f.out;have u:=u.ext f.out;have i:=i.ext f.out;have k:=k.ext f.out;have j:=j.ext f.out;clear f p2 p3;go_simp
 go_upto_region 7 with(fail)
 refine wp_region_lit ?_;refine listV (v:= .agg (agv (wB p9 c9))) (w':=c6) rfl ((Zx (C:=fun _=>False) k (fun h=>h) Kr) _ (Mv.refl (fun _=>False) _)) ?_;refine listV (v:= .slice (some ⟨g,0,none⟩) S.length q) (w':=c6) rfl Kr ?_;refine JS (R:=fun v w'=>(InW wC 0 [⟨Yd,5,5⟩] [⟨1,2,Yd⟩]) v w'∧Ext c6 w') rfl Kr (Qy2 o4.out p9 c9 t hq) ?_;rintro _ a7 ⟨⟨U,V,i1,b6,i2,i3,rfl,D,Q⟩,f8⟩;have E:=E.tr f8;have t:=t.ext f8;have u:=u.ext f8;have i:=i.ext f8;have k:=k.ext f8;have j:=j.ext f8;have d:=Ext.rf a7;refine listV (v:= .tuple #[.agg (agv (wC U V)),.agg (dnv ⟨0,i1,1,b6,i2,0,i3⟩)]) (w':=a7) rfl Kr ?_;refine listV (v:= .agg (agv (wC U V))) (w':=a7) rfl Kr ?_;refine listV (v:= .agg (dnv ⟨0,i1,1,b6,i2,0,i3⟩)) (w':=a7) rfl Kr ?_;refine listV rfl (Qz _ _ _ _ _ _ _) ?_;obtain⟨d8,m3⟩: ∃b,a7.heap.size=b:=⟨_,rfl⟩;obtain⟨i4,m4⟩: ∃N,a7.alloc (.cells (agv agz) 27)=N:=⟨_,rfl⟩;have n:RowZ i4 d8 (agv agz):=by rw [←m4,←m3];exact RowZ.new _ _ _
 have p4:a7.heap.size≤d8:=by rw [←m3];exact d.size
 have m:Ext a7 i4:=by rw [←m4];exact Ea
 have d:=d.tr m;rw [m4,m3];clear m4 m3 m;refine listV rfl (QbA _) ?_;obtain⟨c0,m5⟩: ∃b,i4.heap.size=b:=⟨_,rfl⟩;obtain⟨m6,m7⟩: ∃N,i4.alloc (.cells (#[.int .u8 0,.slice none 0 0,.slice none 0 0]) 42)=N:=⟨_,rfl⟩;have s1:d8<c0:=by have:=n.l;unfold Lt at this;omega
 have x:RowZ m6 c0 (#[.int .u8 0,.slice none 0 0,.slice none 0 0]):=by rw [←m7,←m5];exact RowZ.new _ _ _
 have p5:a7.heap.size≤c0:=by rw [←m5];exact d.size
 have m:Ext i4 m6:=by rw [←m7];exact Ea
 have d:=d.tr m;have n:=n.ext m;rw [m7,m5];clear m7 m5 m;refine Zj rfl (Ze (B:=d8) (cs:=agv (wC U V)) (by rw [n.r];exact Qg) n.z Qg Zr Kr Kr) ?_;obtain⟨f0,i5⟩: ∃f0,Qe m6 d8 0 (agv (wC U V))=f0:=⟨_,rfl⟩;have y:Mv (fun q=>q=d8) m6 f0:=by rw [←i5];exact Mv.sa _ rfl (Mv.refl _ _)
 have n:RowZ f0 d8 (agv (wC U V)):=by rw [←i5];exact n.all _ (Qg.trans Qg.symm)
 have d:Ext a7 f0:=by rw [←i5];exact Ext.sa _ p4 d
 have x:=x.mv y Om;clear y;rw [i5];clear i5;refine Zj rfl (Yq (B:=c0) (cs:=dnv ⟨0,i1,1,b6,i2,0,i3⟩) (by rw [x.r];rfl) x.z rfl (by simp [go_sem,dnv]) Kr Kr) ?_;obtain⟨d9,i6⟩: ∃d9,Qe f0 c0 0 (dnv ⟨0,i1,1,b6,i2,0,i3⟩)=d9:=⟨_,rfl⟩;have y:Mv (fun q=>q=c0) f0 d9:=by rw [←i6];exact Mv.sa _ rfl (Mv.refl _ _)
 have x:RowZ d9 c0 (dnv ⟨0,i1,1,b6,i2,0,i3⟩):=by rw [←i6];exact x.all _ rfl
 have d:Ext a7 d9:=by rw [←i6];exact Ext.sa _ p5 d
 have n:=n.mv y Om;clear y;rw [i6];clear i6;refine wpList_nil ?_;have f:=Xh d;clear d;have E:=E.tr f.out;have t:=t.ext f.out;have u:=u.ext f.out;have i:=i.ext f.out;have k:=k.ext f.out;have j:=j.ext f.out;have D:=D.ext f.out;have Q:=Q.ext f.out;clear f p4 p5;go_simp
 go_upto_region 8 with(fail)
 refine wp_region_lit ?_;refine listV (v:= .agg (agv (wC U V))) (w':=d9) rfl ((Zx (C:=fun _=>False) n (fun h=>h) Kr) _ (Mv.refl (fun _=>False) _)) ?_;refine listV (v:= .slice (some ⟨g,0,none⟩) S.length q) (w':=d9) rfl Kr ?_;refine JS (R:=fun v w'=>(InW wD 0 [⟨Yd,5,6⟩] [⟨2,2,Yd⟩]) v w'∧Ext d9 w') rfl Kr (Qy3 o4.out U V D t hq) ?_;rintro _ a8 ⟨⟨a9,b0,i7,e0,i8,i9,rfl,G,a4⟩,c1⟩;have E:=E.tr c1;have t:=t.ext c1;have u:=u.ext c1;have i:=i.ext c1;have k:=k.ext c1;have j:=j.ext c1;have D:=D.ext c1;have Q:=Q.ext c1;have n:=n.ext c1;have x:=x.ext c1;have d:=Ext.rf a8;refine listV (v:= .tuple #[.agg (agv (wD a9 b0)),.agg (dnv ⟨0,i7,1,e0,i8,0,i9⟩)]) (w':=a8) rfl Kr ?_;refine listV (v:= .agg (agv (wD a9 b0))) (w':=a8) rfl Kr ?_;refine listV (v:= .agg (dnv ⟨0,i7,1,e0,i8,0,i9⟩)) (w':=a8) rfl Kr ?_;refine listV rfl (Qz _ _ _ _ _ _ _) ?_;obtain⟨f1,m8⟩: ∃b,a8.heap.size=b:=⟨_,rfl⟩;obtain⟨j0,m9⟩: ∃N,a8.alloc (.cells (agv agz) 27)=N:=⟨_,rfl⟩;have A:RowZ j0 f1 (agv agz):=by rw [←m9,←m8];exact RowZ.new _ _ _
 have p6:a8.heap.size≤f1:=by rw [←m8];exact d.size
 have m:Ext a8 j0:=by rw [←m9];exact Ea
 have d:=d.tr m;rw [m9,m8];clear m9 m8 m;refine listV rfl (QbA _) ?_;obtain⟨c8,n0⟩: ∃b,j0.heap.size=b:=⟨_,rfl⟩;obtain⟨n1,n2⟩: ∃N,j0.alloc (.cells (#[.int .u8 0,.slice none 0 0,.slice none 0 0]) 42)=N:=⟨_,rfl⟩;have s2:f1<c8:=by have:=A.l;unfold Lt at this;omega
 have F:RowZ n1 c8 (#[.int .u8 0,.slice none 0 0,.slice none 0 0]):=by rw [←n2,←n0];exact RowZ.new _ _ _
 have p8:a8.heap.size≤c8:=by rw [←n0];exact d.size
 have m:Ext j0 n1:=by rw [←n2];exact Ea
 have d:=d.tr m;have A:=A.ext m;rw [n2,n0];clear n2 n0 m;refine Zj rfl (Ze (B:=f1) (cs:=agv (wD a9 b0)) (by rw [A.r];exact Qg) A.z Qg Zr Kr Kr) ?_;obtain⟨f2,j1⟩: ∃f2,Qe n1 f1 0 (agv (wD a9 b0))=f2:=⟨_,rfl⟩;have y:Mv (fun q=>q=f1) n1 f2:=by rw [←j1];exact Mv.sa _ rfl (Mv.refl _ _)
 have A:RowZ f2 f1 (agv (wD a9 b0)):=by rw [←j1];exact A.all _ (Qg.trans Qg.symm)
 have d:Ext a8 f2:=by rw [←j1];exact Ext.sa _ p6 d
 have F:=F.mv y Om;clear y;rw [j1];clear j1;refine Zj rfl (Yq (B:=c8) (cs:=dnv ⟨0,i7,1,e0,i8,0,i9⟩) (by rw [F.r];rfl) F.z rfl (by simp [go_sem,dnv]) Kr Kr) ?_;obtain⟨e1,j2⟩: ∃e1,Qe f2 c8 0 (dnv ⟨0,i7,1,e0,i8,0,i9⟩)=e1:=⟨_,rfl⟩;have y:Mv (fun q=>q=c8) f2 e1:=by rw [←j2];exact Mv.sa _ rfl (Mv.refl _ _)
 have F:RowZ e1 c8 (dnv ⟨0,i7,1,e0,i8,0,i9⟩):=by rw [←j2];exact F.all _ rfl
 have d:Ext a8 e1:=by rw [←j2];exact Ext.sa _ p8 d
 have A:=A.mv y Om;clear y;rw [j2];clear j2;refine wpList_nil ?_;have f:=Xh d;clear d;have E:=E.tr f.out;have t:=t.ext f.out;have u:=u.ext f.out;have i:=i.ext f.out;have k:=k.ext f.out;have j:=j.ext f.out;have D:=D.ext f.out;have Q:=Q.ext f.out;have n:=n.ext f.out;have x:=x.ext f.out;have G:=G.ext f.out;have a4:=a4.ext f.out;clear f p6 p8;go_simp
 go_upto_region 9 with(fail)
 refine wp_region_lit ?_;refine listV (v:= .agg (agv (wD a9 b0))) (w':=e1) rfl ((Zx (C:=fun _=>False) A (fun h=>h) Kr) _ (Mv.refl (fun _=>False) _)) ?_;refine JS (R:=fun v w'=>(TiW wD [⟨Yd,5,6⟩] []) v w'∧Ext e1 w') rfl Kr (Qv8 a9 b0 e1 G) ?_;rintro _ d0 ⟨⟨f3,f4,n3,n4,rfl,I,-⟩,a1⟩;have E:=E.tr a1;have t:=t.ext a1;have u:=u.ext a1;have i:=i.ext a1;have k:=k.ext a1;have j:=j.ext a1;have D:=D.ext a1;have Q:=Q.ext a1;have n:=n.ext a1;have x:=x.ext a1;have G:=G.ext a1;have a4:=a4.ext a1;have A:=A.ext a1;have F:=F.ext a1;have d:=Ext.rf d0;refine listV (v:= .tuple #[.agg (agv (wD f3 f4)),.slice n3 0 n4]) (w':=d0) rfl Kr ?_;refine listV (v:= .agg (agv (wD f3 f4))) (w':=d0) rfl Kr ?_;refine listV (v:= .slice n3 0 n4) (w':=d0) rfl Kr ?_;refine listV rfl (Qz _ _ _ _ _ _ _) ?_;obtain⟨g0,n5⟩: ∃b,d0.heap.size=b:=⟨_,rfl⟩;obtain⟨n6,n7⟩: ∃N,d0.alloc (.cells (agv agz) 27)=N:=⟨_,rfl⟩;have H:RowZ n6 g0 (agv agz):=by rw [←n7,←n5];exact RowZ.new _ _ _
 have q0:d0.heap.size≤g0:=by rw [←n5];exact d.size
 have m:Ext d0 n6:=by rw [←n7];exact Ea
 have d:=d.tr m;rw [n7,n5];clear n7 n5 m;refine Zj rfl (Ze (B:=g0) (cs:=agv (wD f3 f4)) (by rw [H.r];exact Qg) H.z Qg Zr Kr Kr) ?_;obtain⟨d1,j3⟩: ∃d1,Qe n6 g0 0 (agv (wD f3 f4))=d1:=⟨_,rfl⟩;have y:Mv (fun q=>q=g0) n6 d1:=by rw [←j3];exact Mv.sa _ rfl (Mv.refl _ _)
 have H:RowZ d1 g0 (agv (wD f3 f4)):=by rw [←j3];exact H.all _ (Qg.trans Qg.symm)
 have d:Ext d0 d1:=by rw [←j3];exact Ext.sa _ q0 d
 clear y;rw [j3];clear j3;refine listV (v:= .slice n3 0 n4) (w':=d1) rfl Kr ?_;refine wpList_nil ?_;have f:=Xh d;clear d;have E:=E.tr f.out;have t:=t.ext f.out;have u:=u.ext f.out;have i:=i.ext f.out;have k:=k.ext f.out;have j:=j.ext f.out;have D:=D.ext f.out;have Q:=Q.ext f.out;have n:=n.ext f.out;have x:=x.ext f.out;have G:=G.ext f.out;have a4:=a4.ext f.out;have A:=A.ext f.out;have F:=F.ext f.out;have I:=I.ext f.out;clear f q0;go_simp
 go_upto_region 10 with(fail)
 refine wp_region_lit ?_;refine listV (v:= .agg (agv (wD a9 b0))) (w':=d1) rfl ((Zx (C:=fun _=>False) A (fun h=>h) Kr) _ (Mv.refl (fun _=>False) _)) ?_;refine JS (R:=fun v w'=>(TiW wE [] [⟨4,2,Yd⟩]) v w'∧Ext d1 w') rfl Kr (Qv9 a9 b0 d1 G) ?_;rintro _ d2 ⟨⟨g2,g3,p0,j4,rfl,-,j8⟩,W⟩;have E:=E.tr W;have t:=t.ext W;have u:=u.ext W;have i:=i.ext W;have k:=k.ext W;have j:=j.ext W;have D:=D.ext W;have Q:=Q.ext W;have n:=n.ext W;have x:=x.ext W;have G:=G.ext W;have a4:=a4.ext W;have A:=A.ext W;have F:=F.ext W;have I:=I.ext W;have H:=H.ext W;have d:=Ext.rf d2;refine listV (v:= .tuple #[.agg (agv (wE g2 g3)),.slice p0 1 j4]) (w':=d2) rfl Kr ?_;refine listV (v:= .agg (agv (wE g2 g3))) (w':=d2) rfl Kr ?_;refine listV (v:= .slice p0 1 j4) (w':=d2) rfl Kr ?_;refine listV rfl (Qz _ _ _ _ _ _ _) ?_;obtain⟨f5,n8⟩: ∃b,d2.heap.size=b:=⟨_,rfl⟩;obtain⟨n9,o0⟩: ∃N,d2.alloc (.cells (agv agz) 27)=N:=⟨_,rfl⟩;have J:RowZ n9 f5 (agv agz):=by rw [←o0,←n8];exact RowZ.new _ _ _
 have q1:d2.heap.size≤f5:=by rw [←n8];exact d.size
 have m:Ext d2 n9:=by rw [←o0];exact Ea
 have d:=d.tr m;rw [o0,n8];clear o0 n8 m;refine Zj rfl (Ze (B:=f5) (cs:=agv (wE g2 g3)) (by rw [J.r];exact Qg) J.z Qg Zr Kr Kr) ?_;obtain⟨b1,j5⟩: ∃b1,Qe n9 f5 0 (agv (wE g2 g3))=b1:=⟨_,rfl⟩;have y:Mv (fun q=>q=f5) n9 b1:=by rw [←j5];exact Mv.sa _ rfl (Mv.refl _ _)
 have J:RowZ b1 f5 (agv (wE g2 g3)):=by rw [←j5];exact J.all _ (Qg.trans Qg.symm)
 have d:Ext d2 b1:=by rw [←j5];exact Ext.sa _ q1 d
 clear y;rw [j5];clear j5;refine listV (v:= .slice p0 1 j4) (w':=b1) rfl Kr ?_;refine wpList_nil ?_;have f:=Xh d;clear d;have E:=E.tr f.out;have t:=t.ext f.out;have u:=u.ext f.out;have i:=i.ext f.out;have k:=k.ext f.out;have j:=j.ext f.out;have D:=D.ext f.out;have Q:=Q.ext f.out;have n:=n.ext f.out;have x:=x.ext f.out;have G:=G.ext f.out;have a4:=a4.ext f.out;have A:=A.ext f.out;have F:=F.ext f.out;have I:=I.ext f.out;have H:=H.ext f.out;have j8:=j8.ext f.out;clear f q1;go_simp;obtain⟨d3,d4,rfl,K⟩:=Q.evb;clear Q;obtain⟨j6,j7,rfl,L⟩:=a4.evb;clear a4;obtain⟨o2,o3,rfl,M⟩:=j8.evb;clear j8;have q5:b1.cell? ⟨c0,1,none⟩=some (.slice (some ⟨d3,d4,none⟩) 1 b6):=x.cell 1 (by show 1<3;omega);have q6:b1.cell? ⟨c8,1,none⟩=some (.slice (some ⟨j6,j7,none⟩) 1 e0):=F.cell 1 (by show 1<3;omega);have q7:b1.cell? ⟨d8,66,none⟩=some (.slice U 1 V):=by rw [Qa,n.r];exact Qu _
 have HC:=Xh (And.intro E (And.intro i (And.intro k (And.intro j (And.intro D (And.intro K (And.intro n (And.intro x (And.intro G (And.intro L (And.intro A (And.intro F (And.intro I (And.intro H (And.intro M J)))))))))))))));clear E i k j D K n x G L A F I H M J t u
 go_upto_region 13 with(fail)
 obtain⟨E,i,k,j,D,K,n,x,G,L,A,F,I,H,M,J⟩:=HC.out;clear HC q5 q6 q7;refine QO (fun _=>False) Kr ?_;obtain⟨WW,hW⟩: ∃Wdr,World.drew b1=Wdr:=⟨_,rfl⟩;have T:Ext b1 WW:=by rw [←hW];exact Ext.dr (Ext.rf _)
 rw [hW];clear hW;have E:=E.tr T;have i:=i.ext T;have k:=k.ext T;have j:=j.ext T;have D:=D.ext T;have K:=K.ext T;have n:=n.ext T;have x:=x.ext T;have G:=G.ext T;have L:=L.ext T;have A:=A.ext T;have F:=F.ext T;have I:=I.ext T;have H:=H.ext T;have M:=M.ext T;have J:=J.ext T;refine QaH (N:=107) (R:=Qrc) (E:=((Tryz.f9.body.bind (Qh 13)).getD #[])) Kr Qle Kr fun hS=> ?_;have a:=hS.2.1;refine tMk 1 (.int .i64 0) hS.1 a rfl fun a=>tMk 3 (.bool true) hS.1 a rfl fun a=>tMk 7 (.bool true) hS.1 a rfl fun a=>tMk 15 (.int .i64 2) hS.1 a rfl fun a=>tMk 31 (.bool true) hS.1 a rfl fun a=>tMk 63 (.bool true) hS.1 a rfl fun a=>tMk 127 (.bool true) hS.1 a rfl fun a=>tMk 255 (.pointer (some ⟨b8,0,none⟩)) hS.1 a rfl fun a=>tM 511 (.int .u8 15) hS.1 a rfl (Yv (C:=fun _=>False) (i.cell 0 (by show 0<3;omega)) i.l (fun h=>h) Kr) fun a=>tMk 1023 (.bool true) hS.1 a rfl fun a=>tMk 2047 (.bool true) hS.1 a rfl fun a=>tMk 4095 (.bool true) hS.1 a rfl fun a=>tMk 8191 (.slice k6 0 k7) hS.1 a rfl fun a=>tMk 16383 (.int .i64 0) hS.1 a rfl fun a=> ?_;have a:=hS.2.2.1;refine tMk 32767 (.bool true) hS.1 a rfl fun a=>tMk 65535 (.bool true) hS.1 a rfl fun a=>tMk 131071 (.bool true) hS.1 a rfl fun a=>tMk 262143 (.bool true) hS.1 a rfl fun a=>tMk 524287 (.bool true) hS.1 a rfl fun a=>tMk 1048575 (.bool true) hS.1 a rfl fun a=>tMk 2097151 (.pointer (some ⟨b4,0,none⟩)) hS.1 a rfl fun a=>tM 4194303 (.int .u8 4) hS.1 a rfl (Yv (C:=fun _=>False) (j.cell 0 (by show 0<10;omega)) j.l (fun h=>h) Kr) fun a=>tMk 8388607 (.bool true) hS.1 a rfl fun a=>tMk 16777215 (.bool true) hS.1 a rfl fun a=>tMk 33554431 (.bool true) hS.1 a rfl fun a=>tMk 67108863 (.pointer (some ⟨b4,1,none⟩)) hS.1 a rfl fun a=>tM 134217727 (.int .u8 2) hS.1 a rfl (Yv (C:=fun _=>False) (j.cell 1 (by show 1<10;omega)) j.l (fun h=>h) Kr) fun a=>tMk 268435455 (.bool true) hS.1 a rfl fun a=> ?_;have a:=hS.2.2.2.1;refine tMk 536870911 (.bool true) hS.1 a rfl fun a=>tMk 1073741823 (.bool true) hS.1 a rfl fun a=>tMk 2147483647 (.pointer (some ⟨b4,4,none⟩)) hS.1 a rfl fun a=>tM 4294967295 (.int .i64 1) hS.1 a rfl (Q0 (C:=fun _=>False) (j.cell 4 (by show 4<10;omega)) j.l (fun h=>h) Kr) fun a=>tMk 8589934591 (.bool true) hS.1 a rfl fun a=>tMk 17179869183 (.bool true) hS.1 a rfl fun a=>tMk 34359738367 (.bool true) hS.1 a rfl fun a=>tMk 68719476735 (.bool false) hS.1 a rfl fun a=>tMk 137438953471 (.bool true) hS.1 a rfl fun a=>tMk 274877906943 (.bool true) hS.1 a rfl fun a=>tMk 549755813887 (.bool true) hS.1 a rfl fun a=>tMk 1099511627775 (.pointer (some ⟨c0,1,none⟩)) hS.1 a rfl fun a=>tM 2199023255551 (.slice (some ⟨d3,d4,none⟩) 1 b6) hS.1 a rfl (QaF (C:=fun _=>False) (x.cell 1 (by show 1<3;omega)) x.l (fun h=>h) Kr) fun a=>tM 4398046511103 (.pointer (some ⟨d3,d4,none⟩)) hS.1 a rfl (fun w' _=>QbB (b:=d3) (o:=d4) (c:=b6) Kr Kr w') fun a=> ?_;have a:=hS.2.2.2.2.1;refine tMk 8796093022207 (.pointer (some ⟨d3,d4,none⟩)) hS.1 a rfl fun a=>tM 17592186044415 (.int .u8 1) hS.1 a rfl (Yv (C:=fun _=>False) (K.cell0) K.lt (fun h=>h) Kr) fun a=>tMk 35184372088831 (.bool true) hS.1 a rfl fun a=>tMk 70368744177663 (.bool true) hS.1 a rfl fun a=>tMk 140737488355327 (.bool true) hS.1 a rfl fun a=>tMk 281474976710655 (.pointer (some ⟨c0,1,none⟩)) hS.1 a rfl fun a=>tM 562949953421311 (.slice (some ⟨d3,d4,none⟩) 1 b6) hS.1 a rfl (QaF (C:=fun _=>False) (x.cell 1 (by show 1<3;omega)) x.l (fun h=>h) Kr) fun a=>tM 1125899906842623 (.pointer (some ⟨d3,d4,none⟩)) hS.1 a rfl (fun w' _=>QbB (b:=d3) (o:=d4) (c:=b6) Kr Kr w') fun a=>tMk 2251799813685247 (.pointer (some ⟨d3,d4+1,none⟩)) hS.1 a rfl fun a=>tM 4503599627370495 (.int .i64 2) hS.1 a rfl (Q0 (C:=fun _=>False) K.cell1 K.lt (fun h=>h) Kr) fun a=>tMk 9007199254740991 (.bool true) hS.1 a rfl fun a=>tMk 18014398509481983 (.bool true) hS.1 a rfl fun a=>tMk 36028797018963967 (.bool true) hS.1 a rfl fun a=>tMk 72057594037927935 (.pointer (some ⟨c8,1,none⟩)) hS.1 a rfl fun a=> ?_;have a:=hS.2.2.2.2.2.1;refine tM 144115188075855871 (.slice (some ⟨j6,j7,none⟩) 1 e0) hS.1 a rfl (QaF (C:=fun _=>False) (F.cell 1 (by show 1<3;omega)) F.l (fun h=>h) Kr) fun a=>tM 288230376151711743 (.pointer (some ⟨j6,j7,none⟩)) hS.1 a rfl (fun w' _=>QbB (b:=j6) (o:=j7) (c:=e0) Kr Kr w') fun a=>tMk 576460752303423487 (.pointer (some ⟨j6,j7,none⟩)) hS.1 a rfl fun a=>tM 1152921504606846975 (.int .u8 2) hS.1 a rfl (Yv (C:=fun _=>False) (L.cell0) L.lt (fun h=>h) Kr) fun a=>tMk 2305843009213693951 (.bool true) hS.1 a rfl fun a=>tMk 4611686018427387903 (.bool true) hS.1 a rfl fun a=>tMk 9223372036854775807 (.bool true) hS.1 a rfl fun a=>tM 18446744073709551615 (.agg (agv (wD f3 f4))) hS.1 a rfl (Zx (C:=fun _=>False) H (fun h=>h) Kr) fun a=>tM 36893488147419103231 (.agg (agv (wD a9 b0))) hS.1 a rfl (Zx (C:=fun _=>False) A (fun h=>h) Kr) fun a=> ?_;refine sM 73786976294838206463 (fun v _=>v= .bool true) hS.2.2.2.2.2.2.1 rfl (ZC (Qy8 f3 a9 f4 b0 WW I G)) ?_;rintro _ q8 X rfl;have E:=E.tr X;have i:=i.ext X;have k:=k.ext X;have j:=j.ext X;have D:=D.ext X;have K:=K.ext X;have n:=n.ext X;have x:=x.ext X;have G:=G.ext X;have L:=L.ext X;have A:=A.ext X;have F:=F.ext X;have I:=I.ext X;have H:=H.ext X;have M:=M.ext X;have J:=J.ext X;have a:=hS.2.2.2.2.2.2.2.1;refine tMk 147573952589676412927 (.bool true) hS.1 a rfl fun a=>tMk 295147905179352825855 (.bool true) hS.1 a rfl fun a=>tMk 590295810358705651711 (.slice n3 0 n4) hS.1 a rfl fun a=>tMk 1180591620717411303423 (.int .i64 0) hS.1 a rfl fun a=>tMk 2361183241434822606847 (.bool true) hS.1 a rfl fun a=>tMk 4722366482869645213695 (.bool true) hS.1 a rfl fun a=>tMk 9444732965739290427391 (.bool true) hS.1 a rfl fun a=>tMk 18889465931478580854783 (.slice (some ⟨o2,o3,none⟩) 1 j4) hS.1 a rfl fun a=>tM 37778931862957161709567 (.pointer (some ⟨o2,o3,none⟩)) hS.1 a rfl (fun w' _=>QbB (b:=o2) (o:=o3) (c:=j4) Kr Kr w') fun a=>tMk 75557863725914323419135 (.pointer (some ⟨o2,o3,none⟩)) hS.1 a rfl fun a=>tM 151115727451828646838271 (.int .u8 4) hS.1 a rfl (Yv (C:=fun _=>False) (M.cell0) M.lt (fun h=>h) Kr) fun a=>tMk 302231454903657293676543 (.bool true) hS.1 a rfl fun a=>tMk 604462909807314587353087 (.bool true) hS.1 a rfl fun a=>tMk 1208925819614629174706175 (.bool true) hS.1 a rfl fun a=> ?_;have a:=hS.2.2.2.2.2.2.2.2.1;refine tMk 2417851639229258349412351 (.pointer (some ⟨f5,66,none⟩)) hS.1 a rfl fun a=>tM 4835703278458516698824703 (.slice g2 0 g3) hS.1 a rfl (QaB (C:=fun _=>False) (by rw [Qa,J.r];exact Qu _) J.l (fun h=>h) Kr) fun a=>tMk 9671406556917033397649407 (.int .i64 0) hS.1 a rfl fun a=>tMk 19342813113834066795298815 (.bool true) hS.1 a rfl fun a=>tMk 38685626227668133590597631 (.bool true) hS.1 a rfl fun a=>tMk 77371252455336267181195263 (.bool true) hS.1 a rfl fun a=>tM 154742504910672534362390527 (.agg (agv (wC U V))) hS.1 a rfl (Zx (C:=fun _=>False) n (fun h=>h) Kr) fun a=> ?_;refine sM 309485009821345068724781055 (fun v _=>v= .bool true) hS.2.2.2.2.2.2.2.2.2.1 rfl (ZC (Qzb U V q8 D)) ?_;rintro _ q9 Y rfl;have E:=E.tr Y;have i:=i.ext Y;have k:=k.ext Y;have j:=j.ext Y;have D:=D.ext Y;have K:=K.ext Y;have n:=n.ext Y;have x:=x.ext Y;have G:=G.ext Y;have L:=L.ext Y;have A:=A.ext Y;have F:=F.ext Y;have I:=I.ext Y;have H:=H.ext Y;have M:=M.ext Y;have J:=J.ext Y;have a:=hS.2.2.2.2.2.2.2.2.2.2.1;refine tMk 618970019642690137449562111 (.bool true) hS.1 a rfl fun a=>tMk 1237940039285380274899124223 (.bool true) hS.1 a rfl fun a=>tMk 2475880078570760549798248447 (.agg (agv agz)) hS.1 a rfl fun a=> ?_;refine sM 4951760157141521099596496895 (fun v _=>v= .bool false) hS.2.2.2.2.2.2.2.2.2.2.2.1 rfl (ZC (Qzc q9)) ?_;rintro _ r0 Z rfl;have E:=E.tr Z;have i:=i.ext Z;have k:=k.ext Z;have j:=j.ext Z;have D:=D.ext Z;have K:=K.ext Z;have n:=n.ext Z;have x:=x.ext Z;have G:=G.ext Z;have L:=L.ext Z;have A:=A.ext Z;have F:=F.ext Z;have I:=I.ext Z;have H:=H.ext Z;have M:=M.ext Z;have J:=J.ext Z;have a:=hS.2.2.2.2.2.2.2.2.2.2.2.2.1;refine tMk 9903520314283042199192993791 (.bool true) hS.1 a rfl fun a=>tMk 19807040628566084398385987583 (.bool true) hS.1 a rfl fun a=>tMk 39614081257132168796771975167 (.bool true) hS.1 a rfl fun a=>tM 79228162514264337593543950335 (.agg (agv (wC U V))) hS.1 a rfl (Zx (C:=fun _=>False) n (fun h=>h) Kr) fun a=>tM 237684487542793012780631851007 (.agg (agv (wC U V))) hS.1 a rfl (Zx (C:=fun _=>False) n (fun h=>h) Kr) fun a=> ?_;refine sM 316912650057057350374175801343 (OwW) hS.2.2.2.2.2.2.2.2.2.2.2.2.2.1 rfl (QAr U V r0 D) ?_;rintro _ r1 a0 ⟨pO,cO,rfl,sO⟩;have E:=E.tr a0;have i:=i.ext a0;have k:=k.ext a0;have j:=j.ext a0;have D:=D.ext a0;have K:=K.ext a0;have n:=n.ext a0;have x:=x.ext a0;have G:=G.ext a0;have L:=L.ext a0;have A:=A.ext a0;have F:=F.ext a0;have I:=I.ext a0;have H:=H.ext a0;have M:=M.ext a0;have J:=J.ext a0;refine sM 633825300114114700748351602687 (fun v _=>v= .bool true) hS.2.2.2.2.2.2.2.2.2.2.2.2.2.2.1 rfl (ZC (Qy9 pO U cO V r1 sO D)) ?_;rintro _ r2 O rfl;have E:=E.tr O;have i:=i.ext O;have k:=k.ext O;have j:=j.ext O;have D:=D.ext O;have K:=K.ext O;have n:=n.ext O;have x:=x.ext O;have G:=G.ext O;have L:=L.ext O;have A:=A.ext O;have F:=F.ext O;have I:=I.ext O;have H:=H.ext O;have M:=M.ext O;have J:=J.ext O;have sO:=sO.ext O;have a:=hS.2.2.2.2.2.2.2.2.2.2.2.2.2.2.2.1;refine tMk 1267650600228229401496703205375 (.bool true) hS.1 a rfl fun a=>tMk 2535301200456458802993406410751 (.bool true) hS.1 a rfl fun a=>tM 5070602400912917605986812821503 (.agg (agv (wC U V))) hS.1 a rfl (Zx (C:=fun _=>False) n (fun h=>h) Kr) fun a=>tM 10141204801825835211973625643007 (.agg (agv (wB p9 c9))) hS.1 a rfl (Zx (C:=fun _=>False) k (fun h=>h) Kr) fun a=> ?_;refine sM 20282409603651670423947251286015 (fun v _=>v= .bool false) hS.2.2.2.2.2.2.2.2.2.2.2.2.2.2.2.2.1 rfl (ZC (Qza U p9 V c9 r2 D)) ?_;rintro _ s3 P rfl;have E:=E.tr P;have i:=i.ext P;have k:=k.ext P;have j:=j.ext P;have D:=D.ext P;have K:=K.ext P;have n:=n.ext P;have x:=x.ext P;have G:=G.ext P;have L:=L.ext P;have A:=A.ext P;have F:=F.ext P;have I:=I.ext P;have H:=H.ext P;have M:=M.ext P;have J:=J.ext P;have sO:=sO.ext P;have a:=hS.2.2.2.2.2.2.2.2.2.2.2.2.2.2.2.2.2.1;refine tMk 40564819207303340847894502572031 (.bool true) hS.1 a rfl fun a=>tMk 81129638414606681695789005144063 (.bool true) hS.1 a rfl fun a=>tMk 162259276829213363391578010288127 (.bool true) hS.1 a rfl fun a=> ?_;refine doneK hS.2.2.2.2.2.2.2.2.2.2.2.2.2.2.2.2.2.2 ?_;clear hS a;have HE:=Xh E;clear E;go_simp;go_wp2;go_ret;exact⟨rfl,HE.out⟩
theorem Qja(p:Option Addr)(xs:List Co)(c:Nat)(w:World)(hs:SlC w p xs)(hl:xs.length≤9223372036854775807)(hr: ∀x∈xs,TuR x.t):
  Cr 77 #[.slice p xs.length c] w (.bool (QJ xs)):=by
 have G:=Xh hr;clear hr
 go_enter Tryz.func77,Tryz.ntmps77
 go_wp2
 go_loopw [3] (fun a wr=> ∃k:Nat,k≤xs.length∧a= .int .i64 k∧QcY xs k∧Ext w wr) (fun a _=>xs.length- (intOf a).toNat)
 case atStart=>exact⟨0,Nat.zero_le _,rfl,(fun j hj=>absurd hj (Nat.not_lt_zero _)),Ext.rf _⟩
 case round=>
  obtain⟨k,hk,rfl,E,n⟩:=hrel
  by_cases A:k<xs.length
  ·have L:(k:Int)<xs.length:=by omega
   obtain⟨b,a5,rfl,z,Q,R,S,T,U,V⟩:=(hs.ext n) k A;obtain⟨x,o⟩: ∃x,xs[k]=x:=⟨_,rfl⟩;have q:xs[k]?=some x:=by rw [List.getElem?_eq_getElem A,o]
   have H:=Xh (G.out x (by rw [←o];exact List.getElem_mem A));rw [o]at Q R S T U V;have a0:Lt b wr:=z;have g:=fun h=>Xh (Qjv A ⟨x,q,h⟩);have r:=fun u B=>Xh (QmH q E u B);have a1:=Xh hs;clear E
   by_cases N:x.s<0
   ·have i:=g (.inl (by unfold ZU;simp [N]));clear g r o q hs z
    go_upto_region 4 with(fail)
    refine Qk Kr Kr ?_;(repeat(go_big_quiet_step (fail)));refine wpQuiet_nil ?_;intro d
    have f:=Qt d;go_wp2;exact bodyPost_ret (v:= .bool false) (by simp [results,Tryz.results77,go_sem]) rfl ⟨by rw [i.out],n.tr f⟩
   ·by_cases O:x.l<x.s
    ·have i:=g (.inl (by unfold ZU;simp [O]));clear g r o q hs z
     go_upto_region 4 with(fail)
     refine Qk Kr Kr ?_;(repeat(go_big_quiet_step (fail)));refine wpQuiet_nil ?_;intro d
     have f:=Qt d;go_wp2;exact bodyPost_ret (v:= .bool false) (by simp [results,Tryz.results77,go_sem]) rfl ⟨by rw [i.out],n.tr f⟩
    ·by_cases P:1099511627776<x.l
     ·have i:=g (.inl (by unfold ZU;simp [P]));clear g r o q hs z
      go_upto_region 4 with(fail)
      refine Qk Kr Kr ?_;(repeat(go_big_quiet_step (fail)));refine wpQuiet_nil ?_;intro d
      have f:=Qt d;go_wp2;exact bodyPost_ret (v:= .bool false) (by simp [results,Tryz.results77,go_sem]) rfl ⟨by rw [i.out],n.tr f⟩
     ·have u:ZU x=false:=by unfold ZU;simp;omega
      by_cases K:k=0
      ·have F:=r u (fun m y e _=>by omega);clear g r o q hs z u;subst K
       go_upto_region 4 with(fail)
       refine Qk Kr Kr ?_;(repeat(go_big_quiet_step (fail)));refine wpQuiet_nil ?_;intro d
       have f:=Qt d;go_wp2
       go_roundw
       case rel=>exact⟨1,Om,by go_num,F.out,n.tr f⟩
       case measure=>simp [intOf];omega
      ·obtain⟨m,rfl⟩: ∃m,k=m+1:=⟨k- 1,Om⟩;obtain⟨b',a6,W,-,X,Y,Z,d3,d4,d5⟩:=(hs.ext n) m Om
       cases W
       have I:m<xs.length:=by omega
       obtain⟨y,C⟩: ∃y,xs[m]=y:=⟨_,rfl⟩;have D:xs[m]?=some y:=by rw [List.getElem?_eq_getElem I,C]
       have J:=Xh (G.out y (by rw [←C];exact List.getElem_mem I));rw [C]at X Y Z d3 d4 d5;have a2:(0:Int)<((m+1:Nat):Int):=by omega
       have a3:(m:Int)<xs.length:=by omega
       have a4:IntKind.i64.wrap (((m+1:Nat):Int)- 1)=m:=by rw [IntKind.wrap_i64];omega
       clear K
       by_cases B:0≤YQ y.t x.t
       ·have i:=g (.inr ⟨m,y,rfl,D,B⟩);have M:decide (0≤YQ y.t x.t)=true:=decide_eq_true B;clear g r o q C D hs z u
        go_upto_region 4 with(fail)
        refine Qk Kr Kr ?_;(repeat(go_big_quiet_step ((go_at_call 122;exact Zo (Qen _ _ J.out H.out _)))));refine wpQuiet_nil ?_;intro d
        have f:=Qt d;go_wp2;exact bodyPost_ret (v:= .bool false) (by simp [results,Tryz.results77,go_sem]) rfl ⟨by rw [i.out],n.tr f⟩
       ·have M:decide (0≤YQ y.t x.t)=false:=decide_eq_false B
        have F:=r u (fun m' y' e h'=>by
         obtain rfl:m'=m:=by omega
         rw [D]at h';cases h'
         omega)
        clear g r o q C D hs z u
        go_upto_region 4 with(fail)
        refine Qk Kr Kr ?_;(repeat(go_big_quiet_step ((go_at_call 122;exact Zo (Qen _ _ J.out H.out _)))));refine wpQuiet_nil ?_;intro d
        have f:=Qt d;go_wp2
        go_roundw
        case rel=>exact⟨m+1+1,Om,by go_num,F.out,n.tr f⟩
        case measure=>simp [intOf];omega
  ·have L: ¬((k:Int)<xs.length):=by omega
   have i:=Xh (QoJ A E);clear E;go_wp2;exact bodyPost_ret (v:= .bool (decide ((xs.length:Int)≤32))) (by simp [results,Tryz.results77,go_sem]) rfl ⟨by rw [i.out],n⟩
theorem Qgb(a:Ag)(w:World)(hs:SlC w a.p a.xs)(hl:a.xs.length≤9223372036854775807)(hr: ∀x∈a.xs,TuR x.t)(hk0: ∀k,k<16→0≤(a.md k).kind):
  Cr 23 #[.agg (agv a)] w (.bool (agR a)):=by
 have H:=Xh (fun W (g:Ext w W)=>Qja a.p a.xs a.c W (hs.ext g) hl hr);have a5:=Xh (fun W (g:Ext w W)=>hs.ext g);have a6:=Xh hr;have R:=Xh hk0;clear hs hr hk0
 go_enter Tryz.func23,Tryz.ntmps23
 go_upto_region 1 with(fail)
 obtain⟨u,l⟩: ∃u,w.alloc (.cells (agv a) 27)=u:=⟨_,rfl⟩;have s:Ext w u:=by rw [←l];exact Ea
 have C:Qc u w.heap.size=agv a:=by rw [←l];simp [go_sem]
 have S:Lt w.heap.size u:=by rw [←l];simp [go_sem]
 rw [l];clear l;have T:u.cell? ⟨w.heap.size,0,none⟩=some (.int .i64 a.id):=by rw [Qa,C,Jw]
 have c1:u.cell? ⟨w.heap.size,1,none⟩=some (.int .i64 a.idle):=by rw [Qa,C,Jb]
 cases L:decide (0≤a.id)
 ·have a7:=of_decide_eq_false L;have f:=Xh (Ya (a:=a) (by unfold Yj;rw [L];rfl));go_wp2;go_ret;exact⟨Qm f.out.symm,s⟩
 have a7:=of_decide_eq_true L
 cases N:decide (a.id<6)
 ·have a8:=of_decide_eq_false N;have f:=Xh (Ya (a:=a) (by unfold Yj;rw [N];simp));go_wp2;go_ret;exact⟨Qm f.out.symm,s⟩
 have a8:=of_decide_eq_true N
 cases O:decide (0≤a.idle)
 ·have a9:=of_decide_eq_false O;have f:=Xh (Ya (a:=a) (by unfold Yj;rw [O];simp));go_wp2;go_ret;exact⟨Qm f.out.symm,s⟩
 have a9:=of_decide_eq_true O
 cases P:decide (a.idle≤1099511627776)
 ·have b0:=of_decide_eq_false P;have f:=Xh (Ya (a:=a) (by unfold Yj;rw [P];simp));go_wp2;go_ret;exact⟨Qm f.out.symm,s⟩
 have b0:=of_decide_eq_true P;have I:u.cell? ⟨w.heap.size,66,none⟩=some (.slice a.p a.xs.length a.c):=by rw [Qa,C,Qu]
 cases Q:QJ a.xs
 ·have f:=Xh (Ya (a:=a) (by unfold Yj;rw [Q];simp));rw [Q]at H
  go_wp2_with (go_at_call 77;(refine(H.out _ s).mono ?_);rintro e w1 ⟨rfl,F⟩)
  go_ret;exact⟨Qm f.out.symm,s.tr F⟩
 have HH:=Xh (show Yj a=true by unfold Yj;rw [L,N,O,P,Q];rfl);rw [Q]at H
 go_wp2_with (go_at_call 77;(refine(H.out _ s).mono ?_);rintro e w1 ⟨rfl,F⟩;have a0:=Zc F S C;have U:Lt w.heap.size w1:=Xl S F.size)
 clear C S I T c1
 go_loopw [3] (fun q wr=> ∃k:Nat,k≤16∧q= .int .i64 k∧(∀j,j<k→Qdd a j=true)∧Ext w1 wr) (fun q _=>16- (intOf q).toNat)
 case atStart=>exact⟨0,Nat.zero_le _,rfl,fun j y=>by omega,Ext.rf _⟩
 case round=>
  obtain⟨k,hk,rfl,r,g⟩:=hrel;have m:=Zc g U a0;have D:Lt w.heap.size wr:=Xl U g.size;have i:=(s.tr F).tr g
  by_cases n:k<16
  ·have b1:(k:Int)<16:=by omega
   have cp:wr.cell? ⟨w.heap.size,2+k*4+1,none⟩=some (.int .i64 (a.md k).peer):=by
    rw [Qa,m];unfold agv;rw [QM,if_pos Om];unfold Ag.at
    rw [if_neg Om,if_neg Om,if_pos Om,show(2+k*4+1- 2)/4=k by omega,show(2+k*4+1- 2) % 4=1 by omega];rfl
   have T:wr.cell? ⟨w.heap.size,0,none⟩=some (.int .i64 a.id):=by rw [Qa,m,Jw]
   have b2:2+k*4+4≤67:=by omega
   have V:=Xh r;have X:=Xh g;have J:=Xh i;clear r g i
   cases hm:mdR (a.md k)
   ·have f:=Xh (QpU k n (by unfold Qdd;rw [hm];rfl))
    go_wp2_with (fail)
    refine Qk Kr Kr ?_;(repeat(go_big_quiet_step ((go_at_call 35;exact Zo (QeV _ _ (R.out k n))))));refine wpQuiet_nil ?_;intro d
    have E:=Xh (Qt d);go_wp2;go_ret;exact⟨Qm f.out.symm,J.out.tr E.out⟩
   cases A:((a.md k).peer==a.id)
   ·have Y:=Xh (show Qdd a k=true by unfold Qdd;rw [hm];simpa using A)
    go_wp2_with (fail)
    refine Qk Kr Kr ?_;(repeat(go_big_quiet_step ((go_at_call 35;exact Zo (QeV _ _ (R.out k n))))));refine wpQuiet_nil ?_;intro d
    have E:=Xh (Qt d);generalize later d=W2 at*;go_wp2
    go_roundw
    case rel=>exact⟨k+1,Om,by go_num,fun j y=>by rcases Nat.lt_or_ge j k with h|h;exact V.out j h;(obtain rfl:j=k:=by omega);exact Y.out,X.out.tr E.out⟩
    case measure=>simp [intOf];omega
   ·have f:=Xh (QpU k n (by unfold Qdd;rw [hm];simpa using A))
    go_wp2_with (fail)
    refine Qk Kr Kr ?_;(repeat(go_big_quiet_step ((go_at_call 35;exact Zo (QeV _ _ (R.out k n))))));refine wpQuiet_nil ?_;intro d
    have E:=Xh (Qt d);go_wp2;go_ret;exact⟨Qm f.out.symm,J.out.tr E.out⟩
  ·obtain rfl:k=16:=by omega
   have HM:=Xh r;have b3:=m;have a1:=D;have J:=Xh i;generalize wr=w2 at*;clear r g i m D a0 U;rw [show((16:Nat):Int)=16 from rfl];go_wp2
   go_loopw [4,5] (fun q _ wr=> ∃k:Nat,k≤a.xs.length∧q= .int .i64 k∧(∀j,j<k→ ∀y:j<a.xs.length,cnA a a.xs[j]=true)∧Ext w2 wr) (fun q _ _=>a.xs.length- (intOf q).toNat)
   case atStart=>exact⟨0,Nat.zero_le _,rfl,fun j y=>by omega,Ext.rf _⟩
   case round=>
    obtain⟨k,hk,rfl,r,g⟩:=hrel;have m:=Zc g a1 b3;have D:Lt w.heap.size wr:=Xl a1 g.size;have i:=J.out.tr g;have I:wr.cell? ⟨w.heap.size,66,none⟩=some (.slice a.p a.xs.length a.c):=by rw [Qa,m,Qu]
    by_cases n:k<a.xs.length
    ·have b1:(k:Int)<a.xs.length:=by omega
     obtain⟨b,c6,A,hb,d0,d1,d2,d3,d4,d5⟩:=(a5.out _ i) k n;have a2:=Xh (a6.out _ (List.getElem_mem n));have Z:=Xh (List.getElem_mem n);obtain⟨o,ho⟩: ∃o:Nat,ofT a.xs[k].t=o:=⟨(ofT a.xs[k].t).toNat,by have:=(QbY a.xs[k].t).1;omega⟩;have b9:o<16:=by have:=(QbY a.xs[k].t).2;omega
     have a3:=Xh (fun W=>ho▸Qln a.xs[k].t a2.out W);have K:=Xh (show cnA a a.xs[k]=((a.md o).kind !=0&&!(a.md o).ret)by unfold cnA;rw [ho];rfl);obtain⟨z,hz⟩: ∃z,a.xs[k]=z:=⟨_,rfl⟩;rw [hz]at d0 d1 d2 d3 d4 d5 a3 K Z;have HZ:=Xh hz;have c2:=Xh A;have lb:Lt b wr:=hb;have b2:2+o*4+4≤67:=by omega
     have c4:(o:Int)<16:=by omega
     have V:=Xh r;have X:=Xh g;have b4:=Xh i;have c5:((a.xs.length:Nat):Int)≤9223372036854775807:=by omega
     rw [A]at I;clear hz ho A r g i a2 d4 d5 hb
     go_upto_region 12 with(go_at_call 33;(refine(a3.out _).mono ?_);rintro e v ⟨rfl,G⟩;have b5:=Zc G D m;have b6:Lt w.heap.size v:=Xl D G.size)
     obtain⟨B,l⟩: ∃B,Qe (v.alloc (.cells #[.int .u8 0,.int .i64 0,.int .i64 0,.bool false] 23)) v.heap.size 0 (mdv (a.md o))=B:=⟨_,rfl⟩;have g5:Ext v B:=by rw [←l];exact Ext.sa _ (Nat.le_refl _) Ea
     have r5:Qc B v.heap.size=mdv (a.md o):=by rw [←l];exact Qq _ _ _ (by rw [Zn,J2];rfl)
     have T:B.cell? ⟨v.heap.size,0,none⟩=some (.int .u8 (a.md o).kind):=by rw [Qa,r5,Qlw]
     have c3:B.cell? ⟨v.heap.size,3,none⟩=some (.bool (a.md o).ret):=by rw [Qa,r5,Qlx]
     have a4:=Xh (b4.out.tr (G.tr g5));have b7:=Xh (X.out.tr (G.tr g5));rw [l];clear l G g5 r5 b5 b6 m d0 d1 d2 d3 I;generalize v.heap.size=M at*
     cases e0:((a.md o).kind==0)
     ·cases e3:(a.md o).ret
      ·have Y:=Xh (show cnA a z=true by rw [K.out];simp_all);go_wp2
       go_roundw
       case rel=>exact⟨k+1,Om,by go_num,fun j y hjl=>by rcases Nat.lt_or_ge j k with h|h;exact V.out j h hjl;(obtain rfl:j=k:=by omega);rw [HZ.out];exact Y.out,b7.out⟩
       case measure=>simp [intOf];omega
      ·have f:=Xh (QpV z Z.out (show cnA a z=false by rw [K.out];simp_all));go_wp2;go_ret;exact⟨Qm f.out.symm,a4.out⟩
     ·have f:=Xh (QpV z Z.out (show cnA a z=false by rw [K.out];simp_all));go_wp2;go_ret;exact⟨Qm f.out.symm,a4.out⟩
    ·obtain rfl:k=a.xs.length:=by omega
     have HK:=Xh (show agR a=true from QvC HH.out HM.out fun c hc=>by obtain⟨j,y,rfl⟩:=List.mem_iff_getElem.1 hc;exact r j y y);have b8:=Xh i;clear r g i m;go_wp2;go_ret;exact⟨Qm HK.out.symm,b8.out⟩
section
open Go.ChangeShapes Go.WideShapes Go.ChangeAt
section
variable {H:Type} {enc:TypeId×Value→H} {P:Program}
theorem QfD{f:Func}{s:ChangeSpec}{apart fresh handsOn again:Bool}{W':World}{args:Array Value}{v:Value}{ds gs:List (DataW H)}{before pa pv:List MemPlace}
  (hW:DataW.Whole enc P f.params.toList s.vars apart W args.toList ds gs before)
  (hres: ∀(b:Nat) (sp:Nat→Bool) (hd:Bool),DataW.TrodAll enc P W' b sp hd f.resultTypes.toList (v.resultList f.resultTypes.size) (s.fn H (ds++gs)).results [])
  (hargs: ∀sp:Nat→Bool,(∀p∈before,sp p.block=true)→DataW.TrodAll enc P W' 0 sp true f.params.toList args.toList (s.fn H (ds++gs)).args pa)
  (hvars: ∀sp:Nat→Bool,(∀p∈before,sp p.block=true)→DataW.TrodVars enc P W' sp s.vars (s.fn H (ds++gs)).vars pv)
  (hps:before=pa++pv)(hb:Below W.heap.size W W')
  (hok: ∀(j:Nat) (t:TypeId) (r:Value),f.resultTypes[j]?=some t→(v.resultList f.resultTypes.size)[j]?=some r→Value.okWide P W' .any 0 t r):
  s.post enc P f apart fresh handsOn again W args v W':=by
 have c: ∀p∈before,p.block<W.heap.size:=fun p a=>hW.lt p a;have d: ∀p∈before,(fun b=>decide (b<W.heap.size)) p.block=true:=fun p a=>by simpa using c p a
 refine⟨ds,gs,before,[],pa,pv,hW,hres _ _ _,hargs _ d,hvars _ d,World.keptBut_mono (fun p a=>⟨a,?_⟩) (hb.frame (· ∈before)),fun _=> ?_⟩
 ·rw [hps,List.mem_append]at a;exact Or.inr a
 ·obtain⟨_,_,_,_,_,h,i⟩:=hW;refine⟨hok,_,_,([]++pa)++pv,⟨[]++pa,pv,trodAll_append (hargs _ (fun _ _=>rfl)) (hres _ _ _),hvars _ (fun _ _=>rfl),rfl,?_,?_⟩,?_⟩
  ·intro b g a;have e:MemPlace.cell b g∈before:=by rw [hps];simpa using a
   rw [hb.frozen (c _ e)];exact h b g e
  ·intro k;have:=i k;rw [hps]at this;simpa using this
  ·intro p a _;rw [hps];simpa using a
theorem QbT(hl:laidOutB P=true){W':World}{sp':Nat→Bool}: ∀(ts:List TypeId) (vs:List Value) (ds:List (DataW H)) (ps:List MemPlace),
  ts.all (fun t=>P.readableRec t&&decide (t<P.types.size))=true→DataW.TrodAll enc P W 0 (fun _=>true) true ts vs ds ps→
  (∀p∈ps,W.sameAt W' p)→(∀p∈ps,sp' p.block=true)→DataW.TrodAll enc P W' 0 sp' true ts vs ds ps
 | [],vs,ds,ps,_,h,_,_=>by
  obtain⟨rfl,rfl,rfl⟩:=trodAll_nil h;exact trodAll_mk0
 |t::ts,vs,ds,ps,ht,h,hs,hp=>by
  obtain⟨v,a,d,b,p,q,rfl,rfl,rfl,c,e⟩:=trodAll_cons h;simp only [List.all_cons,Bool.and_eq_true,decide_eq_true_eq]at ht;refine trodAll_cons_mk (WideElems.Trod_stays hl ht.1.1 ht.1.2 c (fun x hx=>hs x (by simp [hx])) (fun x hx=>hp x (by simp [hx]))) ?_;exact QbT hl ts a b q ht.2 e (fun x hx=>hs x (by simp [hx])) (fun x hx=>hp x (by simp [hx]))
theorem Qbh{sp:Nat→Bool}{hd:Bool}: ∀(ts:List TypeId) (vs:List Value) (ds:List (DataW H)) (ps:List MemPlace),
  DataW.TrodAll enc P W b sp hd ts vs ds ps→ds.length=ts.length
 | [],vs,ds,ps,h=>by obtain⟨rfl,rfl,rfl⟩:=trodAll_nil h;rfl
 |t::ts,vs,ds,ps,h=>by
  obtain⟨v,a,d,c,p,q,rfl,rfl,rfl,f,e⟩:=trodAll_cons h;simp only [List.length_cons,Qbh ts a c q e]
end
theorem Qrn{C:Checked}{f:FuncId}{fn:Func}{s:ChangeSpec}{os:Os}{H:Type}{enc:TypeId×Value→H}(tb:TypeId)
  (own:ownKnob C.prog.godebug=none)(started:os.Started)(noInit:C.prog.inits.idxOf? f=none)(hfn:C.prog.funcs[f]?=some fn)
  (witness: ∃(w:World) (tape:Tape) (i:Input),w.os=os∧(w.forCall tape i).Shaped C.prog∧i.vars= []∧Input.okWide C.prog (w.forCall tape i) .any w.heap.size f i∧
   s.pre6 enc C.prog fn [] false (w.forCall tape i).memory i.args∧({}:Assume).holds C.prog (lone (Frame.enter C.prog f i.args .normal) [] (w.forCall tape i)))
  (hl:laidOutB C.prog=true)(hvars:s.vars= [])(hrt:fn.resultTypes=#[tb])(htb:C.prog.underlying tb=some .bool)
  (hs: ∀ds:List (DataW H),ds.length=fn.params.toList.length→s.fn H ds={results:= [.lit (.bool true)],args:=ds})
  (hread:fn.params.toList.all (fun t=>C.prog.readableRec t&&decide (t<C.prog.types.size))=true)
  (walk: ∀(W:World) (base:Nat) (args:Array Value) (ds:List (DataW H)) (p:List MemPlace),
   (∀(j:Nat) t v,fn.params[j]?=some t→args[j]?=some v→Value.okWide C.prog W .any base t v)→
   DataW.TrodAll enc C.prog W 0 (fun _=>true) true fn.params.toList args.toList ds p→(∀x∈p,x.block<W.heap.size)→
   Calls C.prog f args W fun e W'=>e= .returned (.bool true)∧Below W.heap.size W W'):
  ReturnsInHanded {} C os f .any (s.pre6 enc C.prog fn [] false) (s.post enc C.prog fn false true false false):=by
 refine returnsInHanded_of_change (C:=C) own started noInit hfn witness ?_;intro W base args ds z A r k _ _;have d:=k;obtain⟨p,q,c,l,rfl,B,D⟩:=k;rw [hvars]at l;obtain⟨rfl,rfl⟩:=trodVars_none l;have g: ∀x∈p++ [],x.block<W.heap.size:=fun x hx=>d.lt x hx;refine(walk W base args ds p r c (fun x hx=>g x (by simpa using hx))).mono fun e W' h=> ?_;obtain⟨u,m⟩:=h;subst u;have o:=Qbh _ _ _ _ c;have a:=hs (ds++ []) (by simpa using o);refine⟨_,rfl,QfD (pa:=p) (pv:= []) d ?_ ?_ ?_ rfl m ?_⟩
 ·intro b n E;rw [a,hrt];exact trodAll_mk1 (shut_bool htb _)
 ·intro n y;rw [a];simp only [List.append_nil];exact QbT hl _ _ _ _ hread c (fun x hx=>m.same (g x (by simpa using hx))) (fun x hx=>y x (by simpa using hx))
 ·intro n _;rw [a,hvars];rfl
 ·exact ok_one hrt rfl (okWide_bool_mk htb _)
end
section
open Go.ChangeShapes Go.WideShapes Go.ChangeAt Go.Joins Go.Deep
theorem Qzd:ownKnob Tryz.prog.godebug=none:=Kr
theorem Qtq:laidOutB Tryz.prog=true:=Kr
theorem QdX:Tryz.prog.cellsOf 3=1:=Kr
theorem Qro:Tryz.prog.cellsOf 5=1:=Kr
theorem Qrp:Tryz.prog.cellsOf 61=1:=Kr
theorem Qrq:Tryz.prog.cellsOf 62=1:=Kr
theorem Qtr:Tryz.prog.cellsOf 4=1:=Kr
theorem Qze:Tryz.prog.cellsOf 64=4:=Kr
theorem Qzf:Tryz.prog.cellsOf 66=6:=Kr
theorem Qzg:Tryz.prog.cellsOf 23=4:=Kr
theorem Qwa:Tryz.prog.cellsOf 24=64:=Kr
theorem Qts:Tryz.prog.cellsOf 25=1:=Kr
theorem Qzh:Tryz.prog.cellsOf 27=67:=Kr
theorem QuB{n:Int}(h:(Lit.int .u8 n).wf=true):0≤n:=by
 have a:IntKind.u8.min=0:=rfl;simp only [Lit.wf,Bool.and_eq_true,decide_eq_true_eq]at h;omega
theorem Qrr{n:Int}(h:(Lit.int .u32 n).wf=true):0≤n∧n<4294967296:=by
 have a:IntKind.u32.min=0:=rfl;have b:IntKind.u32.max=4294967295:=rfl;simp only [Lit.wf,Bool.and_eq_true,decide_eq_true_eq]at h;omega
theorem Qrs{n:Int}(h:(Lit.int .u16 n).wf=true):0≤n∧n<65536:=by
 have a:IntKind.u16.min=0:=rfl;have b:IntKind.u16.max=65535:=rfl;simp only [Lit.wf,Bool.and_eq_true,decide_eq_true_eq]at h;omega
theorem Q3{L:List Value}{j:Nat}{v:Value}(h:(L.drop j).take 1= [v]):L[j]?=some v:=by
 have:=congrArg (fun l=>l[0]?) h;simpa using this
theorem YK{L:List Value}{o n j:Nat}{v:Value}(h:((L.drop o).take n)[j]?=some v)(hj:j<n):L[o+j]?=some v:=by
 rwa [List.getElem?_take,if_pos hj,List.getElem?_drop]at h
open Classical in
theorem QnY{α:Type}{p:Nat→α→Prop}{n:Nat}(h: ∀i,i<n→ ∃x,p i x)[Nonempty α]: ∃f:Nat→α,∀i,i<n→p i (f i):=
 ⟨fun i=>if q:i<n then(h i q).choose else Classical.choice inferInstance,fun i hi=>by dsimp only;rw [dif_pos hi];exact(h i hi).choose_spec⟩
instance:Nonempty Md:=⟨⟨0,0,0,false⟩⟩
def Tu.at(t:Tu)(j:Nat):Value:=match j with|0=> .int .u32 t.a|1=> .int .u32 t.b|2=> .int .u16 t.c|_=> .int .u16 t.d
def Co.at(x:Co)(j:Nat):Value:=match j with|0=> .int .u32 x.t.a|1=> .int .u32 x.t.b|2=> .int .u16 x.t.c|3=> .int .u16 x.t.d|4=> .int .i64 x.s|_=> .int .i64 x.l
section
variable {H:Type} {enc:TypeId×Value→H} {w:World} {base b0:Nat} {spare:Nat→Bool} {held:Bool} {fuel:Nat} {L:List Value} {y:DataW H×List MemPlace}
theorem Yf{T:TypeId}{fs:Array Field}(ht:Tryz.prog.underlying T=some (.struct fs))(h:DataW.trod enc Tryz.prog w base spare held fuel T L=some y):
  ∃n,L.length=Tryz.prog.cellsOf T∧ ∀(i:Nat) (f:Field),fs[i]?=some f→ ∃z,DataW.trod enc Tryz.prog w base spare held n f.type ((L.drop f.offset).take (Tryz.prog.cellsOf f.type))=some z:=by
 obtain⟨a,n,_,_,b,e,c⟩:=DataW.trod_struct ht h;refine⟨n,b,fun i f hi=> ?_⟩;have d:i<fs.size:=(Array.getElem?_eq_some_iff.1 hi).1;exact⟨a[i]'Om,(c i f hi).trans (List.getElem?_eq_getElem Om)⟩
theorem Qrt{T e:TypeId}{n:Nat}(ht:Tryz.prog.underlying T=some (.array n e))(h:DataW.trod enc Tryz.prog w base spare held fuel T L=some y):
  ∃m,L.length=Tryz.prog.cellsOf T∧ ∀(i:Nat),i<n→ ∃z,DataW.trod enc Tryz.prog w base spare held m e ((L.drop (i*Tryz.prog.cellsOf e)).take (Tryz.prog.cellsOf e))=some z:=by
 obtain⟨a,m,_,_,b,d,c⟩:=DataW.trod_array ht h;exact⟨m,b,fun i hi=>⟨a[i]'Om,(c i hi).trans (List.getElem?_eq_getElem Om)⟩⟩
theorem Qzi(h:DataW.trod enc Tryz.prog w base spare held fuel 23 L=some y): ∃x:Md,0≤x.kind∧ ∀j,j<4→L[j]?=some (x.at j):=by
 obtain⟨n,-,a⟩:=Yf Tryz.underlying23 h;obtain⟨f,(b:DataW.trod enc Tryz.prog w base spare held n 5 ((L.drop 0).take (Tryz.prog.cellsOf 5))=some f)⟩:=a 0 _ rfl;rw [Qro]at b;obtain⟨g,i,_,k⟩:=DataW.trod_int Tryz.underlying5 b;obtain⟨l,(c:DataW.trod enc Tryz.prog w base spare held n 3 ((L.drop 1).take (Tryz.prog.cellsOf 3))=some l)⟩:=a 1 _ rfl;rw [QdX]at c;obtain⟨m,o,_,v⟩:=DataW.trod_int Tryz.underlying3 c;obtain⟨p,(d:DataW.trod enc Tryz.prog w base spare held n 3 ((L.drop 2).take (Tryz.prog.cellsOf 3))=some p)⟩:=a 2 _ rfl;rw [QdX]at d;obtain⟨q,r,_,z⟩:=DataW.trod_int Tryz.underlying3 d;obtain⟨s,(e:DataW.trod enc Tryz.prog w base spare held n 4 ((L.drop 3).take (Tryz.prog.cellsOf 4))=some s)⟩:=a 3 _ rfl;rw [Qtr]at e;obtain⟨t,u,_⟩:=DataW.trod_bool Tryz.underlying4 e;refine⟨⟨g,m,q,t⟩,QuB k,fun j hj=> ?_⟩;obtain rfl|rfl|rfl|rfl:j=0∨j=1∨j=2∨j=3:=by omega
 ·exact Q3 i
 ·exact Q3 o
 ·exact Q3 r
 ·exact Q3 u
theorem Qwb(h:DataW.trod enc Tryz.prog w base spare held fuel 24 L=some y): ∃f:Nat→Md,(∀i,i<16→0≤((f i)).kind)∧ ∀i j,i<16→j<4→L[i*4+j]?=some ((f i).at j):=by
 obtain⟨q,-,a⟩:=Qrt Tryz.underlying24 h;rw [Qzg]at a;obtain⟨f,a⟩:=QnY (p:=fun i (x:Md)=>(0≤(x).kind)∧ ∀j,j<4→((L.drop (i*4)).take 4)[j]?=some (x.at j)) (n:=16) fun i hi=>by
  obtain⟨z,b⟩:=a i hi;exact Qzi b
 exact⟨f,fun i hi=>(a i hi).1,fun i j hi hj=>YK ((a i hi).2 j hj) hj⟩
theorem Qzj(h:DataW.trod enc Tryz.prog w base spare held fuel 64 L=some y): ∃x:Tu,TuR x∧ ∀j,j<4→L[j]?=some (x.at j):=by
 obtain⟨n,-,a⟩:=Yf Tryz.underlying64 h;obtain⟨f,(b:DataW.trod enc Tryz.prog w base spare held n 61 ((L.drop 0).take (Tryz.prog.cellsOf 61))=some f)⟩:=a 0 _ rfl;rw [Qrp]at b;obtain⟨g,i,_,k⟩:=DataW.trod_int Tryz.underlying61 b;obtain⟨l,(c:DataW.trod enc Tryz.prog w base spare held n 61 ((L.drop 1).take (Tryz.prog.cellsOf 61))=some l)⟩:=a 1 _ rfl;rw [Qrp]at c;obtain⟨m,o,_,p⟩:=DataW.trod_int Tryz.underlying61 c;obtain⟨q,(d:DataW.trod enc Tryz.prog w base spare held n 62 ((L.drop 2).take (Tryz.prog.cellsOf 62))=some q)⟩:=a 2 _ rfl;rw [Qrq]at d;obtain⟨r,s,_,t⟩:=DataW.trod_int Tryz.underlying62 d;obtain⟨u,(e:DataW.trod enc Tryz.prog w base spare held n 62 ((L.drop 3).take (Tryz.prog.cellsOf 62))=some u)⟩:=a 3 _ rfl;rw [Qrq]at e;obtain⟨v,z,_,A⟩:=DataW.trod_int Tryz.underlying62 e;refine⟨⟨g,m,r,v⟩,⟨Qrr k,Qrr p,Qrs t,Qrs A⟩,fun j hj=> ?_⟩;obtain rfl|rfl|rfl|rfl:j=0∨j=1∨j=2∨j=3:=by omega
 ·exact Q3 i
 ·exact Q3 o
 ·exact Q3 s
 ·exact Q3 z
theorem Qzk(h:DataW.trod enc Tryz.prog w base spare held fuel 66 L=some y): ∃x:Co,TuR x.t∧ ∀j,j<6→L[j]?=some (x.at j):=by
 obtain⟨n,-,b⟩:=Yf Tryz.underlying66 h;obtain⟨f,(c:DataW.trod enc Tryz.prog w base spare held n 64 ((L.drop 0).take (Tryz.prog.cellsOf 64))=some f)⟩:=b 0 _ rfl;obtain⟨g,(d:DataW.trod enc Tryz.prog w base spare held n 3 ((L.drop 4).take (Tryz.prog.cellsOf 3))=some g)⟩:=b 1 _ rfl;obtain⟨i,(e:DataW.trod enc Tryz.prog w base spare held n 3 ((L.drop 5).take (Tryz.prog.cellsOf 3))=some i)⟩:=b 2 _ rfl;rw [Qze]at c;rw [QdX]at d e;obtain⟨t,k,a⟩:=Qzj c;obtain⟨l,m,_,_⟩:=DataW.trod_int Tryz.underlying3 d;obtain⟨p,q,_,_⟩:=DataW.trod_int Tryz.underlying3 e;refine⟨⟨t,l,p⟩,k,fun j hj=> ?_⟩;obtain rfl|rfl|rfl|rfl|rfl|rfl:j=0∨j=1∨j=2∨j=3∨j=4∨j=5:=by omega
 ·exact YK (o:=0) (a 0 Om) Om
 ·exact YK (o:=0) (a 1 Om) Om
 ·exact YK (o:=0) (a 2 Om) Om
 ·exact YK (o:=0) (a 3 Om) Om
 ·exact Q3 m
 ·exact Q3 q
theorem Qtt(h:DataW.trod enc Tryz.prog w base spare held fuel 25 L=some y):
  ∃(q:Option Addr) (xs:List Co) (c:Nat),L= [.slice q xs.length c]∧SlC w q xs∧(∀x∈xs,TuR x.t)∧xs.length≤c∧c≤maxLen∧(q=none→c=0):=by
 rcases open_slice Tryz.underlying25 h with⟨hcs,_⟩|⟨a,len,cap,k,n,D,Pl,hcs,_,hl,hm,hk,_,hi⟩
 ·exact⟨none,[],0,hcs,SlC.nil _ _,(fun x h=>by cases h),Nat.le_refl _,by unfold maxLen;omega,fun _=>rfl⟩
 ·have E:len≤k:=by rw [hk];split<;>omega
  have f: ∀i,i<len→ ∃x:Co,(TuR (x).t)∧ ∀j,j<6→w.cell? (a.add (i*6+j))=some (x.at j):=by
   intro i o;obtain⟨F,l,v⟩:=hi i Om;rw [Qzf]at l;obtain⟨_,G,z⟩:=World.cells?_some l;obtain⟨x,A,m⟩:=Qzk v;refine⟨x,A,fun j hj=> ?_⟩;have p:=z j hj;rw [m j hj]at p;have e:(a.add (i*6)).add j=a.add (i*6+j):=by
    unfold Addr.add
    repeat' split
    all_goals first|(exfalso;simp_all;omega)|(simp_all;done)|(simp_all;omega)
   rw [←e];exact p
  have r:((List.range len).map fun i=>if h:i<len then(f i h).choose else⟨⟨0,0,0,0⟩,0,0⟩).length=len:=by simp
  refine⟨some a,(List.range len).map fun i=>if h:i<len then(f i h).choose else⟨⟨0,0,0,0⟩,0,0⟩,cap,by rw [r];exact hcs,?_,?_,by rw [r];exact hl,hm,fun e=>by cases e⟩
  ·intro i o;have g:i<len:=by omega
   have l:=(f i g).choose_spec;simp only [List.getElem_map,List.getElem_range,dif_pos g];generalize (f i g).choose=x at l;obtain⟨-,d⟩:=l;have u:a.spot=none:=by
    obtain⟨H,_,B⟩:=f 0 Om;have:=B 0 Om;simpa [Addr.add]using World.cell?_spot this
   obtain⟨b,s,C⟩:=a;obtain rfl:C=none:=u;have d: ∀j,j<6→w.cell? ⟨b,s+i*6+j,none⟩=some (x.at j):=fun j hj=>by
    have:=d j hj;rw [add_plain]at this;rw [Nat.add_assoc];exact this
   exact⟨b,s,rfl,World.block_lt_of_cell? w _ (d 0 Om),d 0 Om,d 1 Om,d 2 Om,d 3 Om,d 4 Om,d 5 Om⟩
  ·intro x m;rw [List.mem_map]at m;obtain⟨i,o,rfl⟩:=m;have g:i<len:=List.mem_range.1 o;rw [dif_pos g];exact(f i g).choose_spec.1
structure AgO(w:World)(a:Ag):Prop where
 s:SlC w a.p a.xs
 t: ∀c∈a.xs,TuR c.t
 k: ∀i,i<16→0≤(a.md i).kind
 l:a.xs.length≤9223372036854775807
theorem Qzl(h:DataW.trod enc Tryz.prog w base spare held fuel 27 L=some y): ∃x:Ag,AgO w x∧ ∀j,j<67→L[j]?=some (x.at j):=by
 obtain⟨n,-,d⟩:=Yf Tryz.underlying27 h;obtain⟨r,(k:DataW.trod enc Tryz.prog w base spare held n 3 ((L.drop 0).take (Tryz.prog.cellsOf 3))=some r)⟩:=d 0 _ rfl;obtain⟨s,(l:DataW.trod enc Tryz.prog w base spare held n 3 ((L.drop 1).take (Tryz.prog.cellsOf 3))=some s)⟩:=d 1 _ rfl;obtain⟨t,(m:DataW.trod enc Tryz.prog w base spare held n 24 ((L.drop 2).take (Tryz.prog.cellsOf 24))=some t)⟩:=d 2 _ rfl;obtain⟨u,(o:DataW.trod enc Tryz.prog w base spare held n 25 ((L.drop 66).take (Tryz.prog.cellsOf 25))=some u)⟩:=d 3 _ rfl;rw [QdX]at k l;rw [Qwa]at m;rw [Qts]at o;obtain⟨a,v,_,_⟩:=DataW.trod_int Tryz.underlying3 k;obtain⟨b,z,_,_⟩:=DataW.trod_int Tryz.underlying3 l;obtain⟨f,A,B⟩:=Qwb m;obtain⟨p,q,c,C,D,E,G,F,-⟩:=Qtt o;refine⟨⟨a,b,f,p,q,c⟩,⟨D,E,A,by unfold maxLen at F;show q.length≤_;omega⟩,fun j hj=> ?_⟩;unfold Ag.at
 by_cases e:j=0
 ·subst e;exact Q3 v
 rw [if_neg e]
 by_cases g:j=1
 ·subst g;exact Q3 z
 rw [if_neg g]
 by_cases i:j<66
 ·rw [if_pos i];have h:=YK (B ((j- 2)/4) ((j- 2) % 4) Om Om) Om
  rwa [show 2+((j- 2)/4*4+(j- 2) % 4)=j by omega]at h
 ·rw [if_neg i];obtain rfl:j=66:=by omega
  exact Q3 C
theorem Qtu{v:Value}{d:DataW H}{p:List MemPlace}(hv:Value.okWide Tryz.prog w .any b0 27 v)(h:DataW.Trod enc Tryz.prog w base spare held 27 v d p): ∃x:Ag,v= .agg (agv x)∧AgO w x:=by
 simp only [Value.okWide,Tryz.underlying27]at hv;obtain⟨e,rfl,f,_⟩:=hv;rw [Qzh]at f;obtain⟨l,g⟩:=h;obtain⟨x,i,k⟩:=Qzl g;refine⟨x,congrArg Value.agg (Array.ext_getElem? fun j=> ?_),i⟩
 by_cases a:j<67
 ·have b:=k j a;have c:e[j]?=some (x.at j):=by simpa [Value.cells]using b
  rw [c];unfold agv;rw [QM,if_pos a]
 ·rw [Array.getElem?_eq_none Om,Array.getElem?_eq_none (by rw [Qg];omega)]
end
end
def SlT(w:World)(p:Option Addr)(xs:List Tu):Prop:= ∀k,(h:k<xs.length)→ ∃b off,p=some ⟨b,off,none⟩∧b<w.heap.size∧w.cell? ⟨b,off+k*4,none⟩=some (.int .u32 xs[k].a)∧w.cell? ⟨b,off+k*4+1,none⟩=some (.int .u32 xs[k].b)∧w.cell? ⟨b,off+k*4+2,none⟩=some (.int .u16 xs[k].c)∧w.cell? ⟨b,off+k*4+3,none⟩=some (.int .u16 xs[k].d)
theorem SlT.ext{w':World}{p:Option Addr}{xs:List Tu}(h:SlT w p xs)(e:Ext w w'):SlT w' p xs:=fun k hk=>by
 obtain⟨b,a,d,c,f,g,i,j⟩:=h k hk;exact⟨b,a,d,Xl c e.size,(e.cell (p:=⟨b,a+k*4,none⟩) c).trans f,(e.cell (p:=⟨b,a+k*4+1,none⟩) c).trans g,(e.cell (p:=⟨b,a+k*4+2,none⟩) c).trans i,(e.cell (p:=⟨b,a+k*4+3,none⟩) c).trans j⟩
theorem SlT.nil(w:World)(p:Option Addr):SlT w p []:=fun k hk=>by simp at hk
def Tu.cl(x:Tu):List Value:= [.int .u32 x.a,.int .u32 x.b,.int .u16 x.c,.int .u16 x.d]
def flT(xs:List Tu):List Value:=xs.flatMap Tu.cl
theorem Qd6: ∀xs:List Tu,(flT xs).length=xs.length*4
 | []=>rfl
 |x::xs=>by
  show(Tu.cl x++flT xs).length=_;rw [List.length_append,Qd6 xs,List.length_cons];show 4+_=_;omega
theorem Qhv: ∀(xs:List Tu) (k j:Nat) (hk:k<xs.length),j<4→(flT xs)[k*4+j]?=(xs[k]).cl[j]?
 |x::xs,0,j,_,hj=>by
  show(Tu.cl x++flT xs)[0*4+j]?=_;rw [Nat.zero_mul,Nat.zero_add,List.getElem?_append_left (by show j<4;exact hj)];rfl
 |x::xs,k+1,j,hk,hj=>by
  show(Tu.cl x++flT xs)[(k+1)*4+j]?=_;have a:(Tu.cl x).length=4:=rfl;rw [List.getElem?_append_right Om,a,show(k+1)*4+j- 4=k*4+j by omega];exact Qhv xs k j (by simpa using hk) hj
theorem SlT.own{base:Nat}{v:Value}{xs:List Tu}(h:w.ownsRow base 64 4 v xs.length (flT xs)): ∃p c,v= .slice p xs.length c∧xs.length≤c∧SlT w p xs:=by
 rcases h.2 with⟨rfl,h0⟩|⟨g,cap,cur,rfl,hg,hgb,h1,h2,h3,h4⟩
 ·have:xs= []:=List.length_eq_zero_iff.1 h0;subst this;exact⟨none,0,rfl,Nat.le_refl _,SlT.nil _ _⟩
 ·refine⟨some ⟨g,0,none⟩,cap,rfl,h1,fun k hk=> ?_⟩;have a: ∀j,j<4→w.cell? ⟨g,0+k*4+j,none⟩=(xs[k]).cl[j]?:=fun j hj=>by
   rw [←Qhv xs k j hk hj,←h4,List.getElem?_take_of_lt (by have:=Qd6 xs;omega)];simp only [World.cell?,hgb];simp
  exact⟨g,0,rfl,(Array.getElem?_eq_some_iff.1 hgb).1,a 0 Om,a 1 Om,a 2 Om,a 3 Om⟩
theorem SlT.news{a:Addr}{xs:List Tu}(hs:SlT w (some a) xs)(e:Ext w W): ∀j u,(flT xs)[j]?=some u→W.cell? (a.add j)=some u:=by
 intro j u f;have o:j<xs.length*4:=by have:=(List.getElem?_eq_some_iff.1 f).1;rwa [Qd6]at this
 have c:j/4<xs.length:=by omega
 obtain⟨b,g,h,v,k,l,m,n⟩:=(hs.ext e) (j/4) c
 cases h
 have e:(⟨b,g,none⟩:Addr).add j=⟨b,g+j,none⟩:=by unfold Addr.add;split<;>simp_all
 have d:=Qhv xs (j/4) (j % 4) c (Nat.mod_lt _ Om);rw [show j/4*4+j % 4=j by omega]at d;rw [e,←f,d];have p:j % 4<4:=Nat.mod_lt _ Om;generalize s:j/4=q at*;generalize t:j % 4=r at*;have i:j=q*4+r:=by omega
 subst i;obtain rfl|rfl|rfl|rfl:r=0∨r=1∨r=2∨r=3:=by omega
 ·exact k
 ·exact l
 ·exact m
 ·exact n
theorem SlT.nil_of{xs:List Tu}(hs:SlT w none xs):xs= []:=by
 cases xs with
 |nil=>rfl
 |cons m r=>obtain⟨b,a,h,_⟩:=hs 0 (by simp);cases h
theorem SlT.take{p:Option Addr}{xs:List Tu}(h:SlT w p xs)(k:Nat):SlT w p (xs.take k):=fun j hj=>by
 rw [List.length_take]at hj;obtain⟨b,a,c,d,f,g,i,l⟩:=h j Om;have e:(xs.take k)[j]'(by rw [List.length_take];exact hj)=xs[j]'Om:=by simp
 exact⟨b,a,c,d,by rw [e];exact f,by rw [e];exact g,by rw [e];exact i,by rw [e];exact l⟩
theorem SlT.one{x:Tu}(h:w.heap[b]?=some (.cells #[.int .u32 x.a,.int .u32 x.b,.int .u16 x.c,.int .u16 x.d] 64)):SlT w (some ⟨b,0,none⟩) [x]:=fun k hk=>by
 have e:k=0:=by simpa using hk
 subst e;refine⟨b,0,rfl,(Array.getElem?_eq_some_iff.1 h).1,?_,?_,?_,?_⟩<;>simp [World.cell?,h]
theorem SlT.mvo{A B:World}{C:Nat→Prop}{p:Option Addr}{xs:List Tu}(h:SlT A p xs)(m:Mv C A B)(hC: ∀b off,p=some ⟨b,off,none⟩→ ¬C b):SlT B p xs:=fun j hj=>by
 obtain⟨b,off,a,c,d,f,g,i⟩:=h j hj;have e:=Qf (m.same b c (hC b off a));simp only [Qa]at d f g i⊢;exact⟨b,off,a,Xl c m.size,by rw [e];exact d,by rw [e];exact f,by rw [e];exact g,by rw [e];exact i⟩
theorem SlT.mvn{A B:World}{n:Nat}{p:Option Addr}{xs:List Tu}(h:SlT A p xs)(m:Mv (fun k=>n≤k) A B)(hn:A.heap.size≤n):SlT B p xs:=fun j hj=>by
 obtain⟨b,i,l,a,c,d,f,g⟩:=h j hj;have e:=Qf (m.same b a (fun h=>by omega));simp only [Qa]at c d f g⊢;exact⟨b,i,l,Xl a m.size,by rw [e];exact c,by rw [e];exact d,by rw [e];exact f,by rw [e];exact g⟩
theorem Mv.cell{A B:World}{C:Nat→Prop}{i:Nat}(m:Mv C A B)(hb:Lt b A)(hC: ¬C b):B.cell? ⟨b,i,none⟩=A.cell? ⟨b,i,none⟩:=by
 rw [Qa,Qa,Qf (m.same b hb hC)]
open Go.RowKit
theorem Yg{a:Ag}:agR a=true↔((0≤a.id∧a.id<6∧0≤a.idle∧a.idle≤1099511627776)∧QJ a.xs=true)∧(∀k,k<16→mdR (a.md k)=true∧(a.md k).peer≠a.id)∧ ∀c∈a.xs,(a.md (ofT c.t).toNat).kind≠0∧(a.md (ofT c.t).toNat).ret=false:=by
 unfold agR Yj Qdd cnA;simp only [Bool.and_eq_true,decide_eq_true_eq,List.all_eq_true,List.mem_range,bne_iff_ne,ne_eq,Bool.not_eq_true']
 grind
theorem Qn5{m:Ru.Md}{k f g:Int}{s n r:Bool}(hm:m.right=true)(h:(Ru.Qux m k f g s n r).d=2):n=false∧r=true∧(m.k=1∨m.k=2)∧m.r=false:=by
 have b:Ru.QT m=m:=by unfold Ru.QT;rw [if_pos hm]
 have c:(m.k=1∨m.k=2)→m.r=false:=fun hk=>by
  unfold Ru.Md.right Ru.Qg2 at hm;rcases hk with e|e<;>rw [e]at hm<;>grind
 have i:Ru.QlP r=2→r=true:=by unfold Ru.QlP;cases r<;>simp
 cases n
 ·obtain⟨x,a⟩: ∃x,Ru.Qux m k f g s false r=x:=⟨_,rfl⟩;rw [a]at h;unfold Ru.Qux Ru.Quw Ru.Qau Ru.QeL Ru.Y4 Ru.Zs at a;rw [b]at a
  repeat' split at a
  all_goals(subst a;first|(simp at h;done)|(refine⟨rfl,i h,?_,c ?_⟩<;>first|exact .inl (by assumption)|exact .inr (by assumption))|(rename_i e;cases e))
 ·exfalso;unfold Ru.Qux at h
  split at h
  ·simp [Ru.Zs]at h
  ·simp at h
end Go.Proofs.YtpeonbaodnmlnaaGreat
namespace Go.Proofs.YtpeonbaodnmlnaaGreat
open Go.RowKit
variable{after:Array Edge}{B b:Nat}{x y:Operand}{ρ:Operand→Value}{g:Option (Nat×Bool)}{dst:Option Tmp}{pos:String}{ty:TypeId}{a0 a1 a2 a3 a4 a5:Value}{W w:World}
theorem QAT: ∀(k:Nat) (n:Int),0≤n→n<256^k→nbe (byN n k)=n
 |0,n,h0,h1=>by
  have:n=0:=by simp at h1;omega
  subst this;rfl
 |k+1,n,h0,h1=>by
  have h:=QAJ (n/256) (n % 256) Om k;rw [show n/256*256+n % 256=n by omega]at h;rw [Int.pow_succ]at h1;rw [h,Qil,QAT k (n/256) Om (Int.ediv_lt_of_lt_mul Om h1)];omega
theorem QBC{o:Opt}(h:ZO o=true):Qpi (Ym o)=o:=by
 have e:=(Zz o).1 h;rw [Qhm h];obtain⟨k,l,a,b,c,d⟩:=o;dsimp only at e;have f:nd (a % 256)=a:=by unfold nd;split<;>omega
 have g:nd (b % 256)=b:=by unfold nd;split<;>omega
 have i:=QAT 4 c Om Om;have j:=QAT 6 d Om Om;show Opt.mk k l (nd (a % 256)) (nd (b % 256)) (nbe (byN c 4)) (nbe (byN d 6))=_;rw [f,g,i,j]
theorem QA9{o:Opt}(h:ZO o=true):(Ym o).length=16∧takeE (Ym o)=0∧Yh (Ym o)=o:=by
 have a:(Ym o).length=16:=by rw [Qhm h];simp [ZA]
 have b:Qc7 (Ym o)=true:=by
  unfold Qc7;rw [QBC h,h,Qhm h];rfl
 refine⟨a,?_,?_⟩
 ·unfold takeE;rw [a,b];rfl
 ·unfold Yh;rw [if_pos ⟨a,b⟩,QBC h]
theorem QBL{sr ds:Int}{op pl:List Int}(hs:0≤sr∧sr<4294967296)(hd:0≤ds∧ds<4294967296)(ho:op.length=16)(hp:pl.length≤1000):
  Zd (ipB sr ds op pl)=0∧(ipH (ipB sr ds op pl)).sr=sr∧(ipH (ipB sr ds op pl)).ds=ds∧(ipH (ipB sr ds op pl)).op=op∧(ipH (ipB sr ds op pl)).pl=pl:=by
 obtain⟨n,q⟩: ∃n:Int,36+(pl.length:Int)=n:=⟨_,rfl⟩;have r:0≤n∧n<65536:=by omega
 obtain⟨C,b⟩: ∃C,Z5 (ipA sr ds pl.length op)=C:=⟨_,rfl⟩;have s:0≤C∧C<65536:=by rw [←b];exact Qlz _
 have e:ipA sr ds pl.length op= [73,0,n/256 % 256,n % 256,0,0,0,0,64,4,0,0,sr/65536/256 % 256,sr/65536 % 256,sr % 65536/256 % 256,sr % 65536 % 256,ds/65536/256 % 256,ds/65536 % 256,ds % 65536/256 % 256,ds % 65536 % 256]++op:=by
  rw [←q];rfl
 have h:ipB sr ds op pl=([73,0,n/256 % 256,n % 256,0,0,0,0,64,4,C/256 % 256,C % 256,sr/65536/256 % 256,sr/65536 % 256,sr % 65536/256 % 256,sr % 65536 % 256,ds/65536/256 % 256,ds/65536 % 256,ds % 65536/256 % 256,ds % 65536 % 256]++op)++pl:=by
  unfold ipB;rw [b,e];rfl
 rw [e]at b;rw [h];obtain⟨L,a⟩: ∃L,([73,0,n/256 % 256,n % 256,0,0,0,0,64,4,C/256 % 256,C % 256,sr/65536/256 % 256,sr/65536 % 256,sr % 65536/256 % 256,sr % 65536 % 256,ds/65536/256 % 256,ds/65536 % 256,ds % 65536/256 % 256,ds % 65536 % 256]++op)=L:=⟨_,rfl⟩;rw [a];have c:L.length=36:=by rw [←a];simp [ho]
 have f:bt (L++pl) 0=73:=by rw [←a];rfl
 have d:ipN (L++pl)=36:=by unfold ipN;rw [f];rfl
 have g:(L++pl).take 36=L:=List.take_left' c;have i:QaU L= [73,0,n/256 % 256,n % 256,0,0,0,0,64,4,0,0,sr/65536/256 % 256,sr/65536 % 256,sr % 65536/256 % 256,sr % 65536 % 256,ds/65536/256 % 256,ds/65536 % 256,ds % 65536/256 % 256,ds % 65536 % 256]++op:=by rw [←a];rfl
 have j:w16 (L++pl) 2=n/256 % 256*256+n % 256:=by rw [←a];rfl
 have k:w16 (L++pl) 6=0:=by rw [←a];rfl
 have l:w16 (L++pl) 10=C/256 % 256*256+C % 256:=by rw [←a];rfl
 have m:w16 (L++pl) 12*65536+w16 (L++pl) 14=(sr/65536/256 % 256*256+sr/65536 % 256)*65536+(sr % 65536/256 % 256*256+sr % 65536 % 256):=by rw [←a];rfl
 have o:w16 (L++pl) 16*65536+w16 (L++pl) 18=(ds/65536/256 % 256*256+ds/65536 % 256)*65536+(ds % 65536/256 % 256*256+ds % 65536 % 256):=by rw [←a];rfl
 have p:(L++pl).length=36+pl.length:=by rw [List.length_append,c]
 refine⟨?_,?_,?_,?_,?_⟩
 ·unfold Zd;rw [p,d,g,f,j,k,l,i,b,if_neg Om,if_neg Om,if_neg Om,if_neg Om,if_neg Om,if_neg Om]
 ·show w16 (L++pl) 12*65536+w16 (L++pl) 14=sr;rw [m];omega
 ·show w16 (L++pl) 16*65536+w16 (L++pl) 18=ds;rw [o];omega
 ·show((L++pl).take (ipN (L++pl))).drop 20=op;rw [d,g,←a];rfl
 ·show(L++pl).drop (ipN (L++pl))=pl;rw [d];exact List.drop_left' c
theorem QBq{fr tn:Int×Int}{o:Opt}{pl:List Int}(hf:fr∈Qx)(ht:tn∈Qx)(ho:ZO o=true)(hp:pl.length≤1000):Qdb (ipB (QD fr) (QD tn) (Ym o) pl)=some (fr,tn,o,pl):=by
 obtain⟨f,g,h⟩:=QA9 ho;obtain⟨a,b,c,d,e⟩:=QBL (QqE hf) (QqE ht) f hp;unfold Qdb;rw [a,b,c,d,e,g,h,if_pos ⟨rfl,rfl⟩,Qb7 hf rfl,Qb7 ht rfl];exact if_pos rfl
theorem QBD{m:Ru.Md}{k f g:Int}{s n r:Bool}(hm:m.right=true)(h:(Ru.Qux m k f g s n r).d=3):(Ru.Qux m k f g s n r).t=m.p∨((Ru.Qux m k f g s n r).t=f∧0≤f):=by
 have b:Ru.QT m=m:=by unfold Ru.QT;rw [if_pos hm]
 obtain⟨x,a⟩: ∃x,Ru.Qux m k f g s n r=x:=⟨_,rfl⟩;rw [a]at h⊢;unfold Ru.Qux Ru.Quw Ru.Qau Ru.QeL Ru.Y4 Ru.Zs Ru.J9 at a;rw [b]at a;have c:Ru.QlP r≠3:=by unfold Ru.QlP;cases r<;>decide
 repeat' split at a
 all_goals(subst a;first|(exfalso;revert h;(first|exact fun h=>c h|exact fun h=>absurd h Dc))|grind)
theorem QBr{m:Ru.Md}{k f g:Int}{s n r:Bool}(h:(Ru.Qux m k f g s n r).d=0):(Ru.Qux m k f g s n r).x≠0:=by
 obtain⟨x,a⟩: ∃x,Ru.Qux m k f g s n r=x:=⟨_,rfl⟩;rw [a]at h⊢;unfold Ru.Qux Ru.Quw Ru.Qau Ru.QeL Ru.Y4 Ru.Zs at a;have b:Ru.QlP r=0→Ru.QlQ r≠0:=by unfold Ru.QlP Ru.QlQ;cases r<;>decide
 repeat' split at a
 all_goals(subst a;first|(exact b h)|(simp at h;done)|(simp;done))
inductive QBa(a:Ag)(bs:List Int)(now:Int):Int×List Co×List Ev×List (List Int)→Prop
 |drop {d:Int} (h:d≠0) (hb:(Qdb bs=none∨(∃fr tn o pl,Qdb bs=some (fr,tn,o,pl)∧tn≠(2,a.id))∨ ¬(0≤now∧now≤1099511627776))→d=13):QBa a bs now (d,a.xs,[],[])
 |event {xs:List Co} {es:List Ev} (fr tn:Int×Int) (o:Opt) (pl:List Int) (he:Qdb bs=some (fr,tn,o,pl)) (ht:tn=(2,a.id)) (hn:0≤now∧now≤1099511627776) (hl:es.length=1∨es.length=2)
   (hx: ∀e∈es,e.t=(pkI pl).tu∧(e.k=1→Ru.QA1 (toR (a.md (ofT (pkI pl).tu).toNat))=true)):QBa a bs now (0,xs,es,[])
 |send {s:List Int} (fr tn:Int×Int) (o:Opt) (pl:List Int) (he:Qdb bs=some (fr,tn,o,pl)) (ht:tn=(2,a.id)) (hn:0≤now∧now≤1099511627776) (t:Int) (o':Opt) (hs:Qdb s=some ((2,a.id),(2,t),o',pl)) (h1:t≠a.id∨fr=tn) (h2:o'.bu=o.bu) (h3:o'.ti=o.ti) (hr:ByR s) (hl:s.length≤1000) (hp:0<pl.length):QBa a bs now (0,a.xs,[],[s])
theorem QBk{k:Int}(h:0≤k∧k<6):((2,k):Int×Int)∈Qx:=by
 obtain rfl|rfl|rfl|rfl|rfl|rfl:k=0∨k=1∨k=2∨k=3∨k=4∨k=5:=by omega
 all_goals decide
theorem QBU{a:Ag}{bs:List Int}{now:Int}(h:agR a=true)(hb:ByR bs)(hl:bs.length≤300):QBa a bs now (inR a bs now):=by
 obtain⟨⟨⟨B,C,-,-⟩,-⟩,b,-⟩:=Yg.1 h;unfold inR
 split
 ·exact .drop Om fun _=>rfl
 rename_i hg
 have l:0≤now∧now≤1099511627776:=by
  unfold inG at hg;rw [h]at hg;simp only [Bool.true_and,Bool.and_eq_false_imp,decide_eq_true_eq,decide_eq_false_iff_not]at hg;omega
 split
 ·exact .drop Om fun _=>rfl
 rename_i fr tn o pl he
 obtain⟨D,J,K,L,E⟩:=Qmj hb he
 split
 ·exact .drop Om fun _=>rfl
 rename_i i
 have i:tn=(2,a.id):=Classical.not_not.1 i;have v: ¬(Qdb bs=none∨(∃fr tn o pl,Qdb bs=some (fr,tn,o,pl)∧tn≠(2,a.id))∨ ¬(0≤now∧now≤1099511627776)):=by
  rintro(e|⟨_,_,_,_,e,q⟩|e)
  ·rw [he]at e;cases e
  ·rw [he]at e;cases e;exact q i
  ·exact e l
 split
 ·rename_i hw;exact .drop hw fun q=>absurd q v
 rename_i hpw
 split
 ·exact .drop Om fun q=>absurd q v
 have H:=QbY (pkI pl).tu;obtain⟨u,F⟩:=b (ofT (pkI pl).tu).toNat Om;unfold Qae;obtain⟨x,c⟩: ∃x,inX a fr o pl=x:=⟨_,rfl⟩;rw [c];unfold inX at c
 split
 ·rename_i hd;exact .drop (by rw [←c];exact QBr (by rw [c];exact hd)) fun q=>absurd q v
 rename_i h0
 split
 ·refine .event fr tn o pl he i l ?_ ?_
  ·unfold Qdq;split;exact .inr rfl;exact .inl rfl
  ·unfold Qdq;intro e b
   split at b
   ·rcases List.mem_cons.1 b with rfl|b
    ·exact⟨rfl,fun h=>by simp at h⟩
    ·obtain rfl:=List.mem_singleton.1 b;exact⟨rfl,fun h=>by simp at h⟩
   ·obtain rfl:=List.mem_singleton.1 b;exact⟨rfl,fun h=>by simp at h⟩
 rename_i h1
 split
 ·rename_i h2
  refine .event fr tn o pl he i l (.inl rfl) fun e b=> ?_;obtain rfl:=List.mem_singleton.1 b;refine⟨rfl,fun _=> ?_⟩;have:=(Qn5 (m:=toR (a.md (ofT (pkI pl).tu).toNat)) u (by rw [c];exact h2)).2.2.1;unfold Ru.QA1;rw [show Ru.QT (toR (a.md (ofT (pkI pl).tu).toNat))=toR (a.md (ofT (pkI pl).tu).toNat)from if_pos u];rcases this with e|e<;>rw [e]<;>rfl
 rename_i h2
 have w:x.d=3:=by rcases Qs9 (m:=toR (a.md (ofT (pkI pl).tu).toNat)) (k:=o.ki) (f:=if fr.1=2 then fr.2 else-1) (g:=o.ge) (s:=QyX (pkI pl)) (n:=okC a.xs (pkI pl).tu) (r:=decide ((a.xs.length:Int)<32))with e|e|e|e<;>rw [c]at e<;>first|exact absurd e h0|exact absurd e h1|exact absurd e h2|exact e
 have p:=(Zz o).1 E;have y:=Qk2 (m:=toR (a.md (ofT (pkI pl).tu).toNat)) (k:=o.ki) (f:=if fr.1=2 then fr.2 else-1) (g:=o.ge) (s:=QyX (pkI pl)) (n:=okC a.xs (pkI pl).tu) (r:=decide ((a.xs.length:Int)<32)) u Om (by rw [c];exact w);have z:=QBD (m:=toR (a.md (ofT (pkI pl).tu).toNat)) (k:=o.ki) (f:=if fr.1=2 then fr.2 else-1) (g:=o.ge) (s:=QyX (pkI pl)) (n:=okC a.xs (pkI pl).tu) (r:=decide ((a.xs.length:Int)<32)) u (by rw [c];exact w);rw [c]at y z;have j:ZO {o with ki:=x.k,ge:=x.g}=true:=(Zz _).2 ⟨by show 1≤x.k∧x.k≤5;omega,p.2.1,p.2.2.1,p.2.2.2.1,by show 0≤x.g∧x.g≤2147483647;omega,p.2.2.2.2.2⟩;refine .send fr tn o pl he i l x.t _ (QBq (QBk ⟨B,C⟩) (QBk y.1) j Om) ?_ rfl rfl (Qys ?_ D) ?_ ?_
 ·by_cases e:x.t=a.id
  ·right
   rcases z with q|⟨q,q0⟩
   ·exact absurd (q.symm.trans e) F
   ·rw [i];obtain⟨G,M⟩:=fr
    by_cases A:G=2
    ·subst A;simp at q;rw [←q,e]
    ·simp [A]at q0
  ·exact .inl e
 ·rw [Qhm j];have I:=(Zz _).1 j;exact((ByR.cons Om (ByR.cons Om (ByR.cons Om (ByR.cons Om (ByR.cons Om (ByR.cons Om ByR.nil)))))).app (QlT _ _)).app (QlT _ _)
 ·rw [QAM _ _ _ _ (QA9 j).1];unfold QiT Qf8;simp [(QA9 j).1];omega
 ·rcases Nat.eq_zero_or_pos pl.length with e|e
  ·exfalso
   apply hpw
   rw [List.length_eq_zero_iff.1 e];unfold Yw Zd;decide
  ·exact e
section
open Go.ChangeShapes Go.WideShapes Go.ChangeAt
def QBV(a:Ag)(d:Int)(X:List Co)(L:List Ev)(S:List (List Int))(nL nS:Nat)(v:Value)(w':World):Prop:= ∃p c ep ec sp sc,v= .tuple #[.agg (agv {a with p:=p,xs:=X,c:=c}),.agg (dnv ⟨d,ep,nL,ec,sp,nS,sc⟩)]∧SlC w' p X∧SlE w' ep L∧SlBB w' sp S
theorem QBW(a:Ag)(bs:List Int)(pp:Option Addr)(cp:Nat)(now:Int)(w:World)(d:Int)(X:List Co)(L:List Ev)(S:List (List Int))(nL nS:Nat)(e:inR a bs now=(d,X,L,S))(e1:L.length=nL)(e2:S.length=nS)(hs:SlC w a.p a.xs)(hl:a.xs.length≤1000)(hr: ∀x∈a.xs,TuR x.t)(hk: ∀k,k<16→0≤(a.md k).kind)(hb:SlB w pp bs)(hB:ByR bs)(hlb:bs.length≤1000)(hcp:bs.length≤cp):
  Calls Tryz.prog 12 #[.agg (agv a),.slice pp bs.length cp,.int .i64 now] w fun e w'=> ∃v,e= .returned v∧QBV a d X L S nL nS v w'∧Ext w w':=
 (Qq8 a bs pp cp now w hs hl hr hk hb hB hlb hcp).mono fun e' w' ⟨p,c,ep,ec,sp,sc,h1,h2,h3,h4,h5⟩=>by
  rw [e]at h1 h2 h3 h4;subst e1 e2;exact⟨_,h1,⟨p,c,ep,ec,sp,sc,rfl,h2,h3,h4⟩,h5⟩
def QBE(bs:List Int)(w w':World)(fr tn:Int×Int)(o:Opt)(q:Option Addr)(n k:Nat)(dr:Int):Prop:=
 (Qdb bs=none∧dr=13)∨ ∃pl,Qdb bs=some (fr,tn,o,pl)∧dr=0∧n=pl.length∧OB w' w.heap.size (.slice q n k) pl
theorem QBF(p:Option Addr)(bs:List Int)(c:Nat)(w:World)(hs:SlB w p bs)(hr:ByR bs)(hl:bs.length≤1000)(hlc:bs.length≤c):
  Calls Tryz.prog 30 #[.slice p bs.length c] w fun e w'=> ∃fr tn o q n k dr,e= .returned (.tuple #[.agg #[.int .u8 fr.1,.int .i64 fr.2,.int .u8 tn.1,.int .i64 tn.2,.int .u8 o.ki,.int .u8 o.bu,.int .i64 o.cu,.int .i64 o.pv,.int .i64 o.ge,.int .i64 o.ti,.slice q n k],.int .u8 dr])∧Ext w w'∧QBE bs w w' fr tn o q n k dr:=by
 refine(QA8 p bs c w hs hr hl hlc).mono ?_;rintro e w' (⟨h,rfl,g⟩|⟨fr,tn,o,a,d,h,rfl,g,b⟩)
 ·exact⟨(0,0),(0,0),⟨0,0,0,0,0,0⟩,none,0,0,13,rfl,g,.inl ⟨h,rfl⟩⟩
 ·obtain⟨q,k,rfl,-,-⟩:=b.slb;exact⟨fr,tn,o,q,a.length,k,0,rfl,g,.inr ⟨a,h,rfl,rfl,b⟩⟩
theorem QBE.ext{bs:List Int}{w' w2:World}{fr tn:Int×Int}{o:Opt}{q:Option Addr}{n k:Nat}{dr:Int}(h:QBE bs w w' fr tn o q n k dr)(e:Ext w' w2):QBE bs w w2 fr tn o q n k dr:=by
 rcases h with h|⟨pl,h1,h2,h3,h4⟩
 ·exact .inl h
 ·exact .inr ⟨pl,h1,h2,h3,h4.ext e⟩
theorem QBG{a:Ag}{bs:List Int}{now:Int}{d:Int}{X:List Co}{L:List Ev}{S:List (List Int)}(h:QBa a bs now (d,X,L,S)):
  ((d !=0)=true∧L= []∧S= []∧X=a.xs∧((Qdb bs=none∨(∃fr tn o pl,Qdb bs=some (fr,tn,o,pl)∧tn≠(2,a.id))∨ ¬(0≤now∧now≤1099511627776))→d=13))∨
  ((d !=0)=false∧(L.length=1∨L.length=2)∧S= []∧(0≤now∧now≤1099511627776)∧ ∃fr tn o pl,Qdb bs=some (fr,tn,o,pl)∧tn=(2,a.id)∧ ∀e∈L,e.t=(pkI pl).tu∧(e.k=1→Ru.QA1 (toR (a.md (ofT (pkI pl).tu).toNat))=true))∨
  ((d !=0)=false∧L= []∧(∃s,S= [s]∧(0≤now∧now≤1099511627776)∧ ∃fr tn o pl t o',Qdb bs=some (fr,tn,o,pl)∧tn=(2,a.id)∧Qdb s=some ((2,a.id),(2,t),o',pl)∧(t≠a.id∨fr=tn)∧o'.bu=o.bu∧o'.ti=o.ti∧ByR s∧s.length≤1000∧0<pl.length)∧X=a.xs):=by
 cases h with
 |drop h hb=>exact .inl ⟨by simpa using h,rfl,rfl,rfl,hb⟩
 |event fr tn o pl he ht hn hl hx=>exact .inr (.inl ⟨by simp,hl,rfl,hn,fr,tn,o,pl,he,ht,hx⟩)
 |send fr tn o pl he ht hn t o' hs h1 h2 h3 hr hl hp=>exact .inr (.inr ⟨by simp,rfl,⟨_,rfl,hn,fr,tn,o,pl,t,o',he,ht,hs,h1,h2,h3,hr,hl,hp⟩,rfl⟩)
theorem QBH{a:Ag}{bs:List Int}{now:Int}{d:Int}{X:List Co}{L:List Ev}{S:List (List Int)}(h:QBa a bs now (d,X,L,S)):
  (S= []∧((Qdb bs=none∨(∃fr tn o pl,Qdb bs=some (fr,tn,o,pl)∧tn≠(2,a.id))∨ ¬(0≤now∧now≤1099511627776))→d=13)∧(∀fr tn o pl,Qdb bs=some (fr,tn,o,pl)→ ∀e∈L,e.t=(pkI pl).tu∧(e.k=1→Ru.QA1 (toR (a.md (ofT (pkI pl).tu).toNat))=true))∧
   ((d !=0)=true∧L.length=0∧X=a.xs∨(d !=0)=false∧(0:Int)<L.length∧ ¬(2:Int)<L.length∧((L.length:Int)==0)=false∧True))∨
  ((d !=0)=false∧L= []∧(∃s,S= [s]∧(0≤now∧now≤1099511627776)∧ ∃fr tn o pl t o',Qdb bs=some (fr,tn,o,pl)∧tn=(2,a.id)∧Qdb s=some ((2,a.id),(2,t),o',pl)∧(t≠a.id∨fr=tn)∧o'.bu=o.bu∧o'.ti=o.ti∧ByR s∧s.length≤1000∧0<pl.length)∧X=a.xs):=by
 rcases QBG h with⟨t,rfl,rfl,hX,hQ⟩|⟨t,hL,rfl,hn,fr,tn,o,pl,he,ht,hx⟩|h
 ·exact .inl ⟨rfl,hQ,(fun _ _ _ _ _ e h=>by cases h),.inl ⟨t,rfl,hX⟩⟩
 ·refine .inl ⟨rfl,?_,?_,.inr ⟨t,Om,Om,by rcases hL with e|e<;>rw [e]<;>rfl,trivial⟩⟩
  ·rintro(e|⟨_,_,_,_,e,q⟩|e)
   ·rw [he]at e;cases e
   ·rw [he]at e;cases e;exact absurd ht q
   ·exact absurd hn e
  ·intro _ _ _ _ e;rw [he]at e
   cases e
   exact hx
 ·exact .inr h
theorem QBX{a:Ag}{bs:List Int}{now d dr:Int}{w':World}{fr tn:Int×Int}{o:Opt}{q:Option Addr}{n k:Nat}(hT:QBE bs w w' fr tn o q n k dr)
  (hQ:(Qdb bs=none∨(∃fr tn o pl,Qdb bs=some (fr,tn,o,pl)∧tn≠(2,a.id))∨ ¬(0≤now∧now≤1099511627776))→d=13):
  (dr !=0)=true∧(d==13)=true∨(dr !=0)=false∧(d==13)=true∧((tn.1==2)=false∨(tn.1==2)=true∧((tn.2==a.id)=false∨(tn.2==a.id)=true∧(now<0∨ ¬now<0∧now>1099511627776)))∨(dr !=0)=false∧tn=(2,a.id)∧ ¬now<0∧ ¬now>1099511627776:=by
 rcases hT with⟨h1,h2⟩|⟨pl,h1,h2,-⟩
 ·exact .inl ⟨by rw [h2];decide,by simpa using hQ (.inl h1)⟩
 ·by_cases c:tn=(2,a.id)∧ ¬now<0∧ ¬now>1099511627776
  ·exact .inr (.inr ⟨by rw [h2];decide,c⟩)
  ·refine .inr (.inl ⟨by rw [h2];decide,?_,?_⟩)
   ·by_cases f:tn=(2,a.id)
    ·simpa using hQ (.inr (.inr (by simp only [f,true_and]at c;omega)))
    ·simpa using hQ (.inr (.inl ⟨fr,tn,o,pl,h1,f⟩))
   ·obtain⟨g,h⟩:=tn
    by_cases b:g=2
    ·by_cases e:h=a.id
     ·refine .inr ⟨by simpa using b,.inr ⟨by simpa using e,?_⟩⟩;simp only [b,e,true_and]at c;omega
     ·exact .inr ⟨by simpa using b,.inl (by simpa using e)⟩
    ·exact .inl (by simpa using b)
theorem QBY{a6 a7 a8 a9 a10:Value}(r:RowZ W b #[a0,a1,a2,a3,a4,a5,a6,a7,a8,a9,a10]):W.cell? ⟨b,1,none⟩=some a1:=r.cell 1 (by show 1<11;omega)
theorem QBZ{a6 a7 a8 a9 a10:Value}(r:RowZ W b #[a0,a1,a2,a3,a4,a5,a6,a7,a8,a9,a10]):W.cell? ⟨b,2,none⟩=some a2:=r.cell 2 (by show 2<11;omega)
theorem QB0{a6 a7 a8 a9 a10:Value}(r:RowZ W b #[a0,a1,a2,a3,a4,a5,a6,a7,a8,a9,a10]):W.cell? ⟨b,3,none⟩=some a3:=r.cell 3 (by show 3<11;omega)
theorem QBl{a6 a7 a8 a9 a10:Value}(r:RowZ W b #[a0,a1,a2,a3,a4,a5,a6,a7,a8,a9,a10]):W.cell? ⟨b,5,none⟩=some a5:=r.cell 5 (by show 5<11;omega)
theorem QBm{a6 a7 a8 a9 a10:Value}(r:RowZ W b #[a0,a1,a2,a3,a4,a5,a6,a7,a8,a9,a10]):W.cell? ⟨b,9,none⟩=some a9:=r.cell 9 (by show 9<11;omega)
theorem QAU{a6 a7 a8 a9 a10:Value}(r:RowZ W b #[a0,a1,a2,a3,a4,a5,a6,a7,a8,a9,a10]):W.cell? ⟨b,10,none⟩=some a10:=r.cell 10 (by show 10<11;omega)
theorem QB1(r:RowZ W b #[a0,a1,a2,a3,a4,a5]):W.cell? ⟨b,0,none⟩=some a0:=r.cell 0 (by show 0<6;omega)
theorem QB2(r:RowZ W b #[a0,a1,a2,a3,a4,a5]):W.cell? ⟨b,1,none⟩=some a1:=r.cell 1 (by show 1<6;omega)
theorem QB3(r:RowZ W b #[a0,a1,a2,a3,a4,a5]):W.cell? ⟨b,2,none⟩=some a2:=r.cell 2 (by show 2<6;omega)
theorem QB4(r:RowZ W b #[a0,a1,a2,a3,a4,a5]):W.cell? ⟨b,3,none⟩=some a3:=r.cell 3 (by show 3<6;omega)
theorem QBI{d:Dn}(r:RowZ W b (dnv d)):W.cell? ⟨b,0,none⟩=some (.int .u8 d.dr):=r.cell 0 (by show 0<3;omega)
theorem QBn{d:Dn}(r:RowZ W b (dnv d)):W.cell? ⟨b,1,none⟩=some (.slice d.ep d.eN d.ec):=r.cell 1 (by show 1<3;omega)
theorem QBJ{d:Dn}(r:RowZ W b (dnv d)):W.cell? ⟨b,2,none⟩=some (.slice d.sp d.sN d.sc):=r.cell 2 (by show 2<3;omega)
theorem QBb(a:Ag)(bs:List Int)(pp:Option Addr)(cp:Nat)(now:Int)(w:World)(ha:AgO w a)(hb:SlB w pp bs)(hr:ByR bs)(hcp:bs.length≤cp):
  Cr 5 #[.agg (agv a),.slice pp bs.length cp,.int .i64 now] w (.bool true):=by
 have b0:=Xh (fun W (G:Ext w W)=>Qgb a W (ha.s.ext G) ha.l ha.t ha.k);have HA:=Xh ha;have HB:=Xh (And.intro hb hr);clear ha hb hr
 go_enter Tryz.func5,Tryz.ntmps5
 go_upto_region 1 with(fail)
 obtain⟨W0,F⟩: ∃W0,w.alloc (.cells (agv a) 27)=W0:=⟨_,rfl⟩;have g0:Ext w W0:=by rw [←F];exact Ea
 have ra:RowZ W0 w.heap.size (agv a):=by rw [←F];exact RowZ.new _ _ _
 rw [F];clear F;obtain⟨b3,e3⟩: ∃b,w.heap.size=b:=⟨_,rfl⟩;rw [e3]at ra⊢;have l4:=Xh e3;clear e3;have j3:=ra.r;have f9:=Xh ra;have a8:=Xh g0;clear ra g0
 cases h3:decide ((bs.length:Int)>300)
 case true=>
  go_wp2_with ((go_at_call 9;(with_reducible refine(Qbg _).mono ?_);rintro e wk ⟨rfl,gk⟩))
  go_ret;exact⟨rfl,a8.out.tr gk⟩
 have j4: ¬(bs.length:Int)>300:=of_decide_eq_false h3
 cases hR:agR a
 ·rw [hR]at b0;clear hR
  go_wp2_with (first|(go_at_call 23;(with_reducible refine(b0.out _ a8.out).mono ?_);rintro e w1 ⟨rfl,O⟩)|(go_at_call 9;(with_reducible refine(Qbg _).mono ?_);rintro e wk ⟨rfl,gk⟩))
  go_ret;exact⟨rfl,(a8.out.tr O).tr gk⟩
 have g2:=QiK hR;have g3:a.xs.length≤32:=((ZK a.xs).1 g2.2.2.2.2).1;obtain⟨d,X,L,S,er⟩: ∃d X L S,inR a bs now=(d,X,L,S):=⟨_,_,_,_,rfl⟩;have j5:=Xh (show QBa a bs now (d,X,L,S)by rw [←er];exact QBU hR HB.out.2 Om);obtain⟨D,eL⟩: ∃D,L.length=D:=⟨_,rfl⟩;obtain⟨P,eS⟩: ∃P,S.length=P:=⟨_,rfl⟩;have j6:=Xh (fun W (G:Ext w W)=>QBW a bs pp cp now W d X L S D P er eL eS (HA.out.s.ext G) Om HA.out.t HA.out.k (HB.out.1.ext G) HB.out.2 Om hcp);have j7:=Xh (fun W (G:Ext w W)=>QBF pp bs cp W (HB.out.1.ext G) HB.out.2 Om hcp);have g7:=Xh g3;have j8:=Xh (show bs.length≤300 by omega);have d6:=Xh (And.intro eL eS);rw [hR]at b0;have l5:=Xh hR;clear hR g2 er eL eS g3
 go_upto_region 3 with((go_at_call 23;(with_reducible refine(b0.out _ a8.out).mono ?_);rintro e w1 ⟨rfl,O⟩))
 have g:=f9.out.ext O;have E:=a8.out.tr O;clear f9 a8 O b0 j3 h3 j4
 go_upto_region 3 with(fail)
 refine wp_region_lit ?_;refine listV (v:= .agg (agv a)) (w':=w1) rfl ((Zx (C:=fun _=>False) g (fun h=>h) Kr) _ (Mv.refl (fun _=>False) _)) ?_;refine listV (v:= .slice pp bs.length cp) (w':=w1) rfl Kr ?_;refine listV (v:= .int .i64 now) (w':=w1) rfl Kr ?_;refine JS (R:=fun v w'=>(QBV a d X L S D P) v w'∧Ext w1 w') rfl Kr (j6.out w1 E) ?_;rintro _ Y ⟨⟨p',c',ep,ec,sp,sc,rfl,s2,y,x⟩,i0⟩;have E:=E.tr i0;have g:=g.ext i0;obtain⟨o',eo⟩: ∃o,({a with p:=p',xs:=X,c:=c'}:Ag)=o:=⟨_,rfl⟩;rw [eo];have M:=Ext.rf Y;refine listV (v:= .tuple #[.agg (agv o'),.agg (dnv ⟨d,ep,D,ec,sp,P,sc⟩)]) (w':=Y) rfl Kr ?_;refine listV (v:= .agg (agv o')) (w':=Y) rfl Kr ?_;refine listV (v:= .agg (dnv ⟨d,ep,D,ec,sp,P,sc⟩)) (w':=Y) rfl Kr ?_;refine listV rfl (Qz _ _ _ _ _ _ _) ?_;obtain⟨b7,e7⟩: ∃b,Y.heap.size=b:=⟨_,rfl⟩;obtain⟨b2,c6⟩: ∃N,Y.alloc (.cells (agv agz) 27)=N:=⟨_,rfl⟩;have u:RowZ b2 b7 (agv agz):=by rw [←c6,←e7];exact RowZ.new _ _ _
 have l7:Y.heap.size≤b7:=by rw [←e7];exact M.size
 have O:Ext Y b2:=by rw [←c6];exact Ea
 have M:=M.tr O;rw [c6,e7];clear c6 e7 O;refine listV rfl (QbA _) ?_;obtain⟨b8,e8⟩: ∃b,b2.heap.size=b:=⟨_,rfl⟩;obtain⟨c7,c8⟩: ∃N,b2.alloc (.cells (#[.int .u8 0,.slice none 0 0,.slice none 0 0]) 42)=N:=⟨_,rfl⟩;have l6:b7<b8:=by have:=u.l;unfold Lt at this;omega
 have f:RowZ c7 b8 (#[.int .u8 0,.slice none 0 0,.slice none 0 0]):=by rw [←c8,←e8];exact RowZ.new _ _ _
 have Q:Y.heap.size≤b8:=by rw [←e8];exact M.size
 have O:Ext b2 c7:=by rw [←c8];exact Ea
 have M:=M.tr O;have u:=u.ext O;rw [c8,e8];clear c8 e8 O;refine Zj rfl (Ze (B:=b7) (cs:=agv o') (by rw [u.r];exact Qg) u.z Qg Zr Kr Kr) ?_;obtain⟨a6,b4⟩: ∃a6,Qe c7 b7 0 (agv o')=a6:=⟨_,rfl⟩;have gS:Mv (fun q=>q=b7) c7 a6:=by rw [←b4];exact Mv.sa _ rfl (Mv.refl _ _)
 have u:RowZ a6 b7 (agv o'):=by rw [←b4];exact u.all _ (Qg.trans Qg.symm)
 have M:Ext Y a6:=by rw [←b4];exact Ext.sa _ l7 M
 have f:=f.mv gS Om;clear gS;rw [b4];clear b4;refine Zj rfl (Yq (B:=b8) (cs:=dnv ⟨d,ep,D,ec,sp,P,sc⟩) (by rw [f.r];rfl) f.z rfl (by simp [go_sem,dnv]) Kr Kr) ?_;obtain⟨b5,b6⟩: ∃b5,Qe a6 b8 0 (dnv ⟨d,ep,D,ec,sp,P,sc⟩)=b5:=⟨_,rfl⟩;have gS:Mv (fun q=>q=b8) a6 b5:=by rw [←b6];exact Mv.sa _ rfl (Mv.refl _ _)
 have f:RowZ b5 b8 (dnv ⟨d,ep,D,ec,sp,P,sc⟩):=by rw [←b6];exact f.all _ rfl
 have M:Ext Y b5:=by rw [←b6];exact Ext.sa _ Q M
 have u:=u.mv gS Om;clear gS;rw [b6];clear b6;refine wpList_nil ?_;have HX:=Xh M;clear M;have E:=E.tr HX.out;have g:=g.ext HX.out;have s2:=s2.ext HX.out;have y:=y.ext HX.out;have x:=x.ext HX.out;clear HX l7 Q;go_simp;have h0:=Xh eo;have d7:=u.r;have j9:=f.r;have I:=Xh (And.intro E (And.intro g (And.intro u (And.intro f (And.intro s2 (And.intro y x))))));clear eo
 go_upto_region 5 with(go_at_call 30;(refine(j7.out _ I.out.1).mono ?_);rintro e w4 ⟨fr,J,o,q,n,k,dr,rfl,g4,ht⟩)
 obtain⟨W9,F⟩: ∃W,Qe (w4.alloc (.cells #[.int .u8 0,.int .i64 0,.int .u8 0,.int .i64 0,.int .u8 0,.int .u8 0,.int .i64 0,.int .i64 0,.int .i64 0,.int .i64 0,.slice none 0 0] 77)) w4.heap.size 0 #[.int .u8 fr.1,.int .i64 fr.2,.int .u8 J.1,.int .i64 J.2,.int .u8 o.ki,.int .u8 o.bu,.int .i64 o.cu,.int .i64 o.pv,.int .i64 o.ge,.int .i64 o.ti,.slice q n k]=W:=⟨_,rfl⟩;have U:Ext w4 W9:=by rw [←F];exact Mv.ext_of Ea (Mv.sa (C:=fun k=>k=w4.heap.size) _ rfl (Mv.refl _ _)) (fun k e=>by omega)
 have m:RowZ W9 w4.heap.size #[.int .u8 fr.1,.int .i64 fr.2,.int .u8 J.1,.int .i64 J.2,.int .u8 o.ki,.int .u8 o.bu,.int .i64 o.cu,.int .i64 o.pv,.int .i64 o.ge,.int .i64 o.ti,.slice q n k]:=by rw [←F];exact(RowZ.new _ _ _).all _ rfl
 rw [F];clear F;obtain⟨b9,e9⟩: ∃b,w4.heap.size=b:=⟨_,rfl⟩;rw [e9]at m⊢;have d8:=Xh (ht.ext U);have U:=g4.tr U;obtain⟨E,g,u,f,s2,y,x⟩:=I.out;have E:=E.tr U;have g:=g.ext U;have u:=u.ext U;have f:=f.ext U;have d7:=u.r;have h4:=g.r;have a2:=m.r;have a3:W9.cell? ⟨b8,0,none⟩=some (.int .u8 d):=f.cell 0 (by show 0<3;omega);have a1:W9.cell? ⟨b8,1,none⟩=some (.slice ep D ec):=f.cell 1 (by show 1<3;omega);have a4:W9.cell? ⟨b8,2,none⟩=some (.slice sp P sc):=f.cell 2 (by show 2<3;omega);have Q:=f.l;have c0:o'.p=p'∧o'.xs=X:=by rw [←h0.out];exact⟨rfl,rfl⟩
 have h5:=Xh (fun(hX:X=a.xs)=>(show Cr 14 #[.agg (agv o'),.agg (agv a)] W9 (.bool true) by
  have h:=QA0 o' a W9 (by rw [c0.1,c0.2];exact s2.ext U) (HA.out.s.ext E) (by rw [c0.2,hX];have:=g7.out;omega) (by have:=g7.out;omega)
  rwa [show Jl o' a=true by rw [←h0.out,hX];unfold Jl;simp [QBo]]at h))
 have I:=Xh (And.intro E (And.intro g (And.intro u (And.intro f (And.intro m (And.intro (y.ext U) (x.ext U)))))));clear E g u f m s2 y x U g4 ht e9 j9 c0;obtain⟨eL,eS⟩:=d6.out;rcases QBH j5.out with⟨hS,hQ,G,hJ⟩|⟨t,hL,hS,hX⟩
 ·obtain rfl:P=0:=by rw [←eS,hS];rfl
  have HQ:=Xh hQ;have HE:=Xh G;have h6:=Xh eL;rw [eL]at hJ;clear d6 eL eS hS hQ G;rcases hJ with⟨t,t0,hX⟩|⟨t,t0,t1,x,-⟩
  case' inl=>
   have z0: ¬(0:Int)<D:=by omega
   have z1:((D:Int)==0)=true:=by simpa using t0
   have z2: ¬(2:Int)<D:=by omega
   go_upto_region 14 with(go_at_call 14;(refine(h5.out hX).mono ?_);rintro e w5 ⟨rfl,H⟩)
  case' inr=>
   have H:=Ext.rf W9
   go_upto_region 14 with(fail)
  all_goals
   have k0:(dr !=0)=true∧(d==13)=true∨(dr !=0)=false∧(d==13)=true∧((J.1==2)=false∨(J.1==2)=true∧((J.2==a.id)=false∨(J.2==a.id)=true∧(now<0∨ ¬now<0∧now>1099511627776)))∨(dr !=0)=false∧J=(2,a.id)∧ ¬now<0∧ ¬now>1099511627776:=QBX d8.out HQ.out;clear h4 d7 a2 a3 a1 a4 Q;obtain⟨E,g,u,f,m,y,x⟩:=I.out;have E:=E.tr H;have g:=g.ext H;have f:=f.ext H;have m:=m.ext H;have y:=y.ext H;have x:=x.ext H;have c3:=ZQ g.r;have a3:=QBI f;have a1:=QBn f;have a4:=QBJ f;have a2:=m.r;have cA:=QAU m;have cB:=QBl m;have cC:=QBm m;have l3:=g.l;have Q:=f.l;have l9:=m.l;have I:=Xh (And.intro E (And.intro g (And.intro u (And.intro f (And.intro m (And.intro y x))))));clear g u f m y x;rcases k0 with⟨q1,q2⟩|⟨q1,q2,q3|⟨q3,q4|⟨q4,q5|⟨q5,q6⟩⟩⟩⟩|⟨q1,q2,q5,q6⟩
   rotate_left 5
   ·obtain⟨pl,K,-,hn,ho⟩:=d8.out.resolve_left (fun h=>by rw [h.2]at q1;cases q1);obtain⟨a7,f5,-⟩:=Qmj HB.out.2 K;subst hn;obtain⟨p1,c1,e1,c9,s1⟩:=ho.slb
    cases e1
    have e5:=Xh (QAR q pl k _ (s1.ext H) a7 (by have:=j8.out;omega) c9 (fun e=>by subst e;exact QBB ho));have e6:=HE.out _ _ _ _ K;have f0:=(Qq1 a7).1;obtain⟨T,hT⟩: ∃T,pkI pl=T:=⟨_,rfl⟩;rw [hT]at e5 e6 f0;unfold pkV at e5;have f1:=Xh e6;have h7:=Xh f0;have f2:(J.1==2)=true:=by rw [q2];rfl
    have f3:(J.2==a.id)=true:=by rw [q2];simp
    clear K a7 f5 ho hT e6 f0 s1 c9 q2
    go_upto_region 20 with(go_at_call 31;(refine e5.out.mono ?_);rintro e w6 ⟨pb,nb,kb,rfl,g6⟩)
    obtain⟨f6,F⟩: ∃W,Qe (w6.alloc (.cells #[.int .u32 0,.int .u32 0,.int .u16 0,.int .u16 0,.int .u8 0,.slice none 0 0] 81)) w6.heap.size 0 #[.int .u32 T.tu.a,.int .u32 T.tu.b,.int .u16 T.tu.c,.int .u16 T.tu.d,.int .u8 T.fl,.slice pb nb kb]=W:=⟨_,rfl⟩;have a5:Ext w6 f6:=by rw [←F];exact Mv.ext_of Ea (Mv.sa (C:=fun k=>k=w6.heap.size) _ rfl (Mv.refl _ _)) (fun k e=>by omega)
    have V:RowZ f6 w6.heap.size #[.int .u32 T.tu.a,.int .u32 T.tu.b,.int .u16 T.tu.c,.int .u16 T.tu.d,.int .u8 T.fl,.slice pb nb kb]:=by rw [←F];exact(RowZ.new _ _ _).all _ rfl
    rw [F];clear F;obtain⟨m7,i1⟩: ∃b,w6.heap.size=b:=⟨_,rfl⟩;rw [i1]at V⊢;have a5:=g6.tr a5;obtain⟨A,f7⟩: ∃n:Nat,ofT T.tu=n:=⟨(ofT T.tu).toNat,by have:=(QbY T.tu).1;omega⟩;have k4:A<16:=by have:=(QbY T.tu).2;omega
    have k5:=Xh (fun W=>f7▸Qln T.tu h7.out W);have f4:=Xh (fun(h:Ru.QA1 (toR (a.md A))=true) W=>(show Cr 32 #[.agg (mdv (a.md A))] W (.bool true) by have h1:=Ru.QBp (toR (a.md A)) W (HA.out.k A k4);rw [Qaw,←h];exact h1));have f1:=Xh (show ∀e∈L,e.t=T.tu∧(e.k=1→Ru.QA1 (toR (a.md A))=true)by have h:=f1.out;rw [f7]at h;exact h);have m0:2+A*4+4≤67:=by omega
    have m1:(A:Int)<16:=by omega
    have b1:=Xh (And.intro (I.out.1.tr a5) (And.intro (I.out.2.1.ext a5) (And.intro (I.out.2.2.2.1.ext a5) (And.intro V (I.out.2.2.2.2.2.1.ext a5)))));clear c3 a3 a1 a4 cA cB cC a2 l3 Q l9 E I V a5 g6 i1 f7 h7 t f2 f3;have h2:D≤2:=by omega
    clear t0
    try clear t1 x
    try clear z0 z1 z2
    go_wp2
    go_loopw [16] (fun i wr=> ∃j:Nat,j≤D∧i= .int .i64 j∧Ext f6 wr) (fun i _=>D- (intOf i).toNat)
    case atStart=>exact⟨0,Nat.zero_le _,rfl,Ext.rf _⟩
    case round=>
     obtain⟨j,hj,rfl,G⟩:=hrel;have g:=b1.out.2.1.ext G;have f:=b1.out.2.2.1.ext G;have V:=b1.out.2.2.2.1.ext G;have a1:=QBn f;have Q:=f.l;have h8:=Xh G
     by_cases m6:j<D
     ·have k6:(j:Int)<D:=by omega
      obtain⟨bb,oo,hp,lb,q0,k9,d2,d3,d4,d5⟩:=(b1.out.2.2.2.2.ext G) j (by have:=h6.out;omega);obtain⟨e,K⟩: ∃e,L[j]'(by have:=h6.out;omega)=e:=⟨_,rfl⟩;rw [K]at q0 k9 d2 d3 d4 d5;obtain⟨k1,k2⟩:=f1.out e (by rw [←K];exact List.getElem_mem _);rw [k1]at d2 d3 d4 d5;subst hp;have m2:Lt bb wr:=lb;have hR:=g.r;have hL:=g.l;have e0:=QB1 V;have e1:=QB2 V;have e2:=QB3 V;have e3:=QB4 V;have m3:=V.l;have m4:eqT ⟨T.tu.a,T.tu.b,T.tu.c,T.tu.d⟩ ⟨T.tu.a,T.tu.b,T.tu.c,T.tu.d⟩=true:=YZ.2 rfl;clear g f V G lb K k1
      cases q:(e.k==1)
      case' true=>have f4:=Xh (f4.out (k2 (by simpa using q)))
      all_goals
       clear k2
       go_upto_region 23 with(fail)
       refine Qk Kr Kr ?_;(repeat(go_big_quiet_step (first|(go_at_call 33;exact Zo (k5.out _))|(go_at_call 32;exact Zo (f4.out _)))));refine wpQuiet_nil ?_;intro d_
       have hd:=Qt d_;go_wp2
       go_roundw
       case rel=>exact⟨j+1,Om,by go_num,h8.out.tr hd⟩
       case measure=>simp [intOf];omega
     ·have k6: ¬(j:Int)<D:=by omega
      clear g V G
      go_wp2_with ((go_at_call 9;(with_reducible refine(Qbg _).mono ?_);rintro e wk ⟨rfl,gk⟩))
      go_ret;exact⟨rfl,(b1.out.1.tr h8.out).tr gk⟩
   all_goals
    go_wp2_with ((go_at_call 9;(with_reducible refine(Qbg _).mono ?_);rintro e wk ⟨rfl,gk⟩))
    go_ret;exact⟨rfl,E.tr gk⟩
 ·obtain⟨s,rfl,hn,m8,m9,o0,i2,t0,A,K,ht,hs,h1,h2,h3,i3,i4,a9⟩:=hS;obtain rfl:D=0:=by rw [←eL,hL];rfl
  obtain rfl:P=1:=eS.symm;obtain⟨pl,i5,i6,l0,ho⟩:=d8.out.resolve_left (fun h=>by rw [h.1]at K;cases K);rw [K]at i5
  cases i5
  subst l0;have q1:(dr !=0)=false:=by rw [i6];rfl
  have f2:(J.1==2)=true:=by rw [ht];rfl
  have f3:(J.2==a.id)=true:=by rw [ht];simp
  have q5: ¬now<0:=by omega
  have q6: ¬now>1099511627776:=by omega
  obtain⟨p1,c1,e1,c9,s1⟩:=ho.slb
  cases e1
  have k7:=Xh s1;have c5:=Xh (And.intro hs (And.intro i3 i4));have h9:=Xh (And.intro (Qmj HB.out.2 K) (And.intro h1 (And.intro h2 (And.intro h3 (And.intro ht a9)))));clear d6 eL eS hL hn K ht hs h1 h2 h3 i3 i4 i6 ho c9 s1 a9
  go_upto_region 14 with(go_at_call 14;(refine(h5.out hX).mono ?_);rintro e w5 ⟨rfl,H⟩)
  clear h4 d7 a2 a3 a1 a4 Q;obtain⟨E,g,u,f,m,y,x⟩:=I.out;have E:=E.tr H;have g:=g.ext H;have f:=f.ext H;have m:=m.ext H;have y:=y.ext H;have x:=x.ext H;have c3:=ZQ g.r;have a3:=QBI f;have a1:=QBn f;have a4:=QBJ f;have a2:=m.r;have cA:=QAU m;have cB:=QBl m;have cC:=QBm m;have l3:=g.l;have Q:=f.l;have l9:=m.l;have I:=Xh (And.intro E (And.intro g (And.intro u (And.intro f (And.intro m (And.intro y x))))));clear g u f m y x;obtain⟨bS,oS,q2,c2,rfl,lS,cS,sS,i7⟩:=I.out.2.2.2.2.2.2 0 (by simp);rw [Nat.add_zero]at cS;have cS:w5.cell? ⟨bS,oS,none⟩=some (.slice q2 s.length c2):=cS;have lS:Lt bS w5:=lS;have k8:=Xh (QBF q2 s c2 w5 sS c5.out.2.1 c5.out.2.2 i7);clear sS i7
  go_upto_region 18 with(go_at_call 30;(refine k8.out.mono ?_);rintro e w8 ⟨n0,n1,o2,q3,n3,k3,n2,rfl,g8,l1⟩)
  obtain⟨n4,i8,rfl,rfl,i9⟩:=l1.resolve_left (fun h=>by rw [c5.out.1]at h;cases h.1);rw [c5.out.1]at i8
  cases i8
  obtain⟨d0,F⟩: ∃W,Qe (w8.alloc (.cells #[.int .u8 0,.int .i64 0,.int .u8 0,.int .i64 0,.int .u8 0,.int .u8 0,.int .i64 0,.int .i64 0,.int .i64 0,.int .i64 0,.slice none 0 0] 77)) w8.heap.size 0 #[.int .u8 2,.int .i64 a.id,.int .u8 2,.int .i64 t0,.int .u8 A.ki,.int .u8 A.bu,.int .i64 A.cu,.int .i64 A.pv,.int .i64 A.ge,.int .i64 A.ti,.slice q3 i2.length k3]=W:=⟨_,rfl⟩;have Z:Ext w8 d0:=by rw [←F];exact Mv.ext_of Ea (Mv.sa (C:=fun k=>k=w8.heap.size) _ rfl (Mv.refl _ _)) (fun k e=>by omega)
  have a0:RowZ d0 w8.heap.size #[.int .u8 2,.int .i64 a.id,.int .u8 2,.int .i64 t0,.int .u8 A.ki,.int .u8 A.bu,.int .i64 A.cu,.int .i64 A.pv,.int .i64 A.ge,.int .i64 A.ti,.slice q3 i2.length k3]:=by rw [←F];exact(RowZ.new _ _ _).all _ rfl
  obtain⟨p4,c4,e4,-,s4⟩:=(i9.ext Z).slb
  cases e4
  obtain⟨⟨a7,f5,-⟩,h1,h2,h3,ht,a9⟩:=h9.out;have Z:=g8.tr Z;have j1:=Qcy (c:=k3) s4 a7 a9;have j2:=Qcy (c:=k) (k7.out.ext (H.tr Z)) a7 a9;obtain⟨j0,f8⟩: ∃b,w8.heap.size=b:=⟨_,rfl⟩;rw [F,f8];rw [f8]at a0;clear c3 a3 a1 a4 cA cB cC a2 l3 Q l9 E cS lS F s4 i9;obtain⟨E,g,u,f,m,y,x⟩:=I.out;have E:=E.tr Z;have g:=g.ext Z;have f:=f.ext Z;have m:=m.ext Z;have y:=y.ext Z;have x:=x.ext Z;have c3:=ZQ g.r;have a3:=QBI f;have a1:=QBn f;have a4:=QBJ f;have a2:=m.r;have cA:=QAU m;have cB:=QBl m;have cC:=QBm m;have l3:=g.l;have Q:=f.l;have l9:=m.l;have I:=Xh (And.intro E (And.intro g (And.intro u (And.intro f (And.intro m (And.intro y x))))));clear g u f m y x;have d1:=QBY a0;have d2:=QBZ a0;have d3:=QB0 a0;have d5:d0.cell? ⟨j0,5,none⟩=some (.int .u8 o.bu):=by rw [←h2];exact QBl a0
  have d9:d0.cell? ⟨j0,9,none⟩=some (.int .i64 o.ti):=by rw [←h3];exact QBm a0
  have dA:=QAU a0;have m5:=a0.l;clear a0 h9 h2 h3 a7 f5 a9 ht f8 q1 f2 f3 q5 q6 t;have hz:(t0 !=a.id)=true∨(t0 !=a.id)=false∧fr=J:=by
   by_cases e:t0=a.id
   ·exact .inr ⟨by simpa using e,h1.resolve_left (fun h=>h e)⟩
   ·exact .inl (by simpa using e)
  clear h1;rcases hz with z|⟨z,rfl⟩
  all_goals
   go_wp2_with ((go_at_call 9;(with_reducible refine(Qbg _).mono ?_);rintro e wk ⟨rfl,gk⟩))
   go_ret;exact⟨rfl,E.tr gk⟩
end
section
open Go.ChangeShapes Go.WideShapes Go.ChangeAt Go.Joins Go.Deep
section
variable {H:Type} {enc:TypeId×Value→H} {w:World} {base b0:Nat} {spare:Nat→Bool} {held:Bool} {fuel:Nat} {L:List Value} {y:DataW H×List MemPlace}
theorem QuG{n:Int}(h:(Lit.int .u8 n).wf=true):0≤n∧n<256:=by
 have a:IntKind.u8.min=0:=rfl;have b:IntKind.u8.max=255:=rfl;simp only [Lit.wf,Bool.and_eq_true,decide_eq_true_eq]at h;omega
theorem Qwo(h:DataW.trod enc Tryz.prog w base spare held fuel 5 L=some y): ∃x:Int,(0≤x∧x<256)∧ ∀j,j<1→L[j]?=some (.int .u8 x):=by
 obtain⟨a,p,_,b⟩:=DataW.trod_int Tryz.underlying5 h;refine⟨a,QuG b,fun j hj=> ?_⟩;obtain rfl:j=0:=by omega
 have:=congrArg (fun l=>l[0]?) p;simpa using this
theorem QBM{v:Value}{d:DataW H}{p:List MemPlace}(hv:Value.okWide Tryz.prog w .any b0 28 v)(h:DataW.Trod enc Tryz.prog w base spare held 28 v d p):
  ∃(q:Option Addr) (xs:List Int) (c:Nat),v= .slice q xs.length c∧SlB w q xs∧ByR xs∧xs.length≤c:=by
 obtain⟨K,f,A,rfl⟩:=okWide_slice Tryz.underlying28 hv;obtain⟨L,B⟩:=h;rcases open_slice Tryz.underlying28 B with⟨hcs,_⟩|⟨a,len',cap',k,n,D,Pl,hcs,_,hl,hm,hk,_,hi⟩
 ·simp [Value.cells]at hcs;obtain⟨rfl,rfl,rfl⟩:=hcs;exact⟨none,[],0,rfl,(fun k hk=>by simp at hk),(fun x h=>by cases h),Nat.le_refl _⟩
 ·simp [Value.cells]at hcs;obtain⟨rfl,rfl,rfl⟩:=hcs;have J:f≤k:=by rw [hk];split<;>omega
  have g: ∀i,i<f→ ∃x:Int,(0≤x∧x<256)∧ ∀j,j<1→w.cell? (a.add (i*1+j))=some (.int .u8 x):=by
   intro i s;obtain⟨M,m,C⟩:=hi i Om;rw [Qro]at m;obtain⟨_,N,E⟩:=World.cells?_some m;obtain⟨x,F,r⟩:=Qwo C;refine⟨x,F,fun j hj=> ?_⟩;have t:=E j hj;rw [r j hj]at t;have e:(a.add (i*1)).add j=a.add (i*1+j):=by
    unfold Addr.add
    repeat' split
    all_goals first|(exfalso;simp_all;omega)|(simp_all;done)|(simp_all;omega)
   rw [←e];exact t
  have u:((List.range f).map fun i=>if h:i<f then(g i h).choose else 0).length=f:=by simp
  refine⟨some a,(List.range f).map fun i=>if h:i<f then(g i h).choose else 0,A,by rw [u],?_,?_,by rw [u];exact hl⟩
  ·intro i s;have l:i<f:=by omega
   have m:=(g i l).choose_spec;simp only [List.getElem_map,List.getElem_range,dif_pos l];generalize (g i l).choose=x at m;obtain⟨-,o⟩:=m;have z:a.spot=none:=by
    obtain⟨O,_,G⟩:=g 0 Om;have:=G 0 Om;simpa [Addr.add]using World.cell?_spot this
   obtain⟨b,y,I⟩:=a;obtain rfl:I=none:=z;have o: ∀j,j<1→w.cell? ⟨b,y+i*1+j,none⟩=some (.int .u8 x):=fun j hj=>by
    have:=o j hj;rw [add_plain]at this;rw [Nat.add_assoc];exact this
   exact⟨b,y,rfl,World.block_lt_of_cell? w _ (o 0 Om),by have:=o 0 Om;rwa [Nat.mul_one,Nat.add_zero]at this⟩
  ·intro x r;rw [List.mem_map]at r;obtain⟨i,s,rfl⟩:=r;have l:i<f:=List.mem_range.1 s;rw [dif_pos l];exact(g i l).choose_spec.1
end
end
end Go.Proofs.YtpeonbaodnmlnaaGreat
