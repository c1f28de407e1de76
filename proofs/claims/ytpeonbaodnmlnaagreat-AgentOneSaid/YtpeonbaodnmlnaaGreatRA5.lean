/- Lemmas of this claim, put together out of: HT, HU, HV, HX, HY, HZ, IA, IC, IE, IB, NM, NN, NP, NO, NQ, OA1, OA2, F, OE, U1. -/
import Derived.Test.YtpeonbaodnmlnaaGreatRA4
import Derived.Laws.EntriesVeiled
import Derived.WalkKit
import Derived.ProofKit
import Derived.OpenShut
import Derived.Lib.SmallJoins
import Derived.Deep.Slices
import Derived.Deep.Fields
import Derived.ChangeSame
set_option linter.unusedSimpArgs false
set_option linter.unusedVariables false
set_option maxRecDepth 100000
set_option maxHeartbeats 16000000
namespace Go.Proofs.YtpeonbaodnmlnaaGreat
open Go.RowKit
variable{after:Array Edge}{cs:Array Value}{B b i m:Nat}{C:Nat→Prop}{q x y:Operand}{ρ:Operand→Value}{g:Option (Nat×Bool)}{p:Option Addr}{dst:Option Tmp}{pos:String}{ty:TypeId}{a0 a1 a2 u v:Value}{W w:World}
@[go_sem] theorem QyL{a3 a4 a5 a6 a7 a8 a9 a10 a11 a12 a13 a14 a15 a16 a17:Value}{o:Nat}:Fits o m #[a0,a1,a2,a3,a4,a5,a6,a7,a8,a9,a10,a11,a12,a13,a14,a15,a16,a17]=(o+m≤18):=by unfold Fits;rfl
@[go_sem] theorem QvR{a3 a4 a5 a6 a7 a8 a9 a10 a11 a12 a13 a14 a15 a16 a17:Value}:Qn #[a0,a1,a2,a3,a4,a5,a6,a7,a8,a9,a10,a11,a12,a13,a14,a15,a16,a17] 18=True:=by unfold Qn;exact eq_true rfl
@[go_sem] theorem QyM{a3 a4 a5 a6 a7 a8 a9 a10 a11 a12 a13 a14 a15 a16 a17:Value}:QK #[a0,a1,a2,a3,a4,a5,a6,a7,a8,a9,a10,a11,a12,a13,a14,a15,a16,a17]=(a0.oneCell'=true∧a1.oneCell'=true∧a2.oneCell'=true∧a3.oneCell'=true∧a4.oneCell'=true∧a5.oneCell'=true∧a6.oneCell'=true∧a7.oneCell'=true∧a8.oneCell'=true∧a9.oneCell'=true∧a10.oneCell'=true∧a11.oneCell'=true∧a12.oneCell'=true∧a13.oneCell'=true∧a14.oneCell'=true∧a15.oneCell'=true∧a16.oneCell'=true∧a17.oneCell'=true):=by
 unfold QK;simp [and_assoc]
@[go_sem ↓ high] theorem Qxg{a3 a4 a5 a6 a7 a8 a9 a10 a11 a12 a13 a14 a15 a16 a17:Value}:(Value.agg #[a0,a1,a2,a3,a4,a5,a6,a7,a8,a9,a10,a11,a12,a13,a14,a15,a16,a17]).cells=#[a0,a1,a2,a3,a4,a5,a6,a7,a8,a9,a10,a11,a12,a13,a14,a15,a16,a17]:=QF _
@[go_sem] theorem QyN{a3 a4 a5 a6 a7 a8 a9 a10 a11 a12 a13 a14 a15 a16 a17:Value}:QB #[a0,a1,a2,a3,a4,a5,a6,a7,a8,a9,a10,a11,a12,a13,a14,a15,a16,a17] 0 18=#[a0,a1,a2,a3,a4,a5,a6,a7,a8,a9,a10,a11,a12,a13,a14,a15,a16,a17]:=Q9 _ _ rfl
theorem Qme:(Tryz.prog.info? 98).map (·.size)=some 18:=Kr
theorem QnA{o:Nat}(h:o+18≤(Qc w b).size):(Instr.loadAt 98 (.pointer (some ⟨b,o,none⟩))).run Tryz.prog w= .ok (.agg ((Qc w b).extract o (o+18))) w:=by
 have:=run_loadAt_mid w b o 98 ((Qc w b).extract o (o+18)).toList _ (QC w b o (o+18)) Tryz.underlying98 rfl (by rw [Qme];simp;omega)
 rwa [Array.toArray_toList]at this
@[go_sem ↓ high] theorem QcI(ρ:Operand→Value)(dst:Option Tmp)(x:Operand)(ty:TypeId)(pos:String)(after:Array Edge)(g:Option (Nat×Bool))(w:World)
  (hx:ρ x= .pointer (some ⟨Qb (ρ x),Qd (ρ x),none⟩))(h:Fits (Qd (ρ x)) 18 (Qc w (Qb (ρ x)))):
  (execOp ρ ⟨dst,.load 98 x,ty,pos,after,g⟩).run Tryz.prog w= .ok (.value (.agg (QB (Qc w (Qb (ρ x))) (Qd (ρ x)) 18))) w:=by
 unfold Fits at h;generalize hB:Qb (ρ x)=B at*;generalize hO:Qd (ρ x)=O at*;simp only [execOp,hx,Sem.run_bind,QnA h,Result.andThen_ok,Sem.run_pure,QB]
@[go_sem ↓ high] theorem Quq{l:Option Nat}(w:World)
  (hx:ρ x= .pointer (some ⟨Qb (ρ x),Qd (ρ x),none⟩))(h:Fits (Qd (ρ x)) 18 (Qc w (Qb (ρ x)))):
  (Oper.semAt l ρ ⟨dst,.load 98 x,ty,pos,after,g⟩).run Tryz.prog w= .ok (.value (.agg (QB (Qc w (Qb (ρ x))) (Qd (ρ x)) 18))) w:=by rw [Oper.semAt_eq _ _ _ (fun c h=>by cases h)];exact QcI ρ dst x ty pos after g w hx h
@[go_sem ↓ high] theorem QfA(ρ:Operand→Value)(dst:Option Tmp)(x y:Operand)(ty:TypeId)(pos:String)(after:Array Edge)(g:Option (Nat×Bool))(w:World)
  (hx:ρ x= .pointer (some ⟨Qb (ρ x),Qd (ρ x),none⟩))(hy:ρ y= .agg (ρ y).cells)(hs:Qn (ρ y).cells 18)(h:Fits (Qd (ρ x)) 18 (Qc w (Qb (ρ x))))(hz:Qs w (Qb (ρ x))=(0,0))(h1:QK (ρ y).cells):
  (execOp ρ ⟨dst,.store 98 x y,ty,pos,after,g⟩).run Tryz.prog w= .ok .skip (Qe w (Qb (ρ x)) (Qd (ρ x)) (ρ y).cells):=by
 unfold Fits at h;unfold Qn at hs;generalize hB:Qb (ρ x)=B at*;generalize hO:Qd (ρ x)=O at*;generalize hC:(ρ y).cells=C at*;have hst:(Instr.storeAt 98 (.pointer (some ⟨B,O,none⟩)) (.agg C)).run Tryz.prog w= .ok () (Qe w B O C):=
  run_storeAt_mid w B O 98 C (fun j hj=>⟨by rw [Qa,Array.getElem?_eq_getElem Om];rfl,Ql hz _⟩) (by rw [Qme,hs]) h1
 simp only [execOp,hx,hy,Sem.run_bind,hst,Result.andThen_ok,Sem.run_pure]
@[go_sem ↓ high] theorem QsY{l:Option Nat}(w:World)
  (hx:ρ x= .pointer (some ⟨Qb (ρ x),Qd (ρ x),none⟩))(hy:ρ y= .agg (ρ y).cells)(hs:Qn (ρ y).cells 18)(h:Fits (Qd (ρ x)) 18 (Qc w (Qb (ρ x))))(hz:Qs w (Qb (ρ x))=(0,0))(h1:QK (ρ y).cells):
  (Oper.semAt l ρ ⟨dst,.store 98 x y,ty,pos,after,g⟩).run Tryz.prog w= .ok .skip (Qe w (Qb (ρ x)) (Qd (ρ x)) (ρ y).cells):=by rw [Oper.semAt_eq _ _ _ (fun c h=>by cases h)];exact QfA ρ dst x y ty pos after g w hx hy hs h hz h1
theorem Qhn:(Tryz.prog.info? 42).map (·.size)=some 3:=Kr
theorem QnB{o:Nat}(h:o+3≤(Qc w b).size):(Instr.loadAt 42 (.pointer (some ⟨b,o,none⟩))).run Tryz.prog w= .ok (.agg ((Qc w b).extract o (o+3))) w:=by
 have:=run_loadAt_mid w b o 42 ((Qc w b).extract o (o+3)).toList _ (QC w b o (o+3)) Tryz.underlying42 rfl (by rw [Qhn];simp;omega)
 rwa [Array.toArray_toList]at this
theorem QkJ{o:Nat}(h:o+3≤(Qc w b).size):(loadVar 42 ⟨b,o,none⟩).run Tryz.prog w= .ok (.agg ((Qc w b).extract o (o+3))) w:=by
 have:=run_loadVar_mid w b o 42 ((Qc w b).extract o (o+3)).toList _ (QC w b o (o+3)) Tryz.underlying42 rfl (by rw [Qhn];simp;omega)
 rwa [Array.toArray_toList]at this
@[go_sem ↓ high] theorem QcJ(ρ:Operand→Value)(dst:Option Tmp)(x:Operand)(ty:TypeId)(pos:String)(after:Array Edge)(g:Option (Nat×Bool))(w:World)
  (hx:ρ x= .pointer (some ⟨Qb (ρ x),Qd (ρ x),none⟩))(h:Fits (Qd (ρ x)) 3 (Qc w (Qb (ρ x)))):
  (execOp ρ ⟨dst,.load 42 x,ty,pos,after,g⟩).run Tryz.prog w= .ok (.value (.agg (QB (Qc w (Qb (ρ x))) (Qd (ρ x)) 3))) w:=by
 unfold Fits at h;generalize hB:Qb (ρ x)=B at*;generalize hO:Qd (ρ x)=O at*;simp only [execOp,hx,Sem.run_bind,QnB h,Result.andThen_ok,Sem.run_pure,QB]
@[go_sem ↓ high] theorem Qur{l:Option Nat}(w:World)
  (hx:ρ x= .pointer (some ⟨Qb (ρ x),Qd (ρ x),none⟩))(h:Fits (Qd (ρ x)) 3 (Qc w (Qb (ρ x)))):
  (Oper.semAt l ρ ⟨dst,.load 42 x,ty,pos,after,g⟩).run Tryz.prog w= .ok (.value (.agg (QB (Qc w (Qb (ρ x))) (Qd (ρ x)) 3))) w:=by rw [Oper.semAt_eq _ _ _ (fun c h=>by cases h)];exact QcJ ρ dst x ty pos after g w hx h
@[go_sem ↓ high] theorem QbP(ρ:Operand→Value)(dst:Option Tmp)(x y:Operand)(ty:TypeId)(pos:String)(after:Array Edge)(g:Option (Nat×Bool))(w:World)
  (hx:ρ x= .pointer (some ⟨Qb (ρ x),Qd (ρ x),none⟩))(hy:ρ y= .agg (ρ y).cells)(hs:Qn (ρ y).cells 3)(h:Fits (Qd (ρ x)) 3 (Qc w (Qb (ρ x))))(hz:Qs w (Qb (ρ x))=(0,0))(h1:QK (ρ y).cells):
  (execOp ρ ⟨dst,.store 42 x y,ty,pos,after,g⟩).run Tryz.prog w= .ok .skip (Qe w (Qb (ρ x)) (Qd (ρ x)) (ρ y).cells):=by
 unfold Fits at h;unfold Qn at hs;generalize hB:Qb (ρ x)=B at*;generalize hO:Qd (ρ x)=O at*;generalize hC:(ρ y).cells=C at*;have hst:(Instr.storeAt 42 (.pointer (some ⟨B,O,none⟩)) (.agg C)).run Tryz.prog w= .ok () (Qe w B O C):=
  run_storeAt_mid w B O 42 C (fun j hj=>⟨by rw [Qa,Array.getElem?_eq_getElem Om];rfl,Ql hz _⟩) (by rw [Qhn,hs]) h1
 simp only [execOp,hx,hy,Sem.run_bind,hst,Result.andThen_ok,Sem.run_pure]
@[go_sem ↓ high] theorem QsZ{l:Option Nat}(w:World)
  (hx:ρ x= .pointer (some ⟨Qb (ρ x),Qd (ρ x),none⟩))(hy:ρ y= .agg (ρ y).cells)(hs:Qn (ρ y).cells 3)(h:Fits (Qd (ρ x)) 3 (Qc w (Qb (ρ x))))(hz:Qs w (Qb (ρ x))=(0,0))(h1:QK (ρ y).cells):
  (Oper.semAt l ρ ⟨dst,.store 42 x y,ty,pos,after,g⟩).run Tryz.prog w= .ok .skip (Qe w (Qb (ρ x)) (Qd (ρ x)) (ρ y).cells):=by rw [Oper.semAt_eq _ _ _ (fun c h=>by cases h)];exact QbP ρ dst x y ty pos after g w hx hy hs h hz h1
@[go_sem] theorem QyO{o:Nat}:Fits o m #[a0,a1,a2]=(o+m≤3):=by unfold Fits;rfl
@[go_sem] theorem QvS:Qn #[a0,a1,a2] 3=True:=by unfold Qn;exact eq_true rfl
@[go_sem] theorem QyP:QK #[a0,a1,a2]=(a0.oneCell'=true∧a1.oneCell'=true∧a2.oneCell'=true):=by
 unfold QK;simp [and_assoc]
@[go_sem ↓ high] theorem Qxh:(Value.agg #[a0,a1,a2]).cells=#[a0,a1,a2]:=QF _
@[go_sem] theorem QyQ:QB #[a0,a1,a2] 0 3=#[a0,a1,a2]:=rfl
theorem Yq(hs:(Qc w B).size=3)(hz:Qs w B=(0,0))(hcs:cs.size=3)(ho:QK cs)
  (hx:ρ x= .pointer (some ⟨B,0,none⟩))(hy:ρ y= .agg cs):(execOp ρ ⟨dst,.store 42 x y,ty,pos,after,g⟩).run Tryz.prog w= .ok .skip (Qe w B 0 cs):=by
 have e:=QbP ρ dst x y ty pos after g w (by rw [hx];rfl) (by rw [hy];rfl) (by rw [hy];exact hcs) (by rw [hx];show Fits 0 3 (Qc w B);unfold Fits;omega) (by rw [hx];exact hz) (by rw [hy];exact ho);rw [e,hx,hy];rfl
theorem Qho:(Tryz.prog.info? 68).map (·.size)=some 6:=Kr
theorem QnC{o:Nat}(h:o+6≤(Qc w b).size):(Instr.loadAt 68 (.pointer (some ⟨b,o,none⟩))).run Tryz.prog w= .ok (.agg ((Qc w b).extract o (o+6))) w:=by
 have:=run_loadAt_mid w b o 68 ((Qc w b).extract o (o+6)).toList _ (QC w b o (o+6)) Tryz.underlying68 rfl (by rw [Qho];simp;omega)
 rwa [Array.toArray_toList]at this
theorem QkK{o:Nat}(h:o+6≤(Qc w b).size):(loadVar 68 ⟨b,o,none⟩).run Tryz.prog w= .ok (.agg ((Qc w b).extract o (o+6))) w:=by
 have:=run_loadVar_mid w b o 68 ((Qc w b).extract o (o+6)).toList _ (QC w b o (o+6)) Tryz.underlying68 rfl (by rw [Qho];simp;omega)
 rwa [Array.toArray_toList]at this
@[go_sem ↓ high] theorem Qhp(ρ:Operand→Value)(dst:Option Tmp)(x:Operand)(ty:TypeId)(pos:String)(after:Array Edge)(g:Option (Nat×Bool))(w:World)
  (hx:ρ x= .pointer (some ⟨Qb (ρ x),Qd (ρ x),none⟩))(h:Fits (Qd (ρ x)) 6 (Qc w (Qb (ρ x)))):
  (execOp ρ ⟨dst,.load 68 x,ty,pos,after,g⟩).run Tryz.prog w= .ok (.value (.agg (QB (Qc w (Qb (ρ x))) (Qd (ρ x)) 6))) w:=by
 unfold Fits at h;generalize hB:Qb (ρ x)=B at*;generalize hO:Qd (ρ x)=O at*;simp only [execOp,hx,Sem.run_bind,QnC h,Result.andThen_ok,Sem.run_pure,QB]
@[go_sem ↓ high] theorem Qus{l:Option Nat}(w:World)
  (hx:ρ x= .pointer (some ⟨Qb (ρ x),Qd (ρ x),none⟩))(h:Fits (Qd (ρ x)) 6 (Qc w (Qb (ρ x)))):
  (Oper.semAt l ρ ⟨dst,.load 68 x,ty,pos,after,g⟩).run Tryz.prog w= .ok (.value (.agg (QB (Qc w (Qb (ρ x))) (Qd (ρ x)) 6))) w:=by rw [Oper.semAt_eq _ _ _ (fun c h=>by cases h)];exact Qhp ρ dst x ty pos after g w hx h
@[go_sem ↓ high] theorem QbQ(ρ:Operand→Value)(dst:Option Tmp)(x y:Operand)(ty:TypeId)(pos:String)(after:Array Edge)(g:Option (Nat×Bool))(w:World)
  (hx:ρ x= .pointer (some ⟨Qb (ρ x),Qd (ρ x),none⟩))(hy:ρ y= .agg (ρ y).cells)(hs:Qn (ρ y).cells 6)(h:Fits (Qd (ρ x)) 6 (Qc w (Qb (ρ x))))(hz:Qs w (Qb (ρ x))=(0,0))(h1:QK (ρ y).cells):
  (execOp ρ ⟨dst,.store 68 x y,ty,pos,after,g⟩).run Tryz.prog w= .ok .skip (Qe w (Qb (ρ x)) (Qd (ρ x)) (ρ y).cells):=by
 unfold Fits at h;unfold Qn at hs;generalize hB:Qb (ρ x)=B at*;generalize hO:Qd (ρ x)=O at*;generalize hC:(ρ y).cells=C at*;have hst:(Instr.storeAt 68 (.pointer (some ⟨B,O,none⟩)) (.agg C)).run Tryz.prog w= .ok () (Qe w B O C):=
  run_storeAt_mid w B O 68 C (fun j hj=>⟨by rw [Qa,Array.getElem?_eq_getElem Om];rfl,Ql hz _⟩) (by rw [Qho,hs]) h1
 simp only [execOp,hx,hy,Sem.run_bind,hst,Result.andThen_ok,Sem.run_pure]
@[go_sem ↓ high] theorem Qs0{l:Option Nat}(w:World)
  (hx:ρ x= .pointer (some ⟨Qb (ρ x),Qd (ρ x),none⟩))(hy:ρ y= .agg (ρ y).cells)(hs:Qn (ρ y).cells 6)(h:Fits (Qd (ρ x)) 6 (Qc w (Qb (ρ x))))(hz:Qs w (Qb (ρ x))=(0,0))(h1:QK (ρ y).cells):
  (Oper.semAt l ρ ⟨dst,.store 68 x y,ty,pos,after,g⟩).run Tryz.prog w= .ok .skip (Qe w (Qb (ρ x)) (Qd (ρ x)) (ρ y).cells):=by rw [Oper.semAt_eq _ _ _ (fun c h=>by cases h)];exact QbQ ρ dst x y ty pos after g w hx hy hs h hz h1
theorem QqF(hs:(Qc w B).size=6)(hz:Qs w B=(0,0))(hcs:cs.size=6)(ho:QK cs)
  (hx:ρ x= .pointer (some ⟨B,0,none⟩))(hy:ρ y= .agg cs):(execOp ρ ⟨dst,.store 68 x y,ty,pos,after,g⟩).run Tryz.prog w= .ok .skip (Qe w B 0 cs):=by
 have e:=QbQ ρ dst x y ty pos after g w (by rw [hx];rfl) (by rw [hy];rfl) (by rw [hy];exact hcs) (by rw [hx];show Fits 0 6 (Qc w B);unfold Fits;omega) (by rw [hx];exact hz) (by rw [hy];exact ho);rw [e,hx,hy];rfl
structure Cm where
 fr:Int×Int
 tn:Int×Int
 o:Opt
 ip:Option Addr
 iN:Nat
 ic:Nat
 pk:Pk
 bp:Option Addr
 bN:Nat
 bc:Nat
 now:Int
def cmv(c:Cm):Array Value:=#[.int .u8 c.fr.1,.int .i64 c.fr.2,.int .u8 c.tn.1,.int .i64 c.tn.2,.int .u8 c.o.ki,.int .u8 c.o.bu,.int .i64 c.o.cu,.int .i64 c.o.pv,.int .i64 c.o.ge,.int .i64 c.o.ti,.slice c.ip c.iN c.ic,.int .u32 c.pk.tu.a,.int .u32 c.pk.tu.b,.int .u16 c.pk.tu.c,.int .u16 c.pk.tu.d,.int .u8 c.pk.fl,.slice c.bp c.bN c.bc,.int .i64 c.now]
theorem Q2{c:Cm}(h:RowZ w B (cmv c))(j:Nat)(hj:j<(cmv c).size):w.cell? ⟨B,j,none⟩=some (cmv c)[j]:=h.cell j hj
structure Dn where
 dr:Int
 ep:Option Addr
 eN:Nat
 ec:Nat
 sp:Option Addr
 sN:Nat
 sc:Nat
def dnv(d:Dn):Array Value:=#[.int .u8 d.dr,.slice d.ep d.eN d.ec,.slice d.sp d.sN d.sc]
def dn0:Dn:=⟨0,none,0,0,none,0,0⟩
theorem Qad(h:Qc w b=cs)(h3:cs.size=3):(loadVar 42 ⟨b,0,none⟩).run Tryz.prog w= .ok (.agg cs) w:=by
 rw [QkJ (by rw [h,h3];omega),h];rw [show cs.extract 0 (0+3)=cs by rw [Nat.zero_add,←h3];simp]
theorem QyR(h:Qc w b=cs)(h3:cs.size=6):(loadVar 68 ⟨b,0,none⟩).run Tryz.prog w= .ok (.agg cs) w:=by
 rw [QkK (by rw [h,h3];omega),h];rw [show cs.extract 0 (0+6)=cs by rw [Nat.zero_add,←h3];simp]
theorem Qbf{q:Option Addr}(h0:w.cell? ⟨B,i,none⟩=some (.pointer q))(hl:Lt B w)(hC: ¬C B)
  (hx:ρ x= .pointer (some ⟨B,i,none⟩)): ∀w',Mv C w w'→(execOp ρ ⟨dst,.load 110 x,ty,pos,after,g⟩).run Tryz.prog w'= .ok (.value (.pointer q)) w':=by
 intro w' hE;have h1:w'.cell? ⟨B,i,none⟩=some (.pointer q):=by rw [Qa,Qf (hE.same B hl hC),←Qa];exact h0
 simp only [execOp,hx];go_simp
theorem Qe8{a b c d:Value}(h0:w.cell? ⟨B,i,none⟩=some a)(h1:w.cell? ⟨B,i+1,none⟩=some b)(h2:w.cell? ⟨B,i+2,none⟩=some c)(h3:w.cell? ⟨B,i+3,none⟩=some d)(hl:Lt B w)(hC: ¬C B)
  (hx:ρ x= .pointer (some ⟨B,i,none⟩)): ∀w',Mv C w w'→(execOp ρ ⟨dst,.load 64 x,ty,pos,after,g⟩).run Tryz.prog w'= .ok (.value (.agg #[a,b,c,d])) w':=by
 intro w' hE;have e:=Qf (hE.same B hl hC);have h0:w'.cell? ⟨B,i,none⟩=some a:=by rw [Qa,e,←Qa];exact h0
 have h1:w'.cell? ⟨B,i+1,none⟩=some b:=by rw [Qa,e,←Qa];exact h1
 have h2:w'.cell? ⟨B,i+2,none⟩=some c:=by rw [Qa,e,←Qa];exact h2
 have h3:w'.cell? ⟨B,i+3,none⟩=some d:=by rw [Qa,e,←Qa];exact h3
 simp only [execOp,hx];go_simp
def QqG(ops:Array Oper):Prop:=Region.noSelect ops=true∧Qo ops 10 [0,1,2,3,4,5,6,7,8] 0=true∧Rd ops 10 511 [9]∧Rd ops 10 1023 []
theorem QkL:QqG ((Tryz.f112.body.bind (Qh 1)).getD #[]):=⟨Kr,Kr,Rk,Rk⟩
theorem Qdm(q id:Int)(c:Cm)(b2 Ba:Nat)(w:World)(c2:w.cell? ⟨b2,0,none⟩=some (.pointer (some ⟨Ba,0,none⟩)))(l2:Lt b2 w)(ci:w.cell? ⟨Ba,0,none⟩=some (.int .i64 id))(li:Lt Ba w):
  Cr 112 #[.int .u8 q,.agg (cmv c),.pointer (some ⟨b2,0,none⟩)] w (Ev.v ⟨q,id,c.pk.tu⟩):=by
 go_enter Tryz.func112,Tryz.ntmps112
 go_upto_region 1 with(fail)
 obtain⟨W0,hW⟩: ∃W0,(w.alloc (.cells (cmv c) 98)).alloc (.cells #[.int .u8 0,.int .i64 0,.int .u32 0,.int .u32 0,.int .u16 0,.int .u16 0] 68)=W0:=⟨_,rfl⟩;have E:Ext w W0:=by rw [←hW];exact Ext.al Ea _
 have r4:RowZ W0 w.heap.size (cmv c):=by rw [←hW];exact⟨by simp [go_sem],by simp [go_sem],by simp [go_sem,Lt]⟩
 have r5:RowZ W0 (w.heap.size+1) #[.int .u8 0,.int .i64 0,.int .u32 0,.int .u32 0,.int .u16 0,.int .u16 0]:=by rw [←hW];exact⟨by simp [go_sem],by simp [go_sem],by simp [go_sem,Lt]⟩
 rw [hW];clear hW;have c2:=(E.cell (p:=⟨b2,0,none⟩) l2).trans c2;have ci:=(E.cell (p:=⟨Ba,0,none⟩) li).trans ci;have l2':b2<w.heap.size:=l2;have li':Ba<w.heap.size:=li;obtain⟨b4,e4⟩: ∃b,w.heap.size=b:=⟨_,rfl⟩;rw [e4]at r4 r5 l2' li'⊢;obtain⟨b5,e5⟩: ∃b,b4+1=b:=⟨_,rfl⟩;rw [e5]at r5⊢;have l2:=Xl l2 E.size;have li:=Xl li E.size;refine Qy (fun _=>False) (fun q=>q=b5) 9 Kr ?_;obtain⟨WA,hW⟩: ∃Wdr,World.drew W0=Wdr:=⟨_,rfl⟩;have gD:Ext W0 WA:=by rw [←hW];exact Ext.dr (Ext.rf _)
 rw [hW];clear hW;have E:=E.tr gD;have r4:=r4.ext gD;have r5:=r5.ext gD;have c2:=(gD.cell (p:=⟨b2,0,none⟩) l2).trans c2;have ci:=(gD.cell (p:=⟨Ba,0,none⟩) li).trans ci;have l2:=Xl l2 gD.size;have li:=Xl li gD.size;refine Zi (N:=10) (R:=QqG) (E:=((Tryz.f112.body.bind (Qh 1)).getD #[])) Kr QkL Kr fun hS=> ?_;have hT:=hS.2.1;refine tWk 1 (.int .u8 q) hS.1 hT rfl fun hT=>tW 3 (.pointer (some ⟨Ba,0,none⟩)) hS.1 hT rfl (Qbf (by exact c2) l2 Om Kr) fun hT=>tWk 7 (.pointer (some ⟨Ba,0,none⟩)) hS.1 hT rfl fun hT=>tWk 15 (.pointer (some ⟨Ba,0,none⟩)) hS.1 hT rfl fun hT=>tW 31 (.int .i64 id) hS.1 hT rfl (Q0 ci li Om Kr) fun hT=>tWk 63 (.pointer (some ⟨b4,11,none⟩)) hS.1 hT rfl fun hT=>tWk 127 (.pointer (some ⟨b4,11,none⟩)) hS.1 hT rfl fun hT=>tW 255 (.agg #[.int .u32 c.pk.tu.a,.int .u32 c.pk.tu.b,.int .u16 c.pk.tu.c,.int .u16 c.pk.tu.d]) hS.1 hT rfl (Qe8 (Q2 r4 11 (by show 11<18;omega)) (Q2 r4 12 (by show 12<18;omega)) (Q2 r4 13 (by show 13<18;omega)) (Q2 r4 14 (by show 14<18;omega)) r4.l Om Kr) fun hT=>tWk 511 (.agg #[.int .u8 q,.int .i64 id,.int .u32 c.pk.tu.a,.int .u32 c.pk.tu.b,.int .u16 c.pk.tu.c,.int .u16 c.pk.tu.d]) hS.1 hT rfl fun hT=> ?_;refine Qr hS.2.2.1 (QE (m':=1023) rfl rfl Kr (QqF (B:=b5) (cs:=#[.int .u8 q,.int .i64 id,.int .u32 c.pk.tu.a,.int .u32 c.pk.tu.b,.int .u16 c.pk.tu.c,.int .u16 c.pk.tu.d]) (by rw [r5.r];rfl) r5.z rfl (by simp [go_sem]) Kr Kr) ⟨.inl Dc,(Mv.sa _ rfl (Mv.refl _ _))⟩ ?_);obtain⟨WB1,hWB1⟩: ∃WB1,Qe WA b5 0 #[.int .u8 q,.int .i64 id,.int .u32 c.pk.tu.a,.int .u32 c.pk.tu.b,.int .u16 c.pk.tu.c,.int .u16 c.pk.tu.d]=WB1:=⟨_,rfl⟩;have gS:Mv (fun q=>q=b5) WA WB1:=by rw [←hWB1];exact Mv.sa _ rfl (Mv.refl _ _)
 have r5:RowZ WB1 b5 #[.int .u8 q,.int .i64 id,.int .u32 c.pk.tu.a,.int .u32 c.pk.tu.b,.int .u16 c.pk.tu.c,.int .u16 c.pk.tu.d]:=by rw [←hWB1];exact r5.all _ rfl
 have E:=Mv.ext_of E gS (fun q e=>by omega);rw [hWB1];clear hWB1;refine QZ hS.2.2.2 ?_;clear hS hT;go_simp;go_wp2;exact bodyPost_ret (Zv rfl _ _ b5 rfl (QyR r5.r rfl)) rfl ⟨rfl,E⟩
theorem Mv.trn{D:Nat→Prop}{A B:World}(h:Mv C w A)(m:Mv D A B)(hc: ∀k,D k→C k∨w.heap.size≤k):Mv C w B:=
 ⟨m.os.trans h.os,m.tape.trans h.tape,m.output.trans h.output,Xt h.size m.size,fun q hq hn=>(m.same q (Xl hq h.size) (fun d=>(hc q d).elim hn (fun g=>by omega))).trans (h.same q hq hn)⟩
theorem SlC.mvg{A B:World}{xs:List Co}(h:SlC A p xs)(m:Mv C A B)(hb: ∀b off,p=some ⟨b,off,none⟩→ ¬C b):SlC B p xs:=fun j hk=>by
 obtain⟨b,off,h1,h2,c0,c1,c2,c3,c4,c5⟩:=h j hk;have e:=Qf (m.same b h2 (hb b off h1));simp only [Qa]at c0 c1 c2 c3 c4 c5⊢;exact⟨b,off,h1,Xl h2 m.size,by rw [e];exact c0,by rw [e];exact c1,by rw [e];exact c2,by rw [e];exact c3,by rw [e];exact c4,by rw [e];exact c5⟩
theorem SlE.mvg{A B:World}{xs:List Ev}(h:SlE A p xs)(m:Mv C A B)(hb: ∀b off,p=some ⟨b,off,none⟩→ ¬C b):SlE B p xs:=fun j hk=>by
 obtain⟨b,off,h1,h2,c0,c1,c2,c3,c4,c5⟩:=h j hk;have e:=Qf (m.same b h2 (hb b off h1));simp only [Qa]at c0 c1 c2 c3 c4 c5⊢;exact⟨b,off,h1,Xl h2 m.size,by rw [e];exact c0,by rw [e];exact c1,by rw [e];exact c2,by rw [e];exact c3,by rw [e];exact c4,by rw [e];exact c5⟩
def Z3(v:Value):Nat→Prop:=fun k=>v.ownBlock=some k
def OEv(w:World)(base:Nat)(v:Value)(es:List Ev):Prop:=w.ownsRow base 68 6 v es.length (flE es)
theorem OEv.ext{w':World}{base:Nat}{es:List Ev}(h:OEv w base v es)(e:Ext w w'):OEv w' base v es:=Zl h e
theorem OEv.mv{w':World}{base:Nat}{es:List Ev}(h:OEv w base v es)(m:Mv C w w')(hc: ∀q,base≤q→ ¬C q):OEv w' base v es:=Qw h m hc
theorem Qe9{base:Nat}{es:List Ev}(h:OEv w base v es): ∃p n c,v= .slice p n c:=by
 obtain⟨p,c,e,-,-⟩:=SlE.own h;exact⟨p,_,c,e⟩
theorem Qfa{x:Ev}{p:Operand}(hx:ρ p=x.v)(w:World):
  (execOp ρ ⟨dst,.buildSlice 39 1 #[(0,p)],ty,pos,after,g⟩).run Tryz.prog w= .ok (.value (.slice (some ⟨w.heap.size,0,none⟩) 1 1)) (w.alloc (.cells x.cl.toArray 68)):=by
 simp only [execOp,List.map_toArray,List.map_cons,List.map_nil,hx];go_simp;rfl
theorem QkM{ops:Array Oper}{D:Nat→Prop}{r:Nat}{Q:Act→World→Prop}{N k m':Nat}{fuel:Nat}{a:Act}{base A:Nat}{v1:Value}{b1:List Ev}{x1:Ev}
  (hm:m|||(1<<<k)=m')(hi:ops[k]?=some ⟨dst,.call {callee:= .builtin .append,args:=#[x,y],argTypes:=#[39,39]},ty,pos,after,none⟩)(hx:a.eval x=v1)(hy:a.eval y= .slice (some ⟨A,0,none⟩) 1 1)(h1:OEv w base v1 b1)(hA: ∀j u,x1.cl[j]?=some u→w.cell? ⟨A,j,none⟩=some u)(hl:b1.length≤1000)(hC: ∀r,v1.ownBlock=some r→C r)(hCD: ∀k,C k→D k)(hb:base≤w.heap.size)
  (H: ∀v' w',OEv w' base v' (b1++ [x1])→w.grownBy w' v1.ownBlock→Mv (fun k=>v1.ownBlock=some k) w w'→QP C D r Tryz.prog .any ops Q fuel (msk N m') (a.put dst v') w'):QaX C D r Tryz.prog ops Q fuel N k m a w:=by
 obtain⟨i0,hi0,hz0,hz,hz2⟩:=info_parts QpP
 obtain⟨v',w',hr,ho,hg,-,-⟩:=run_append_own_at (P:=Tryz.prog) w base 39 ty 68 i0 (.agg #[.int .u8 0,.int .i64 0,.int .u32 0,.int .u32 0,.int .u16 0,.int .u16 0]) 6 32 Tryz.underlying39 hi0 hz0 hz hz2 rfl Dc v1 b1.length _ h1 ⟨A,0,none⟩ 1 1 x1.cl rfl (fun j u hu=>by
  have e:(⟨A,0,none⟩:Addr).add j=⟨A,j,none⟩:=by unfold Addr.add;split<;>simp_all
  rw [e];exact hA j u hu) (QpQ x1) (by unfold maxLen;omega) Om hb
 have hm3:Mv (fun k=>v1.ownBlock=some k) w w':=Mv.of_grown hg fun r e=> .inl e;have hm2:Mv C w w':=hm3.mono fun k _ e=>hC k e;refine Zq (v:=v') hm hi rfl ?_ ⟨.inr hm2,hm2.mono fun k _ h=>hCD k h⟩ (H v' w' ?_ hg hm3)
 ·simp [execOp,resolve,invoke,builtin,hx,hy,hr,Result.andThen]
 ·unfold OEv;rw [List.length_append,QiB];exact ho
theorem Qdn(hc:w.cell? ⟨B,i,none⟩=some u)(hf:w.frozen? ⟨B,i,none⟩=false)(hv: ∃a m c,v= .slice a m c)
  (hx:ρ x= .pointer (some ⟨B,i,none⟩))(hy:ρ y=v):(execOp ρ ⟨dst,.store 25 x y,ty,pos,after,g⟩).run Tryz.prog w= .ok .skip (w.setCell ⟨B,i,none⟩ v):=by
 obtain⟨a,m,c,rfl⟩:=hv;simp only [execOp,hx,hy];go_simp
theorem Qdo(hc:w.cell? ⟨B,i,none⟩=some u)(hf:w.frozen? ⟨B,i,none⟩=false)(hv: ∃a m c,v= .slice a m c)
  (hx:ρ x= .pointer (some ⟨B,i,none⟩))(hy:ρ y=v):(execOp ρ ⟨dst,.store 39 x y,ty,pos,after,g⟩).run Tryz.prog w= .ok .skip (w.setCell ⟨B,i,none⟩ v):=by
 obtain⟨a,m,c,rfl⟩:=hv;simp only [execOp,hx,hy];go_simp
theorem QaF{a:Option Addr}{c:Nat}(h0:w.cell? ⟨B,i,none⟩=some (.slice a m c))(hl:Lt B w)(hC: ¬C B)
  (hx:ρ q= .pointer (some ⟨B,i,none⟩)): ∀w',Mv C w w'→(execOp ρ ⟨dst,.load 39 q,ty,pos,after,g⟩).run Tryz.prog w'= .ok (.value (.slice a m c)) w':=by
 intro w' hE;have h1:w'.cell? ⟨B,i,none⟩=some (.slice a m c):=by rw [Qa,Qf (hE.same B hl hC),←Qa];exact h0
 simp only [execOp,hx];go_simp
theorem QkN{f:Nat}{x y:Array Value}(h0:w.cell? ⟨B,i,none⟩=some (.func (.func f) x y))(hl:Lt B w)(hC: ¬C B)
  (hx:ρ q= .pointer (some ⟨B,i,none⟩)): ∀w',Mv C w w'→(execOp ρ ⟨dst,.load 168 q,ty,pos,after,g⟩).run Tryz.prog w'= .ok (.value (.func (.func f) x y)) w':=by
 intro w' hE;have h1:w'.cell? ⟨B,i,none⟩=some (.func (.func f) x y):=by rw [Qa,Qf (hE.same B hl hC),←Qa];exact h0
 simp only [execOp,hx];go_simp
theorem Qce{c:Cm}(h0:RowZ w B (cmv c))(hC: ¬C B)
  (hx:ρ q= .pointer (some ⟨B,0,none⟩)): ∀w',Mv C w w'→(execOp ρ ⟨dst,.load 98 q,ty,pos,after,g⟩).run Tryz.prog w'= .ok (.value (.agg (cmv c))) w':=by
 intro w' hE;have h1:=h0.mv hE hC;have e:=QcI ρ dst q ty pos after g w' (by rw [hx];rfl) (by rw [hx];show Fits 0 18 (Qc w' B);rw [h1.r];unfold Fits;exact Nat.le_refl _);rw [e,hx];show Result.ok (Next.value (Value.agg (QB (Qc w' B) 0 18))) w'=_;rw [h1.r,Q9 _ 18 rfl]
def SlBB(w:World)(p:Option Addr)(bss:List (List Int)):Prop:= ∀k,(h:k<bss.length)→ ∃b off q c,p=some ⟨b,off,none⟩∧b<w.heap.size∧w.cell? ⟨b,off+k,none⟩=some (.slice q bss[k].length c)∧SlB w q bss[k]
theorem SlBB.nil(w:World)(p:Option Addr):SlBB w p []:=fun k hk=>by simp at hk
def Qdp(w:World)(Ba:Nat)(a:Ag)(dr:Int)(xs:List Co)(es:List Ev)(ss:List (List Int))(e:Ending)(w':World):Prop:=
 ∃p c ep ec sp sc,e= .returned (.agg (dnv ⟨dr,ep,es.length,ec,sp,ss.length,sc⟩))∧RowZ w' Ba (agv {a with p:=p,xs:=xs,c:=c})∧SlC w' p xs∧SlE w' ep es∧SlBB w' sp ss∧Mv (fun q=>q=Ba) w w'∧
  (∀b off,p=some ⟨b,off,none⟩→w.heap.size≤b∨p=a.p)∧(∀b off,ep=some ⟨b,off,none⟩→w.heap.size≤b)∧(∀b off,sp=some ⟨b,off,none⟩→w.heap.size≤b)
theorem QcK{W5:World}{Ba b4 lo:Nat}{a:Ag}{dr:Int}{xs:List Co}{es:List Ev}{ss:List (List Int)}{ep sp:Option Addr}{c ec sc:Nat}(hW:Qe W b4 0 cs=W5)(E:Mv (fun q=>q=Ba) w W)(ra:RowZ W Ba (agv {a with p:=p,xs:=xs,c:=c}))(sn:SlC W p xs)(se:SlE W ep es)(ss':SlBB W5 sp ss)
  (h4:w.heap.size≤b4)(h5:b4<lo)(hBa:Ba<w.heap.size)(hp:(∀b off,p=some ⟨b,off,none⟩→lo≤b)∨p=a.p∧ ∀b off,p=some ⟨b,off,none⟩→b<w.heap.size)(he: ∀b off,ep=some ⟨b,off,none⟩→lo≤b)(hs: ∀b off,sp=some ⟨b,off,none⟩→lo≤b):
  Qdp w Ba a dr xs es ss (.returned (.agg (dnv ⟨dr,ep,es.length,ec,sp,ss.length,sc⟩))) W5:=by
 have m:Mv (fun q=>q=b4) W W5:=by rw [←hW];exact Mv.sa _ rfl (Mv.refl _ _)
 refine⟨p,c,ep,ec,sp,sc,rfl,ra.mv m Om,sn.mvg m ?_,se.mvg m (fun b off e f=>by have:=he b off e;omega),ss',E.trn m (fun k e=> .inr Om),?_,fun b off e=>by have:=he b off e;omega,fun b off e=>by have:=hs b off e;omega⟩
 ·rintro b off e rfl;rcases hp with hp|⟨-,hp⟩
  ·have:=hp _ _ e;omega
  ·have:=hp _ _ e;omega
 ·intro b off e;rcases hp with hp|⟨h,-⟩
  ·exact .inl (by have:=hp b off e;omega)
  ·exact .inr h
structure Qut(w:World)(a:Ag)(Ba b2 bc:Nat):Prop where
 ra:RowZ w Ba (agv a)
 rb:RowZ w b2 #[.pointer (some ⟨Ba,0,none⟩)]
 rc:RowZ w bc #[.func (.func 112) #[] #[.pointer (some ⟨b2,0,none⟩)]]
 s:SlC w a.p a.xs
 n:Ba≠b2∧Ba≠bc
def Quu(lo:Nat)(xs:List Co)(n:Int)(v:Value)(w':World):Prop:= ∃p c,v= .tuple #[.slice p xs.length c,.int .i64 n]∧SlC w' p xs∧ ∀b off,p=some ⟨b,off,none⟩→lo≤b
theorem QyS(lo:Nat)(t:Tu)(now:Int)(p:Option Addr)(xs:List Co)(c:Nat)(w:World)(hs:SlC w p xs)(hl:xs.length≤1000)(hlo:lo≤w.heap.size):Calls Tryz.prog 119 #[.slice p xs.length c,.agg #[.int .u32 t.a,.int .u32 t.b,.int .u16 t.c,.int .u16 t.d],.int .i64 now] w fun e w'=> ∃v,e= .returned v∧Quu lo (JV xs t now) (QaM xs t now) v w'∧Ext w w':=
 (QrY t now p xs c w hs hl).mono fun e w' ⟨v,h1,h2,h3⟩=>⟨_,h1,(by obtain⟨q,d,e,-,s⟩:=SlC.own h2;exact⟨q,d,by rw [e],s,fun b off e2=>Xt hlo (Qi h2 b (by rw [e,e2];rfl))⟩),h3⟩
def QqH(ops:Array Oper):Prop:=Region.noSelect ops=true∧Qo ops 17 [0,1,2,3,4,5,6,7,8,9] 0=true∧Rd ops 17 1023 [10]∧Qo ops 17 [11,12,13,14,15] 2047=true∧Rd ops 17 65535 [16]∧Rd ops 17 131071 []∧lateB .any ops 16 4=true
theorem QkO:QqH ((Tryz.f118.body.bind (Qh 1)).getD #[]):=⟨Kr,Kr,Rk,Kr,Rk,Rk,Kr⟩
def QqI(ops:Array Oper):Prop:=Region.noSelect ops=true∧Qo ops 9 [0,1,2,3] 0=true∧Rd ops 9 15 [4]∧Rd ops 9 31 [5]∧Rd ops 9 63 [6]∧Qo ops 9 [7] 127=true∧Rd ops 9 255 [8]∧Rd ops 9 511 []∧lateB .any ops 8 1=true
theorem QkP:QqI ((Tryz.f118.body.bind (Qh 2)).getD #[]):=⟨Kr,Kr,Rk,Rk,Rk,Kr,Rk,Rk,Kr⟩
theorem JC(a:Ag)(c:Cm)(Ba b2 bc:Nat)(w:World)(h:Qut w a Ba b2 bc)(hl:a.xs.length≤1000):
  Calls Tryz.prog 118 #[.agg (cmv c),.pointer (some ⟨b2,0,none⟩),.pointer (some ⟨bc,0,none⟩)] w (Qdp w Ba a 0 (JV a.xs c.pk.tu c.now) [⟨1,a.id,c.pk.tu⟩] []):=by
 obtain⟨ra,rb,rc,hs,hn1,hn2⟩:=h;have lA:Ba<w.heap.size:=ra.l;have lB:b2<w.heap.size:=rb.l;have lC:bc<w.heap.size:=rc.l
 go_enter Tryz.func118,Tryz.ntmps118
 go_upto_region 1 with(fail)
 obtain⟨W0,hW⟩: ∃W0,(w.alloc (.cells (cmv c) 98)).alloc (.cells #[.int .u8 0,.slice none 0 0,.slice none 0 0] 42)=W0:=⟨_,rfl⟩;have E':Ext w W0:=by rw [←hW];exact Ext.al Ea _
 have r3:RowZ W0 w.heap.size (cmv c):=by rw [←hW];exact⟨by simp [go_sem],by simp [go_sem],by simp [go_sem,Lt]⟩
 have r4:RowZ W0 (w.heap.size+1) #[.int .u8 0,.slice none 0 0,.slice none 0 0]:=by rw [←hW];exact⟨by simp [go_sem],by simp [go_sem],by simp [go_sem,Lt]⟩
 have hsz:W0.heap.size=w.heap.size+2:=by rw [←hW];simp
 rw [hW];clear hW;have ra:=ra.ext E';have rb:=rb.ext E';have rc:=rc.ext E';obtain⟨b3,e3⟩: ∃b,w.heap.size=b:=⟨_,rfl⟩;rw [e3]at r3 r4 hsz lA lB lC⊢;obtain⟨b4,e4⟩: ∃b,b3+1=b:=⟨_,rfl⟩;rw [e4]at r4⊢;obtain⟨lo,hlo⟩: ∃lo,b4+1=lo:=⟨_,rfl⟩;have E:Mv (fun q=>q=Ba) w W0:=Mv.of_ext E';have hnb: ¬b2=Ba:=fun e=>hn1 e.symm;have hnc: ¬bc=Ba:=fun e=>hn2 e.symm;have hn3: ¬b3=Ba:=by omega
 have hn4: ¬b4=Ba:=by omega
 refine Qy (fun _=>False) (fun q=>q=Ba) 16 Kr ?_;have hDb: ¬(fun q=>q=Ba) b2:=hnb;have hD3: ¬(fun q=>q=Ba) b3:=hn3;obtain⟨WA,hW⟩: ∃Wdr,World.drew W0=Wdr:=⟨_,rfl⟩;have gD:Ext W0 WA:=by rw [←hW];exact Ext.dr (Ext.rf _)
 rw [hW];clear hW;have E:=E.tr gD;have ra:=ra.ext gD;have rb:=rb.ext gD;have rc:=rc.ext gD;have r3:=r3.ext gD;have r4:=r4.ext gD;have E':=E'.tr gD;refine Zi (N:=17) (R:=QqH) (E:=((Tryz.f118.body.bind (Qh 1)).getD #[])) Kr QkO Kr fun hS=> ?_;have hT:=hS.2.1;refine tW 1 (.pointer (some ⟨Ba,0,none⟩)) hS.1 hT rfl (Qbf (rb.cell 0 Nat.zero_lt_one) rb.l hDb Kr) fun hT=>tW 3 (.pointer (some ⟨Ba,0,none⟩)) hS.1 hT rfl (Qbf (rb.cell 0 Nat.zero_lt_one) rb.l hDb Kr) fun hT=>tWk 7 (.pointer (some ⟨Ba,0,none⟩)) hS.1 hT rfl fun hT=>tWk 15 (.pointer (some ⟨Ba,66,none⟩)) hS.1 hT rfl fun hT=> ?_;refine ZD (N:=17) (k:=4) (m':=31) (v:= .slice a.p a.xs.length a.c) hS.1 hT hS.2.2.2.2.2.2 rfl rfl Kr (QaB (C:=fun _=>False) (by rw [Qa,ra.r,Qu]) ra.l (fun h=>h) Kr) fun hT=>tWk 63 (.pointer (some ⟨b3,11,none⟩)) hS.1 hT rfl fun hT=>tWk 127 (.pointer (some ⟨b3,11,none⟩)) hS.1 hT rfl fun hT=>tW 255 (.agg #[.int .u32 c.pk.tu.a,.int .u32 c.pk.tu.b,.int .u16 c.pk.tu.c,.int .u16 c.pk.tu.d]) hS.1 hT rfl (Qe8 (Q2 r3 11 (by show 11<18;omega)) (Q2 r3 12 (by show 12<18;omega)) (Q2 r3 13 (by show 13<18;omega)) (Q2 r3 14 (by show 14<18;omega)) r3.l hD3 Kr) fun hT=>tWk 511 (.pointer (some ⟨b3,17,none⟩)) hS.1 hT rfl fun hT=>tW 1023 (.int .i64 c.now) hS.1 hT rfl (Q0 (Q2 r3 17 (by show 17<18;omega)) r3.l hD3 Kr) fun hT=> ?_;refine sV 2047 (Quu lo (JV a.xs c.pk.tu c.now) (QaM a.xs c.pk.tu c.now)) hS.2.2.1 rfl (QyS lo c.pk.tu c.now a.p a.xs a.c WA (hs.ext (by first|exact E'|exact E'.tr gWB1)) hl (by have:=E.size;have:=r4.l;unfold Lt at this;omega)) ?_;rintro _ WB1 gWB1 ⟨pn,cn,rfl,sn,nn⟩;have E:=E.tr gWB1;have ra:=ra.ext gWB1;have rb:=rb.ext gWB1;have rc:=rc.ext gWB1;have r3:=r3.ext gWB1;have r4:=r4.ext gWB1;have hT:=hS.2.2.2.1;refine tWk 4095 (.tuple #[.slice pn (JV a.xs c.pk.tu c.now).length cn,.int .i64 (QaM a.xs c.pk.tu c.now)]) hS.1 hT rfl fun hT=>tWk 8191 (.slice pn (JV a.xs c.pk.tu c.now).length cn) hS.1 hT rfl fun hT=>tWk 16383 (.int .i64 (QaM a.xs c.pk.tu c.now)) hS.1 hT rfl fun hT=>tWk 32767 (.pointer (some ⟨Ba,0,none⟩)) hS.1 hT rfl fun hT=>tWk 65535 (.pointer (some ⟨Ba,66,none⟩)) hS.1 hT rfl fun hT=> ?_;refine Qr hS.2.2.2.2.1 (QE (m':=131071) rfl rfl Kr (Qdn (B:=Ba) (i:=66) (v:= .slice pn (JV a.xs c.pk.tu c.now).length cn) (u:= .slice a.p a.xs.length a.c) (by rw [Qa,ra.r,Qu]) (ra.frz 66) ⟨_,_,_,rfl⟩ Kr Kr) ⟨.inl Dc,(Mv.st _ (.inl rfl) (Mv.refl _ _))⟩ ?_);obtain⟨WB2,hWB2⟩: ∃WB2,World.setCell WB1 ⟨Ba,66,none⟩ (.slice pn (JV a.xs c.pk.tu c.now).length cn)=WB2:=⟨_,rfl⟩;have gS:Mv (fun q=>q=Ba) WB1 WB2:=by rw [←hWB2];exact Mv.st _ (.inl rfl) (Mv.refl _ _)
 have ra:RowZ WB2 Ba (agv {a with p:=pn,xs:=(JV a.xs c.pk.tu c.now),c:=cn}):=by rw [←hWB2];exact⟨Qab (a:=a) pn (JV a.xs c.pk.tu c.now) cn ra.r,by rw [QR];exact ra.z,by rw [Zk];exact ra.l⟩
 have E:=E.trans gS;have rb:=rb.mv gS hnb;have rc:=rc.mv gS hnc;have r3:=r3.mv gS hn3;have r4:=r4.mv gS hn4;have sn:=sn.mvo gS (fun b off e=>by have:=nn b off e;omega);rw [hWB2];clear hWB2;refine QZ hS.2.2.2.2.2.1 ?_;clear hS hT;go_simp;obtain⟨a1,ea⟩: ∃a1,({a with p:=pn,xs:=(JV a.xs c.pk.tu c.now),c:=cn}:Ag)=a1:=⟨_,rfl⟩;have ra:RowZ WB2 Ba (agv a1):=by rw [←ea];exact ra
 have eid:a1.id=a.id:=by rw [←ea]
 have HEA:=Xh ea;clear ea
 go_upto_region 2 with(fail)
 have oe:OEv WB2 lo (.slice none 0 0) []:=World.ownsRow_nil WB2 lo 68 6;have hbs:lo≤WB2.heap.size:=by have:=r4.l;unfold Lt at this;omega
 have hge:=Qi oe;have hCa: ¬Z3 (.slice none 0 0) Ba:=fun e=>by have:=hge _ e;omega
 have hCb: ¬Z3 (.slice none 0 0) b2:=fun e=>by have:=hge _ e;omega
 have hCc: ¬Z3 (.slice none 0 0) bc:=fun e=>by have:=hge _ e;omega
 have hC3: ¬Z3 (.slice none 0 0) b3:=fun e=>by have:=hge _ e;omega
 have hC4: ¬Z3 (.slice none 0 0) b4:=fun e=>by have:=hge _ e;omega
 have hCE: ∀q,Z3 (.slice none 0 0) q→w.heap.size≤q:=fun q e=>by have:=hge _ e;omega
 have hDc: ¬(fun q=>q=b4∨Z3 (.slice none 0 0) q) bc:=fun e=>e.elim Om hCc;have hD3: ¬(fun q=>q=b4∨Z3 (.slice none 0 0) q) b3:=fun e=>e.elim Om hC3;have hle:([]:List Ev).length≤1000:=by decide
 have hnk: ∀b off,pn=some ⟨b,off,none⟩→ ¬Z3 (.slice none 0 0) b:=fun b off _ f=>by cases f
 refine Qy (Z3 (.slice none 0 0)) (fun q=>q=b4∨Z3 (.slice none 0 0) q) 8 Kr ?_;obtain⟨WC,hW⟩: ∃Wdr,World.drew WB2=Wdr:=⟨_,rfl⟩;have gD:Ext WB2 WC:=by rw [←hW];exact Ext.dr (Ext.rf _)
 rw [hW];clear hW;have E:=E.tr gD;have ra:=ra.ext gD;have rb:=rb.ext gD;have rc:=rc.ext gD;have r3:=r3.ext gD;have r4:=r4.ext gD;have oe:=oe.ext gD;have sn:=sn.ext gD;have hbs:=Xt hbs gD.size;refine Zi (N:=9) (R:=QqI) (E:=((Tryz.f118.body.bind (Qh 2)).getD #[])) Kr QkP Kr fun hS=> ?_;have hT:=hS.2.1;refine tWk 1 (.pointer (some ⟨b4,1,none⟩)) hS.1 hT rfl fun hT=> ?_;refine ZD (N:=9) (k:=1) (m':=3) (v:= .slice none 0 0) hS.1 hT hS.2.2.2.2.2.2.2.2 rfl rfl Kr (QaF (C:=Z3 (.slice none 0 0)) (r4.cell 1 (by show 1<3;omega)) r4.l hC4 Kr) fun hT=>tW 7 (.func (.func 112) #[] #[.pointer (some ⟨b2,0,none⟩)]) hS.1 hT rfl (QkN (rc.cell 0 Nat.zero_lt_one) rc.l hDc Kr) fun hT=>tW 15 (.agg (cmv c)) hS.1 hT rfl (Qce r3 hD3 Kr) fun hT=> ?_;refine sV 31 (fun v _=>v=Ev.v ⟨1,a1.id,c.pk.tu⟩) hS.2.2.1 rfl (ZC (Qdm 1 a1.id c b2 Ba WC (rb.cell 0 Nat.zero_lt_one) rb.l (ZQ ra.r) ra.l)) ?_;rintro _ WD1 gWD1 rfl;have E:=E.tr gWD1;have ra:=ra.ext gWD1;have rb:=rb.ext gWD1;have rc:=rc.ext gWD1;have r3:=r3.ext gWD1;have r4:=r4.ext gWD1;have oe:=oe.ext gWD1;have sn:=sn.ext gWD1;have hbs:=Xt hbs gWD1.size;refine Qr hS.2.2.2.1 (Zq (m':=63) rfl rfl Kr (Qfa (x:=⟨1,a1.id,c.pk.tu⟩) Kr WD1) ⟨.inr (Mv.of_ext Ea),(Mv.of_ext Ea)⟩ ?_);obtain⟨WD2,hWD2⟩: ∃WD2,WD1.alloc (.cells (Ev.cl ⟨1,a1.id,c.pk.tu⟩).toArray 68)=WD2:=⟨_,rfl⟩;have hbk:=World.alloc_heap_new WD1 (.cells (Ev.cl ⟨1,a1.id,c.pk.tu⟩).toArray 68);have gWD2:Ext WD1 WD2:=by rw [←hWD2];exact Ea
 rw [hWD2]at hbk⊢;clear hWD2;have E:=E.tr gWD2;have ra:=ra.ext gWD2;have rb:=rb.ext gWD2;have rc:=rc.ext gWD2;have r3:=r3.ext gWD2;have r4:=r4.ext gWD2;have oe:=oe.ext gWD2;have sn:=sn.ext gWD2;have hA: ∀j u,(Ev.cl ⟨1,a1.id,c.pk.tu⟩)[j]?=some u→WD2.cell? ⟨WD1.heap.size,j,none⟩=some u:=fun j u hu=>by simp only [World.cell?,hbk];simpa using hu
 have hbs:=Xt hbs gWD2.size;refine Qr hS.2.2.2.2.1 (QkM (m':=127) (base:=lo) (v1:= .slice none 0 0) (b1:=([]:List Ev)) (x1:=⟨1,a1.id,c.pk.tu⟩) rfl rfl Kr Kr oe hA hle (fun r e=>e) (fun k h=> .inr h) hbs ?_);intro v' WD3 oe hg' hm';have E:=E.trn hm' (fun q e=> .inr (hCE q e));have ra:=ra.mv hm' hCa;have rb:=rb.mv hm' hCb;have rc:=rc.mv hm' hCc;have r3:=r3.mv hm' hC3;have r4:=r4.mv hm' hC4;have hbs:=Xt hbs hm'.size;have sn:=sn.mvg hm' (fun b off e f=>by first|exact hnk b off e f|(have:=nn b off e;omega));have gWD3:=Ext.rf WD3;have E:=E.tr gWD3;have ra:=ra.ext gWD3;have rb:=rb.ext gWD3;have rc:=rc.ext gWD3;have r3:=r3.ext gWD3;have r4:=r4.ext gWD3;have oe:=oe.ext gWD3;have sn:=sn.ext gWD3;have hT:=hS.2.2.2.2.2.1;refine tWk 255 (.pointer (some ⟨b4,1,none⟩)) hS.1 hT rfl fun hT=> ?_;refine Qr hS.2.2.2.2.2.2.1 (QE (m':=511) rfl rfl Kr (Qdo (B:=b4) (i:=1) (v:=v') (u:= .slice none 0 0) (r4.cell 1 (by show 1<3;omega)) (r4.frz 1) (Qe9 oe) Kr Kr) ⟨.inl Dc,(Mv.st _ (.inl (.inl rfl)) (Mv.refl _ _))⟩ ?_);obtain⟨WD4,hWD4⟩: ∃WD4,World.setCell WD3 ⟨b4,1,none⟩ v'=WD4:=⟨_,rfl⟩;have gS:Mv (fun q=>q=b4) WD3 WD4:=by rw [←hWD4];exact Mv.st _ (.inl rfl) (Mv.refl _ _)
 have r4:RowZ WD4 b4 #[.int .u8 0,v',.slice none 0 0]:=by rw [←hWD4];exact r4.set 1 _
 have E:=E.trn gS (fun q e=> .inr Om);have ra:=ra.mv gS Om;have rb:=rb.mv gS Om;have rc:=rc.mv gS Om;have r3:=r3.mv gS Om;have oe:=oe.mv gS (fun q hq e=>by omega);have hbs:=Xt hbs gS.size;have sn:=sn.mvg gS (fun b off e f=>by first|exact hnk b off e f|(have:=nn b off e;omega));rw [hWD4];clear hWD4;refine QZ hS.2.2.2.2.2.2.2.1 ?_;clear hS hT;obtain⟨ep,ec,rfl,-,se⟩:=SlE.own oe;have hnE:=Qi oe;have e1:(([]:List Ev)++ [(⟨1,a1.id,c.pk.tu⟩:Ev)]).length=1:=rfl;rw [e1]at r4 hnE⊢;clear e1;have HC:=Xh (show Mv (fun q=>q=Ba) w WD4∧RowZ WD4 Ba (agv a1)∧SlC WD4 pn (JV a.xs c.pk.tu c.now)∧SlE WD4 ep [⟨1,a1.id,c.pk.tu⟩]∧(∀b off,ep=some ⟨b,off,none⟩→lo≤b)from⟨E,ra,sn,se,fun b off e=>by have:=hnE b (by rw [e];rfl);omega⟩);clear E ra sn se rb rc r3 oe hnE;have HR4:=Xh r4;have hq4:Qc WD4 b4=#[.int .u8 0,.slice ep 1 ec,.slice none 0 0]:=r4.r;have hf4:Qs WD4 b4=(0,0):=r4.z;have hz4:Lt b4 WD4:=r4.l;go_wp2;obtain⟨W5,h5⟩: ∃W5,Qe WD4 b4 0 #[.int .u8 0,.slice ep 1 ec,.slice none 0 0]=W5:=⟨_,rfl⟩;have q5:Qc W5 b4=#[.int .u8 0,.slice ep 1 ec,.slice none 0 0]:=by rw [←h5];exact Qq _ _ _ (by rw [hq4])
 rw [h5];obtain⟨E,ra,sn,se,hep⟩:=HC.out;rw [eid]at se;refine bodyPost_ret (Zv rfl _ _ b4 rfl (Qad q5 rfl)) rfl (QcK (lo:=lo) (a:=a) (c:=cn) h5 E (by rw [HEA.out];exact ra) sn se (SlBB.nil _ none) Om Om Om (.inl nn) hep (fun b off e=>by cases e))
theorem QkQ(t:Pk)(p:Option Addr)(n c:Nat)(w:World):Cr 116 #[.agg (pkV t (.slice p n c))] w (.bool (bits .and .u8 t.fl 5 !=0)):=by
 unfold pkV
 go_enter Tryz.func116,Tryz.ntmps116
 go_wp2;go_ret;exact⟨rfl,Ext.al (Ext.rf _) _⟩
theorem Qs1(t:Pk)(p:Option Addr)(n c:Nat)(w:World):Cr 45 #[.agg (pkV t (.slice p n c))] w (.bool (bits .and .u8 t.fl 7==2)):=by
 unfold pkV
 go_enter Tryz.func45,Tryz.ntmps45
 go_wp2;go_ret;exact⟨rfl,Ext.al (Ext.rf _) _⟩
def acv(x:Ru.Ac):Array Value:=#[.int .u8 x.d,.int .u8 x.x,.int .u8 x.k,.int .i64 x.t,.int .i64 x.g]
theorem Z9(x:Ru.Ac)(c:Cm)(a:Ag)(Ba b1:Nat)(w:World)(ra:RowZ w Ba (agv a))(rx:RowZ w b1 (acv x))(hs:SlC w a.p a.xs)(hlt: ∀b off,a.p=some ⟨b,off,none⟩→b<w.heap.size):
  Calls Tryz.prog 113 #[.agg (cmv c),.pointer (some ⟨b1,0,none⟩)] w (Qdp w Ba a x.x a.xs [] []):=by
 go_enter Tryz.func113,Tryz.ntmps113
 go_upto_region 1 with(fail)
 obtain⟨W0,hW⟩: ∃W0,(w.alloc (.cells (cmv c) 98)).alloc (.cells #[.int .u8 0,.slice none 0 0,.slice none 0 0] 42)=W0:=⟨_,rfl⟩;have E':Ext w W0:=by rw [←hW];exact Ext.al Ea _
 have r3:RowZ W0 (w.heap.size+1) #[.int .u8 0,.slice none 0 0,.slice none 0 0]:=by rw [←hW];exact⟨by simp [go_sem],by simp [go_sem],by simp [go_sem,Lt]⟩
 have c1:W0.cell? ⟨b1,1,none⟩=some (.int .u8 x.x):=(E'.cell (p:=⟨b1,1,none⟩) rx.l).trans (rx.cell 1 (by show 1<5;omega));have lA:Ba<w.heap.size:=ra.l;rw [hW];clear hW;have ra:=ra.ext E';have hs:=hs.ext E';obtain⟨b3,e3⟩: ∃b,w.heap.size+1=b:=⟨_,rfl⟩;rw [e3]at r3⊢;have HC:=Xh (show Ext w W0∧RowZ W0 Ba (agv a)∧SlC W0 a.p a.xs from⟨E',ra,hs⟩);clear E' ra hs;have q3:Qc W0 b3=#[.int .u8 0,.slice none 0 0,.slice none 0 0]:=r3.r;have f3:Qs W0 b3=(0,0):=r3.z;have z3:Lt b3 W0:=r3.l;have HR3:=Xh r3;clear r3;go_wp2;obtain⟨W5,h5⟩: ∃W5,Qe W0 b3 0 #[.int .u8 x.x,.slice none 0 0,.slice none 0 0]=W5:=⟨_,rfl⟩;have q5:Qc W5 b3=#[.int .u8 x.x,.slice none 0 0,.slice none 0 0]:=by rw [←h5];exact Qq _ _ _ (by rw [q3];rfl)
 rw [h5];obtain⟨E,ra,sn⟩:=HC.out;exact bodyPost_ret (Zv rfl _ _ b3 rfl (Qad q5 rfl)) rfl (QcK (lo:=b3+1) (a:=a) (p:=a.p) (c:=a.c) (es:= []) (ss:= []) h5 (Mv.of_ext E) ra sn (SlE.nil _ none) (SlBB.nil _ none) Om Om Om (.inr ⟨rfl,hlt⟩) (fun b off e=>by cases e) (fun b off e=>by cases e))
def Qmf(lo:Nat)(xs:List Co)(ok:Bool)(v:Value)(w':World):Prop:= ∃p c,v= .tuple #[.slice p xs.length c,.bool ok]∧SlC w' p xs∧ ∀b off,p=some ⟨b,off,none⟩→lo≤b
theorem Qs2(lo:Nat)(t:Tu)(now:Int)(p:Option Addr)(xs:List Co)(c:Nat)(w:World)(hs:SlC w p xs)(hl:xs.length≤1000)(hlo:lo≤w.heap.size):Calls Tryz.prog 115 #[.slice p xs.length c,.agg #[.int .u32 t.a,.int .u32 t.b,.int .u16 t.c,.int .u16 t.d],.int .i64 now] w fun e w'=> ∃v,e= .returned v∧Qmf lo (withX (touchF now) xs t) (withOk xs t) v w'∧Ext w w':=
 (Qmx t now p xs c w hs hl).mono fun e w' ⟨v,h1,h2,h3⟩=>⟨_,h1,(by obtain⟨q,d,e,-,s⟩:=SlC.own h2;exact⟨q,d,by rw [e],s,fun b off e2=>Xt hlo (Qi h2 b (by rw [e,e2];rfl))⟩),h3⟩
theorem Qs3(lo:Nat)(t:Tu)(p:Option Addr)(xs:List Co)(c:Nat)(w:World)(hs:SlC w p xs)(hl:xs.length≤1000)(hlo:lo≤w.heap.size):Calls Tryz.prog 117 #[.slice p xs.length c,.agg #[.int .u32 t.a,.int .u32 t.b,.int .u16 t.c,.int .u16 t.d]] w fun e w'=> ∃v,e= .returned v∧Qmf lo (withX (fun xs k=>xs.eraseIdx k) xs t) (withOk xs t) v w'∧Ext w w':=
 (QmA t p xs c w hs hl).mono fun e w' ⟨v,h1,h2,h3⟩=>⟨_,h1,(by obtain⟨q,d,e,-,s⟩:=SlC.own h2;exact⟨q,d,by rw [e],s,fun b off e2=>Xt hlo (Qi h2 b (by rw [e,e2];rfl))⟩),h3⟩
theorem QkR(now:Int)(xs:List Co)(t:Tu):(withX (touchF now) xs t).length=xs.length:=by
 unfold withX touchF
 split
 ·split
  ·simp
  ·rfl
 ·rfl
@[go_sem] theorem Qz3{c:Cm}{o:Nat}:Fits o m (cmv c)=(o+m≤18):=by unfold Fits;rfl
@[go_sem] theorem QnD{c:Cm}:QB (cmv c) 11 6=pkV c.pk (.slice c.bp c.bN c.bc):=rfl
def QcL(c:Cm):Bool:=bits .and .u8 c.pk.fl 5 !=0
def QfB(a:Ag)(c:Cm):List Co:=if QcL c=true then withX (fun xs k=>xs.eraseIdx k) (withX (touchF c.now) a.xs c.pk.tu) c.pk.tu else(withX (touchF c.now) a.xs c.pk.tu)
def Qdq(a:Ag)(c:Cm):List Ev:=if QcL c=true then [⟨2,a.id,c.pk.tu⟩,⟨3,a.id,c.pk.tu⟩]else [⟨2,a.id,c.pk.tu⟩]
def QqJ(ops:Array Oper):Prop:=Region.noSelect ops=true∧Qo ops 9 [0,1,2,3] 0=true∧Rd ops 9 15 [4]∧Rd ops 9 31 [5]∧Rd ops 9 63 [6]∧Qo ops 9 [7] 127=true∧Rd ops 9 255 [8]∧Rd ops 9 511 []∧lateB .any ops 8 1=true
theorem QkS:QqJ ((Tryz.f114.body.bind (Qh 1)).getD #[]):=⟨Kr,Kr,Rk,Rk,Rk,Kr,Rk,Rk,Kr⟩
def QqK(ops:Array Oper):Prop:=Region.noSelect ops=true∧Qo ops 17 [0,1,2,3,4,5,6,7,8,9] 0=true∧Rd ops 17 1023 [10]∧Qo ops 17 [11,12,13,14,15] 2047=true∧Rd ops 17 65535 [16]∧Rd ops 17 131071 []∧lateB .any ops 16 4=true
theorem QkT:QqK ((Tryz.f114.body.bind (Qh 2)).getD #[]):=⟨Kr,Kr,Rk,Kr,Rk,Rk,Kr⟩
def QqL(ops:Array Oper):Prop:=Region.noSelect ops=true∧Qo ops 9 [0,1,2,3] 0=true∧Rd ops 9 15 [4]∧Rd ops 9 31 [5]∧Rd ops 9 63 [6]∧Qo ops 9 [7] 127=true∧Rd ops 9 255 [8]∧Rd ops 9 511 []∧lateB .any ops 8 1=true
theorem QkU:QqL ((Tryz.f114.body.bind (Qh 4)).getD #[]):=⟨Kr,Kr,Rk,Rk,Rk,Kr,Rk,Rk,Kr⟩
def QqM(ops:Array Oper):Prop:=Region.noSelect ops=true∧Qo ops 15 [0,1,2,3,4,5,6,7] 0=true∧Rd ops 15 255 [8]∧Qo ops 15 [9,10,11,12,13] 511=true∧Rd ops 15 16383 [14]∧Rd ops 15 32767 []∧lateB .any ops 14 4=true
theorem QkV:QqM ((Tryz.f114.body.bind (Qh 5)).getD #[]):=⟨Kr,Kr,Rk,Kr,Rk,Rk,Kr⟩
theorem QiZ(a:Ag)(c:Cm)(Ba b2 bc:Nat)(w:World)(h:Qut w a Ba b2 bc)(hl:a.xs.length≤1000)(hlt: ∀b off,a.p=some ⟨b,off,none⟩→b<w.heap.size)(hne: ∀b off,a.p=some ⟨b,off,none⟩→b≠Ba):
  Calls Tryz.prog 114 #[.agg (cmv c),.pointer (some ⟨bc,0,none⟩),.pointer (some ⟨b2,0,none⟩)] w (Qdp w Ba a 0 (QfB a c) (Qdq a c) []):=by
 obtain⟨ra,rb,rc,hs,hn1,hn2⟩:=h;have lA:Ba<w.heap.size:=ra.l;have lB:b2<w.heap.size:=rb.l;have lC:bc<w.heap.size:=rc.l
 go_enter Tryz.func114,Tryz.ntmps114
 go_upto_region 1 with(fail)
 obtain⟨W0,hW⟩: ∃W0,(w.alloc (.cells (cmv c) 98)).alloc (.cells #[.int .u8 0,.slice none 0 0,.slice none 0 0] 42)=W0:=⟨_,rfl⟩;have E':Ext w W0:=by rw [←hW];exact Ext.al Ea _
 have r3:RowZ W0 w.heap.size (cmv c):=by rw [←hW];exact⟨by simp [go_sem],by simp [go_sem],by simp [go_sem,Lt]⟩
 have r4:RowZ W0 (w.heap.size+1) #[.int .u8 0,.slice none 0 0,.slice none 0 0]:=by rw [←hW];exact⟨by simp [go_sem],by simp [go_sem],by simp [go_sem,Lt]⟩
 have hsz:W0.heap.size=w.heap.size+2:=by rw [←hW];simp
 rw [hW];clear hW;have ra:=ra.ext E';have rb:=rb.ext E';have rc:=rc.ext E';have hs:=hs.ext E';obtain⟨b3,e3⟩: ∃b,w.heap.size=b:=⟨_,rfl⟩;rw [e3]at r3 r4 hsz lA lB lC hlt⊢;obtain⟨b4,e4⟩: ∃b,b3+1=b:=⟨_,rfl⟩;rw [e4]at r4⊢;obtain⟨lo,hlo⟩: ∃lo,b4+1=lo:=⟨_,rfl⟩;have E:Mv (fun q=>q=Ba) w W0:=Mv.of_ext E';have hnb: ¬b2=Ba:=fun e=>hn1 e.symm;have hnc: ¬bc=Ba:=fun e=>hn2 e.symm;have hn3: ¬b3=Ba:=by omega
 have hn4: ¬b4=Ba:=by omega
 have oe:OEv W0 lo (.slice none 0 0) []:=World.ownsRow_nil W0 lo 68 6;have hbs:lo≤W0.heap.size:=by omega
 have hge:=Qi oe;have hCa: ¬Z3 (.slice none 0 0) Ba:=fun e=>by have:=hge _ e;omega
 have hCb: ¬Z3 (.slice none 0 0) b2:=fun e=>by have:=hge _ e;omega
 have hCc: ¬Z3 (.slice none 0 0) bc:=fun e=>by have:=hge _ e;omega
 have hC3: ¬Z3 (.slice none 0 0) b3:=fun e=>by have:=hge _ e;omega
 have hC4: ¬Z3 (.slice none 0 0) b4:=fun e=>by have:=hge _ e;omega
 have hCE: ∀q,Z3 (.slice none 0 0) q→w.heap.size≤q:=fun q e=>by have:=hge _ e;omega
 have hDc: ¬(fun q=>q=b4∨Z3 (.slice none 0 0) q) bc:=fun e=>e.elim Om hCc;have hD3: ¬(fun q=>q=b4∨Z3 (.slice none 0 0) q) b3:=fun e=>e.elim Om hC3;have hle:([]:List Ev).length≤1000:=by decide
 have hnk: ∀b off,a.p=some ⟨b,off,none⟩→ ¬Z3 (.slice none 0 0) b:=fun b off _ f=>by cases f
 have hn4s: ∀b off,a.p=some ⟨b,off,none⟩→ ¬b=b4:=fun b off e=>by have:=hlt b off e;omega
 refine Qy (Z3 (.slice none 0 0)) (fun q=>q=b4∨Z3 (.slice none 0 0) q) 8 Kr ?_;obtain⟨WA,hW⟩: ∃Wdr,World.drew W0=Wdr:=⟨_,rfl⟩;have gD:Ext W0 WA:=by rw [←hW];exact Ext.dr (Ext.rf _)
 rw [hW];clear hW;have E:=E.tr gD;have ra:=ra.ext gD;have rb:=rb.ext gD;have rc:=rc.ext gD;have r3:=r3.ext gD;have r4:=r4.ext gD;have oe:=oe.ext gD;have hs:=hs.ext gD;have hbs:=Xt hbs gD.size;refine Zi (N:=9) (R:=QqJ) (E:=((Tryz.f114.body.bind (Qh 1)).getD #[])) Kr QkS Kr fun hS=> ?_;have hT:=hS.2.1;refine tWk 1 (.pointer (some ⟨b4,1,none⟩)) hS.1 hT rfl fun hT=> ?_;refine ZD (N:=9) (k:=1) (m':=3) (v:= .slice none 0 0) hS.1 hT hS.2.2.2.2.2.2.2.2 rfl rfl Kr (QaF (C:=Z3 (.slice none 0 0)) (r4.cell 1 (by show 1<3;omega)) r4.l hC4 Kr) fun hT=>tW 7 (.func (.func 112) #[] #[.pointer (some ⟨b2,0,none⟩)]) hS.1 hT rfl (QkN (rc.cell 0 Nat.zero_lt_one) rc.l hDc Kr) fun hT=>tW 15 (.agg (cmv c)) hS.1 hT rfl (Qce r3 hD3 Kr) fun hT=> ?_;refine sV 31 (fun v _=>v=Ev.v ⟨2,a.id,c.pk.tu⟩) hS.2.2.1 rfl (ZC (Qdm 2 a.id c b2 Ba WA (rb.cell 0 Nat.zero_lt_one) rb.l (ZQ ra.r) ra.l)) ?_;rintro _ WB1 gWB1 rfl;have E:=E.tr gWB1;have ra:=ra.ext gWB1;have rb:=rb.ext gWB1;have rc:=rc.ext gWB1;have r3:=r3.ext gWB1;have r4:=r4.ext gWB1;have oe:=oe.ext gWB1;have hs:=hs.ext gWB1;have hbs:=Xt hbs gWB1.size;refine Qr hS.2.2.2.1 (Zq (m':=63) rfl rfl Kr (Qfa (x:=⟨2,a.id,c.pk.tu⟩) Kr WB1) ⟨.inr (Mv.of_ext Ea),(Mv.of_ext Ea)⟩ ?_);obtain⟨WB2,hWB2⟩: ∃WB2,WB1.alloc (.cells (Ev.cl ⟨2,a.id,c.pk.tu⟩).toArray 68)=WB2:=⟨_,rfl⟩;have hbk:=World.alloc_heap_new WB1 (.cells (Ev.cl ⟨2,a.id,c.pk.tu⟩).toArray 68);have gWB2:Ext WB1 WB2:=by rw [←hWB2];exact Ea
 rw [hWB2]at hbk⊢;clear hWB2;have E:=E.tr gWB2;have ra:=ra.ext gWB2;have rb:=rb.ext gWB2;have rc:=rc.ext gWB2;have r3:=r3.ext gWB2;have r4:=r4.ext gWB2;have oe:=oe.ext gWB2;have hs:=hs.ext gWB2;have hA: ∀j u,(Ev.cl ⟨2,a.id,c.pk.tu⟩)[j]?=some u→WB2.cell? ⟨WB1.heap.size,j,none⟩=some u:=fun j u hu=>by simp only [World.cell?,hbk];simpa using hu
 have hbs:=Xt hbs gWB2.size;refine Qr hS.2.2.2.2.1 (QkM (m':=127) (base:=lo) (v1:= .slice none 0 0) (b1:=([]:List Ev)) (x1:=⟨2,a.id,c.pk.tu⟩) rfl rfl Kr Kr oe hA hle (fun r e=>e) (fun k h=> .inr h) hbs ?_);intro v' WB3 oe hg' hm';have E:=E.trn hm' (fun q e=> .inr (hCE q e));have ra:=ra.mv hm' hCa;have rb:=rb.mv hm' hCb;have rc:=rc.mv hm' hCc;have r3:=r3.mv hm' hC3;have r4:=r4.mv hm' hC4;have hbs:=Xt hbs hm'.size;have hs:=hs.mvg hm' (fun b off e f=>by first|exact hnk b off e f|exact hn4s b off e f);have gWB3:=Ext.rf WB3;have E:=E.tr gWB3;have ra:=ra.ext gWB3;have rb:=rb.ext gWB3;have rc:=rc.ext gWB3;have r3:=r3.ext gWB3;have r4:=r4.ext gWB3;have oe:=oe.ext gWB3;have hs:=hs.ext gWB3;have hT:=hS.2.2.2.2.2.1;refine tWk 255 (.pointer (some ⟨b4,1,none⟩)) hS.1 hT rfl fun hT=> ?_;refine Qr hS.2.2.2.2.2.2.1 (QE (m':=511) rfl rfl Kr (Qdo (B:=b4) (i:=1) (v:=v') (u:= .slice none 0 0) (r4.cell 1 (by show 1<3;omega)) (r4.frz 1) (Qe9 oe) Kr Kr) ⟨.inl Dc,(Mv.st _ (.inl (.inl rfl)) (Mv.refl _ _))⟩ ?_);obtain⟨WB4,hWB4⟩: ∃WB4,World.setCell WB3 ⟨b4,1,none⟩ v'=WB4:=⟨_,rfl⟩;have gS:Mv (fun q=>q=b4) WB3 WB4:=by rw [←hWB4];exact Mv.st _ (.inl rfl) (Mv.refl _ _)
 have r4:RowZ WB4 b4 #[.int .u8 0,v',.slice none 0 0]:=by rw [←hWB4];exact r4.set 1 _
 have E:=E.trn gS (fun q e=> .inr Om);have ra:=ra.mv gS Om;have rb:=rb.mv gS Om;have rc:=rc.mv gS Om;have r3:=r3.mv gS Om;have oe:=oe.mv gS (fun q hq e=>by omega);have hbs:=Xt hbs gS.size;have hs:=hs.mvg gS (fun b off e f=>by first|exact hnk b off e f|exact hn4s b off e f);rw [hWB4];clear hWB4;refine QZ hS.2.2.2.2.2.2.2.1 ?_;clear hS hT hCa hCb hCc hC3 hC4 hCE hDc hD3 hge;obtain⟨ep,ec,rfl,-,-⟩:=SlE.own oe;have e1:(([]:List Ev)++ [(⟨2,a.id,c.pk.tu⟩:Ev)])= [⟨2,a.id,c.pk.tu⟩]:=rfl;rw [e1]at r4 oe⊢;clear e1;rw [show([(⟨2,a.id,c.pk.tu⟩:Ev)]).length=1 from rfl]at r4 oe⊢
 go_upto_region 2 with(fail)
 obtain⟨lo2,hlo2⟩: ∃lo2,WB4.heap.size=lo2:=⟨_,rfl⟩;have hown: ∀b,Z3 (.slice ep 1 ec) b→b<lo2:=fun b e=>by have:=QbW oe b e;omega
 have hll:lo≤lo2:=by omega
 have hz2:lo2≤WB4.heap.size:=by omega
 refine Qy (fun _=>False) (fun q=>q=Ba) 16 Kr ?_;have hDb: ¬(fun q=>q=Ba) b2:=hnb;have hD3: ¬(fun q=>q=Ba) b3:=hn3;obtain⟨WC,hW⟩: ∃Wdr,World.drew WB4=Wdr:=⟨_,rfl⟩;have gD:Ext WB4 WC:=by rw [←hW];exact Ext.dr (Ext.rf _)
 rw [hW];clear hW;have E:=E.tr gD;have ra:=ra.ext gD;have rb:=rb.ext gD;have rc:=rc.ext gD;have r3:=r3.ext gD;have r4:=r4.ext gD;have oe:=oe.ext gD;have hs:=hs.ext gD;have hbs:=Xt hbs gD.size;have hz2:=Xt hz2 gD.size;refine Zi (N:=17) (R:=QqK) (E:=((Tryz.f114.body.bind (Qh 2)).getD #[])) Kr QkT Kr fun hS=> ?_;have hT:=hS.2.1;refine tW 1 (.pointer (some ⟨Ba,0,none⟩)) hS.1 hT rfl (Qbf (rb.cell 0 Nat.zero_lt_one) rb.l hDb Kr) fun hT=>tW 3 (.pointer (some ⟨Ba,0,none⟩)) hS.1 hT rfl (Qbf (rb.cell 0 Nat.zero_lt_one) rb.l hDb Kr) fun hT=>tWk 7 (.pointer (some ⟨Ba,0,none⟩)) hS.1 hT rfl fun hT=>tWk 15 (.pointer (some ⟨Ba,66,none⟩)) hS.1 hT rfl fun hT=> ?_;refine ZD (N:=17) (k:=4) (m':=31) (v:= .slice a.p a.xs.length a.c) hS.1 hT hS.2.2.2.2.2.2 rfl rfl Kr (QaB (C:=fun _=>False) (by rw [Qa,ra.r,Qu]) ra.l (fun h=>h) Kr) fun hT=>tWk 63 (.pointer (some ⟨b3,11,none⟩)) hS.1 hT rfl fun hT=>tWk 127 (.pointer (some ⟨b3,11,none⟩)) hS.1 hT rfl fun hT=>tW 255 (.agg #[.int .u32 c.pk.tu.a,.int .u32 c.pk.tu.b,.int .u16 c.pk.tu.c,.int .u16 c.pk.tu.d]) hS.1 hT rfl (Qe8 (Q2 r3 11 (by show 11<18;omega)) (Q2 r3 12 (by show 12<18;omega)) (Q2 r3 13 (by show 13<18;omega)) (Q2 r3 14 (by show 14<18;omega)) r3.l hD3 Kr) fun hT=>tWk 511 (.pointer (some ⟨b3,17,none⟩)) hS.1 hT rfl fun hT=>tW 1023 (.int .i64 c.now) hS.1 hT rfl (Q0 (Q2 r3 17 (by show 17<18;omega)) r3.l hD3 Kr) fun hT=> ?_;refine sV 2047 (Qmf lo2 (withX (touchF c.now) a.xs c.pk.tu) (withOk a.xs c.pk.tu)) hS.2.2.1 rfl (Qs2 lo2 c.pk.tu c.now a.p a.xs a.c WC (hs.ext (by first|exact Ext.rf _|exact gWD1)) hl Om) ?_;rintro _ WD1 gWD1 ⟨pn,cn,rfl,sn,nn⟩;have E:=E.tr gWD1;have ra:=ra.ext gWD1;have rb:=rb.ext gWD1;have rc:=rc.ext gWD1;have r3:=r3.ext gWD1;have r4:=r4.ext gWD1;have oe:=oe.ext gWD1;have hbs:=Xt hbs gWD1.size;have hT:=hS.2.2.2.1;refine tWk 4095 (.tuple #[.slice pn (withX (touchF c.now) a.xs c.pk.tu).length cn,.bool (withOk a.xs c.pk.tu)]) hS.1 hT rfl fun hT=>tWk 8191 (.slice pn (withX (touchF c.now) a.xs c.pk.tu).length cn) hS.1 hT rfl fun hT=>tWk 16383 (.bool (withOk a.xs c.pk.tu)) hS.1 hT rfl fun hT=>tWk 32767 (.pointer (some ⟨Ba,0,none⟩)) hS.1 hT rfl fun hT=>tWk 65535 (.pointer (some ⟨Ba,66,none⟩)) hS.1 hT rfl fun hT=> ?_;refine Qr hS.2.2.2.2.1 (QE (m':=131071) rfl rfl Kr (Qdn (B:=Ba) (i:=66) (v:= .slice pn (withX (touchF c.now) a.xs c.pk.tu).length cn) (u:= .slice a.p a.xs.length a.c) (by rw [Qa,ra.r,Qu]) (ra.frz 66) ⟨_,_,_,rfl⟩ Kr Kr) ⟨.inl Dc,(Mv.st _ (.inl rfl) (Mv.refl _ _))⟩ ?_);obtain⟨WD2,hWD2⟩: ∃WD2,World.setCell WD1 ⟨Ba,66,none⟩ (.slice pn (withX (touchF c.now) a.xs c.pk.tu).length cn)=WD2:=⟨_,rfl⟩;have gS:Mv (fun q=>q=Ba) WD1 WD2:=by rw [←hWD2];exact Mv.st _ (.inl rfl) (Mv.refl _ _)
 have ra:RowZ WD2 Ba (agv {a with p:=pn,xs:=(withX (touchF c.now) a.xs c.pk.tu),c:=cn}):=by rw [←hWD2];exact⟨Qab (a:=a) pn (withX (touchF c.now) a.xs c.pk.tu) cn ra.r,by rw [QR];exact ra.z,by rw [Zk];exact ra.l⟩
 have E:=E.trans gS;have rb:=rb.mv gS hnb;have rc:=rc.mv gS hnc;have r3:=r3.mv gS hn3;have r4:=r4.mv gS hn4;have sn:=sn.mvo gS (fun b off e=>by have:=nn b off e;omega);have oe:=oe.mv gS (fun q hq e=>by omega);have hbs:=Xt hbs gS.size;rw [hWD2];clear hWD2;refine QZ hS.2.2.2.2.2.1 ?_;clear hS hT;obtain⟨a1,ea⟩: ∃a1,({a with p:=pn,xs:=(withX (touchF c.now) a.xs c.pk.tu),c:=cn}:Ag)=a1:=⟨_,rfl⟩;have ra:RowZ WD2 Ba (agv a1):=by rw [←ea];exact ra
 have eid:a1.id=a.id:=by rw [←ea]
 have hs:SlC WD2 a1.p a1.xs:=by rw [←ea];exact sn
 have hx1:a1.xs=(withX (touchF c.now) a.xs c.pk.tu):=by rw [←ea]
 have hnp: ∀b off,a1.p=some ⟨b,off,none⟩→lo2≤b:=by rw [←ea];exact nn
 have hl1:a1.xs.length≤1000:=by rw [hx1,QkR];exact hl
 have HEA:=Xh ea;have HX1:=Xh hx1;clear ea hx1 sn nn hz2 hnk hn4s hlt hne hDb hD3 gS;have HCLS:=Xh (fun W=>QkQ c.pk c.bp c.bN c.bc W);have HR3:=Xh r3;have hr3:=r3.r
 cases hcl:QcL c
 ·have hcl':(bits .and .u8 c.pk.fl 5 !=0)=false:=hcl;rw [hcl']at HCLS;clear hcl';have HCL:=Xh hcl;clear hcl
  go_upto_region 6 with(go_at_call 116;(refine(HCLS.out _).mono ?_);rintro e w3 ⟨rfl,g3⟩)
  have E:=E.tr g3;have ra:=ra.ext g3;have hs:=hs.ext g3;have r4:=r4.ext g3;have oe:=oe.ext g3;obtain⟨ep',ec',h,-,se⟩:=SlE.own oe
  cases h
  have hnE:=Qi oe;have HC:=Xh (show Mv (fun q=>q=Ba) w w3∧RowZ w3 Ba (agv a1)∧SlC w3 a1.p a1.xs∧SlE w3 ep [(⟨2,a.id,c.pk.tu⟩:Ev)]∧(∀b off,a1.p=some ⟨b,off,none⟩→lo≤b)∧(∀b off,ep=some ⟨b,off,none⟩→lo≤b)from⟨E,ra,hs,se,fun b off e=>by have:=hnp b off e;omega,fun b off e=>by have:=hnE b (by rw [e];rfl);omega⟩);have q4:=r4.r;have f4:=r4.z;have z4:=r4.l;clear E ra hs se hnp hnE oe r4 rb rc r3;go_wp2;obtain⟨W5,h5⟩: ∃W5,Qe w3 b4 0 #[.int .u8 0,.slice ep ([(⟨2,a.id,c.pk.tu⟩:Ev)]).length ec,.slice none 0 0]=W5:=⟨_,rfl⟩;have q5:Qc W5 b4=#[.int .u8 0,.slice ep ([(⟨2,a.id,c.pk.tu⟩:Ev)]).length ec,.slice none 0 0]:=by rw [←h5];exact Qq _ _ _ (by rw [q4];rfl)
  have h5':=h5;simp only [List.length_cons,List.length_nil,Nat.zero_add,Nat.reduceAdd]at h5';rw [h5'];clear h5';obtain⟨E,ra,hs,se,h8,h9⟩:=HC.out;have hd:QfB a c=a1.xs:=by unfold QfB;rw [HCL.out,if_neg Dc];exact HX1.out.symm
  have hde:Qdq a c= [⟨2,a.id,c.pk.tu⟩]:=by unfold Qdq;rw [HCL.out];rfl
  rw [hd,hde];have hrow:({a with p:=a1.p,xs:=a1.xs,c:=a1.c}:Ag)=a1:=by rw [←HEA.out]
  exact bodyPost_ret (Zv rfl _ _ b4 rfl (Qad q5 rfl)) rfl (QcK (lo:=lo) (a:=a) (p:=a1.p) (xs:=a1.xs) (c:=a1.c) (es:= [(⟨2,a.id,c.pk.tu⟩:Ev)]) (ss:= []) h5 E (by rw [hrow];exact ra) hs se (SlBB.nil _ none) Om Om Om (.inl h8) h9 (fun b off e=>by cases e))
 have hcl':(bits .and .u8 c.pk.fl 5 !=0)=true:=hcl;rw [hcl']at HCLS;clear hcl';have HCL:=Xh hcl;clear hcl
 go_upto_region 4 with(go_at_call 116;(refine(HCLS.out _).mono ?_);rintro e w3 ⟨rfl,g3⟩)
 clear hr3;have E:=E.tr g3;have ra:=ra.ext g3;have rb:=rb.ext g3;have rc:=rc.ext g3;have r3:=r3.ext g3;have hs:=hs.ext g3;have r4:=r4.ext g3;have oe:=oe.ext g3;have hbs:=Xt hbs g3.size;have hge:=Qi oe;have hCa: ¬Z3 (.slice ep 1 ec) Ba:=fun e=>by have:=hge _ e;omega
 have hCb: ¬Z3 (.slice ep 1 ec) b2:=fun e=>by have:=hge _ e;omega
 have hCc: ¬Z3 (.slice ep 1 ec) bc:=fun e=>by have:=hge _ e;omega
 have hC3: ¬Z3 (.slice ep 1 ec) b3:=fun e=>by have:=hge _ e;omega
 have hC4: ¬Z3 (.slice ep 1 ec) b4:=fun e=>by have:=hge _ e;omega
 have hCE: ∀q,Z3 (.slice ep 1 ec) q→w.heap.size≤q:=fun q e=>by have:=hge _ e;omega
 have hDc: ¬(fun q=>q=b4∨Z3 (.slice ep 1 ec) q) bc:=fun e=>e.elim Om hCc;have hD3: ¬(fun q=>q=b4∨Z3 (.slice ep 1 ec) q) b3:=fun e=>e.elim Om hC3;have hle:([(⟨2,a.id,c.pk.tu⟩:Ev)]).length≤1000:=by show 1≤1000;omega
 have hnk: ∀b off,a1.p=some ⟨b,off,none⟩→ ¬Z3 (.slice ep 1 ec) b:=fun b off e f=>by have:=hnp b off e;have:=hown b f;omega
 have hn4s: ∀b off,a1.p=some ⟨b,off,none⟩→ ¬b=b4:=fun b off e=>by have:=hnp b off e;omega
 refine Qy (Z3 (.slice ep 1 ec)) (fun q=>q=b4∨Z3 (.slice ep 1 ec) q) 8 Kr ?_;obtain⟨WE,hW⟩: ∃Wdr,World.drew w3=Wdr:=⟨_,rfl⟩;have gD:Ext w3 WE:=by rw [←hW];exact Ext.dr (Ext.rf _)
 rw [hW];clear hW;have E:=E.tr gD;have ra:=ra.ext gD;have rb:=rb.ext gD;have rc:=rc.ext gD;have r3:=r3.ext gD;have r4:=r4.ext gD;have oe:=oe.ext gD;have hs:=hs.ext gD;have hbs:=Xt hbs gD.size;refine Zi (N:=9) (R:=QqL) (E:=((Tryz.f114.body.bind (Qh 4)).getD #[])) Kr QkU Kr fun hS=> ?_;have hT:=hS.2.1;refine tWk 1 (.pointer (some ⟨b4,1,none⟩)) hS.1 hT rfl fun hT=> ?_;refine ZD (N:=9) (k:=1) (m':=3) (v:= .slice ep 1 ec) hS.1 hT hS.2.2.2.2.2.2.2.2 rfl rfl Kr (QaF (C:=Z3 (.slice ep 1 ec)) (r4.cell 1 (by show 1<3;omega)) r4.l hC4 Kr) fun hT=>tW 7 (.func (.func 112) #[] #[.pointer (some ⟨b2,0,none⟩)]) hS.1 hT rfl (QkN (rc.cell 0 Nat.zero_lt_one) rc.l hDc Kr) fun hT=>tW 15 (.agg (cmv c)) hS.1 hT rfl (Qce r3 hD3 Kr) fun hT=> ?_;refine sV 31 (fun v _=>v=Ev.v ⟨3,a1.id,c.pk.tu⟩) hS.2.2.1 rfl (ZC (Qdm 3 a1.id c b2 Ba WE (rb.cell 0 Nat.zero_lt_one) rb.l (ZQ ra.r) ra.l)) ?_;rintro _ WF1 gWF1 rfl;have E:=E.tr gWF1;have ra:=ra.ext gWF1;have rb:=rb.ext gWF1;have rc:=rc.ext gWF1;have r3:=r3.ext gWF1;have r4:=r4.ext gWF1;have oe:=oe.ext gWF1;have hs:=hs.ext gWF1;have hbs:=Xt hbs gWF1.size;refine Qr hS.2.2.2.1 (Zq (m':=63) rfl rfl Kr (Qfa (x:=⟨3,a1.id,c.pk.tu⟩) Kr WF1) ⟨.inr (Mv.of_ext Ea),(Mv.of_ext Ea)⟩ ?_);obtain⟨WF2,hWF2⟩: ∃WF2,WF1.alloc (.cells (Ev.cl ⟨3,a1.id,c.pk.tu⟩).toArray 68)=WF2:=⟨_,rfl⟩;have hbk:=World.alloc_heap_new WF1 (.cells (Ev.cl ⟨3,a1.id,c.pk.tu⟩).toArray 68);have gWF2:Ext WF1 WF2:=by rw [←hWF2];exact Ea
 rw [hWF2]at hbk⊢;clear hWF2;have E:=E.tr gWF2;have ra:=ra.ext gWF2;have rb:=rb.ext gWF2;have rc:=rc.ext gWF2;have r3:=r3.ext gWF2;have r4:=r4.ext gWF2;have oe:=oe.ext gWF2;have hs:=hs.ext gWF2;have hA: ∀j u,(Ev.cl ⟨3,a1.id,c.pk.tu⟩)[j]?=some u→WF2.cell? ⟨WF1.heap.size,j,none⟩=some u:=fun j u hu=>by simp only [World.cell?,hbk];simpa using hu
 have hbs:=Xt hbs gWF2.size;refine Qr hS.2.2.2.2.1 (QkM (m':=127) (base:=lo) (v1:= .slice ep 1 ec) (b1:= [(⟨2,a.id,c.pk.tu⟩:Ev)]) (x1:=⟨3,a1.id,c.pk.tu⟩) rfl rfl Kr Kr oe hA hle (fun r e=>e) (fun k h=> .inr h) hbs ?_);intro v' WF3 oe hg' hm';have E:=E.trn hm' (fun q e=> .inr (hCE q e));have ra:=ra.mv hm' hCa;have rb:=rb.mv hm' hCb;have rc:=rc.mv hm' hCc;have r3:=r3.mv hm' hC3;have r4:=r4.mv hm' hC4;have hbs:=Xt hbs hm'.size;have hs:=hs.mvg hm' (fun b off e f=>by first|exact hnk b off e f|exact hn4s b off e f);have gWF3:=Ext.rf WF3;have E:=E.tr gWF3;have ra:=ra.ext gWF3;have rb:=rb.ext gWF3;have rc:=rc.ext gWF3;have r3:=r3.ext gWF3;have r4:=r4.ext gWF3;have oe:=oe.ext gWF3;have hs:=hs.ext gWF3;have hT:=hS.2.2.2.2.2.1;refine tWk 255 (.pointer (some ⟨b4,1,none⟩)) hS.1 hT rfl fun hT=> ?_;refine Qr hS.2.2.2.2.2.2.1 (QE (m':=511) rfl rfl Kr (Qdo (B:=b4) (i:=1) (v:=v') (u:= .slice ep 1 ec) (r4.cell 1 (by show 1<3;omega)) (r4.frz 1) (Qe9 oe) Kr Kr) ⟨.inl Dc,(Mv.st _ (.inl (.inl rfl)) (Mv.refl _ _))⟩ ?_);obtain⟨WF4,hWF4⟩: ∃WF4,World.setCell WF3 ⟨b4,1,none⟩ v'=WF4:=⟨_,rfl⟩;have gS:Mv (fun q=>q=b4) WF3 WF4:=by rw [←hWF4];exact Mv.st _ (.inl rfl) (Mv.refl _ _)
 have r4:RowZ WF4 b4 #[.int .u8 0,v',.slice none 0 0]:=by rw [←hWF4];exact r4.set 1 _
 have E:=E.trn gS (fun q e=> .inr Om);have ra:=ra.mv gS Om;have rb:=rb.mv gS Om;have rc:=rc.mv gS Om;have r3:=r3.mv gS Om;have oe:=oe.mv gS (fun q hq e=>by omega);have hbs:=Xt hbs gS.size;have hs:=hs.mvg gS (fun b off e f=>by first|exact hnk b off e f|exact hn4s b off e f);rw [hWF4];clear hWF4;refine QZ hS.2.2.2.2.2.2.2.1 ?_;clear hS hT hCa hCb hCc hC3 hC4 hCE hDc hD3 hge;obtain⟨ep,ec,rfl,-,-⟩:=SlE.own oe;have e1:([(⟨2,a.id,c.pk.tu⟩:Ev)]++ [(⟨3,a1.id,c.pk.tu⟩:Ev)])= [⟨2,a.id,c.pk.tu⟩,⟨3,a.id,c.pk.tu⟩]:=by rw [eid];rfl
 rw [e1]at r4 oe⊢;clear e1;rw [show([(⟨2,a.id,c.pk.tu⟩:Ev),⟨3,a.id,c.pk.tu⟩]).length=2 from rfl]at r4 oe⊢;clear hnk hn4s hown
 go_upto_region 5 with(fail)
 refine Qy (fun _=>False) (fun q=>q=Ba) 14 Kr ?_;have hDb: ¬(fun q=>q=Ba) b2:=hnb;have hD3: ¬(fun q=>q=Ba) b3:=hn3;obtain⟨WG,hW⟩: ∃Wdr,World.drew WF4=Wdr:=⟨_,rfl⟩;have gD:Ext WF4 WG:=by rw [←hW];exact Ext.dr (Ext.rf _)
 rw [hW];clear hW;have E:=E.tr gD;have ra:=ra.ext gD;have rb:=rb.ext gD;have rc:=rc.ext gD;have r3:=r3.ext gD;have r4:=r4.ext gD;have oe:=oe.ext gD;have hs:=hs.ext gD;have hbs:=Xt hbs gD.size;refine Zi (N:=15) (R:=QqM) (E:=((Tryz.f114.body.bind (Qh 5)).getD #[])) Kr QkV Kr fun hS=> ?_;have hT:=hS.2.1;refine tW 1 (.pointer (some ⟨Ba,0,none⟩)) hS.1 hT rfl (Qbf (rb.cell 0 Nat.zero_lt_one) rb.l hDb Kr) fun hT=>tW 3 (.pointer (some ⟨Ba,0,none⟩)) hS.1 hT rfl (Qbf (rb.cell 0 Nat.zero_lt_one) rb.l hDb Kr) fun hT=>tWk 7 (.pointer (some ⟨Ba,0,none⟩)) hS.1 hT rfl fun hT=>tWk 15 (.pointer (some ⟨Ba,66,none⟩)) hS.1 hT rfl fun hT=> ?_;refine ZD (N:=15) (k:=4) (m':=31) (v:= .slice a1.p a1.xs.length a1.c) hS.1 hT hS.2.2.2.2.2.2 rfl rfl Kr (QaB (C:=fun _=>False) (by rw [Qa,ra.r,Qu]) ra.l (fun h=>h) Kr) fun hT=>tWk 63 (.pointer (some ⟨b3,11,none⟩)) hS.1 hT rfl fun hT=>tWk 127 (.pointer (some ⟨b3,11,none⟩)) hS.1 hT rfl fun hT=>tW 255 (.agg #[.int .u32 c.pk.tu.a,.int .u32 c.pk.tu.b,.int .u16 c.pk.tu.c,.int .u16 c.pk.tu.d]) hS.1 hT rfl (Qe8 (Q2 r3 11 (by show 11<18;omega)) (Q2 r3 12 (by show 12<18;omega)) (Q2 r3 13 (by show 13<18;omega)) (Q2 r3 14 (by show 14<18;omega)) r3.l hD3 Kr) fun hT=> ?_;refine sV 511 (Qmf lo (withX (fun xs k=>xs.eraseIdx k) a1.xs c.pk.tu) (withOk a1.xs c.pk.tu)) hS.2.2.1 rfl (Qs3 lo c.pk.tu a1.p a1.xs a1.c WG (hs.ext (by first|exact Ext.rf _|exact gWH1)) hl1 Om) ?_;rintro _ WH1 gWH1 ⟨pn,cn,rfl,sn,nn⟩;have E:=E.tr gWH1;have ra:=ra.ext gWH1;have rb:=rb.ext gWH1;have rc:=rc.ext gWH1;have r3:=r3.ext gWH1;have r4:=r4.ext gWH1;have oe:=oe.ext gWH1;have hbs:=Xt hbs gWH1.size;have hT:=hS.2.2.2.1;refine tWk 1023 (.tuple #[.slice pn (withX (fun xs k=>xs.eraseIdx k) a1.xs c.pk.tu).length cn,.bool (withOk a1.xs c.pk.tu)]) hS.1 hT rfl fun hT=>tWk 2047 (.slice pn (withX (fun xs k=>xs.eraseIdx k) a1.xs c.pk.tu).length cn) hS.1 hT rfl fun hT=>tWk 4095 (.bool (withOk a1.xs c.pk.tu)) hS.1 hT rfl fun hT=>tWk 8191 (.pointer (some ⟨Ba,0,none⟩)) hS.1 hT rfl fun hT=>tWk 16383 (.pointer (some ⟨Ba,66,none⟩)) hS.1 hT rfl fun hT=> ?_;refine Qr hS.2.2.2.2.1 (QE (m':=32767) rfl rfl Kr (Qdn (B:=Ba) (i:=66) (v:= .slice pn (withX (fun xs k=>xs.eraseIdx k) a1.xs c.pk.tu).length cn) (u:= .slice a1.p a1.xs.length a1.c) (by rw [Qa,ra.r,Qu]) (ra.frz 66) ⟨_,_,_,rfl⟩ Kr Kr) ⟨.inl Dc,(Mv.st _ (.inl rfl) (Mv.refl _ _))⟩ ?_);obtain⟨WH2,hWH2⟩: ∃WH2,World.setCell WH1 ⟨Ba,66,none⟩ (.slice pn (withX (fun xs k=>xs.eraseIdx k) a1.xs c.pk.tu).length cn)=WH2:=⟨_,rfl⟩;have gS:Mv (fun q=>q=Ba) WH1 WH2:=by rw [←hWH2];exact Mv.st _ (.inl rfl) (Mv.refl _ _)
 have ra:RowZ WH2 Ba (agv {a1 with p:=pn,xs:=(withX (fun xs k=>xs.eraseIdx k) a1.xs c.pk.tu),c:=cn}):=by rw [←hWH2];exact⟨Qab (a:=a1) pn (withX (fun xs k=>xs.eraseIdx k) a1.xs c.pk.tu) cn ra.r,by rw [QR];exact ra.z,by rw [Zk];exact ra.l⟩
 have E:=E.trans gS;have rb:=rb.mv gS hnb;have rc:=rc.mv gS hnc;have r3:=r3.mv gS hn3;have r4:=r4.mv gS hn4;have sn:=sn.mvo gS (fun b off e=>by have:=nn b off e;omega);have oe:=oe.mv gS (fun q hq e=>by omega);have hbs:=Xt hbs gS.size;rw [hWH2];clear hWH2;refine QZ hS.2.2.2.2.2.1 ?_;clear hS hT;obtain⟨a2,ea⟩: ∃a2,({a1 with p:=pn,xs:=(withX (fun xs k=>xs.eraseIdx k) a1.xs c.pk.tu),c:=cn}:Ag)=a2:=⟨_,rfl⟩;have ra:RowZ WH2 Ba (agv a2):=by rw [←ea];exact ra
 have hs:SlC WH2 a2.p a2.xs:=by rw [←ea];exact sn
 have hx2:a2.xs=(withX (fun xs k=>xs.eraseIdx k) a1.xs c.pk.tu):=by rw [←ea]
 have hnp: ∀b off,a2.p=some ⟨b,off,none⟩→lo≤b:=by rw [←ea];exact nn
 have HEA2:=Xh ea;have HX2:=Xh hx2;clear ea hx2 sn nn hDb hD3 gS
 go_upto_region 6 with(fail)
 obtain⟨ep',ec',h,-,se⟩:=SlE.own oe
 cases h
 have hnE:=Qi oe;have HC:=Xh (show Mv (fun q=>q=Ba) w WH2∧RowZ WH2 Ba (agv a2)∧SlC WH2 a2.p a2.xs∧SlE WH2 ep [(⟨2,a.id,c.pk.tu⟩:Ev),⟨3,a.id,c.pk.tu⟩]∧(∀b off,a2.p=some ⟨b,off,none⟩→lo≤b)∧(∀b off,ep=some ⟨b,off,none⟩→lo≤b)from⟨E,ra,hs,se,fun b off e=>by have:=hnp b off e;omega,fun b off e=>by have:=hnE b (by rw [e];rfl);omega⟩);have q4:=r4.r;have f4:=r4.z;have z4:=r4.l;clear E ra hs se hnp hnE oe r4 rb rc r3;go_wp2;obtain⟨W5,h5⟩: ∃W5,Qe WH2 b4 0 #[.int .u8 0,.slice ep ([(⟨2,a.id,c.pk.tu⟩:Ev),⟨3,a.id,c.pk.tu⟩]).length ec,.slice none 0 0]=W5:=⟨_,rfl⟩;have q5:Qc W5 b4=#[.int .u8 0,.slice ep ([(⟨2,a.id,c.pk.tu⟩:Ev),⟨3,a.id,c.pk.tu⟩]).length ec,.slice none 0 0]:=by rw [←h5];exact Qq _ _ _ (by rw [q4];rfl)
 have h5':=h5;simp only [List.length_cons,List.length_nil,Nat.zero_add,Nat.reduceAdd]at h5';rw [h5'];clear h5';obtain⟨E,ra,hs,se,h8,h9⟩:=HC.out;have hd:QfB a c=a2.xs:=by unfold QfB;rw [HCL.out,if_pos rfl,←HX1.out];exact HX2.out.symm
 have hde:Qdq a c= [⟨2,a.id,c.pk.tu⟩,⟨3,a.id,c.pk.tu⟩]:=by unfold Qdq;rw [HCL.out];rfl
 rw [hd,hde];have hrow:({a with p:=a2.p,xs:=a2.xs,c:=a2.c}:Ag)=a2:=by rw [←HEA2.out,←HEA.out]
 exact bodyPost_ret (Zv rfl _ _ b4 rfl (Qad q5 rfl)) rfl (QcK (lo:=lo) (a:=a) (p:=a2.p) (xs:=a2.xs) (c:=a2.c) (es:= [(⟨2,a.id,c.pk.tu⟩:Ev),⟨3,a.id,c.pk.tu⟩]) (ss:= []) h5 E (by rw [hrow];exact ra) hs se (SlBB.nil _ none) Om Om Om (.inl h8) h9 (fun b off e=>by cases e))
@[go_sem] theorem Qxi{c:Cm}:QB (cmv c) 4 6=opv c.o:=rfl
theorem QvT(h0:RowZ w B cs)(h6:cs.size=6)(hC: ¬C B)
  (hx:ρ q= .pointer (some ⟨B,0,none⟩)): ∀w',Mv C w w'→(execOp ρ ⟨dst,.load 75 q,ty,pos,after,g⟩).run Tryz.prog w'= .ok (.value (.agg cs)) w':=by
 intro w' hE;have h1:=h0.mv hE hC;have e:=Qct ρ dst q ty pos after g w' (by rw [hx];rfl) (by rw [hx];show Fits 0 6 (Qc w' B);rw [h1.r];unfold Fits;omega);rw [e,hx];show Result.ok (Next.value (Value.agg (QB (Qc w' B) 0 6))) w'=_;rw [h1.r,Q9 _ 6 h6]
theorem QqN(lo:Nat){F:Nat}{args:Array Value}{bs:List Int}(h:Calls Tryz.prog F args W fun e w'=> ∃v,e= .returned (.tuple #[v,.int .u8 0])∧Z8 W w' v bs)(hlo:lo≤W.heap.size):
  Calls Tryz.prog F args W fun e w'=> ∃v,e= .returned v∧(∃p q,v= .tuple #[.slice p bs.length q,.int .u8 0]∧SlB w' p bs∧ ∀b off,p=some ⟨b,off,none⟩→lo≤b)∧Ext W w':=
 h.mono fun e w' ⟨v,h1,h2⟩=>by
  obtain⟨p,q,e1,-,s⟩:=h2.sl;subst e1;exact⟨_,h1,⟨p,q,rfl,s,fun b off e2=>Xt hlo (Qi h2.own b (by rw [e2];rfl))⟩,h2.ext⟩
theorem Qs4:(Tryz.prog.info? 28).map (fun i=>(i.zero,i.size,i.bytes))=some (some (.slice none 0 0),1,24):=Kr
theorem QvU{a:Option Addr}{c:Nat}(h0:w.cell? ⟨B,i,none⟩=some (.slice a m c))(hl:Lt B w)(hC: ¬C B)
  (hx:ρ q= .pointer (some ⟨B,i,none⟩)): ∀w',Mv C w w'→(execOp ρ ⟨dst,.load 40 q,ty,pos,after,g⟩).run Tryz.prog w'= .ok (.value (.slice a m c)) w':=by
 intro w' hE;have h1:w'.cell? ⟨B,i,none⟩=some (.slice a m c):=by rw [Qa,Qf (hE.same B hl hC),←Qa];exact h0
 simp only [execOp,hx];go_simp
theorem QqO(hc:w.cell? ⟨B,i,none⟩=some u)(hf:w.frozen? ⟨B,i,none⟩=false)(hv: ∃a m c,v= .slice a m c)
  (hx:ρ x= .pointer (some ⟨B,i,none⟩))(hy:ρ y=v):(execOp ρ ⟨dst,.store 40 x y,ty,pos,after,g⟩).run Tryz.prog w= .ok .skip (w.setCell ⟨B,i,none⟩ v):=by
 obtain⟨a,m,c,rfl⟩:=hv;simp only [execOp,hx,hy];go_simp
theorem QnE{n:Nat}(hx:ρ q= .slice p n m)(w:World):
  (execOp ρ ⟨dst,.buildSlice 40 1 #[(0,q)],ty,pos,after,g⟩).run Tryz.prog w= .ok (.value (.slice (some ⟨w.heap.size,0,none⟩) 1 1)) (w.alloc (.cells #[.slice p n m] 28)):=by
 simp only [execOp,List.map_toArray,List.map_cons,List.map_nil,hx];go_simp
theorem QqP{A:Nat}(hA:w.cell? ⟨A,0,none⟩=some u)(hu:u.oneCell'=true)(ty:TypeId): ∃g cap w',(Builtin.append_ #[40,40] ty #[.slice none 0 0,.slice (some ⟨A,0,none⟩) 1 1]).run Tryz.prog w= .ok (.slice (some ⟨g,0,none⟩) 1 cap) w'∧w.heap.size≤g∧g<w'.heap.size∧w'.cell? ⟨g,0,none⟩=some u∧Ext w w':=by
 obtain⟨i0,hi0,hz0,hz,hz2⟩:=info_parts Qs4
 obtain⟨v',w',hr,ho,hg,-,-⟩:=run_append_own_at (P:=Tryz.prog) w w.heap.size 40 ty 28 i0 (.slice none 0 0) 1 24 Tryz.underlying40 hi0 hz0 hz hz2 rfl Dc (.slice none 0 0) 0 [] (World.ownsRow_nil w w.heap.size 28 1) ⟨A,0,none⟩ 1 1 [u] rfl (fun j x hx=>by
  cases j with
  |zero=>simp at hx;subst hx;exact hA
  |succ j=>simp at hx) (fun x hx=>by simp at hx;subst hx;exact hu) (by unfold maxLen;omega) Om (Nat.le_refl _)
 have hE:Ext w w':=Mv.ext (C:=fun _=>False) (Mv.of_grown hg fun r e=>by cases e) (fun _ _ h=>h);rcases ho.2 with⟨-,h0⟩|⟨g,cap,cur,rfl,hgl,hgb,h1,h2,h3,h4⟩
 ·simp at h0
 ·refine⟨g,cap,w',hr,hgl,(Array.getElem?_eq_some_iff.1 hgb).1,?_,hE⟩;have h5:(cur.toList.take 1)[0]?=some u:=by rw [show(1:Nat)=(0+1)*1 from rfl,h4];rfl
  rw [List.getElem?_take_of_lt Om]at h5;simp only [World.cell?,hgb];simpa using h5
theorem Qi0{i:Int}(h:0≤i∧i<6):((2,i):Int×Int)∈Qx:=by
 obtain⟨h0,h1⟩:=h;have:i=0∨i=1∨i=2∨i=3∨i=4∨i=5:=by omega
 rcases this with rfl|rfl|rfl|rfl|rfl|rfl<;>decide
def QqQ(ops:Array Oper):Prop:=Region.noSelect ops=true∧Qv ops 19 [0,1,2,3,5,6,8,9,10,11] 0=true∧Rd ops 19 3951 [4]∧Rd ops 19 3967 [7]∧Qv ops 19 [12] 4095=true∧Rd ops 19 8191 [13]∧Qv ops 19 [14,15,16,17,18] 16383=true∧Rd ops 19 524287 []
theorem QkW:QqQ ((Tryz.f120.body.bind (Qh 2)).getD #[]):=⟨Kr,Kr,Rk,Rk,Kr,Rk,Kr,Rk⟩
theorem J8(x:Ru.Ac)(c:Cm)(a:Ag)(Ba b1 b2:Nat)(pl:List Int)(w:World)(ra:RowZ w Ba (agv a))(rb:RowZ w b2 #[.pointer (some ⟨Ba,0,none⟩)])(rx:RowZ w b1 (acv x))(hs:SlC w a.p a.xs)(hlt: ∀b off,a.p=some ⟨b,off,none⟩→b<w.heap.size)
  (hid:0≤a.id∧a.id<6)(hx:0≤x.t∧x.t<6)(hk:0≤x.k∧x.k<256)(hbu:0≤c.o.bu∧c.o.bu<256)(ho:ZO {c.o with ki:=x.k,ge:=x.g}=true)
  (hN:c.iN≤1000)(hN0:(c.ip=none∧pl= [])∨ ∃b off,c.ip=some ⟨b,off,none⟩)(hpl:pl.length=c.iN)(hcp:c.iN≤c.ic)(sp:SlB w c.ip pl)(rp:ByR pl)(hpp: ∀b off,c.ip=some ⟨b,off,none⟩→b<w.heap.size):
  Calls Tryz.prog 120 #[.agg (cmv c),.pointer (some ⟨b1,0,none⟩),.pointer (some ⟨b2,0,none⟩)] w (Qdp w Ba a 0 a.xs [] [ipB (QD (2,a.id)) (QD (2,x.t)) (Ym {c.o with ki:=x.k,ge:=x.g}) pl]):=by
 obtain⟨o1,eo⟩: ∃o1,({c.o with ki:=x.k,ge:=x.g}:Opt)=o1:=⟨_,rfl⟩;have HTU: ∀W,Cr 121 #[.agg (opv c.o),.int .u8 x.k,.int .i64 x.g] W (.tuple #[.agg (opv o1),.int .i64 0]):=fun W=>by
  have h:=QjN c.o x.k x.g W hbu hk;unfold QgW QgX at h;rw [ho,if_pos rfl,if_pos rfl,eo]at h;exact h
 have HEP: ∀W,SlB W c.ip pl→w.heap.size≤W.heap.size→Calls Tryz.prog 96 #[.agg (wrV (2,a.id) (2,x.t) o1 (.slice c.ip c.iN c.ic))] W fun e w'=> ∃v,e= .returned (.tuple #[v,.int .u8 0])∧Z8 W w' v (ipB (QD (2,a.id)) (QD (2,x.t)) (Ym o1) pl):=fun W hsp hw=>
  Qb9 (2,a.id) (2,x.t) o1 pl c.ip c.iN c.ic W (Qi0 hid) (Qi0 hx) (by rw [←eo];exact hk) (by rw [←eo];exact hbu) (by rw [←eo];exact ho) hN hN0 hpl hcp hsp rp (fun b off e=>by have:=hpp b off e;omega)
 rw [eo];obtain⟨bs,ebs⟩: ∃bs,ipB (QD (2,a.id)) (QD (2,x.t)) (Ym o1) pl=bs:=⟨_,rfl⟩;rw [ebs]at HEP⊢;have HTU:=Xh HTU;have HEP:=Xh HEP;clear ho hN hN0 hpl hcp rp hpp hid hx hk hbu eo ebs;have lA:Ba<w.heap.size:=ra.l;have lB:b2<w.heap.size:=rb.l;have lX:b1<w.heap.size:=rx.l
 go_enter Tryz.func120,Tryz.ntmps120
 go_upto_region 1 with(fail)
 obtain⟨W0,hW⟩: ∃W0,(w.alloc (.cells (cmv c) 98)).alloc (.cells #[.int .u8 0,.slice none 0 0,.slice none 0 0] 42)=W0:=⟨_,rfl⟩;have E:Ext w W0:=by rw [←hW];exact Ext.al Ea _
 have r3:RowZ W0 w.heap.size (cmv c):=by rw [←hW];exact⟨by simp [go_sem],by simp [go_sem],by simp [go_sem,Lt]⟩
 have r4:RowZ W0 (w.heap.size+1) #[.int .u8 0,.slice none 0 0,.slice none 0 0]:=by rw [←hW];exact⟨by simp [go_sem],by simp [go_sem],by simp [go_sem,Lt]⟩
 have hsz:W0.heap.size=w.heap.size+2:=by rw [←hW];simp
 rw [hW];clear hW;have ra:=ra.ext E;have rb:=rb.ext E;have rx:=rx.ext E;have hs:=hs.ext E;have sp:=sp.ext E;obtain⟨b3,e3⟩: ∃b,w.heap.size=b:=⟨_,rfl⟩;rw [e3]at r3 r4 hsz lA lB lX hlt⊢;obtain⟨b4,e4⟩: ∃b,b3+1=b:=⟨_,rfl⟩;rw [e4]at r4⊢;have q3:=r3.r;have cx2:W0.cell? ⟨b1,2,none⟩=some (.int .u8 x.k):=rx.cell 2 (by show 2<5;omega);have cx4:W0.cell? ⟨b1,4,none⟩=some (.int .i64 x.g):=rx.cell 4 (by show 4<5;omega);have HH:=Xh (And.intro E (And.intro ra (And.intro rb (And.intro rx (And.intro hs (And.intro sp (And.intro r3 r4)))))));have HSZ:=Xh hsz;clear E ra rb rx hs sp r3 r4 hsz
 go_upto_region 2 with(go_at_call 121;(refine(HTU.out _).mono ?_);rintro e w1 ⟨rfl,g1⟩)
 obtain⟨E,ra,rb,rx,hs,sp,r3,r4⟩:=HH.out;have hsz:=HSZ.out;have hb5:W0.heap.size≤w1.heap.size:=g1.size;obtain⟨b5,e5⟩: ∃b,w1.heap.size=b:=⟨_,rfl⟩;obtain⟨W2,hW⟩: ∃W2,Qe (w1.alloc (.cells #[.int .u8 0,.int .u8 0,.int .i64 0,.int .i64 0,.int .i64 0,.int .i64 0] 75)) w1.heap.size 0 (opv o1)=W2:=⟨_,rfl⟩;have gn:Ext w1 (w1.alloc (.cells #[.int .u8 0,.int .u8 0,.int .i64 0,.int .i64 0,.int .i64 0,.int .i64 0] 75)):=Ext.al (Ext.rf _) _;have g2:Ext w1 W2:=by rw [←hW];exact Mv.ext_of (C:=fun q=>q=w1.heap.size) gn (Mv.sa _ rfl (Mv.refl _ _)) (fun q e=>by omega)
 have r5:RowZ W2 b5 (opv o1):=by
  rw [←hW,←e5];exact(show RowZ (w1.alloc (.cells #[.int .u8 0,.int .u8 0,.int .i64 0,.int .i64 0,.int .i64 0,.int .i64 0] 75)) w1.heap.size #[.int .u8 0,.int .u8 0,.int .i64 0,.int .i64 0,.int .i64 0,.int .i64 0]from RowZ.new _ _ _).all _ rfl
 have hz2:b5<W2.heap.size:=r5.l;rw [hW,e5];clear hW gn cx2 cx4 q3 HTU HSZ;have g2:=g1.tr g2;have E:=E.tr g2;have ra:=ra.ext g2;have rb:=rb.ext g2;have rx:=rx.ext g2;have hs:=hs.ext g2;have sp:=sp.ext g2;have r3:=r3.ext g2;have r4:=r4.ext g2;obtain⟨lo,hlo⟩: ∃lo,b5+1=lo:=⟨_,rfl⟩;have hbs:lo≤W2.heap.size:=by omega
 have h45:b4<b5:=by omega
 clear HH g1 g2 e5 hb5 hsz hz2;refine QO (fun _=>False) Kr ?_;obtain⟨WA,hW⟩: ∃Wdr,World.drew W2=Wdr:=⟨_,rfl⟩;have gD:Ext W2 WA:=by rw [←hW];exact Ext.dr (Ext.rf _)
 rw [hW];clear hW;have E:=E.tr gD;have ra:=ra.ext gD;have rb:=rb.ext gD;have rx:=rx.ext gD;have r3:=r3.ext gD;have r4:=r4.ext gD;have r5:=r5.ext gD;have hs:=hs.ext gD;have sp:=sp.ext gD;have hbs:=Xt hbs gD.size;refine QaH (N:=19) (R:=QqQ) (E:=((Tryz.f120.body.bind (Qh 2)).getD #[])) Kr QkW Kr fun hS=> ?_;have hT:=hS.2.1;refine tM 1 (.pointer (some ⟨Ba,0,none⟩)) hS.1 hT rfl (Qbf (C:=fun _=>False) (rb.cell 0 Nat.zero_lt_one) rb.l (fun h=>h) Kr) fun hT=>tMk 3 (.pointer (some ⟨Ba,0,none⟩)) hS.1 hT rfl fun hT=>tMk 7 (.pointer (some ⟨Ba,0,none⟩)) hS.1 hT rfl fun hT=>tM 15 (.int .i64 a.id) hS.1 hT rfl (Q0 (C:=fun _=>False) (ZQ ra.r) ra.l (fun h=>h) Kr) fun hT=>tMk 47 (.pointer (some ⟨b1,3,none⟩)) hS.1 hT rfl fun hT=>tM 111 (.int .i64 x.t) hS.1 hT rfl (Q0 (C:=fun _=>False) (rx.cell 3 (by show 3<5;omega)) rx.l (fun h=>h) Kr) fun hT=>tM 367 (.agg (opv o1)) hS.1 hT rfl (QvT (C:=fun _=>False) r5 rfl (fun h=>h) Kr) fun hT=>tMk 879 (.pointer (some ⟨b3,0,none⟩)) hS.1 hT rfl fun hT=>tMk 1903 (.pointer (some ⟨b3,10,none⟩)) hS.1 hT rfl fun hT=>tM 3951 (.slice c.ip c.iN c.ic) hS.1 hT rfl (JY (C:=fun _=>False) (Q2 r3 10 (by show 10<18;omega)) r3.l (fun h=>h) Kr) fun hT=> ?_;refine sM 3967 (fun v _=>v= .agg #[.int .u8 2,.int .i64 a.id]) hS.2.2.1 rfl (ZC (Qdc a.id WA)) ?_;rintro _ WB1 gWB1 rfl;have E:=E.tr gWB1;have ra:=ra.ext gWB1;have rb:=rb.ext gWB1;have rx:=rx.ext gWB1;have r3:=r3.ext gWB1;have r4:=r4.ext gWB1;have r5:=r5.ext gWB1;have hs:=hs.ext gWB1;refine sM 4095 (fun v _=>v= .agg #[.int .u8 2,.int .i64 x.t]) hS.2.2.2.1 rfl (ZC (Qdc x.t WB1)) ?_;rintro _ WB2 gWB2 rfl;have E:=E.tr gWB2;have ra:=ra.ext gWB2;have rb:=rb.ext gWB2;have rx:=rx.ext gWB2;have r3:=r3.ext gWB2;have r4:=r4.ext gWB2;have r5:=r5.ext gWB2;have hs:=hs.ext gWB2;have hT:=hS.2.2.2.2.1;refine tMk 8191 (.agg (wrV (2,a.id) (2,x.t) o1 (.slice c.ip c.iN c.ic))) hS.1 hT rfl fun hT=> ?_;refine sM 16383 (fun v W'=> ∃p q,v= .tuple #[.slice p bs.length q,.int .u8 0]∧SlB W' p bs∧ ∀b off,p=some ⟨b,off,none⟩→lo≤b) hS.2.2.2.2.2.1 rfl (QqN lo (HEP.out WB2 (sp.ext (by first|exact Ext.rf _|exact gWB1.tr gWB2)) E.size) (by have:=gWB1.size;have:=gWB2.size;omega)) ?_;rintro _ WB3 gWB3 ⟨pb,cb,rfl,sb,nbb⟩;have E:=E.tr gWB3;have ra:=ra.ext gWB3;have rb:=rb.ext gWB3;have rx:=rx.ext gWB3;have r3:=r3.ext gWB3;have r4:=r4.ext gWB3;have r5:=r5.ext gWB3;have hs:=hs.ext gWB3;have hT:=hS.2.2.2.2.2.2.1;refine tMk 32767 (.tuple #[.slice pb bs.length cb,.int .u8 0]) hS.1 hT rfl fun hT=>tMk 65535 (.slice pb bs.length cb) hS.1 hT rfl fun hT=>tMk 131071 (.int .u8 0) hS.1 hT rfl fun hT=>tMk 262143 (.slice pb bs.length cb) hS.1 hT rfl fun hT=>tMk 524287 (.int .u8 0) hS.1 hT rfl fun hT=> ?_;refine doneK hS.2.2.2.2.2.2.2 ?_;clear hS hT;have h34:b3+1=b4:=e4
 go_upto_region 3 with(fail)
 obtain⟨W5,hW⟩: ∃W5,WB3.alloc (.cells #[.slice pb bs.length cb] 28)=W5:=⟨_,rfl⟩;have g5:Ext WB3 W5:=by rw [←hW];exact Ea
 have hA:W5.cell? ⟨WB3.heap.size,0,none⟩=some (.slice pb bs.length cb):=by rw [←hW];simp [go_sem]
 obtain⟨g,cap,W6,hap,hg0,hg1,hcg,g6⟩:=QqP hA rfl 40;have r46:RowZ W6 b4 #[.int .u8 0,.slice none 0 0,.slice none 0 0]:=(r4.ext g5).ext g6;obtain⟨W7,hW7⟩: ∃W7,W6.setCell ⟨b4,2,none⟩ (.slice (some ⟨g,0,none⟩) 1 cap)=W7:=⟨_,rfl⟩;refine wp_region_lit ?_;refine listV (v:= .pointer (some ⟨b4,2,none⟩)) (w':=WB3) rfl Kr ?_;refine listV rfl (QvU (C:=fun _=>False) (r4.cell 2 (by show 2<3;omega)) r4.l (fun h=>h) Kr _ (Mv.refl _ _)) ?_;refine listV (v:= .slice pb bs.length cb) (w':=WB3) rfl Kr ?_;refine listV rfl (QnE (p:=pb) (n:=bs.length) (m:=cb) Kr _) ?_;rw [hW];refine listV rfl (Qa9 (v1:= .slice none 0 0) (v2:= .slice (some ⟨WB3.heap.size,0,none⟩) 1 1) Kr Kr hap) ?_;refine listV (v:= .pointer (some ⟨b4,2,none⟩)) (w':=W6) rfl Kr ?_;refine Zj rfl (QqO (B:=b4) (i:=2) (v:= .slice (some ⟨g,0,none⟩) 1 cap) (r46.cell 2 (by show 2<3;omega)) (r46.frz 2) ⟨_,_,_,rfl⟩ Kr Kr) ?_;refine wpList_nil ?_;have r4:RowZ W7 b4 #[.int .u8 0,.slice none 0 0,.slice (some ⟨g,0,none⟩) 1 cap]:=by rw [←hW7];exact r46.set 2 _
 have m7:Mv (fun q=>q=b4) W6 W7:=by rw [←hW7];exact Mv.st _ (.inl rfl) (Mv.refl _ _)
 rw [hW7];have g36:Ext WB3 W6:=g5.tr g6;have E6:=E.tr g36;have hlo6:lo≤WB3.heap.size:=by have:=gWB1.size;have:=gWB2.size;have:=gWB3.size;omega
 have hlg:lo≤g:=by have:=g5.size;omega
 have E7:Mv (fun q=>q=Ba) w W7:=(Mv.of_ext E6).trn m7 (fun q e=> .inr Om);have ra7:RowZ W7 Ba (agv a):=(ra.ext g36).mv m7 Om;have hs7:SlC W7 a.p a.xs:=(hs.ext g36).mvg m7 (fun b off e=>by have:=hlt b off e;omega);have hg7:g<W7.heap.size:=Xl hg1 m7.size;have hc7:W7.cell? ⟨g,0,none⟩=some (.slice pb bs.length cb):=by rw [Qa,Qf (m7.same g hg1 Om),←Qa];exact hcg
 have sb7:SlB W7 pb bs:=(sb.ext g36).mvg m7 (fun b off e=>by have:=nbb b off e;omega);have HC:=Xh (And.intro E7 (And.intro ra7 (And.intro hs7 (And.intro hg7 (And.intro hc7 (And.intro sb7 (And.intro hlg hlt)))))));have q4:=r4.r;have f4:=r4.z;have z4:=r4.l;clear E7 ra7 hs7 hg7 hc7 sb7 hlg hlt E6 g36 hlo6 m7 r46 hap hcg hA g5 g6 hW7 hW E ra rb rx r3 r5 hs sb r4;go_simp;go_wp2;obtain⟨W8,h8⟩: ∃W8,Qe W7 b4 0 #[.int .u8 0,.slice none 0 0,.slice (some ⟨g,0,none⟩) 1 cap]=W8:=⟨_,rfl⟩;have q5:Qc W8 b4=#[.int .u8 0,.slice none 0 0,.slice (some ⟨g,0,none⟩) 1 cap]:=by rw [←h8];exact Qq _ _ _ (by rw [q4])
 rw [h8];obtain⟨E,ra,hs,hg,hc,sb,hlg,hlt⟩:=HC.out;have m8:Mv (fun q=>q=b4) W7 W8:=by rw [←h8];exact Mv.sa _ rfl (Mv.refl _ _)
 exact bodyPost_ret (Zv rfl _ _ b4 rfl (Qad q5 rfl)) rfl (QcK (lo:=lo) (a:=a) (p:=a.p) (c:=a.c) (es:= []) (ss:= [bs]) h8 E ra hs (SlE.nil _ none) (fun k hk=>by
  obtain rfl:k=0:=by simp at hk;exact hk
  exact⟨g,0,pb,cb,rfl,Xl hg m8.size,by rw [Qa,Qf (m8.same g hg Om),←Qa];exact hc,sb.mvg m8 (fun b off e=>by have:=nbb b off e;omega)⟩) Om Om Om (.inr ⟨rfl,fun b off e=>by have:=hlt b off e;omega⟩) (fun b off e=>by cases e) (fun b off e=>by cases e;exact hlg))
theorem Qfb:Ru.Qfp Tryz.prog 5 (fun x=> ∃n:Int,x= .int .u8 n):=Ru.Qye .u8 Tryz.underlying5
theorem Qs5(w:World):
  (execOp ρ ⟨dst,.makeMap 108 none,ty,pos,after,g⟩).run Tryz.prog w= .ok (.value (.map (some w.heap.size))) (w.alloc (.map #[] 0)):=by
 have:=run_makeMap (P:=Tryz.prog) 108 w;simp [execOp,this,Result.andThen]
theorem QcM{w':World}{m k:Value}{p r:Operand}(hp:ρ p=m)(hq:ρ q=k)(hr:ρ r=v)
  (h:(Instr.mapUpdate 108 m k v).run Tryz.prog w= .ok () w'):(execOp ρ ⟨dst,.insert 108 p q r,ty,pos,after,g⟩).run Tryz.prog w= .ok .skip w':=by
 simp only [execOp,hp,hq,hr,Sem.run_bind,h,Result.andThen_ok,Sem.run_pure]
structure Qdr(w:World)(m:Value)(x:Ru.Ac)(Ba b1 b2 bc:Nat):Prop where
 is: ∃B f,m= .map (some B)∧Ru.ZE (fun x=> ∃n:Int,x= .int .u8 n) w B f∧f (.int .u8 0)=some (.func (.func 113) #[] #[.pointer (some ⟨b1,0,none⟩)])∧f (.int .u8 1)=some (.func (.func 114) #[] #[.pointer (some ⟨bc,0,none⟩),.pointer (some ⟨b2,0,none⟩)])∧f (.int .u8 2)=some (.func (.func 118) #[] #[.pointer (some ⟨b2,0,none⟩),.pointer (some ⟨bc,0,none⟩)])∧f (.int .u8 3)=some (.func (.func 120) #[] #[.pointer (some ⟨b1,0,none⟩),.pointer (some ⟨b2,0,none⟩)])
 rx:RowZ w b1 (acv x)
 rb:RowZ w b2 #[.pointer (some ⟨Ba,0,none⟩)]
 rc:RowZ w bc #[.func (.func 112) #[] #[.pointer (some ⟨b2,0,none⟩)]]
 ne:Ba≠b2∧Ba≠bc∧Ba≠b1
theorem QqR(x:Ru.Ac)(Ba:Nat)(w:World)(lA:Ba<w.heap.size):
  Calls Tryz.prog 48 #[.pointer (some ⟨Ba,0,none⟩),.agg (acv x)] w fun e w'=> ∃m b1 b2 bc,e= .returned m∧Qdr w' m x Ba b1 b2 bc∧Ext w w':=by
 unfold acv
 go_enter Tryz.func48,Tryz.ntmps48
 go_upto_region 2 with(fail)
 obtain⟨V,hV⟩: ∃V,(((w.alloc (.cells #[.pointer (some ⟨Ba,0,none⟩)] 110)).alloc (.cells #[.int .u8 x.d,.int .u8 x.x,.int .u8 x.k,.int .i64 x.t,.int .i64 x.g] 105)).alloc (.cells #[.func (.func 112) #[] #[.pointer (some ⟨w.heap.size,0,none⟩)]] 168))=V:=⟨_,rfl⟩;have E:Ext w V:=by rw [←hV];exact Ext.al (Ext.al Ea _) _
 have rb:RowZ V w.heap.size #[.pointer (some ⟨Ba,0,none⟩)]:=by rw [←hV];exact⟨by simp [go_sem],by simp [go_sem],by simp [go_sem,Lt]⟩
 have rx:RowZ V (w.heap.size+1) (acv x):=by rw [←hV];exact⟨by simp [go_sem,acv],by simp [go_sem],by simp [go_sem,Lt]⟩
 have rc:RowZ V (w.heap.size+1+1) #[.func (.func 112) #[] #[.pointer (some ⟨w.heap.size,0,none⟩)]]:=by rw [←hV];exact⟨by simp [go_sem],by simp [go_sem],by simp [go_sem,Lt]⟩
 rw [hV];clear hV;obtain⟨b2,e2⟩: ∃b,w.heap.size=b:=⟨_,rfl⟩;rw [e2]at rb rx rc lA⊢;obtain⟨b1,e1⟩: ∃b,b2+1=b:=⟨_,rfl⟩;rw [e1]at rx rc⊢;obtain⟨bc,ec⟩: ∃b,b1+1=b:=⟨_,rfl⟩;rw [ec]at rc⊢;obtain⟨M,hM⟩: ∃M,V.heap.size=M:=⟨_,rfl⟩;have lb:b2<M:=by rw [←hM];exact rb.l
 have lx:b1<M:=by rw [←hM];exact rx.l
 have lc:bc<M:=by rw [←hM];exact rc.l
 have lw:w.heap.size≤M:=by rw [←hM];exact E.size
 obtain⟨V0,hV0⟩: ∃V0,V.alloc (.map #[] 0)=V0:=⟨_,rfl⟩;have h0:Ru.ZE (fun x=> ∃n:Int,x= .int .u8 n) V0 M (fun _=>none):=by rw [←hV0,←hM];exact Ru.ZE.new V
 have g0:Ext V V0:=by rw [←hV0];exact Ea
 obtain⟨V1,hr1,h1,o1,o2,o3,o4,o5⟩:=Ru.ZE.store (P:=Tryz.prog) (t:=108) Qfb Tryz.underlying108 h0 ⟨0,rfl⟩ (by simp) (.func (.func 113) #[] #[.pointer (some ⟨b1,0,none⟩)]);have m1:Mv (fun q=>q=M) V0 V1:=⟨o1,o2,o3,Nat.le_of_eq o4.symm,fun k _ hk=>o5 k hk⟩;clear o1 o2 o3 o4 o5;obtain⟨V2,hr2,h2,o1,o2,o3,o4,o5⟩:=Ru.ZE.store (P:=Tryz.prog) (t:=108) Qfb Tryz.underlying108 h1 ⟨1,rfl⟩ (by simp) (.func (.func 114) #[] #[.pointer (some ⟨bc,0,none⟩),.pointer (some ⟨b2,0,none⟩)]);have m2:Mv (fun q=>q=M) V1 V2:=⟨o1,o2,o3,Nat.le_of_eq o4.symm,fun k _ hk=>o5 k hk⟩;clear o1 o2 o3 o4 o5;obtain⟨V3,hr3,h3,o1,o2,o3,o4,o5⟩:=Ru.ZE.store (P:=Tryz.prog) (t:=108) Qfb Tryz.underlying108 h2 ⟨2,rfl⟩ (by simp) (.func (.func 118) #[] #[.pointer (some ⟨b2,0,none⟩),.pointer (some ⟨bc,0,none⟩)]);have m3:Mv (fun q=>q=M) V2 V3:=⟨o1,o2,o3,Nat.le_of_eq o4.symm,fun k _ hk=>o5 k hk⟩;clear o1 o2 o3 o4 o5;obtain⟨V4,hr4,h4,o1,o2,o3,o4,o5⟩:=Ru.ZE.store (P:=Tryz.prog) (t:=108) Qfb Tryz.underlying108 h3 ⟨3,rfl⟩ (by simp) (.func (.func 120) #[] #[.pointer (some ⟨b1,0,none⟩),.pointer (some ⟨b2,0,none⟩)]);have m4:Mv (fun q=>q=M) V3 V4:=⟨o1,o2,o3,Nat.le_of_eq o4.symm,fun k _ hk=>o5 k hk⟩;clear o1 o2 o3 o4 o5;refine wp_region_lit ?_;refine listV rfl (Qs5 _) ?_;rw [hV0,hM];refine listV (v:=(.func (.func 113) #[] #[.pointer (some ⟨b1,0,none⟩)])) (w':=V0) rfl Kr ?_;refine Zj rfl (QcM (m:= .map (some M)) (k:= .int .u8 0) (v:=(.func (.func 113) #[] #[.pointer (some ⟨b1,0,none⟩)])) Kr Kr Kr hr1) ?_;refine listV (v:=(.func (.func 114) #[] #[.pointer (some ⟨bc,0,none⟩),.pointer (some ⟨b2,0,none⟩)])) (w':=V1) rfl Kr ?_;refine Zj rfl (QcM (m:= .map (some M)) (k:= .int .u8 1) (v:=(.func (.func 114) #[] #[.pointer (some ⟨bc,0,none⟩),.pointer (some ⟨b2,0,none⟩)])) Kr Kr Kr hr2) ?_;refine listV (v:=(.func (.func 118) #[] #[.pointer (some ⟨b2,0,none⟩),.pointer (some ⟨bc,0,none⟩)])) (w':=V2) rfl Kr ?_;refine Zj rfl (QcM (m:= .map (some M)) (k:= .int .u8 2) (v:=(.func (.func 118) #[] #[.pointer (some ⟨b2,0,none⟩),.pointer (some ⟨bc,0,none⟩)])) Kr Kr Kr hr3) ?_;refine listV (v:=(.func (.func 120) #[] #[.pointer (some ⟨b1,0,none⟩),.pointer (some ⟨b2,0,none⟩)])) (w':=V3) rfl Kr ?_;refine Zj rfl (QcM (m:= .map (some M)) (k:= .int .u8 3) (v:=(.func (.func 120) #[] #[.pointer (some ⟨b1,0,none⟩),.pointer (some ⟨b2,0,none⟩)])) Kr Kr Kr hr4) ?_;refine listV (v:= .map (some M)) (w':=V4) rfl Kr ?_;refine listV (v:= .map (some M)) (w':=V4) rfl Kr ?_;refine wpList_nil ?_;have m:Mv (fun q=>q=M) V0 V4:=((m1.trans m2).trans m3).trans m4;have HC:=Xh (show Ext w V4∧RowZ V4 b1 (acv x)∧RowZ V4 b2 #[.pointer (some ⟨Ba,0,none⟩)]∧RowZ V4 bc #[.func (.func 112) #[] #[.pointer (some ⟨b2,0,none⟩)]]from⟨Mv.ext_of (E.tr g0) m (fun q e=>by omega),(rx.ext g0).mv m Om,(rb.ext g0).mv m Om,(rc.ext g0).mv m Om⟩);have HM:=Xh h4;clear h0 h1 h2 h3 h4 hr1 hr2 hr3 hr4 m1 m2 m3 m4 m g0 hV0 E rx rb rc;go_simp;go_wp2;obtain⟨E,rx,rb,rc⟩:=HC.out;go_ret;exact⟨.map (some M),b1,b2,bc,rfl,⟨⟨M,_,rfl,HM.out,by simp,by simp,by simp,by simp⟩,rx,rb,rc,Om,Om,Om⟩,E⟩
theorem QqS(h0:RowZ w B cs)(h3:cs.size=3)(hC: ¬C B)
  (hx:ρ q= .pointer (some ⟨B,0,none⟩)): ∀w',Mv C w w'→(execOp ρ ⟨dst,.load 42 q,ty,pos,after,g⟩).run Tryz.prog w'= .ok (.value (.agg cs)) w':=by
 intro w' hE;have h1:=h0.mv hE hC;have e:=QcJ ρ dst q ty pos after g w' (by rw [hx];rfl) (by rw [hx];show Fits 0 3 (Qc w' B);rw [h1.r];unfold Fits;omega);rw [e,hx];show Result.ok (Next.value (Value.agg (QB (Qc w' B) 0 3))) w'=_;rw [h1.r,Q9 _ 3 h3]
theorem QqT{id:Nat}{Q:Exit→Act→World→Prop}{a:Act}{b6 b7:Nat}{o:Ag}{d:Dn}(h6:a.eval (.tmp 6)= .pointer (some ⟨b6,0,none⟩))(h7:a.eval (.tmp 7)= .pointer (some ⟨b7,0,none⟩))(hz:a.tmps.size=128)(r6:RowZ w b6 (agv o))(r7:RowZ w b7 (dnv d))
  (H: ∀a' w',Ext w w'→RowZ w' b6 (agv o)→RowZ w' b7 (dnv d)→a'.eval (.tmp 6)= .pointer (some ⟨b6,0,none⟩)→a'.eval (.tmp 7)= .pointer (some ⟨b7,0,none⟩)→a'.defers=a.defers→Q .normal a' w'):(Code.region id #[⟨some 124,.load 27 (.tmp 6),27, "agent.go:124",#[],none⟩,⟨some 125,.load 42 (.tmp 7),42, "agent.go:124",#[⟨2,.gcOnly .lateStores⟩],none⟩,⟨none,.store 27 (.tmp 6) (.tmp 124),0, "agent.go:124",#[⟨0,.data⟩,⟨0,.phase⟩,⟨1,.textOnly .lateStores⟩],none⟩,⟨none,.store 42 (.tmp 7) (.tmp 125),0, "agent.go:124",#[⟨1,.data⟩,⟨2,.chain⟩,⟨0,.phase⟩,⟨1,.phase⟩,⟨2,.phase⟩],none⟩] true).wp Tryz.prog Q a w:=by
 refine wp_region_quiet (C:=fun w'=>Ext w w'∧RowZ w' b6 (agv o)∧RowZ w' b7 (dnv d)) Kr Kr ⟨Ext.dr (Ext.rf w),r6.ext (Ext.dr (Ext.rf w)),r7.ext (Ext.dr (Ext.rf w))⟩ ?_;refine QaD (.agg (agv o)) rfl (fun w' hw=>Zx (C:=fun _=>False) hw.2.1 (fun h=>h) h6 _ (Mv.refl _ _)) ?_;refine QaD (.agg (dnv d)) rfl (fun w' hw=>QqS (C:=fun _=>False) hw.2.2 rfl (fun h=>h) (by rw [QI Dc];exact h7) _ (Mv.refl _ _)) ?_;refine Qdk rfl (fun w' hw=>(Ze (B:=b6) (cs:=agv o) (by rw [hw.2.1.r];exact Qg) hw.2.1.z Qg Zr (by rw [QI Dc,QI Dc];exact h6) (by rw [QI Dc];exact QaC Om)).trans (by rw [Qac hw.2.1])) ?_;refine Qdk rfl (fun w' hw=>(Yq (B:=b7) (cs:=dnv d) (by rw [hw.2.2.r];rfl) hw.2.2.z rfl (by simp [go_sem,dnv]) (by show Act.eval _ _=_;rw [QI Dc,QI Dc];exact h7) (QaC (by rw [Zy];omega))).trans (by rw [Qac hw.2.2])) ?_;refine wpQuiet_nil fun w' hw=>H _ w' hw.1 hw.2.1 hw.2.2 ?_ ?_ rfl
 ·show((a.put (some 124) _).put (some 125) _).eval _=_;rw [QI Dc,QI Dc];exact h6
 ·show((a.put (some 124) _).put (some 125) _).eval _=_;rw [QI Dc,QI Dc];exact h7
theorem JH{id:Nat}{Q:Exit→Act→World→Prop}{a:Act}{b6 b7:Nat}{o:Ag}{d:Dn}(h6:a.eval (.tmp 6)= .pointer (some ⟨b6,0,none⟩))(h7:a.eval (.tmp 7)= .pointer (some ⟨b7,0,none⟩))(hz:a.tmps.size=128)(r6:RowZ w b6 (agv o))(r7:RowZ w b7 (dnv d))
  (H: ∀a' w',Ext w w'→RowZ w' b6 (agv o)→RowZ w' b7 (dnv d)→a'.eval (.tmp 6)= .pointer (some ⟨b6,0,none⟩)→a'.eval (.tmp 7)= .pointer (some ⟨b7,0,none⟩)→a'.defers=a.defers→Q .normal a' w'):(Code.region id #[⟨some 126,.load 27 (.tmp 6),27, "agent.go:127",#[],none⟩,⟨some 127,.load 42 (.tmp 7),42, "agent.go:127",#[⟨2,.gcOnly .lateStores⟩],none⟩,⟨none,.store 27 (.tmp 6) (.tmp 126),0, "agent.go:127",#[⟨0,.data⟩,⟨0,.phase⟩,⟨1,.textOnly .lateStores⟩],none⟩,⟨none,.store 42 (.tmp 7) (.tmp 127),0, "agent.go:127",#[⟨1,.data⟩,⟨2,.chain⟩,⟨0,.phase⟩,⟨1,.phase⟩,⟨2,.phase⟩],none⟩] true).wp Tryz.prog Q a w:=by
 refine wp_region_quiet (C:=fun w'=>Ext w w'∧RowZ w' b6 (agv o)∧RowZ w' b7 (dnv d)) Kr Kr ⟨Ext.dr (Ext.rf w),r6.ext (Ext.dr (Ext.rf w)),r7.ext (Ext.dr (Ext.rf w))⟩ ?_;refine QaD (.agg (agv o)) rfl (fun w' hw=>Zx (C:=fun _=>False) hw.2.1 (fun h=>h) h6 _ (Mv.refl _ _)) ?_;refine QaD (.agg (dnv d)) rfl (fun w' hw=>QqS (C:=fun _=>False) hw.2.2 rfl (fun h=>h) (by rw [QI Dc];exact h7) _ (Mv.refl _ _)) ?_;refine Qdk rfl (fun w' hw=>(Ze (B:=b6) (cs:=agv o) (by rw [hw.2.1.r];exact Qg) hw.2.1.z Qg Zr (by rw [QI Dc,QI Dc];exact h6) (by rw [QI Dc];exact QaC Om)).trans (by rw [Qac hw.2.1])) ?_;refine Qdk rfl (fun w' hw=>(Yq (B:=b7) (cs:=dnv d) (by rw [hw.2.2.r];rfl) hw.2.2.z rfl (by simp [go_sem,dnv]) (by show Act.eval _ _=_;rw [QI Dc,QI Dc];exact h7) (QaC (by rw [Zy];omega))).trans (by rw [Qac hw.2.2])) ?_;refine wpQuiet_nil fun w' hw=>H _ w' hw.1 hw.2.1 hw.2.2 ?_ ?_ rfl
 ·show((a.put (some 126) _).put (some 127) _).eval _=_;rw [QI Dc,QI Dc];exact h6
 ·show((a.put (some 126) _).put (some 127) _).eval _=_;rw [QI Dc,QI Dc];exact h7
theorem Qk2{m:Ru.Md}{k f g:Int}{s n r:Bool}(hm:m.right=true)(hg:0≤g∧g≤2147483647)(h:(Ru.Qux m k f g s n r).d=3):
  (0≤(Ru.Qux m k f g s n r).t∧(Ru.Qux m k f g s n r).t<6)∧(1≤(Ru.Qux m k f g s n r).k∧(Ru.Qux m k f g s n r).k≤5)∧0≤(Ru.Qux m k f g s n r).g∧(Ru.Qux m k f g s n r).g≤2147483647:=by
 have hkn:Ru.QT m=m:=by unfold Ru.QT;rw [if_pos hm]
 have hp: ∀i:Int,(i=2∨i=3)→m.k=i→(0≤m.p∧m.p<6)∧1≤m.g∧m.g<2147483648:=fun i hi e=>by
  unfold Ru.Md.right Ru.Qg2 at hm;rw [e]at hm;rcases hi with rfl|rfl<;>grind
 obtain⟨x,hx⟩: ∃x,Ru.Qux m k f g s n r=x:=⟨_,rfl⟩;rw [hx]at h⊢;unfold Ru.Qux Ru.Quw Ru.Qau Ru.QeL Ru.Y4 Ru.Zs Ru.J9 at hx;rw [hkn]at hx;have hac:Ru.QlP r≠3:=by unfold Ru.QlP;cases r<;>decide
 have h2:=hp 2 (.inl rfl);have h3:=hp 3 (.inr rfl);clear hp hm hkn
 repeat' split at hx
 all_goals(subst hx;first|(exfalso;revert h;(first|exact fun h=>hac h|exact fun h=>absurd h Dc))|grind)
theorem Qmg:(Tryz.prog.info? 105).map (·.size)=some 5:=Kr
theorem QnJ{o:Nat}(h:o+5≤(Qc w b).size):(Instr.loadAt 105 (.pointer (some ⟨b,o,none⟩))).run Tryz.prog w= .ok (.agg ((Qc w b).extract o (o+5))) w:=by
 have:=run_loadAt_mid w b o 105 ((Qc w b).extract o (o+5)).toList _ (QC w b o (o+5)) Tryz.underlying105 rfl (by rw [Qmg];simp;omega)
 rwa [Array.toArray_toList]at this
@[go_sem ↓ high] theorem QcP(ρ:Operand→Value)(dst:Option Tmp)(x:Operand)(ty:TypeId)(pos:String)(after:Array Edge)(g:Option (Nat×Bool))(w:World)
  (hx:ρ x= .pointer (some ⟨Qb (ρ x),Qd (ρ x),none⟩))(h:Fits (Qd (ρ x)) 5 (Qc w (Qb (ρ x)))):
  (execOp ρ ⟨dst,.load 105 x,ty,pos,after,g⟩).run Tryz.prog w= .ok (.value (.agg (QB (Qc w (Qb (ρ x))) (Qd (ρ x)) 5))) w:=by
 unfold Fits at h;generalize hB:Qb (ρ x)=B at*;generalize hO:Qd (ρ x)=O at*;simp only [execOp,hx,Sem.run_bind,QnJ h,Result.andThen_ok,Sem.run_pure,QB]
@[go_sem ↓ high] theorem Quy{l:Option Nat}(w:World)
  (hx:ρ x= .pointer (some ⟨Qb (ρ x),Qd (ρ x),none⟩))(h:Fits (Qd (ρ x)) 5 (Qc w (Qb (ρ x)))):
  (Oper.semAt l ρ ⟨dst,.load 105 x,ty,pos,after,g⟩).run Tryz.prog w= .ok (.value (.agg (QB (Qc w (Qb (ρ x))) (Qd (ρ x)) 5))) w:=by rw [Oper.semAt_eq _ _ _ (fun c h=>by cases h)];exact QcP ρ dst x ty pos after g w hx h
@[go_sem ↓ high] theorem QbR(ρ:Operand→Value)(dst:Option Tmp)(x y:Operand)(ty:TypeId)(pos:String)(after:Array Edge)(g:Option (Nat×Bool))(w:World)
  (hx:ρ x= .pointer (some ⟨Qb (ρ x),Qd (ρ x),none⟩))(hy:ρ y= .agg (ρ y).cells)(hs:Qn (ρ y).cells 5)(h:Fits (Qd (ρ x)) 5 (Qc w (Qb (ρ x))))(hz:Qs w (Qb (ρ x))=(0,0))(h1:QK (ρ y).cells):
  (execOp ρ ⟨dst,.store 105 x y,ty,pos,after,g⟩).run Tryz.prog w= .ok .skip (Qe w (Qb (ρ x)) (Qd (ρ x)) (ρ y).cells):=by
 unfold Fits at h;unfold Qn at hs;generalize hB:Qb (ρ x)=B at*;generalize hO:Qd (ρ x)=O at*;generalize hC:(ρ y).cells=C at*;have hst:(Instr.storeAt 105 (.pointer (some ⟨B,O,none⟩)) (.agg C)).run Tryz.prog w= .ok () (Qe w B O C):=
  run_storeAt_mid w B O 105 C (fun j hj=>⟨by rw [Qa,Array.getElem?_eq_getElem Om];rfl,Ql hz _⟩) (by rw [Qmg,hs]) h1
 simp only [execOp,hx,hy,Sem.run_bind,hst,Result.andThen_ok,Sem.run_pure]
@[go_sem ↓ high] theorem Qs7{l:Option Nat}(w:World)
  (hx:ρ x= .pointer (some ⟨Qb (ρ x),Qd (ρ x),none⟩))(hy:ρ y= .agg (ρ y).cells)(hs:Qn (ρ y).cells 5)(h:Fits (Qd (ρ x)) 5 (Qc w (Qb (ρ x))))(hz:Qs w (Qb (ρ x))=(0,0))(h1:QK (ρ y).cells):
  (Oper.semAt l ρ ⟨dst,.store 105 x y,ty,pos,after,g⟩).run Tryz.prog w= .ok .skip (Qe w (Qb (ρ x)) (Qd (ρ x)) (ρ y).cells):=by rw [Oper.semAt_eq _ _ _ (fun c h=>by cases h)];exact QbR ρ dst x y ty pos after g w hx hy hs h hz h1
theorem Qi3(hs:(Qc w B).size=5)(hz:Qs w B=(0,0))(hcs:cs.size=5)(ho:QK cs)
  (hx:ρ x= .pointer (some ⟨B,0,none⟩))(hy:ρ y= .agg cs):(execOp ρ ⟨dst,.store 105 x y,ty,pos,after,g⟩).run Tryz.prog w= .ok .skip (Qe w B 0 cs):=by
 have e:=QbR ρ dst x y ty pos after g w (by rw [hx];rfl) (by rw [hy];rfl) (by rw [hy];exact hcs) (by rw [hx];show Fits 0 5 (Qc w B);unfold Fits;omega) (by rw [hx];exact hz) (by rw [hy];exact ho);rw [e,hx,hy];rfl
def Qae(x:Ru.Ac)(a:Ag)(c:Cm)(pl:List Int):Int×List Co×List Ev×List (List Int):=
 if x.d=0 then(x.x,a.xs,[],[])else if x.d=1 then(0,QfB a c,Qdq a c,[])else if x.d=2 then(0,JV a.xs c.pk.tu c.now,[⟨1,a.id,c.pk.tu⟩],[])
 else(0,a.xs,[],[ipB (QD (2,a.id)) (QD (2,x.t)) (Ym {c.o with ki:=x.k,ge:=x.g}) pl])
theorem Qhr(h0:RowZ w B cs)(h5:cs.size=5)(hC: ¬C B)
  (hx:ρ q= .pointer (some ⟨B,0,none⟩)): ∀w',Mv C w w'→(execOp ρ ⟨dst,.load 105 q,ty,pos,after,g⟩).run Tryz.prog w'= .ok (.value (.agg cs)) w':=by
 intro w' hE;have h1:=h0.mv hE hC;have e:=QcP ρ dst q ty pos after g w' (by rw [hx];rfl) (by rw [hx];show Fits 0 5 (Qc w' B);rw [h1.r];unfold Fits;omega);rw [e,hx];show Result.ok (Next.value (Value.agg (QB (Qc w' B) 0 5))) w'=_;rw [h1.r,Q9 _ 5 h5]
theorem Qhs{P:Program}{ops:Array Oper}{D M:Nat→Prop}{r:Nat}{R:Value→World→Prop}{Q:Act→World→Prop}{N k m':Nat}{oi:Oper}{f:FuncId}{args:Array Value}{fuel:Nat}{a:Act}(hm:m|||(1<<<k)=m')(hi:ops[k]?=some oi)(hw:Region.wanted oi (yielded ops a.tmps)=true)
  (he:(execOp a.eval oi).run P w= .ok (.enter f args) w)(hc:Calls P f args w fun e w'=> ∃v,e= .returned v∧R v w'∧Mv M w w')(hr:r≤k∨ ∀q,M q→C q)(hD: ∀q,M q→D q)
  (H: ∀v w',Mv M w w'→R v w'→QP C D r P .any ops Q fuel (msk N m') (a.put oi.dst v) w'):QaX C D r P ops Q fuel N k m a w:=by
 refine⟨?_⟩;unfold Jj;simp only [hi,hw,if_true,he,hm];exact hc.mono fun e w' ⟨v,h1,h2,h3⟩=>⟨v,h1,⟨hr.imp id fun h=>h3.mono fun q _ e=>h q e,h3.mono fun q _ e=>hD q e⟩,H v w' h3 h2⟩
theorem QAv{f:FuncId}{caps:Array Value}(hg: ∀args w,(callFunc f args).run Tryz.prog w= .ok (.enter f args) w){c:Operand}(tys:Array TypeId)(hc:ρ c= .func (.func f) #[] caps)(hx:ρ x=u)(w:World):
  (execOp ρ ⟨dst,.call ⟨.value c,#[x],tys⟩,ty,pos,after,g⟩).run Tryz.prog w= .ok (.enter f (#[u]++caps)) w:=by
 simp [execOp,resolve,hc,hx,Deferred.ofValue,invoke,Result.andThen,hg]
theorem Qbz{f:Value→Option Value}{n:Int}(h:Ru.ZE (fun x=> ∃n:Int,x= .int .u8 n) w B f)(hv:f (.int .u8 n)=some v)(hx:ρ x= .map (some B))(hy:ρ y= .int .u8 n):
  (execOp ρ ⟨dst,.lookup 108 x y false,ty,pos,after,g⟩).run Tryz.prog w= .ok (.value v) w:=by
 have h1:=h.look Qfb Tryz.underlying108 ⟨n,rfl⟩ .nilFunc (by simp [go_sem]);rw [hv]at h1;simp [execOp,hx,hy,h1,Result.andThen]
theorem Qk3{x:Ru.Ac}{a b:Ag}{c d:Cm}{pl:List Int}(h1:b.xs=a.xs)(h2:b.id=a.id)(h3:d.pk=c.pk)(h4:d.now=c.now)(h5:d.o=c.o):Qae x b d pl=Qae x a c pl:=by
 unfold Qae QfB Qdq QcL;rw [h1,h2,h3,h4,h5]
theorem Qga{a:Ag}(h:agR a=true)(k:Nat)(hk:k<16):(toR (a.md k)).right=true:=by
 unfold agR at h;simp only [Bool.and_eq_true,List.all_eq_true,List.mem_range]at h;have:=h.1.2 k hk;unfold Qdd at this;simp only [Bool.and_eq_true]at this;exact this.1
theorem QvW{a:Ag}(h:agR a=true):0≤a.id∧a.id<6:=(QiK h).2.2.imp_right fun h=>h.1
theorem Qs8{o:Opt}(h:ZO o=true):0≤o.ge∧o.ge≤2147483647:=by
 unfold ZO J4 QeG at h;simp only [List.all_cons,List.all_nil,Bool.and_eq_true,decide_eq_true_eq]at h
 grind
theorem Qs9{m:Ru.Md}{k f g:Int}{s n r:Bool}:(Ru.Qux m k f g s n r).d=0∨(Ru.Qux m k f g s n r).d=1∨(Ru.Qux m k f g s n r).d=2∨(Ru.Qux m k f g s n r).d=3:=by
 obtain⟨x,hx⟩: ∃x,Ru.Qux m k f g s n r=x:=⟨_,rfl⟩;rw [hx];unfold Ru.Qux Ru.Quw Ru.Qau Ru.QeL Ru.Y4 Ru.Zs at hx;have hac:Ru.QlP r=2∨Ru.QlP r=0:=by unfold Ru.QlP;cases r<;>decide
 repeat' split at hx
 all_goals(subst hx;first|exact .inl rfl|exact .inr (.inl rfl)|exact .inr (.inr (.inr rfl))|(rcases hac with h|h;exact .inr (.inr (.inl h));exact .inl h))
def Qi4(x:Ru.Ac)(Ba:Nat)(v:Value)(w':World):Prop:= ∃b1 b2 bc,Qdr w' v x Ba b1 b2 bc
theorem Qht(x:Ru.Ac)(Ba:Nat)(w:World)(lA:Ba<w.heap.size):Calls Tryz.prog 48 #[.pointer (some ⟨Ba,0,none⟩),.agg (acv x)] w fun e w'=> ∃v,e= .returned v∧Qi4 x Ba v w'∧Ext w w':=
 (QqR x Ba w lA).mono fun e w' ⟨m,b1,b2,bc,h1,h2,h3⟩=>⟨m,h1,⟨b1,b2,bc,h2⟩,h3⟩
def QqU(w:World)(Ba:Nat)(a:Ag)(dr:Int)(xs:List Co)(es:List Ev)(ss:List (List Int))(v:Value)(w':World):Prop:=
 ∃p c ep ec sp sc,v= .agg (dnv ⟨dr,ep,es.length,ec,sp,ss.length,sc⟩)∧RowZ w' Ba (agv {a with p:=p,xs:=xs,c:=c})∧SlC w' p xs∧SlE w' ep es∧SlBB w' sp ss∧
  (∀b off,p=some ⟨b,off,none⟩→w.heap.size≤b∨p=a.p)∧(∀b off,ep=some ⟨b,off,none⟩→w.heap.size≤b)∧(∀b off,sp=some ⟨b,off,none⟩→w.heap.size≤b)
theorem Qmh{f:Nat}{args:Array Value}{Ba:Nat}{a:Ag}{dr:Int}{xs:List Co}{es:List Ev}{ss:List (List Int)}(h:Calls Tryz.prog f args w (Qdp w Ba a dr xs es ss)):
  Calls Tryz.prog f args w fun e w'=> ∃v,e= .returned v∧QqU w Ba a dr xs es ss v w'∧Mv (fun q=>q=Ba) w w':=
 h.mono fun e w' ⟨p,c,ep,ec,sp,sc,h1,h2,h3,h4,h5,h6,h7,h8,h9⟩=>⟨_,h1,⟨p,c,ep,ec,sp,sc,rfl,h2,h3,h4,h5,h7,h8,h9⟩,h6⟩
theorem SlBB.mv3{A B:World}{b7:Nat}{bss:List (List Int)}(h:SlBB A p bss)(m:Mv (fun q=>q=b7) A B)(r:RowZ A b7 cs)(hb: ∀b off,p=some ⟨b,off,none⟩→b≠b7)(hl:cs.size≤3∧ ∀bs∈bss,3<bs.length):SlBB B p bss:=fun k hk=>by
 obtain⟨b,off,q,c,h1,h2,h3,h4⟩:=h k hk;have e:=Qf (m.same b h2 (hb b off h1));refine⟨b,off,q,c,h1,Xl h2 m.size,by rw [Qa,e,←Qa];exact h3,h4.mvg m fun b' off' e' f=> ?_⟩;have f':b'=b7:=f;subst f';have hlen:=hl.2 _ (List.getElem_mem hk);obtain⟨b2,off2,e2,-,c2⟩:=h4 3 hlen;rw [e']at e2
 cases e2
 rw [Qa,r.r,Array.getElem?_eq_none Om]at c2
 cases c2
theorem SlBB.ext{A B:World}{bss:List (List Int)}(h:SlBB A p bss)(e:Ext A B):SlBB B p bss:=fun k hk=>by
 obtain⟨b,off,q,c,h1,h2,h3,h4⟩:=h k hk;exact⟨b,off,q,c,h1,Xl h2 e.size,(e.cell (p:=⟨b,off+k,none⟩) h2).trans h3,h4.ext e⟩
theorem QqV{sr ds:Int}{op pl:List Int}:3<(ipB sr ds op pl).length:=by
 have:(YO sr ds pl.length).length=10:=rfl;unfold ipB ipA;simp only [List.length_append,List.length_set,Jc,this];omega
theorem QnK{o:Opt}{k g:Int}(h:ZO o=true)(hk:1≤k∧k≤5)(hg:0≤g∧g≤2147483647):ZO {o with ki:=k,ge:=g}=true:=by
 unfold ZO J4 QeG at h⊢;simp only [List.all_cons,List.all_nil,Bool.and_eq_true,decide_eq_true_eq]at h⊢
 grind
def QAx(ops:Array Oper):Prop:=Region.noSelect ops=true∧Qo ops 8 [0,2,3,5] 0=true∧Rd ops 8 45 [1]∧Rd ops 8 47 [4]∧Rd ops 8 63 [6]∧Rd ops 8 127 [7]∧Rd ops 8 255 []
theorem QAw:QAx ((Tryz.f12.body.bind (Qh 21)).getD #[]):=⟨Kr,Kr,Rk,Rk,Rk,Rk,Rk⟩
theorem Qq0{id:Nat}{ops:Array Oper}{Q:Exit→Act→World→Prop}{v0 v1 v2 v3 v4 v5 v8 v9 v12 v13 v14 v15 v16 v17 v18 v19 v20 v21 v22 v23 v24 v25 v26 v27 v28 v29 v30 v31 v32 v33 v34 v35 v36 v37 v38 v39 v40 v41 v42 v43 v44 v45 v46 v47 v48 v49 v50 v51 v52 v53 v54 v55 v56 v57 v58 v59 v60 v61 v62 v63 v64 v65 v66 v67 v68 v69 v70 v71 v72 v73 v74 v75 v76 v77 v78 v79 v80 v81 v82 v83 v84 v85 v86 v87 v88 v89 v90 v91 v92 v93 v94 v95 v96 v97 v98 v99 v100 v101 v102 v103 v104 v105 v106 v107 v108 v109 v110 v111 v112 v113 v114 v115 v116 v117 v118 v119 v120 v121 v122 v123 v124 v125 v126 v127:Value}{df}{w0:World}{b6 b7 b10 b11:Nat}{o1:Ag}{c:Cm}{x:Ru.Ac}{pl:List Int}{rz:Array Value}(hops:ops=((Tryz.f12.body.bind (Qh 21)).getD #[]))
  (E:Ext w0 W)(l6:w0.heap.size≤b6)(l67:b6<b7)(l7:b7<b10)(l10:b10<b11)(ra:RowZ W b6 (agv o1))(rd:RowZ W b7 rz)(hrz:rz.size=3)(r10:RowZ W b10 (cmv c))(r11:RowZ W b11 (acv x))(sO:SlC W o1.p o1.xs)(hpO: ∀b off,o1.p=some ⟨b,off,none⟩→b10<b∧b<W.heap.size)(hl:o1.xs.length≤1000)
  (sq:SlB W c.ip pl)(hq: ∀b off,c.ip=some ⟨b,off,none⟩→b10<b∧b<W.heap.size)(hd:x.d=0∨x.d=1∨x.d=2∨x.d=3)
  (hs:x.d=3→(0≤o1.id∧o1.id<6)∧(0≤x.t∧x.t<6)∧(0≤x.k∧x.k<256)∧(0≤c.o.bu∧c.o.bu<256)∧ZO {c.o with ki:=x.k,ge:=x.g}=true∧c.iN≤1000∧(∃b off,c.ip=some ⟨b,off,none⟩)∧pl.length=c.iN∧c.iN≤c.ic∧ByR pl)
  (H: ∀a' w' p' c' ep ec sp sc,a'.eval (.tmp 6)= .pointer (some ⟨b6,0,none⟩)→a'.eval (.tmp 7)= .pointer (some ⟨b7,0,none⟩)→a'.tmps.size=128→a'.defers=df→RowZ w' b6 (agv {o1 with p:=p',xs:=(Qae x o1 c pl).2.1,c:=c'})→RowZ w' b7 (dnv ⟨(Qae x o1 c pl).1,ep,(Qae x o1 c pl).2.2.1.length,ec,sp,(Qae x o1 c pl).2.2.2.length,sc⟩)→SlC w' p' (Qae x o1 c pl).2.1→SlE w' ep (Qae x o1 c pl).2.2.1→SlBB w' sp (Qae x o1 c pl).2.2.2→Ext w0 w'→Q .normal a' w'):
  (Code.region id ops true).wp Tryz.prog Q ⟨#[v0,v1,v2,v3,v4,v5,.pointer (some ⟨b6,0,none⟩),.pointer (some ⟨b7,0,none⟩),v8,v9,.pointer (some ⟨b10,0,none⟩),.pointer (some ⟨b11,0,none⟩),v12,v13,v14,v15,v16,v17,v18,v19,v20,v21,v22,v23,v24,v25,v26,v27,v28,v29,v30,v31,v32,v33,v34,v35,v36,v37,v38,v39,v40,v41,v42,v43,v44,v45,v46,v47,v48,v49,v50,v51,v52,v53,v54,v55,v56,v57,v58,v59,v60,v61,v62,v63,v64,v65,v66,v67,v68,v69,v70,v71,v72,v73,v74,v75,v76,v77,v78,v79,v80,v81,v82,v83,v84,v85,v86,v87,v88,v89,v90,v91,v92,v93,v94,v95,v96,v97,v98,v99,v100,v101,v102,v103,v104,v105,v106,v107,v108,v109,v110,v111,v112,v113,v114,v115,v116,v117,v118,v119,v120,v121,v122,v123,v124,v125,v126,v127],df⟩ W:=by
 subst hops;have hne: ∀b off,o1.p=some ⟨b,off,none⟩→b≠b6:=fun b off e=>by have:=hpO b off e;omega
 have hD10: ¬(fun q=>q=b6∨q=b7) b10:=fun e=>e.elim Om Om;have hD11: ¬(fun q=>q=b6∨q=b7) b11:=fun e=>e.elim Om Om;have hsz:W.heap.size≤W.heap.size:=Nat.le_refl _;obtain⟨lo,hlo⟩: ∃n,W.heap.size=n:=⟨_,rfl⟩;have l11:b11<lo:=by rw [←hlo];exact r11.l
 rw [hlo]at hpO hq;have hsz:lo≤W.heap.size:=by omega
 clear hlo;refine Qy (fun _=>False) (fun q=>q=b6∨q=b7) 6 Kr ?_;obtain⟨W1,hW⟩: ∃Wdr,World.drew W=Wdr:=⟨_,rfl⟩;have gD:Ext W W1:=by rw [←hW];exact Ext.dr (Ext.rf _)
 rw [hW];clear hW;have E:=E.tr gD;have ra:=ra.ext gD;have rd:=rd.ext gD;have r10:=r10.ext gD;have r11:=r11.ext gD;have sO:=sO.ext gD;have sq:=sq.ext gD;have hsz:=Xt hsz gD.size;have HR:=Xh H;clear H;refine Zi (N:=8) (R:=QAx) (E:=((Tryz.f12.body.bind (Qh 21)).getD #[])) Kr QAw Kr fun hS=> ?_;have hT:=hS.2.1;refine tW 1 (.agg (acv x)) hS.1 hT rfl (Qhr r11 rfl hD11 Kr) fun hT=>tWk 5 (.pointer (some ⟨b11,0,none⟩)) hS.1 hT rfl fun hT=>tW 13 (.int .u8 x.d) hS.1 hT rfl (Yv (r11.cell 0 (by show 0<5;omega)) r11.l hD11 Kr) fun hT=>tW 45 (.agg (cmv c)) hS.1 hT rfl (Qce r10 hD10 Kr) fun hT=> ?_;refine sV 47 (Qi4 x b6) hS.2.2.1 rfl (Qht x b6 W1 ra.l) ?_;rintro vm WM1 gWM1 ⟨b1,b2,bc,WI⟩;have E:=E.tr gWM1;have ra:=ra.ext gWM1;have rd:=rd.ext gWM1;have r10:=r10.ext gWM1;have r11:=r11.ext gWM1;have sO:=sO.ext gWM1;have sq:=sq.ext gWM1;obtain⟨Bm,fm,rfl,HM,f0,f1,f2,f3⟩:=WI.is;have hsz:=Xt hsz gWM1.size;have hlt: ∀b off,o1.p=some ⟨b,off,none⟩→b<WM1.heap.size:=fun b off e=>by have:=hpO b off e;omega
 have hql: ∀b off,c.ip=some ⟨b,off,none⟩→b<WM1.heap.size:=fun b off e=>by have:=hq b off e;omega
 have HZ: ∃(F:Nat) (caps:Array Value),fm (.int .u8 x.d)=some (.func (.func F) #[] caps)∧(∀args w,(callFunc F args).run Tryz.prog w= .ok (.enter F args) w)∧Calls Tryz.prog F (#[.agg (cmv c)]++caps) WM1 (Qdp WM1 b6 o1 (Qae x o1 c pl).1 (Qae x o1 c pl).2.1 (Qae x o1 c pl).2.2.1 (Qae x o1 c pl).2.2.2)∧ ∀bs∈(Qae x o1 c pl).2.2.2,3<bs.length:=by
  rcases hd with hxd|hxd|hxd|hxd
  ·rw [show Qae x o1 c pl=_ from if_pos hxd];exact⟨_,#[.pointer (some ⟨b1,0,none⟩)],by rw [hxd];exact f0,enters_of Tryz.func113 Kr rfl,Z9 x c o1 b6 b1 WM1 ra WI.rx sO hlt,fun bs hb=>nomatch (show bs∈([]:List (List Int))from hb)⟩
  ·rw [show Qae x o1 c pl=_ from(if_neg Om).trans (if_pos hxd)];exact⟨_,#[.pointer (some ⟨bc,0,none⟩),.pointer (some ⟨b2,0,none⟩)],by rw [hxd];exact f1,enters_of Tryz.func114 Kr rfl,QiZ o1 c b6 b2 bc WM1 ⟨ra,WI.rb,WI.rc,sO,WI.ne.1,WI.ne.2.1⟩ hl hlt hne,fun bs hb=>nomatch (show bs∈([]:List (List Int))from hb)⟩
  ·rw [show Qae x o1 c pl=_ from(if_neg Om).trans ((if_neg Om).trans (if_pos hxd))];exact⟨_,#[.pointer (some ⟨b2,0,none⟩),.pointer (some ⟨bc,0,none⟩)],by rw [hxd];exact f2,enters_of Tryz.func118 Kr rfl,JC o1 c b6 b2 bc WM1 ⟨ra,WI.rb,WI.rc,sO,WI.ne.1,WI.ne.2.1⟩ hl,fun bs hb=>nomatch (show bs∈([]:List (List Int))from hb)⟩
  ·have hs:=hs hxd;rw [show Qae x o1 c pl=_ from(if_neg Om).trans ((if_neg Om).trans (if_neg Om))];exact⟨_,#[.pointer (some ⟨b1,0,none⟩),.pointer (some ⟨b2,0,none⟩)],by rw [hxd];exact f3,enters_of Tryz.func120 Kr rfl,J8 x c o1 b6 b1 b2 pl WM1 ra WI.rb WI.rx sO hlt hs.1 hs.2.1 hs.2.2.1 hs.2.2.2.1 hs.2.2.2.2.1 hs.2.2.2.2.2.1 (.inr hs.2.2.2.2.2.2.1) hs.2.2.2.2.2.2.2.1 hs.2.2.2.2.2.2.2.2.1 sq hs.2.2.2.2.2.2.2.2.2 hql,fun bs hb=>by rw [List.mem_singleton.1 hb];exact QqV⟩
 clear hs;clear hd hlt hql f0 f1 f2 f3;obtain⟨dr,rxs,res,rss,hw⟩: ∃dr rxs res rss,Qae x o1 c pl=(dr,rxs,res,rss):=⟨_,_,_,_,rfl⟩;rw [hw]at HZ;dsimp only at HZ;have HW:=Xh hw;clear hw;obtain⟨F,caps,HF,HE,HC,hss⟩:=HZ;have HSSL:rz.size≤3∧ ∀bs∈rss,3<bs.length:=⟨Nat.le_of_eq hrz,hss⟩;clear hss;refine Qr hS.2.2.2.1 (Zq (m':=63) (v:= .func (.func F) #[] caps) rfl rfl Kr (Qbz (n:=x.d) HM HF Kr Kr) ⟨.inr (Mv.refl _ _),Mv.refl _ _⟩ ?_);obtain⟨WM2,eWM2⟩: ∃N,WM1=N:=⟨_,rfl⟩;have gWM2:Ext WM1 WM2:=by rw [eWM2];exact Ext.rf _
 have WI:Qdr WM2 (.map (some Bm)) x b6 b1 b2 bc:=by rw [←eWM2];exact WI
 rw [eWM2]at HC⊢;clear HM HF;have E:=E.tr gWM2;have ra:=ra.ext gWM2;have rd:=rd.ext gWM2;have r10:=r10.ext gWM2;have r11:=r11.ext gWM2;have sO:=sO.ext gWM2;have sq:=sq.ext gWM2;have hsz:=Xt hsz gWM2.size;refine Qr hS.2.2.2.2.1 (Qhs (m':=127) (M:=fun q=>q=b6) (R:=QqU WM2 b6 o1 dr rxs res rss) rfl rfl Kr (QAv HE _ Kr Kr _) (Qmh HC) (.inl Dc) (fun q e=> .inl e) ?_);rintro vd WM3 hmv ⟨p',c',ep,ec,sp,sc,rfl,ra,sn,se,ss,hp',he',hs'⟩;have E:=Mv.ext_of E hmv (fun q e=>by omega);have rd:=rd.mv hmv Om;have r10:=r10.mv hmv Om;have r11:=r11.mv hmv Om;have sO:=sO.mvg hmv (fun b off e f=>by have:=hpO b off e;omega);have sq:=sq.mvg hmv (fun b off e f=>by have:=hq b off e;omega);have hsz:=Xt hsz hmv.size;have gWM3:=Ext.rf WM3;have E:=E.tr gWM3;have ra:=ra.ext gWM3;have rd:=rd.ext gWM3;have r10:=r10.ext gWM3;have r11:=r11.ext gWM3;have sO:=sO.ext gWM3;have sq:=sq.ext gWM3;refine Qr hS.2.2.2.2.2.1 (QE (m':=255) rfl rfl Kr (Yq (B:=b7) (cs:=(dnv ⟨dr,ep,res.length,ec,sp,rss.length,sc⟩)) (by rw [rd.r];exact hrz) rd.z rfl (by simp [go_sem,dnv]) Kr Kr) ⟨.inl Dc,(Mv.sa _ (.inr rfl) (Mv.refl _ _))⟩ ?_);obtain⟨WM4,hWM4⟩: ∃WM4,Qe WM3 b7 0 (dnv ⟨dr,ep,res.length,ec,sp,rss.length,sc⟩)=WM4:=⟨_,rfl⟩;have gS:Mv (fun q=>q=b7) WM3 WM4:=by rw [←hWM4];exact Mv.sa _ rfl (Mv.refl _ _)
 have ra:=ra.mv gS Om;have rd0:=rd;have rd:RowZ WM4 b7 (dnv ⟨dr,ep,res.length,ec,sp,rss.length,sc⟩):=by rw [←hWM4];exact rd.all _ hrz
 have E:=Mv.ext_of E gS (fun q e=>by omega);have sn:=sn.mvg gS (fun b off e f=>by rcases hp' b off e with h|h;omega;(rw [h]at e;have:=hpO b off e;omega));have se:=se.mvg gS (fun b off e f=>by have:=he' b off e;omega);have ss:=ss.mv3 gS rd0 (fun b off e f=>by have:=hs' b off e;omega) HSSL;rw [hWM4];clear hWM4;refine QZ hS.2.2.2.2.2.2 ?_;exact HR.out _ _ p' c' ep ec sp sc Kr Kr Kr rfl (by rw [HW.out];exact ra) (by rw [HW.out];exact rd) (by rw [HW.out];exact sn) (by rw [HW.out];exact se) (by rw [HW.out];exact ss) E
section
theorem Qmi:(Tryz.prog.info? 96).map (·.size)=some 6:=Kr
theorem QnL{o:Nat}(h:o+6≤(Qc w b).size):(Instr.loadAt 96 (.pointer (some ⟨b,o,none⟩))).run Tryz.prog w= .ok (.agg ((Qc w b).extract o (o+6))) w:=by
 have:=run_loadAt_mid w b o 96 ((Qc w b).extract o (o+6)).toList _ (QC w b o (o+6)) Tryz.underlying96 rfl (by rw [Qmi];simp;omega)
 rwa [Array.toArray_toList]at this
@[go_sem ↓ high] theorem QcQ(ρ:Operand→Value)(dst:Option Tmp)(x:Operand)(ty:TypeId)(pos:String)(after:Array Edge)(g:Option (Nat×Bool))(w:World)
  (hx:ρ x= .pointer (some ⟨Qb (ρ x),Qd (ρ x),none⟩))(h:Fits (Qd (ρ x)) 6 (Qc w (Qb (ρ x)))):
  (execOp ρ ⟨dst,.load 96 x,ty,pos,after,g⟩).run Tryz.prog w= .ok (.value (.agg (QB (Qc w (Qb (ρ x))) (Qd (ρ x)) 6))) w:=by
 unfold Fits at h;generalize hB:Qb (ρ x)=B at*;generalize hO:Qd (ρ x)=O at*;simp only [execOp,hx,Sem.run_bind,QnL h,Result.andThen_ok,Sem.run_pure,QB]
@[go_sem ↓ high] theorem Quz{l:Option Nat}(w:World)
  (hx:ρ x= .pointer (some ⟨Qb (ρ x),Qd (ρ x),none⟩))(h:Fits (Qd (ρ x)) 6 (Qc w (Qb (ρ x)))):
  (Oper.semAt l ρ ⟨dst,.load 96 x,ty,pos,after,g⟩).run Tryz.prog w= .ok (.value (.agg (QB (Qc w (Qb (ρ x))) (Qd (ρ x)) 6))) w:=by rw [Oper.semAt_eq _ _ _ (fun c h=>by cases h)];exact QcQ ρ dst x ty pos after g w hx h
@[go_sem ↓ high] theorem QfC(ρ:Operand→Value)(dst:Option Tmp)(x y:Operand)(ty:TypeId)(pos:String)(after:Array Edge)(g:Option (Nat×Bool))(w:World)
  (hx:ρ x= .pointer (some ⟨Qb (ρ x),Qd (ρ x),none⟩))(hy:ρ y= .agg (ρ y).cells)(hs:Qn (ρ y).cells 6)(h:Fits (Qd (ρ x)) 6 (Qc w (Qb (ρ x))))(hz:Qs w (Qb (ρ x))=(0,0))(h1:QK (ρ y).cells):
  (execOp ρ ⟨dst,.store 96 x y,ty,pos,after,g⟩).run Tryz.prog w= .ok .skip (Qe w (Qb (ρ x)) (Qd (ρ x)) (ρ y).cells):=by
 unfold Fits at h;unfold Qn at hs;generalize hB:Qb (ρ x)=B at*;generalize hO:Qd (ρ x)=O at*;generalize hC:(ρ y).cells=C at*;have hst:(Instr.storeAt 96 (.pointer (some ⟨B,O,none⟩)) (.agg C)).run Tryz.prog w= .ok () (Qe w B O C):=
  run_storeAt_mid w B O 96 C (fun j hj=>⟨by rw [Qa,Array.getElem?_eq_getElem Om];rfl,Ql hz _⟩) (by rw [Qmi,hs]) h1
 simp only [execOp,hx,hy,Sem.run_bind,hst,Result.andThen_ok,Sem.run_pure]
@[go_sem ↓ high] theorem Qta{l:Option Nat}(w:World)
  (hx:ρ x= .pointer (some ⟨Qb (ρ x),Qd (ρ x),none⟩))(hy:ρ y= .agg (ρ y).cells)(hs:Qn (ρ y).cells 6)(h:Fits (Qd (ρ x)) 6 (Qc w (Qb (ρ x))))(hz:Qs w (Qb (ρ x))=(0,0))(h1:QK (ρ y).cells):
  (Oper.semAt l ρ ⟨dst,.store 96 x y,ty,pos,after,g⟩).run Tryz.prog w= .ok .skip (Qe w (Qb (ρ x)) (Qd (ρ x)) (ρ y).cells):=by rw [Oper.semAt_eq _ _ _ (fun c h=>by cases h)];exact QfC ρ dst x y ty pos after g w hx hy hs h hz h1
attribute [local go_sem ↓ high] Qz Z1
def cm0(now:Int):Cm:=⟨(0,0),(0,0),⟨0,0,0,0,0,0⟩,none,0,0,⟨⟨0,0,0,0⟩,0,[]⟩,none,0,0,now⟩
@[go_sem] theorem QyV{c:Cm}:(cmv c).size=18:=rfl
@[go_sem] theorem QvX{c:Cm}:Qn (cmv c) 18=True:=eq_true rfl
@[go_sem ↓ high] theorem Qxj{c:Cm}:(Value.agg (cmv c)).cells=cmv c:=QF _
@[go_sem] theorem Qz4{c:Cm}:QK (cmv c):=by unfold cmv;simp [go_sem]
@[go_sem] theorem QuA{c:Cm}:QB (cmv c) 0 18=cmv c:=Q9 _ _ rfl
theorem QvY{c:Cm}(fr tn:Int×Int)(o:Opt)(p:Option Addr)(n k:Nat)(h:RowZ W b (cmv c)):RowZ (Qe W b 0 (wrV fr tn o (.slice p n k))) b (cmv {c with fr:=fr,tn:=tn,o:=o,ip:=p,iN:=n,ic:=k}):=by
 have r:=(((((((((((h.set 0 (.int .u8 fr.1)).set 1 (.int .i64 fr.2)).set 2 (.int .u8 tn.1)).set 3 (.int .i64 tn.2)).set 4 (.int .u8 o.ki)).set 5 (.int .u8 o.bu)).set 6 (.int .i64 o.cu)).set 7 (.int .i64 o.pv)).set 8 (.int .i64 o.ge)).set 9 (.int .i64 o.ti)).set 10 (.slice p n k));have hc:((((((((((((cmv c).setIfInBounds 0 (.int .u8 fr.1)).setIfInBounds 1 (.int .i64 fr.2)).setIfInBounds 2 (.int .u8 tn.1)).setIfInBounds 3 (.int .i64 tn.2)).setIfInBounds 4 (.int .u8 o.ki)).setIfInBounds 5 (.int .u8 o.bu)).setIfInBounds 6 (.int .i64 o.cu)).setIfInBounds 7 (.int .i64 o.pv)).setIfInBounds 8 (.int .i64 o.ge)).setIfInBounds 9 (.int .i64 o.ti)).setIfInBounds 10 (.slice p n k))=cmv {c with fr:=fr,tn:=tn,o:=o,ip:=p,iN:=n,ic:=k}:=Kr
 rw [hc]at r;have hW:Qe W b 0 (wrV fr tn o (.slice p n k))=(((((((((((W.setCell ⟨b,0,none⟩ (.int .u8 fr.1)).setCell ⟨b,1,none⟩ (.int .i64 fr.2)).setCell ⟨b,2,none⟩ (.int .u8 tn.1)).setCell ⟨b,3,none⟩ (.int .i64 tn.2)).setCell ⟨b,4,none⟩ (.int .u8 o.ki)).setCell ⟨b,5,none⟩ (.int .u8 o.bu)).setCell ⟨b,6,none⟩ (.int .i64 o.cu)).setCell ⟨b,7,none⟩ (.int .i64 o.pv)).setCell ⟨b,8,none⟩ (.int .i64 o.ge)).setCell ⟨b,9,none⟩ (.int .i64 o.ti)).setCell ⟨b,10,none⟩ (.slice p n k)):=Kr
 rw [hW];exact r
theorem QvZ{c:Cm}(t:Pk)(p:Option Addr)(n k:Nat)(h:RowZ W b (cmv c)):RowZ (Qe W b 11 (pkV t (.slice p n k))) b (cmv {c with pk:=t,bp:=p,bN:=n,bc:=k}):=by
 have r:=((((((h.set 11 (.int .u32 t.tu.a)).set 12 (.int .u32 t.tu.b)).set 13 (.int .u16 t.tu.c)).set 14 (.int .u16 t.tu.d)).set 15 (.int .u8 t.fl)).set 16 (.slice p n k));have hc:(((((((cmv c).setIfInBounds 11 (.int .u32 t.tu.a)).setIfInBounds 12 (.int .u32 t.tu.b)).setIfInBounds 13 (.int .u16 t.tu.c)).setIfInBounds 14 (.int .u16 t.tu.d)).setIfInBounds 15 (.int .u8 t.fl)).setIfInBounds 16 (.slice p n k))=cmv {c with pk:=t,bp:=p,bN:=n,bc:=k}:=Kr
 rw [hc]at r;have hW:Qe W b 11 (pkV t (.slice p n k))=((((((W.setCell ⟨b,11,none⟩ (.int .u32 t.tu.a)).setCell ⟨b,12,none⟩ (.int .u32 t.tu.b)).setCell ⟨b,13,none⟩ (.int .u16 t.tu.c)).setCell ⟨b,14,none⟩ (.int .u16 t.tu.d)).setCell ⟨b,15,none⟩ (.int .u8 t.fl)).setCell ⟨b,16,none⟩ (.slice p n k)):=Kr
 rw [hW];exact r
theorem Qtb{o:Nat}(hs:o+11≤(Qc w B).size)(hz:Qs w B=(0,0))(hcs:cs.size=11)(ho:QK cs)
  (hx:ρ x= .pointer (some ⟨B,o,none⟩))(hy:ρ y= .agg cs):(execOp ρ ⟨dst,.store 77 x y,ty,pos,after,g⟩).run Tryz.prog w= .ok .skip (Qe w B o cs):=by
 have e:=QbK ρ dst x y ty pos after g w (by rw [hx];rfl) (by rw [hy];rfl) (by rw [hy];exact hcs) (by rw [hx];show Fits o 11 (Qc w B);unfold Fits;omega) (by rw [hx];exact hz) (by rw [hy];exact ho);rw [e,hx,hy];rfl
theorem Qtc{o:Nat}(hs:o+6≤(Qc w B).size)(hz:Qs w B=(0,0))(hcs:cs.size=6)(ho:QK cs)
  (hx:ρ x= .pointer (some ⟨B,o,none⟩))(hy:ρ y= .agg cs):(execOp ρ ⟨dst,.store 81 x y,ty,pos,after,g⟩).run Tryz.prog w= .ok .skip (Qe w B o cs):=by
 have e:=JX ρ dst x y ty pos after g w (by rw [hx];rfl) (by rw [hy];rfl) (by rw [hy];exact hcs) (by rw [hx];show Fits o 6 (Qc w B);unfold Fits;omega) (by rw [hx];exact hz) (by rw [hy];exact ho);rw [e,hx,hy];rfl
theorem Qdt{n:Int}(hc:w.cell? ⟨B,i,none⟩=some u)(hf:w.frozen? ⟨B,i,none⟩=false)
  (hx:ρ x= .pointer (some ⟨B,i,none⟩))(hy:ρ y= .int .u8 n):(execOp ρ ⟨dst,.store 5 x y,ty,pos,after,g⟩).run Tryz.prog w= .ok .skip (w.setCell ⟨B,i,none⟩ (.int .u8 n)):=by
 simp only [execOp,hx,hy];go_simp
theorem Qtd{a b:Value}(h0:w.cell? ⟨B,i,none⟩=some a)(h1:w.cell? ⟨B,i+1,none⟩=some b)(hl:Lt B w)(hC: ¬C B)
  (hx:ρ x= .pointer (some ⟨B,i,none⟩)): ∀w',Mv C w w'→(execOp ρ ⟨dst,.load 73 x,ty,pos,after,g⟩).run Tryz.prog w'= .ok (.value (.agg #[a,b])) w':=by
 intro w' hE;have e:=Qf (hE.same B hl hC);have h0:w'.cell? ⟨B,i,none⟩=some a:=by rw [Qa,e,←Qa];exact h0
 have h1:w'.cell? ⟨B,i+1,none⟩=some b:=by rw [Qa,e,←Qa];exact h1
 simp only [execOp,hx];go_simp
theorem QnM{tn:Int×Int}{id:Int}{nb:Bool}(hn:decide (tn=(2,id))=!nb)(hx:ρ x= .agg #[.int .u8 tn.1,.int .i64 tn.2])(hy:ρ y= .agg #[.int .u8 2,.int .i64 id])(w:World):
  (execOp ρ ⟨dst,.binOp .neq 73 x y 73,ty,pos,after,g⟩).run Tryz.prog w= .ok (.value (.bool nb)) w:=by
 obtain⟨t1,t2⟩:=tn;simp only [execOp,hx,hy];go_simp
 by_cases h1:t1=2<;>by_cases h2:t2=id<;>cases nb<;>simp_all
theorem Qte{c:Cm}(h0:RowZ w B (cmv c))(hC: ¬C B)
  (hx:ρ q= .pointer (some ⟨B,11,none⟩)): ∀w',Mv C w w'→(execOp ρ ⟨dst,.load 81 q,ty,pos,after,g⟩).run Tryz.prog w'= .ok (.value (.agg (pkV c.pk (.slice c.bp c.bN c.bc)))) w':=by
 intro w' hE;have h1:=h0.mv hE hC;have e:=Qaq ρ dst q ty pos after g w' (by rw [hx];rfl) (by rw [hx];show Fits 11 6 (Qc w' B);rw [h1.r];unfold Fits;exact Nat.le_of_ble_eq_true rfl);rw [e,hx];show Result.ok (Next.value (Value.agg (QB (Qc w' B) 11 6))) w'=_;rw [h1.r,QnD]
theorem QbS(w:World):
  (execOp ρ ⟨dst,.alloc 105,ty,pos,after,g⟩).run Tryz.prog w= .ok (.value (.pointer (some ⟨w.heap.size,0,none⟩))) (w.alloc (.cells #[.int .u8 0,.int .u8 0,.int .u8 0,.int .i64 0,.int .i64 0] 105)):=Kr
theorem RowZ.of_heap{t:TypeId}(h:w.heap[b]?=some (.cells cs t)):RowZ w b cs:=
 ⟨by unfold Qc;rw [h],by unfold Qs;rw [h],(Array.getElem?_eq_some_iff.1 h).1⟩
theorem Qv0(h0:RowZ w B cs)(h6:cs.size=6)(hC: ¬C B)
  (hx:ρ q= .pointer (some ⟨B,0,none⟩)): ∀w',Mv C w w'→(execOp ρ ⟨dst,.load 96 q,ty,pos,after,g⟩).run Tryz.prog w'= .ok (.value (.agg cs)) w':=by
 intro w' hE;have h1:=h0.mv hE hC;have e:=QcQ ρ dst q ty pos after g w' (by rw [hx];rfl) (by rw [hx];show Fits 0 6 (Qc w' B);rw [h1.r];unfold Fits;omega);rw [e,hx];show Result.ok (Next.value (Value.agg (QB (Qc w' B) 0 6))) w'=_;rw [h1.r,Q9 _ 6 h6]
theorem QnN(hi:i<16)(ρ:Operand→Value)(dst:Option Tmp)(x y:Operand)(ty:TypeId)(pos:String)(after:Array Edge)(g:Option (Nat×Bool))(hx:ρ x= .pointer (some ⟨B,2,none⟩))(hy:ρ y= .int .i64 (i:Int))(w:World):
  (execOp ρ ⟨dst,.indexAddr 24 x y,ty,pos,after,g⟩).run Tryz.prog w= .ok (.value (.pointer (some ⟨B,2+i*4,none⟩))) w:=by
 simp only [execOp,hx,hy];go_simp;intro h;omega
theorem Qtf{n:Int}(hc:w.cell? ⟨B,i,none⟩=some u)(hf:w.frozen? ⟨B,i,none⟩=false)
  (hx:ρ x= .pointer (some ⟨B,i,none⟩))(hy:ρ y= .int .i64 n):(execOp ρ ⟨dst,.store 3 x y,ty,pos,after,g⟩).run Tryz.prog w= .ok .skip (w.setCell ⟨B,i,none⟩ (.int .i64 n)):=by
 simp only [execOp,hx,hy];go_simp
theorem Qk8{n:Bool}(hc:w.cell? ⟨B,i,none⟩=some u)(hf:w.frozen? ⟨B,i,none⟩=false)
  (hx:ρ x= .pointer (some ⟨B,i,none⟩))(hy:ρ y= .bool n):(execOp ρ ⟨dst,.store 4 x y,ty,pos,after,g⟩).run Tryz.prog w= .ok .skip (w.setCell ⟨B,i,none⟩ (.bool n)):=by
 simp only [execOp,hx,hy];go_simp
def QyW(bs:List Int)(W:World)(v:Value)(w':World):Prop:= ∃fr tn o q pl cq dr,v= .tuple #[.agg (wrV fr tn o (.slice q pl.length cq)),.int .u8 dr]∧Ext W w'∧((Qdb bs=none∧dr=13)∨(Qdb bs=some (fr,tn,o,pl)∧dr=0∧pl.length≤cq∧SlB w' q pl∧ ∀b off,q=some ⟨b,off,none⟩→W.heap.size≤b∧b<w'.heap.size))
def QyX(t:Pk):Bool:=bits .and .u8 t.fl 7==2
def inX(a:Ag)(fr:Int×Int)(o:Opt)(pl:List Int):Ru.Ac:=Ru.Qux (toR (a.md (ofT (pkI pl).tu).toNat)) o.ki (if fr.1=2 then fr.2 else-1) o.ge (QyX (pkI pl)) (okC a.xs (pkI pl).tu) (decide ((a.xs.length:Int)<32))
def inG(a:Ag)(now:Int):Bool:=agR a&&(decide (0≤now)&&decide (now≤1099511627776))
def inR(a:Ag)(bs:List Int)(now:Int):Int×List Co×List Ev×List (List Int):=
 if inG a now=false then(13,a.xs,[],[])
 else match Qdb bs with
  |none=>(13,a.xs,[],[])
  |some (fr,tn,o,pl)=>if tn≠(2,a.id)then(13,a.xs,[],[])else if Yw pl≠0 then(Yw pl,a.xs,[],[])else if ofT (pkI pl).tu≠o.bu then(14,a.xs,[],[])
   else Qae (inX a fr o pl) a ⟨fr,tn,o,none,0,0,pkI pl,none,0,0,now⟩ pl
theorem Qmj{bs:List Int}{fr tn:Int×Int}{o:Opt}{pl:List Int}(hr:ByR bs)(h:Qdb bs=some (fr,tn,o,pl)):ByR pl∧pl.length≤bs.length∧((0≤o.ki∧o.ki<256)∧(0≤o.bu∧o.bu<256)∧ZO o=true):=by
 unfold Qdb at h
 split at h
 ·rename_i h1
  split at h
  ·split at h
   ·simp only [Option.some.injEq,Prod.mk.injEq]at h;obtain⟨-,-,rfl,rfl⟩:=h;exact⟨(Yo hr).2,Qcz.2,Qiz (Yo hr).1 h1.2⟩
   ·cases h
  ·cases h
 ·cases h
theorem Qq1{pl:List Int}(hr:ByR pl):TuR (pkI pl).tu∧(0≤(pkI pl).fl∧(pkI pl).fl<256):=by
 unfold pkI
 split
 ·have hp:ByR (hdI pl).pl:=by
   unfold hdI
   split
   ·exact(Yo hr).2
   ·intro z hz;cases hz
  have hh:(0≤(hdI pl).sr∧(hdI pl).sr<4294967296)∧(0≤(hdI pl).ds∧(hdI pl).ds<4294967296):=by
   unfold hdI
   split
   ·have h1:=Z2 hr 12;have h2:=Z2 hr 14;have h3:=Z2 hr 16;have h4:=Z2 hr 18;unfold ipH;refine⟨⟨?_,?_⟩,?_,?_⟩<;>dsimp only<;>omega
   ·exact⟨⟨Dc,Dc⟩,Dc,Dc⟩
  generalize (hdI pl).pl=l at*;have ht: ∀s d:Int,(0≤(tcI s d l).sp∧(tcI s d l).sp<65536)∧(0≤(tcI s d l).dp∧(tcI s d l).dp<65536)∧(0≤(tcI s d l).fl∧(tcI s d l).fl<256):=fun s d=>by
   unfold tcI
   split
   ·exact⟨Z2 hp 0,Z2 hp 2,QaI hp 13⟩
   ·exact⟨⟨Dc,Dc⟩,⟨Dc,Dc⟩,Dc,Dc⟩
  exact⟨⟨hh.1,hh.2,(ht _ _).1,(ht _ _).2.1⟩,(ht _ _).2.2⟩
 ·exact⟨⟨⟨Dc,Dc⟩,⟨Dc,Dc⟩,⟨Dc,Dc⟩,Dc,Dc⟩,Dc,Dc⟩
def Qq2(pl:List Int)(W:World)(v:Value)(w':World):Prop:= ∃p n k,v= .tuple #[.agg (pkV (pkI pl) (.slice p n k)),.int .u8 (Yw pl)]∧Ext W w'
theorem Qtg{q:Option Addr}{pl:List Int}{cq:Nat}(hs:SlB W q pl)(hr:ByR pl)(hl:pl.length≤1000)(hlc:pl.length≤cq)(hq: ∀b off,q=some ⟨b,off,none⟩→b<W.heap.size):Calls Tryz.prog 42 #[.slice q pl.length cq] W fun e w'=> ∃v,e= .returned v∧Qq2 pl W v w':=
 (Qij q pl cq W hs hr hl hlc hq).mono fun e w' ⟨vb,h1,h2,p,k,h3,_⟩=>⟨_,h1,p,(pkI pl).by_.length,k,by rw [h3],h2⟩
def Qv1(w:World)(a:Ag)(r:Int×List Co×List Ev×List (List Int))(e:Ending)(w':World):Prop:=
 ∃p c ep ec sp sc,e= .returned (.tuple #[.agg (agv {a with p:=p,xs:=r.2.1,c:=c}),.agg (dnv ⟨r.1,ep,r.2.2.1.length,ec,sp,r.2.2.2.length,sc⟩)])∧SlC w' p r.2.1∧SlE w' ep r.2.2.1∧SlBB w' sp r.2.2.2∧Ext w w'
def Qq3(ops:Array Oper):Prop:=Region.noSelect ops=true∧Qo ops 12 [0,1,2,3,4,5,6,7,8] 0=true∧Rd ops 12 511 [9]∧Qo ops 12 [10] 1023=true∧Rd ops 12 2047 [11]∧Rd ops 12 4095 []
theorem Qk9:Qq3 ((Tryz.f12.body.bind (Qh 17)).getD #[]):=⟨Kr,Kr,Rk,Kr,Rk,Rk⟩
def Qmk(ops:Array Oper):Prop:=Region.noSelect ops=true∧Qo ops 8 [0,1,2,3,4] 0=true∧Rd ops 8 31 [5,6]∧Rd ops 8 63 [6]∧Rd ops 8 127 [7]∧Rd ops 8 255 []
theorem Qi5:Qmk ((Tryz.f12.body.bind (Qh 20)).getD #[]):=⟨Kr,Kr,Rk,Rk,Rk,Rk⟩
def Qml(ops:Array Oper):Prop:=Region.noSelect ops=true∧Qo ops 8 [0,1,2,3,4] 0=true∧Rd ops 8 31 [5,6]∧Rd ops 8 95 [5]∧Rd ops 8 127 [7]∧Rd ops 8 255 []
theorem Qi6:Qml ((Tryz.f12.body.bind (Qh 20)).getD #[]):=⟨Kr,Kr,Rk,Rk,Rk,Rk⟩
def Qq4(ops:Array Oper):Prop:=Qmk ops∧Qml ops
theorem Qla:Qq4 ((Tryz.f12.body.bind (Qh 20)).getD #[]):=⟨Qi5,Qi6⟩
def Qq5(ops:Array Oper):Prop:=Region.noSelect ops=true∧Qo ops 10 [0,1,3,4] 0=true∧Rd ops 10 27 [2]∧Qo ops 10 [6] 31=true∧Rd ops 10 95 [5]∧Rd ops 10 127 [7]∧Qo ops 10 [8] 255=true∧Rd ops 10 511 [9]∧Rd ops 10 1023 []
theorem Qlb:Qq5 ((Tryz.f12.body.bind (Qh 19)).getD #[]):=⟨Kr,Kr,Rk,Kr,Rk,Rk,Kr,Rk,Rk⟩
def Qq6(ops:Array Oper):Prop:=Region.noSelect ops=true∧Qv ops 12 [0,1,2,3,4,5,6,7,8,9,10,11] 0=true∧Rd ops 12 4095 []
theorem Qlc:Qq6 ((Tryz.f12.body.bind (Qh 8)).getD #[]):=⟨Kr,Kr,Rk⟩
def Qq7(ops:Array Oper):Prop:=Region.noSelect ops=true∧Qv ops 12 [0,1,2,3,4,5,6,7,8] 0=true∧Rd ops 12 511 [9]∧Qv ops 12 [10,11] 1023=true∧Rd ops 12 4095 []
theorem Qld:Qq7 ((Tryz.f12.body.bind (Qh 8)).getD #[]):=⟨Kr,Kr,Rk,Kr,Rk⟩
theorem Qq8(a:Ag)(bs:List Int)(pp:Option Addr)(cp:Nat)(now:Int)(w:World)(hs:SlC w a.p a.xs)(hl:a.xs.length≤1000)(hr: ∀x∈a.xs,TuR x.t)(hk: ∀k,k<16→0≤(a.md k).kind)
  (hb:SlB w pp bs)(hB:ByR bs)(hlb:bs.length≤1000)(hcp:bs.length≤cp):
  Calls Tryz.prog 12 #[.agg (agv a),.slice pp bs.length cp,.int .i64 now] w (Qv1 w a (inR a bs now)):=by
 have HOW:=Xh (fun W (hE:Ext w W)=>QcD a W (hs.ext hE) hl);have HRT:=Xh (fun W (hE:Ext w W)=>YX a W (hs.ext hE) hl hr hk);have HTK:=Xh (fun W (hE:Ext w W)=>QiA bs pp cp W (hb.ext hE) hB hlb hcp);have HK:=Xh hk;have HSA:=Xh (And.intro hs hl);have HBB:=Xh (And.intro hB hlb);obtain⟨r,er⟩: ∃r,inR a bs now=r:=⟨_,rfl⟩;rw [er];have HER:=Xh er;clear er hs hr hk hb hB
 go_enter Tryz.func12,Tryz.ntmps12
 go_upto_region 2 with(fail)
 obtain⟨W0,hW⟩: ∃W0,((w.alloc (.cells (agv a) 27)).alloc (.cells (agv agz) 27)).alloc (.cells #[.int .u8 0,.slice none 0 0,.slice none 0 0] 42)=W0:=⟨_,rfl⟩;have E:Ext w W0:=by rw [←hW];exact Ext.al (Ext.al Ea _) _
 have ra:RowZ W0 w.heap.size (agv a):=by rw [←hW];exact⟨by simp [go_sem],by simp [go_sem],by simp [go_sem,Lt]⟩
 have ro:RowZ W0 (w.heap.size+1) (agv agz):=by rw [←hW];exact⟨by simp [go_sem],by simp [go_sem],by simp [go_sem,Lt]⟩
 have rd:RowZ W0 (w.heap.size+1+1) #[.int .u8 0,.slice none 0 0,.slice none 0 0]:=by rw [←hW];exact⟨by simp [go_sem],by simp [go_sem],by simp [go_sem,Lt]⟩
 have hsz:W0.heap.size=w.heap.size+3:=by rw [←hW];simp
 rw [hW];clear hW;obtain⟨b3,e3⟩: ∃b,w.heap.size=b:=⟨_,rfl⟩;have HE3:=Xh e3;rw [e3]at ra ro rd hsz⊢;clear e3;obtain⟨b6,e6⟩: ∃b,b3+1=b:=⟨_,rfl⟩;rw [e6]at ro rd⊢;obtain⟨b7,e7⟩: ∃b,b6+1=b:=⟨_,rfl⟩;rw [e7]at rd⊢;refine Qp 0 rfl ?_
 go_upto_region 4 with(fail)
 obtain⟨b9,e9⟩: ∃b,b3+3=b:=⟨_,rfl⟩;obtain⟨b10,e10⟩: ∃b,b9+1=b:=⟨_,rfl⟩;rw [e9,e10];rw [e9]at hsz;obtain⟨V1,h1⟩: ∃V1,W0.alloc (.cells #[.int .u8 0,.int .i64 0,.int .i64 0,.bool false,.bool false,.bool false] 96)=V1:=⟨_,rfl⟩;have r9:RowZ V1 b9 #[.int .u8 0,.int .i64 0,.int .i64 0,.bool false,.bool false,.bool false]:=by rw [←h1,←hsz];exact RowZ.new _ _ _
 have g1:Ext W0 V1:=by rw [←h1];exact Ea
 have z1:V1.heap.size=b10:=by rw [←h1];simp;omega
 rw [h1];obtain⟨V2,h2⟩: ∃V2,Qe V1 b9 0 #[.int .u8 0,.int .i64 (-1),.int .i64 0,.bool false,.bool false,.bool false]=V2:=⟨_,rfl⟩;have r9:RowZ V2 b9 #[.int .u8 0,.int .i64 (-1),.int .i64 0,.bool false,.bool false,.bool false]:=by rw [←h2];exact r9.all _ rfl
 have g2:Ext W0 V2:=by rw [←h2];exact Mv.ext_of (C:=fun q=>q=b9) g1 (Mv.sa _ rfl (Mv.refl _ _)) (fun q e=>by omega)
 have z2:V2.heap.size=b10:=by rw [←h2,Qb2];exact z1
 rw [h2];obtain⟨V3,h3⟩: ∃V3,V2.alloc (.cells (cmv (cm0 0)) 98)=V3:=⟨_,rfl⟩;have r10:RowZ V3 b10 (cmv (cm0 0)):=by rw [←h3,←z2];exact RowZ.new _ _ _
 have g3:Ext V2 V3:=by rw [←h3];exact Ea
 have r9:=r9.ext g3;have h3':=h3;unfold cm0 cmv at h3';rw [h3'];obtain⟨V4,h4⟩: ∃V4,Qe V3 b10 0 (cmv (cm0 now))=V4:=⟨_,rfl⟩;have r10:RowZ V4 b10 (cmv (cm0 now)):=by rw [←h4];exact r10.all _ rfl
 have m4:Mv (fun q=>q=b10) V3 V4:=by rw [←h4];exact Mv.sa _ rfl (Mv.refl _ _)
 have r9:=r9.mv m4 Om;have g4:Ext W0 V4:=Mv.ext_of (g2.tr g3) m4 (fun q e=>by omega);have h4':=h4;unfold cm0 cmv at h4';rw [h4'];have ra:=ra.ext g4;have ro:=ro.ext g4;have rd:=rd.ext g4;have E4:=E.tr g4;have hz4:b10<V4.heap.size:=r10.l;clear h1 h2 h3 h4 h3' h4' g1 g2 g3 g4 m4 z1 z2 E hsz;have hr0:=ra.r;have HH:=Xh (And.intro ra (And.intro ro (And.intro rd (And.intro r9 (And.intro r10 E4)))));clear ra ro rd r9 r10
 go_upto_region 5 with(go_at_call 25;(refine(HOW.out _ E4).mono ?_);rintro e w1 ⟨p',c',rfl,o1⟩;have s1:=o1.own;have g1:=o1.ext;clear o1;have hrz:=(HH.out.2.1.ext g1).r;have hzz:=(HH.out.2.1.ext g1).z)
 obtain⟨o1,eo⟩: ∃o1,({a with p:=p',c:=c'}:Ag)=o1:=⟨_,rfl⟩;have HEO:=Xh eo;obtain⟨W5,h5⟩: ∃W5,Qe w1 b6 0 (agv {a with p:=p',c:=c'})=W5:=⟨_,rfl⟩;have m5:Mv (fun q=>q=b6) w1 W5:=by rw [←h5];exact Mv.sa _ rfl (Mv.refl _ _)
 obtain⟨ra,ro,rd,r9,r10,-⟩:=HH.out;have ra:=(ra.ext g1).mv m5 Om;have ro:RowZ W5 b6 (agv o1):=by rw [←h5,←eo];exact(ro.ext g1).all _ (by rw [Qg,Qg])
 have rd:=(rd.ext g1).mv m5 Om;have r9:=(r9.ext g1).mv m5 Om;have r10:=(r10.ext g1).mv m5 Om;have sO:SlC W5 p' a.xs:=by
  obtain⟨p,c,e,-,s⟩:=SlC.own (Qw s1 m5 (fun k hk e=>by omega))
  cases e;exact s
 have hpO: ∀b off,p'=some ⟨b,off,none⟩→b10<b∧b<W5.heap.size:=fun b off e=>by
  have h1:=Qi s1 b (by rw [e];rfl);have h2:=QbW s1 b (by rw [e];rfl);have h3:=m5.size;exact⟨Om,Om⟩
 have E5:Ext w W5:=Mv.ext_of (E4.tr g1) m5 (fun q e=>by have:=HE3.out;omega);rw [h5,eo];clear h5 eo m5 s1 g1 hrz hzz HH hr0 E4 hz4;have d0:W5.cell? ⟨b7,0,none⟩=some (.int .u8 0):=rd.cell 0 (by show 0<3;omega);have f0:W5.frozen? ⟨b7,0,none⟩=false:=rd.frz 0
 go_upto_region 6 with(fail)
 obtain⟨W6,h6⟩: ∃W6,W5.setCell ⟨b7,0,none⟩ (.int .u8 13)=W6:=⟨_,rfl⟩;have m6:Mv (fun q=>q=b7) W5 W6:=by rw [←h6];exact Mv.st _ (.inl rfl) (Mv.refl _ _)
 have rd:RowZ W6 b7 #[.int .u8 13,.slice none 0 0,.slice none 0 0]:=by rw [←h6];exact rd.set 0 _
 have ra:=ra.mv m6 Om;have ro:=ro.mv m6 Om;have r9:=r9.mv m6 Om;have r10:=r10.mv m6 Om;have sO:=sO.mvg m6 (fun b off e=>by have:=hpO b off e;omega);have E6:Ext w W6:=Mv.ext_of E5 m6 (fun q e=>by have:=HE3.out;omega);have hpO: ∀b off,p'=some ⟨b,off,none⟩→b10<b∧b<W6.heap.size:=fun b off e=>by have h1:=hpO b off e;have h3:=m6.size;exact⟨h1.1,Om⟩
 rw [h6];clear h6 m6 d0 f0 E5;have hra:=ra.r;have HH:=Xh (And.intro ra (And.intro ro (And.intro rd (And.intro r9 (And.intro r10 (And.intro sO hpO))))));clear ra ro rd r9 r10 sO hpO
 cases hG:inG a now
 ·have HG:inR a bs now=(13,a.xs,[],[]):=by unfold inR;rw [hG,if_pos rfl]
  have HG:=Xh HG
  cases hA:agR a
  ·rw [hA]at HRT;have HA:=Xh hA;clear hA hG
   go_wp2_with (go_at_call 22;(refine(HRT.out _ E6).mono ?_);rintro e w3 ⟨rfl,g3⟩)
   have HF:=Xh (show RowZ w3 b6 (agv o1)∧RowZ w3 b7 (dnv ⟨13,none,0,0,none,0,0⟩)∧SlC w3 p' a.xs∧Ext w w3 from⟨HH.out.2.1.ext g3,HH.out.2.2.1.ext g3,HH.out.2.2.2.2.2.1.ext g3,E6.tr g3⟩);clear hra;go_step3;refine⟨rfl,?_⟩
   go_upto_region 23 with(fail)
   refine JH (o:=o1) (d:=⟨13,none,0,0,none,0,0⟩) (b6:=b6) (b7:=b7) Kr Kr Kr HF.out.1 HF.out.2.1 ?_;intro a' w' e' r6 r7 q6 q7 hd;go_wp2;refine bodyPost_ret (ZL rfl _ _ b6 b7 q6 q7 (Yp r6.r) (Qad r7.r rfl)) hd ?_;rw [←HER.out,HG.out,←HEO.out];exact⟨p',c',none,0,none,0,rfl,HF.out.2.2.1.ext e',SlE.nil _ none,SlBB.nil _ none,HF.out.2.2.2.tr e'⟩
  ·rw [hA]at HRT;have hor:now<0∨(0≤now∧1099511627776<now):=by
    unfold inG at hG;rw [hA]at hG;simp only [Bool.true_and,Bool.and_eq_false_iff,decide_eq_false_iff_not]at hG;omega
   clear hA hG;rcases hor with h0|⟨h0,h1⟩
   ·have h0':decide (now<0)=true:=decide_eq_true h0;clear h0
    go_wp2_with (go_at_call 22;(refine(HRT.out _ E6).mono ?_);rintro e w3 ⟨rfl,g3⟩)
    have HF:=Xh (show RowZ w3 b6 (agv o1)∧RowZ w3 b7 (dnv ⟨13,none,0,0,none,0,0⟩)∧SlC w3 p' a.xs∧Ext w w3 from⟨HH.out.2.1.ext g3,HH.out.2.2.1.ext g3,HH.out.2.2.2.2.2.1.ext g3,E6.tr g3⟩);clear hra;go_step3;refine⟨rfl,?_⟩
    go_upto_region 23 with(fail)
    refine JH (o:=o1) (d:=⟨13,none,0,0,none,0,0⟩) (b6:=b6) (b7:=b7) Kr Kr Kr HF.out.1 HF.out.2.1 ?_;intro a' w' e' r6 r7 q6 q7 hd;go_wp2;refine bodyPost_ret (ZL rfl _ _ b6 b7 q6 q7 (Yp r6.r) (Qad r7.r rfl)) hd ?_;rw [←HER.out,HG.out,←HEO.out];exact⟨p',c',none,0,none,0,rfl,HF.out.2.2.1.ext e',SlE.nil _ none,SlBB.nil _ none,HF.out.2.2.2.tr e'⟩
   ·have h0':decide (now<0)=false:=decide_eq_false Om;have h1':decide (1099511627776<now)=true:=decide_eq_true h1;clear h0 h1
    go_wp2_with (go_at_call 22;(refine(HRT.out _ E6).mono ?_);rintro e w3 ⟨rfl,g3⟩)
    have HF:=Xh (show RowZ w3 b6 (agv o1)∧RowZ w3 b7 (dnv ⟨13,none,0,0,none,0,0⟩)∧SlC w3 p' a.xs∧Ext w w3 from⟨HH.out.2.1.ext g3,HH.out.2.2.1.ext g3,HH.out.2.2.2.2.2.1.ext g3,E6.tr g3⟩);clear hra;go_step3;refine⟨rfl,?_⟩
    go_upto_region 23 with(fail)
    refine JH (o:=o1) (d:=⟨13,none,0,0,none,0,0⟩) (b6:=b6) (b7:=b7) Kr Kr Kr HF.out.1 HF.out.2.1 ?_;intro a' w' e' r6 r7 q6 q7 hd;go_wp2;refine bodyPost_ret (ZL rfl _ _ b6 b7 q6 q7 (Yp r6.r) (Qad r7.r rfl)) hd ?_;rw [←HER.out,HG.out,←HEO.out];exact⟨p',c',none,0,none,0,rfl,HF.out.2.2.1.ext e',SlE.nil _ none,SlBB.nil _ none,HF.out.2.2.2.tr e'⟩
 have hA:agR a=true:=by unfold inG at hG;simp only [Bool.and_eq_true]at hG;exact hG.1
 rw [hA]at HRT;have h0':decide (now<0)=false:=by unfold inG at hG;simp only [Bool.and_eq_true,decide_eq_true_eq]at hG;exact decide_eq_false Om
 have h1':decide (1099511627776<now)=false:=by unfold inG at hG;simp only [Bool.and_eq_true,decide_eq_true_eq]at hG;exact decide_eq_false Om
 have HAG:=Xh (And.intro hA hG);clear hA hG
 go_upto_region 7 with(go_at_call 22;(refine(HRT.out _ E6).mono ?_);rintro e w3 ⟨rfl,g3⟩)
 have HTK2:Calls Tryz.prog 40 #[.slice pp bs.length cp] w3 fun e w'=> ∃v,e= .returned v∧QyW bs w3 v w':=(HTK.out _ (E6.tr g3)).mono fun e w' h=>by
  rcases h with⟨h1,h2,h3⟩|⟨fr,tn,o,pl,vp,h1,h2,h3,q,cq,h4,h5,h6,h7⟩
  ·exact⟨_,h2,(0,0),(0,0),⟨0,0,0,0,0,0⟩,none,[],0,13,rfl,h3,.inl ⟨h1,rfl⟩⟩
  ·exact⟨_,h2,fr,tn,o,q,pl,cq,0,by rw [h4],h3,.inr ⟨h1,rfl,h5,h6,h7⟩⟩
 obtain⟨ra,ro,rd,r9,r10,sO,hpO⟩:=HH.out;refine wp_region_lit ?_;refine listV (v:= .slice pp bs.length cp) (w':=w3) rfl Kr ?_;refine JS (f:=40) (args:=#[.slice pp bs.length cp]) rfl Kr HTK2 ?_;rintro v8 w8 ⟨fr,tn,o,q,pl,cq,dr,rfl,g8,hT⟩;have g38:=g3.tr g8;have ra:=ra.ext g38;have ro:=ro.ext g38;have rd:=rd.ext g38;have r9:=r9.ext g38;have r10:=r10.ext g38;have sO:=sO.ext g38;refine listV (v:= .tuple #[.agg (wrV fr tn o (.slice q pl.length cq)),.int .u8 dr]) (w':=w8) rfl Kr ?_;refine listV (v:= .agg (wrV fr tn o (.slice q pl.length cq))) (w':=w8) rfl Kr ?_;refine listV (v:= .int .u8 dr) (w':=w8) rfl Kr ?_;refine listV (v:= .pointer (some ⟨b10,0,none⟩)) (w':=w8) rfl Kr ?_;refine Zj rfl (Qtb (B:=b10) (o:=0) (cs:=wrV fr tn o (.slice q pl.length cq)) (by rw [r10.r];show 0+11≤18;omega) r10.z rfl (by unfold wrV;simp [go_sem]) Kr Kr) ?_;obtain⟨W8,h8⟩: ∃W8,Qe w8 b10 0 (wrV fr tn o (.slice q pl.length cq))=W8:=⟨_,rfl⟩;have m8:Mv (fun q=>q=b10) w8 W8:=by rw [←h8];exact Mv.sa _ rfl (Mv.refl _ _)
 obtain⟨c1,ec1⟩: ∃c1,({cm0 now with fr:=fr,tn:=tn,o:=o,ip:=q,iN:=pl.length,ic:=cq}:Cm)=c1:=⟨_,rfl⟩;have r10:RowZ W8 b10 (cmv c1):=by rw [←h8,←ec1];exact QvY fr tn o q pl.length cq r10
 have ra:=ra.mv m8 Om;have ro:=ro.mv m8 Om;have rd:=rd.mv m8 Om;have r9:=r9.mv m8 Om;have sO:=sO.mvg m8 (fun b off e=>by have:=hpO b off e;omega);rw [h8];refine listV (v:= .pointer (some ⟨b7,0,none⟩)) (w':=W8) rfl Kr ?_;refine Zj rfl (Qdt (B:=b7) (i:=0) (n:=dr) (rd.cell 0 (by show 0<3;omega)) (rd.frz 0) Kr Kr) ?_;refine wpList_nil ?_;obtain⟨W9,h9⟩: ∃W9,W8.setCell ⟨b7,0,none⟩ (.int .u8 dr)=W9:=⟨_,rfl⟩;have m9:Mv (fun q=>q=b7) W8 W9:=by rw [←h9];exact Mv.st _ (.inl rfl) (Mv.refl _ _)
 have rd:RowZ W9 b7 #[.int .u8 dr,.slice none 0 0,.slice none 0 0]:=by rw [←h9];exact rd.set 0 _
 have ra:=ra.mv m9 Om;have ro:=ro.mv m9 Om;have r9:=r9.mv m9 Om;have r10:=r10.mv m9 Om;have sO:=sO.mvg m9 (fun b off e=>by have:=hpO b off e;omega);rw [h9];have hw3:W6.heap.size≤w3.heap.size:=g3.size;have hz9:w8.heap.size≤W9.heap.size:=Xt m8.size m9.size;have hqO:dr=0→SlB W9 q pl∧(∀b off,q=some ⟨b,off,none⟩→b10<b)∧(∀b off,q=some ⟨b,off,none⟩→b<W9.heap.size):=fun h=>by
  rcases hT with⟨-,h1⟩|⟨-,-,-,h1,h2⟩
  ·exfalso;omega
  ·have hlo:b10<w3.heap.size:=by have:=HH.out.2.2.2.2.1.l;unfold Lt at this;omega
   have hlt: ∀b off,q=some ⟨b,off,none⟩→b10<b:=fun b off e=>by have:=h2 b off e;omega
   exact⟨(h1.mvg m8 (fun b off e f=>by have:=hlt b off e;omega)).mvg m9 (fun b off e f=>by have:=hlt b off e;omega),hlt,fun b off e=>by have:=(h2 b off e).2;omega⟩
 have E9:Ext w W9:=Mv.ext_of (Mv.ext_of (E6.tr g38) m8 (fun q e=>by have:=HE3.out;omega)) m9 (fun q e=>by have:=HE3.out;omega);have hpO: ∀b off,p'=some ⟨b,off,none⟩→b10<b∧b<W9.heap.size:=fun b off e=>by have h1:=hpO b off e;have:=g8.size;exact⟨h1.1,Om⟩
 have HEC:=Xh ec1;clear h8 h9 m8 m9 g8 g38 ec1 HH E6 hw3 hz9 HRT HTK hra h0' h1';rcases hT with⟨hN,rfl⟩|⟨hN,rfl,hcq,-,-⟩
 ·have HG:inR a bs now=(13,a.xs,[],[]):=by unfold inR;rw [HAG.out.2,if_neg Dc,hN]
  have HG:=Xh HG
  go_upto_region 8 with(fail)
  refine QO (fun _=>False) Kr ?_;obtain⟨WA,hW⟩: ∃Wdr,World.drew W9=Wdr:=⟨_,rfl⟩;have gD:Ext W9 WA:=by rw [←hW];exact Ext.dr (Ext.rf _)
  rw [hW];clear hW;have E9:=E9.tr gD;have ra:=ra.ext gD;have ro:=ro.ext gD;have rd:=rd.ext gD;have r9:=r9.ext gD;have r10:=r10.ext gD;have sO:=sO.ext gD;refine QaH (N:=12) (R:=Qq6) (E:=((Tryz.f12.body.bind (Qh 8)).getD #[])) Kr Qlc Kr fun hS=> ?_;have hT:=hS.2.1;refine tMk 1 (.pointer (some ⟨b7,0,none⟩)) hS.1 hT rfl fun hT=>tM 3 (.int .u8 13) hS.1 hT rfl (Yv (C:=fun _=>False) (rd.cell 0 (by show 0<3;omega)) rd.l (fun h=>h) Kr) fun hT=>tMk 7 (.bool true) hS.1 hT rfl fun hT=>tMk 15 (.bool true) hS.1 hT rfl fun hT=>tMU 31 hS.1 hT rfl fun hT=>tMU 63 hS.1 hT rfl fun hT=>tMU 127 hS.1 hT rfl fun hT=>tMU 255 hS.1 hT rfl fun hT=>tMU 511 hS.1 hT rfl fun hT=>tMU 1023 hS.1 hT rfl fun hT=>tMU 2047 hS.1 hT rfl fun hT=>tMk 4095 (.bool true) hS.1 hT rfl fun hT=> ?_;refine doneK hS.2.2 ?_;clear hS hT;go_simp;have d0:=rd.cell 0 (by show 0<3;omega);have f0:=rd.frz 0
  go_upto_region 9 with(fail)
  have rd8:=rd;refine wp_region_lit ?_;refine listV (v:= .pointer (some ⟨b7,0,none⟩)) (w':=WA) rfl Kr ?_;refine Zj rfl (Qdt (B:=b7) (i:=0) (n:=13) (rd.cell 0 (by show 0<3;omega)) (rd.frz 0) Kr Kr) ?_;refine wpList_nil ?_;obtain⟨W10,h10⟩: ∃W10,WA.setCell ⟨b7,0,none⟩ (.int .u8 13)=W10:=⟨_,rfl⟩;have m10:Mv (fun q=>q=b7) WA W10:=by rw [←h10];exact Mv.st _ (.inl rfl) (Mv.refl _ _)
  have HF:=Xh (show RowZ W10 b6 (agv o1)∧RowZ W10 b7 (dnv ⟨13,none,0,0,none,0,0⟩)∧SlC W10 p' a.xs∧Ext w W10 from⟨ro.mv m10 Om,by rw [←h10];exact rd.set 0 _,sO.mvg m10 (fun b off e=>by have:=hpO b off e;omega),Mv.ext_of E9 m10 (fun q e=>by have:=HE3.out;omega)⟩);rw [h10];clear h10 m10;clear rd8 ra ro rd r9 r10 sO E9 hpO d0 f0;go_simp;go_wp2;go_step3;refine⟨rfl,?_⟩
  go_upto_region 23 with(fail)
  refine JH (o:=o1) (d:=⟨13,none,0,0,none,0,0⟩) (b6:=b6) (b7:=b7) Kr Kr Kr HF.out.1 HF.out.2.1 ?_;intro a' w' e' r6 r7 q6 q7 hd;go_wp2;refine bodyPost_ret (ZL rfl _ _ b6 b7 q6 q7 (Yp r6.r) (Qad r7.r rfl)) hd ?_;rw [←HER.out,HG.out,←HEO.out];exact⟨p',c',none,0,none,0,rfl,HF.out.2.2.1.ext e',SlE.nil _ none,SlBB.nil _ none,HF.out.2.2.2.tr e'⟩
 obtain⟨nb,hnb⟩: ∃nb:Bool,decide (tn=(2,a.id))=!nb:=⟨!decide (tn=(2,a.id)),by simp⟩;obtain⟨sq,hq1,hq2⟩:=hqO rfl;obtain⟨lo9,hlo9⟩: ∃n,W9.heap.size=n:=⟨_,rfl⟩;rw [hlo9]at hq2 hpO;have z9:lo9≤W9.heap.size:=by omega
 clear hlo9 hqO
 go_upto_region 8 with(fail)
 refine QO (fun _=>False) Kr ?_;obtain⟨WA,hW⟩: ∃Wdr,World.drew W9=Wdr:=⟨_,rfl⟩;have gD:Ext W9 WA:=by rw [←hW];exact Ext.dr (Ext.rf _)
 rw [hW];clear hW;have E9:=E9.tr gD;have ra:=ra.ext gD;have ro:=ro.ext gD;have rd:=rd.ext gD;have r9:=r9.ext gD;have r10:=r10.ext gD;have sO:=sO.ext gD;have sq:=sq.ext gD;have z9:=Xt z9 gD.size;have r10c2:WA.cell? ⟨b10,2,none⟩=some (.int .u8 tn.1):=by have:=r10.cell 2 (by show 2<18;omega);rw [this,←HEC.out];rfl
 have r10c3:WA.cell? ⟨b10,2+1,none⟩=some (.int .i64 tn.2):=by have:=r10.cell 3 (by show 3<18;omega);rw [this,←HEC.out];rfl
 refine QaH (N:=12) (R:=Qq7) (E:=((Tryz.f12.body.bind (Qh 8)).getD #[])) Kr Qld Kr fun hS=> ?_;have hT:=hS.2.1;refine tMk 1 (.pointer (some ⟨b7,0,none⟩)) hS.1 hT rfl fun hT=>tM 3 (.int .u8 0) hS.1 hT rfl (Yv (C:=fun _=>False) (rd.cell 0 (by show 0<3;omega)) rd.l (fun h=>h) Kr) fun hT=>tMk 7 (.bool false) hS.1 hT rfl fun hT=>tMk 15 (.bool false) hS.1 hT rfl fun hT=>tMk 31 (.pointer (some ⟨b10,0,none⟩)) hS.1 hT rfl fun hT=>tMk 63 (.pointer (some ⟨b10,2,none⟩)) hS.1 hT rfl fun hT=>tM 127 (.agg #[.int .u8 tn.1,.int .i64 tn.2]) hS.1 hT rfl (Qtd (C:=fun _=>False) r10c2 r10c3 r10.l (fun h=>h) Kr) fun hT=>tMk 255 (.pointer (some ⟨b3,0,none⟩)) hS.1 hT rfl fun hT=>tM 511 (.int .i64 a.id) hS.1 hT rfl (Q0 (C:=fun _=>False) (ZQ ra.r) ra.l (fun h=>h) Kr) fun hT=> ?_;refine sM 1023 (fun v _=>v= .agg #[.int .u8 2,.int .i64 a.id]) hS.2.2.1 rfl (ZC (Qdc a.id WA)) ?_;rintro _ WB1 gWB1 rfl;have E9:=E9.tr gWB1;have ra:=ra.ext gWB1;have ro:=ro.ext gWB1;have rd:=rd.ext gWB1;have r9:=r9.ext gWB1;have r10:=r10.ext gWB1;have sO:=sO.ext gWB1;have sq:=sq.ext gWB1;have hT:=hS.2.2.2.1;refine tM 2047 (.bool nb) hS.1 hT rfl (fun w' _=>QnM hnb Kr Kr w') fun hT=>tMk 4095 (.bool nb) hS.1 hT rfl fun hT=> ?_;refine doneK hS.2.2.2.2 ?_;clear hS hT r10c2 r10c3;have z9:=Xt z9 gWB1.size
 cases nb
 ·have htn:tn=(2,a.id):=by simpa using hnb
  have HTN:=Xh htn;clear htn hnb;go_simp;have HEN:=Xh (Qmj HBB.out.1 hN);have HN:=Xh hN
  go_upto_region 10 with(fail)
  have HPK:Calls Tryz.prog 42 #[.slice q pl.length cq] WB1 fun e w'=> ∃v,e= .returned v∧Qq2 pl WB1 v w':=by
   refine Qtg sq HEN.out.1 (by have:=HEN.out.2.1;have:=HBB.out.2;omega) hcq ?_;exact fun b off e=>by have:=hq2 b off e;omega
  have c10:WB1.cell? ⟨b10,10,none⟩=some (.slice q pl.length cq):=by have:=r10.cell 10 (by show 10<18;omega);rw [this,←HEC.out];rfl
  refine wp_region_lit ?_;refine listV (v:= .pointer (some ⟨b10,0,none⟩)) (w':=WB1) rfl Kr ?_;refine listV (v:= .pointer (some ⟨b10,10,none⟩)) (w':=WB1) rfl Kr ?_;refine listV rfl (JY (C:=fun _=>False) c10 r10.l (fun h=>h) Kr _ (Mv.refl _ _)) ?_;refine JS (f:=42) (args:=#[.slice q pl.length cq]) rfl Kr HPK ?_;rintro v11 w11 ⟨pb,nb,kb,rfl,g11⟩;have E9:=E9.tr g11;have ra:=ra.ext g11;have ro:=ro.ext g11;have rd:=rd.ext g11;have r9:=r9.ext g11;have r10:=r10.ext g11;have sO:=sO.ext g11;have sq:=sq.ext g11;have z9:=Xt z9 g11.size;obtain⟨k,hk⟩: ∃k,pkI pl=k:=⟨_,rfl⟩;obtain⟨dr,hdr⟩: ∃dr,Yw pl=dr:=⟨_,rfl⟩;have HKD:=Xh (And.intro hk hdr);rw [hk,hdr];clear hk hdr;refine listV (v:= .tuple #[.agg (pkV k (.slice pb nb kb)),.int .u8 dr]) (w':=w11) rfl Kr ?_;refine listV (v:= .agg (pkV k (.slice pb nb kb))) (w':=w11) rfl Kr ?_;refine listV (v:= .int .u8 dr) (w':=w11) rfl Kr ?_;refine listV (v:= .pointer (some ⟨b10,11,none⟩)) (w':=w11) rfl Kr ?_;refine Zj rfl (Qtc (B:=b10) (o:=11) (cs:=pkV k (.slice pb nb kb)) (by rw [r10.r];show 11+6≤18;omega) r10.z rfl (by unfold pkV;simp [go_sem]) Kr Kr) ?_;obtain⟨W11,h11⟩: ∃W11,Qe w11 b10 11 (pkV k (.slice pb nb kb))=W11:=⟨_,rfl⟩;have m11:Mv (fun q=>q=b10) w11 W11:=by rw [←h11];exact Mv.sa _ rfl (Mv.refl _ _)
  obtain⟨c2,ec2⟩: ∃c2,({c1 with pk:=k,bp:=pb,bN:=nb,bc:=kb}:Cm)=c2:=⟨_,rfl⟩;have r10:RowZ W11 b10 (cmv c2):=by rw [←h11,←ec2];exact QvZ k pb nb kb r10
  have ra:=ra.mv m11 Om;have ro:=ro.mv m11 Om;have rd:=rd.mv m11 Om;have r9:=r9.mv m11 Om;have sO:=sO.mvg m11 (fun b off e=>by have:=hpO b off e;omega);have sq:=sq.mvg m11 (fun b off e=>by have:=hq1 b off e;omega);rw [h11];refine listV (v:= .pointer (some ⟨b7,0,none⟩)) (w':=W11) rfl Kr ?_;refine Zj rfl (Qdt (B:=b7) (i:=0) (n:=dr) (rd.cell 0 (by show 0<3;omega)) (rd.frz 0) Kr Kr) ?_;refine wpList_nil ?_;obtain⟨W12,h12⟩: ∃W12,W11.setCell ⟨b7,0,none⟩ (.int .u8 dr)=W12:=⟨_,rfl⟩;have m12:Mv (fun q=>q=b7) W11 W12:=by rw [←h12];exact Mv.st _ (.inl rfl) (Mv.refl _ _)
  have rd:RowZ W12 b7 #[.int .u8 dr,.slice none 0 0,.slice none 0 0]:=by rw [←h12];exact rd.set 0 _
  have ra:=ra.mv m12 Om;have ro:=ro.mv m12 Om;have r9:=r9.mv m12 Om;have r10:=r10.mv m12 Om;have sO:=sO.mvg m12 (fun b off e=>by have:=hpO b off e;omega);have sq:=sq.mvg m12 (fun b off e=>by have:=hq1 b off e;omega);have z9:=Xt (Xt z9 m11.size) m12.size;have E9:=Mv.ext_of (Mv.ext_of E9 m11 (fun q e=>by have:=HE3.out;omega)) m12 (fun q e=>by have:=HE3.out;omega);have HEC2:=Xh ec2;rw [h12];clear h11 h12 m11 m12 g11 ec2 c10 HPK;have d0:W12.cell? ⟨b7,0,none⟩=some (.int .u8 dr):=rd.cell 0 (by show 0<3;omega)
  cases hdz:decide (dr=0)
  ·have hdz':(dr==0)=false:=by simpa using hdz
   have HG:inR a bs now=(dr,a.xs,[],[]):=by
    have hne:dr≠0:=by simpa using hdz
    unfold inR;rw [HAG.out.2,if_neg Dc,HN.out];show(if tn≠(2,a.id)then _ else if Yw pl≠0 then _ else _)=_;rw [if_neg (by rw [HTN.out];exact fun h=>h rfl),HKD.out.2,if_pos hne]
   have HG:=Xh HG;have HF:=Xh (show RowZ W12 b6 (agv o1)∧RowZ W12 b7 (dnv ⟨dr,none,0,0,none,0,0⟩)∧SlC W12 p' a.xs∧Ext w W12 from⟨ro,rd,sO,E9⟩);clear ra ro rd r9 r10 sO sq E9 hpO hdz;go_simp;go_wp2;go_step3;refine⟨rfl,?_⟩
   go_upto_region 23 with(fail)
   refine JH (o:=o1) (d:=⟨dr,none,0,0,none,0,0⟩) (b6:=b6) (b7:=b7) Kr Kr Kr HF.out.1 HF.out.2.1 ?_;intro a' w' e' r6 r7 q6 q7 hd;go_wp2;refine bodyPost_ret (ZL rfl _ _ b6 b7 q6 q7 (Yp r6.r) (Qad r7.r rfl)) hd ?_;rw [←HER.out,HG.out,←HEO.out];exact⟨p',c',none,0,none,0,rfl,HF.out.2.2.1.ext e',SlE.nil _ none,SlBB.nil _ none,HF.out.2.2.2.tr e'⟩
  ·have hdz':dr=0:=by simpa using hdz
   subst hdz';clear hdz;go_simp;obtain⟨hTU,hFL⟩:=Qq1 HEN.out.1;rw [HKD.out.1]at hTU hFL;have HTUR:=Xh (And.intro hTU hFL);have ek2:c2.pk=k:=by rw [←HEC2.out]
   have eo2:c2.o=o:=by rw [←HEC2.out,←HEC.out]
   have ef2:c2.fr=fr:=by rw [←HEC2.out,←HEC.out]
   have en2:c2.now=now:=by rw [←HEC2.out,←HEC.out];rfl
   have HCE:=Xh (And.intro ek2 (And.intro eo2 (And.intro ef2 en2)));have t0:W12.cell? ⟨b10,11,none⟩=some (.int .u32 k.tu.a):=by rw [←ek2];exact r10.cell 11 (by show 11<18;omega)
   have t1:W12.cell? ⟨b10,12,none⟩=some (.int .u32 k.tu.b):=by rw [←ek2];exact r10.cell 12 (by show 12<18;omega)
   have t2:W12.cell? ⟨b10,13,none⟩=some (.int .u16 k.tu.c):=by rw [←ek2];exact r10.cell 13 (by show 13<18;omega)
   have t3:W12.cell? ⟨b10,14,none⟩=some (.int .u16 k.tu.d):=by rw [←ek2];exact r10.cell 14 (by show 14<18;omega)
   clear hTU hFL ek2 eo2 ef2 en2;have HR12:=Xh (And.intro ra (And.intro ro (And.intro rd (And.intro r9 (And.intro r10 (And.intro sO (And.intro sq E9)))))));clear ra ro rd r9 r10 sO sq E9;have HHO:=Xh (fun W=>QgC k.tu HTUR.out.1 W);have hbd:=QbY k.tu
   go_upto_region 13 with(go_at_call 43;(refine(HHO.out _).mono ?_);rintro e w13 ⟨rfl,g13⟩)
   obtain⟨ra,ro,rd,r9,r10,sO,sq,E9⟩:=HR12.out;have ra:=ra.ext g13;have ro:=ro.ext g13;have rd:=rd.ext g13;have r9:=r9.ext g13;have r10:=r10.ext g13;have sO:=sO.ext g13;have sq:=sq.ext g13;have E9:=E9.tr g13;have z9:=Xt z9 g13.size;refine wp_region_lit ?_;refine listV (v:= .pointer (some ⟨b7,0,none⟩)) (w':=w13) rfl Kr ?_;refine Zj rfl (Qdt (B:=b7) (i:=0) (n:=14) (rd.cell 0 (by show 0<3;omega)) (rd.frz 0) Kr Kr) ?_;refine wpList_nil ?_;obtain⟨W14,h14⟩: ∃W14,w13.setCell ⟨b7,0,none⟩ (.int .u8 14)=W14:=⟨_,rfl⟩;have m14:Mv (fun q=>q=b7) w13 W14:=by rw [←h14];exact Mv.st _ (.inl rfl) (Mv.refl _ _)
   have rd:RowZ W14 b7 #[.int .u8 14,.slice none 0 0,.slice none 0 0]:=by rw [←h14];exact rd.set 0 _
   have ra:=ra.mv m14 Om;have ro:=ro.mv m14 Om;have r9:=r9.mv m14 Om;have r10:=r10.mv m14 Om;have sO:=sO.mvg m14 (fun b off e=>by have:=hpO b off e;omega);have sq:=sq.mvg m14 (fun b off e=>by have:=hq1 b off e;omega);have z9:=Xt z9 m14.size;have E9:=Mv.ext_of E9 m14 (fun q e=>by have:=HE3.out;omega);rw [h14];clear h14 m14 g13 t0 t1 t2 t3 d0 HR12 HHO;have cb:W14.cell? ⟨b10,5,none⟩=some (.int .u8 o.bu):=by have:=r10.cell 5 (by show 5<18;omega);rw [this];show some (Value.int .u8 c2.o.bu)=_;rw [HCE.out.2.1]
   have hbu:0≤o.bu∧o.bu<256:=HEN.out.2.2.2.1;go_simp
   cases hbk:decide (ofT k.tu=o.bu)
   ·have hbk':(ofT k.tu==o.bu)=false:=by simpa using hbk
    have HG:inR a bs now=(14,a.xs,[],[]):=by
     have hne:ofT k.tu≠o.bu:=by simpa using hbk
     unfold inR;rw [HAG.out.2,if_neg Dc,HN.out];show(if tn≠(2,a.id)then _ else if Yw pl≠0 then _ else if ofT (pkI pl).tu≠o.bu then _ else _)=_;rw [if_neg (by rw [HTN.out];exact fun h=>h rfl),HKD.out.2,if_neg (fun h=>h rfl),HKD.out.1,if_pos hne]
    have HG:=Xh HG;have HF:=Xh (show RowZ W14 b6 (agv o1)∧RowZ W14 b7 (dnv ⟨14,none,0,0,none,0,0⟩)∧SlC W14 p' a.xs∧Ext w W14 from⟨ro,rd,sO,E9⟩);clear ra ro rd r9 r10 sO sq E9 hpO hbk;go_wp2;go_step3;refine⟨rfl,?_⟩
    go_upto_region 23 with(fail)
    refine JH (o:=o1) (d:=⟨14,none,0,0,none,0,0⟩) (b6:=b6) (b7:=b7) Kr Kr Kr HF.out.1 HF.out.2.1 ?_;intro a' w' e' r6 r7 q6 q7 hd;go_wp2;refine bodyPost_ret (ZL rfl _ _ b6 b7 q6 q7 (Yp r6.r) (Qad r7.r rfl)) hd ?_;rw [←HER.out,HG.out,←HEO.out];exact⟨p',c',none,0,none,0,rfl,HF.out.2.2.1.ext e',SlE.nil _ none,SlBB.nil _ none,HF.out.2.2.2.tr e'⟩
   ·have hbk':ofT k.tu=o.bu:=by simpa using hbk
    clear hbk;have cf0:W14.cell? ⟨b10,0,none⟩=some (.int .u8 fr.1):=by have:=r10.cell 0 (by show 0<18;omega);rw [this];show some (Value.int .u8 c2.fr.1)=_;rw [HCE.out.2.2.1]
    have cf1:W14.cell? ⟨b10,1,none⟩=some (.int .i64 fr.2):=by have:=r10.cell 1 (by show 1<18;omega);rw [this];show some (Value.int .i64 c2.fr.2)=_;rw [HCE.out.2.2.1]
    have c91:W14.cell? ⟨b9,1,none⟩=some (.int .i64 (-1)):=r9.cell 1 (by show 1<6;omega);have f91:W14.frozen? ⟨b9,1,none⟩=false:=r9.frz 1;obtain⟨fv,hfv⟩: ∃fv:Int,(if fr.1=2 then fr.2 else-1)=fv:=⟨_,rfl⟩;have HFV:=Xh hfv;have HR14:=Xh (And.intro ra (And.intro ro (And.intro rd (And.intro r9 (And.intro r10 (And.intro sO (And.intro sq E9)))))));clear ra ro rd r9 r10 sO sq E9 hfv;have h910:b10≠b9:=by omega
    go_upto_if 77 with(fail)
    have HBK:=Xh hbk';clear cb hbk'
    go_cut [78]from 78 to 83 (fun v wx=>RowZ wx b9 #[.int .u8 0,.int .i64 fv,.int .i64 0,.bool false,.bool false,.bool false]∧Mv (fun q=>q=b9) W14 wx)
    case first=>
     cases hf2:decide (fr.1=2)
     ·have hf2':(fr.1==2)=false:=by simpa using hf2
      have HV:=Xh (show fv= -1 by rw [←HFV.out,if_neg (by simpa using hf2)]);clear hf2
      go_wp2_with (fail)
      go_meet
      exact⟨by rw [HV.out];exact HR14.out.2.2.2.1,Mv.refl _ _⟩
     ·have hf2':fr.1=2:=by simpa using hf2
      have HV:=Xh (show fv=fr.2 by rw [←HFV.out,if_pos hf2']);have hf2b:(fr.1==2)=true:=by rw [hf2'];rfl
      clear hf2 hf2'
      go_wp2_with (fail)
      go_meet
      exact⟨by rw [HV.out];exact HR14.out.2.2.2.1.set 1 _,Mv.st _ (.inl rfl) (Mv.refl _ _)⟩
    case rest=>
     obtain⟨r9,m16⟩:=hcut;obtain⟨W16,hW16⟩: ∃W,wc=W:=⟨_,rfl⟩;rw [hW16]at r9 m16⊢;clear hW16 cf0 cf1 c91 f91;obtain⟨ra,ro,rd,-,r10,sO,sq,E9⟩:=HR14.out;have ra:=ra.mv m16 Om;have ro:=ro.mv m16 Om;have rd:=rd.mv m16 Om;have r10:=r10.mv m16 Om;have sO:=sO.mvg m16 (fun b off e=>by have:=hpO b off e;omega);have sq:=sq.mvg m16 (fun b off e=>by have:=hq1 b off e;omega);have z9:=Xt z9 m16.size;have E9:=Mv.ext_of E9 m16 (fun q e=>by have:=HE3.out;omega);clear HR14 m16;have h109: ¬b10=b9:=by omega
     go_upto_region 17 with(fail)
     refine Qy (fun _=>False) (fun q=>q=b9) 9 Kr ?_;obtain⟨WG,hW⟩: ∃Wdr,World.drew W16=Wdr:=⟨_,rfl⟩;have gD:Ext W16 WG:=by rw [←hW];exact Ext.dr (Ext.rf _)
     rw [hW];clear hW;have E9:=E9.tr gD;have ra:=ra.ext gD;have ro:=ro.ext gD;have rd:=rd.ext gD;have r9:=r9.ext gD;have r10:=r10.ext gD;have sO:=sO.ext gD;have sq:=sq.ext gD;have z9:=Xt z9 gD.size;refine Zi (N:=12) (R:=Qq3) (E:=((Tryz.f12.body.bind (Qh 17)).getD #[])) Kr Qk9 Kr fun hS=> ?_;have hT:=hS.2.1;refine tWk 1 (.pointer (some ⟨b10,0,none⟩)) hS.1 hT rfl fun hT=>tWk 3 (.pointer (some ⟨b10,4,none⟩)) hS.1 hT rfl fun hT=>tWk 7 (.pointer (some ⟨b10,4,none⟩)) hS.1 hT rfl fun hT=>tW 15 (.int .u8 c2.o.ki) hS.1 hT rfl (Yv (C:=fun q=>q=b9) (Q2 r10 4 (by show 4<18;omega)) r10.l h109 Kr) fun hT=>tWk 31 (.pointer (some ⟨b10,0,none⟩)) hS.1 hT rfl fun hT=>tWk 63 (.pointer (some ⟨b10,4,none⟩)) hS.1 hT rfl fun hT=>tWk 127 (.pointer (some ⟨b10,8,none⟩)) hS.1 hT rfl fun hT=>tW 255 (.int .i64 c2.o.ge) hS.1 hT rfl (Q0 (Q2 r10 8 (by show 8<18;omega)) r10.l h109 Kr) fun hT=>tWk 511 (.pointer (some ⟨b9,0,none⟩)) hS.1 hT rfl fun hT=> ?_;refine Qr hS.2.2.1 (QE (m':=1023) rfl rfl Kr (Qdt (B:=b9) (i:=0) (n:=c2.o.ki) (r9.cell 0 (by show 0<6;omega)) (r9.frz 0) Kr Kr) ⟨.inl Dc,(Mv.st _ (.inl rfl) (Mv.refl _ _))⟩ ?_);obtain⟨WH1,hWH1⟩: ∃WH1,World.setCell WG ⟨b9,0,none⟩ (.int .u8 c2.o.ki)=WH1:=⟨_,rfl⟩;have gS:Mv (fun q=>q=b9) WG WH1:=by rw [←hWH1];exact Mv.st _ (.inl rfl) (Mv.refl _ _)
     have r9:RowZ WH1 b9 #[.int .u8 c2.o.ki,.int .i64 fv,.int .i64 0,.bool false,.bool false,.bool false]:=by rw [←hWH1];exact r9.set 0 _
     have E9:=Mv.ext_of E9 gS (fun q e=>by have:=HE3.out;omega);have ra:=ra.mv gS Om;have ro:=ro.mv gS Om;have rd:=rd.mv gS Om;have r10:=r10.mv gS Om;have sO:=sO.mvg gS (fun b off e=>by have:=hpO b off e;omega);have sq:=sq.mvg gS (fun b off e=>by have:=hq1 b off e;omega);have z9:=Xt z9 gS.size;rw [hWH1];clear hWH1;have hT:=hS.2.2.2.1;refine tWk 2047 (.pointer (some ⟨b9,2,none⟩)) hS.1 hT rfl fun hT=> ?_;refine Qr hS.2.2.2.2.1 (QE (m':=4095) rfl rfl Kr (Qtf (B:=b9) (i:=2) (n:=c2.o.ge) (r9.cell 2 (by show 2<6;omega)) (r9.frz 2) Kr Kr) ⟨.inl Dc,(Mv.st _ (.inl rfl) (Mv.refl _ _))⟩ ?_);obtain⟨WH2,hWH2⟩: ∃WH2,World.setCell WH1 ⟨b9,2,none⟩ (.int .i64 c2.o.ge)=WH2:=⟨_,rfl⟩;have gS:Mv (fun q=>q=b9) WH1 WH2:=by rw [←hWH2];exact Mv.st _ (.inl rfl) (Mv.refl _ _)
     have r9:RowZ WH2 b9 #[.int .u8 c2.o.ki,.int .i64 fv,.int .i64 c2.o.ge,.bool false,.bool false,.bool false]:=by rw [←hWH2];exact r9.set 2 _
     have E9:=Mv.ext_of E9 gS (fun q e=>by have:=HE3.out;omega);have ra:=ra.mv gS Om;have ro:=ro.mv gS Om;have rd:=rd.mv gS Om;have r10:=r10.mv gS Om;have sO:=sO.mvg gS (fun b off e=>by have:=hpO b off e;omega);have sq:=sq.mvg gS (fun b off e=>by have:=hq1 b off e;omega);have z9:=Xt z9 gS.size;rw [hWH2];clear hWH2;refine QZ hS.2.2.2.2.2 ?_;clear hS hT
     go_upto_region 18 with(fail)
     have HFI:Calls Tryz.prog 44 #[.slice a.p a.xs.length a.c,.agg #[.int .u32 c2.pk.tu.a,.int .u32 c2.pk.tu.b,.int .u16 c2.pk.tu.c,.int .u16 c2.pk.tu.d]] WH2 fun e w'=> ∃v,e= .returned v∧(v= .tuple #[.int .i64 (atC a.xs c2.pk.tu),.bool (okC a.xs c2.pk.tu)]∧Ext WH2 w'):=
      (Qed c2.pk.tu a.p a.xs a.c WH2 (HSA.out.1.ext E9) HSA.out.2).mono fun e w' ⟨h1,h2⟩=>⟨_,h1,rfl,h2⟩
     refine wp_region_lit ?_;refine listV (v:= .pointer (some ⟨b3,66,none⟩)) (w':=WH2) rfl Kr ?_;refine listV rfl (QaB (C:=fun _=>False) (by rw [Qa,ra.r,Qu]) ra.l (fun h=>h) Kr _ (Mv.refl _ _)) ?_;refine listV (v:= .pointer (some ⟨b10,11,none⟩)) (w':=WH2) rfl Kr ?_;refine listV (v:= .pointer (some ⟨b10,11,none⟩)) (w':=WH2) rfl Kr ?_;refine listV rfl (Qe8 (C:=fun _=>False) (Q2 r10 11 (by show 11<18;omega)) (Q2 r10 12 (by show 12<18;omega)) (Q2 r10 13 (by show 13<18;omega)) (Q2 r10 14 (by show 14<18;omega)) r10.l (fun h=>h) Kr _ (Mv.refl _ _)) ?_;refine JS (f:=44) rfl Kr HFI ?_;rintro v18 w18 ⟨rfl,g18⟩;have E9:=E9.tr g18;have ra:=ra.ext g18;have ro:=ro.ext g18;have rd:=rd.ext g18;have r9:=r9.ext g18;have r10:=r10.ext g18;have sO:=sO.ext g18;have sq:=sq.ext g18;have z9:=Xt z9 g18.size;obtain⟨kn,hkn⟩: ∃kn,okC a.xs c2.pk.tu=kn:=⟨_,rfl⟩;have HKN:=Xh hkn;rw [hkn];clear hkn HFI;refine listV (v:= .tuple #[.int .i64 (atC a.xs c2.pk.tu),.bool kn]) (w':=w18) rfl Kr ?_;refine listV (v:= .int .i64 (atC a.xs c2.pk.tu)) (w':=w18) rfl Kr ?_;refine listV (v:= .bool kn) (w':=w18) rfl Kr ?_;refine listV (v:= .pointer (some ⟨b9,4,none⟩)) (w':=w18) rfl Kr ?_;refine Zj rfl (Qk8 (B:=b9) (i:=4) (n:=kn) (r9.cell 4 (by show 4<6;omega)) (r9.frz 4) Kr Kr) ?_;refine wpList_nil ?_;obtain⟨W18,h18⟩: ∃W18,w18.setCell ⟨b9,4,none⟩ (.bool kn)=W18:=⟨_,rfl⟩;have gS:Mv (fun q=>q=b9) w18 W18:=by rw [←h18];exact Mv.st _ (.inl rfl) (Mv.refl _ _)
     have r9:RowZ W18 b9 #[.int .u8 c2.o.ki,.int .i64 fv,.int .i64 c2.o.ge,.bool false,.bool kn,.bool false]:=by rw [←h18];exact r9.set 4 _
     have E9:=Mv.ext_of E9 gS (fun q e=>by have:=HE3.out;omega);have ra:=ra.mv gS Om;have ro:=ro.mv gS Om;have rd:=rd.mv gS Om;have r10:=r10.mv gS Om;have sO:=sO.mvg gS (fun b off e=>by have:=hpO b off e;omega);have sq:=sq.mvg gS (fun b off e=>by have:=hq1 b off e;omega);have z9:=Xt z9 gS.size;rw [h18];clear h18 g18 gS
     go_upto_region 19 with(fail)
     obtain⟨sy,hsy⟩: ∃sy,QyX c2.pk=sy:=⟨_,rfl⟩;obtain⟨rm,hrm⟩: ∃rm,decide ((a.xs.length:Int)<32)=rm:=⟨_,rfl⟩;have HSY:Hid (∀W,Cr 45 #[.agg (pkV c2.pk (.slice c2.bp c2.bN c2.bc))] W (.bool sy)):=Xh (fun W=>by rw [←hsy];exact Qs1 c2.pk c2.bp c2.bN c2.bc W);have HRM:Hid (∀W,Cr 46 #[.slice a.p a.xs.length a.c] W (.bool rm)):=Xh (fun W=>by rw [←hrm];exact(Qee a.p a.xs.length a.c W).mono fun e w' ⟨h1,h2⟩=>⟨h1,by rw [←h2];exact Ext.rf _⟩);have HSR:=Xh (And.intro hsy hrm);clear hsy hrm;have h39: ¬b3=b9:=by omega
     refine Qy (fun _=>False) (fun q=>q=b9) 7 Kr ?_;obtain⟨WI,hW⟩: ∃Wdr,World.drew W18=Wdr:=⟨_,rfl⟩;have gD:Ext W18 WI:=by rw [←hW];exact Ext.dr (Ext.rf _)
     rw [hW];clear hW;have E9:=E9.tr gD;have ra:=ra.ext gD;have ro:=ro.ext gD;have rd:=rd.ext gD;have r9:=r9.ext gD;have r10:=r10.ext gD;have sO:=sO.ext gD;have sq:=sq.ext gD;have z9:=Xt z9 gD.size;refine Zi (N:=10) (R:=Qq5) (E:=((Tryz.f12.body.bind (Qh 19)).getD #[])) Kr Qlb Kr fun hS=> ?_;have hT:=hS.2.1;refine tWk 1 (.pointer (some ⟨b10,11,none⟩)) hS.1 hT rfl fun hT=>tW 3 (.agg (pkV c2.pk (.slice c2.bp c2.bN c2.bc))) hS.1 hT rfl (Qte r10 h109 Kr) fun hT=>tWk 11 (.pointer (some ⟨b3,66,none⟩)) hS.1 hT rfl fun hT=>tW 27 (.slice a.p a.xs.length a.c) hS.1 hT rfl (QaB (C:=fun q=>q=b9) (by rw [Qa,ra.r,Qu]) ra.l h39 Kr) fun hT=> ?_;refine sV 31 (fun v _=>v= .bool sy) hS.2.2.1 rfl (ZC (HSY.out WI)) ?_;rintro _ WJ1 gWJ1 rfl;have E9:=E9.tr gWJ1;have ra:=ra.ext gWJ1;have ro:=ro.ext gWJ1;have rd:=rd.ext gWJ1;have r9:=r9.ext gWJ1;have r10:=r10.ext gWJ1;have sO:=sO.ext gWJ1;have sq:=sq.ext gWJ1;have z9:=Xt z9 gWJ1.size;have hT:=hS.2.2.2.1;refine tWk 95 (.pointer (some ⟨b9,3,none⟩)) hS.1 hT rfl fun hT=> ?_;refine sV 127 (fun v _=>v= .bool rm) hS.2.2.2.2.1 rfl (ZC (HRM.out WJ1)) ?_;rintro _ WJ2 gWJ2 rfl;have E9:=E9.tr gWJ2;have ra:=ra.ext gWJ2;have ro:=ro.ext gWJ2;have rd:=rd.ext gWJ2;have r9:=r9.ext gWJ2;have r10:=r10.ext gWJ2;have sO:=sO.ext gWJ2;have sq:=sq.ext gWJ2;have z9:=Xt z9 gWJ2.size;refine Qr hS.2.2.2.2.2.1 (QE (m':=255) rfl rfl Kr (Qk8 (B:=b9) (i:=3) (n:=sy) (r9.cell 3 (by show 3<6;omega)) (r9.frz 3) Kr Kr) ⟨.inl Dc,(Mv.st _ (.inl rfl) (Mv.refl _ _))⟩ ?_);obtain⟨WJ3,hWJ3⟩: ∃WJ3,World.setCell WJ2 ⟨b9,3,none⟩ (.bool sy)=WJ3:=⟨_,rfl⟩;have gS:Mv (fun q=>q=b9) WJ2 WJ3:=by rw [←hWJ3];exact Mv.st _ (.inl rfl) (Mv.refl _ _)
     have r9:RowZ WJ3 b9 #[.int .u8 c2.o.ki,.int .i64 fv,.int .i64 c2.o.ge,.bool sy,.bool kn,.bool false]:=by rw [←hWJ3];exact r9.set 3 _
     have E9:=Mv.ext_of E9 gS (fun q e=>by have:=HE3.out;omega);have ra:=ra.mv gS Om;have ro:=ro.mv gS Om;have rd:=rd.mv gS Om;have r10:=r10.mv gS Om;have sO:=sO.mvg gS (fun b off e=>by have:=hpO b off e;omega);have sq:=sq.mvg gS (fun b off e=>by have:=hq1 b off e;omega);have z9:=Xt z9 gS.size;rw [hWJ3];clear hWJ3;have hT:=hS.2.2.2.2.2.2.1;refine tWk 511 (.pointer (some ⟨b9,5,none⟩)) hS.1 hT rfl fun hT=> ?_;refine Qr hS.2.2.2.2.2.2.2.1 (QE (m':=1023) rfl rfl Kr (Qk8 (B:=b9) (i:=5) (n:=rm) (r9.cell 5 (by show 5<6;omega)) (r9.frz 5) Kr Kr) ⟨.inl Dc,(Mv.st _ (.inl rfl) (Mv.refl _ _))⟩ ?_);obtain⟨WJ4,hWJ4⟩: ∃WJ4,World.setCell WJ3 ⟨b9,5,none⟩ (.bool rm)=WJ4:=⟨_,rfl⟩;have gS:Mv (fun q=>q=b9) WJ3 WJ4:=by rw [←hWJ4];exact Mv.st _ (.inl rfl) (Mv.refl _ _)
     have r9:RowZ WJ4 b9 #[.int .u8 c2.o.ki,.int .i64 fv,.int .i64 c2.o.ge,.bool sy,.bool kn,.bool rm]:=by rw [←hWJ4];exact r9.set 5 _
     have E9:=Mv.ext_of E9 gS (fun q e=>by have:=HE3.out;omega);have ra:=ra.mv gS Om;have ro:=ro.mv gS Om;have rd:=rd.mv gS Om;have r10:=r10.mv gS Om;have sO:=sO.mvg gS (fun b off e=>by have:=hpO b off e;omega);have sq:=sq.mvg gS (fun b off e=>by have:=hq1 b off e;omega);have z9:=Xt z9 gS.size;rw [hWJ4];clear hWJ4;refine QZ hS.2.2.2.2.2.2.2.2 ?_;clear hS hT;go_simp
     go_upto_region 20 with(fail)
     obtain⟨W19,hW19⟩: ∃W,WJ4=W:=⟨_,rfl⟩;rw [hW19]at ra ro rd r9 r10 sO sq E9 z9⊢;clear hW19 gS;obtain⟨x,hx⟩: ∃x,Ru.Qux (toR (a.md (ofT k.tu).toNat)) c2.o.ki fv c2.o.ge sy kn rm=x:=⟨_,rfl⟩;obtain⟨bi,hbi'⟩: ∃bi,(ofT k.tu).toNat=bi:=⟨_,rfl⟩;have hbi:bi<16:=by omega
     have eof:ofT k.tu=(bi:Int):=by omega
     have HRU:Hid (∀W,Cr 47 #[.agg (mdv (a.md bi)),.agg #[.int .u8 c2.o.ki,.int .i64 fv,.int .i64 c2.o.ge,.bool sy,.bool kn,.bool rm]] W (.agg (acv x))):=Xh (fun W=>by
      rw [←hx,hbi',Qaw]
      exact Ru.QyU (toR (a.md bi)) c2.o.ki fv c2.o.ge sy kn rm W (HK.out bi hbi) (by rw [HCE.out.2.1];exact HEN.out.2.2.1.1))
     have HX0:=Xh (And.intro hx hbi');have HIX:=Xh (QnN (B:=b3) hbi);rw [eof];have HEOF:=Xh eof;clear hx hbi' eof hbd;have HR19:=Xh (And.intro ra (And.intro ro (And.intro rd (And.intro r9 (And.intro r10 (And.intro sO (And.intro sq E9)))))));obtain⟨lo19,hl19'⟩: ∃n,W19.heap.size=n:=⟨_,rfl⟩;have hl19:W19.heap.size≤lo19:=by omega
     have z19:lo19≤W19.heap.size:=by omega
     clear hl19';have hd3: ¬lo19≤b3:=by have:b10<W19.heap.size:=r10.l;omega
     have hd9: ¬lo19≤b9:=by have:b10<W19.heap.size:=r10.l;omega
     go_cut [11]from 111 to 117 (fun s wx=> ∃b11,s= .pointer (some ⟨b11,0,none⟩)∧(RowZ wx b11 (acv x)∧Ext W19 wx∧lo19≤b11))
     case first=>
      have E20:=Ext.rf W19;refine Qy (fun _=>False) (fun q=>lo19≤q) 7 Kr ?_;obtain⟨WK,hW⟩: ∃Wdr,World.drew W19=Wdr:=⟨_,rfl⟩;have gD:Ext W19 WK:=by rw [←hW];exact Ext.dr (Ext.rf _)
      rw [hW];clear hW;have E20:=E20.tr gD;have ra:=ra.ext gD;have r9:=r9.ext gD;have z19:=Xt z19 gD.size;refine Zi (N:=8) (R:=Qq4) (E:=((Tryz.f12.body.bind (Qh 20)).getD #[])) Kr Qla Kr fun hS=> ?_;obtain⟨hS,hSb⟩:=hS;have hT:=hS.2.1;refine tWk 1 (.int .i64 (bi:Int)) hS.1 hT rfl fun hT=>tWk 3 (.pointer (some ⟨b3,2,none⟩)) hS.1 hT rfl fun hT=>tW 7 (.pointer (some ⟨b3,2+bi*4,none⟩)) hS.1 hT rfl (fun w' _=>HIX.out _ _ _ _ _ _ _ _ Kr Kr w') fun hT=>tW 15 (.agg (mdv (a.md bi))) hS.1 hT rfl (Qhl (C:=fun q=>lo19≤q) ra hbi hd3 Kr) fun hT=>tW 31 (.agg #[.int .u8 c2.o.ki,.int .i64 fv,.int .i64 c2.o.ge,.bool sy,.bool kn,.bool rm]) hS.1 hT rfl (Qv0 (C:=fun q=>lo19≤q) r9 rfl hd9 Kr) fun hT=> ?_;refine QmS hS.2.2.1 ?_ ?_
      ·clear HR19;refine(QlH (m':=63) (R:=fun v _=>v= .agg (acv x)) rfl rfl Kr Kr (ZC (HRU.out WK)) ?_);rintro _ WL1 gWL1 rfl;have E20:=E20.tr gWL1;have z19:=Xt z19 gWL1.size;refine Qr hS.2.2.2.1 (Zq (m':=127) rfl rfl Kr (QbS WL1) ⟨.inr (Mv.of_ext Ea),(Mv.of_ext Ea)⟩ ?_);obtain⟨WL2,hWL2⟩: ∃WL2,WL1.alloc (.cells #[.int .u8 0,.int .u8 0,.int .u8 0,.int .i64 0,.int .i64 0] 105)=WL2:=⟨_,rfl⟩;have hbk:=World.alloc_heap_new WL1 (.cells #[.int .u8 0,.int .u8 0,.int .u8 0,.int .i64 0,.int .i64 0] 105);have gWL2:Ext WL1 WL2:=by rw [←hWL2];exact Ea
       rw [hWL2]at hbk⊢;clear hWL2;have E20:=E20.tr gWL2;have r11:=RowZ.of_heap hbk;obtain⟨b11,e11⟩: ∃b,WL1.heap.size=b:=⟨_,rfl⟩;rw [e11]at r11⊢;have h11:lo19≤b11:=by have:=z19;omega
       have z19:=Xt z19 gWL2.size;clear hbk;refine Qr hS.2.2.2.2.1 (QE (m':=255) rfl rfl Kr (Qi3 (B:=b11) (cs:=acv x) (by rw [r11.r];rfl) r11.z rfl (by unfold acv;simp [go_sem]) Kr Kr) ⟨.inl Dc,(Mv.sa _ h11 (Mv.refl _ _))⟩ ?_);obtain⟨WL3,hWL3⟩: ∃WL3,Qe WL2 b11 0 (acv x)=WL3:=⟨_,rfl⟩;have HX:=Xh (show RowZ WL3 b11 (acv x)∧Ext W19 WL3∧lo19≤b11 from⟨by rw [←hWL3];exact r11.all _ rfl,by rw [←hWL3];exact Mv.ext_of (C:=fun q=>q=b11) E20 (Mv.sa _ rfl (Mv.refl _ _)) (fun q e=>by have:=hl19;omega),h11⟩);rw [hWL3];clear hWL3;refine QZ hS.2.2.2.2.2 ?_;clear hS hT
       go_wp2_with (fail)
       go_meet
       exact⟨b11,rfl,HX.out⟩
      ·clear HR19;refine(Zq (m':=95) rfl rfl Kr (QbS WK) ⟨.inr (Mv.of_ext Ea),(Mv.of_ext Ea)⟩ ?_);obtain⟨WL1,hWL1⟩: ∃WL1,WK.alloc (.cells #[.int .u8 0,.int .u8 0,.int .u8 0,.int .i64 0,.int .i64 0] 105)=WL1:=⟨_,rfl⟩;have hbk:=World.alloc_heap_new WK (.cells #[.int .u8 0,.int .u8 0,.int .u8 0,.int .i64 0,.int .i64 0] 105);have gWL1:Ext WK WL1:=by rw [←hWL1];exact Ea
       rw [hWL1]at hbk⊢;clear hWL1;have E20:=E20.tr gWL1;have r11:=RowZ.of_heap hbk;obtain⟨b11,e11⟩: ∃b,WK.heap.size=b:=⟨_,rfl⟩;rw [e11]at r11⊢;have h11:lo19≤b11:=by have:=z19;omega
       have z19:=Xt z19 gWL1.size;clear hbk;refine sV 127 (fun v _=>v= .agg (acv x)) hSb.2.2.2.1 rfl (ZC (HRU.out WL1)) ?_;rintro _ WL2 gWL2 rfl;have E20:=E20.tr gWL2;have r11:=r11.ext gWL2;have z19:=Xt z19 gWL2.size;refine Qr hSb.2.2.2.2.1 (QE (m':=255) rfl rfl Kr (Qi3 (B:=b11) (cs:=acv x) (by rw [r11.r];rfl) r11.z rfl (by unfold acv;simp [go_sem]) Kr Kr) ⟨.inl Dc,(Mv.sa _ h11 (Mv.refl _ _))⟩ ?_);obtain⟨WL3,hWL3⟩: ∃WL3,Qe WL2 b11 0 (acv x)=WL3:=⟨_,rfl⟩;have HX:=Xh (show RowZ WL3 b11 (acv x)∧Ext W19 WL3∧lo19≤b11 from⟨by rw [←hWL3];exact r11.all _ rfl,by rw [←hWL3];exact Mv.ext_of (C:=fun q=>q=b11) E20 (Mv.sa _ rfl (Mv.refl _ _)) (fun q e=>by have:=hl19;omega),h11⟩);rw [hWL3];clear hWL3;refine QZ hSb.2.2.2.2.2 ?_;clear hS hT
       go_wp2_with (fail)
       go_meet
       exact⟨b11,rfl,HX.out⟩
     case rest=>
      obtain⟨b11,rfl,hcut⟩:=hcut;obtain⟨W20,hW20⟩: ∃W,wc=W:=⟨_,rfl⟩;rw [hW20]at hcut⊢;obtain⟨r11,E20,h11⟩:=hcut;clear hW20;have HX1:=Xh (And.intro r11 (And.intro E20 h11));clear r11 E20 h11
      go_upto_region 21 with(fail)
      obtain⟨r11,E20,h11⟩:=HX1.out;obtain⟨ra,ro,rd,r9,r10,sO,sq,E9⟩:=HR19.out;have hs20:=E20.size;have eid:o1.id=a.id:=by rw [←HEO.out]
      have exs:o1.xs=a.xs:=by rw [←HEO.out]
      have ep1:o1.p=p':=by rw [←HEO.out]
      have eip:c2.ip=q:=by rw [←HEC2.out,←HEC.out]
      have eiN:c2.iN=pl.length:=by rw [←HEC2.out,←HEC.out]
      have eic:c2.ic=cq:=by rw [←HEC2.out,←HEC.out]
      have hkA:(Ru.Qux (toR (a.md bi)) c2.o.ki fv c2.o.ge sy kn rm)=x:=by have h0:=HX0.out.1;rw [HX0.out.2]at h0;exact h0
      have hmr:(toR (a.md bi)).right=true:=Qga HAG.out.1 bi hbi;have eo:c2.o=o:=HCE.out.2.1;have hgo:0≤o.ge∧o.ge≤2147483647:=Qs8 HEN.out.2.2.2.2
      have HGR:=Xh (show inR a bs now=Qae x o1 c2 pl from by
       have hx:inX a fr o pl=x:=by
        unfold inX;rw [HKD.out.1,←HCE.out.1,←eo,HFV.out,HSR.out.1,HKN.out,HSR.out.2];have h0:=HX0.out.1;rw [←HCE.out.1]at h0;exact h0
       unfold inR;rw [HAG.out.2,if_neg Dc,HN.out];show(if tn≠(2,a.id)then _ else if Yw pl≠0 then _ else if ofT (pkI pl).tu≠o.bu then _ else _)=_;rw [if_neg (by rw [HTN.out];exact fun h=>h rfl),HKD.out.2,if_neg (fun h=>h rfl),HKD.out.1,if_neg (fun h=>h HBK.out)];show Qae (inX a fr o pl) a _ pl=_;rw [hx]
       exact(Qk3 exs eid (by rw [HCE.out.1]) HCE.out.2.2.2 eo).symm)
      refine Qq0 (o1:=o1) (c:=c2) (x:=x) (pl:=pl) (b6:=b6) (b7:=b7) (b10:=b10) (b11:=b11) Kr (E9.tr E20) (by have:=HE3.out;omega) Om Om (by have:b10<W19.heap.size:=r10.l;omega) (ro.ext E20) (rd.ext E20) rfl (r10.ext E20) r11 (by rw [ep1,exs];exact sO.ext E20) (fun b off e=>by rw [ep1]at e;have:=hpO b off e;omega) (by rw [exs];exact HSA.out.2) (by rw [eip];exact sq.ext E20) (fun b off e=>by rw [eip]at e;have h1:=hq1 b off e;have h2:=hq2 b off e;omega) (by rw [←hkA];exact Qs9) ?_ ?_
      ·intro h3;have hS:=Qk2 (m:=toR (a.md bi)) (k:=c2.o.ki) (f:=fv) (g:=c2.o.ge) (s:=sy) (n:=kn) (r:=rm) hmr (by rw [eo];exact hgo) (by rw [hkA];exact h3);rw [hkA]at hS;have hne:pl≠ []:=fun e=>by have h1:=HKD.out.2;rw [e]at h1;revert h1;decide
       have hpos:0<pl.length:=List.length_pos_iff.2 hne;obtain⟨b,off,e0,-,-⟩:=sq 0 hpos;rw [eid,eo,eip,eiN,eic];exact⟨QvW HAG.out.1,hS.1,⟨Om,Om⟩,HEN.out.2.2.2.1,QnK HEN.out.2.2.2.2 hS.2.1 hS.2.2,by have:=HEN.out.2.1;have:=HBB.out.2;omega,⟨b,off,e0⟩,rfl,hcq,HEN.out.1⟩
      ·intro a' w' p2 c3 ep ec sp sc h6 h7 hz hdf r6 r7 s1 s2 s3 Ew
       go_upto_region 22 with(fail)
       refine QqT h6 h7 hz r6 r7 ?_;intro a2 w2 e2 r6 r7 q6 q7 hd2;go_wp2;refine bodyPost_ret (ZL rfl _ _ b6 b7 q6 q7 (Yp r6.r) (Qad r7.r rfl)) (hd2.trans hdf) ?_;rw [←HER.out,HGR.out];rw [←HEO.out]at s1 s2 s3⊢;exact⟨p2,c3,ep,ec,sp,sc,rfl,s1.ext e2,s2.ext e2,s3.ext e2,Ew.tr e2⟩
 ·have htn:tn≠(2,a.id):=by simpa using hnb
  have HG:inR a bs now=(13,a.xs,[],[]):=by unfold inR;rw [HAG.out.2,if_neg Dc,hN];exact if_pos htn
  have HG:=Xh HG;clear htn hnb;go_simp
  go_upto_region 9 with(fail)
  have rd8:=rd;refine wp_region_lit ?_;refine listV (v:= .pointer (some ⟨b7,0,none⟩)) (w':=WB1) rfl Kr ?_;refine Zj rfl (Qdt (B:=b7) (i:=0) (n:=13) (rd.cell 0 (by show 0<3;omega)) (rd.frz 0) Kr Kr) ?_;refine wpList_nil ?_;obtain⟨W10,h10⟩: ∃W10,WB1.setCell ⟨b7,0,none⟩ (.int .u8 13)=W10:=⟨_,rfl⟩;have m10:Mv (fun q=>q=b7) WB1 W10:=by rw [←h10];exact Mv.st _ (.inl rfl) (Mv.refl _ _)
  have HF:=Xh (show RowZ W10 b6 (agv o1)∧RowZ W10 b7 (dnv ⟨13,none,0,0,none,0,0⟩)∧SlC W10 p' a.xs∧Ext w W10 from⟨ro.mv m10 Om,by rw [←h10];exact rd.set 0 _,sO.mvg m10 (fun b off e=>by have:=hpO b off e;omega),Mv.ext_of E9 m10 (fun q e=>by have:=HE3.out;omega)⟩);rw [h10];clear h10 m10;clear rd8 ra ro rd r9 r10 sO E9 hpO;go_simp;go_wp2;go_step3;refine⟨rfl,?_⟩
  go_upto_region 23 with(fail)
  refine JH (o:=o1) (d:=⟨13,none,0,0,none,0,0⟩) (b6:=b6) (b7:=b7) Kr Kr Kr HF.out.1 HF.out.2.1 ?_;intro a' w' e' r6 r7 q6 q7 hd;go_wp2;refine bodyPost_ret (ZL rfl _ _ b6 b7 q6 q7 (Yp r6.r) (Qad r7.r rfl)) hd ?_;rw [←HER.out,HG.out,←HEO.out];exact⟨p',c',none,0,none,0,rfl,HF.out.2.2.1.ext e',SlE.nil _ none,SlBB.nil _ none,HF.out.2.2.2.tr e'⟩
end
def Yd:Tu:=⟨1,2,3,4⟩
def synI:List Int:=QiT ⟨0,0,0,64,6,1,2,[],QkD 1 2 3 4 2⟩
def QdW:List Int:=QiT ⟨0,0,0,64,4,QD (1,0),QD (2,2),Ym ⟨1,13,2,-1,1,0⟩,synI⟩
theorem Qth:ofT Yd=13:=Kr
def wA:Ag:=agN 2 9
def wX2:Ct:=⟨2,0,2,13,1,-1,0,0,0,none,0,0⟩
def wX3:Ct:=⟨2,0,3,13,1,-1,0,0,0,none,0,0⟩
def wB(p:Option Addr)(c:Nat):Ag:={Zt wA wX2 with p:=p,xs:= [],c:=c}
def wC(p:Option Addr)(c:Nat):Ag:={Zt wA wX2 with p:=p,xs:= [⟨Yd,5,5⟩],c:=c}
def wD(p:Option Addr)(c:Nat):Ag:={Zt wA wX2 with p:=p,xs:= [⟨Yd,5,6⟩],c:=c}
def wE(p:Option Addr)(c:Nat):Ag:={Zt wA wX2 with p:=p,xs:= [],c:=c}
theorem Qv2:QeZ 2 9=wA:=if_pos Kr
theorem Qti:Qcb 2 9=0:=Kr
theorem Qv3:QeZ 6 9=agz:=if_neg (by rw [show agR (agN 6 9)=false by kernel_rfl];decide)
theorem Qtj:Qcb 6 9=2:=Kr
theorem QyY:inR wA QdW 5=(15,[],[],[]):=Kr
theorem Qv4:JI wA wX2=true:=Kr
theorem Qv5:JI wA wX3=false:=Kr
theorem Qtk:Yb wA wX2= []:=Kr
theorem Qtl:Yc wA wX2= []:=Kr
theorem Qtm:JR wA wX2=⟨4,2,2,13,1,0,0,0,0,none,0,0⟩:=Kr
theorem QyZ(p:Option Addr)(c:Nat):inR (wB p c) QdW 5=(0,[⟨Yd,5,5⟩],[⟨1,2,Yd⟩],[]):=Kr
theorem Qy0(p:Option Addr)(c:Nat):inR (wC p c) QdW 6=(0,[⟨Yd,5,6⟩],[⟨2,2,Yd⟩],[]):=Kr
theorem Qi7(p:Option Addr)(c:Nat):JN (wD p c) 14= [⟨Yd,5,6⟩]∧Qa6 (wD p c) 14= []:=⟨Kr,Kr⟩
theorem Qi8(p:Option Addr)(c:Nat):JN (wD p c) 15= []∧Qa6 (wD p c) 15= [⟨4,2,Yd⟩]:=⟨Kr,Kr⟩
theorem Qtn(p q:Option Addr)(c d:Nat):Jl (wD p c) (wD q d)=true:=Kr
theorem Qto(p q:Option Addr)(c d:Nat):Jl (wC p c) (wC q d)=true:=Kr
theorem Qtp(p q:Option Addr)(c d:Nat):Jl (wC p c) (wB q d)=false:=Kr
theorem Qq9(p:Option Addr)(c:Nat):agR (wC p c)=true:=Kr
theorem Qra:agR agz=false:=Kr
theorem Qmm:QdW.length=76:=Kr
theorem Qrb:ByR QdW:=by
 have h:QdW.all (fun b=>decide (0≤b)&&decide (b<256))=true:=Kr
 intro b hb;have:=List.all_eq_true.1 h b hb;simp only [Bool.and_eq_true,decide_eq_true_eq]at this;exact this
theorem Qfc(p:Option Addr)(xs:List Co)(c:Nat): ∀k,k<16→0≤((({Zt wA wX2 with p:=p,xs:=xs,c:=c}:Ag)).md k).kind:=by
 intro k hk;have h:(List.range 16).all (fun k=>decide (0≤((Zt wA wX2).md k).kind))=true:=Kr
 exact of_decide_eq_true (List.all_eq_true.1 h k (List.mem_range.2 hk))
theorem Qhu: ∀k,k<16→0≤(wA.md k).kind:=fun k _=>by show(0:Int)≤0;omega
theorem Qi9:TuR Yd:=by unfold TuR Yd;decide
theorem Qv6(S:List Int)(hS:synI=S)(g q:Nat)(W:World)(s:SlB W (some ⟨g,0,none⟩) S):Calls Tryz.prog 84 #[.agg #[.int .u8 1,.int .i64 0,.int .u8 2,.int .i64 2,.int .u8 1,.int .u8 13,.int .i64 2,.int .i64 (-1),.int .i64 1,.int .i64 0,.slice (some ⟨g,0,none⟩) S.length q]] W fun e w'=> ∃v,e= .returned (.tuple #[v,.int .u8 0])∧Z8 W w' v QdW:=by
 subst hS;exact Qnz (1,0) (2,2) ⟨1,13,2,-1,1,0⟩ synI (some ⟨g,0,none⟩) q W Dc Dc Kr s (fun e=>by cases e) (by rw [show synI.length=40 by kernel_rfl];omega)
theorem QnO(w:World):Calls Tryz.prog 37 #[] w fun e w'=> ∃v,e= .returned (.tuple #[v,.int .i64 13])∧Z8 w w' v QdW:=by
 obtain⟨S,eS⟩: ∃S,synI=S:=⟨_,rfl⟩;have HSL:=Xh (show S.length=40 by rw [←eS];kernel_rfl);have HSE:=Xh eS;have HOF:Hid (∀W,Cr 33 #[.agg #[.int .u32 1,.int .u32 2,.int .u16 3,.int .u16 4]] W (.int .i64 13)):=Xh (fun W=>by have h:=Qln Yd Qi9 W;rw [Qth]at h;exact h);have HMK:Hid (∀W,Calls Tryz.prog 91 #[.agg #[.int .u32 1,.int .u32 2,.int .u16 3,.int .u16 4],.int .u8 2,.slice none 0 0] W fun e w'=> ∃v,e= .returned (.tuple #[v,.bool true])∧Z8 W w' v S):=Xh (fun W=>by rw [←eS];exact Qnw 1 2 3 4 2 Dc Dc Dc W);have HO6:Hid (∀W,Cr 92 #[.int .u8 1,.int .i64 13,.agg #[.int .i64 2,.int .i64 (-1),.int .i64 1,.int .i64 0]] W (.tuple #[.agg #[.int .u8 1,.int .u8 13,.int .i64 2,.int .i64 (-1),.int .i64 1,.int .i64 0],.int .i64 0])):=Xh (QqD 1 13 2 (-1) 1 0 Dc Kr);have hb1: ∀W,(Instr.build 64 #[(0,.int .u32 1),(1,.int .u32 2),(2,.int .u16 3),(3,.int .u16 4)]).run Tryz.prog W= .ok (.agg #[.int .u32 1,.int .u32 2,.int .u16 3,.int .u16 4]) W:=fun W=>by kernel_rfl
 have hb2: ∀W,(Instr.build 153 #[(0,.int .i64 2),(1,.int .i64 (-1)),(2,.int .i64 1)]).run Tryz.prog W= .ok (.agg #[.int .i64 2,.int .i64 (-1),.int .i64 1,.int .i64 0]) W:=fun W=>by kernel_rfl
 have hb3: ∀W,(Instr.build 73 #[(0,.int .u8 1)]).run Tryz.prog W= .ok (.agg #[.int .u8 1,.int .i64 0]) W:=fun W=>by kernel_rfl
 have hb4: ∀W,(Instr.build 73 #[(0,.int .u8 2),(1,.int .i64 2)]).run Tryz.prog W= .ok (.agg #[.int .u8 2,.int .i64 2]) W:=fun W=>by kernel_rfl
 have hb5: ∀W (g q:Nat),(Instr.build 77 #[(0,.agg #[.int .u8 1,.int .i64 0]),(1,.agg #[.int .u8 2,.int .i64 2]),(2,.agg #[.int .u8 1,.int .u8 13,.int .i64 2,.int .i64 (-1),.int .i64 1,.int .i64 0]),(3,.slice (some ⟨g,0,none⟩) S.length q)]).run Tryz.prog W= .ok (.agg #[.int .u8 1,.int .i64 0,.int .u8 2,.int .i64 2,.int .u8 1,.int .u8 13,.int .i64 2,.int .i64 (-1),.int .i64 1,.int .i64 0,.slice (some ⟨g,0,none⟩) S.length q]) W:=fun W g q=>by kernel_rfl
 clear eS
 go_enter Tryz.func37,Tryz.ntmps37
 go_upto_region 2 with(fail)
 obtain⟨W0,hW⟩: ∃W0,w.alloc (.cells #[.int .u32 1,.int .u32 2,.int .u16 3,.int .u16 4] 64)=W0:=⟨_,rfl⟩;have g0:Ext w W0:=by rw [←hW];exact Ea
 have rz:RowZ W0 w.heap.size #[.int .u32 1,.int .u32 2,.int .u16 3,.int .u16 4]:=by rw [←hW];exact RowZ.new _ _ _
 rw [hW];clear hW;have HRT:=Xh rz;have HE:=Xh g0;clear rz g0;have d0:W0.cell? ⟨w.heap.size,0,none⟩=some (.int .u32 1):=HRT.out.cell 0 (by show 0<4;omega);have d1:W0.cell? ⟨w.heap.size,1,none⟩=some (.int .u32 2):=HRT.out.cell 1 (by show 1<4;omega);have d2:W0.cell? ⟨w.heap.size,2,none⟩=some (.int .u16 3):=HRT.out.cell 2 (by show 2<4;omega);have d3:W0.cell? ⟨w.heap.size,3,none⟩=some (.int .u16 4):=HRT.out.cell 3 (by show 3<4;omega)
 go_upto_region 5 with(first|(go_at_call 33;(with_reducible refine(HOF.out _).mono ?_);rintro e wa ⟨rfl,ga⟩;have HRT:=Xh (HRT.out.ext ga);have HE:=Xh (HE.out.tr ga);have d0:wa.cell? ⟨w.heap.size,0,none⟩=some (.int .u32 1):=HRT.out.cell 0 (by show 0<4;omega);have d1:wa.cell? ⟨w.heap.size,1,none⟩=some (.int .u32 2):=HRT.out.cell 1 (by show 1<4;omega);have d2:wa.cell? ⟨w.heap.size,2,none⟩=some (.int .u16 3):=HRT.out.cell 2 (by show 2<4;omega);have d3:wa.cell? ⟨w.heap.size,3,none⟩=some (.int .u16 4):=HRT.out.cell 3 (by show 3<4;omega))|(go_at_call 91;(with_reducible refine(HMK.out _).mono ?_);rintro e wb ⟨vb,rfl,ob⟩;obtain⟨g,q,rfl,-,-,-,-,-⟩:=ob.own.at (by have:=HSL.out;omega);have s1:SlB wb (some ⟨g,0,none⟩) S:=(by obtain⟨p,c,e,-,s⟩:=ob.sl;cases e;exact s);have HE:=Xh (HE.out.tr ob.ext);have HS1:=Xh s1;clear s1 ob)|(go_at_call 92;(with_reducible refine(HO6.out _).mono ?_);rintro e wc ⟨rfl,gc⟩;have HE:=Xh (HE.out.tr gc);have HS1:=Xh (HS1.out.ext gc)))
 obtain⟨W5,hW⟩: ∃W5,Qe (wc.alloc (.cells #[.int .u8 0,.int .u8 0,.int .i64 0,.int .i64 0,.int .i64 0,.int .i64 0] 75)) wc.heap.size 0 #[.int .u8 1,.int .u8 13,.int .i64 2,.int .i64 (-1),.int .i64 1,.int .i64 0]=W5:=⟨_,rfl⟩;have g5:Ext wc W5:=by rw [←hW];exact Ext.sa _ (Nat.le_refl _) Ea
 have r5:Qc W5 wc.heap.size=#[.int .u8 1,.int .u8 13,.int .i64 2,.int .i64 (-1),.int .i64 1,.int .i64 0]:=by rw [←hW];exact Qq _ _ _ (by rw [Zn];rfl)
 rw [hW];have HE5:=Xh (HE.out.tr g5);have HP7:=Xh (Qv6 S HSE.out g q W5 (HS1.out.ext g5));clear g5 hW
 go_wp2_with (go_at_call 84;(refine(HP7.out).mono ?_);rintro e wd ⟨vd,rfl,od⟩;have HO:=Xh od;clear od)
 refine bodyPost_ret (v:= .tuple #[vd,.int .i64 13]) (by simp [results,Tryz.results37,go_sem]) rfl ?_;exact⟨vd,rfl,HO.out.own.le HE5.out.size,HE5.out.tr HO.out.ext⟩
def InW(A:Option Addr→Nat→Ag)(dr:Int)(xs:List Co)(es:List Ev)(v:Value)(w':World):Prop:= ∃p c ep ec sp sc,v= .tuple #[.agg (agv (A p c)),.agg (dnv ⟨dr,ep,es.length,ec,sp,0,sc⟩)]∧SlC w' p xs∧SlE w' ep es
theorem Qv7{a:Ag}{bs:List Int}{now dr:Int}{xs:List Co}{es:List Ev}{g q:Nat}(A:Option Addr→Nat→Ag)(hA: ∀p c,({a with p:=p,xs:=xs,c:=c}:Ag)=A p c)(hr:inR a bs now=(dr,xs,es,[]))(hs:SlC W a.p a.xs)(hl:a.xs.length≤1000)(ht: ∀x∈a.xs,TuR x.t)(hk: ∀k,k<16→0≤(a.md k).kind)
  (hb:SlB W (some ⟨g,0,none⟩) bs)(hB:ByR bs)(hlb:bs.length≤1000)(hq:bs.length≤q):Calls Tryz.prog 12 #[.agg (agv a),.slice (some ⟨g,0,none⟩) bs.length q,.int .i64 now] W fun e w'=> ∃v,e= .returned v∧InW A dr xs es v w'∧Ext W w':=
 (Qq8 a bs _ q now W hs hl ht hk hb hB hlb hq).mono fun e w' ⟨p,c,ep,ec,sp,sc,h1,h2,h3,h4,h5⟩=>by
  rw [hr]at h1 h2 h3;rw [hA]at h1;exact⟨_,h1,⟨p,c,ep,ec,sp,sc,rfl,h2,h3⟩,h5⟩
theorem Qy1{S:List Int}(hS:QdW=S){g q:Nat}(hb:SlB W (some ⟨g,0,none⟩) S)(hq:S.length≤q):Calls Tryz.prog 12 #[.agg (agv wA),.slice (some ⟨g,0,none⟩) S.length q,.int .i64 5] W fun e w'=> ∃v,e= .returned v∧InW (fun p c=>{wA with p:=p,xs:= [],c:=c}) 15 [] [] v w'∧Ext W w':=by
 subst hS;exact Qv7 _ (fun _ _=>rfl) QyY (SlC.nil _ _) (by show 0≤1000;omega) (fun x hx=>by cases hx) Qhu hb Qrb (by rw [Qmm];omega) hq
theorem Qy2{S:List Int}(hS:QdW=S){g q:Nat}(p:Option Addr)(c:Nat)(hb:SlB W (some ⟨g,0,none⟩) S)(hq:S.length≤q):Calls Tryz.prog 12 #[.agg (agv (wB p c)),.slice (some ⟨g,0,none⟩) S.length q,.int .i64 5] W fun e w'=> ∃v,e= .returned v∧InW wC 0 [⟨Yd,5,5⟩] [⟨1,2,Yd⟩] v w'∧Ext W w':=by
 subst hS;exact Qv7 _ (fun _ _=>rfl) (QyZ p c) (SlC.nil _ _) (by show 0≤1000;omega) (fun x hx=>by cases hx) (Qfc p [] c) hb Qrb (by rw [Qmm];omega) hq
theorem Qy3{S:List Int}(hS:QdW=S){g q:Nat}(p:Option Addr)(c:Nat)(hs:SlC W p [⟨Yd,5,5⟩])(hb:SlB W (some ⟨g,0,none⟩) S)(hq:S.length≤q):Calls Tryz.prog 12 #[.agg (agv (wC p c)),.slice (some ⟨g,0,none⟩) S.length q,.int .i64 6] W fun e w'=> ∃v,e= .returned v∧InW wD 0 [⟨Yd,5,6⟩] [⟨2,2,Yd⟩] v w'∧Ext W w':=by
 subst hS;exact Qv7 _ (fun _ _=>rfl) (Qy0 p c) hs (by show 1≤1000;omega) (fun x hx=>by rw [List.mem_singleton.1 hx];exact Qi9) (Qfc p _ c) hb Qrb (by rw [Qmm];omega) hq
def Qy4(v:Value)(w':World):Prop:= ∃p c q d,v= .tuple #[.agg (agv (wB p c)),.slice q 0 d,.agg (ctv ⟨4,2,2,13,1,0,0,0,0,none,0,0⟩),.bool true]
theorem Qy5(W:World):Calls Tryz.prog 16 #[.agg (agv wA),.agg (ctv wX2)] W fun e w'=> ∃v,e= .returned v∧Qy4 v w'∧Ext W w':=
 (Qdl wA wX2 W (SlC.nil _ _) (by show 0≤1000;omega) (fun x hx=>by cases hx) Qhu Dc Dc).mono fun e w' ⟨p,c,q,d,h1,_,_,h4⟩=>by
  rw [Qtk,Qtl,Qtm,Qv4]at h1;exact⟨_,h1,⟨p,c,q,d,rfl⟩,h4⟩
def Qy6(v:Value)(w':World):Prop:= ∃A q n d K,v= .tuple #[.agg (agv A),.slice q n d,.agg (ctv K),.bool false]
theorem Qy7(W:World):Calls Tryz.prog 16 #[.agg (agv wA),.agg (ctv wX3)] W fun e w'=> ∃v,e= .returned v∧Qy6 v w'∧Ext W w':=
 (Qdl wA wX3 W (SlC.nil _ _) (by show 0≤1000;omega) (fun x hx=>by cases hx) Qhu Dc Dc).mono fun e w' ⟨p,c,q,d,h1,_,_,h4⟩=>by
  rw [Qv5]at h1;exact⟨_,h1,⟨_,q,_,d,_,rfl⟩,h4⟩
def TiW(A:Option Addr→Nat→Ag)(xs:List Co)(es:List Ev)(v:Value)(w':World):Prop:= ∃p c q d,v= .tuple #[.agg (agv (A p c)),.slice q es.length d]∧SlC w' p xs∧SlE w' q es
theorem Qv8(p:Option Addr)(c:Nat)(W:World)(hs:SlC W p [⟨Yd,5,6⟩]):Calls Tryz.prog 20 #[.agg (agv (wD p c)),.int .i64 14] W fun e w'=> ∃v,e= .returned v∧TiW wD [⟨Yd,5,6⟩] [] v w'∧Ext W w':=
 (Qdg (wD p c) 14 W hs (by show 1≤1000;omega) (fun x hx=>by rw [List.mem_singleton.1 hx];exact Qi9) (Qfc p _ c)).mono fun e w' ⟨p',c',q,d,h1,h2,h3,h4⟩=>by
  rw [(Qi7 p c).1]at h1 h2;rw [(Qi7 p c).2]at h1 h3;exact⟨_,h1,⟨p',c',q,d,rfl,h2,h3⟩,h4⟩
theorem Qv9(p:Option Addr)(c:Nat)(W:World)(hs:SlC W p [⟨Yd,5,6⟩]):Calls Tryz.prog 20 #[.agg (agv (wD p c)),.int .i64 15] W fun e w'=> ∃v,e= .returned v∧TiW wE [] [⟨4,2,Yd⟩] v w'∧Ext W w':=
 (Qdg (wD p c) 15 W hs (by show 1≤1000;omega) (fun x hx=>by rw [List.mem_singleton.1 hx];exact Qi9) (Qfc p _ c)).mono fun e w' ⟨p',c',q,d,h1,h2,h3,h4⟩=>by
  rw [(Qi8 p c).1]at h1 h2;rw [(Qi8 p c).2]at h1 h3;exact⟨_,h1,⟨p',c',q,d,rfl,h2,h3⟩,h4⟩
theorem QAp(W:World):Cr 10 #[.int .i64 2,.int .i64 9] W (.tuple #[.agg (agv wA),.int .i64 0]):=by
 have h:=QiJ 2 9 W;rw [Qv2,Qti]at h;exact h
theorem QAq(W:World):Cr 10 #[.int .i64 6,.int .i64 9] W (.tuple #[.agg (agv agz),.int .i64 2]):=by
 have h:=QiJ 6 9 W;rw [Qv3,Qtj]at h;exact h
def OwW(v:Value)(w':World):Prop:= ∃p c,v= .agg (agv (wC p c))∧SlC w' p [⟨Yd,5,5⟩]
theorem QAr(p:Option Addr)(c:Nat)(W:World)(hs:SlC W p [⟨Yd,5,5⟩]):Calls Tryz.prog 25 #[.agg (agv (wC p c))] W fun e w'=> ∃v,e= .returned v∧OwW v w'∧Ext W w':=
 (QcD (wC p c) W hs (by show 1≤1000;omega)).mono fun e w' ⟨p',c',h1,h2⟩=>⟨_,h1,⟨p',c',rfl,by
  obtain⟨q,d,e2,-,s⟩:=SlC.own h2.own
  cases e2
  exact s⟩,h2.ext⟩
theorem QbA(w:World):
  (execOp ρ ⟨dst,.alloc 42,ty,pos,after,g⟩).run Tryz.prog w= .ok (.value (.pointer (some ⟨w.heap.size,0,none⟩))) (w.alloc (.cells #[.int .u8 0,.slice none 0 0,.slice none 0 0] 42)):=Kr
theorem Qdu(w:World):
  (execOp ρ ⟨dst,.alloc 33,ty,pos,after,g⟩).run Tryz.prog w= .ok (.value (.pointer (some ⟨w.heap.size,0,none⟩))) (w.alloc (.cells (ctv ⟨0,0,0,0,0,0,0,0,0,none,0,0⟩) 33)):=Kr
structure EvB(w:World)(b o:Nat)(k a:Int):Prop where
 lt:Lt b w
 cell0:w.cell? ⟨b,o,none⟩=some (.int .u8 k)
 cell1:w.cell? ⟨b,o+1,none⟩=some (.int .i64 a)
theorem EvB.ext{w':World}{o:Nat}{k a:Int}(h:EvB w b o k a)(e:Ext w w'):EvB w' b o k a:=⟨Xl h.lt e.size,(e.cell (p:=⟨b,o,none⟩) h.lt).trans h.cell0,(e.cell (p:=⟨b,o+1,none⟩) h.lt).trans h.cell1⟩
theorem SlE.evb{k a:Int}{t:Tu}(h:SlE w p [⟨k,a,t⟩]): ∃b o,p=some ⟨b,o,none⟩∧EvB w b o k a:=by
 obtain⟨b,o,h1,h2,c0,c1,-⟩:=h 0 Nat.zero_lt_one;exact⟨b,o,h1,h2,by rw [Nat.zero_mul]at c0;exact c0,by rw [Nat.zero_mul]at c1;exact c1⟩
theorem QbB{o c:Nat}(hx:ρ x= .slice (some ⟨b,o,none⟩) 1 c)(hy:ρ y= .int .i64 0)(w:World):
  (execOp ρ ⟨dst,.indexAddr 39 x y,ty,pos,after,g⟩).run Tryz.prog w= .ok (.value (.pointer (some ⟨b,o,none⟩))) w:=by
 simp only [execOp,hx,hy];go_simp
theorem Qy8(p q:Option Addr)(c d:Nat)(W:World)(s:SlC W p [⟨Yd,5,6⟩])(t:SlC W q [⟨Yd,5,6⟩]):Cr 24 #[.agg (agv (wD p c)),.agg (agv (wD q d))] W (.bool true):=by
 have h:=Qdf (wD p c) (wD q d) W s t (by show 1≤1000;omega) (by show 1≤1000;omega);rw [Qtn]at h;exact h
theorem Qy9(p q:Option Addr)(c d:Nat)(W:World)(s:SlC W p [⟨Yd,5,5⟩])(t:SlC W q [⟨Yd,5,5⟩]):Cr 24 #[.agg (agv (wC p c)),.agg (agv (wC q d))] W (.bool true):=by
 have h:=Qdf (wC p c) (wC q d) W s t (by show 1≤1000;omega) (by show 1≤1000;omega);rw [Qto]at h;exact h
theorem Qza(p q:Option Addr)(c d:Nat)(W:World)(s:SlC W p [⟨Yd,5,5⟩]):Cr 24 #[.agg (agv (wC p c)),.agg (agv (wB q d))] W (.bool false):=by
 have h:=Qdf (wC p c) (wB q d) W s (SlC.nil _ _) (by show 1≤1000;omega) (by show 0≤1000;omega);rw [Qtp]at h;exact h
theorem Qzb(p:Option Addr)(c:Nat)(W:World)(s:SlC W p [⟨Yd,5,5⟩]):Cr 22 #[.agg (agv (wC p c))] W (.bool true):=by
 have h:=YX (wC p c) W s (by show 1≤1000;omega) (fun x hx=>by rw [List.mem_singleton.1 hx];exact Qi9) (Qfc p _ c);rw [Qq9]at h;exact h
theorem Qzc(W:World):Cr 22 #[.agg (agv agz)] W (.bool false):=by
 have h:=YX agz W (SlC.nil _ _) (by show 0≤1000;omega) (fun x hx=>by cases hx) (fun k hk=>by show(0:Int)≤0;omega);rw [Qra]at h;exact h
def Qrc(ops:Array Oper):Prop:=Region.noSelect ops=true∧Qv ops 107 [0,1,2,3,4,5,6,7,8,9,10,11,12,13] 0=true∧Qv ops 107 [14,15,16,17,18,19,20,21,22,23,24,25,26,27] 16383=true∧Qv ops 107 [28,29,30,31,32,33,34,35,36,37,38,39,40,41] 268435455=true∧Qv ops 107 [42,43,44,45,46,47,48,49,50,51,52,53,54,55] 4398046511103=true∧Qv ops 107 [56,57,58,59,60,61,62,63,64] 72057594037927935=true∧Rd ops 107 36893488147419103231 [65]∧Qv ops 107 [66,67,68,69,70,71,72,73,74,75,76,77,78,79] 73786976294838206463=true∧Qv ops 107 [80,81,82,83,84,85,86] 1208925819614629174706175=true∧Rd ops 107 154742504910672534362390527 [87]∧Qv ops 107 [88,89,90] 309485009821345068724781055=true∧Rd ops 107 2475880078570760549798248447 [91]∧Qv ops 107 [92,93,94,95,97] 4951760157141521099596496895=true∧Rd ops 107 237684487542793012780631851007 [96]∧Rd ops 107 316912650057057350374175801343 [98]∧Qv ops 107 [99,100,101,102] 633825300114114700748351602687=true∧Rd ops 107 10141204801825835211973625643007 [103]∧Qv ops 107 [104,105,106] 20282409603651670423947251286015=true∧Rd ops 107 162259276829213363391578010288127 []
theorem Qrd:Region.noSelect ((Tryz.f9.body.bind (Qh 13)).getD #[])=true:=Kr
theorem Qre:Qv ((Tryz.f9.body.bind (Qh 13)).getD #[]) 107 [0,1,2,3,4,5,6,7,8,9,10,11,12,13] 0=true:=Kr
theorem Qrf:Qv ((Tryz.f9.body.bind (Qh 13)).getD #[]) 107 [14,15,16,17,18,19,20,21,22,23,24,25,26,27] 16383=true:=Kr
theorem Qrg:Qv ((Tryz.f9.body.bind (Qh 13)).getD #[]) 107 [28,29,30,31,32,33,34,35,36,37,38,39,40,41] 268435455=true:=Kr
theorem Qrh:Qv ((Tryz.f9.body.bind (Qh 13)).getD #[]) 107 [42,43,44,45,46,47,48,49,50,51,52,53,54,55] 4398046511103=true:=Kr
theorem Qri:Qv ((Tryz.f9.body.bind (Qh 13)).getD #[]) 107 [56,57,58,59,60,61,62,63,64] 72057594037927935=true:=Kr
theorem Qrj:Region.ready .any ((Tryz.f9.body.bind (Qh 13)).getD #[]) (msk 107 36893488147419103231)= [65]:=Kr
theorem Qrk:Qv ((Tryz.f9.body.bind (Qh 13)).getD #[]) 107 [66,67,68,69,70,71,72,73,74,75,76,77,78,79] 73786976294838206463=true:=Kr
theorem Qrl:Qv ((Tryz.f9.body.bind (Qh 13)).getD #[]) 107 [80,81,82,83,84,85,86] 1208925819614629174706175=true:=Kr
theorem Qrm:Region.ready .any ((Tryz.f9.body.bind (Qh 13)).getD #[]) (msk 107 154742504910672534362390527)= [87]:=Kr
theorem QnP:Qv ((Tryz.f9.body.bind (Qh 13)).getD #[]) 107 [88,89,90] 309485009821345068724781055=true:=Kr
theorem QnQ:Region.ready .any ((Tryz.f9.body.bind (Qh 13)).getD #[]) (msk 107 2475880078570760549798248447)= [91]:=Kr
theorem QnR:Qv ((Tryz.f9.body.bind (Qh 13)).getD #[]) 107 [92,93,94,95,97] 4951760157141521099596496895=true:=Kr
theorem QnS:Region.ready .any ((Tryz.f9.body.bind (Qh 13)).getD #[]) (msk 107 237684487542793012780631851007)= [96]:=Kr
theorem QnT:Region.ready .any ((Tryz.f9.body.bind (Qh 13)).getD #[]) (msk 107 316912650057057350374175801343)= [98]:=Kr
theorem QnU:Qv ((Tryz.f9.body.bind (Qh 13)).getD #[]) 107 [99,100,101,102] 633825300114114700748351602687=true:=Kr
theorem QnV:Region.ready .any ((Tryz.f9.body.bind (Qh 13)).getD #[]) (msk 107 10141204801825835211973625643007)= [103]:=Kr
theorem QnW:Qv ((Tryz.f9.body.bind (Qh 13)).getD #[]) 107 [104,105,106] 20282409603651670423947251286015=true:=Kr
theorem QnX:Region.ready .any ((Tryz.f9.body.bind (Qh 13)).getD #[]) (msk 107 162259276829213363391578010288127)= []:=Kr
theorem Qle:Qrc ((Tryz.f9.body.bind (Qh 13)).getD #[]):=⟨Qrd,Qre,Qrf,Qrg,Qrh,Qri,Qrj,Qrk,Qrl,Qrm,QnP,QnQ,QnR,QnS,QnT,QnU,QnV,QnW,QnX⟩
theorem Qbg(w:World):Cr 9 #[] w (.bool true):=by
 obtain⟨S,eS⟩: ∃S,QdW=S:=⟨_,rfl⟩;have HSY:Hid (Calls Tryz.prog 37 #[] w fun e w'=> ∃v,e= .returned (.tuple #[v,.int .i64 13])∧Z8 w w' v S):=Xh (by rw [←eS];exact QnO w);have HSL:=Xh (show S.length=76 by rw [←eS];exact Qmm);have HSE:=Xh eS;clear eS
 go_enter Tryz.func9,Tryz.ntmps9
 go_upto_region 2 with(go_at_call 37;(refine(HSY.out).mono ?_);rintro e W1 ⟨v,rfl,o1⟩;obtain⟨g,q,rfl,hq,-,-,-,-⟩:=o1.own.at (by have:=HSL.out;omega);have sS:SlB W1 (some ⟨g,0,none⟩) S:=(by obtain⟨p,c,e,-,s⟩:=o1.sl;cases e;exact s);have E:=o1.ext;clear o1)
 go_upto_region 2 with(fail)
 refine wp_region_lit ?_;refine JS (R:=fun v w'=>(fun v _=>v= .tuple #[.agg (agv wA),.int .i64 0]) v w'∧Ext W1 w') rfl Kr (ZC (QAp W1)) ?_;rintro _ X2_1 ⟨rfl,gX2_1⟩;have E:=E.tr gX2_1;have sS:=sS.ext gX2_1;have eC:=Ext.rf X2_1;refine listV (v:= .tuple #[.agg (agv wA),.int .i64 0]) (w':=X2_1) rfl Kr ?_;refine listV (v:= .agg (agv wA)) (w':=X2_1) rfl Kr ?_;refine listV (v:= .int .i64 0) (w':=X2_1) rfl Kr ?_;refine listV rfl (Qz _ _ _ _ _ _ _) ?_;obtain⟨b3,e3⟩: ∃b,X2_1.heap.size=b:=⟨_,rfl⟩;obtain⟨X2_2,hX2_2⟩: ∃N,X2_1.alloc (.cells (agv agz) 27)=N:=⟨_,rfl⟩;have r3:RowZ X2_2 b3 (agv agz):=by rw [←hX2_2,←e3];exact RowZ.new _ _ _
 have l3:X2_1.heap.size≤b3:=by rw [←e3];exact eC.size
 have g1:Ext X2_1 X2_2:=by rw [←hX2_2];exact Ea
 have eC:=eC.tr g1;rw [hX2_2,e3];clear hX2_2 e3 g1;refine Zj rfl (Ze (B:=b3) (cs:=agv wA) (by rw [r3.r];exact Qg) r3.z Qg Zr Kr Kr) ?_;obtain⟨X2_3,hX2_3⟩: ∃X2_3,Qe X2_2 b3 0 (agv wA)=X2_3:=⟨_,rfl⟩;have gS:Mv (fun q=>q=b3) X2_2 X2_3:=by rw [←hX2_3];exact Mv.sa _ rfl (Mv.refl _ _)
 have r3:RowZ X2_3 b3 (agv wA):=by rw [←hX2_3];exact r3.all _ (Qg.trans Qg.symm)
 have eC:Ext X2_1 X2_3:=by rw [←hX2_3];exact Ext.sa _ l3 eC
 clear gS;rw [hX2_3];clear hX2_3;refine listV (v:= .int .i64 0) (w':=X2_3) rfl Kr ?_;refine wpList_nil ?_;have HX:=Xh eC;clear eC;have E:=E.tr HX.out;have sS:=sS.ext HX.out;clear HX l3;go_simp
 go_upto_region 3 with(fail)
 refine wp_region_lit ?_;refine JS (R:=fun v w'=>(fun v _=>v= .tuple #[.agg (agv agz),.int .i64 2]) v w'∧Ext X2_3 w') rfl Kr (ZC (QAq X2_3)) ?_;rintro _ X3_1 ⟨rfl,gX3_1⟩;have E:=E.tr gX3_1;have sS:=sS.ext gX3_1;have r3:=r3.ext gX3_1;have eC:=Ext.rf X3_1;refine listV (v:= .tuple #[.agg (agv agz),.int .i64 2]) (w':=X3_1) rfl Kr ?_;refine listV (v:= .agg (agv agz)) (w':=X3_1) rfl Kr ?_;refine listV (v:= .int .i64 2) (w':=X3_1) rfl Kr ?_;refine listV rfl (Qz _ _ _ _ _ _ _) ?_;obtain⟨b5,e5⟩: ∃b,X3_1.heap.size=b:=⟨_,rfl⟩;obtain⟨X3_2,hX3_2⟩: ∃N,X3_1.alloc (.cells (agv agz) 27)=N:=⟨_,rfl⟩;have r5:RowZ X3_2 b5 (agv agz):=by rw [←hX3_2,←e5];exact RowZ.new _ _ _
 have l5:X3_1.heap.size≤b5:=by rw [←e5];exact eC.size
 have g1:Ext X3_1 X3_2:=by rw [←hX3_2];exact Ea
 have eC:=eC.tr g1;rw [hX3_2,e5];clear hX3_2 e5 g1;refine Zj rfl (Ze (B:=b5) (cs:=agv agz) (by rw [r5.r];exact Qg) r5.z Qg Zr Kr Kr) ?_;obtain⟨X3_3,hX3_3⟩: ∃X3_3,Qe X3_2 b5 0 (agv agz)=X3_3:=⟨_,rfl⟩;have gS:Mv (fun q=>q=b5) X3_2 X3_3:=by rw [←hX3_3];exact Mv.sa _ rfl (Mv.refl _ _)
 have r5:RowZ X3_3 b5 (agv agz):=by rw [←hX3_3];exact r5.all _ (Qg.trans Qg.symm)
 have eC:Ext X3_1 X3_3:=by rw [←hX3_3];exact Ext.sa _ l5 eC
 clear gS;rw [hX3_3];clear hX3_3;refine listV (v:= .int .i64 2) (w':=X3_3) rfl Kr ?_;refine wpList_nil ?_;have HX:=Xh eC;clear eC;have E:=E.tr HX.out;have sS:=sS.ext HX.out;have r3:=r3.ext HX.out;clear HX l5;go_simp
 go_upto_region 4 with(fail)
 refine wp_region_lit ?_;refine listV (v:= .agg (agv wA)) (w':=X3_3) rfl ((Zx (C:=fun _=>False) r3 (fun h=>h) Kr) _ (Mv.refl (fun _=>False) _)) ?_;refine listV (v:= .slice (some ⟨g,0,none⟩) S.length q) (w':=X3_3) rfl Kr ?_;refine JS (R:=fun v w'=>(InW (fun p c=>{wA with p:=p,xs:= [],c:=c}) 15 [] []) v w'∧Ext X3_3 w') rfl Kr (Qy1 HSE.out sS hq) ?_;rintro _ X4_1 ⟨⟨p7,c7,ep7,ec7,sp7,sc7,rfl,-,-⟩,gX4_1⟩;have E:=E.tr gX4_1;have sS:=sS.ext gX4_1;have r3:=r3.ext gX4_1;have eC:=Ext.rf X4_1;refine listV (v:= .tuple #[.agg (agv {wA with p:=p7,xs:= [],c:=c7}),.agg (dnv ⟨15,ep7,0,ec7,sp7,0,sc7⟩)]) (w':=X4_1) rfl Kr ?_;refine listV (v:= .agg (agv {wA with p:=p7,xs:= [],c:=c7})) (w':=X4_1) rfl Kr ?_;refine listV (v:= .agg (dnv ⟨15,ep7,0,ec7,sp7,0,sc7⟩)) (w':=X4_1) rfl Kr ?_;refine listV rfl (Qz _ _ _ _ _ _ _) ?_;obtain⟨b7,e7⟩: ∃b,X4_1.heap.size=b:=⟨_,rfl⟩;obtain⟨X4_2,hX4_2⟩: ∃N,X4_1.alloc (.cells (agv agz) 27)=N:=⟨_,rfl⟩;have r7:RowZ X4_2 b7 (agv agz):=by rw [←hX4_2,←e7];exact RowZ.new _ _ _
 have l7:X4_1.heap.size≤b7:=by rw [←e7];exact eC.size
 have g1:Ext X4_1 X4_2:=by rw [←hX4_2];exact Ea
 have eC:=eC.tr g1;rw [hX4_2,e7];clear hX4_2 e7 g1;refine listV rfl (QbA _) ?_;obtain⟨b8,e8⟩: ∃b,X4_2.heap.size=b:=⟨_,rfl⟩;obtain⟨X4_3,hX4_3⟩: ∃N,X4_2.alloc (.cells (#[.int .u8 0,.slice none 0 0,.slice none 0 0]) 42)=N:=⟨_,rfl⟩;have n7_8:b7<b8:=by have:=r7.l;unfold Lt at this;omega
 have r8:RowZ X4_3 b8 (#[.int .u8 0,.slice none 0 0,.slice none 0 0]):=by rw [←hX4_3,←e8];exact RowZ.new _ _ _
 have l8:X4_1.heap.size≤b8:=by rw [←e8];exact eC.size
 have g1:Ext X4_2 X4_3:=by rw [←hX4_3];exact Ea
 have eC:=eC.tr g1;have r7:=r7.ext g1;rw [hX4_3,e8];clear hX4_3 e8 g1;refine Zj rfl (Ze (B:=b7) (cs:=agv {wA with p:=p7,xs:= [],c:=c7}) (by rw [r7.r];exact Qg) r7.z Qg Zr Kr Kr) ?_;obtain⟨X4_4,hX4_4⟩: ∃X4_4,Qe X4_3 b7 0 (agv {wA with p:=p7,xs:= [],c:=c7})=X4_4:=⟨_,rfl⟩;have gS:Mv (fun q=>q=b7) X4_3 X4_4:=by rw [←hX4_4];exact Mv.sa _ rfl (Mv.refl _ _)
 have r7:RowZ X4_4 b7 (agv {wA with p:=p7,xs:= [],c:=c7}):=by rw [←hX4_4];exact r7.all _ (Qg.trans Qg.symm)
 have eC:Ext X4_1 X4_4:=by rw [←hX4_4];exact Ext.sa _ l7 eC
 have r8:=r8.mv gS Om;clear gS;rw [hX4_4];clear hX4_4;refine Zj rfl (Yq (B:=b8) (cs:=dnv ⟨15,ep7,0,ec7,sp7,0,sc7⟩) (by rw [r8.r];rfl) r8.z rfl (by simp [go_sem,dnv]) Kr Kr) ?_;obtain⟨X4_5,hX4_5⟩: ∃X4_5,Qe X4_4 b8 0 (dnv ⟨15,ep7,0,ec7,sp7,0,sc7⟩)=X4_5:=⟨_,rfl⟩;have gS:Mv (fun q=>q=b8) X4_4 X4_5:=by rw [←hX4_5];exact Mv.sa _ rfl (Mv.refl _ _)
 have r8:RowZ X4_5 b8 (dnv ⟨15,ep7,0,ec7,sp7,0,sc7⟩):=by rw [←hX4_5];exact r8.all _ rfl
 have eC:Ext X4_1 X4_5:=by rw [←hX4_5];exact Ext.sa _ l8 eC
 have r7:=r7.mv gS Om;clear gS;rw [hX4_5];clear hX4_5;refine wpList_nil ?_;have HX:=Xh eC;clear eC;have E:=E.tr HX.out;have sS:=sS.ext HX.out;have r3:=r3.ext HX.out;clear HX l7 l8;go_simp
 go_upto_region 5 with(fail)
 refine wp_region_lit ?_;refine listV (v:= .agg (agv wA)) (w':=X4_5) rfl ((Zx (C:=fun _=>False) r3 (fun h=>h) Kr) _ (Mv.refl (fun _=>False) _)) ?_;refine listV (v:= .int .i64 13) (w':=X4_5) rfl Kr ?_;refine listV (v:= .agg (ctv wX2)) (w':=X4_5) rfl Kr ?_;refine JS (R:=fun v w'=>(Qy4) v w'∧Ext X4_5 w') rfl Kr (Qy5 X4_5) ?_;rintro _ X5_1 ⟨⟨p9,c9,q10,d10,rfl⟩,gX5_1⟩;have E:=E.tr gX5_1;have sS:=sS.ext gX5_1;have r3:=r3.ext gX5_1;have r8:=r8.ext gX5_1;have eC:=Ext.rf X5_1;refine listV (v:= .tuple #[.agg (agv (wB p9 c9)),.slice q10 0 d10,.agg (ctv ⟨4,2,2,13,1,0,0,0,0,none,0,0⟩),.bool true]) (w':=X5_1) rfl Kr ?_;refine listV (v:= .agg (agv (wB p9 c9))) (w':=X5_1) rfl Kr ?_;refine listV (v:= .slice q10 0 d10) (w':=X5_1) rfl Kr ?_;refine listV (v:= .agg (ctv ⟨4,2,2,13,1,0,0,0,0,none,0,0⟩)) (w':=X5_1) rfl Kr ?_;refine listV (v:= .bool true) (w':=X5_1) rfl Kr ?_;refine listV rfl (Qz _ _ _ _ _ _ _) ?_;obtain⟨b9,e9⟩: ∃b,X5_1.heap.size=b:=⟨_,rfl⟩;obtain⟨X5_2,hX5_2⟩: ∃N,X5_1.alloc (.cells (agv agz) 27)=N:=⟨_,rfl⟩;have r9:RowZ X5_2 b9 (agv agz):=by rw [←hX5_2,←e9];exact RowZ.new _ _ _
 have l9:X5_1.heap.size≤b9:=by rw [←e9];exact eC.size
 have g1:Ext X5_1 X5_2:=by rw [←hX5_2];exact Ea
 have eC:=eC.tr g1;rw [hX5_2,e9];clear hX5_2 e9 g1;refine listV rfl (Qdu _) ?_;obtain⟨b11,e11⟩: ∃b,X5_2.heap.size=b:=⟨_,rfl⟩;obtain⟨X5_3,hX5_3⟩: ∃N,X5_2.alloc (.cells (ctv ⟨0,0,0,0,0,0,0,0,0,none,0,0⟩) 33)=N:=⟨_,rfl⟩;have n9_11:b9<b11:=by have:=r9.l;unfold Lt at this;omega
 have r11:RowZ X5_3 b11 (ctv ⟨0,0,0,0,0,0,0,0,0,none,0,0⟩):=by rw [←hX5_3,←e11];exact RowZ.new _ _ _
 have l11:X5_1.heap.size≤b11:=by rw [←e11];exact eC.size
 have g1:Ext X5_2 X5_3:=by rw [←hX5_3];exact Ea
 have eC:=eC.tr g1;have r9:=r9.ext g1;rw [hX5_3,e11];clear hX5_3 e11 g1;refine Zj rfl (Ze (B:=b9) (cs:=agv (wB p9 c9)) (by rw [r9.r];exact Qg) r9.z Qg Zr Kr Kr) ?_;obtain⟨X5_4,hX5_4⟩: ∃X5_4,Qe X5_3 b9 0 (agv (wB p9 c9))=X5_4:=⟨_,rfl⟩;have gS:Mv (fun q=>q=b9) X5_3 X5_4:=by rw [←hX5_4];exact Mv.sa _ rfl (Mv.refl _ _)
 have r9:RowZ X5_4 b9 (agv (wB p9 c9)):=by rw [←hX5_4];exact r9.all _ (Qg.trans Qg.symm)
 have eC:Ext X5_1 X5_4:=by rw [←hX5_4];exact Ext.sa _ l9 eC
 have r11:=r11.mv gS Om;clear gS;rw [hX5_4];clear hX5_4;refine listV (v:= .slice q10 0 d10) (w':=X5_4) rfl Kr ?_;refine Zj rfl (JF (B:=b11) (cs:=ctv ⟨4,2,2,13,1,0,0,0,0,none,0,0⟩) (by rw [r11.r];exact QS) r11.z QS Qbw Kr Kr) ?_;obtain⟨X5_5,hX5_5⟩: ∃X5_5,Qe X5_4 b11 0 (ctv ⟨4,2,2,13,1,0,0,0,0,none,0,0⟩)=X5_5:=⟨_,rfl⟩;have gS:Mv (fun q=>q=b11) X5_4 X5_5:=by rw [←hX5_5];exact Mv.sa _ rfl (Mv.refl _ _)
 have r11:RowZ X5_5 b11 (ctv ⟨4,2,2,13,1,0,0,0,0,none,0,0⟩):=by rw [←hX5_5];exact r11.all _ (QS.trans QS.symm)
 have eC:Ext X5_1 X5_5:=by rw [←hX5_5];exact Ext.sa _ l11 eC
 have r9:=r9.mv gS Om;clear gS;rw [hX5_5];clear hX5_5;refine listV (v:= .bool true) (w':=X5_5) rfl Kr ?_;refine wpList_nil ?_;have HX:=Xh eC;clear eC;have E:=E.tr HX.out;have sS:=sS.ext HX.out;have r3:=r3.ext HX.out;have r8:=r8.ext HX.out;clear HX l9 l11;go_simp
 go_upto_region 6 with(fail)
 refine wp_region_lit ?_;refine listV (v:= .agg (agv wA)) (w':=X5_5) rfl ((Zx (C:=fun _=>False) r3 (fun h=>h) Kr) _ (Mv.refl (fun _=>False) _)) ?_;refine listV (v:= .int .i64 13) (w':=X5_5) rfl Kr ?_;refine listV (v:= .agg (ctv wX3)) (w':=X5_5) rfl Kr ?_;refine JS (R:=fun v w'=>(Qy6) v w'∧Ext X5_5 w') rfl Kr (Qy7 X5_5) ?_;rintro _ X6_1 ⟨⟨A13,q14,n14,d14,K15,rfl⟩,gX6_1⟩;have E:=E.tr gX6_1;have sS:=sS.ext gX6_1;have r3:=r3.ext gX6_1;have r8:=r8.ext gX6_1;have r9:=r9.ext gX6_1;have r11:=r11.ext gX6_1;have eC:=Ext.rf X6_1;refine listV (v:= .tuple #[.agg (agv A13),.slice q14 n14 d14,.agg (ctv K15),.bool false]) (w':=X6_1) rfl Kr ?_;refine listV (v:= .agg (agv A13)) (w':=X6_1) rfl Kr ?_;refine listV (v:= .slice q14 n14 d14) (w':=X6_1) rfl Kr ?_;refine listV (v:= .agg (ctv K15)) (w':=X6_1) rfl Kr ?_;refine listV (v:= .bool false) (w':=X6_1) rfl Kr ?_;refine listV rfl (Qz _ _ _ _ _ _ _) ?_;obtain⟨b13,e13⟩: ∃b,X6_1.heap.size=b:=⟨_,rfl⟩;obtain⟨X6_2,hX6_2⟩: ∃N,X6_1.alloc (.cells (agv agz) 27)=N:=⟨_,rfl⟩;have r13:RowZ X6_2 b13 (agv agz):=by rw [←hX6_2,←e13];exact RowZ.new _ _ _
 have l13:X6_1.heap.size≤b13:=by rw [←e13];exact eC.size
 have g1:Ext X6_1 X6_2:=by rw [←hX6_2];exact Ea
 have eC:=eC.tr g1;rw [hX6_2,e13];clear hX6_2 e13 g1;refine listV rfl (Qdu _) ?_;obtain⟨b15,e15⟩: ∃b,X6_2.heap.size=b:=⟨_,rfl⟩;obtain⟨X6_3,hX6_3⟩: ∃N,X6_2.alloc (.cells (ctv ⟨0,0,0,0,0,0,0,0,0,none,0,0⟩) 33)=N:=⟨_,rfl⟩;have n13_15:b13<b15:=by have:=r13.l;unfold Lt at this;omega
 have r15:RowZ X6_3 b15 (ctv ⟨0,0,0,0,0,0,0,0,0,none,0,0⟩):=by rw [←hX6_3,←e15];exact RowZ.new _ _ _
 have l15:X6_1.heap.size≤b15:=by rw [←e15];exact eC.size
 have g1:Ext X6_2 X6_3:=by rw [←hX6_3];exact Ea
 have eC:=eC.tr g1;have r13:=r13.ext g1;rw [hX6_3,e15];clear hX6_3 e15 g1;refine Zj rfl (Ze (B:=b13) (cs:=agv A13) (by rw [r13.r];exact Qg) r13.z Qg Zr Kr Kr) ?_;obtain⟨X6_4,hX6_4⟩: ∃X6_4,Qe X6_3 b13 0 (agv A13)=X6_4:=⟨_,rfl⟩;have gS:Mv (fun q=>q=b13) X6_3 X6_4:=by rw [←hX6_4];exact Mv.sa _ rfl (Mv.refl _ _)
 have r13:RowZ X6_4 b13 (agv A13):=by rw [←hX6_4];exact r13.all _ (Qg.trans Qg.symm)
 have eC:Ext X6_1 X6_4:=by rw [←hX6_4];exact Ext.sa _ l13 eC
 have r15:=r15.mv gS Om;clear gS;rw [hX6_4];clear hX6_4;refine listV (v:= .slice q14 n14 d14) (w':=X6_4) rfl Kr ?_;refine Zj rfl (JF (B:=b15) (cs:=ctv K15) (by rw [r15.r];exact QS) r15.z QS Qbw Kr Kr) ?_;obtain⟨X6_5,hX6_5⟩: ∃X6_5,Qe X6_4 b15 0 (ctv K15)=X6_5:=⟨_,rfl⟩;have gS:Mv (fun q=>q=b15) X6_4 X6_5:=by rw [←hX6_5];exact Mv.sa _ rfl (Mv.refl _ _)
 have r15:RowZ X6_5 b15 (ctv K15):=by rw [←hX6_5];exact r15.all _ (QS.trans QS.symm)
 have eC:Ext X6_1 X6_5:=by rw [←hX6_5];exact Ext.sa _ l15 eC
 have r13:=r13.mv gS Om;clear gS;rw [hX6_5];clear hX6_5;refine listV (v:= .bool false) (w':=X6_5) rfl Kr ?_;refine wpList_nil ?_;have HX:=Xh eC;clear eC;have E:=E.tr HX.out;have sS:=sS.ext HX.out;have r3:=r3.ext HX.out;have r8:=r8.ext HX.out;have r9:=r9.ext HX.out;have r11:=r11.ext HX.out;clear HX l13 l15;go_simp
 go_upto_region 7 with(fail)
 refine wp_region_lit ?_;refine listV (v:= .agg (agv (wB p9 c9))) (w':=X6_5) rfl ((Zx (C:=fun _=>False) r9 (fun h=>h) Kr) _ (Mv.refl (fun _=>False) _)) ?_;refine listV (v:= .slice (some ⟨g,0,none⟩) S.length q) (w':=X6_5) rfl Kr ?_;refine JS (R:=fun v w'=>(InW wC 0 [⟨Yd,5,5⟩] [⟨1,2,Yd⟩]) v w'∧Ext X6_5 w') rfl Kr (Qy2 HSE.out p9 c9 sS hq) ?_;rintro _ X7_1 ⟨⟨p17,c17,ep18,ec18,sp18,sc18,rfl,s17,s18⟩,gX7_1⟩;have E:=E.tr gX7_1;have sS:=sS.ext gX7_1;have r3:=r3.ext gX7_1;have r8:=r8.ext gX7_1;have r9:=r9.ext gX7_1;have r11:=r11.ext gX7_1;have eC:=Ext.rf X7_1;refine listV (v:= .tuple #[.agg (agv (wC p17 c17)),.agg (dnv ⟨0,ep18,1,ec18,sp18,0,sc18⟩)]) (w':=X7_1) rfl Kr ?_;refine listV (v:= .agg (agv (wC p17 c17))) (w':=X7_1) rfl Kr ?_;refine listV (v:= .agg (dnv ⟨0,ep18,1,ec18,sp18,0,sc18⟩)) (w':=X7_1) rfl Kr ?_;refine listV rfl (Qz _ _ _ _ _ _ _) ?_;obtain⟨b17,e17⟩: ∃b,X7_1.heap.size=b:=⟨_,rfl⟩;obtain⟨X7_2,hX7_2⟩: ∃N,X7_1.alloc (.cells (agv agz) 27)=N:=⟨_,rfl⟩;have r17:RowZ X7_2 b17 (agv agz):=by rw [←hX7_2,←e17];exact RowZ.new _ _ _
 have l17:X7_1.heap.size≤b17:=by rw [←e17];exact eC.size
 have g1:Ext X7_1 X7_2:=by rw [←hX7_2];exact Ea
 have eC:=eC.tr g1;rw [hX7_2,e17];clear hX7_2 e17 g1;refine listV rfl (QbA _) ?_;obtain⟨b18,e18⟩: ∃b,X7_2.heap.size=b:=⟨_,rfl⟩;obtain⟨X7_3,hX7_3⟩: ∃N,X7_2.alloc (.cells (#[.int .u8 0,.slice none 0 0,.slice none 0 0]) 42)=N:=⟨_,rfl⟩;have n17_18:b17<b18:=by have:=r17.l;unfold Lt at this;omega
 have r18:RowZ X7_3 b18 (#[.int .u8 0,.slice none 0 0,.slice none 0 0]):=by rw [←hX7_3,←e18];exact RowZ.new _ _ _
 have l18:X7_1.heap.size≤b18:=by rw [←e18];exact eC.size
 have g1:Ext X7_2 X7_3:=by rw [←hX7_3];exact Ea
 have eC:=eC.tr g1;have r17:=r17.ext g1;rw [hX7_3,e18];clear hX7_3 e18 g1;refine Zj rfl (Ze (B:=b17) (cs:=agv (wC p17 c17)) (by rw [r17.r];exact Qg) r17.z Qg Zr Kr Kr) ?_;obtain⟨X7_4,hX7_4⟩: ∃X7_4,Qe X7_3 b17 0 (agv (wC p17 c17))=X7_4:=⟨_,rfl⟩;have gS:Mv (fun q=>q=b17) X7_3 X7_4:=by rw [←hX7_4];exact Mv.sa _ rfl (Mv.refl _ _)
 have r17:RowZ X7_4 b17 (agv (wC p17 c17)):=by rw [←hX7_4];exact r17.all _ (Qg.trans Qg.symm)
 have eC:Ext X7_1 X7_4:=by rw [←hX7_4];exact Ext.sa _ l17 eC
 have r18:=r18.mv gS Om;clear gS;rw [hX7_4];clear hX7_4;refine Zj rfl (Yq (B:=b18) (cs:=dnv ⟨0,ep18,1,ec18,sp18,0,sc18⟩) (by rw [r18.r];rfl) r18.z rfl (by simp [go_sem,dnv]) Kr Kr) ?_;obtain⟨X7_5,hX7_5⟩: ∃X7_5,Qe X7_4 b18 0 (dnv ⟨0,ep18,1,ec18,sp18,0,sc18⟩)=X7_5:=⟨_,rfl⟩;have gS:Mv (fun q=>q=b18) X7_4 X7_5:=by rw [←hX7_5];exact Mv.sa _ rfl (Mv.refl _ _)
 have r18:RowZ X7_5 b18 (dnv ⟨0,ep18,1,ec18,sp18,0,sc18⟩):=by rw [←hX7_5];exact r18.all _ rfl
 have eC:Ext X7_1 X7_5:=by rw [←hX7_5];exact Ext.sa _ l18 eC
 have r17:=r17.mv gS Om;clear gS;rw [hX7_5];clear hX7_5;refine wpList_nil ?_;have HX:=Xh eC;clear eC;have E:=E.tr HX.out;have sS:=sS.ext HX.out;have r3:=r3.ext HX.out;have r8:=r8.ext HX.out;have r9:=r9.ext HX.out;have r11:=r11.ext HX.out;have s17:=s17.ext HX.out;have s18:=s18.ext HX.out;clear HX l17 l18;go_simp
 go_upto_region 8 with(fail)
 refine wp_region_lit ?_;refine listV (v:= .agg (agv (wC p17 c17))) (w':=X7_5) rfl ((Zx (C:=fun _=>False) r17 (fun h=>h) Kr) _ (Mv.refl (fun _=>False) _)) ?_;refine listV (v:= .slice (some ⟨g,0,none⟩) S.length q) (w':=X7_5) rfl Kr ?_;refine JS (R:=fun v w'=>(InW wD 0 [⟨Yd,5,6⟩] [⟨2,2,Yd⟩]) v w'∧Ext X7_5 w') rfl Kr (Qy3 HSE.out p17 c17 s17 sS hq) ?_;rintro _ X8_1 ⟨⟨p19,c19,ep20,ec20,sp20,sc20,rfl,s19,s20⟩,gX8_1⟩;have E:=E.tr gX8_1;have sS:=sS.ext gX8_1;have r3:=r3.ext gX8_1;have r8:=r8.ext gX8_1;have r9:=r9.ext gX8_1;have r11:=r11.ext gX8_1;have s17:=s17.ext gX8_1;have s18:=s18.ext gX8_1;have r17:=r17.ext gX8_1;have r18:=r18.ext gX8_1;have eC:=Ext.rf X8_1;refine listV (v:= .tuple #[.agg (agv (wD p19 c19)),.agg (dnv ⟨0,ep20,1,ec20,sp20,0,sc20⟩)]) (w':=X8_1) rfl Kr ?_;refine listV (v:= .agg (agv (wD p19 c19))) (w':=X8_1) rfl Kr ?_;refine listV (v:= .agg (dnv ⟨0,ep20,1,ec20,sp20,0,sc20⟩)) (w':=X8_1) rfl Kr ?_;refine listV rfl (Qz _ _ _ _ _ _ _) ?_;obtain⟨b19,e19⟩: ∃b,X8_1.heap.size=b:=⟨_,rfl⟩;obtain⟨X8_2,hX8_2⟩: ∃N,X8_1.alloc (.cells (agv agz) 27)=N:=⟨_,rfl⟩;have r19:RowZ X8_2 b19 (agv agz):=by rw [←hX8_2,←e19];exact RowZ.new _ _ _
 have l19:X8_1.heap.size≤b19:=by rw [←e19];exact eC.size
 have g1:Ext X8_1 X8_2:=by rw [←hX8_2];exact Ea
 have eC:=eC.tr g1;rw [hX8_2,e19];clear hX8_2 e19 g1;refine listV rfl (QbA _) ?_;obtain⟨b20,e20⟩: ∃b,X8_2.heap.size=b:=⟨_,rfl⟩;obtain⟨X8_3,hX8_3⟩: ∃N,X8_2.alloc (.cells (#[.int .u8 0,.slice none 0 0,.slice none 0 0]) 42)=N:=⟨_,rfl⟩;have n19_20:b19<b20:=by have:=r19.l;unfold Lt at this;omega
 have r20:RowZ X8_3 b20 (#[.int .u8 0,.slice none 0 0,.slice none 0 0]):=by rw [←hX8_3,←e20];exact RowZ.new _ _ _
 have l20:X8_1.heap.size≤b20:=by rw [←e20];exact eC.size
 have g1:Ext X8_2 X8_3:=by rw [←hX8_3];exact Ea
 have eC:=eC.tr g1;have r19:=r19.ext g1;rw [hX8_3,e20];clear hX8_3 e20 g1;refine Zj rfl (Ze (B:=b19) (cs:=agv (wD p19 c19)) (by rw [r19.r];exact Qg) r19.z Qg Zr Kr Kr) ?_;obtain⟨X8_4,hX8_4⟩: ∃X8_4,Qe X8_3 b19 0 (agv (wD p19 c19))=X8_4:=⟨_,rfl⟩;have gS:Mv (fun q=>q=b19) X8_3 X8_4:=by rw [←hX8_4];exact Mv.sa _ rfl (Mv.refl _ _)
 have r19:RowZ X8_4 b19 (agv (wD p19 c19)):=by rw [←hX8_4];exact r19.all _ (Qg.trans Qg.symm)
 have eC:Ext X8_1 X8_4:=by rw [←hX8_4];exact Ext.sa _ l19 eC
 have r20:=r20.mv gS Om;clear gS;rw [hX8_4];clear hX8_4;refine Zj rfl (Yq (B:=b20) (cs:=dnv ⟨0,ep20,1,ec20,sp20,0,sc20⟩) (by rw [r20.r];rfl) r20.z rfl (by simp [go_sem,dnv]) Kr Kr) ?_;obtain⟨X8_5,hX8_5⟩: ∃X8_5,Qe X8_4 b20 0 (dnv ⟨0,ep20,1,ec20,sp20,0,sc20⟩)=X8_5:=⟨_,rfl⟩;have gS:Mv (fun q=>q=b20) X8_4 X8_5:=by rw [←hX8_5];exact Mv.sa _ rfl (Mv.refl _ _)
 have r20:RowZ X8_5 b20 (dnv ⟨0,ep20,1,ec20,sp20,0,sc20⟩):=by rw [←hX8_5];exact r20.all _ rfl
 have eC:Ext X8_1 X8_5:=by rw [←hX8_5];exact Ext.sa _ l20 eC
 have r19:=r19.mv gS Om;clear gS;rw [hX8_5];clear hX8_5;refine wpList_nil ?_;have HX:=Xh eC;clear eC;have E:=E.tr HX.out;have sS:=sS.ext HX.out;have r3:=r3.ext HX.out;have r8:=r8.ext HX.out;have r9:=r9.ext HX.out;have r11:=r11.ext HX.out;have s17:=s17.ext HX.out;have s18:=s18.ext HX.out;have r17:=r17.ext HX.out;have r18:=r18.ext HX.out;have s19:=s19.ext HX.out;have s20:=s20.ext HX.out;clear HX l19 l20;go_simp
 go_upto_region 9 with(fail)
 refine wp_region_lit ?_;refine listV (v:= .agg (agv (wD p19 c19))) (w':=X8_5) rfl ((Zx (C:=fun _=>False) r19 (fun h=>h) Kr) _ (Mv.refl (fun _=>False) _)) ?_;refine JS (R:=fun v w'=>(TiW wD [⟨Yd,5,6⟩] []) v w'∧Ext X8_5 w') rfl Kr (Qv8 p19 c19 X8_5 s19) ?_;rintro _ X9_1 ⟨⟨p21,c21,q22,d22,rfl,s21,-⟩,gX9_1⟩;have E:=E.tr gX9_1;have sS:=sS.ext gX9_1;have r3:=r3.ext gX9_1;have r8:=r8.ext gX9_1;have r9:=r9.ext gX9_1;have r11:=r11.ext gX9_1;have s17:=s17.ext gX9_1;have s18:=s18.ext gX9_1;have r17:=r17.ext gX9_1;have r18:=r18.ext gX9_1;have s19:=s19.ext gX9_1;have s20:=s20.ext gX9_1;have r19:=r19.ext gX9_1;have r20:=r20.ext gX9_1;have eC:=Ext.rf X9_1;refine listV (v:= .tuple #[.agg (agv (wD p21 c21)),.slice q22 0 d22]) (w':=X9_1) rfl Kr ?_;refine listV (v:= .agg (agv (wD p21 c21))) (w':=X9_1) rfl Kr ?_;refine listV (v:= .slice q22 0 d22) (w':=X9_1) rfl Kr ?_;refine listV rfl (Qz _ _ _ _ _ _ _) ?_;obtain⟨b21,e21⟩: ∃b,X9_1.heap.size=b:=⟨_,rfl⟩;obtain⟨X9_2,hX9_2⟩: ∃N,X9_1.alloc (.cells (agv agz) 27)=N:=⟨_,rfl⟩;have r21:RowZ X9_2 b21 (agv agz):=by rw [←hX9_2,←e21];exact RowZ.new _ _ _
 have l21:X9_1.heap.size≤b21:=by rw [←e21];exact eC.size
 have g1:Ext X9_1 X9_2:=by rw [←hX9_2];exact Ea
 have eC:=eC.tr g1;rw [hX9_2,e21];clear hX9_2 e21 g1;refine Zj rfl (Ze (B:=b21) (cs:=agv (wD p21 c21)) (by rw [r21.r];exact Qg) r21.z Qg Zr Kr Kr) ?_;obtain⟨X9_3,hX9_3⟩: ∃X9_3,Qe X9_2 b21 0 (agv (wD p21 c21))=X9_3:=⟨_,rfl⟩;have gS:Mv (fun q=>q=b21) X9_2 X9_3:=by rw [←hX9_3];exact Mv.sa _ rfl (Mv.refl _ _)
 have r21:RowZ X9_3 b21 (agv (wD p21 c21)):=by rw [←hX9_3];exact r21.all _ (Qg.trans Qg.symm)
 have eC:Ext X9_1 X9_3:=by rw [←hX9_3];exact Ext.sa _ l21 eC
 clear gS;rw [hX9_3];clear hX9_3;refine listV (v:= .slice q22 0 d22) (w':=X9_3) rfl Kr ?_;refine wpList_nil ?_;have HX:=Xh eC;clear eC;have E:=E.tr HX.out;have sS:=sS.ext HX.out;have r3:=r3.ext HX.out;have r8:=r8.ext HX.out;have r9:=r9.ext HX.out;have r11:=r11.ext HX.out;have s17:=s17.ext HX.out;have s18:=s18.ext HX.out;have r17:=r17.ext HX.out;have r18:=r18.ext HX.out;have s19:=s19.ext HX.out;have s20:=s20.ext HX.out;have r19:=r19.ext HX.out;have r20:=r20.ext HX.out;have s21:=s21.ext HX.out;clear HX l21;go_simp
 go_upto_region 10 with(fail)
 refine wp_region_lit ?_;refine listV (v:= .agg (agv (wD p19 c19))) (w':=X9_3) rfl ((Zx (C:=fun _=>False) r19 (fun h=>h) Kr) _ (Mv.refl (fun _=>False) _)) ?_;refine JS (R:=fun v w'=>(TiW wE [] [⟨4,2,Yd⟩]) v w'∧Ext X9_3 w') rfl Kr (Qv9 p19 c19 X9_3 s19) ?_;rintro _ X10_1 ⟨⟨p23,c23,q24,d24,rfl,-,s24⟩,gX10_1⟩;have E:=E.tr gX10_1;have sS:=sS.ext gX10_1;have r3:=r3.ext gX10_1;have r8:=r8.ext gX10_1;have r9:=r9.ext gX10_1;have r11:=r11.ext gX10_1;have s17:=s17.ext gX10_1;have s18:=s18.ext gX10_1;have r17:=r17.ext gX10_1;have r18:=r18.ext gX10_1;have s19:=s19.ext gX10_1;have s20:=s20.ext gX10_1;have r19:=r19.ext gX10_1;have r20:=r20.ext gX10_1;have s21:=s21.ext gX10_1;have r21:=r21.ext gX10_1;have eC:=Ext.rf X10_1;refine listV (v:= .tuple #[.agg (agv (wE p23 c23)),.slice q24 1 d24]) (w':=X10_1) rfl Kr ?_;refine listV (v:= .agg (agv (wE p23 c23))) (w':=X10_1) rfl Kr ?_;refine listV (v:= .slice q24 1 d24) (w':=X10_1) rfl Kr ?_;refine listV rfl (Qz _ _ _ _ _ _ _) ?_;obtain⟨b23,e23⟩: ∃b,X10_1.heap.size=b:=⟨_,rfl⟩;obtain⟨X10_2,hX10_2⟩: ∃N,X10_1.alloc (.cells (agv agz) 27)=N:=⟨_,rfl⟩;have r23:RowZ X10_2 b23 (agv agz):=by rw [←hX10_2,←e23];exact RowZ.new _ _ _
 have l23:X10_1.heap.size≤b23:=by rw [←e23];exact eC.size
 have g1:Ext X10_1 X10_2:=by rw [←hX10_2];exact Ea
 have eC:=eC.tr g1;rw [hX10_2,e23];clear hX10_2 e23 g1;refine Zj rfl (Ze (B:=b23) (cs:=agv (wE p23 c23)) (by rw [r23.r];exact Qg) r23.z Qg Zr Kr Kr) ?_;obtain⟨X10_3,hX10_3⟩: ∃X10_3,Qe X10_2 b23 0 (agv (wE p23 c23))=X10_3:=⟨_,rfl⟩;have gS:Mv (fun q=>q=b23) X10_2 X10_3:=by rw [←hX10_3];exact Mv.sa _ rfl (Mv.refl _ _)
 have r23:RowZ X10_3 b23 (agv (wE p23 c23)):=by rw [←hX10_3];exact r23.all _ (Qg.trans Qg.symm)
 have eC:Ext X10_1 X10_3:=by rw [←hX10_3];exact Ext.sa _ l23 eC
 clear gS;rw [hX10_3];clear hX10_3;refine listV (v:= .slice q24 1 d24) (w':=X10_3) rfl Kr ?_;refine wpList_nil ?_;have HX:=Xh eC;clear eC;have E:=E.tr HX.out;have sS:=sS.ext HX.out;have r3:=r3.ext HX.out;have r8:=r8.ext HX.out;have r9:=r9.ext HX.out;have r11:=r11.ext HX.out;have s17:=s17.ext HX.out;have s18:=s18.ext HX.out;have r17:=r17.ext HX.out;have r18:=r18.ext HX.out;have s19:=s19.ext HX.out;have s20:=s20.ext HX.out;have r19:=r19.ext HX.out;have r20:=r20.ext HX.out;have s21:=s21.ext HX.out;have r21:=r21.ext HX.out;have s24:=s24.ext HX.out;clear HX l23;go_simp;obtain⟨be18,oe18,rfl,z18⟩:=s18.evb;clear s18;obtain⟨be20,oe20,rfl,z20⟩:=s20.evb;clear s20;obtain⟨be24,oe24,rfl,z24⟩:=s24.evb;clear s24;have x18:X10_3.cell? ⟨b18,1,none⟩=some (.slice (some ⟨be18,oe18,none⟩) 1 ec18):=r18.cell 1 (by show 1<3;omega);have x20:X10_3.cell? ⟨b20,1,none⟩=some (.slice (some ⟨be20,oe20,none⟩) 1 ec20):=r20.cell 1 (by show 1<3;omega);have x17:X10_3.cell? ⟨b17,66,none⟩=some (.slice p17 1 c17):=by rw [Qa,r17.r];exact Qu _
 have HC:=Xh (And.intro E (And.intro r8 (And.intro r9 (And.intro r11 (And.intro s17 (And.intro z18 (And.intro r17 (And.intro r18 (And.intro s19 (And.intro z20 (And.intro r19 (And.intro r20 (And.intro s21 (And.intro r21 (And.intro z24 r23)))))))))))))));clear E r8 r9 r11 s17 z18 r17 r18 s19 z20 r19 r20 s21 r21 z24 r23 sS r3
 go_upto_region 13 with(fail)
 obtain⟨E,r8,r9,r11,s17,z18,r17,r18,s19,z20,r19,r20,s21,r21,z24,r23⟩:=HC.out;clear HC x18 x20 x17;refine QO (fun _=>False) Kr ?_;obtain⟨WW,hW⟩: ∃Wdr,World.drew X10_3=Wdr:=⟨_,rfl⟩;have gD:Ext X10_3 WW:=by rw [←hW];exact Ext.dr (Ext.rf _)
 rw [hW];clear hW;have E:=E.tr gD;have r8:=r8.ext gD;have r9:=r9.ext gD;have r11:=r11.ext gD;have s17:=s17.ext gD;have z18:=z18.ext gD;have r17:=r17.ext gD;have r18:=r18.ext gD;have s19:=s19.ext gD;have z20:=z20.ext gD;have r19:=r19.ext gD;have r20:=r20.ext gD;have s21:=s21.ext gD;have r21:=r21.ext gD;have z24:=z24.ext gD;have r23:=r23.ext gD;refine QaH (N:=107) (R:=Qrc) (E:=((Tryz.f9.body.bind (Qh 13)).getD #[])) Kr Qle Kr fun hS=> ?_;have hT:=hS.2.1;refine tMk 1 (.int .i64 0) hS.1 hT rfl fun hT=>tMk 3 (.bool true) hS.1 hT rfl fun hT=>tMk 7 (.bool true) hS.1 hT rfl fun hT=>tMk 15 (.int .i64 2) hS.1 hT rfl fun hT=>tMk 31 (.bool true) hS.1 hT rfl fun hT=>tMk 63 (.bool true) hS.1 hT rfl fun hT=>tMk 127 (.bool true) hS.1 hT rfl fun hT=>tMk 255 (.pointer (some ⟨b8,0,none⟩)) hS.1 hT rfl fun hT=>tM 511 (.int .u8 15) hS.1 hT rfl (Yv (C:=fun _=>False) (r8.cell 0 (by show 0<3;omega)) r8.l (fun h=>h) Kr) fun hT=>tMk 1023 (.bool true) hS.1 hT rfl fun hT=>tMk 2047 (.bool true) hS.1 hT rfl fun hT=>tMk 4095 (.bool true) hS.1 hT rfl fun hT=>tMk 8191 (.slice q10 0 d10) hS.1 hT rfl fun hT=>tMk 16383 (.int .i64 0) hS.1 hT rfl fun hT=> ?_;have hT:=hS.2.2.1;refine tMk 32767 (.bool true) hS.1 hT rfl fun hT=>tMk 65535 (.bool true) hS.1 hT rfl fun hT=>tMk 131071 (.bool true) hS.1 hT rfl fun hT=>tMk 262143 (.bool true) hS.1 hT rfl fun hT=>tMk 524287 (.bool true) hS.1 hT rfl fun hT=>tMk 1048575 (.bool true) hS.1 hT rfl fun hT=>tMk 2097151 (.pointer (some ⟨b11,0,none⟩)) hS.1 hT rfl fun hT=>tM 4194303 (.int .u8 4) hS.1 hT rfl (Yv (C:=fun _=>False) (r11.cell 0 (by show 0<10;omega)) r11.l (fun h=>h) Kr) fun hT=>tMk 8388607 (.bool true) hS.1 hT rfl fun hT=>tMk 16777215 (.bool true) hS.1 hT rfl fun hT=>tMk 33554431 (.bool true) hS.1 hT rfl fun hT=>tMk 67108863 (.pointer (some ⟨b11,1,none⟩)) hS.1 hT rfl fun hT=>tM 134217727 (.int .u8 2) hS.1 hT rfl (Yv (C:=fun _=>False) (r11.cell 1 (by show 1<10;omega)) r11.l (fun h=>h) Kr) fun hT=>tMk 268435455 (.bool true) hS.1 hT rfl fun hT=> ?_;have hT:=hS.2.2.2.1;refine tMk 536870911 (.bool true) hS.1 hT rfl fun hT=>tMk 1073741823 (.bool true) hS.1 hT rfl fun hT=>tMk 2147483647 (.pointer (some ⟨b11,4,none⟩)) hS.1 hT rfl fun hT=>tM 4294967295 (.int .i64 1) hS.1 hT rfl (Q0 (C:=fun _=>False) (r11.cell 4 (by show 4<10;omega)) r11.l (fun h=>h) Kr) fun hT=>tMk 8589934591 (.bool true) hS.1 hT rfl fun hT=>tMk 17179869183 (.bool true) hS.1 hT rfl fun hT=>tMk 34359738367 (.bool true) hS.1 hT rfl fun hT=>tMk 68719476735 (.bool false) hS.1 hT rfl fun hT=>tMk 137438953471 (.bool true) hS.1 hT rfl fun hT=>tMk 274877906943 (.bool true) hS.1 hT rfl fun hT=>tMk 549755813887 (.bool true) hS.1 hT rfl fun hT=>tMk 1099511627775 (.pointer (some ⟨b18,1,none⟩)) hS.1 hT rfl fun hT=>tM 2199023255551 (.slice (some ⟨be18,oe18,none⟩) 1 ec18) hS.1 hT rfl (QaF (C:=fun _=>False) (r18.cell 1 (by show 1<3;omega)) r18.l (fun h=>h) Kr) fun hT=>tM 4398046511103 (.pointer (some ⟨be18,oe18,none⟩)) hS.1 hT rfl (fun w' _=>QbB (b:=be18) (o:=oe18) (c:=ec18) Kr Kr w') fun hT=> ?_;have hT:=hS.2.2.2.2.1;refine tMk 8796093022207 (.pointer (some ⟨be18,oe18,none⟩)) hS.1 hT rfl fun hT=>tM 17592186044415 (.int .u8 1) hS.1 hT rfl (Yv (C:=fun _=>False) (z18.cell0) z18.lt (fun h=>h) Kr) fun hT=>tMk 35184372088831 (.bool true) hS.1 hT rfl fun hT=>tMk 70368744177663 (.bool true) hS.1 hT rfl fun hT=>tMk 140737488355327 (.bool true) hS.1 hT rfl fun hT=>tMk 281474976710655 (.pointer (some ⟨b18,1,none⟩)) hS.1 hT rfl fun hT=>tM 562949953421311 (.slice (some ⟨be18,oe18,none⟩) 1 ec18) hS.1 hT rfl (QaF (C:=fun _=>False) (r18.cell 1 (by show 1<3;omega)) r18.l (fun h=>h) Kr) fun hT=>tM 1125899906842623 (.pointer (some ⟨be18,oe18,none⟩)) hS.1 hT rfl (fun w' _=>QbB (b:=be18) (o:=oe18) (c:=ec18) Kr Kr w') fun hT=>tMk 2251799813685247 (.pointer (some ⟨be18,oe18+1,none⟩)) hS.1 hT rfl fun hT=>tM 4503599627370495 (.int .i64 2) hS.1 hT rfl (Q0 (C:=fun _=>False) z18.cell1 z18.lt (fun h=>h) Kr) fun hT=>tMk 9007199254740991 (.bool true) hS.1 hT rfl fun hT=>tMk 18014398509481983 (.bool true) hS.1 hT rfl fun hT=>tMk 36028797018963967 (.bool true) hS.1 hT rfl fun hT=>tMk 72057594037927935 (.pointer (some ⟨b20,1,none⟩)) hS.1 hT rfl fun hT=> ?_;have hT:=hS.2.2.2.2.2.1;refine tM 144115188075855871 (.slice (some ⟨be20,oe20,none⟩) 1 ec20) hS.1 hT rfl (QaF (C:=fun _=>False) (r20.cell 1 (by show 1<3;omega)) r20.l (fun h=>h) Kr) fun hT=>tM 288230376151711743 (.pointer (some ⟨be20,oe20,none⟩)) hS.1 hT rfl (fun w' _=>QbB (b:=be20) (o:=oe20) (c:=ec20) Kr Kr w') fun hT=>tMk 576460752303423487 (.pointer (some ⟨be20,oe20,none⟩)) hS.1 hT rfl fun hT=>tM 1152921504606846975 (.int .u8 2) hS.1 hT rfl (Yv (C:=fun _=>False) (z20.cell0) z20.lt (fun h=>h) Kr) fun hT=>tMk 2305843009213693951 (.bool true) hS.1 hT rfl fun hT=>tMk 4611686018427387903 (.bool true) hS.1 hT rfl fun hT=>tMk 9223372036854775807 (.bool true) hS.1 hT rfl fun hT=>tM 18446744073709551615 (.agg (agv (wD p21 c21))) hS.1 hT rfl (Zx (C:=fun _=>False) r21 (fun h=>h) Kr) fun hT=>tM 36893488147419103231 (.agg (agv (wD p19 c19))) hS.1 hT rfl (Zx (C:=fun _=>False) r19 (fun h=>h) Kr) fun hT=> ?_;refine sM 73786976294838206463 (fun v _=>v= .bool true) hS.2.2.2.2.2.2.1 rfl (ZC (Qy8 p21 p19 c21 c19 WW s21 s19)) ?_;rintro _ WY1 gWY1 rfl;have E:=E.tr gWY1;have r8:=r8.ext gWY1;have r9:=r9.ext gWY1;have r11:=r11.ext gWY1;have s17:=s17.ext gWY1;have z18:=z18.ext gWY1;have r17:=r17.ext gWY1;have r18:=r18.ext gWY1;have s19:=s19.ext gWY1;have z20:=z20.ext gWY1;have r19:=r19.ext gWY1;have r20:=r20.ext gWY1;have s21:=s21.ext gWY1;have r21:=r21.ext gWY1;have z24:=z24.ext gWY1;have r23:=r23.ext gWY1;have hT:=hS.2.2.2.2.2.2.2.1;refine tMk 147573952589676412927 (.bool true) hS.1 hT rfl fun hT=>tMk 295147905179352825855 (.bool true) hS.1 hT rfl fun hT=>tMk 590295810358705651711 (.slice q22 0 d22) hS.1 hT rfl fun hT=>tMk 1180591620717411303423 (.int .i64 0) hS.1 hT rfl fun hT=>tMk 2361183241434822606847 (.bool true) hS.1 hT rfl fun hT=>tMk 4722366482869645213695 (.bool true) hS.1 hT rfl fun hT=>tMk 9444732965739290427391 (.bool true) hS.1 hT rfl fun hT=>tMk 18889465931478580854783 (.slice (some ⟨be24,oe24,none⟩) 1 d24) hS.1 hT rfl fun hT=>tM 37778931862957161709567 (.pointer (some ⟨be24,oe24,none⟩)) hS.1 hT rfl (fun w' _=>QbB (b:=be24) (o:=oe24) (c:=d24) Kr Kr w') fun hT=>tMk 75557863725914323419135 (.pointer (some ⟨be24,oe24,none⟩)) hS.1 hT rfl fun hT=>tM 151115727451828646838271 (.int .u8 4) hS.1 hT rfl (Yv (C:=fun _=>False) (z24.cell0) z24.lt (fun h=>h) Kr) fun hT=>tMk 302231454903657293676543 (.bool true) hS.1 hT rfl fun hT=>tMk 604462909807314587353087 (.bool true) hS.1 hT rfl fun hT=>tMk 1208925819614629174706175 (.bool true) hS.1 hT rfl fun hT=> ?_;have hT:=hS.2.2.2.2.2.2.2.2.1;refine tMk 2417851639229258349412351 (.pointer (some ⟨b23,66,none⟩)) hS.1 hT rfl fun hT=>tM 4835703278458516698824703 (.slice p23 0 c23) hS.1 hT rfl (QaB (C:=fun _=>False) (by rw [Qa,r23.r];exact Qu _) r23.l (fun h=>h) Kr) fun hT=>tMk 9671406556917033397649407 (.int .i64 0) hS.1 hT rfl fun hT=>tMk 19342813113834066795298815 (.bool true) hS.1 hT rfl fun hT=>tMk 38685626227668133590597631 (.bool true) hS.1 hT rfl fun hT=>tMk 77371252455336267181195263 (.bool true) hS.1 hT rfl fun hT=>tM 154742504910672534362390527 (.agg (agv (wC p17 c17))) hS.1 hT rfl (Zx (C:=fun _=>False) r17 (fun h=>h) Kr) fun hT=> ?_;refine sM 309485009821345068724781055 (fun v _=>v= .bool true) hS.2.2.2.2.2.2.2.2.2.1 rfl (ZC (Qzb p17 c17 WY1 s17)) ?_;rintro _ WY2 gWY2 rfl;have E:=E.tr gWY2;have r8:=r8.ext gWY2;have r9:=r9.ext gWY2;have r11:=r11.ext gWY2;have s17:=s17.ext gWY2;have z18:=z18.ext gWY2;have r17:=r17.ext gWY2;have r18:=r18.ext gWY2;have s19:=s19.ext gWY2;have z20:=z20.ext gWY2;have r19:=r19.ext gWY2;have r20:=r20.ext gWY2;have s21:=s21.ext gWY2;have r21:=r21.ext gWY2;have z24:=z24.ext gWY2;have r23:=r23.ext gWY2;have hT:=hS.2.2.2.2.2.2.2.2.2.2.1;refine tMk 618970019642690137449562111 (.bool true) hS.1 hT rfl fun hT=>tMk 1237940039285380274899124223 (.bool true) hS.1 hT rfl fun hT=>tMk 2475880078570760549798248447 (.agg (agv agz)) hS.1 hT rfl fun hT=> ?_;refine sM 4951760157141521099596496895 (fun v _=>v= .bool false) hS.2.2.2.2.2.2.2.2.2.2.2.1 rfl (ZC (Qzc WY2)) ?_;rintro _ WY3 gWY3 rfl;have E:=E.tr gWY3;have r8:=r8.ext gWY3;have r9:=r9.ext gWY3;have r11:=r11.ext gWY3;have s17:=s17.ext gWY3;have z18:=z18.ext gWY3;have r17:=r17.ext gWY3;have r18:=r18.ext gWY3;have s19:=s19.ext gWY3;have z20:=z20.ext gWY3;have r19:=r19.ext gWY3;have r20:=r20.ext gWY3;have s21:=s21.ext gWY3;have r21:=r21.ext gWY3;have z24:=z24.ext gWY3;have r23:=r23.ext gWY3;have hT:=hS.2.2.2.2.2.2.2.2.2.2.2.2.1;refine tMk 9903520314283042199192993791 (.bool true) hS.1 hT rfl fun hT=>tMk 19807040628566084398385987583 (.bool true) hS.1 hT rfl fun hT=>tMk 39614081257132168796771975167 (.bool true) hS.1 hT rfl fun hT=>tM 79228162514264337593543950335 (.agg (agv (wC p17 c17))) hS.1 hT rfl (Zx (C:=fun _=>False) r17 (fun h=>h) Kr) fun hT=>tM 237684487542793012780631851007 (.agg (agv (wC p17 c17))) hS.1 hT rfl (Zx (C:=fun _=>False) r17 (fun h=>h) Kr) fun hT=> ?_;refine sM 316912650057057350374175801343 (OwW) hS.2.2.2.2.2.2.2.2.2.2.2.2.2.1 rfl (QAr p17 c17 WY3 s17) ?_;rintro _ WY4 gWY4 ⟨pO,cO,rfl,sO⟩;have E:=E.tr gWY4;have r8:=r8.ext gWY4;have r9:=r9.ext gWY4;have r11:=r11.ext gWY4;have s17:=s17.ext gWY4;have z18:=z18.ext gWY4;have r17:=r17.ext gWY4;have r18:=r18.ext gWY4;have s19:=s19.ext gWY4;have z20:=z20.ext gWY4;have r19:=r19.ext gWY4;have r20:=r20.ext gWY4;have s21:=s21.ext gWY4;have r21:=r21.ext gWY4;have z24:=z24.ext gWY4;have r23:=r23.ext gWY4;refine sM 633825300114114700748351602687 (fun v _=>v= .bool true) hS.2.2.2.2.2.2.2.2.2.2.2.2.2.2.1 rfl (ZC (Qy9 pO p17 cO c17 WY4 sO s17)) ?_;rintro _ WY5 gWY5 rfl;have E:=E.tr gWY5;have r8:=r8.ext gWY5;have r9:=r9.ext gWY5;have r11:=r11.ext gWY5;have s17:=s17.ext gWY5;have z18:=z18.ext gWY5;have r17:=r17.ext gWY5;have r18:=r18.ext gWY5;have s19:=s19.ext gWY5;have z20:=z20.ext gWY5;have r19:=r19.ext gWY5;have r20:=r20.ext gWY5;have s21:=s21.ext gWY5;have r21:=r21.ext gWY5;have z24:=z24.ext gWY5;have r23:=r23.ext gWY5;have sO:=sO.ext gWY5;have hT:=hS.2.2.2.2.2.2.2.2.2.2.2.2.2.2.2.1;refine tMk 1267650600228229401496703205375 (.bool true) hS.1 hT rfl fun hT=>tMk 2535301200456458802993406410751 (.bool true) hS.1 hT rfl fun hT=>tM 5070602400912917605986812821503 (.agg (agv (wC p17 c17))) hS.1 hT rfl (Zx (C:=fun _=>False) r17 (fun h=>h) Kr) fun hT=>tM 10141204801825835211973625643007 (.agg (agv (wB p9 c9))) hS.1 hT rfl (Zx (C:=fun _=>False) r9 (fun h=>h) Kr) fun hT=> ?_;refine sM 20282409603651670423947251286015 (fun v _=>v= .bool false) hS.2.2.2.2.2.2.2.2.2.2.2.2.2.2.2.2.1 rfl (ZC (Qza p17 p9 c17 c9 WY5 s17)) ?_;rintro _ WY6 gWY6 rfl;have E:=E.tr gWY6;have r8:=r8.ext gWY6;have r9:=r9.ext gWY6;have r11:=r11.ext gWY6;have s17:=s17.ext gWY6;have z18:=z18.ext gWY6;have r17:=r17.ext gWY6;have r18:=r18.ext gWY6;have s19:=s19.ext gWY6;have z20:=z20.ext gWY6;have r19:=r19.ext gWY6;have r20:=r20.ext gWY6;have s21:=s21.ext gWY6;have r21:=r21.ext gWY6;have z24:=z24.ext gWY6;have r23:=r23.ext gWY6;have sO:=sO.ext gWY6;have hT:=hS.2.2.2.2.2.2.2.2.2.2.2.2.2.2.2.2.2.1;refine tMk 40564819207303340847894502572031 (.bool true) hS.1 hT rfl fun hT=>tMk 81129638414606681695789005144063 (.bool true) hS.1 hT rfl fun hT=>tMk 162259276829213363391578010288127 (.bool true) hS.1 hT rfl fun hT=> ?_;refine doneK hS.2.2.2.2.2.2.2.2.2.2.2.2.2.2.2.2.2.2 ?_;clear hS hT;have HE:=Xh E;clear E;go_simp;go_wp2;go_ret;exact⟨rfl,HE.out⟩
theorem Qja(p:Option Addr)(xs:List Co)(c:Nat)(w:World)(hs:SlC w p xs)(hl:xs.length≤9223372036854775807)(hr: ∀x∈xs,TuR x.t):
  Cr 77 #[.slice p xs.length c] w (.bool (QJ xs)):=by
 have HRR:=Xh hr;clear hr
 go_enter Tryz.func77,Tryz.ntmps77
 go_wp2
 go_loopw [3] (fun a wr=> ∃k:Nat,k≤xs.length∧a= .int .i64 k∧QcY xs k∧Ext w wr) (fun a _=>xs.length- (intOf a).toNat)
 case atStart=>exact⟨0,Nat.zero_le _,rfl,(fun j hj=>absurd hj (Nat.not_lt_zero _)),Ext.rf _⟩
 case round=>
  obtain⟨k,hk,rfl,hG,hE⟩:=hrel
  by_cases hlt:k<xs.length
  ·have hil:(k:Int)<xs.length:=by omega
   obtain⟨b,off,rfl,lb,c0,c1,c2,c3,c4,c5⟩:=(hs.ext hE) k hlt;obtain⟨x,hx⟩: ∃x,xs[k]=x:=⟨_,rfl⟩;have hx':xs[k]?=some x:=by rw [List.getElem?_eq_getElem hlt,hx]
   have HX:=Xh (HRR.out x (by rw [←hx];exact List.getElem_mem hlt));rw [hx]at c0 c1 c2 c3 c4 c5;have lbb:Lt b wr:=lb;have HBAD:=fun h=>Xh (Qjv hlt ⟨x,hx',h⟩);have HNEXT:=fun hw hc=>Xh (QmH hx' hG hw hc);have HSS:=Xh hs;clear hG
   by_cases h1:x.s<0
   ·have HR:=HBAD (.inl (by unfold ZU;simp [h1]));clear HBAD HNEXT hx hx' hs lb
    go_upto_region 4 with(fail)
    refine Qk Kr Kr ?_;(repeat(go_big_quiet_step (fail)));refine wpQuiet_nil ?_;intro d
    have hd:=Qt d;go_wp2;exact bodyPost_ret (v:= .bool false) (by simp [results,Tryz.results77,go_sem]) rfl ⟨by rw [HR.out],hE.tr hd⟩
   ·by_cases h2:x.l<x.s
    ·have HR:=HBAD (.inl (by unfold ZU;simp [h2]));clear HBAD HNEXT hx hx' hs lb
     go_upto_region 4 with(fail)
     refine Qk Kr Kr ?_;(repeat(go_big_quiet_step (fail)));refine wpQuiet_nil ?_;intro d
     have hd:=Qt d;go_wp2;exact bodyPost_ret (v:= .bool false) (by simp [results,Tryz.results77,go_sem]) rfl ⟨by rw [HR.out],hE.tr hd⟩
    ·by_cases h3:1099511627776<x.l
     ·have HR:=HBAD (.inl (by unfold ZU;simp [h3]));clear HBAD HNEXT hx hx' hs lb
      go_upto_region 4 with(fail)
      refine Qk Kr Kr ?_;(repeat(go_big_quiet_step (fail)));refine wpQuiet_nil ?_;intro d
      have hd:=Qt d;go_wp2;exact bodyPost_ret (v:= .bool false) (by simp [results,Tryz.results77,go_sem]) rfl ⟨by rw [HR.out],hE.tr hd⟩
     ·have hw:ZU x=false:=by unfold ZU;simp;omega
      by_cases hk0:k=0
      ·have HN:=HNEXT hw (fun m y e _=>by omega);clear HBAD HNEXT hx hx' hs lb hw;subst hk0
       go_upto_region 4 with(fail)
       refine Qk Kr Kr ?_;(repeat(go_big_quiet_step (fail)));refine wpQuiet_nil ?_;intro d
       have hd:=Qt d;go_wp2
       go_roundw
       case rel=>exact⟨1,Om,by go_num,HN.out,hE.tr hd⟩
       case measure=>simp [intOf];omega
      ·obtain⟨m,rfl⟩: ∃m,k=m+1:=⟨k- 1,Om⟩;obtain⟨b',off',hpe,-,d0,d1,d2,d3,d4,d5⟩:=(hs.ext hE) m Om
       cases hpe
       have hml:m<xs.length:=by omega
       obtain⟨y,hy⟩: ∃y,xs[m]=y:=⟨_,rfl⟩;have hy':xs[m]?=some y:=by rw [List.getElem?_eq_getElem hml,hy]
       have HY:=Xh (HRR.out y (by rw [←hy];exact List.getElem_mem hml));rw [hy]at d0 d1 d2 d3 d4 d5;have hkp:(0:Int)<((m+1:Nat):Int):=by omega
       have hi1:(m:Int)<xs.length:=by omega
       have hmw:IntKind.i64.wrap (((m+1:Nat):Int)- 1)=m:=by rw [IntKind.wrap_i64];omega
       clear hk0
       by_cases hc:0≤YQ y.t x.t
       ·have HR:=HBAD (.inr ⟨m,y,rfl,hy',hc⟩);have hcd:decide (0≤YQ y.t x.t)=true:=decide_eq_true hc;clear HBAD HNEXT hx hx' hy hy' hs lb hw
        go_upto_region 4 with(fail)
        refine Qk Kr Kr ?_;(repeat(go_big_quiet_step ((go_at_call 122;exact Zo (Qen _ _ HY.out HX.out _)))));refine wpQuiet_nil ?_;intro d
        have hd:=Qt d;go_wp2;exact bodyPost_ret (v:= .bool false) (by simp [results,Tryz.results77,go_sem]) rfl ⟨by rw [HR.out],hE.tr hd⟩
       ·have hcd:decide (0≤YQ y.t x.t)=false:=decide_eq_false hc
        have HN:=HNEXT hw (fun m' y' e h'=>by
         obtain rfl:m'=m:=by omega
         rw [hy']at h';cases h'
         omega)
        clear HBAD HNEXT hx hx' hy hy' hs lb hw
        go_upto_region 4 with(fail)
        refine Qk Kr Kr ?_;(repeat(go_big_quiet_step ((go_at_call 122;exact Zo (Qen _ _ HY.out HX.out _)))));refine wpQuiet_nil ?_;intro d
        have hd:=Qt d;go_wp2
        go_roundw
        case rel=>exact⟨m+1+1,Om,by go_num,HN.out,hE.tr hd⟩
        case measure=>simp [intOf];omega
  ·have hil: ¬((k:Int)<xs.length):=by omega
   have HR:=Xh (QoJ hlt hG);clear hG;go_wp2;exact bodyPost_ret (v:= .bool (decide ((xs.length:Int)≤32))) (by simp [results,Tryz.results77,go_sem]) rfl ⟨by rw [HR.out],hE⟩
theorem Qgb(a:Ag)(w:World)(hs:SlC w a.p a.xs)(hl:a.xs.length≤9223372036854775807)(hr: ∀x∈a.xs,TuR x.t)(hk0: ∀k,k<16→0≤(a.md k).kind):
  Cr 23 #[.agg (agv a)] w (.bool (agR a)):=by
 have HC:=Xh (fun W (hE:Ext w W)=>Qja a.p a.xs a.c W (hs.ext hE) hl hr);have HSL:=Xh (fun W (hE:Ext w W)=>hs.ext hE);have HTU:=Xh hr;have HK0:=Xh hk0;clear hs hr hk0
 go_enter Tryz.func23,Tryz.ntmps23
 go_upto_region 1 with(fail)
 obtain⟨W0,hW⟩: ∃W0,w.alloc (.cells (agv a) 27)=W0:=⟨_,rfl⟩;have g0:Ext w W0:=by rw [←hW];exact Ea
 have rx0:Qc W0 w.heap.size=agv a:=by rw [←hW];simp [go_sem]
 have lx0:Lt w.heap.size W0:=by rw [←hW];simp [go_sem]
 rw [hW];clear hW;have c0:W0.cell? ⟨w.heap.size,0,none⟩=some (.int .i64 a.id):=by rw [Qa,rx0,Jw]
 have c1:W0.cell? ⟨w.heap.size,1,none⟩=some (.int .i64 a.idle):=by rw [Qa,rx0,Jb]
 cases h1:decide (0≤a.id)
 ·have h1':=of_decide_eq_false h1;have HN:=Xh (Ya (a:=a) (by unfold Yj;rw [h1];rfl));go_wp2;go_ret;exact⟨Qm HN.out.symm,g0⟩
 have h1':=of_decide_eq_true h1
 cases h2:decide (a.id<6)
 ·have h2':=of_decide_eq_false h2;have HN:=Xh (Ya (a:=a) (by unfold Yj;rw [h2];simp));go_wp2;go_ret;exact⟨Qm HN.out.symm,g0⟩
 have h2':=of_decide_eq_true h2
 cases h3:decide (0≤a.idle)
 ·have h3':=of_decide_eq_false h3;have HN:=Xh (Ya (a:=a) (by unfold Yj;rw [h3];simp));go_wp2;go_ret;exact⟨Qm HN.out.symm,g0⟩
 have h3':=of_decide_eq_true h3
 cases h4:decide (a.idle≤1099511627776)
 ·have h4':=of_decide_eq_false h4;have HN:=Xh (Ya (a:=a) (by unfold Yj;rw [h4];simp));go_wp2;go_ret;exact⟨Qm HN.out.symm,g0⟩
 have h4':=of_decide_eq_true h4;have c66:W0.cell? ⟨w.heap.size,66,none⟩=some (.slice a.p a.xs.length a.c):=by rw [Qa,rx0,Qu]
 cases h5:QJ a.xs
 ·have HN:=Xh (Ya (a:=a) (by unfold Yj;rw [h5];simp));rw [h5]at HC
  go_wp2_with (go_at_call 77;(refine(HC.out _ g0).mono ?_);rintro e w1 ⟨rfl,g1⟩)
  go_ret;exact⟨Qm HN.out.symm,g0.tr g1⟩
 have HH:=Xh (show Yj a=true by unfold Yj;rw [h1,h2,h3,h4,h5];rfl);rw [h5]at HC
 go_wp2_with (go_at_call 77;(refine(HC.out _ g0).mono ?_);rintro e w1 ⟨rfl,g1⟩;have rx1:=Zc g1 lx0 rx0;have lx1:Lt w.heap.size w1:=Xl lx0 g1.size)
 clear rx0 lx0 c66 c0 c1
 go_loopw [3] (fun q wr=> ∃k:Nat,k≤16∧q= .int .i64 k∧(∀j,j<k→Qdd a j=true)∧Ext w1 wr) (fun q _=>16- (intOf q).toNat)
 case atStart=>exact⟨0,Nat.zero_le _,rfl,fun j hj=>by omega,Ext.rf _⟩
 case round=>
  obtain⟨k,hk,rfl,hA,hE⟩:=hrel;have hR:=Zc hE lx1 rx1;have hL:Lt w.heap.size wr:=Xl lx1 hE.size;have hEw:=(g0.tr g1).tr hE
  by_cases hlt:k<16
  ·have hlt':(k:Int)<16:=by omega
   have cp:wr.cell? ⟨w.heap.size,2+k*4+1,none⟩=some (.int .i64 (a.md k).peer):=by
    rw [Qa,hR];unfold agv;rw [QM,if_pos Om];unfold Ag.at
    rw [if_neg Om,if_neg Om,if_pos Om,show(2+k*4+1- 2)/4=k by omega,show(2+k*4+1- 2) % 4=1 by omega];rfl
   have c0:wr.cell? ⟨w.heap.size,0,none⟩=some (.int .i64 a.id):=by rw [Qa,hR,Jw]
   have hfit:2+k*4+4≤67:=by omega
   have HA:=Xh hA;have HE:=Xh hE;have HEW:=Xh hEw;clear hA hE hEw
   cases hm:mdR (a.md k)
   ·have HN:=Xh (QpU k hlt (by unfold Qdd;rw [hm];rfl))
    go_wp2_with (fail)
    refine Qk Kr Kr ?_;(repeat(go_big_quiet_step ((go_at_call 35;exact Zo (QeV _ _ (HK0.out k hlt))))));refine wpQuiet_nil ?_;intro d
    have HD:=Xh (Qt d);go_wp2;go_ret;exact⟨Qm HN.out.symm,HEW.out.tr HD.out⟩
   cases hp:((a.md k).peer==a.id)
   ·have HB:=Xh (show Qdd a k=true by unfold Qdd;rw [hm];simpa using hp)
    go_wp2_with (fail)
    refine Qk Kr Kr ?_;(repeat(go_big_quiet_step ((go_at_call 35;exact Zo (QeV _ _ (HK0.out k hlt))))));refine wpQuiet_nil ?_;intro d
    have HD:=Xh (Qt d);generalize later d=W2 at*;go_wp2
    go_roundw
    case rel=>exact⟨k+1,Om,by go_num,fun j hj=>by rcases Nat.lt_or_ge j k with h|h;exact HA.out j h;(obtain rfl:j=k:=by omega);exact HB.out,HE.out.tr HD.out⟩
    case measure=>simp [intOf];omega
   ·have HN:=Xh (QpU k hlt (by unfold Qdd;rw [hm];simpa using hp))
    go_wp2_with (fail)
    refine Qk Kr Kr ?_;(repeat(go_big_quiet_step ((go_at_call 35;exact Zo (QeV _ _ (HK0.out k hlt))))));refine wpQuiet_nil ?_;intro d
    have HD:=Xh (Qt d);go_wp2;go_ret;exact⟨Qm HN.out.symm,HEW.out.tr HD.out⟩
  ·obtain rfl:k=16:=by omega
   have HM:=Xh hA;have rx2:=hR;have lx2:=hL;have HEW:=Xh hEw;generalize wr=w2 at*;clear hA hE hEw hR hL rx1 lx1;rw [show((16:Nat):Int)=16 from rfl];go_wp2
   go_loopw [4,5] (fun q _ wr=> ∃k:Nat,k≤a.xs.length∧q= .int .i64 k∧(∀j,j<k→ ∀hj:j<a.xs.length,cnA a a.xs[j]=true)∧Ext w2 wr) (fun q _ _=>a.xs.length- (intOf q).toNat)
   case atStart=>exact⟨0,Nat.zero_le _,rfl,fun j hj=>by omega,Ext.rf _⟩
   case round=>
    obtain⟨k,hk,rfl,hA,hE⟩:=hrel;have hR:=Zc hE lx2 rx2;have hL:Lt w.heap.size wr:=Xl lx2 hE.size;have hEw:=HEW.out.tr hE;have c66:wr.cell? ⟨w.heap.size,66,none⟩=some (.slice a.p a.xs.length a.c):=by rw [Qa,hR,Qu]
    by_cases hlt:k<a.xs.length
    ·have hlt':(k:Int)<a.xs.length:=by omega
     obtain⟨b,off,hp,hb,d0,d1,d2,d3,d4,d5⟩:=(HSL.out _ hEw) k hlt;have HTZ:=Xh (HTU.out _ (List.getElem_mem hlt));have HMEM:=Xh (List.getElem_mem hlt);obtain⟨o,ho⟩: ∃o:Nat,ofT a.xs[k].t=o:=⟨(ofT a.xs[k].t).toNat,by have:=(QbY a.xs[k].t).1;omega⟩;have ho16:o<16:=by have:=(QbY a.xs[k].t).2;omega
     have HOF:=Xh (fun W=>ho▸Qln a.xs[k].t HTZ.out W);have HCN:=Xh (show cnA a a.xs[k]=((a.md o).kind !=0&&!(a.md o).ret)by unfold cnA;rw [ho];rfl);obtain⟨z,hz⟩: ∃z,a.xs[k]=z:=⟨_,rfl⟩;rw [hz]at d0 d1 d2 d3 d4 d5 HOF HCN HMEM;have HZ:=Xh hz;have HPP:=Xh hp;have lb:Lt b wr:=hb;have hfit:2+o*4+4≤67:=by omega
     have ho':(o:Int)<16:=by omega
     have HA:=Xh hA;have HE:=Xh hE;have HEW2:=Xh hEw;have hlen:((a.xs.length:Nat):Int)≤9223372036854775807:=by omega
     rw [hp]at c66;clear hz ho hp hA hE hEw HTZ d4 d5 hb
     go_upto_region 12 with(go_at_call 33;(refine(HOF.out _).mono ?_);rintro e w4 ⟨rfl,g4⟩;have hR4:=Zc g4 hL hR;have hL4:Lt w.heap.size w4:=Xl hL g4.size)
     obtain⟨W5,hW⟩: ∃W5,Qe (w4.alloc (.cells #[.int .u8 0,.int .i64 0,.int .i64 0,.bool false] 23)) w4.heap.size 0 (mdv (a.md o))=W5:=⟨_,rfl⟩;have g5:Ext w4 W5:=by rw [←hW];exact Ext.sa _ (Nat.le_refl _) Ea
     have r5:Qc W5 w4.heap.size=mdv (a.md o):=by rw [←hW];exact Qq _ _ _ (by rw [Zn,J2];rfl)
     have c0:W5.cell? ⟨w4.heap.size,0,none⟩=some (.int .u8 (a.md o).kind):=by rw [Qa,r5,Qlw]
     have c3:W5.cell? ⟨w4.heap.size,3,none⟩=some (.bool (a.md o).ret):=by rw [Qa,r5,Qlx]
     have HE6:=Xh (HEW2.out.tr (g4.tr g5));have HG6:=Xh (HE.out.tr (g4.tr g5));rw [hW];clear hW g4 g5 r5 hR4 hL4 hR d0 d1 d2 d3 c66;generalize w4.heap.size=M at*
     cases e0:((a.md o).kind==0)
     ·cases e3:(a.md o).ret
      ·have HB:=Xh (show cnA a z=true by rw [HCN.out];simp_all);go_wp2
       go_roundw
       case rel=>exact⟨k+1,Om,by go_num,fun j hj hjl=>by rcases Nat.lt_or_ge j k with h|h;exact HA.out j h hjl;(obtain rfl:j=k:=by omega);rw [HZ.out];exact HB.out,HG6.out⟩
       case measure=>simp [intOf];omega
      ·have HN:=Xh (QpV z HMEM.out (show cnA a z=false by rw [HCN.out];simp_all));go_wp2;go_ret;exact⟨Qm HN.out.symm,HE6.out⟩
     ·have HN:=Xh (QpV z HMEM.out (show cnA a z=false by rw [HCN.out];simp_all));go_wp2;go_ret;exact⟨Qm HN.out.symm,HE6.out⟩
    ·obtain rfl:k=a.xs.length:=by omega
     have HK:=Xh (show agR a=true from QvC HH.out HM.out fun c hc=>by obtain⟨j,hj,rfl⟩:=List.mem_iff_getElem.1 hc;exact hA j hj hj);have HEE:=Xh hEw;clear hA hE hEw hR;go_wp2;go_ret;exact⟨Qm HK.out.symm,HEE.out⟩
section
open Go.ChangeShapes Go.WideShapes Go.ChangeAt
section
variable {H:Type} {enc:TypeId×Value→H} {P:Program}
theorem QfD{f:Func}{s:ChangeSpec}{apart fresh handsOn again:Bool}{W':World}{args:Array Value}{ds gs:List (DataW H)}{before pa pv:List MemPlace}
  (hW:DataW.Whole enc P f.params.toList s.vars apart W args.toList ds gs before)
  (hres: ∀(b:Nat) (sp:Nat→Bool) (hd:Bool),DataW.TrodAll enc P W' b sp hd f.resultTypes.toList (v.resultList f.resultTypes.size) (s.fn H (ds++gs)).results [])
  (hargs: ∀sp:Nat→Bool,(∀p∈before,sp p.block=true)→DataW.TrodAll enc P W' 0 sp true f.params.toList args.toList (s.fn H (ds++gs)).args pa)
  (hvars: ∀sp:Nat→Bool,(∀p∈before,sp p.block=true)→DataW.TrodVars enc P W' sp s.vars (s.fn H (ds++gs)).vars pv)
  (hps:before=pa++pv)(hb:Below W.heap.size W W')
  (hok: ∀(j:Nat) (t:TypeId) (r:Value),f.resultTypes[j]?=some t→(v.resultList f.resultTypes.size)[j]?=some r→Value.okWide P W' .any 0 t r):
  s.post enc P f apart fresh handsOn again W args v W':=by
 have hlt: ∀p∈before,p.block<W.heap.size:=fun p hp=>hW.lt p hp;have hold: ∀p∈before,(fun b=>decide (b<W.heap.size)) p.block=true:=fun p hp=>by simpa using hlt p hp
 refine⟨ds,gs,before,[],pa,pv,hW,hres _ _ _,hargs _ hold,hvars _ hold,World.keptBut_mono (fun p hp=>⟨hp,?_⟩) (hb.frame (· ∈before)),fun _=> ?_⟩
 ·rw [hps,List.mem_append]at hp;exact Or.inr hp
 ·obtain⟨_,_,_,_,_,hz,hn⟩:=hW;refine⟨hok,_,_,([]++pa)++pv,⟨[]++pa,pv,trodAll_append (hargs _ (fun _ _=>rfl)) (hres _ _ _),hvars _ (fun _ _=>rfl),rfl,?_,?_⟩,?_⟩
  ·intro b off hp;have hin:MemPlace.cell b off∈before:=by rw [hps];simpa using hp
   rw [hb.frozen (hlt _ hin)];exact hz b off hin
  ·intro ha;have:=hn ha;rw [hps]at this;simpa using this
  ·intro p hp _;rw [hps];simpa using hp
theorem QbT(hl:laidOutB P=true){W':World}{sp':Nat→Bool}: ∀(ts:List TypeId) (vs:List Value) (ds:List (DataW H)) (ps:List MemPlace),
  ts.all (fun t=>P.readableRec t&&decide (t<P.types.size))=true→DataW.TrodAll enc P W 0 (fun _=>true) true ts vs ds ps→
  (∀p∈ps,W.sameAt W' p)→(∀p∈ps,sp' p.block=true)→DataW.TrodAll enc P W' 0 sp' true ts vs ds ps
 | [],vs,ds,ps,_,h,_,_=>by
  obtain⟨rfl,rfl,rfl⟩:=trodAll_nil h;exact trodAll_mk0
 |t::ts,vs,ds,ps,ht,h,hs,hp=>by
  obtain⟨v,vs',d,ds',p,q,rfl,rfl,rfl,h1,h2⟩:=trodAll_cons h;simp only [List.all_cons,Bool.and_eq_true,decide_eq_true_eq]at ht;refine trodAll_cons_mk (WideElems.Trod_stays hl ht.1.1 ht.1.2 h1 (fun x hx=>hs x (by simp [hx])) (fun x hx=>hp x (by simp [hx]))) ?_;exact QbT hl ts vs' ds' q ht.2 h2 (fun x hx=>hs x (by simp [hx])) (fun x hx=>hp x (by simp [hx]))
theorem Qbh{sp:Nat→Bool}{hd:Bool}: ∀(ts:List TypeId) (vs:List Value) (ds:List (DataW H)) (ps:List MemPlace),
  DataW.TrodAll enc P W b sp hd ts vs ds ps→ds.length=ts.length
 | [],vs,ds,ps,h=>by obtain⟨rfl,rfl,rfl⟩:=trodAll_nil h;rfl
 |t::ts,vs,ds,ps,h=>by
  obtain⟨v,vs',d,ds',p,q,rfl,rfl,rfl,h1,h2⟩:=trodAll_cons h;simp only [List.length_cons,Qbh ts vs' ds' q h2]
end
theorem Qrn{C:Checked}{f:FuncId}{fn:Func}{s:ChangeSpec}{os:Os}{H:Type}{enc:TypeId×Value→H}(tb:TypeId)
  (own:ownKnob C.prog.godebug=none)(started:os.Started)(noInit:C.prog.inits.idxOf? f=none)(hfn:C.prog.funcs[f]?=some fn)
  (witness: ∃(w:World) (tape:Tape) (i:Input),w.os=os∧(w.forCall tape i).Shaped C.prog∧i.vars= []∧Input.okWide C.prog (w.forCall tape i) .any w.heap.size f i∧
   s.pre6 enc C.prog fn [] false (w.forCall tape i).memory i.args∧({}:Assume).holds C.prog (lone (Frame.enter C.prog f i.args .normal) [] (w.forCall tape i)))
  (hl:laidOutB C.prog=true)(hvars:s.vars= [])(hrt:fn.resultTypes=#[tb])(htb:C.prog.underlying tb=some .bool)
  (hs: ∀ds:List (DataW H),ds.length=fn.params.toList.length→s.fn H ds={results:= [.lit (.bool true)],args:=ds})
  (hread:fn.params.toList.all (fun t=>C.prog.readableRec t&&decide (t<C.prog.types.size))=true)
  (walk: ∀(W:World) (base:Nat) (args:Array Value) (ds:List (DataW H)) (p:List MemPlace),
   (∀(j:Nat) t v,fn.params[j]?=some t→args[j]?=some v→Value.okWide C.prog W .any base t v)→
   DataW.TrodAll enc C.prog W 0 (fun _=>true) true fn.params.toList args.toList ds p→(∀x∈p,x.block<W.heap.size)→
   Calls C.prog f args W fun e W'=>e= .returned (.bool true)∧Below W.heap.size W W'):
  ReturnsInHanded {} C os f .any (s.pre6 enc C.prog fn [] false) (s.post enc C.prog fn false true false false):=by
 refine returnsInHanded_of_change (C:=C) own started noInit hfn witness ?_;intro W base args ds gs before hval hW _ _;have hW':=hW;obtain⟨p,q,hA,hV,rfl,hfz,hnd⟩:=hW;rw [hvars]at hV;obtain⟨rfl,rfl⟩:=trodVars_none hV;have hlt: ∀x∈p++ [],x.block<W.heap.size:=fun x hx=>hW'.lt x hx;refine(walk W base args ds p hval hA (fun x hx=>hlt x (by simpa using hx))).mono fun e W' h=> ?_;obtain⟨he,hb⟩:=h;subst he;have hlen:=Qbh _ _ _ _ hA;have hsp:=hs (ds++ []) (by simpa using hlen);refine⟨_,rfl,QfD (pa:=p) (pv:= []) hW' ?_ ?_ ?_ rfl hb ?_⟩
 ·intro b sp hd;rw [hsp,hrt];exact trodAll_mk1 (shut_bool htb _)
 ·intro sp hsp';rw [hsp];simp only [List.append_nil];exact QbT hl _ _ _ _ hread hA (fun x hx=>hb.same (hlt x (by simpa using hx))) (fun x hx=>hsp' x (by simpa using hx))
 ·intro sp _;rw [hsp,hvars];rfl
 ·exact ok_one hrt rfl (okWide_bool_mk htb _)
end
section
open Go.ChangeShapes Go.WideShapes Go.ChangeAt Go.Joins Go.Deep
theorem Qzd:ownKnob Tryz.prog.godebug=none:=Kr
theorem Qtq:laidOutB Tryz.prog=true:=Kr
theorem QdX:Tryz.prog.cellsOf 3=1:=Kr
theorem Qro:Tryz.prog.cellsOf 5=1:=Kr
theorem Qrp:Tryz.prog.cellsOf 61=1:=Kr
theorem Qrq:Tryz.prog.cellsOf 62=1:=Kr
theorem Qtr:Tryz.prog.cellsOf 4=1:=Kr
theorem Qze:Tryz.prog.cellsOf 64=4:=Kr
theorem Qzf:Tryz.prog.cellsOf 66=6:=Kr
theorem Qzg:Tryz.prog.cellsOf 23=4:=Kr
theorem Qwa:Tryz.prog.cellsOf 24=64:=Kr
theorem Qts:Tryz.prog.cellsOf 25=1:=Kr
theorem Qzh:Tryz.prog.cellsOf 27=67:=Kr
theorem QuB{n:Int}(h:(Lit.int .u8 n).wf=true):0≤n:=by
 have h1:IntKind.u8.min=0:=rfl;simp only [Lit.wf,Bool.and_eq_true,decide_eq_true_eq]at h;omega
theorem Qrr{n:Int}(h:(Lit.int .u32 n).wf=true):0≤n∧n<4294967296:=by
 have h1:IntKind.u32.min=0:=rfl;have h2:IntKind.u32.max=4294967295:=rfl;simp only [Lit.wf,Bool.and_eq_true,decide_eq_true_eq]at h;omega
theorem Qrs{n:Int}(h:(Lit.int .u16 n).wf=true):0≤n∧n<65536:=by
 have h1:IntKind.u16.min=0:=rfl;have h2:IntKind.u16.max=65535:=rfl;simp only [Lit.wf,Bool.and_eq_true,decide_eq_true_eq]at h;omega
theorem Q3{L:List Value}{j:Nat}(h:(L.drop j).take 1= [v]):L[j]?=some v:=by
 have:=congrArg (fun l=>l[0]?) h;simpa using this
theorem YK{L:List Value}{o n j:Nat}(h:((L.drop o).take n)[j]?=some v)(hj:j<n):L[o+j]?=some v:=by
 rwa [List.getElem?_take,if_pos hj,List.getElem?_drop]at h
open Classical in
theorem QnY{α:Type}{p:Nat→α→Prop}{n:Nat}(h: ∀i,i<n→ ∃x,p i x)[Nonempty α]: ∃f:Nat→α,∀i,i<n→p i (f i):=
 ⟨fun i=>if q:i<n then(h i q).choose else Classical.choice inferInstance,fun i hi=>by dsimp only;rw [dif_pos hi];exact(h i hi).choose_spec⟩
instance:Nonempty Md:=⟨⟨0,0,0,false⟩⟩
def Tu.at(t:Tu)(j:Nat):Value:=match j with|0=> .int .u32 t.a|1=> .int .u32 t.b|2=> .int .u16 t.c|_=> .int .u16 t.d
def Co.at(x:Co)(j:Nat):Value:=match j with|0=> .int .u32 x.t.a|1=> .int .u32 x.t.b|2=> .int .u16 x.t.c|3=> .int .u16 x.t.d|4=> .int .i64 x.s|_=> .int .i64 x.l
section
variable {H:Type} {enc:TypeId×Value→H} {w:World} {base b0:Nat} {spare:Nat→Bool} {held:Bool} {fuel:Nat} {L:List Value} {y:DataW H×List MemPlace}
theorem Yf{T:TypeId}{fs:Array Field}(ht:Tryz.prog.underlying T=some (.struct fs))(h:DataW.trod enc Tryz.prog w base spare held fuel T L=some y):
  ∃n,L.length=Tryz.prog.cellsOf T∧ ∀(i:Nat) (f:Field),fs[i]?=some f→ ∃z,DataW.trod enc Tryz.prog w base spare held n f.type ((L.drop f.offset).take (Tryz.prog.cellsOf f.type))=some z:=by
 obtain⟨ys,n,_,_,hl,hlen,hf⟩:=DataW.trod_struct ht h;refine⟨n,hl,fun i f hi=> ?_⟩;have hlt:i<fs.size:=(Array.getElem?_eq_some_iff.1 hi).1;exact⟨ys[i]'Om,(hf i f hi).trans (List.getElem?_eq_getElem Om)⟩
theorem Qrt{T e:TypeId}{n:Nat}(ht:Tryz.prog.underlying T=some (.array n e))(h:DataW.trod enc Tryz.prog w base spare held fuel T L=some y):
  ∃m,L.length=Tryz.prog.cellsOf T∧ ∀(i:Nat),i<n→ ∃z,DataW.trod enc Tryz.prog w base spare held m e ((L.drop (i*Tryz.prog.cellsOf e)).take (Tryz.prog.cellsOf e))=some z:=by
 obtain⟨ys,m,_,_,hl,hlen,hf⟩:=DataW.trod_array ht h;exact⟨m,hl,fun i hi=>⟨ys[i]'Om,(hf i hi).trans (List.getElem?_eq_getElem Om)⟩⟩
theorem Qzi(h:DataW.trod enc Tryz.prog w base spare held fuel 23 L=some y): ∃x:Md,0≤x.kind∧ ∀j,j<4→L[j]?=some (x.at j):=by
 obtain⟨n,-,hf⟩:=Yf Tryz.underlying23 h;obtain⟨z0,(h0:DataW.trod enc Tryz.prog w base spare held n 5 ((L.drop 0).take (Tryz.prog.cellsOf 5))=some z0)⟩:=hf 0 _ rfl;rw [Qro]at h0;obtain⟨a0,p0,_,w0⟩:=DataW.trod_int Tryz.underlying5 h0;obtain⟨z1,(h1:DataW.trod enc Tryz.prog w base spare held n 3 ((L.drop 1).take (Tryz.prog.cellsOf 3))=some z1)⟩:=hf 1 _ rfl;rw [QdX]at h1;obtain⟨a1,p1,_,w1⟩:=DataW.trod_int Tryz.underlying3 h1;obtain⟨z2,(h2:DataW.trod enc Tryz.prog w base spare held n 3 ((L.drop 2).take (Tryz.prog.cellsOf 3))=some z2)⟩:=hf 2 _ rfl;rw [QdX]at h2;obtain⟨a2,p2,_,w2⟩:=DataW.trod_int Tryz.underlying3 h2;obtain⟨z3,(h3:DataW.trod enc Tryz.prog w base spare held n 4 ((L.drop 3).take (Tryz.prog.cellsOf 4))=some z3)⟩:=hf 3 _ rfl;rw [Qtr]at h3;obtain⟨a3,p3,_⟩:=DataW.trod_bool Tryz.underlying4 h3;refine⟨⟨a0,a1,a2,a3⟩,QuB w0,fun j hj=> ?_⟩;obtain rfl|rfl|rfl|rfl:j=0∨j=1∨j=2∨j=3:=by omega
 ·exact Q3 p0
 ·exact Q3 p1
 ·exact Q3 p2
 ·exact Q3 p3
theorem Qwb(h:DataW.trod enc Tryz.prog w base spare held fuel 24 L=some y): ∃f:Nat→Md,(∀i,i<16→0≤((f i)).kind)∧ ∀i j,i<16→j<4→L[i*4+j]?=some ((f i).at j):=by
 obtain⟨q,-,hf⟩:=Qrt Tryz.underlying24 h;rw [Qzg]at hf;obtain⟨f,hf⟩:=QnY (p:=fun i (x:Md)=>(0≤(x).kind)∧ ∀j,j<4→((L.drop (i*4)).take 4)[j]?=some (x.at j)) (n:=16) fun i hi=>by
  obtain⟨z,hz⟩:=hf i hi;exact Qzi hz
 exact⟨f,fun i hi=>(hf i hi).1,fun i j hi hj=>YK ((hf i hi).2 j hj) hj⟩
theorem Qzj(h:DataW.trod enc Tryz.prog w base spare held fuel 64 L=some y): ∃x:Tu,TuR x∧ ∀j,j<4→L[j]?=some (x.at j):=by
 obtain⟨n,-,hf⟩:=Yf Tryz.underlying64 h;obtain⟨z0,(h0:DataW.trod enc Tryz.prog w base spare held n 61 ((L.drop 0).take (Tryz.prog.cellsOf 61))=some z0)⟩:=hf 0 _ rfl;rw [Qrp]at h0;obtain⟨a0,p0,_,w0⟩:=DataW.trod_int Tryz.underlying61 h0;obtain⟨z1,(h1:DataW.trod enc Tryz.prog w base spare held n 61 ((L.drop 1).take (Tryz.prog.cellsOf 61))=some z1)⟩:=hf 1 _ rfl;rw [Qrp]at h1;obtain⟨a1,p1,_,w1⟩:=DataW.trod_int Tryz.underlying61 h1;obtain⟨z2,(h2:DataW.trod enc Tryz.prog w base spare held n 62 ((L.drop 2).take (Tryz.prog.cellsOf 62))=some z2)⟩:=hf 2 _ rfl;rw [Qrq]at h2;obtain⟨a2,p2,_,w2⟩:=DataW.trod_int Tryz.underlying62 h2;obtain⟨z3,(h3:DataW.trod enc Tryz.prog w base spare held n 62 ((L.drop 3).take (Tryz.prog.cellsOf 62))=some z3)⟩:=hf 3 _ rfl;rw [Qrq]at h3;obtain⟨a3,p3,_,w3⟩:=DataW.trod_int Tryz.underlying62 h3;refine⟨⟨a0,a1,a2,a3⟩,⟨Qrr w0,Qrr w1,Qrs w2,Qrs w3⟩,fun j hj=> ?_⟩;obtain rfl|rfl|rfl|rfl:j=0∨j=1∨j=2∨j=3:=by omega
 ·exact Q3 p0
 ·exact Q3 p1
 ·exact Q3 p2
 ·exact Q3 p3
theorem Qzk(h:DataW.trod enc Tryz.prog w base spare held fuel 66 L=some y): ∃x:Co,TuR x.t∧ ∀j,j<6→L[j]?=some (x.at j):=by
 obtain⟨n,-,hf⟩:=Yf Tryz.underlying66 h;obtain⟨z0,(h0:DataW.trod enc Tryz.prog w base spare held n 64 ((L.drop 0).take (Tryz.prog.cellsOf 64))=some z0)⟩:=hf 0 _ rfl;obtain⟨z1,(h1:DataW.trod enc Tryz.prog w base spare held n 3 ((L.drop 4).take (Tryz.prog.cellsOf 3))=some z1)⟩:=hf 1 _ rfl;obtain⟨z2,(h2:DataW.trod enc Tryz.prog w base spare held n 3 ((L.drop 5).take (Tryz.prog.cellsOf 3))=some z2)⟩:=hf 2 _ rfl;rw [Qze]at h0;rw [QdX]at h1 h2;obtain⟨t,hr,ht⟩:=Qzj h0;obtain⟨a1,p1,_,_⟩:=DataW.trod_int Tryz.underlying3 h1;obtain⟨a2,p2,_,_⟩:=DataW.trod_int Tryz.underlying3 h2;refine⟨⟨t,a1,a2⟩,hr,fun j hj=> ?_⟩;obtain rfl|rfl|rfl|rfl|rfl|rfl:j=0∨j=1∨j=2∨j=3∨j=4∨j=5:=by omega
 ·exact YK (o:=0) (ht 0 Om) Om
 ·exact YK (o:=0) (ht 1 Om) Om
 ·exact YK (o:=0) (ht 2 Om) Om
 ·exact YK (o:=0) (ht 3 Om) Om
 ·exact Q3 p1
 ·exact Q3 p2
theorem Qtt(h:DataW.trod enc Tryz.prog w base spare held fuel 25 L=some y):
  ∃(q:Option Addr) (xs:List Co) (c:Nat),L= [.slice q xs.length c]∧SlC w q xs∧(∀x∈xs,TuR x.t)∧xs.length≤c∧c≤maxLen∧(q=none→c=0):=by
 rcases open_slice Tryz.underlying25 h with⟨hcs,_⟩|⟨a,len,cap,k,n,D,Pl,hcs,_,hl,hm,hk,_,hi⟩
 ·exact⟨none,[],0,hcs,SlC.nil _ _,(fun x h=>by cases h),Nat.le_refl _,by unfold maxLen;omega,fun _=>rfl⟩
 ·have hkl:len≤k:=by rw [hk];split<;>omega
  have key: ∀i,i<len→ ∃x:Co,(TuR (x).t)∧ ∀j,j<6→w.cell? (a.add (i*6+j))=some (x.at j):=by
   intro i hi';obtain⟨cs',hc,ht'⟩:=hi i Om;rw [Qzf]at hc;obtain⟨_,hcl,hat⟩:=World.cells?_some hc;obtain⟨x,hr,hx⟩:=Qzk ht';refine⟨x,hr,fun j hj=> ?_⟩;have h1:=hat j hj;rw [hx j hj]at h1;have e:(a.add (i*6)).add j=a.add (i*6+j):=by
    unfold Addr.add
    repeat' split
    all_goals first|(exfalso;simp_all;omega)|(simp_all;done)|(simp_all;omega)
   rw [←e];exact h1
  have hlen:((List.range len).map fun i=>if h:i<len then(key i h).choose else⟨⟨0,0,0,0⟩,0,0⟩).length=len:=by simp
  refine⟨some a,(List.range len).map fun i=>if h:i<len then(key i h).choose else⟨⟨0,0,0,0⟩,0,0⟩,cap,by rw [hlen];exact hcs,?_,?_,by rw [hlen];exact hl,hm,fun e=>by cases e⟩
  ·intro i hi';have hil:i<len:=by omega
   have hc:=(key i hil).choose_spec;simp only [List.getElem_map,List.getElem_range,dif_pos hil];generalize (key i hil).choose=x at hc;obtain⟨-,hx'⟩:=hc;have hvw:a.spot=none:=by
    obtain⟨x0,_,hx0⟩:=key 0 Om;have:=hx0 0 Om;simpa [Addr.add]using World.cell?_spot this
   obtain⟨b,off,view⟩:=a;obtain rfl:view=none:=hvw;have hx': ∀j,j<6→w.cell? ⟨b,off+i*6+j,none⟩=some (x.at j):=fun j hj=>by
    have:=hx' j hj;rw [add_plain]at this;rw [Nat.add_assoc];exact this
   exact⟨b,off,rfl,World.block_lt_of_cell? w _ (hx' 0 Om),hx' 0 Om,hx' 1 Om,hx' 2 Om,hx' 3 Om,hx' 4 Om,hx' 5 Om⟩
  ·intro x hx;rw [List.mem_map]at hx;obtain⟨i,hi',rfl⟩:=hx;have hil:i<len:=List.mem_range.1 hi';rw [dif_pos hil];exact(key i hil).choose_spec.1
structure AgO(w:World)(a:Ag):Prop where
 s:SlC w a.p a.xs
 t: ∀c∈a.xs,TuR c.t
 k: ∀i,i<16→0≤(a.md i).kind
 l:a.xs.length≤9223372036854775807
theorem Qzl(h:DataW.trod enc Tryz.prog w base spare held fuel 27 L=some y): ∃x:Ag,AgO w x∧ ∀j,j<67→L[j]?=some (x.at j):=by
 obtain⟨n,-,hf⟩:=Yf Tryz.underlying27 h;obtain⟨z0,(h0:DataW.trod enc Tryz.prog w base spare held n 3 ((L.drop 0).take (Tryz.prog.cellsOf 3))=some z0)⟩:=hf 0 _ rfl;obtain⟨z1,(h1:DataW.trod enc Tryz.prog w base spare held n 3 ((L.drop 1).take (Tryz.prog.cellsOf 3))=some z1)⟩:=hf 1 _ rfl;obtain⟨z2,(h2:DataW.trod enc Tryz.prog w base spare held n 24 ((L.drop 2).take (Tryz.prog.cellsOf 24))=some z2)⟩:=hf 2 _ rfl;obtain⟨z3,(h3:DataW.trod enc Tryz.prog w base spare held n 25 ((L.drop 66).take (Tryz.prog.cellsOf 25))=some z3)⟩:=hf 3 _ rfl;rw [QdX]at h0 h1;rw [Qwa]at h2;rw [Qts]at h3;obtain⟨a,p0,_,_⟩:=DataW.trod_int Tryz.underlying3 h0;obtain⟨b,p1,_,_⟩:=DataW.trod_int Tryz.underlying3 h1;obtain⟨f,hk,hr⟩:=Qwb h2;obtain⟨p,xs,c,p3,hs,ht,hlc,hcm,-⟩:=Qtt h3;refine⟨⟨a,b,f,p,xs,c⟩,⟨hs,ht,hk,by unfold maxLen at hcm;show xs.length≤_;omega⟩,fun j hj=> ?_⟩;unfold Ag.at
 by_cases q0:j=0
 ·subst q0;exact Q3 p0
 rw [if_neg q0]
 by_cases q1:j=1
 ·subst q1;exact Q3 p1
 rw [if_neg q1]
 by_cases q2:j<66
 ·rw [if_pos q2];have h:=YK (hr ((j- 2)/4) ((j- 2) % 4) Om Om) Om
  rwa [show 2+((j- 2)/4*4+(j- 2) % 4)=j by omega]at h
 ·rw [if_neg q2];obtain rfl:j=66:=by omega
  exact Q3 p3
theorem Qtu{d:DataW H}{p:List MemPlace}(hv:Value.okWide Tryz.prog w .any b0 27 v)(h:DataW.Trod enc Tryz.prog w base spare held 27 v d p): ∃x:Ag,v= .agg (agv x)∧AgO w x:=by
 simp only [Value.okWide,Tryz.underlying27]at hv;obtain⟨cs,rfl,hn,_⟩:=hv;rw [Qzh]at hn;obtain⟨fuel,hf⟩:=h;obtain⟨x,hR,hx⟩:=Qzl hf;refine⟨x,congrArg Value.agg (Array.ext_getElem? fun j=> ?_),hR⟩
 by_cases hj:j<67
 ·have h1:=hx j hj;have h2:cs[j]?=some (x.at j):=by simpa [Value.cells]using h1
  rw [h2];unfold agv;rw [QM,if_pos hj]
 ·rw [Array.getElem?_eq_none Om,Array.getElem?_eq_none (by rw [Qg];omega)]
end
end
def SlT(w:World)(p:Option Addr)(xs:List Tu):Prop:= ∀k,(h:k<xs.length)→ ∃b off,p=some ⟨b,off,none⟩∧b<w.heap.size∧w.cell? ⟨b,off+k*4,none⟩=some (.int .u32 xs[k].a)∧w.cell? ⟨b,off+k*4+1,none⟩=some (.int .u32 xs[k].b)∧w.cell? ⟨b,off+k*4+2,none⟩=some (.int .u16 xs[k].c)∧w.cell? ⟨b,off+k*4+3,none⟩=some (.int .u16 xs[k].d)
theorem SlT.ext{w':World}{xs:List Tu}(h:SlT w p xs)(e:Ext w w'):SlT w' p xs:=fun k hk=>by
 obtain⟨b,off,hp,hb,c0,c1,c2,c3⟩:=h k hk;exact⟨b,off,hp,Xl hb e.size,(e.cell (p:=⟨b,off+k*4,none⟩) hb).trans c0,(e.cell (p:=⟨b,off+k*4+1,none⟩) hb).trans c1,(e.cell (p:=⟨b,off+k*4+2,none⟩) hb).trans c2,(e.cell (p:=⟨b,off+k*4+3,none⟩) hb).trans c3⟩
theorem SlT.nil(w:World)(p:Option Addr):SlT w p []:=fun k hk=>by simp at hk
def Tu.cl(x:Tu):List Value:= [.int .u32 x.a,.int .u32 x.b,.int .u16 x.c,.int .u16 x.d]
def flT(xs:List Tu):List Value:=xs.flatMap Tu.cl
theorem Qd6: ∀xs:List Tu,(flT xs).length=xs.length*4
 | []=>rfl
 |x::xs=>by
  show(Tu.cl x++flT xs).length=_;rw [List.length_append,Qd6 xs,List.length_cons];show 4+_=_;omega
theorem Qhv: ∀(xs:List Tu) (k j:Nat) (hk:k<xs.length),j<4→(flT xs)[k*4+j]?=(xs[k]).cl[j]?
 |x::xs,0,j,_,hj=>by
  show(Tu.cl x++flT xs)[0*4+j]?=_;rw [Nat.zero_mul,Nat.zero_add,List.getElem?_append_left (by show j<4;exact hj)];rfl
 |x::xs,k+1,j,hk,hj=>by
  show(Tu.cl x++flT xs)[(k+1)*4+j]?=_;have hc:(Tu.cl x).length=4:=rfl;rw [List.getElem?_append_right Om,hc,show(k+1)*4+j- 4=k*4+j by omega];exact Qhv xs k j (by simpa using hk) hj
theorem Qtv(xs:List Tu): ∀u∈flT xs,u.oneCell'=true:=by
 intro u hu;unfold flT at hu;rw [List.mem_flatMap]at hu;obtain⟨x,_,hx⟩:=hu;unfold Tu.cl at hx;simp only [List.mem_cons,List.not_mem_nil,or_false]at hx;rcases hx with rfl|rfl|rfl|rfl<;>rfl
theorem Qwc:(Tryz.prog.info? 64).map (fun i=>(i.zero,i.size,i.bytes))=some (some (.agg #[.int .u32 0,.int .u32 0,.int .u16 0,.int .u16 0]),4,12):=Kr
theorem SlT.own{base:Nat}{xs:List Tu}(h:w.ownsRow base 64 4 v xs.length (flT xs)): ∃p c,v= .slice p xs.length c∧xs.length≤c∧SlT w p xs:=by
 rcases h.2 with⟨rfl,h0⟩|⟨g,cap,cur,rfl,hg,hgb,h1,h2,h3,h4⟩
 ·have:xs= []:=List.length_eq_zero_iff.1 h0;subst this;exact⟨none,0,rfl,Nat.le_refl _,SlT.nil _ _⟩
 ·refine⟨some ⟨g,0,none⟩,cap,rfl,h1,fun k hk=> ?_⟩;have key: ∀j,j<4→w.cell? ⟨g,0+k*4+j,none⟩=(xs[k]).cl[j]?:=fun j hj=>by
   rw [←Qhv xs k j hk hj,←h4,List.getElem?_take_of_lt (by have:=Qd6 xs;omega)];simp only [World.cell?,hgb];simp
  exact⟨g,0,rfl,(Array.getElem?_eq_some_iff.1 hgb).1,key 0 Om,key 1 Om,key 2 Om,key 3 Om⟩
theorem SlT.news{a:Addr}{xs:List Tu}(hs:SlT w (some a) xs)(e:Ext w W): ∀j u,(flT xs)[j]?=some u→W.cell? (a.add j)=some u:=by
 intro j u hu;have hj:j<xs.length*4:=by have:=(List.getElem?_eq_some_iff.1 hu).1;rwa [Qd6]at this
 have hk:j/4<xs.length:=by omega
 obtain⟨b,off,h,hb,c0,c1,c2,c3⟩:=(hs.ext e) (j/4) hk
 cases h
 have e:(⟨b,off,none⟩:Addr).add j=⟨b,off+j,none⟩:=by unfold Addr.add;split<;>simp_all
 have hg:=Qhv xs (j/4) (j % 4) hk (Nat.mod_lt _ Om);rw [show j/4*4+j % 4=j by omega]at hg;rw [e,←hu,hg];have hm:j % 4<4:=Nat.mod_lt _ Om;generalize hq:j/4=q at*;generalize hr:j % 4=r at*;have hjq:j=q*4+r:=by omega
 subst hjq;obtain rfl|rfl|rfl|rfl:r=0∨r=1∨r=2∨r=3:=by omega
 ·exact c0
 ·exact c1
 ·exact c2
 ·exact c3
theorem SlT.nil_of{xs:List Tu}(hs:SlT w none xs):xs= []:=by
 cases xs with
 |nil=>rfl
 |cons m r=>obtain⟨b,off,h,_⟩:=hs 0 (by simp);cases h
theorem Qru{s t:Tu}{q:Bool}(h:eqT s t=q)(ρ:Operand→Value)(dst:Option Tmp)(x y:Operand)(ty:TypeId)(pos:String)(after:Array Edge)(g:Option (Nat×Bool))(hx:ρ x=tu s.a s.b s.c s.d)(hy:ρ y=tu t.a t.b t.c t.d)(w:World):
  (execOp ρ ⟨dst,.binOp .neq 64 x y 64,ty,pos,after,g⟩).run Tryz.prog w= .ok (.value (.bool (!q))) w:=by
 subst h;simp only [execOp,hx,hy];go_simp
 try (unfold eqT;repeat' split)
 all_goals simp_all
theorem Qzm{x y:Tu}(h:x≠y){p:Operand}(hx:ρ p=tu x.a x.b x.c x.d)(hy:ρ q=tu y.a y.b y.c y.d)(w:World):
  (execOp ρ ⟨dst,.binOp .neq 64 p q 64,ty,pos,after,g⟩).run Tryz.prog w= .ok (.value (.bool true)) w:=
 Qru (q:=false) (by cases hq:eqT x y;rfl;exact absurd (YZ.1 hq) h) ρ dst p q ty pos after g hx hy w
theorem Qwd(p q:Option Addr)(xs ys:List Tu)(c c':Nat)(w:World)(hs:SlT w p xs)(ht:SlT w q ys)(hl:xs.length≤1000)(hm:ys.length≤1000):
  Cr 28 #[.slice p xs.length c,.slice q ys.length c'] w (.bool (decide (xs=ys))):=by
 by_cases hle:xs.length=ys.length
 ·have hlb:((xs.length:Int) !=ys.length)=false:=by simp [hle]
  have HLE:=Xh hle;rw [hle]at hlb⊢;clear hle
  go_enter Tryz.func28,Tryz.ntmps28
  go_wp2
  go_loopw [5] (fun a wr=> ∃k:Nat,k≤xs.length∧a= .int .i64 k∧xs.take k=ys.take k∧Ext w wr) (fun a _=>ys.length- (intOf a).toNat)
  case atStart=>exact⟨0,Nat.zero_le _,rfl,rfl,Ext.rf _⟩
  case round=>
   obtain⟨k,hk,rfl,hT,hE⟩:=hrel;have hle:=HLE.out
   by_cases hlt:k<ys.length
   ·have hil:(k:Int)<ys.length:=by omega
    obtain⟨b1,o1,rfl,lb1,c0,c1,c2,c3⟩:=(hs.ext hE) k Om;obtain⟨b2,o2,rfl,lb2,d0,d1,d2,d3⟩:=(ht.ext hE) k hlt;have L1:Lt b1 wr:=lb1;have L2:Lt b2 wr:=lb2;have HH:=Xh hs;have HT:=Xh ht;have hx1:k<xs.length:=by omega
    obtain⟨x,hx⟩: ∃x,xs[k]=x:=⟨_,rfl⟩;obtain⟨y,hy⟩: ∃y,ys[k]=y:=⟨_,rfl⟩;have hT1:xs.take (k+1)=xs.take k++ [x]:=by rw [List.take_succ_eq_append_getElem hx1,hx]
    have hT2:ys.take (k+1)=ys.take k++ [y]:=by rw [List.take_succ_eq_append_getElem hlt,hy]
    rw [hx]at c0 c1 c2 c3;rw [hy]at d0 d1 d2 d3;clear hs ht hle lb1 lb2
    by_cases hxy:x=y
    ·subst hxy;have HN:=Xh (show xs.take (k+1)=ys.take (k+1)by rw [hT1,hT2,hT]);clear hT hT1 hT2 hx hy
     go_upto_region 6 with(fail)
     refine Qk Kr Kr ?_;(repeat(go_big_quiet_step (fail)));refine wpQuiet_nil ?_;intro d
     have hd:=Qt d;go_wp2
     go_roundw
     case rel=>exact⟨k+1,Om,by go_num,HN.out,hE.tr hd⟩
     case measure=>simp [intOf];omega
    ·have HXY:=Xh hxy
     have HR:=Xh (show decide (xs=ys)=false by
      refine decide_eq_false fun e=>hxy ?_;subst e
      rw [←hx,←hy])
     clear hT hT1 hT2 hx hy hxy
     go_upto_region 6 with(fail)
     refine Qk Kr Kr ?_;(repeat(go_big_quiet_step (fail)))
     refine QdG (v:= .bool true) Kr (Qzm HXY.out Kr Kr) ?_;refine wpQuiet_nil ?_;intro d
     have hd:=Qt d;go_simp;go_wp2;exact bodyPost_ret (v:= .bool false) (by simp [results,Tryz.results28,go_sem]) rfl ⟨by rw [HR.out],hE.tr hd⟩
   ·have hil: ¬((k:Int)<ys.length):=by omega
    have HR:=Xh (show decide (xs=ys)=true by
     refine decide_eq_true ?_
     rwa [List.take_of_length_le Om,List.take_of_length_le Om]at hT)
    clear hT;go_wp2;exact bodyPost_ret (v:= .bool true) (by simp [results,Tryz.results28,go_sem]) rfl ⟨by rw [HR.out],hE⟩
 ·have hlb:((xs.length:Int) !=ys.length)=true:=by simp;omega
  have HR:=Xh (show decide (xs=ys)=false from decide_eq_false fun e=>hle (by rw [e]));clear hle
  go_enter Tryz.func28,Tryz.ntmps28
  go_wp2;exact bodyPost_ret (v:= .bool false) (by simp [results,Tryz.results28,go_sem]) rfl ⟨by rw [HR.out],Ext.rf _⟩
theorem Qgc(s t:Tu)(hs:TuR s)(ht:TuR t)(w:World):Cr 80 #[tu s.a s.b s.c s.d,tu t.a t.b t.c t.d] w (.bool (decide (YQ s t<0))):=by
 have HC:=Xh (fun W=>Qen s t hs ht W)
 go_enter Tryz.func80,Tryz.ntmps80
 go_wp2_with (go_at_call 122;(refine(HC.out _).mono ?_);rintro e wx ⟨rfl,gx⟩)
 go_ret;exact⟨rfl,(Ext.al Ea _).tr gx⟩
end Go.Proofs.YtpeonbaodnmlnaaGreat
