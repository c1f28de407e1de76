/- Lemmas of this claim, put together out of: HU, HV, HX, HY, HZ, IA, IC, IE, IB, NM, I3, I4, NN, NP, NO, NQ, J2, OA1, OA2, F. -/
import Derived.Test.YtpeonbaodnmlnaaGreatMA4
import Derived.Laws.EntriesVeiled
import Derived.WalkKit
import Derived.ProofKit
import Derived.OpenShut
import Derived.Lib.SmallJoins
set_option linter.unusedSimpArgs false
set_option linter.unusedVariables false
set_option maxRecDepth 100000
set_option maxHeartbeats 16000000
namespace Go.Proofs.YtpeonbaodnmlnaaGreat
open Go.RowKit
theorem Mv.trn{C D:Nat→Prop}{w A B:World}(h:Mv C w A)(m:Mv D A B)(hc: ∀k,D k→C k∨w.heap.size≤k):Mv C w B:=
 ⟨m.os.trans h.os,m.tape.trans h.tape,m.output.trans h.output,Xt h.size m.size,fun q hq hn=>(m.same q (Xl hq h.size) (fun d=>(hc q d).elim hn (fun g=>by omega))).trans (h.same q hq hn)⟩
theorem SlC.mvg{A B:World}{C:Nat→Prop}{p:Option Addr}{xs:List Co}(h:SlC A p xs)(m:Mv C A B)(hb: ∀b off,p=some ⟨b,off,none⟩→ ¬C b):SlC B p xs:=fun j hk=>by
 obtain⟨b,off,h1,h2,c0,c1,c2,c3,c4,c5⟩:=h j hk;have e:=Qf (m.same b h2 (hb b off h1));simp only [Qa]at c0 c1 c2 c3 c4 c5⊢;exact⟨b,off,h1,Xl h2 m.size,by rw [e];exact c0,by rw [e];exact c1,by rw [e];exact c2,by rw [e];exact c3,by rw [e];exact c4,by rw [e];exact c5⟩
theorem SlE.mvg{A B:World}{C:Nat→Prop}{p:Option Addr}{xs:List Ev}(h:SlE A p xs)(m:Mv C A B)(hb: ∀b off,p=some ⟨b,off,none⟩→ ¬C b):SlE B p xs:=fun j hk=>by
 obtain⟨b,off,h1,h2,c0,c1,c2,c3,c4,c5⟩:=h j hk;have e:=Qf (m.same b h2 (hb b off h1));simp only [Qa]at c0 c1 c2 c3 c4 c5⊢;exact⟨b,off,h1,Xl h2 m.size,by rw [e];exact c0,by rw [e];exact c1,by rw [e];exact c2,by rw [e];exact c3,by rw [e];exact c4,by rw [e];exact c5⟩
def ZT(v:Value):Nat→Prop:=fun k=>v.ownBlock=some k
def OEv(w:World)(base:Nat)(v:Value)(es:List Ev):Prop:=w.ownsRow base 68 6 v es.length (flE es)
theorem OEv.ext{w w':World}{base:Nat}{v:Value}{es:List Ev}(h:OEv w base v es)(e:Ext w w'):OEv w' base v es:=Z0 h e
theorem OEv.mv{w w':World}{base:Nat}{v:Value}{es:List Ev}{C:Nat→Prop}(h:OEv w base v es)(m:Mv C w w')(hc: ∀q,base≤q→ ¬C q):OEv w' base v es:=Qu h m hc
theorem Qer{w:World}{base:Nat}{v:Value}{es:List Ev}(h:OEv w base v es): ∃p n c,v= .slice p n c:=by
 obtain⟨p,c,e,-,-⟩:=SlE.own h;exact⟨p,_,c,e⟩
theorem Qes{x:Ev}(ρ:Operand→Value)(dst:Option Tmp)(p:Operand)(ty:TypeId)(pos:String)(after:Array Edge)(g:Option (Nat×Bool))(hx:ρ p=x.v)(w:World):
  (execOp ρ ⟨dst,.buildSlice 39 1 #[(0,p)],ty,pos,after,g⟩).run Tryz.prog w= .ok (.value (.slice (some ⟨w.heap.size,0,none⟩) 1 1)) (w.alloc (.cells x.cl.toArray 68)):=by
 simp only [execOp,List.map_toArray,List.map_cons,List.map_nil,hx];go_simp;rfl
theorem Qjv{ops:Array Oper}{C D:Nat→Prop}{r:Nat}{Q:Act→World→Prop}{N k m m':Nat}{dst:Option Tmp}{x y:Operand}{ty:TypeId}{pos:String}{after:Array Edge}{fuel:Nat}{a:Act}{w:World}{base A:Nat}{v1:Value}{b1:List Ev}{x1:Ev}
  (hm:m|||(1<<<k)=m')(hi:ops[k]?=some ⟨dst,.call {callee:= .builtin .append,args:=#[x,y],argTypes:=#[39,39]},ty,pos,after,none⟩)(hx:a.eval x=v1)(hy:a.eval y= .slice (some ⟨A,0,none⟩) 1 1)(h1:OEv w base v1 b1)(hA: ∀j u,x1.cl[j]?=some u→w.cell? ⟨A,j,none⟩=some u)(hl:b1.length≤1000)(hC: ∀r,v1.ownBlock=some r→C r)(hCD: ∀k,C k→D k)(hb:base≤w.heap.size)
  (H: ∀v' w',OEv w' base v' (b1++ [x1])→w.grownBy w' v1.ownBlock→Mv (fun k=>v1.ownBlock=some k) w w'→QK C D r Tryz.prog .any ops Q fuel (msk N m') (a.put dst v') w'):Qaz C D r Tryz.prog ops Q fuel N k m a w:=by
 obtain⟨i0,hi0,hz0,hz,hz2⟩:=info_parts Qob
 obtain⟨v',w',hr,ho,hg,-,-⟩:=run_append_own_at (P:=Tryz.prog) w base 39 ty 68 i0 (.agg #[.int .u8 0,.int .i64 0,.int .u32 0,.int .u32 0,.int .u16 0,.int .u16 0]) 6 32 Tryz.underlying39 hi0 hz0 hz hz2 rfl (by decide) v1 b1.length _ h1 ⟨A,0,none⟩ 1 1 x1.cl rfl (fun j u hu=>by
  have e:(⟨A,0,none⟩:Addr).add j=⟨A,j,none⟩:=by unfold Addr.add;split<;>simp_all
  rw [e];exact hA j u hu) (Qoc x1) (by unfold maxLen;omega) (by omega) hb
 have hm3:Mv (fun k=>v1.ownBlock=some k) w w':=Mv.of_grown hg fun r e=> .inl e;have hm2:Mv C w w':=hm3.mono fun k _ e=>hC k e;refine Zv (v:=v') hm hi rfl ?_ ⟨.inr hm2,hm2.mono fun k _ h=>hCD k h⟩ (H v' w' ?_ hg hm3)
 ·simp [execOp,resolve,invoke,builtin,hx,hy,hr,Result.andThen]
 ·unfold OEv;rw [List.length_append,Qhk];exact ho
theorem QcK{w:World}{B i:Nat}{v u:Value}(hc:w.cell? ⟨B,i,none⟩=some u)(hf:w.frozen? ⟨B,i,none⟩=false)(hv: ∃a m c,v= .slice a m c)(ρ:Operand→Value)(dst:Option Tmp)(x y:Operand)(ty:TypeId)(pos:String)(after:Array Edge)(g:Option (Nat×Bool))
  (hx:ρ x= .pointer (some ⟨B,i,none⟩))(hy:ρ y=v):(execOp ρ ⟨dst,.store 25 x y,ty,pos,after,g⟩).run Tryz.prog w= .ok .skip (w.setCell ⟨B,i,none⟩ v):=by
 obtain⟨a,m,c,rfl⟩:=hv;simp only [execOp,hx,hy];go_simp
theorem QcL{w:World}{B i:Nat}{v u:Value}(hc:w.cell? ⟨B,i,none⟩=some u)(hf:w.frozen? ⟨B,i,none⟩=false)(hv: ∃a m c,v= .slice a m c)(ρ:Operand→Value)(dst:Option Tmp)(x y:Operand)(ty:TypeId)(pos:String)(after:Array Edge)(g:Option (Nat×Bool))
  (hx:ρ x= .pointer (some ⟨B,i,none⟩))(hy:ρ y=v):(execOp ρ ⟨dst,.store 39 x y,ty,pos,after,g⟩).run Tryz.prog w= .ok .skip (w.setCell ⟨B,i,none⟩ v):=by
 obtain⟨a,m,c,rfl⟩:=hv;simp only [execOp,hx,hy];go_simp
theorem Qa5{C:Nat→Prop}{w:World}{B i:Nat}{a:Option Addr}{m c:Nat}(h0:w.cell? ⟨B,i,none⟩=some (.slice a m c))(hl:Lt B w)(hC: ¬C B)(ρ:Operand→Value)(dst:Option Tmp)(q:Operand)(ty:TypeId)(pos:String)(after:Array Edge)(g:Option (Nat×Bool))
  (hx:ρ q= .pointer (some ⟨B,i,none⟩)): ∀w',Mv C w w'→(execOp ρ ⟨dst,.load 39 q,ty,pos,after,g⟩).run Tryz.prog w'= .ok (.value (.slice a m c)) w':=by
 intro w' hE;have h1:w'.cell? ⟨B,i,none⟩=some (.slice a m c):=by rw [Qa,Qf (hE.same B hl hC),←Qa];exact h0
 simp only [execOp,hx];go_simp
theorem Qjw{C:Nat→Prop}{w:World}{B i:Nat}{f:Nat}{x y:Array Value}(h0:w.cell? ⟨B,i,none⟩=some (.func (.func f) x y))(hl:Lt B w)(hC: ¬C B)(ρ:Operand→Value)(dst:Option Tmp)(q:Operand)(ty:TypeId)(pos:String)(after:Array Edge)(g:Option (Nat×Bool))
  (hx:ρ q= .pointer (some ⟨B,i,none⟩)): ∀w',Mv C w w'→(execOp ρ ⟨dst,.load 168 q,ty,pos,after,g⟩).run Tryz.prog w'= .ok (.value (.func (.func f) x y)) w':=by
 intro w' hE;have h1:w'.cell? ⟨B,i,none⟩=some (.func (.func f) x y):=by rw [Qa,Qf (hE.same B hl hC),←Qa];exact h0
 simp only [execOp,hx];go_simp
theorem QcM{C:Nat→Prop}{w:World}{B:Nat}{c:Cm}(h0:RowZ w B (cmv c))(hC: ¬C B)(ρ:Operand→Value)(dst:Option Tmp)(q:Operand)(ty:TypeId)(pos:String)(after:Array Edge)(g:Option (Nat×Bool))
  (hx:ρ q= .pointer (some ⟨B,0,none⟩)): ∀w',Mv C w w'→(execOp ρ ⟨dst,.load 98 q,ty,pos,after,g⟩).run Tryz.prog w'= .ok (.value (.agg (cmv c))) w':=by
 intro w' hE;have h1:=h0.mv hE hC;have e:=Qce ρ dst q ty pos after g w' (by rw [hx];rfl) (by rw [hx];show Fits 0 18 (Qc w' B);rw [h1.r];unfold Fits;exact Nat.le_refl _);rw [e,hx];show Result.ok (Next.value (Value.agg (Qz (Qc w' B) 0 18))) w'=_;rw [h1.r,Q5 _ 18 rfl]
def SlBB(w:World)(p:Option Addr)(bss:List (List Int)):Prop:= ∀k,(h:k<bss.length)→ ∃b off q c,p=some ⟨b,off,none⟩∧b<w.heap.size∧w.cell? ⟨b,off+k,none⟩=some (.slice q bss[k].length c)∧SlB w q bss[k]
theorem SlBB.nil(w:World)(p:Option Addr):SlBB w p []:=fun k hk=>by simp at hk
def QcN(w:World)(Ba:Nat)(a:Ag)(dr:Int)(xs:List Co)(es:List Ev)(ss:List (List Int))(e:Ending)(w':World):Prop:=
 ∃p c ep ec sp sc,e= .returned (.agg (dnv ⟨dr,ep,es.length,ec,sp,ss.length,sc⟩))∧RowZ w' Ba (agv {a with p:=p,xs:=xs,c:=c})∧SlC w' p xs∧SlE w' ep es∧SlBB w' sp ss∧Mv (fun q=>q=Ba) w w'∧
  (∀b off,p=some ⟨b,off,none⟩→w.heap.size≤b∨p=a.p)∧(∀b off,ep=some ⟨b,off,none⟩→w.heap.size≤b)∧(∀b off,sp=some ⟨b,off,none⟩→w.heap.size≤b)
theorem Qcg{w W W5:World}{Ba b4 lo:Nat}{a:Ag}{dr:Int}{xs:List Co}{es:List Ev}{ss:List (List Int)}{p ep sp:Option Addr}{c ec sc:Nat}{cs:Array Value}(hW:Qe W b4 0 cs=W5)(E:Mv (fun q=>q=Ba) w W)(ra:RowZ W Ba (agv {a with p:=p,xs:=xs,c:=c}))(sn:SlC W p xs)(se:SlE W ep es)(ss':SlBB W5 sp ss)
  (h4:w.heap.size≤b4)(h5:b4<lo)(hBa:Ba<w.heap.size)(hp:(∀b off,p=some ⟨b,off,none⟩→lo≤b)∨p=a.p∧ ∀b off,p=some ⟨b,off,none⟩→b<w.heap.size)(he: ∀b off,ep=some ⟨b,off,none⟩→lo≤b)(hs: ∀b off,sp=some ⟨b,off,none⟩→lo≤b):
  QcN w Ba a dr xs es ss (.returned (.agg (dnv ⟨dr,ep,es.length,ec,sp,ss.length,sc⟩))) W5:=by
 have m:Mv (fun q=>q=b4) W W5:=by rw [←hW];exact Mv.sa _ rfl (Mv.refl _ _)
 refine⟨p,c,ep,ec,sp,sc,rfl,ra.mv m (by omega),sn.mvg m ?_,se.mvg m (fun b off e f=>by have:=he b off e;omega),ss',E.trn m (fun k e=> .inr (by omega)),?_,fun b off e=>by have:=he b off e;omega,fun b off e=>by have:=hs b off e;omega⟩
 ·rintro b off e rfl;rcases hp with hp|⟨-,hp⟩
  ·have:=hp _ _ e;omega
  ·have:=hp _ _ e;omega
 ·intro b off e;rcases hp with hp|⟨h,-⟩
  ·exact .inl (by have:=hp b off e;omega)
  ·exact .inr h
structure Qsv(w:World)(a:Ag)(Ba b2 bc:Nat):Prop where
 ra:RowZ w Ba (agv a)
 rb:RowZ w b2 #[.pointer (some ⟨Ba,0,none⟩)]
 rc:RowZ w bc #[.func (.func 112) #[] #[.pointer (some ⟨b2,0,none⟩)]]
 s:SlC w a.p a.xs
 n:Ba≠b2∧Ba≠bc
def Qsw(lo:Nat)(xs:List Co)(n:Int)(v:Value)(w':World):Prop:= ∃p c,v= .tuple #[.slice p xs.length c,.int .i64 n]∧SlC w' p xs∧ ∀b off,p=some ⟨b,off,none⟩→lo≤b
theorem Qwz(lo:Nat)(t:Tu)(now:Int)(p:Option Addr)(xs:List Co)(c:Nat)(w:World)(hs:SlC w p xs)(hl:xs.length≤1000)(hlo:lo≤w.heap.size):Calls Tryz.prog 119 #[.slice p xs.length c,.agg #[.int .u32 t.a,.int .u32 t.b,.int .u16 t.c,.int .u16 t.d],.int .i64 now] w fun e w'=> ∃v,e= .returned v∧Qsw lo (Qaj xs t now) (Qbx xs t now) v w'∧Ext w w':=
 (Qqe t now p xs c w hs hl).mono fun e w' ⟨v,h1,h2,h3⟩=>⟨_,h1,(by obtain⟨q,d,e,-,s⟩:=SlC.own h2;exact⟨q,d,by rw [e],s,fun b off e2=>Xt hlo (Qi h2 b (by rw [e,e2];rfl))⟩),h3⟩
def Qo1(ops:Array Oper):Prop:=Region.noSelect ops=true∧Qo ops 17 [0,1,2,3,4,5,6,7,8,9] 0=true∧Region.ready .any ops (msk 17 1023)= [10]∧Qo ops 17 [11,12,13,14,15] 2047=true∧Region.ready .any ops (msk 17 65535)= [16]∧Region.ready .any ops (msk 17 131071)= []∧lateB .any ops 16 4=true
theorem Qjx:Qo1 ((Tryz.f118.body.bind (Qg 1)).getD #[]):=⟨by kernel_rfl,by kernel_rfl,by kernel_rfl,by kernel_rfl,by kernel_rfl,by kernel_rfl,by kernel_rfl⟩
def Qo2(ops:Array Oper):Prop:=Region.noSelect ops=true∧Qo ops 9 [0,1,2,3] 0=true∧Region.ready .any ops (msk 9 15)= [4]∧Region.ready .any ops (msk 9 31)= [5]∧Region.ready .any ops (msk 9 63)= [6]∧Qo ops 9 [7] 127=true∧Region.ready .any ops (msk 9 255)= [8]∧Region.ready .any ops (msk 9 511)= []∧lateB .any ops 8 1=true
theorem Qjy:Qo2 ((Tryz.f118.body.bind (Qg 2)).getD #[]):=⟨by kernel_rfl,by kernel_rfl,by kernel_rfl,by kernel_rfl,by kernel_rfl,by kernel_rfl,by kernel_rfl,by kernel_rfl,by kernel_rfl⟩
theorem Jf(a:Ag)(c:Cm)(Ba b2 bc:Nat)(w:World)(h:Qsv w a Ba b2 bc)(hl:a.xs.length≤1000):
  Calls Tryz.prog 118 #[.agg (cmv c),.pointer (some ⟨b2,0,none⟩),.pointer (some ⟨bc,0,none⟩)] w (QcN w Ba a 0 (Qaj a.xs c.pk.tu c.now) [⟨1,a.id,c.pk.tu⟩] []):=by
 obtain⟨ra,rb,rc,hs,hn1,hn2⟩:=h;have lA:Ba<w.heap.size:=ra.l;have lB:b2<w.heap.size:=rb.l;have lC:bc<w.heap.size:=rc.l
 go_enter Tryz.func118,Tryz.ntmps118
 go_upto_region 1 with(fail)
 obtain⟨W0,hW⟩: ∃W0,(w.alloc (.cells (cmv c) 98)).alloc (.cells #[.int .u8 0,.slice none 0 0,.slice none 0 0] 42)=W0:=⟨_,rfl⟩;have E':Ext w W0:=by rw [←hW];exact Ext.al (Ext.al (Ext.rf _) _) _
 have r3:RowZ W0 w.heap.size (cmv c):=by rw [←hW];exact⟨by simp [go_sem],by simp [go_sem],by simp [go_sem,Lt]⟩
 have r4:RowZ W0 (w.heap.size+1) #[.int .u8 0,.slice none 0 0,.slice none 0 0]:=by rw [←hW];exact⟨by simp [go_sem],by simp [go_sem],by simp [go_sem,Lt]⟩
 have hsz:W0.heap.size=w.heap.size+2:=by rw [←hW];simp
 rw [hW];clear hW;have ra:=ra.ext E';have rb:=rb.ext E';have rc:=rc.ext E';obtain⟨b3,e3⟩: ∃b,w.heap.size=b:=⟨_,rfl⟩;rw [e3]at r3 r4 hsz lA lB lC⊢;obtain⟨b4,e4⟩: ∃b,b3+1=b:=⟨_,rfl⟩;rw [e4]at r4⊢;obtain⟨lo,hlo⟩: ∃lo,b4+1=lo:=⟨_,rfl⟩;have E:Mv (fun q=>q=Ba) w W0:=Mv.of_ext E';have hnb: ¬b2=Ba:=fun e=>hn1 e.symm;have hnc: ¬bc=Ba:=fun e=>hn2 e.symm;have hn3: ¬b3=Ba:=by omega
 have hn4: ¬b4=Ba:=by omega
 refine Qy (fun _=>False) (fun q=>q=Ba) 16 (by kernel_rfl) ?_;have hDb: ¬(fun q=>q=Ba) b2:=hnb;have hD3: ¬(fun q=>q=Ba) b3:=hn3;obtain⟨WA,hW⟩: ∃Wdr,World.drew W0=Wdr:=⟨_,rfl⟩;have gD:Ext W0 WA:=by rw [←hW];exact Ext.dr (Ext.rf _)
 rw [hW];clear hW;have E:=E.tr gD;have ra:=ra.ext gD;have rb:=rb.ext gD;have rc:=rc.ext gD;have r3:=r3.ext gD;have r4:=r4.ext gD;have E':=E'.tr gD;refine Zg (N:=17) (R:=Qo1) (E:=((Tryz.f118.body.bind (Qg 1)).getD #[])) (by kernel_rfl) Qjx (by kernel_rfl) fun hS=> ?_;have hT:=hS.2.1;refine tW 1 (.pointer (some ⟨Ba,0,none⟩)) hS.1 hT rfl (QaS (rb.cell 0 Nat.zero_lt_one) rb.l hDb _ _ _ _ _ _ _ (by kernel_rfl)) fun hT=> ?_;refine tW 3 (.pointer (some ⟨Ba,0,none⟩)) hS.1 hT rfl (QaS (rb.cell 0 Nat.zero_lt_one) rb.l hDb _ _ _ _ _ _ _ (by kernel_rfl)) fun hT=> ?_;refine tWk 7 (.pointer (some ⟨Ba,0,none⟩)) hS.1 hT rfl fun hT=> ?_;refine tWk 15 (.pointer (some ⟨Ba,66,none⟩)) hS.1 hT rfl fun hT=> ?_;refine Zu (N:=17) (k:=4) (m':=31) (v:= .slice a.p a.xs.length a.c) hS.1 hT hS.2.2.2.2.2.2 rfl rfl (by kernel_rfl) (Qaa (C:=fun _=>False) (by rw [Qa,ra.r,Qw]) ra.l (fun h=>h) _ _ _ _ _ _ _ (by kernel_rfl)) fun hT=> ?_;refine tWk 63 (.pointer (some ⟨b3,11,none⟩)) hS.1 hT rfl fun hT=> ?_;refine tWk 127 (.pointer (some ⟨b3,11,none⟩)) hS.1 hT rfl fun hT=> ?_;refine tW 255 (.agg #[.int .u32 c.pk.tu.a,.int .u32 c.pk.tu.b,.int .u16 c.pk.tu.c,.int .u16 c.pk.tu.d]) hS.1 hT rfl (Qeq (QW r3 11 (by show 11<18;omega)) (QW r3 12 (by show 12<18;omega)) (QW r3 13 (by show 13<18;omega)) (QW r3 14 (by show 14<18;omega)) r3.l hD3 _ _ _ _ _ _ _ (by kernel_rfl)) fun hT=> ?_;refine tWk 511 (.pointer (some ⟨b3,17,none⟩)) hS.1 hT rfl fun hT=> ?_;refine tW 1023 (.int .i64 c.now) hS.1 hT rfl (QX (QW r3 17 (by show 17<18;omega)) r3.l hD3 _ _ _ _ _ _ _ (by kernel_rfl)) fun hT=> ?_;refine sV 2047 (Qsw lo (Qaj a.xs c.pk.tu c.now) (Qbx a.xs c.pk.tu c.now)) hS.2.2.1 rfl (Qwz lo c.pk.tu c.now a.p a.xs a.c WA (hs.ext (by first|exact E'|exact E'.tr gWB1)) hl (by have:=E.size;have:=r4.l;unfold Lt at this;omega)) ?_;rintro _ WB1 gWB1 ⟨pn,cn,rfl,sn,nn⟩;have E:=E.tr gWB1;have ra:=ra.ext gWB1;have rb:=rb.ext gWB1;have rc:=rc.ext gWB1;have r3:=r3.ext gWB1;have r4:=r4.ext gWB1;have hT:=hS.2.2.2.1;refine tWk 4095 (.tuple #[.slice pn (Qaj a.xs c.pk.tu c.now).length cn,.int .i64 (Qbx a.xs c.pk.tu c.now)]) hS.1 hT rfl fun hT=> ?_;refine tWk 8191 (.slice pn (Qaj a.xs c.pk.tu c.now).length cn) hS.1 hT rfl fun hT=> ?_;refine tWk 16383 (.int .i64 (Qbx a.xs c.pk.tu c.now)) hS.1 hT rfl fun hT=> ?_;refine tWk 32767 (.pointer (some ⟨Ba,0,none⟩)) hS.1 hT rfl fun hT=> ?_;refine tWk 65535 (.pointer (some ⟨Ba,66,none⟩)) hS.1 hT rfl fun hT=> ?_;refine Qv hS.2.2.2.2.1 (QE (m':=131071) rfl rfl (by kernel_rfl) (QcK (B:=Ba) (i:=66) (v:= .slice pn (Qaj a.xs c.pk.tu c.now).length cn) (u:= .slice a.p a.xs.length a.c) (by rw [Qa,ra.r,Qw]) (ra.frz 66) ⟨_,_,_,rfl⟩ _ _ _ _ _ _ _ _ (by kernel_rfl) (by kernel_rfl)) ⟨.inl (by decide),(Mv.st _ (.inl rfl) (Mv.refl _ _))⟩ ?_);obtain⟨WB2,hWB2⟩: ∃WB2,World.setCell WB1 ⟨Ba,66,none⟩ (.slice pn (Qaj a.xs c.pk.tu c.now).length cn)=WB2:=⟨_,rfl⟩;have gS:Mv (fun q=>q=Ba) WB1 WB2:=by rw [←hWB2];exact Mv.st _ (.inl rfl) (Mv.refl _ _)
 have ra:RowZ WB2 Ba (agv {a with p:=pn,xs:=(Qaj a.xs c.pk.tu c.now),c:=cn}):=by rw [←hWB2];exact⟨JH (a:=a) pn (Qaj a.xs c.pk.tu c.now) cn ra.r,by rw [QN];exact ra.z,by rw [Zd];exact ra.l⟩
 have E:=E.trans gS;have rb:=rb.mv gS hnb;have rc:=rc.mv gS hnc;have r3:=r3.mv gS hn3;have r4:=r4.mv gS hn4;have sn:=sn.mvo gS (fun b off e=>by have:=nn b off e;omega);rw [hWB2];clear hWB2;refine Q8 hS.2.2.2.2.2.1 ?_;clear hS hT;go_simp;obtain⟨a1,ea⟩: ∃a1,({a with p:=pn,xs:=(Qaj a.xs c.pk.tu c.now),c:=cn}:Ag)=a1:=⟨_,rfl⟩;have ra:RowZ WB2 Ba (agv a1):=by rw [←ea];exact ra
 have eid:a1.id=a.id:=by rw [←ea]
 have HEA:=Xh ea;clear ea
 go_upto_region 2 with(fail)
 have oe:OEv WB2 lo (.slice none 0 0) []:=World.ownsRow_nil WB2 lo 68 6;have hbs:lo≤WB2.heap.size:=by have:=r4.l;unfold Lt at this;omega
 have hge:=Qi oe;have hCa: ¬ZT (.slice none 0 0) Ba:=fun e=>by have:=hge _ e;omega
 have hCb: ¬ZT (.slice none 0 0) b2:=fun e=>by have:=hge _ e;omega
 have hCc: ¬ZT (.slice none 0 0) bc:=fun e=>by have:=hge _ e;omega
 have hC3: ¬ZT (.slice none 0 0) b3:=fun e=>by have:=hge _ e;omega
 have hC4: ¬ZT (.slice none 0 0) b4:=fun e=>by have:=hge _ e;omega
 have hCE: ∀q,ZT (.slice none 0 0) q→w.heap.size≤q:=fun q e=>by have:=hge _ e;omega
 have hDc: ¬(fun q=>q=b4∨ZT (.slice none 0 0) q) bc:=fun e=>e.elim (by omega) hCc;have hD3: ¬(fun q=>q=b4∨ZT (.slice none 0 0) q) b3:=fun e=>e.elim (by omega) hC3;have hle:([]:List Ev).length≤1000:=by decide
 have hnk: ∀b off,pn=some ⟨b,off,none⟩→ ¬ZT (.slice none 0 0) b:=fun b off _ f=>by cases f
 refine Qy (ZT (.slice none 0 0)) (fun q=>q=b4∨ZT (.slice none 0 0) q) 8 (by kernel_rfl) ?_;obtain⟨WC,hW⟩: ∃Wdr,World.drew WB2=Wdr:=⟨_,rfl⟩;have gD:Ext WB2 WC:=by rw [←hW];exact Ext.dr (Ext.rf _)
 rw [hW];clear hW;have E:=E.tr gD;have ra:=ra.ext gD;have rb:=rb.ext gD;have rc:=rc.ext gD;have r3:=r3.ext gD;have r4:=r4.ext gD;have oe:=oe.ext gD;have sn:=sn.ext gD;have hbs:=Xt hbs gD.size;refine Zg (N:=9) (R:=Qo2) (E:=((Tryz.f118.body.bind (Qg 2)).getD #[])) (by kernel_rfl) Qjy (by kernel_rfl) fun hS=> ?_;have hT:=hS.2.1;refine tWk 1 (.pointer (some ⟨b4,1,none⟩)) hS.1 hT rfl fun hT=> ?_;refine Zu (N:=9) (k:=1) (m':=3) (v:= .slice none 0 0) hS.1 hT hS.2.2.2.2.2.2.2.2 rfl rfl (by kernel_rfl) (Qa5 (C:=ZT (.slice none 0 0)) (r4.cell 1 (by show 1<3;omega)) r4.l hC4 _ _ _ _ _ _ _ (by kernel_rfl)) fun hT=> ?_;refine tW 7 (.func (.func 112) #[] #[.pointer (some ⟨b2,0,none⟩)]) hS.1 hT rfl (Qjw (rc.cell 0 Nat.zero_lt_one) rc.l hDc _ _ _ _ _ _ _ (by kernel_rfl)) fun hT=> ?_;refine tW 15 (.agg (cmv c)) hS.1 hT rfl (QcM r3 hD3 _ _ _ _ _ _ _ (by kernel_rfl)) fun hT=> ?_;refine sV 31 (fun v _=>v=Ev.v ⟨1,a1.id,c.pk.tu⟩) hS.2.2.1 rfl (Zt (QcJ 1 a1.id c b2 Ba WC (rb.cell 0 Nat.zero_lt_one) rb.l (Ye ra.r) ra.l)) ?_;rintro _ WD1 gWD1 rfl;have E:=E.tr gWD1;have ra:=ra.ext gWD1;have rb:=rb.ext gWD1;have rc:=rc.ext gWD1;have r3:=r3.ext gWD1;have r4:=r4.ext gWD1;have oe:=oe.ext gWD1;have sn:=sn.ext gWD1;have hbs:=Xt hbs gWD1.size;refine Qv hS.2.2.2.1 (Zv (m':=63) rfl rfl (by kernel_rfl) (Qes (x:=⟨1,a1.id,c.pk.tu⟩) _ _ _ _ _ _ _ (by kernel_rfl) WD1) ⟨.inr (Mv.of_ext (Ext.al (Ext.rf _) _)),(Mv.of_ext (Ext.al (Ext.rf _) _))⟩ ?_);obtain⟨WD2,hWD2⟩: ∃WD2,WD1.alloc (.cells (Ev.cl ⟨1,a1.id,c.pk.tu⟩).toArray 68)=WD2:=⟨_,rfl⟩;have hbk:=World.alloc_heap_new WD1 (.cells (Ev.cl ⟨1,a1.id,c.pk.tu⟩).toArray 68);have gWD2:Ext WD1 WD2:=by rw [←hWD2];exact Ext.al (Ext.rf _) _
 rw [hWD2]at hbk⊢;clear hWD2;have E:=E.tr gWD2;have ra:=ra.ext gWD2;have rb:=rb.ext gWD2;have rc:=rc.ext gWD2;have r3:=r3.ext gWD2;have r4:=r4.ext gWD2;have oe:=oe.ext gWD2;have sn:=sn.ext gWD2;have hA: ∀j u,(Ev.cl ⟨1,a1.id,c.pk.tu⟩)[j]?=some u→WD2.cell? ⟨WD1.heap.size,j,none⟩=some u:=fun j u hu=>by simp only [World.cell?,hbk];simpa using hu
 have hbs:=Xt hbs gWD2.size;refine Qv hS.2.2.2.2.1 (Qjv (m':=127) (base:=lo) (v1:= .slice none 0 0) (b1:=([]:List Ev)) (x1:=⟨1,a1.id,c.pk.tu⟩) rfl rfl (by kernel_rfl) (by kernel_rfl) oe hA hle (fun r e=>e) (fun k h=> .inr h) hbs ?_);intro v' WD3 oe hg' hm';have E:=E.trn hm' (fun q e=> .inr (hCE q e));have ra:=ra.mv hm' hCa;have rb:=rb.mv hm' hCb;have rc:=rc.mv hm' hCc;have r3:=r3.mv hm' hC3;have r4:=r4.mv hm' hC4;have hbs:=Xt hbs hm'.size;have sn:=sn.mvg hm' (fun b off e f=>by first|exact hnk b off e f|(have:=nn b off e;omega));have gWD3:=Ext.rf WD3;have E:=E.tr gWD3;have ra:=ra.ext gWD3;have rb:=rb.ext gWD3;have rc:=rc.ext gWD3;have r3:=r3.ext gWD3;have r4:=r4.ext gWD3;have oe:=oe.ext gWD3;have sn:=sn.ext gWD3;have hT:=hS.2.2.2.2.2.1;refine tWk 255 (.pointer (some ⟨b4,1,none⟩)) hS.1 hT rfl fun hT=> ?_;refine Qv hS.2.2.2.2.2.2.1 (QE (m':=511) rfl rfl (by kernel_rfl) (QcL (B:=b4) (i:=1) (v:=v') (u:= .slice none 0 0) (r4.cell 1 (by show 1<3;omega)) (r4.frz 1) (Qer oe) _ _ _ _ _ _ _ _ (by kernel_rfl) (by kernel_rfl)) ⟨.inl (by decide),(Mv.st _ (.inl (.inl rfl)) (Mv.refl _ _))⟩ ?_);obtain⟨WD4,hWD4⟩: ∃WD4,World.setCell WD3 ⟨b4,1,none⟩ v'=WD4:=⟨_,rfl⟩;have gS:Mv (fun q=>q=b4) WD3 WD4:=by rw [←hWD4];exact Mv.st _ (.inl rfl) (Mv.refl _ _)
 have r4:RowZ WD4 b4 #[.int .u8 0,v',.slice none 0 0]:=by rw [←hWD4];exact r4.set 1 _
 have E:=E.trn gS (fun q e=> .inr (by omega));have ra:=ra.mv gS (by omega);have rb:=rb.mv gS (by omega);have rc:=rc.mv gS (by omega);have r3:=r3.mv gS (by omega);have oe:=oe.mv gS (fun q hq e=>by omega);have hbs:=Xt hbs gS.size;have sn:=sn.mvg gS (fun b off e f=>by first|exact hnk b off e f|(have:=nn b off e;omega));rw [hWD4];clear hWD4;refine Q8 hS.2.2.2.2.2.2.2.1 ?_;clear hS hT;obtain⟨ep,ec,rfl,-,se⟩:=SlE.own oe;have hnE:=Qi oe;have e1:(([]:List Ev)++ [(⟨1,a1.id,c.pk.tu⟩:Ev)]).length=1:=rfl;rw [e1]at r4 hnE⊢;clear e1;have HC:=Xh (show Mv (fun q=>q=Ba) w WD4∧RowZ WD4 Ba (agv a1)∧SlC WD4 pn (Qaj a.xs c.pk.tu c.now)∧SlE WD4 ep [⟨1,a1.id,c.pk.tu⟩]∧(∀b off,ep=some ⟨b,off,none⟩→lo≤b)from⟨E,ra,sn,se,fun b off e=>by have:=hnE b (by rw [e];rfl);omega⟩);clear E ra sn se rb rc r3 oe hnE;have HR4:=Xh r4;have hq4:Qc WD4 b4=#[.int .u8 0,.slice ep 1 ec,.slice none 0 0]:=r4.r;have hf4:Qs WD4 b4=(0,0):=r4.z;have hz4:Lt b4 WD4:=r4.l;go_wp2;obtain⟨W5,h5⟩: ∃W5,Qe WD4 b4 0 #[.int .u8 0,.slice ep 1 ec,.slice none 0 0]=W5:=⟨_,rfl⟩;have q5:Qc W5 b4=#[.int .u8 0,.slice ep 1 ec,.slice none 0 0]:=by rw [←h5];exact Qr _ _ _ (by rw [hq4])
 rw [h5];obtain⟨E,ra,sn,se,hep⟩:=HC.out;rw [eid]at se;refine bodyPost_ret (Zo rfl _ _ b4 rfl (JN q5 rfl)) rfl (Qcg (lo:=lo) (a:=a) (c:=cn) h5 E (by rw [HEA.out];exact ra) sn se (SlBB.nil _ none) (by omega) (by omega) (by omega) (.inl nn) hep (fun b off e=>by cases e))
theorem Qjz(t:Pk)(p:Option Addr)(n c:Nat)(w:World):Calls Tryz.prog 116 #[.agg (pkV t (.slice p n c))] w fun e w'=>e= .returned (.bool (bits .and .u8 t.fl 5 !=0))∧Ext w w':=by
 unfold pkV
 go_enter Tryz.func116,Tryz.ntmps116
 go_wp2;go_ret;exact⟨rfl,Ext.al (Ext.rf _) _⟩
theorem Qrb(t:Pk)(p:Option Addr)(n c:Nat)(w:World):Calls Tryz.prog 45 #[.agg (pkV t (.slice p n c))] w fun e w'=>e= .returned (.bool (bits .and .u8 t.fl 7==2))∧Ext w w':=by
 unfold pkV
 go_enter Tryz.func45,Tryz.ntmps45
 go_wp2;go_ret;exact⟨rfl,Ext.al (Ext.rf _) _⟩
def acv(x:Ru.Ac):Array Value:=#[.int .u8 x.d,.int .u8 x.x,.int .u8 x.k,.int .i64 x.t,.int .i64 x.g]
theorem ZX(x:Ru.Ac)(c:Cm)(a:Ag)(Ba b1:Nat)(w:World)(ra:RowZ w Ba (agv a))(rx:RowZ w b1 (acv x))(hs:SlC w a.p a.xs)(hlt: ∀b off,a.p=some ⟨b,off,none⟩→b<w.heap.size):
  Calls Tryz.prog 113 #[.agg (cmv c),.pointer (some ⟨b1,0,none⟩)] w (QcN w Ba a x.x a.xs [] []):=by
 go_enter Tryz.func113,Tryz.ntmps113
 go_upto_region 1 with(fail)
 obtain⟨W0,hW⟩: ∃W0,(w.alloc (.cells (cmv c) 98)).alloc (.cells #[.int .u8 0,.slice none 0 0,.slice none 0 0] 42)=W0:=⟨_,rfl⟩;have E':Ext w W0:=by rw [←hW];exact Ext.al (Ext.al (Ext.rf _) _) _
 have r3:RowZ W0 (w.heap.size+1) #[.int .u8 0,.slice none 0 0,.slice none 0 0]:=by rw [←hW];exact⟨by simp [go_sem],by simp [go_sem],by simp [go_sem,Lt]⟩
 have c1:W0.cell? ⟨b1,1,none⟩=some (.int .u8 x.x):=(E'.cell (p:=⟨b1,1,none⟩) rx.l).trans (rx.cell 1 (by show 1<5;omega));have lA:Ba<w.heap.size:=ra.l;rw [hW];clear hW;have ra:=ra.ext E';have hs:=hs.ext E';obtain⟨b3,e3⟩: ∃b,w.heap.size+1=b:=⟨_,rfl⟩;rw [e3]at r3⊢;have HC:=Xh (show Ext w W0∧RowZ W0 Ba (agv a)∧SlC W0 a.p a.xs from⟨E',ra,hs⟩);clear E' ra hs;have q3:Qc W0 b3=#[.int .u8 0,.slice none 0 0,.slice none 0 0]:=r3.r;have f3:Qs W0 b3=(0,0):=r3.z;have z3:Lt b3 W0:=r3.l;have HR3:=Xh r3;clear r3;go_wp2;obtain⟨W5,h5⟩: ∃W5,Qe W0 b3 0 #[.int .u8 x.x,.slice none 0 0,.slice none 0 0]=W5:=⟨_,rfl⟩;have q5:Qc W5 b3=#[.int .u8 x.x,.slice none 0 0,.slice none 0 0]:=by rw [←h5];exact Qr _ _ _ (by rw [q3];rfl)
 rw [h5];obtain⟨E,ra,sn⟩:=HC.out;exact bodyPost_ret (Zo rfl _ _ b3 rfl (JN q5 rfl)) rfl (Qcg (lo:=b3+1) (a:=a) (p:=a.p) (c:=a.c) (es:= []) (ss:= []) h5 (Mv.of_ext E) ra sn (SlE.nil _ none) (SlBB.nil _ none) (by omega) (by omega) (by omega) (.inr ⟨rfl,hlt⟩) (fun b off e=>by cases e) (fun b off e=>by cases e))
def QkR(lo:Nat)(xs:List Co)(ok:Bool)(v:Value)(w':World):Prop:= ∃p c,v= .tuple #[.slice p xs.length c,.bool ok]∧SlC w' p xs∧ ∀b off,p=some ⟨b,off,none⟩→lo≤b
theorem Qrc(lo:Nat)(t:Tu)(now:Int)(p:Option Addr)(xs:List Co)(c:Nat)(w:World)(hs:SlC w p xs)(hl:xs.length≤1000)(hlo:lo≤w.heap.size):Calls Tryz.prog 115 #[.slice p xs.length c,.agg #[.int .u32 t.a,.int .u32 t.b,.int .u16 t.c,.int .u16 t.d],.int .i64 now] w fun e w'=> ∃v,e= .returned v∧QkR lo (withX (touchF now) xs t) (withOk xs t) v w'∧Ext w w':=
 (Qla t now p xs c w hs hl).mono fun e w' ⟨v,h1,h2,h3⟩=>⟨_,h1,(by obtain⟨q,d,e,-,s⟩:=SlC.own h2;exact⟨q,d,by rw [e],s,fun b off e2=>Xt hlo (Qi h2 b (by rw [e,e2];rfl))⟩),h3⟩
theorem Qrd(lo:Nat)(t:Tu)(p:Option Addr)(xs:List Co)(c:Nat)(w:World)(hs:SlC w p xs)(hl:xs.length≤1000)(hlo:lo≤w.heap.size):Calls Tryz.prog 117 #[.slice p xs.length c,.agg #[.int .u32 t.a,.int .u32 t.b,.int .u16 t.c,.int .u16 t.d]] w fun e w'=> ∃v,e= .returned v∧QkR lo (withX (fun xs k=>xs.eraseIdx k) xs t) (withOk xs t) v w'∧Ext w w':=
 (Qli t p xs c w hs hl).mono fun e w' ⟨v,h1,h2,h3⟩=>⟨_,h1,(by obtain⟨q,d,e,-,s⟩:=SlC.own h2;exact⟨q,d,by rw [e],s,fun b off e2=>Xt hlo (Qi h2 b (by rw [e,e2];rfl))⟩),h3⟩
theorem QjA(now:Int)(xs:List Co)(t:Tu):(withX (touchF now) xs t).length=xs.length:=by
 unfold withX touchF
 split
 ·split
  ·simp
  ·rfl
 ·rfl
@[go_sem] theorem QxE{c:Cm}{o m:Nat}:Fits o m (cmv c)=(o+m≤18):=by unfold Fits;rfl
@[go_sem] theorem Qmc{c:Cm}:Qz (cmv c) 11 6=pkV c.pk (.slice c.bp c.bN c.bc):=rfl
def Qdp(c:Cm):Bool:=bits .and .u8 c.pk.fl 5 !=0
def QhK(a:Ag)(c:Cm):List Co:=if Qdp c=true then withX (fun xs k=>xs.eraseIdx k) (withX (touchF c.now) a.xs c.pk.tu) c.pk.tu else(withX (touchF c.now) a.xs c.pk.tu)
def Qet(a:Ag)(c:Cm):List Ev:=if Qdp c=true then [⟨2,a.id,c.pk.tu⟩,⟨3,a.id,c.pk.tu⟩]else [⟨2,a.id,c.pk.tu⟩]
def Qo3(ops:Array Oper):Prop:=Region.noSelect ops=true∧Qo ops 9 [0,1,2,3] 0=true∧Region.ready .any ops (msk 9 15)= [4]∧Region.ready .any ops (msk 9 31)= [5]∧Region.ready .any ops (msk 9 63)= [6]∧Qo ops 9 [7] 127=true∧Region.ready .any ops (msk 9 255)= [8]∧Region.ready .any ops (msk 9 511)= []∧lateB .any ops 8 1=true
theorem QjB:Qo3 ((Tryz.f114.body.bind (Qg 1)).getD #[]):=⟨by kernel_rfl,by kernel_rfl,by kernel_rfl,by kernel_rfl,by kernel_rfl,by kernel_rfl,by kernel_rfl,by kernel_rfl,by kernel_rfl⟩
def Qo4(ops:Array Oper):Prop:=Region.noSelect ops=true∧Qo ops 17 [0,1,2,3,4,5,6,7,8,9] 0=true∧Region.ready .any ops (msk 17 1023)= [10]∧Qo ops 17 [11,12,13,14,15] 2047=true∧Region.ready .any ops (msk 17 65535)= [16]∧Region.ready .any ops (msk 17 131071)= []∧lateB .any ops 16 4=true
theorem QjC:Qo4 ((Tryz.f114.body.bind (Qg 2)).getD #[]):=⟨by kernel_rfl,by kernel_rfl,by kernel_rfl,by kernel_rfl,by kernel_rfl,by kernel_rfl,by kernel_rfl⟩
def Qo5(ops:Array Oper):Prop:=Region.noSelect ops=true∧Qo ops 9 [0,1,2,3] 0=true∧Region.ready .any ops (msk 9 15)= [4]∧Region.ready .any ops (msk 9 31)= [5]∧Region.ready .any ops (msk 9 63)= [6]∧Qo ops 9 [7] 127=true∧Region.ready .any ops (msk 9 255)= [8]∧Region.ready .any ops (msk 9 511)= []∧lateB .any ops 8 1=true
theorem QjD:Qo5 ((Tryz.f114.body.bind (Qg 4)).getD #[]):=⟨by kernel_rfl,by kernel_rfl,by kernel_rfl,by kernel_rfl,by kernel_rfl,by kernel_rfl,by kernel_rfl,by kernel_rfl,by kernel_rfl⟩
def Qo6(ops:Array Oper):Prop:=Region.noSelect ops=true∧Qo ops 15 [0,1,2,3,4,5,6,7] 0=true∧Region.ready .any ops (msk 15 255)= [8]∧Qo ops 15 [9,10,11,12,13] 511=true∧Region.ready .any ops (msk 15 16383)= [14]∧Region.ready .any ops (msk 15 32767)= []∧lateB .any ops 14 4=true
theorem QjE:Qo6 ((Tryz.f114.body.bind (Qg 5)).getD #[]):=⟨by kernel_rfl,by kernel_rfl,by kernel_rfl,by kernel_rfl,by kernel_rfl,by kernel_rfl,by kernel_rfl⟩
theorem QhL(a:Ag)(c:Cm)(Ba b2 bc:Nat)(w:World)(h:Qsv w a Ba b2 bc)(hl:a.xs.length≤1000)(hlt: ∀b off,a.p=some ⟨b,off,none⟩→b<w.heap.size)(hne: ∀b off,a.p=some ⟨b,off,none⟩→b≠Ba):
  Calls Tryz.prog 114 #[.agg (cmv c),.pointer (some ⟨bc,0,none⟩),.pointer (some ⟨b2,0,none⟩)] w (QcN w Ba a 0 (QhK a c) (Qet a c) []):=by
 obtain⟨ra,rb,rc,hs,hn1,hn2⟩:=h;have lA:Ba<w.heap.size:=ra.l;have lB:b2<w.heap.size:=rb.l;have lC:bc<w.heap.size:=rc.l
 go_enter Tryz.func114,Tryz.ntmps114
 go_upto_region 1 with(fail)
 obtain⟨W0,hW⟩: ∃W0,(w.alloc (.cells (cmv c) 98)).alloc (.cells #[.int .u8 0,.slice none 0 0,.slice none 0 0] 42)=W0:=⟨_,rfl⟩;have E':Ext w W0:=by rw [←hW];exact Ext.al (Ext.al (Ext.rf _) _) _
 have r3:RowZ W0 w.heap.size (cmv c):=by rw [←hW];exact⟨by simp [go_sem],by simp [go_sem],by simp [go_sem,Lt]⟩
 have r4:RowZ W0 (w.heap.size+1) #[.int .u8 0,.slice none 0 0,.slice none 0 0]:=by rw [←hW];exact⟨by simp [go_sem],by simp [go_sem],by simp [go_sem,Lt]⟩
 have hsz:W0.heap.size=w.heap.size+2:=by rw [←hW];simp
 rw [hW];clear hW;have ra:=ra.ext E';have rb:=rb.ext E';have rc:=rc.ext E';have hs:=hs.ext E';obtain⟨b3,e3⟩: ∃b,w.heap.size=b:=⟨_,rfl⟩;rw [e3]at r3 r4 hsz lA lB lC hlt⊢;obtain⟨b4,e4⟩: ∃b,b3+1=b:=⟨_,rfl⟩;rw [e4]at r4⊢;obtain⟨lo,hlo⟩: ∃lo,b4+1=lo:=⟨_,rfl⟩;have E:Mv (fun q=>q=Ba) w W0:=Mv.of_ext E';have hnb: ¬b2=Ba:=fun e=>hn1 e.symm;have hnc: ¬bc=Ba:=fun e=>hn2 e.symm;have hn3: ¬b3=Ba:=by omega
 have hn4: ¬b4=Ba:=by omega
 have oe:OEv W0 lo (.slice none 0 0) []:=World.ownsRow_nil W0 lo 68 6;have hbs:lo≤W0.heap.size:=by omega
 have hge:=Qi oe;have hCa: ¬ZT (.slice none 0 0) Ba:=fun e=>by have:=hge _ e;omega
 have hCb: ¬ZT (.slice none 0 0) b2:=fun e=>by have:=hge _ e;omega
 have hCc: ¬ZT (.slice none 0 0) bc:=fun e=>by have:=hge _ e;omega
 have hC3: ¬ZT (.slice none 0 0) b3:=fun e=>by have:=hge _ e;omega
 have hC4: ¬ZT (.slice none 0 0) b4:=fun e=>by have:=hge _ e;omega
 have hCE: ∀q,ZT (.slice none 0 0) q→w.heap.size≤q:=fun q e=>by have:=hge _ e;omega
 have hDc: ¬(fun q=>q=b4∨ZT (.slice none 0 0) q) bc:=fun e=>e.elim (by omega) hCc;have hD3: ¬(fun q=>q=b4∨ZT (.slice none 0 0) q) b3:=fun e=>e.elim (by omega) hC3;have hle:([]:List Ev).length≤1000:=by decide
 have hnk: ∀b off,a.p=some ⟨b,off,none⟩→ ¬ZT (.slice none 0 0) b:=fun b off _ f=>by cases f
 have hn4s: ∀b off,a.p=some ⟨b,off,none⟩→ ¬b=b4:=fun b off e=>by have:=hlt b off e;omega
 refine Qy (ZT (.slice none 0 0)) (fun q=>q=b4∨ZT (.slice none 0 0) q) 8 (by kernel_rfl) ?_;obtain⟨WA,hW⟩: ∃Wdr,World.drew W0=Wdr:=⟨_,rfl⟩;have gD:Ext W0 WA:=by rw [←hW];exact Ext.dr (Ext.rf _)
 rw [hW];clear hW;have E:=E.tr gD;have ra:=ra.ext gD;have rb:=rb.ext gD;have rc:=rc.ext gD;have r3:=r3.ext gD;have r4:=r4.ext gD;have oe:=oe.ext gD;have hs:=hs.ext gD;have hbs:=Xt hbs gD.size;refine Zg (N:=9) (R:=Qo3) (E:=((Tryz.f114.body.bind (Qg 1)).getD #[])) (by kernel_rfl) QjB (by kernel_rfl) fun hS=> ?_;have hT:=hS.2.1;refine tWk 1 (.pointer (some ⟨b4,1,none⟩)) hS.1 hT rfl fun hT=> ?_;refine Zu (N:=9) (k:=1) (m':=3) (v:= .slice none 0 0) hS.1 hT hS.2.2.2.2.2.2.2.2 rfl rfl (by kernel_rfl) (Qa5 (C:=ZT (.slice none 0 0)) (r4.cell 1 (by show 1<3;omega)) r4.l hC4 _ _ _ _ _ _ _ (by kernel_rfl)) fun hT=> ?_;refine tW 7 (.func (.func 112) #[] #[.pointer (some ⟨b2,0,none⟩)]) hS.1 hT rfl (Qjw (rc.cell 0 Nat.zero_lt_one) rc.l hDc _ _ _ _ _ _ _ (by kernel_rfl)) fun hT=> ?_;refine tW 15 (.agg (cmv c)) hS.1 hT rfl (QcM r3 hD3 _ _ _ _ _ _ _ (by kernel_rfl)) fun hT=> ?_;refine sV 31 (fun v _=>v=Ev.v ⟨2,a.id,c.pk.tu⟩) hS.2.2.1 rfl (Zt (QcJ 2 a.id c b2 Ba WA (rb.cell 0 Nat.zero_lt_one) rb.l (Ye ra.r) ra.l)) ?_;rintro _ WB1 gWB1 rfl;have E:=E.tr gWB1;have ra:=ra.ext gWB1;have rb:=rb.ext gWB1;have rc:=rc.ext gWB1;have r3:=r3.ext gWB1;have r4:=r4.ext gWB1;have oe:=oe.ext gWB1;have hs:=hs.ext gWB1;have hbs:=Xt hbs gWB1.size;refine Qv hS.2.2.2.1 (Zv (m':=63) rfl rfl (by kernel_rfl) (Qes (x:=⟨2,a.id,c.pk.tu⟩) _ _ _ _ _ _ _ (by kernel_rfl) WB1) ⟨.inr (Mv.of_ext (Ext.al (Ext.rf _) _)),(Mv.of_ext (Ext.al (Ext.rf _) _))⟩ ?_);obtain⟨WB2,hWB2⟩: ∃WB2,WB1.alloc (.cells (Ev.cl ⟨2,a.id,c.pk.tu⟩).toArray 68)=WB2:=⟨_,rfl⟩;have hbk:=World.alloc_heap_new WB1 (.cells (Ev.cl ⟨2,a.id,c.pk.tu⟩).toArray 68);have gWB2:Ext WB1 WB2:=by rw [←hWB2];exact Ext.al (Ext.rf _) _
 rw [hWB2]at hbk⊢;clear hWB2;have E:=E.tr gWB2;have ra:=ra.ext gWB2;have rb:=rb.ext gWB2;have rc:=rc.ext gWB2;have r3:=r3.ext gWB2;have r4:=r4.ext gWB2;have oe:=oe.ext gWB2;have hs:=hs.ext gWB2;have hA: ∀j u,(Ev.cl ⟨2,a.id,c.pk.tu⟩)[j]?=some u→WB2.cell? ⟨WB1.heap.size,j,none⟩=some u:=fun j u hu=>by simp only [World.cell?,hbk];simpa using hu
 have hbs:=Xt hbs gWB2.size;refine Qv hS.2.2.2.2.1 (Qjv (m':=127) (base:=lo) (v1:= .slice none 0 0) (b1:=([]:List Ev)) (x1:=⟨2,a.id,c.pk.tu⟩) rfl rfl (by kernel_rfl) (by kernel_rfl) oe hA hle (fun r e=>e) (fun k h=> .inr h) hbs ?_);intro v' WB3 oe hg' hm';have E:=E.trn hm' (fun q e=> .inr (hCE q e));have ra:=ra.mv hm' hCa;have rb:=rb.mv hm' hCb;have rc:=rc.mv hm' hCc;have r3:=r3.mv hm' hC3;have r4:=r4.mv hm' hC4;have hbs:=Xt hbs hm'.size;have hs:=hs.mvg hm' (fun b off e f=>by first|exact hnk b off e f|exact hn4s b off e f);have gWB3:=Ext.rf WB3;have E:=E.tr gWB3;have ra:=ra.ext gWB3;have rb:=rb.ext gWB3;have rc:=rc.ext gWB3;have r3:=r3.ext gWB3;have r4:=r4.ext gWB3;have oe:=oe.ext gWB3;have hs:=hs.ext gWB3;have hT:=hS.2.2.2.2.2.1;refine tWk 255 (.pointer (some ⟨b4,1,none⟩)) hS.1 hT rfl fun hT=> ?_;refine Qv hS.2.2.2.2.2.2.1 (QE (m':=511) rfl rfl (by kernel_rfl) (QcL (B:=b4) (i:=1) (v:=v') (u:= .slice none 0 0) (r4.cell 1 (by show 1<3;omega)) (r4.frz 1) (Qer oe) _ _ _ _ _ _ _ _ (by kernel_rfl) (by kernel_rfl)) ⟨.inl (by decide),(Mv.st _ (.inl (.inl rfl)) (Mv.refl _ _))⟩ ?_);obtain⟨WB4,hWB4⟩: ∃WB4,World.setCell WB3 ⟨b4,1,none⟩ v'=WB4:=⟨_,rfl⟩;have gS:Mv (fun q=>q=b4) WB3 WB4:=by rw [←hWB4];exact Mv.st _ (.inl rfl) (Mv.refl _ _)
 have r4:RowZ WB4 b4 #[.int .u8 0,v',.slice none 0 0]:=by rw [←hWB4];exact r4.set 1 _
 have E:=E.trn gS (fun q e=> .inr (by omega));have ra:=ra.mv gS (by omega);have rb:=rb.mv gS (by omega);have rc:=rc.mv gS (by omega);have r3:=r3.mv gS (by omega);have oe:=oe.mv gS (fun q hq e=>by omega);have hbs:=Xt hbs gS.size;have hs:=hs.mvg gS (fun b off e f=>by first|exact hnk b off e f|exact hn4s b off e f);rw [hWB4];clear hWB4;refine Q8 hS.2.2.2.2.2.2.2.1 ?_;clear hS hT hCa hCb hCc hC3 hC4 hCE hDc hD3 hge;obtain⟨ep,ec,rfl,-,-⟩:=SlE.own oe;have e1:(([]:List Ev)++ [(⟨2,a.id,c.pk.tu⟩:Ev)])= [⟨2,a.id,c.pk.tu⟩]:=rfl;rw [e1]at r4 oe⊢;clear e1;rw [show([(⟨2,a.id,c.pk.tu⟩:Ev)]).length=1 from rfl]at r4 oe⊢
 go_upto_region 2 with(fail)
 obtain⟨lo2,hlo2⟩: ∃lo2,WB4.heap.size=lo2:=⟨_,rfl⟩;have hown: ∀b,ZT (.slice ep 1 ec) b→b<lo2:=fun b e=>by have:=Qbv oe b e;omega
 have hll:lo≤lo2:=by omega
 have hz2:lo2≤WB4.heap.size:=by omega
 refine Qy (fun _=>False) (fun q=>q=Ba) 16 (by kernel_rfl) ?_;have hDb: ¬(fun q=>q=Ba) b2:=hnb;have hD3: ¬(fun q=>q=Ba) b3:=hn3;obtain⟨WC,hW⟩: ∃Wdr,World.drew WB4=Wdr:=⟨_,rfl⟩;have gD:Ext WB4 WC:=by rw [←hW];exact Ext.dr (Ext.rf _)
 rw [hW];clear hW;have E:=E.tr gD;have ra:=ra.ext gD;have rb:=rb.ext gD;have rc:=rc.ext gD;have r3:=r3.ext gD;have r4:=r4.ext gD;have oe:=oe.ext gD;have hs:=hs.ext gD;have hbs:=Xt hbs gD.size;have hz2:=Xt hz2 gD.size;refine Zg (N:=17) (R:=Qo4) (E:=((Tryz.f114.body.bind (Qg 2)).getD #[])) (by kernel_rfl) QjC (by kernel_rfl) fun hS=> ?_;have hT:=hS.2.1;refine tW 1 (.pointer (some ⟨Ba,0,none⟩)) hS.1 hT rfl (QaS (rb.cell 0 Nat.zero_lt_one) rb.l hDb _ _ _ _ _ _ _ (by kernel_rfl)) fun hT=> ?_;refine tW 3 (.pointer (some ⟨Ba,0,none⟩)) hS.1 hT rfl (QaS (rb.cell 0 Nat.zero_lt_one) rb.l hDb _ _ _ _ _ _ _ (by kernel_rfl)) fun hT=> ?_;refine tWk 7 (.pointer (some ⟨Ba,0,none⟩)) hS.1 hT rfl fun hT=> ?_;refine tWk 15 (.pointer (some ⟨Ba,66,none⟩)) hS.1 hT rfl fun hT=> ?_;refine Zu (N:=17) (k:=4) (m':=31) (v:= .slice a.p a.xs.length a.c) hS.1 hT hS.2.2.2.2.2.2 rfl rfl (by kernel_rfl) (Qaa (C:=fun _=>False) (by rw [Qa,ra.r,Qw]) ra.l (fun h=>h) _ _ _ _ _ _ _ (by kernel_rfl)) fun hT=> ?_;refine tWk 63 (.pointer (some ⟨b3,11,none⟩)) hS.1 hT rfl fun hT=> ?_;refine tWk 127 (.pointer (some ⟨b3,11,none⟩)) hS.1 hT rfl fun hT=> ?_;refine tW 255 (.agg #[.int .u32 c.pk.tu.a,.int .u32 c.pk.tu.b,.int .u16 c.pk.tu.c,.int .u16 c.pk.tu.d]) hS.1 hT rfl (Qeq (QW r3 11 (by show 11<18;omega)) (QW r3 12 (by show 12<18;omega)) (QW r3 13 (by show 13<18;omega)) (QW r3 14 (by show 14<18;omega)) r3.l hD3 _ _ _ _ _ _ _ (by kernel_rfl)) fun hT=> ?_;refine tWk 511 (.pointer (some ⟨b3,17,none⟩)) hS.1 hT rfl fun hT=> ?_;refine tW 1023 (.int .i64 c.now) hS.1 hT rfl (QX (QW r3 17 (by show 17<18;omega)) r3.l hD3 _ _ _ _ _ _ _ (by kernel_rfl)) fun hT=> ?_;refine sV 2047 (QkR lo2 (withX (touchF c.now) a.xs c.pk.tu) (withOk a.xs c.pk.tu)) hS.2.2.1 rfl (Qrc lo2 c.pk.tu c.now a.p a.xs a.c WC (hs.ext (by first|exact Ext.rf _|exact gWD1)) hl (by omega)) ?_;rintro _ WD1 gWD1 ⟨pn,cn,rfl,sn,nn⟩;have E:=E.tr gWD1;have ra:=ra.ext gWD1;have rb:=rb.ext gWD1;have rc:=rc.ext gWD1;have r3:=r3.ext gWD1;have r4:=r4.ext gWD1;have oe:=oe.ext gWD1;have hbs:=Xt hbs gWD1.size;have hT:=hS.2.2.2.1;refine tWk 4095 (.tuple #[.slice pn (withX (touchF c.now) a.xs c.pk.tu).length cn,.bool (withOk a.xs c.pk.tu)]) hS.1 hT rfl fun hT=> ?_;refine tWk 8191 (.slice pn (withX (touchF c.now) a.xs c.pk.tu).length cn) hS.1 hT rfl fun hT=> ?_;refine tWk 16383 (.bool (withOk a.xs c.pk.tu)) hS.1 hT rfl fun hT=> ?_;refine tWk 32767 (.pointer (some ⟨Ba,0,none⟩)) hS.1 hT rfl fun hT=> ?_;refine tWk 65535 (.pointer (some ⟨Ba,66,none⟩)) hS.1 hT rfl fun hT=> ?_;refine Qv hS.2.2.2.2.1 (QE (m':=131071) rfl rfl (by kernel_rfl) (QcK (B:=Ba) (i:=66) (v:= .slice pn (withX (touchF c.now) a.xs c.pk.tu).length cn) (u:= .slice a.p a.xs.length a.c) (by rw [Qa,ra.r,Qw]) (ra.frz 66) ⟨_,_,_,rfl⟩ _ _ _ _ _ _ _ _ (by kernel_rfl) (by kernel_rfl)) ⟨.inl (by decide),(Mv.st _ (.inl rfl) (Mv.refl _ _))⟩ ?_);obtain⟨WD2,hWD2⟩: ∃WD2,World.setCell WD1 ⟨Ba,66,none⟩ (.slice pn (withX (touchF c.now) a.xs c.pk.tu).length cn)=WD2:=⟨_,rfl⟩;have gS:Mv (fun q=>q=Ba) WD1 WD2:=by rw [←hWD2];exact Mv.st _ (.inl rfl) (Mv.refl _ _)
 have ra:RowZ WD2 Ba (agv {a with p:=pn,xs:=(withX (touchF c.now) a.xs c.pk.tu),c:=cn}):=by rw [←hWD2];exact⟨JH (a:=a) pn (withX (touchF c.now) a.xs c.pk.tu) cn ra.r,by rw [QN];exact ra.z,by rw [Zd];exact ra.l⟩
 have E:=E.trans gS;have rb:=rb.mv gS hnb;have rc:=rc.mv gS hnc;have r3:=r3.mv gS hn3;have r4:=r4.mv gS hn4;have sn:=sn.mvo gS (fun b off e=>by have:=nn b off e;omega);have oe:=oe.mv gS (fun q hq e=>by omega);have hbs:=Xt hbs gS.size;rw [hWD2];clear hWD2;refine Q8 hS.2.2.2.2.2.1 ?_;clear hS hT;obtain⟨a1,ea⟩: ∃a1,({a with p:=pn,xs:=(withX (touchF c.now) a.xs c.pk.tu),c:=cn}:Ag)=a1:=⟨_,rfl⟩;have ra:RowZ WD2 Ba (agv a1):=by rw [←ea];exact ra
 have eid:a1.id=a.id:=by rw [←ea]
 have hs:SlC WD2 a1.p a1.xs:=by rw [←ea];exact sn
 have hx1:a1.xs=(withX (touchF c.now) a.xs c.pk.tu):=by rw [←ea]
 have hnp: ∀b off,a1.p=some ⟨b,off,none⟩→lo2≤b:=by rw [←ea];exact nn
 have hl1:a1.xs.length≤1000:=by rw [hx1,QjA];exact hl
 have HEA:=Xh ea;have HX1:=Xh hx1;clear ea hx1 sn nn hz2 hnk hn4s hlt hne hDb hD3 gS;have HCLS:=Xh (fun W=>Qjz c.pk c.bp c.bN c.bc W);have HR3:=Xh r3;have hr3:=r3.r
 cases hcl:Qdp c
 ·have hcl':(bits .and .u8 c.pk.fl 5 !=0)=false:=hcl;rw [hcl']at HCLS;clear hcl';have HCL:=Xh hcl;clear hcl
  go_upto_region 6 with(go_at_call 116;(with_reducible refine(HCLS.out _).mono ?_);rintro e w3 ⟨rfl,g3⟩)
  have E:=E.tr g3;have ra:=ra.ext g3;have hs:=hs.ext g3;have r4:=r4.ext g3;have oe:=oe.ext g3;obtain⟨ep',ec',h,-,se⟩:=SlE.own oe
  cases h
  have hnE:=Qi oe;have HC:=Xh (show Mv (fun q=>q=Ba) w w3∧RowZ w3 Ba (agv a1)∧SlC w3 a1.p a1.xs∧SlE w3 ep [(⟨2,a.id,c.pk.tu⟩:Ev)]∧(∀b off,a1.p=some ⟨b,off,none⟩→lo≤b)∧(∀b off,ep=some ⟨b,off,none⟩→lo≤b)from⟨E,ra,hs,se,fun b off e=>by have:=hnp b off e;omega,fun b off e=>by have:=hnE b (by rw [e];rfl);omega⟩);have q4:=r4.r;have f4:=r4.z;have z4:=r4.l;clear E ra hs se hnp hnE oe r4 rb rc r3;go_wp2;obtain⟨W5,h5⟩: ∃W5,Qe w3 b4 0 #[.int .u8 0,.slice ep ([(⟨2,a.id,c.pk.tu⟩:Ev)]).length ec,.slice none 0 0]=W5:=⟨_,rfl⟩;have q5:Qc W5 b4=#[.int .u8 0,.slice ep ([(⟨2,a.id,c.pk.tu⟩:Ev)]).length ec,.slice none 0 0]:=by rw [←h5];exact Qr _ _ _ (by rw [q4];rfl)
  have h5':=h5;simp only [List.length_cons,List.length_nil,Nat.zero_add,Nat.reduceAdd]at h5';rw [h5'];clear h5';obtain⟨E,ra,hs,se,h8,h9⟩:=HC.out;have hd:QhK a c=a1.xs:=by unfold QhK;rw [HCL.out,if_neg (by decide)];exact HX1.out.symm
  have hde:Qet a c= [⟨2,a.id,c.pk.tu⟩]:=by unfold Qet;rw [HCL.out];rfl
  rw [hd,hde];have hrow:({a with p:=a1.p,xs:=a1.xs,c:=a1.c}:Ag)=a1:=by rw [←HEA.out]
  exact bodyPost_ret (Zo rfl _ _ b4 rfl (JN q5 rfl)) rfl (Qcg (lo:=lo) (a:=a) (p:=a1.p) (xs:=a1.xs) (c:=a1.c) (es:= [(⟨2,a.id,c.pk.tu⟩:Ev)]) (ss:= []) h5 E (by rw [hrow];exact ra) hs se (SlBB.nil _ none) (by omega) (by omega) (by omega) (.inl h8) h9 (fun b off e=>by cases e))
 have hcl':(bits .and .u8 c.pk.fl 5 !=0)=true:=hcl;rw [hcl']at HCLS;clear hcl';have HCL:=Xh hcl;clear hcl
 go_upto_region 4 with(go_at_call 116;(with_reducible refine(HCLS.out _).mono ?_);rintro e w3 ⟨rfl,g3⟩)
 clear hr3;have E:=E.tr g3;have ra:=ra.ext g3;have rb:=rb.ext g3;have rc:=rc.ext g3;have r3:=r3.ext g3;have hs:=hs.ext g3;have r4:=r4.ext g3;have oe:=oe.ext g3;have hbs:=Xt hbs g3.size;have hge:=Qi oe;have hCa: ¬ZT (.slice ep 1 ec) Ba:=fun e=>by have:=hge _ e;omega
 have hCb: ¬ZT (.slice ep 1 ec) b2:=fun e=>by have:=hge _ e;omega
 have hCc: ¬ZT (.slice ep 1 ec) bc:=fun e=>by have:=hge _ e;omega
 have hC3: ¬ZT (.slice ep 1 ec) b3:=fun e=>by have:=hge _ e;omega
 have hC4: ¬ZT (.slice ep 1 ec) b4:=fun e=>by have:=hge _ e;omega
 have hCE: ∀q,ZT (.slice ep 1 ec) q→w.heap.size≤q:=fun q e=>by have:=hge _ e;omega
 have hDc: ¬(fun q=>q=b4∨ZT (.slice ep 1 ec) q) bc:=fun e=>e.elim (by omega) hCc;have hD3: ¬(fun q=>q=b4∨ZT (.slice ep 1 ec) q) b3:=fun e=>e.elim (by omega) hC3;have hle:([(⟨2,a.id,c.pk.tu⟩:Ev)]).length≤1000:=by show 1≤1000;omega
 have hnk: ∀b off,a1.p=some ⟨b,off,none⟩→ ¬ZT (.slice ep 1 ec) b:=fun b off e f=>by have:=hnp b off e;have:=hown b f;omega
 have hn4s: ∀b off,a1.p=some ⟨b,off,none⟩→ ¬b=b4:=fun b off e=>by have:=hnp b off e;omega
 refine Qy (ZT (.slice ep 1 ec)) (fun q=>q=b4∨ZT (.slice ep 1 ec) q) 8 (by kernel_rfl) ?_;obtain⟨WE,hW⟩: ∃Wdr,World.drew w3=Wdr:=⟨_,rfl⟩;have gD:Ext w3 WE:=by rw [←hW];exact Ext.dr (Ext.rf _)
 rw [hW];clear hW;have E:=E.tr gD;have ra:=ra.ext gD;have rb:=rb.ext gD;have rc:=rc.ext gD;have r3:=r3.ext gD;have r4:=r4.ext gD;have oe:=oe.ext gD;have hs:=hs.ext gD;have hbs:=Xt hbs gD.size;refine Zg (N:=9) (R:=Qo5) (E:=((Tryz.f114.body.bind (Qg 4)).getD #[])) (by kernel_rfl) QjD (by kernel_rfl) fun hS=> ?_;have hT:=hS.2.1;refine tWk 1 (.pointer (some ⟨b4,1,none⟩)) hS.1 hT rfl fun hT=> ?_;refine Zu (N:=9) (k:=1) (m':=3) (v:= .slice ep 1 ec) hS.1 hT hS.2.2.2.2.2.2.2.2 rfl rfl (by kernel_rfl) (Qa5 (C:=ZT (.slice ep 1 ec)) (r4.cell 1 (by show 1<3;omega)) r4.l hC4 _ _ _ _ _ _ _ (by kernel_rfl)) fun hT=> ?_;refine tW 7 (.func (.func 112) #[] #[.pointer (some ⟨b2,0,none⟩)]) hS.1 hT rfl (Qjw (rc.cell 0 Nat.zero_lt_one) rc.l hDc _ _ _ _ _ _ _ (by kernel_rfl)) fun hT=> ?_;refine tW 15 (.agg (cmv c)) hS.1 hT rfl (QcM r3 hD3 _ _ _ _ _ _ _ (by kernel_rfl)) fun hT=> ?_;refine sV 31 (fun v _=>v=Ev.v ⟨3,a1.id,c.pk.tu⟩) hS.2.2.1 rfl (Zt (QcJ 3 a1.id c b2 Ba WE (rb.cell 0 Nat.zero_lt_one) rb.l (Ye ra.r) ra.l)) ?_;rintro _ WF1 gWF1 rfl;have E:=E.tr gWF1;have ra:=ra.ext gWF1;have rb:=rb.ext gWF1;have rc:=rc.ext gWF1;have r3:=r3.ext gWF1;have r4:=r4.ext gWF1;have oe:=oe.ext gWF1;have hs:=hs.ext gWF1;have hbs:=Xt hbs gWF1.size;refine Qv hS.2.2.2.1 (Zv (m':=63) rfl rfl (by kernel_rfl) (Qes (x:=⟨3,a1.id,c.pk.tu⟩) _ _ _ _ _ _ _ (by kernel_rfl) WF1) ⟨.inr (Mv.of_ext (Ext.al (Ext.rf _) _)),(Mv.of_ext (Ext.al (Ext.rf _) _))⟩ ?_);obtain⟨WF2,hWF2⟩: ∃WF2,WF1.alloc (.cells (Ev.cl ⟨3,a1.id,c.pk.tu⟩).toArray 68)=WF2:=⟨_,rfl⟩;have hbk:=World.alloc_heap_new WF1 (.cells (Ev.cl ⟨3,a1.id,c.pk.tu⟩).toArray 68);have gWF2:Ext WF1 WF2:=by rw [←hWF2];exact Ext.al (Ext.rf _) _
 rw [hWF2]at hbk⊢;clear hWF2;have E:=E.tr gWF2;have ra:=ra.ext gWF2;have rb:=rb.ext gWF2;have rc:=rc.ext gWF2;have r3:=r3.ext gWF2;have r4:=r4.ext gWF2;have oe:=oe.ext gWF2;have hs:=hs.ext gWF2;have hA: ∀j u,(Ev.cl ⟨3,a1.id,c.pk.tu⟩)[j]?=some u→WF2.cell? ⟨WF1.heap.size,j,none⟩=some u:=fun j u hu=>by simp only [World.cell?,hbk];simpa using hu
 have hbs:=Xt hbs gWF2.size;refine Qv hS.2.2.2.2.1 (Qjv (m':=127) (base:=lo) (v1:= .slice ep 1 ec) (b1:= [(⟨2,a.id,c.pk.tu⟩:Ev)]) (x1:=⟨3,a1.id,c.pk.tu⟩) rfl rfl (by kernel_rfl) (by kernel_rfl) oe hA hle (fun r e=>e) (fun k h=> .inr h) hbs ?_);intro v' WF3 oe hg' hm';have E:=E.trn hm' (fun q e=> .inr (hCE q e));have ra:=ra.mv hm' hCa;have rb:=rb.mv hm' hCb;have rc:=rc.mv hm' hCc;have r3:=r3.mv hm' hC3;have r4:=r4.mv hm' hC4;have hbs:=Xt hbs hm'.size;have hs:=hs.mvg hm' (fun b off e f=>by first|exact hnk b off e f|exact hn4s b off e f);have gWF3:=Ext.rf WF3;have E:=E.tr gWF3;have ra:=ra.ext gWF3;have rb:=rb.ext gWF3;have rc:=rc.ext gWF3;have r3:=r3.ext gWF3;have r4:=r4.ext gWF3;have oe:=oe.ext gWF3;have hs:=hs.ext gWF3;have hT:=hS.2.2.2.2.2.1;refine tWk 255 (.pointer (some ⟨b4,1,none⟩)) hS.1 hT rfl fun hT=> ?_;refine Qv hS.2.2.2.2.2.2.1 (QE (m':=511) rfl rfl (by kernel_rfl) (QcL (B:=b4) (i:=1) (v:=v') (u:= .slice ep 1 ec) (r4.cell 1 (by show 1<3;omega)) (r4.frz 1) (Qer oe) _ _ _ _ _ _ _ _ (by kernel_rfl) (by kernel_rfl)) ⟨.inl (by decide),(Mv.st _ (.inl (.inl rfl)) (Mv.refl _ _))⟩ ?_);obtain⟨WF4,hWF4⟩: ∃WF4,World.setCell WF3 ⟨b4,1,none⟩ v'=WF4:=⟨_,rfl⟩;have gS:Mv (fun q=>q=b4) WF3 WF4:=by rw [←hWF4];exact Mv.st _ (.inl rfl) (Mv.refl _ _)
 have r4:RowZ WF4 b4 #[.int .u8 0,v',.slice none 0 0]:=by rw [←hWF4];exact r4.set 1 _
 have E:=E.trn gS (fun q e=> .inr (by omega));have ra:=ra.mv gS (by omega);have rb:=rb.mv gS (by omega);have rc:=rc.mv gS (by omega);have r3:=r3.mv gS (by omega);have oe:=oe.mv gS (fun q hq e=>by omega);have hbs:=Xt hbs gS.size;have hs:=hs.mvg gS (fun b off e f=>by first|exact hnk b off e f|exact hn4s b off e f);rw [hWF4];clear hWF4;refine Q8 hS.2.2.2.2.2.2.2.1 ?_;clear hS hT hCa hCb hCc hC3 hC4 hCE hDc hD3 hge;obtain⟨ep,ec,rfl,-,-⟩:=SlE.own oe;have e1:([(⟨2,a.id,c.pk.tu⟩:Ev)]++ [(⟨3,a1.id,c.pk.tu⟩:Ev)])= [⟨2,a.id,c.pk.tu⟩,⟨3,a.id,c.pk.tu⟩]:=by rw [eid];rfl
 rw [e1]at r4 oe⊢;clear e1;rw [show([(⟨2,a.id,c.pk.tu⟩:Ev),⟨3,a.id,c.pk.tu⟩]).length=2 from rfl]at r4 oe⊢;clear hnk hn4s hown
 go_upto_region 5 with(fail)
 refine Qy (fun _=>False) (fun q=>q=Ba) 14 (by kernel_rfl) ?_;have hDb: ¬(fun q=>q=Ba) b2:=hnb;have hD3: ¬(fun q=>q=Ba) b3:=hn3;obtain⟨WG,hW⟩: ∃Wdr,World.drew WF4=Wdr:=⟨_,rfl⟩;have gD:Ext WF4 WG:=by rw [←hW];exact Ext.dr (Ext.rf _)
 rw [hW];clear hW;have E:=E.tr gD;have ra:=ra.ext gD;have rb:=rb.ext gD;have rc:=rc.ext gD;have r3:=r3.ext gD;have r4:=r4.ext gD;have oe:=oe.ext gD;have hs:=hs.ext gD;have hbs:=Xt hbs gD.size;refine Zg (N:=15) (R:=Qo6) (E:=((Tryz.f114.body.bind (Qg 5)).getD #[])) (by kernel_rfl) QjE (by kernel_rfl) fun hS=> ?_;have hT:=hS.2.1;refine tW 1 (.pointer (some ⟨Ba,0,none⟩)) hS.1 hT rfl (QaS (rb.cell 0 Nat.zero_lt_one) rb.l hDb _ _ _ _ _ _ _ (by kernel_rfl)) fun hT=> ?_;refine tW 3 (.pointer (some ⟨Ba,0,none⟩)) hS.1 hT rfl (QaS (rb.cell 0 Nat.zero_lt_one) rb.l hDb _ _ _ _ _ _ _ (by kernel_rfl)) fun hT=> ?_;refine tWk 7 (.pointer (some ⟨Ba,0,none⟩)) hS.1 hT rfl fun hT=> ?_;refine tWk 15 (.pointer (some ⟨Ba,66,none⟩)) hS.1 hT rfl fun hT=> ?_;refine Zu (N:=15) (k:=4) (m':=31) (v:= .slice a1.p a1.xs.length a1.c) hS.1 hT hS.2.2.2.2.2.2 rfl rfl (by kernel_rfl) (Qaa (C:=fun _=>False) (by rw [Qa,ra.r,Qw]) ra.l (fun h=>h) _ _ _ _ _ _ _ (by kernel_rfl)) fun hT=> ?_;refine tWk 63 (.pointer (some ⟨b3,11,none⟩)) hS.1 hT rfl fun hT=> ?_;refine tWk 127 (.pointer (some ⟨b3,11,none⟩)) hS.1 hT rfl fun hT=> ?_;refine tW 255 (.agg #[.int .u32 c.pk.tu.a,.int .u32 c.pk.tu.b,.int .u16 c.pk.tu.c,.int .u16 c.pk.tu.d]) hS.1 hT rfl (Qeq (QW r3 11 (by show 11<18;omega)) (QW r3 12 (by show 12<18;omega)) (QW r3 13 (by show 13<18;omega)) (QW r3 14 (by show 14<18;omega)) r3.l hD3 _ _ _ _ _ _ _ (by kernel_rfl)) fun hT=> ?_;refine sV 511 (QkR lo (withX (fun xs k=>xs.eraseIdx k) a1.xs c.pk.tu) (withOk a1.xs c.pk.tu)) hS.2.2.1 rfl (Qrd lo c.pk.tu a1.p a1.xs a1.c WG (hs.ext (by first|exact Ext.rf _|exact gWH1)) hl1 (by omega)) ?_;rintro _ WH1 gWH1 ⟨pn,cn,rfl,sn,nn⟩;have E:=E.tr gWH1;have ra:=ra.ext gWH1;have rb:=rb.ext gWH1;have rc:=rc.ext gWH1;have r3:=r3.ext gWH1;have r4:=r4.ext gWH1;have oe:=oe.ext gWH1;have hbs:=Xt hbs gWH1.size;have hT:=hS.2.2.2.1;refine tWk 1023 (.tuple #[.slice pn (withX (fun xs k=>xs.eraseIdx k) a1.xs c.pk.tu).length cn,.bool (withOk a1.xs c.pk.tu)]) hS.1 hT rfl fun hT=> ?_;refine tWk 2047 (.slice pn (withX (fun xs k=>xs.eraseIdx k) a1.xs c.pk.tu).length cn) hS.1 hT rfl fun hT=> ?_;refine tWk 4095 (.bool (withOk a1.xs c.pk.tu)) hS.1 hT rfl fun hT=> ?_;refine tWk 8191 (.pointer (some ⟨Ba,0,none⟩)) hS.1 hT rfl fun hT=> ?_;refine tWk 16383 (.pointer (some ⟨Ba,66,none⟩)) hS.1 hT rfl fun hT=> ?_;refine Qv hS.2.2.2.2.1 (QE (m':=32767) rfl rfl (by kernel_rfl) (QcK (B:=Ba) (i:=66) (v:= .slice pn (withX (fun xs k=>xs.eraseIdx k) a1.xs c.pk.tu).length cn) (u:= .slice a1.p a1.xs.length a1.c) (by rw [Qa,ra.r,Qw]) (ra.frz 66) ⟨_,_,_,rfl⟩ _ _ _ _ _ _ _ _ (by kernel_rfl) (by kernel_rfl)) ⟨.inl (by decide),(Mv.st _ (.inl rfl) (Mv.refl _ _))⟩ ?_);obtain⟨WH2,hWH2⟩: ∃WH2,World.setCell WH1 ⟨Ba,66,none⟩ (.slice pn (withX (fun xs k=>xs.eraseIdx k) a1.xs c.pk.tu).length cn)=WH2:=⟨_,rfl⟩;have gS:Mv (fun q=>q=Ba) WH1 WH2:=by rw [←hWH2];exact Mv.st _ (.inl rfl) (Mv.refl _ _)
 have ra:RowZ WH2 Ba (agv {a1 with p:=pn,xs:=(withX (fun xs k=>xs.eraseIdx k) a1.xs c.pk.tu),c:=cn}):=by rw [←hWH2];exact⟨JH (a:=a1) pn (withX (fun xs k=>xs.eraseIdx k) a1.xs c.pk.tu) cn ra.r,by rw [QN];exact ra.z,by rw [Zd];exact ra.l⟩
 have E:=E.trans gS;have rb:=rb.mv gS hnb;have rc:=rc.mv gS hnc;have r3:=r3.mv gS hn3;have r4:=r4.mv gS hn4;have sn:=sn.mvo gS (fun b off e=>by have:=nn b off e;omega);have oe:=oe.mv gS (fun q hq e=>by omega);have hbs:=Xt hbs gS.size;rw [hWH2];clear hWH2;refine Q8 hS.2.2.2.2.2.1 ?_;clear hS hT;obtain⟨a2,ea⟩: ∃a2,({a1 with p:=pn,xs:=(withX (fun xs k=>xs.eraseIdx k) a1.xs c.pk.tu),c:=cn}:Ag)=a2:=⟨_,rfl⟩;have ra:RowZ WH2 Ba (agv a2):=by rw [←ea];exact ra
 have hs:SlC WH2 a2.p a2.xs:=by rw [←ea];exact sn
 have hx2:a2.xs=(withX (fun xs k=>xs.eraseIdx k) a1.xs c.pk.tu):=by rw [←ea]
 have hnp: ∀b off,a2.p=some ⟨b,off,none⟩→lo≤b:=by rw [←ea];exact nn
 have HEA2:=Xh ea;have HX2:=Xh hx2;clear ea hx2 sn nn hDb hD3 gS
 go_upto_region 6 with(fail)
 obtain⟨ep',ec',h,-,se⟩:=SlE.own oe
 cases h
 have hnE:=Qi oe;have HC:=Xh (show Mv (fun q=>q=Ba) w WH2∧RowZ WH2 Ba (agv a2)∧SlC WH2 a2.p a2.xs∧SlE WH2 ep [(⟨2,a.id,c.pk.tu⟩:Ev),⟨3,a.id,c.pk.tu⟩]∧(∀b off,a2.p=some ⟨b,off,none⟩→lo≤b)∧(∀b off,ep=some ⟨b,off,none⟩→lo≤b)from⟨E,ra,hs,se,fun b off e=>by have:=hnp b off e;omega,fun b off e=>by have:=hnE b (by rw [e];rfl);omega⟩);have q4:=r4.r;have f4:=r4.z;have z4:=r4.l;clear E ra hs se hnp hnE oe r4 rb rc r3;go_wp2;obtain⟨W5,h5⟩: ∃W5,Qe WH2 b4 0 #[.int .u8 0,.slice ep ([(⟨2,a.id,c.pk.tu⟩:Ev),⟨3,a.id,c.pk.tu⟩]).length ec,.slice none 0 0]=W5:=⟨_,rfl⟩;have q5:Qc W5 b4=#[.int .u8 0,.slice ep ([(⟨2,a.id,c.pk.tu⟩:Ev),⟨3,a.id,c.pk.tu⟩]).length ec,.slice none 0 0]:=by rw [←h5];exact Qr _ _ _ (by rw [q4];rfl)
 have h5':=h5;simp only [List.length_cons,List.length_nil,Nat.zero_add,Nat.reduceAdd]at h5';rw [h5'];clear h5';obtain⟨E,ra,hs,se,h8,h9⟩:=HC.out;have hd:QhK a c=a2.xs:=by unfold QhK;rw [HCL.out,if_pos rfl,←HX1.out];exact HX2.out.symm
 have hde:Qet a c= [⟨2,a.id,c.pk.tu⟩,⟨3,a.id,c.pk.tu⟩]:=by unfold Qet;rw [HCL.out];rfl
 rw [hd,hde];have hrow:({a with p:=a2.p,xs:=a2.xs,c:=a2.c}:Ag)=a2:=by rw [←HEA2.out,←HEA.out]
 exact bodyPost_ret (Zo rfl _ _ b4 rfl (JN q5 rfl)) rfl (Qcg (lo:=lo) (a:=a) (p:=a2.p) (xs:=a2.xs) (c:=a2.c) (es:= [(⟨2,a.id,c.pk.tu⟩:Ev),⟨3,a.id,c.pk.tu⟩]) (ss:= []) h5 E (by rw [hrow];exact ra) hs se (SlBB.nil _ none) (by omega) (by omega) (by omega) (.inl h8) h9 (fun b off e=>by cases e))
@[go_sem] theorem Qvc{c:Cm}:Qz (cmv c) 4 6=opv c.o:=rfl
theorem QtX{C:Nat→Prop}{w:World}{B:Nat}{cs:Array Value}(h0:RowZ w B cs)(h6:cs.size=6)(hC: ¬C B)(ρ:Operand→Value)(dst:Option Tmp)(q:Operand)(ty:TypeId)(pos:String)(after:Array Edge)(g:Option (Nat×Bool))
  (hx:ρ q= .pointer (some ⟨B,0,none⟩)): ∀w',Mv C w w'→(execOp ρ ⟨dst,.load 75 q,ty,pos,after,g⟩).run Tryz.prog w'= .ok (.value (.agg cs)) w':=by
 intro w' hE;have h1:=h0.mv hE hC;have e:=QbZ ρ dst q ty pos after g w' (by rw [hx];rfl) (by rw [hx];show Fits 0 6 (Qc w' B);rw [h1.r];unfold Fits;omega);rw [e,hx];show Result.ok (Next.value (Value.agg (Qz (Qc w' B) 0 6))) w'=_;rw [h1.r,Q5 _ 6 h6]
theorem Qo7(lo:Nat){W:World}{F:Nat}{args:Array Value}{bs:List Int}(h:Calls Tryz.prog F args W fun e w'=> ∃v,e= .returned (.tuple #[v,.int .u8 0])∧Z2 W w' v bs)(hlo:lo≤W.heap.size):
  Calls Tryz.prog F args W fun e w'=> ∃v,e= .returned v∧(∃p q,v= .tuple #[.slice p bs.length q,.int .u8 0]∧SlB w' p bs∧ ∀b off,p=some ⟨b,off,none⟩→lo≤b)∧Ext W w':=
 h.mono fun e w' ⟨v,h1,h2⟩=>by
  obtain⟨p,q,e1,-,s⟩:=h2.sl;subst e1;exact⟨_,h1,⟨p,q,rfl,s,fun b off e2=>Xt hlo (Qi h2.own b (by rw [e2];rfl))⟩,h2.ext⟩
theorem Qre:(Tryz.prog.info? 28).map (fun i=>(i.zero,i.size,i.bytes))=some (some (.slice none 0 0),1,24):=by kernel_rfl
theorem QtY{C:Nat→Prop}{w:World}{B i:Nat}{a:Option Addr}{m c:Nat}(h0:w.cell? ⟨B,i,none⟩=some (.slice a m c))(hl:Lt B w)(hC: ¬C B)(ρ:Operand→Value)(dst:Option Tmp)(q:Operand)(ty:TypeId)(pos:String)(after:Array Edge)(g:Option (Nat×Bool))
  (hx:ρ q= .pointer (some ⟨B,i,none⟩)): ∀w',Mv C w w'→(execOp ρ ⟨dst,.load 40 q,ty,pos,after,g⟩).run Tryz.prog w'= .ok (.value (.slice a m c)) w':=by
 intro w' hE;have h1:w'.cell? ⟨B,i,none⟩=some (.slice a m c):=by rw [Qa,Qf (hE.same B hl hC),←Qa];exact h0
 simp only [execOp,hx];go_simp
theorem Qo8{w:World}{B i:Nat}{v u:Value}(hc:w.cell? ⟨B,i,none⟩=some u)(hf:w.frozen? ⟨B,i,none⟩=false)(hv: ∃a m c,v= .slice a m c)(ρ:Operand→Value)(dst:Option Tmp)(x y:Operand)(ty:TypeId)(pos:String)(after:Array Edge)(g:Option (Nat×Bool))
  (hx:ρ x= .pointer (some ⟨B,i,none⟩))(hy:ρ y=v):(execOp ρ ⟨dst,.store 40 x y,ty,pos,after,g⟩).run Tryz.prog w= .ok .skip (w.setCell ⟨B,i,none⟩ v):=by
 obtain⟨a,m,c,rfl⟩:=hv;simp only [execOp,hx,hy];go_simp
theorem Qmd{p:Option Addr}{n m:Nat}(ρ:Operand→Value)(dst:Option Tmp)(q:Operand)(ty:TypeId)(pos:String)(after:Array Edge)(g:Option (Nat×Bool))(hx:ρ q= .slice p n m)(w:World):
  (execOp ρ ⟨dst,.buildSlice 40 1 #[(0,q)],ty,pos,after,g⟩).run Tryz.prog w= .ok (.value (.slice (some ⟨w.heap.size,0,none⟩) 1 1)) (w.alloc (.cells #[.slice p n m] 28)):=by
 simp only [execOp,List.map_toArray,List.map_cons,List.map_nil,hx];go_simp
theorem Qo9{w:World}{A:Nat}{u:Value}(hA:w.cell? ⟨A,0,none⟩=some u)(hu:u.oneCell'=true)(ty:TypeId): ∃g cap w',(Builtin.append_ #[40,40] ty #[.slice none 0 0,.slice (some ⟨A,0,none⟩) 1 1]).run Tryz.prog w= .ok (.slice (some ⟨g,0,none⟩) 1 cap) w'∧w.heap.size≤g∧g<w'.heap.size∧w'.cell? ⟨g,0,none⟩=some u∧Ext w w':=by
 obtain⟨i0,hi0,hz0,hz,hz2⟩:=info_parts Qre
 obtain⟨v',w',hr,ho,hg,-,-⟩:=run_append_own_at (P:=Tryz.prog) w w.heap.size 40 ty 28 i0 (.slice none 0 0) 1 24 Tryz.underlying40 hi0 hz0 hz hz2 rfl (by decide) (.slice none 0 0) 0 [] (World.ownsRow_nil w w.heap.size 28 1) ⟨A,0,none⟩ 1 1 [u] rfl (fun j x hx=>by
  cases j with
  |zero=>simp at hx;subst hx;exact hA
  |succ j=>simp at hx) (fun x hx=>by simp at hx;subst hx;exact hu) (by unfold maxLen;omega) (by omega) (Nat.le_refl _)
 have hE:Ext w w':=Mv.ext (C:=fun _=>False) (Mv.of_grown hg fun r e=>by cases e) (fun _ _ h=>h);rcases ho.2 with⟨-,h0⟩|⟨g,cap,cur,rfl,hgl,hgb,h1,h2,h3,h4⟩
 ·simp at h0
 ·refine⟨g,cap,w',hr,hgl,(Array.getElem?_eq_some_iff.1 hgb).1,?_,hE⟩;have h5:(cur.toList.take 1)[0]?=some u:=by rw [show(1:Nat)=(0+1)*1 from rfl,h4];rfl
  rw [List.getElem?_take_of_lt (by omega)]at h5;simp only [World.cell?,hgb];simpa using h5
theorem QhM{i:Int}(h:0≤i∧i<6):((2,i):Int×Int)∈Qx:=by
 obtain⟨h0,h1⟩:=h;have:i=0∨i=1∨i=2∨i=3∨i=4∨i=5:=by omega
 rcases this with rfl|rfl|rfl|rfl|rfl|rfl<;>decide
def Qpa(ops:Array Oper):Prop:=Region.noSelect ops=true∧Qt ops 19 [0,1,2,3,5,6,8,9,10,11] 0=true∧Region.ready .any ops (msk 19 3951)= [4]∧Region.ready .any ops (msk 19 3967)= [7]∧Qt ops 19 [12] 4095=true∧Region.ready .any ops (msk 19 8191)= [13]∧Qt ops 19 [14,15,16,17,18] 16383=true∧Region.ready .any ops (msk 19 524287)= []
theorem QjF:Qpa ((Tryz.f120.body.bind (Qg 2)).getD #[]):=⟨by kernel_rfl,by kernel_rfl,by kernel_rfl,by kernel_rfl,by kernel_rfl,by kernel_rfl,by kernel_rfl,by kernel_rfl⟩
theorem QaI(x:Ru.Ac)(c:Cm)(a:Ag)(Ba b1 b2:Nat)(pl:List Int)(w:World)(ra:RowZ w Ba (agv a))(rb:RowZ w b2 #[.pointer (some ⟨Ba,0,none⟩)])(rx:RowZ w b1 (acv x))(hs:SlC w a.p a.xs)(hlt: ∀b off,a.p=some ⟨b,off,none⟩→b<w.heap.size)
  (hid:0≤a.id∧a.id<6)(hx:0≤x.t∧x.t<6)(hk:0≤x.k∧x.k<256)(hbu:0≤c.o.bu∧c.o.bu<256)(ho:ZS {c.o with ki:=x.k,ge:=x.g}=true)
  (hN:c.iN≤1000)(hN0:(c.ip=none∧pl= [])∨ ∃b off,c.ip=some ⟨b,off,none⟩)(hpl:pl.length=c.iN)(hcp:c.iN≤c.ic)(sp:SlB w c.ip pl)(rp:ByR pl)(hpp: ∀b off,c.ip=some ⟨b,off,none⟩→b<w.heap.size):
  Calls Tryz.prog 120 #[.agg (cmv c),.pointer (some ⟨b1,0,none⟩),.pointer (some ⟨b2,0,none⟩)] w (QcN w Ba a 0 a.xs [] [ipB (QL (2,a.id)) (QL (2,x.t)) (Jl {c.o with ki:=x.k,ge:=x.g}) pl]):=by
 obtain⟨o1,eo⟩: ∃o1,({c.o with ki:=x.k,ge:=x.g}:Opt)=o1:=⟨_,rfl⟩;have HTU: ∀W,Calls Tryz.prog 121 #[.agg (opv c.o),.int .u8 x.k,.int .i64 x.g] W fun e w'=>e= .returned (.tuple #[.agg (opv o1),.int .i64 0])∧Ext W w':=fun W=>by
  have h:=QiA c.o x.k x.g W hbu hk;unfold QfS QfT at h;rw [ho,if_pos rfl,if_pos rfl,eo]at h;exact h
 have HEP: ∀W,SlB W c.ip pl→w.heap.size≤W.heap.size→Calls Tryz.prog 96 #[.agg (wrV (2,a.id) (2,x.t) o1 (.slice c.ip c.iN c.ic))] W fun e w'=> ∃v,e= .returned (.tuple #[v,.int .u8 0])∧Z2 W w' v (ipB (QL (2,a.id)) (QL (2,x.t)) (Jl o1) pl):=fun W hsp hw=>
  Qea (2,a.id) (2,x.t) o1 pl c.ip c.iN c.ic W (QhM hid) (QhM hx) (by rw [←eo];exact hk) (by rw [←eo];exact hbu) (by rw [←eo];exact ho) hN hN0 hpl hcp hsp rp (fun b off e=>by have:=hpp b off e;omega)
 rw [eo];obtain⟨bs,ebs⟩: ∃bs,ipB (QL (2,a.id)) (QL (2,x.t)) (Jl o1) pl=bs:=⟨_,rfl⟩;rw [ebs]at HEP⊢;have HTU:=Xh HTU;have HEP:=Xh HEP;clear ho hN hN0 hpl hcp rp hpp hid hx hk hbu eo ebs;have lA:Ba<w.heap.size:=ra.l;have lB:b2<w.heap.size:=rb.l;have lX:b1<w.heap.size:=rx.l
 go_enter Tryz.func120,Tryz.ntmps120
 go_upto_region 1 with(fail)
 obtain⟨W0,hW⟩: ∃W0,(w.alloc (.cells (cmv c) 98)).alloc (.cells #[.int .u8 0,.slice none 0 0,.slice none 0 0] 42)=W0:=⟨_,rfl⟩;have E:Ext w W0:=by rw [←hW];exact Ext.al (Ext.al (Ext.rf _) _) _
 have r3:RowZ W0 w.heap.size (cmv c):=by rw [←hW];exact⟨by simp [go_sem],by simp [go_sem],by simp [go_sem,Lt]⟩
 have r4:RowZ W0 (w.heap.size+1) #[.int .u8 0,.slice none 0 0,.slice none 0 0]:=by rw [←hW];exact⟨by simp [go_sem],by simp [go_sem],by simp [go_sem,Lt]⟩
 have hsz:W0.heap.size=w.heap.size+2:=by rw [←hW];simp
 rw [hW];clear hW;have ra:=ra.ext E;have rb:=rb.ext E;have rx:=rx.ext E;have hs:=hs.ext E;have sp:=sp.ext E;obtain⟨b3,e3⟩: ∃b,w.heap.size=b:=⟨_,rfl⟩;rw [e3]at r3 r4 hsz lA lB lX hlt⊢;obtain⟨b4,e4⟩: ∃b,b3+1=b:=⟨_,rfl⟩;rw [e4]at r4⊢;have q3:=r3.r;have cx2:W0.cell? ⟨b1,2,none⟩=some (.int .u8 x.k):=rx.cell 2 (by show 2<5;omega);have cx4:W0.cell? ⟨b1,4,none⟩=some (.int .i64 x.g):=rx.cell 4 (by show 4<5;omega);have HH:=Xh (And.intro E (And.intro ra (And.intro rb (And.intro rx (And.intro hs (And.intro sp (And.intro r3 r4)))))));have HSZ:=Xh hsz;clear E ra rb rx hs sp r3 r4 hsz
 go_upto_region 2 with(go_at_call 121;(with_reducible refine(HTU.out _).mono ?_);rintro e w1 ⟨rfl,g1⟩)
 obtain⟨E,ra,rb,rx,hs,sp,r3,r4⟩:=HH.out;have hsz:=HSZ.out;have hb5:W0.heap.size≤w1.heap.size:=g1.size;obtain⟨b5,e5⟩: ∃b,w1.heap.size=b:=⟨_,rfl⟩;obtain⟨W2,hW⟩: ∃W2,Qe (w1.alloc (.cells #[.int .u8 0,.int .u8 0,.int .i64 0,.int .i64 0,.int .i64 0,.int .i64 0] 75)) w1.heap.size 0 (opv o1)=W2:=⟨_,rfl⟩;have gn:Ext w1 (w1.alloc (.cells #[.int .u8 0,.int .u8 0,.int .i64 0,.int .i64 0,.int .i64 0,.int .i64 0] 75)):=Ext.al (Ext.rf _) _;have g2:Ext w1 W2:=by rw [←hW];exact Mv.ext_of (C:=fun q=>q=w1.heap.size) gn (Mv.sa _ rfl (Mv.refl _ _)) (fun q e=>by omega)
 have r5:RowZ W2 b5 (opv o1):=by
  rw [←hW,←e5];exact(show RowZ (w1.alloc (.cells #[.int .u8 0,.int .u8 0,.int .i64 0,.int .i64 0,.int .i64 0,.int .i64 0] 75)) w1.heap.size #[.int .u8 0,.int .u8 0,.int .i64 0,.int .i64 0,.int .i64 0,.int .i64 0]from RowZ.new _ _ _).all _ rfl
 have hz2:b5<W2.heap.size:=r5.l;rw [hW,e5];clear hW gn cx2 cx4 q3 HTU HSZ;have g2:=g1.tr g2;have E:=E.tr g2;have ra:=ra.ext g2;have rb:=rb.ext g2;have rx:=rx.ext g2;have hs:=hs.ext g2;have sp:=sp.ext g2;have r3:=r3.ext g2;have r4:=r4.ext g2;obtain⟨lo,hlo⟩: ∃lo,b5+1=lo:=⟨_,rfl⟩;have hbs:lo≤W2.heap.size:=by omega
 have h45:b4<b5:=by omega
 clear HH g1 g2 e5 hb5 hsz hz2;refine QQ (fun _=>False) (by kernel_rfl) ?_;obtain⟨WA,hW⟩: ∃Wdr,World.drew W2=Wdr:=⟨_,rfl⟩;have gD:Ext W2 WA:=by rw [←hW];exact Ext.dr (Ext.rf _)
 rw [hW];clear hW;have E:=E.tr gD;have ra:=ra.ext gD;have rb:=rb.ext gD;have rx:=rx.ext gD;have r3:=r3.ext gD;have r4:=r4.ext gD;have r5:=r5.ext gD;have hs:=hs.ext gD;have sp:=sp.ext gD;have hbs:=Xt hbs gD.size;refine Qaf (N:=19) (R:=Qpa) (E:=((Tryz.f120.body.bind (Qg 2)).getD #[])) (by kernel_rfl) QjF (by kernel_rfl) fun hS=> ?_;have hT:=hS.2.1;refine tM 1 (.pointer (some ⟨Ba,0,none⟩)) hS.1 hT rfl (QaS (C:=fun _=>False) (rb.cell 0 Nat.zero_lt_one) rb.l (fun h=>h) _ _ _ _ _ _ _ (by kernel_rfl)) fun hT=> ?_;refine tMk 3 (.pointer (some ⟨Ba,0,none⟩)) hS.1 hT rfl fun hT=> ?_;refine tMk 7 (.pointer (some ⟨Ba,0,none⟩)) hS.1 hT rfl fun hT=> ?_;refine tM 15 (.int .i64 a.id) hS.1 hT rfl (QX (C:=fun _=>False) (Ye ra.r) ra.l (fun h=>h) _ _ _ _ _ _ _ (by kernel_rfl)) fun hT=> ?_;refine tMk 47 (.pointer (some ⟨b1,3,none⟩)) hS.1 hT rfl fun hT=> ?_;refine tM 111 (.int .i64 x.t) hS.1 hT rfl (QX (C:=fun _=>False) (rx.cell 3 (by show 3<5;omega)) rx.l (fun h=>h) _ _ _ _ _ _ _ (by kernel_rfl)) fun hT=> ?_;refine tM 367 (.agg (opv o1)) hS.1 hT rfl (QtX (C:=fun _=>False) r5 rfl (fun h=>h) _ _ _ _ _ _ _ (by kernel_rfl)) fun hT=> ?_;refine tMk 879 (.pointer (some ⟨b3,0,none⟩)) hS.1 hT rfl fun hT=> ?_;refine tMk 1903 (.pointer (some ⟨b3,10,none⟩)) hS.1 hT rfl fun hT=> ?_;refine tM 3951 (.slice c.ip c.iN c.ic) hS.1 hT rfl (JZ (C:=fun _=>False) (QW r3 10 (by show 10<18;omega)) r3.l (fun h=>h) _ _ _ _ _ _ _ (by kernel_rfl)) fun hT=> ?_;refine sM 3967 (fun v _=>v= .agg #[.int .u8 2,.int .i64 a.id]) hS.2.2.1 rfl (Zt (QcB a.id WA)) ?_;rintro _ WB1 gWB1 rfl;have E:=E.tr gWB1;have ra:=ra.ext gWB1;have rb:=rb.ext gWB1;have rx:=rx.ext gWB1;have r3:=r3.ext gWB1;have r4:=r4.ext gWB1;have r5:=r5.ext gWB1;have hs:=hs.ext gWB1;refine sM 4095 (fun v _=>v= .agg #[.int .u8 2,.int .i64 x.t]) hS.2.2.2.1 rfl (Zt (QcB x.t WB1)) ?_;rintro _ WB2 gWB2 rfl;have E:=E.tr gWB2;have ra:=ra.ext gWB2;have rb:=rb.ext gWB2;have rx:=rx.ext gWB2;have r3:=r3.ext gWB2;have r4:=r4.ext gWB2;have r5:=r5.ext gWB2;have hs:=hs.ext gWB2;have hT:=hS.2.2.2.2.1;refine tMk 8191 (.agg (wrV (2,a.id) (2,x.t) o1 (.slice c.ip c.iN c.ic))) hS.1 hT rfl fun hT=> ?_;refine sM 16383 (fun v W'=> ∃p q,v= .tuple #[.slice p bs.length q,.int .u8 0]∧SlB W' p bs∧ ∀b off,p=some ⟨b,off,none⟩→lo≤b) hS.2.2.2.2.2.1 rfl (Qo7 lo (HEP.out WB2 (sp.ext (by first|exact Ext.rf _|exact gWB1.tr gWB2)) E.size) (by have:=gWB1.size;have:=gWB2.size;omega)) ?_;rintro _ WB3 gWB3 ⟨pb,cb,rfl,sb,nbb⟩;have E:=E.tr gWB3;have ra:=ra.ext gWB3;have rb:=rb.ext gWB3;have rx:=rx.ext gWB3;have r3:=r3.ext gWB3;have r4:=r4.ext gWB3;have r5:=r5.ext gWB3;have hs:=hs.ext gWB3;have hT:=hS.2.2.2.2.2.2.1;refine tMk 32767 (.tuple #[.slice pb bs.length cb,.int .u8 0]) hS.1 hT rfl fun hT=> ?_;refine tMk 65535 (.slice pb bs.length cb) hS.1 hT rfl fun hT=> ?_;refine tMk 131071 (.int .u8 0) hS.1 hT rfl fun hT=> ?_;refine tMk 262143 (.slice pb bs.length cb) hS.1 hT rfl fun hT=> ?_;refine tMk 524287 (.int .u8 0) hS.1 hT rfl fun hT=> ?_;refine doneK hS.2.2.2.2.2.2.2 ?_;clear hS hT;have h34:b3+1=b4:=e4
 go_upto_region 3 with(fail)
 obtain⟨W5,hW⟩: ∃W5,WB3.alloc (.cells #[.slice pb bs.length cb] 28)=W5:=⟨_,rfl⟩;have g5:Ext WB3 W5:=by rw [←hW];exact Ext.al (Ext.rf _) _
 have hA:W5.cell? ⟨WB3.heap.size,0,none⟩=some (.slice pb bs.length cb):=by rw [←hW];simp [go_sem]
 obtain⟨g,cap,W6,hap,hg0,hg1,hcg,g6⟩:=Qo9 hA rfl 40;have r46:RowZ W6 b4 #[.int .u8 0,.slice none 0 0,.slice none 0 0]:=(r4.ext g5).ext g6;obtain⟨W7,hW7⟩: ∃W7,W6.setCell ⟨b4,2,none⟩ (.slice (some ⟨g,0,none⟩) 1 cap)=W7:=⟨_,rfl⟩;refine wp_region_lit ?_;refine listV (v:= .pointer (some ⟨b4,2,none⟩)) (w':=WB3) rfl (by kernel_rfl) ?_;refine listV rfl (QtY (C:=fun _=>False) (r4.cell 2 (by show 2<3;omega)) r4.l (fun h=>h) _ _ _ _ _ _ _ (by kernel_rfl) _ (Mv.refl _ _)) ?_;refine listV (v:= .slice pb bs.length cb) (w':=WB3) rfl (by kernel_rfl) ?_;refine listV rfl (Qmd (p:=pb) (n:=bs.length) (m:=cb) _ _ _ _ _ _ _ (by kernel_rfl) _) ?_;rw [hW];refine listV rfl (QaL _ _ _ _ _ _ _ _ _ (v1:= .slice none 0 0) (v2:= .slice (some ⟨WB3.heap.size,0,none⟩) 1 1) (by kernel_rfl) (by kernel_rfl) hap) ?_;refine listV (v:= .pointer (some ⟨b4,2,none⟩)) (w':=W6) rfl (by kernel_rfl) ?_;refine Zh rfl (Qo8 (B:=b4) (i:=2) (v:= .slice (some ⟨g,0,none⟩) 1 cap) (r46.cell 2 (by show 2<3;omega)) (r46.frz 2) ⟨_,_,_,rfl⟩ _ _ _ _ _ _ _ _ (by kernel_rfl) (by kernel_rfl)) ?_;refine wpList_nil ?_;have r4:RowZ W7 b4 #[.int .u8 0,.slice none 0 0,.slice (some ⟨g,0,none⟩) 1 cap]:=by rw [←hW7];exact r46.set 2 _
 have m7:Mv (fun q=>q=b4) W6 W7:=by rw [←hW7];exact Mv.st _ (.inl rfl) (Mv.refl _ _)
 rw [hW7];have g36:Ext WB3 W6:=g5.tr g6;have E6:=E.tr g36;have hlo6:lo≤WB3.heap.size:=by have:=gWB1.size;have:=gWB2.size;have:=gWB3.size;omega
 have hlg:lo≤g:=by have:=g5.size;omega
 have E7:Mv (fun q=>q=Ba) w W7:=(Mv.of_ext E6).trn m7 (fun q e=> .inr (by omega));have ra7:RowZ W7 Ba (agv a):=(ra.ext g36).mv m7 (by omega);have hs7:SlC W7 a.p a.xs:=(hs.ext g36).mvg m7 (fun b off e=>by have:=hlt b off e;omega);have hg7:g<W7.heap.size:=Xl hg1 m7.size;have hc7:W7.cell? ⟨g,0,none⟩=some (.slice pb bs.length cb):=by rw [Qa,Qf (m7.same g hg1 (by omega)),←Qa];exact hcg
 have sb7:SlB W7 pb bs:=(sb.ext g36).mvg m7 (fun b off e=>by have:=nbb b off e;omega);have HC:=Xh (And.intro E7 (And.intro ra7 (And.intro hs7 (And.intro hg7 (And.intro hc7 (And.intro sb7 (And.intro hlg hlt)))))));have q4:=r4.r;have f4:=r4.z;have z4:=r4.l;clear E7 ra7 hs7 hg7 hc7 sb7 hlg hlt E6 g36 hlo6 m7 r46 hap hcg hA g5 g6 hW7 hW E ra rb rx r3 r5 hs sb r4;go_simp;go_wp2;obtain⟨W8,h8⟩: ∃W8,Qe W7 b4 0 #[.int .u8 0,.slice none 0 0,.slice (some ⟨g,0,none⟩) 1 cap]=W8:=⟨_,rfl⟩;have q5:Qc W8 b4=#[.int .u8 0,.slice none 0 0,.slice (some ⟨g,0,none⟩) 1 cap]:=by rw [←h8];exact Qr _ _ _ (by rw [q4])
 rw [h8];obtain⟨E,ra,hs,hg,hc,sb,hlg,hlt⟩:=HC.out;have m8:Mv (fun q=>q=b4) W7 W8:=by rw [←h8];exact Mv.sa _ rfl (Mv.refl _ _)
 exact bodyPost_ret (Zo rfl _ _ b4 rfl (JN q5 rfl)) rfl (Qcg (lo:=lo) (a:=a) (p:=a.p) (c:=a.c) (es:= []) (ss:= [bs]) h8 E ra hs (SlE.nil _ none) (fun k hk=>by
  obtain rfl:k=0:=by simp at hk;exact hk
  exact⟨g,0,pb,cb,rfl,Xl hg m8.size,by rw [Qa,Qf (m8.same g hg (by omega)),←Qa];exact hc,sb.mvg m8 (fun b off e=>by have:=nbb b off e;omega)⟩) (by omega) (by omega) (by omega) (.inr ⟨rfl,fun b off e=>by have:=hlt b off e;omega⟩) (fun b off e=>by cases e) (fun b off e=>by cases e;exact hlg))
theorem Qeu:Ru.QeF Tryz.prog 5 (fun x=> ∃n:Int,x= .int .u8 n):=Ru.Qv5 .u8 Tryz.underlying5
theorem Qrf(ρ:Operand→Value)(dst:Option Tmp)(ty:TypeId)(pos:String)(after:Array Edge)(g:Option (Nat×Bool))(w:World):
  (execOp ρ ⟨dst,.makeMap 108 none,ty,pos,after,g⟩).run Tryz.prog w= .ok (.value (.map (some w.heap.size))) (w.alloc (.map #[] 0)):=by
 have:=run_makeMap (P:=Tryz.prog) 108 w;simp [execOp,this,Result.andThen]
theorem Qch{w w':World}{m k v:Value}(ρ:Operand→Value)(dst:Option Tmp)(p q r:Operand)(ty:TypeId)(pos:String)(after:Array Edge)(g:Option (Nat×Bool))(hp:ρ p=m)(hq:ρ q=k)(hr:ρ r=v)
  (h:(Instr.mapUpdate 108 m k v).run Tryz.prog w= .ok () w'):(execOp ρ ⟨dst,.insert 108 p q r,ty,pos,after,g⟩).run Tryz.prog w= .ok .skip w':=by
 simp only [execOp,hp,hq,hr,Sem.run_bind,h,Result.andThen_ok,Sem.run_pure]
structure Qev(w:World)(m:Value)(x:Ru.Ac)(Ba b1 b2 bc:Nat):Prop where
 is: ∃B f,m= .map (some B)∧Ru.Zw (fun x=> ∃n:Int,x= .int .u8 n) w B f∧f (.int .u8 0)=some (.func (.func 113) #[] #[.pointer (some ⟨b1,0,none⟩)])∧f (.int .u8 1)=some (.func (.func 114) #[] #[.pointer (some ⟨bc,0,none⟩),.pointer (some ⟨b2,0,none⟩)])∧f (.int .u8 2)=some (.func (.func 118) #[] #[.pointer (some ⟨b2,0,none⟩),.pointer (some ⟨bc,0,none⟩)])∧f (.int .u8 3)=some (.func (.func 120) #[] #[.pointer (some ⟨b1,0,none⟩),.pointer (some ⟨b2,0,none⟩)])
 rx:RowZ w b1 (acv x)
 rb:RowZ w b2 #[.pointer (some ⟨Ba,0,none⟩)]
 rc:RowZ w bc #[.func (.func 112) #[] #[.pointer (some ⟨b2,0,none⟩)]]
 ne:Ba≠b2∧Ba≠bc∧Ba≠b1
theorem Qpb(x:Ru.Ac)(Ba:Nat)(w:World)(lA:Ba<w.heap.size):
  Calls Tryz.prog 48 #[.pointer (some ⟨Ba,0,none⟩),.agg (acv x)] w fun e w'=> ∃m b1 b2 bc,e= .returned m∧Qev w' m x Ba b1 b2 bc∧Ext w w':=by
 unfold acv
 go_enter Tryz.func48,Tryz.ntmps48
 go_upto_region 2 with(fail)
 obtain⟨V,hV⟩: ∃V,(((w.alloc (.cells #[.pointer (some ⟨Ba,0,none⟩)] 110)).alloc (.cells #[.int .u8 x.d,.int .u8 x.x,.int .u8 x.k,.int .i64 x.t,.int .i64 x.g] 105)).alloc (.cells #[.func (.func 112) #[] #[.pointer (some ⟨w.heap.size,0,none⟩)]] 168))=V:=⟨_,rfl⟩;have E:Ext w V:=by rw [←hV];exact Ext.al (Ext.al (Ext.al (Ext.rf _) _) _) _
 have rb:RowZ V w.heap.size #[.pointer (some ⟨Ba,0,none⟩)]:=by rw [←hV];exact⟨by simp [go_sem],by simp [go_sem],by simp [go_sem,Lt]⟩
 have rx:RowZ V (w.heap.size+1) (acv x):=by rw [←hV];exact⟨by simp [go_sem,acv],by simp [go_sem],by simp [go_sem,Lt]⟩
 have rc:RowZ V (w.heap.size+1+1) #[.func (.func 112) #[] #[.pointer (some ⟨w.heap.size,0,none⟩)]]:=by rw [←hV];exact⟨by simp [go_sem],by simp [go_sem],by simp [go_sem,Lt]⟩
 rw [hV];clear hV;obtain⟨b2,e2⟩: ∃b,w.heap.size=b:=⟨_,rfl⟩;rw [e2]at rb rx rc lA⊢;obtain⟨b1,e1⟩: ∃b,b2+1=b:=⟨_,rfl⟩;rw [e1]at rx rc⊢;obtain⟨bc,ec⟩: ∃b,b1+1=b:=⟨_,rfl⟩;rw [ec]at rc⊢;obtain⟨M,hM⟩: ∃M,V.heap.size=M:=⟨_,rfl⟩;have lb:b2<M:=by rw [←hM];exact rb.l
 have lx:b1<M:=by rw [←hM];exact rx.l
 have lc:bc<M:=by rw [←hM];exact rc.l
 have lw:w.heap.size≤M:=by rw [←hM];exact E.size
 obtain⟨V0,hV0⟩: ∃V0,V.alloc (.map #[] 0)=V0:=⟨_,rfl⟩;have h0:Ru.Zw (fun x=> ∃n:Int,x= .int .u8 n) V0 M (fun _=>none):=by rw [←hV0,←hM];exact Ru.Zw.new V
 have g0:Ext V V0:=by rw [←hV0];exact Ext.al (Ext.rf _) _
 obtain⟨V1,hr1,h1,o1,o2,o3,o4,o5⟩:=Ru.Zw.store (P:=Tryz.prog) (t:=108) Qeu Tryz.underlying108 h0 ⟨0,rfl⟩ (by simp) (.func (.func 113) #[] #[.pointer (some ⟨b1,0,none⟩)]);have m1:Mv (fun q=>q=M) V0 V1:=⟨o1,o2,o3,Nat.le_of_eq o4.symm,fun k _ hk=>o5 k hk⟩;clear o1 o2 o3 o4 o5;obtain⟨V2,hr2,h2,o1,o2,o3,o4,o5⟩:=Ru.Zw.store (P:=Tryz.prog) (t:=108) Qeu Tryz.underlying108 h1 ⟨1,rfl⟩ (by simp) (.func (.func 114) #[] #[.pointer (some ⟨bc,0,none⟩),.pointer (some ⟨b2,0,none⟩)]);have m2:Mv (fun q=>q=M) V1 V2:=⟨o1,o2,o3,Nat.le_of_eq o4.symm,fun k _ hk=>o5 k hk⟩;clear o1 o2 o3 o4 o5;obtain⟨V3,hr3,h3,o1,o2,o3,o4,o5⟩:=Ru.Zw.store (P:=Tryz.prog) (t:=108) Qeu Tryz.underlying108 h2 ⟨2,rfl⟩ (by simp) (.func (.func 118) #[] #[.pointer (some ⟨b2,0,none⟩),.pointer (some ⟨bc,0,none⟩)]);have m3:Mv (fun q=>q=M) V2 V3:=⟨o1,o2,o3,Nat.le_of_eq o4.symm,fun k _ hk=>o5 k hk⟩;clear o1 o2 o3 o4 o5;obtain⟨V4,hr4,h4,o1,o2,o3,o4,o5⟩:=Ru.Zw.store (P:=Tryz.prog) (t:=108) Qeu Tryz.underlying108 h3 ⟨3,rfl⟩ (by simp) (.func (.func 120) #[] #[.pointer (some ⟨b1,0,none⟩),.pointer (some ⟨b2,0,none⟩)]);have m4:Mv (fun q=>q=M) V3 V4:=⟨o1,o2,o3,Nat.le_of_eq o4.symm,fun k _ hk=>o5 k hk⟩;clear o1 o2 o3 o4 o5;refine wp_region_lit ?_;refine listV rfl (Qrf _ _ _ _ _ _ _) ?_;rw [hV0,hM];refine listV (v:=(.func (.func 113) #[] #[.pointer (some ⟨b1,0,none⟩)])) (w':=V0) rfl (by kernel_rfl) ?_;refine Zh rfl (Qch (m:= .map (some M)) (k:= .int .u8 0) (v:=(.func (.func 113) #[] #[.pointer (some ⟨b1,0,none⟩)])) _ _ _ _ _ _ _ _ _ (by kernel_rfl) (by kernel_rfl) (by kernel_rfl) hr1) ?_;refine listV (v:=(.func (.func 114) #[] #[.pointer (some ⟨bc,0,none⟩),.pointer (some ⟨b2,0,none⟩)])) (w':=V1) rfl (by kernel_rfl) ?_;refine Zh rfl (Qch (m:= .map (some M)) (k:= .int .u8 1) (v:=(.func (.func 114) #[] #[.pointer (some ⟨bc,0,none⟩),.pointer (some ⟨b2,0,none⟩)])) _ _ _ _ _ _ _ _ _ (by kernel_rfl) (by kernel_rfl) (by kernel_rfl) hr2) ?_;refine listV (v:=(.func (.func 118) #[] #[.pointer (some ⟨b2,0,none⟩),.pointer (some ⟨bc,0,none⟩)])) (w':=V2) rfl (by kernel_rfl) ?_;refine Zh rfl (Qch (m:= .map (some M)) (k:= .int .u8 2) (v:=(.func (.func 118) #[] #[.pointer (some ⟨b2,0,none⟩),.pointer (some ⟨bc,0,none⟩)])) _ _ _ _ _ _ _ _ _ (by kernel_rfl) (by kernel_rfl) (by kernel_rfl) hr3) ?_;refine listV (v:=(.func (.func 120) #[] #[.pointer (some ⟨b1,0,none⟩),.pointer (some ⟨b2,0,none⟩)])) (w':=V3) rfl (by kernel_rfl) ?_;refine Zh rfl (Qch (m:= .map (some M)) (k:= .int .u8 3) (v:=(.func (.func 120) #[] #[.pointer (some ⟨b1,0,none⟩),.pointer (some ⟨b2,0,none⟩)])) _ _ _ _ _ _ _ _ _ (by kernel_rfl) (by kernel_rfl) (by kernel_rfl) hr4) ?_;refine listV (v:= .map (some M)) (w':=V4) rfl (by kernel_rfl) ?_;refine listV (v:= .map (some M)) (w':=V4) rfl (by kernel_rfl) ?_;refine wpList_nil ?_;have m:Mv (fun q=>q=M) V0 V4:=((m1.trans m2).trans m3).trans m4;have HC:=Xh (show Ext w V4∧RowZ V4 b1 (acv x)∧RowZ V4 b2 #[.pointer (some ⟨Ba,0,none⟩)]∧RowZ V4 bc #[.func (.func 112) #[] #[.pointer (some ⟨b2,0,none⟩)]]from⟨Mv.ext_of (E.tr g0) m (fun q e=>by omega),(rx.ext g0).mv m (by omega),(rb.ext g0).mv m (by omega),(rc.ext g0).mv m (by omega)⟩);have HM:=Xh h4;clear h0 h1 h2 h3 h4 hr1 hr2 hr3 hr4 m1 m2 m3 m4 m g0 hV0 E rx rb rc;go_simp;go_wp2;obtain⟨E,rx,rb,rc⟩:=HC.out;go_ret;exact⟨.map (some M),b1,b2,bc,rfl,⟨⟨M,_,rfl,HM.out,by simp,by simp,by simp,by simp⟩,rx,rb,rc,by omega,by omega,by omega⟩,E⟩
theorem Qpc{C:Nat→Prop}{w:World}{B:Nat}{cs:Array Value}(h0:RowZ w B cs)(h3:cs.size=3)(hC: ¬C B)(ρ:Operand→Value)(dst:Option Tmp)(q:Operand)(ty:TypeId)(pos:String)(after:Array Edge)(g:Option (Nat×Bool))
  (hx:ρ q= .pointer (some ⟨B,0,none⟩)): ∀w',Mv C w w'→(execOp ρ ⟨dst,.load 42 q,ty,pos,after,g⟩).run Tryz.prog w'= .ok (.value (.agg cs)) w':=by
 intro w' hE;have h1:=h0.mv hE hC;have e:=Qcf ρ dst q ty pos after g w' (by rw [hx];rfl) (by rw [hx];show Fits 0 3 (Qc w' B);rw [h1.r];unfold Fits;omega);rw [e,hx];show Result.ok (Next.value (Value.agg (Qz (Qc w' B) 0 3))) w'=_;rw [h1.r,Q5 _ 3 h3]
theorem Qpd{id:Nat}{Q:Exit→Act→World→Prop}{a:Act}{w:World}{b6 b7:Nat}{o:Ag}{d:Dn}(h6:a.eval (.tmp 6)= .pointer (some ⟨b6,0,none⟩))(h7:a.eval (.tmp 7)= .pointer (some ⟨b7,0,none⟩))(hz:a.tmps.size=128)(r6:RowZ w b6 (agv o))(r7:RowZ w b7 (dnv d))
  (H: ∀a' w',Ext w w'→RowZ w' b6 (agv o)→RowZ w' b7 (dnv d)→a'.eval (.tmp 6)= .pointer (some ⟨b6,0,none⟩)→a'.eval (.tmp 7)= .pointer (some ⟨b7,0,none⟩)→a'.defers=a.defers→Q .normal a' w'):(Code.region id #[⟨some 124,.load 27 (.tmp 6),27, "agent.go:124",#[],none⟩,⟨some 125,.load 42 (.tmp 7),42, "agent.go:124",#[⟨2,.gcOnly .lateStores⟩],none⟩,⟨none,.store 27 (.tmp 6) (.tmp 124),0, "agent.go:124",#[⟨0,.data⟩,⟨0,.phase⟩,⟨1,.textOnly .lateStores⟩],none⟩,⟨none,.store 42 (.tmp 7) (.tmp 125),0, "agent.go:124",#[⟨1,.data⟩,⟨2,.chain⟩,⟨0,.phase⟩,⟨1,.phase⟩,⟨2,.phase⟩],none⟩] true).wp Tryz.prog Q a w:=by
 refine wp_region_quiet (C:=fun w'=>Ext w w'∧RowZ w' b6 (agv o)∧RowZ w' b7 (dnv d)) (by kernel_rfl) (by kernel_rfl) ⟨Ext.dr (Ext.rf w),r6.ext (Ext.dr (Ext.rf w)),r7.ext (Ext.dr (Ext.rf w))⟩ ?_;refine Qac (.agg (agv o)) rfl (fun w' hw=>ZI (C:=fun _=>False) hw.2.1 (fun h=>h) _ _ _ _ _ _ _ h6 _ (Mv.refl _ _)) ?_;refine Qac (.agg (dnv d)) rfl (fun w' hw=>Qpc (C:=fun _=>False) hw.2.2 rfl (fun h=>h) _ _ _ _ _ _ _ (by rw [QH (by decide)];exact h7) _ (Mv.refl _ _)) ?_;refine QcI rfl (fun w' hw=>(Zp (B:=b6) (cs:=agv o) (by rw [hw.2.1.r];exact Qh) hw.2.1.z Qh ZN _ _ _ _ _ _ _ _ (by rw [QH (by decide),QH (by decide)];exact h6) (by rw [QH (by decide)];exact Qab (by omega))).trans (by rw [JJ hw.2.1])) ?_;refine QcI rfl (fun w' hw=>(YV (B:=b7) (cs:=dnv d) (by rw [hw.2.2.r];rfl) hw.2.2.z rfl (by simp [go_sem,dnv]) _ _ _ _ _ _ _ _ (by show Act.eval _ _=_;rw [QH (by decide),QH (by decide)];exact h7) (Qab (by rw [Zq];omega))).trans (by rw [JJ hw.2.2])) ?_;refine wpQuiet_nil fun w' hw=>H _ w' hw.1 hw.2.1 hw.2.2 ?_ ?_ rfl
 ·show((a.put (some 124) _).put (some 125) _).eval _=_;rw [QH (by decide),QH (by decide)];exact h6
 ·show((a.put (some 124) _).put (some 125) _).eval _=_;rw [QH (by decide),QH (by decide)];exact h7
theorem Jk{id:Nat}{Q:Exit→Act→World→Prop}{a:Act}{w:World}{b6 b7:Nat}{o:Ag}{d:Dn}(h6:a.eval (.tmp 6)= .pointer (some ⟨b6,0,none⟩))(h7:a.eval (.tmp 7)= .pointer (some ⟨b7,0,none⟩))(hz:a.tmps.size=128)(r6:RowZ w b6 (agv o))(r7:RowZ w b7 (dnv d))
  (H: ∀a' w',Ext w w'→RowZ w' b6 (agv o)→RowZ w' b7 (dnv d)→a'.eval (.tmp 6)= .pointer (some ⟨b6,0,none⟩)→a'.eval (.tmp 7)= .pointer (some ⟨b7,0,none⟩)→a'.defers=a.defers→Q .normal a' w'):(Code.region id #[⟨some 126,.load 27 (.tmp 6),27, "agent.go:127",#[],none⟩,⟨some 127,.load 42 (.tmp 7),42, "agent.go:127",#[⟨2,.gcOnly .lateStores⟩],none⟩,⟨none,.store 27 (.tmp 6) (.tmp 126),0, "agent.go:127",#[⟨0,.data⟩,⟨0,.phase⟩,⟨1,.textOnly .lateStores⟩],none⟩,⟨none,.store 42 (.tmp 7) (.tmp 127),0, "agent.go:127",#[⟨1,.data⟩,⟨2,.chain⟩,⟨0,.phase⟩,⟨1,.phase⟩,⟨2,.phase⟩],none⟩] true).wp Tryz.prog Q a w:=by
 refine wp_region_quiet (C:=fun w'=>Ext w w'∧RowZ w' b6 (agv o)∧RowZ w' b7 (dnv d)) (by kernel_rfl) (by kernel_rfl) ⟨Ext.dr (Ext.rf w),r6.ext (Ext.dr (Ext.rf w)),r7.ext (Ext.dr (Ext.rf w))⟩ ?_;refine Qac (.agg (agv o)) rfl (fun w' hw=>ZI (C:=fun _=>False) hw.2.1 (fun h=>h) _ _ _ _ _ _ _ h6 _ (Mv.refl _ _)) ?_;refine Qac (.agg (dnv d)) rfl (fun w' hw=>Qpc (C:=fun _=>False) hw.2.2 rfl (fun h=>h) _ _ _ _ _ _ _ (by rw [QH (by decide)];exact h7) _ (Mv.refl _ _)) ?_;refine QcI rfl (fun w' hw=>(Zp (B:=b6) (cs:=agv o) (by rw [hw.2.1.r];exact Qh) hw.2.1.z Qh ZN _ _ _ _ _ _ _ _ (by rw [QH (by decide),QH (by decide)];exact h6) (by rw [QH (by decide)];exact Qab (by omega))).trans (by rw [JJ hw.2.1])) ?_;refine QcI rfl (fun w' hw=>(YV (B:=b7) (cs:=dnv d) (by rw [hw.2.2.r];rfl) hw.2.2.z rfl (by simp [go_sem,dnv]) _ _ _ _ _ _ _ _ (by show Act.eval _ _=_;rw [QH (by decide),QH (by decide)];exact h7) (Qab (by rw [Zq];omega))).trans (by rw [JJ hw.2.2])) ?_;refine wpQuiet_nil fun w' hw=>H _ w' hw.1 hw.2.1 hw.2.2 ?_ ?_ rfl
 ·show((a.put (some 126) _).put (some 127) _).eval _=_;rw [QH (by decide),QH (by decide)];exact h6
 ·show((a.put (some 126) _).put (some 127) _).eval _=_;rw [QH (by decide),QH (by decide)];exact h7
theorem QkS:(Tryz.prog.info? 105).map (·.size)=some 5:=by kernel_rfl
theorem Qmi{w:World}{b o:Nat}(h:o+5≤(Qc w b).size):(Instr.loadAt 105 (.pointer (some ⟨b,o,none⟩))).run Tryz.prog w= .ok (.agg ((Qc w b).extract o (o+5))) w:=by
 have:=run_loadAt_mid w b o 105 ((Qc w b).extract o (o+5)).toList _ (QB w b o (o+5)) Tryz.underlying105 rfl (by rw [QkS];simp;omega)
 rwa [Array.toArray_toList]at this
@[go_sem ↓ high] theorem Qck(ρ:Operand→Value)(dst:Option Tmp)(x:Operand)(ty:TypeId)(pos:String)(after:Array Edge)(g:Option (Nat×Bool))(w:World)
  (hx:ρ x= .pointer (some ⟨Qb (ρ x),Qd (ρ x),none⟩))(h:Fits (Qd (ρ x)) 5 (Qc w (Qb (ρ x)))):
  (execOp ρ ⟨dst,.load 105 x,ty,pos,after,g⟩).run Tryz.prog w= .ok (.value (.agg (Qz (Qc w (Qb (ρ x))) (Qd (ρ x)) 5))) w:=by
 unfold Fits at h;generalize hB:Qb (ρ x)=B at*;generalize hO:Qd (ρ x)=O at*;simp only [execOp,hx,Sem.run_bind,Qmi h,Result.andThen_ok,Sem.run_pure,Qz]
@[go_sem ↓ high] theorem QsA(l:Option Nat)(ρ:Operand→Value)(dst:Option Tmp)(x:Operand)(ty:TypeId)(pos:String)(after:Array Edge)(g:Option (Nat×Bool))(w:World)
  (hx:ρ x= .pointer (some ⟨Qb (ρ x),Qd (ρ x),none⟩))(h:Fits (Qd (ρ x)) 5 (Qc w (Qb (ρ x)))):
  (Oper.semAt l ρ ⟨dst,.load 105 x,ty,pos,after,g⟩).run Tryz.prog w= .ok (.value (.agg (Qz (Qc w (Qb (ρ x))) (Qd (ρ x)) 5))) w:=by rw [Oper.semAt_eq _ _ _ (fun c h=>by cases h)];exact Qck ρ dst x ty pos after g w hx h
@[go_sem ↓ high] theorem Qbp(ρ:Operand→Value)(dst:Option Tmp)(x y:Operand)(ty:TypeId)(pos:String)(after:Array Edge)(g:Option (Nat×Bool))(w:World)
  (hx:ρ x= .pointer (some ⟨Qb (ρ x),Qd (ρ x),none⟩))(hy:ρ y= .agg (ρ y).cells)(hs:Qn (ρ y).cells 5)(h:Fits (Qd (ρ x)) 5 (Qc w (Qb (ρ x))))(hz:Qs w (Qb (ρ x))=(0,0))(h1:QI (ρ y).cells):
  (execOp ρ ⟨dst,.store 105 x y,ty,pos,after,g⟩).run Tryz.prog w= .ok .skip (Qe w (Qb (ρ x)) (Qd (ρ x)) (ρ y).cells):=by
 unfold Fits at h;unfold Qn at hs;generalize hB:Qb (ρ x)=B at*;generalize hO:Qd (ρ x)=O at*;generalize hC:(ρ y).cells=C at*;have hst:(Instr.storeAt 105 (.pointer (some ⟨B,O,none⟩)) (.agg C)).run Tryz.prog w= .ok () (Qe w B O C):=
  run_storeAt_mid w B O 105 C (fun j hj=>⟨by rw [Qa,Array.getElem?_eq_getElem (by omega)];rfl,Ql hz _⟩) (by rw [QkS,hs]) h1
 simp only [execOp,hx,hy,Sem.run_bind,hst,Result.andThen_ok,Sem.run_pure]
@[go_sem ↓ high] theorem Qrh(l:Option Nat)(ρ:Operand→Value)(dst:Option Tmp)(x y:Operand)(ty:TypeId)(pos:String)(after:Array Edge)(g:Option (Nat×Bool))(w:World)
  (hx:ρ x= .pointer (some ⟨Qb (ρ x),Qd (ρ x),none⟩))(hy:ρ y= .agg (ρ y).cells)(hs:Qn (ρ y).cells 5)(h:Fits (Qd (ρ x)) 5 (Qc w (Qb (ρ x))))(hz:Qs w (Qb (ρ x))=(0,0))(h1:QI (ρ y).cells):
  (Oper.semAt l ρ ⟨dst,.store 105 x y,ty,pos,after,g⟩).run Tryz.prog w= .ok .skip (Qe w (Qb (ρ x)) (Qd (ρ x)) (ρ y).cells):=by rw [Oper.semAt_eq _ _ _ (fun c h=>by cases h)];exact Qbp ρ dst x y ty pos after g w hx hy hs h hz h1
theorem QhP{w:World}{B:Nat}{cs:Array Value}(hs:(Qc w B).size=5)(hz:Qs w B=(0,0))(hcs:cs.size=5)(ho:QI cs)(ρ:Operand→Value)(dst:Option Tmp)(x y:Operand)(ty:TypeId)(pos:String)(after:Array Edge)(g:Option (Nat×Bool))
  (hx:ρ x= .pointer (some ⟨B,0,none⟩))(hy:ρ y= .agg cs):(execOp ρ ⟨dst,.store 105 x y,ty,pos,after,g⟩).run Tryz.prog w= .ok .skip (Qe w B 0 cs):=by
 have e:=Qbp ρ dst x y ty pos after g w (by rw [hx];rfl) (by rw [hy];rfl) (by rw [hy];exact hcs) (by rw [hx];show Fits 0 5 (Qc w B);unfold Fits;omega) (by rw [hx];exact hz) (by rw [hy];exact ho);rw [e,hx,hy];rfl
def Qba(x:Ru.Ac)(a:Ag)(c:Cm)(pl:List Int):Int×List Co×List Ev×List (List Int):=
 if x.d=0 then(x.x,a.xs,[],[])else if x.d=1 then(0,QhK a c,Qet a c,[])else if x.d=2 then(0,Qaj a.xs c.pk.tu c.now,[⟨1,a.id,c.pk.tu⟩],[])
 else(0,a.xs,[],[ipB (QL (2,a.id)) (QL (2,x.t)) (Jl {c.o with ki:=x.k,ge:=x.g}) pl])
theorem QjL{C:Nat→Prop}{w:World}{B:Nat}{cs:Array Value}(h0:RowZ w B cs)(h5:cs.size=5)(hC: ¬C B)(ρ:Operand→Value)(dst:Option Tmp)(q:Operand)(ty:TypeId)(pos:String)(after:Array Edge)(g:Option (Nat×Bool))
  (hx:ρ q= .pointer (some ⟨B,0,none⟩)): ∀w',Mv C w w'→(execOp ρ ⟨dst,.load 105 q,ty,pos,after,g⟩).run Tryz.prog w'= .ok (.value (.agg cs)) w':=by
 intro w' hE;have h1:=h0.mv hE hC;have e:=Qck ρ dst q ty pos after g w' (by rw [hx];rfl) (by rw [hx];show Fits 0 5 (Qc w' B);rw [h1.r];unfold Fits;omega);rw [e,hx];show Result.ok (Next.value (Value.agg (Qz (Qc w' B) 0 5))) w'=_;rw [h1.r,Q5 _ 5 h5]
theorem QjM{P:Program}{ops:Array Oper}{C D M:Nat→Prop}{r:Nat}{R:Value→World→Prop}{Q:Act→World→Prop}{N k m m':Nat}{oi:Oper}{f:FuncId}{args:Array Value}{fuel:Nat}{a:Act}{w:World}(hm:m|||(1<<<k)=m')(hi:ops[k]?=some oi)(hw:Region.wanted oi (yielded ops a.tmps)=true)
  (he:(execOp a.eval oi).run P w= .ok (.enter f args) w)(hc:Calls P f args w fun e w'=> ∃v,e= .returned v∧R v w'∧Mv M w w')(hr:r≤k∨ ∀q,M q→C q)(hD: ∀q,M q→D q)
  (H: ∀v w',Mv M w w'→R v w'→QK C D r P .any ops Q fuel (msk N m') (a.put oi.dst v) w'):Qaz C D r P ops Q fuel N k m a w:=by
 refine⟨?_⟩;unfold YW;simp only [hi,hw,if_true,he,hm];exact hc.mono fun e w' ⟨v,h1,h2,h3⟩=>⟨v,h1,⟨hr.imp id fun h=>h3.mono fun q _ e=>h q e,h3.mono fun q _ e=>hD q e⟩,H v w' h3 h2⟩
theorem QcP{w:World}{B:Nat}{f:Value→Option Value}{n:Int}{v:Value}(h:Ru.Zw (fun x=> ∃n:Int,x= .int .u8 n) w B f)(hv:f (.int .u8 n)=some v)(ρ:Operand→Value)(dst:Option Tmp)(x y:Operand)(ty:TypeId)(pos:String)(after:Array Edge)(g:Option (Nat×Bool))(hx:ρ x= .map (some B))(hy:ρ y= .int .u8 n):
  (execOp ρ ⟨dst,.lookup 108 x y false,ty,pos,after,g⟩).run Tryz.prog w= .ok (.value v) w:=by
 have h1:=h.look Qeu Tryz.underlying108 ⟨n,rfl⟩ .nilFunc (by simp [go_sem]);rw [hv]at h1;simp [execOp,hx,hy,h1,Result.andThen]
theorem QjN{x:Ru.Ac}{a b:Ag}{c d:Cm}{pl:List Int}(h1:b.xs=a.xs)(h2:b.id=a.id)(h3:d.pk=c.pk)(h4:d.now=c.now)(h5:d.o=c.o):Qba x b d pl=Qba x a c pl:=by
 unfold Qba QhK Qet Qdp;rw [h1,h2,h3,h4,h5]
theorem Qmj{a:Ag}(h:agR a=true)(k:Nat)(hk:k<16):(toR (a.md k)).right=true:=by
 unfold agR at h;simp only [Bool.and_eq_true,List.all_eq_true,List.mem_range]at h;have:=h.1.2 k hk;unfold Qdj at this;simp only [Bool.and_eq_true]at this;exact this.1
theorem Qri{o:Opt}(h:ZS o=true):0≤o.ge∧o.ge≤2147483647:=by
 unfold ZS J1 QeD at h;simp only [List.all_cons,List.all_nil,Bool.and_eq_true,decide_eq_true_eq]at h
 grind
theorem Qrj{m:Ru.Md}{k f g:Int}{s n r:Bool}:(Ru.Qsz m k f g s n r).d=0∨(Ru.Qsz m k f g s n r).d=1∨(Ru.Qsz m k f g s n r).d=2∨(Ru.Qsz m k f g s n r).d=3:=by
 obtain⟨x,hx⟩: ∃x,Ru.Qsz m k f g s n r=x:=⟨_,rfl⟩;rw [hx];unfold Ru.Qsz Ru.Qsy Ru.J4 Ru.Qd2 Ru.YK Ru.Zl at hx;have hac:Ru.Qkt r=2∨Ru.Qkt r=0:=by unfold Ru.Qkt;cases r<;>decide
 repeat' split at hx
 all_goals(subst hx;first|exact .inl rfl|exact .inr (.inl rfl)|exact .inr (.inr (.inr rfl))|(rcases hac with h|h;exact .inr (.inr (.inl h));exact .inl h))
def QkT(x:Ru.Ac)(Ba:Nat)(v:Value)(w':World):Prop:= ∃b1 b2 bc,Qev w' v x Ba b1 b2 bc
theorem QjO(x:Ru.Ac)(Ba:Nat)(w:World)(lA:Ba<w.heap.size):Calls Tryz.prog 48 #[.pointer (some ⟨Ba,0,none⟩),.agg (acv x)] w fun e w'=> ∃v,e= .returned v∧QkT x Ba v w'∧Ext w w':=
 (Qpb x Ba w lA).mono fun e w' ⟨m,b1,b2,bc,h1,h2,h3⟩=>⟨m,h1,⟨b1,b2,bc,h2⟩,h3⟩
def Qrk(w:World)(Ba:Nat)(a:Ag)(dr:Int)(xs:List Co)(es:List Ev)(ss:List (List Int))(v:Value)(w':World):Prop:=
 ∃p c ep ec sp sc,v= .agg (dnv ⟨dr,ep,es.length,ec,sp,ss.length,sc⟩)∧RowZ w' Ba (agv {a with p:=p,xs:=xs,c:=c})∧SlC w' p xs∧SlE w' ep es∧SlBB w' sp ss∧
  (∀b off,p=some ⟨b,off,none⟩→w.heap.size≤b∨p=a.p)∧(∀b off,ep=some ⟨b,off,none⟩→w.heap.size≤b)∧(∀b off,sp=some ⟨b,off,none⟩→w.heap.size≤b)
theorem Qpe{f:Nat}{args:Array Value}{w:World}{Ba:Nat}{a:Ag}{dr:Int}{xs:List Co}{es:List Ev}{ss:List (List Int)}(h:Calls Tryz.prog f args w (QcN w Ba a dr xs es ss)):
  Calls Tryz.prog f args w fun e w'=> ∃v,e= .returned v∧Qrk w Ba a dr xs es ss v w'∧Mv (fun q=>q=Ba) w w':=
 h.mono fun e w' ⟨p,c,ep,ec,sp,sc,h1,h2,h3,h4,h5,h6,h7,h8,h9⟩=>⟨_,h1,⟨p,c,ep,ec,sp,sc,rfl,h2,h3,h4,h5,h7,h8,h9⟩,h6⟩
theorem SlBB.mv3{A B:World}{b7:Nat}{cs:Array Value}{p:Option Addr}{bss:List (List Int)}(h:SlBB A p bss)(m:Mv (fun q=>q=b7) A B)(r:RowZ A b7 cs)(hb: ∀b off,p=some ⟨b,off,none⟩→b≠b7)(hl:cs.size≤3∧ ∀bs∈bss,3<bs.length):SlBB B p bss:=fun k hk=>by
 obtain⟨b,off,q,c,h1,h2,h3,h4⟩:=h k hk;have e:=Qf (m.same b h2 (hb b off h1));refine⟨b,off,q,c,h1,Xl h2 m.size,by rw [Qa,e,←Qa];exact h3,h4.mvg m fun b' off' e' f=> ?_⟩;have f':b'=b7:=f;subst f';have hlen:=hl.2 _ (List.getElem_mem hk);obtain⟨b2,off2,e2,-,c2⟩:=h4 3 hlen;rw [e']at e2
 cases e2
 rw [Qa,r.r,Array.getElem?_eq_none (by omega)]at c2
 cases c2
theorem SlBB.ext{A B:World}{p:Option Addr}{bss:List (List Int)}(h:SlBB A p bss)(e:Ext A B):SlBB B p bss:=fun k hk=>by
 obtain⟨b,off,q,c,h1,h2,h3,h4⟩:=h k hk;exact⟨b,off,q,c,h1,Xl h2 e.size,(e.cell (p:=⟨b,off+k,none⟩) h2).trans h3,h4.ext e⟩
def Qpf(ops:Array Oper):Prop:=Region.noSelect ops=true∧Qo ops 8 [0,2,3,5] 0=true∧Region.ready .any ops (msk 8 45)= [1]∧Region.ready .any ops (msk 8 47)= [4]∧Region.ready .any ops (msk 8 63)= [6]∧Region.ready .any ops (msk 8 127)= [7]∧Region.ready .any ops (msk 8 255)= []
theorem QjP:Qpf ((Tryz.f12.body.bind (Qg 21)).getD #[]):=⟨by kernel_rfl,by kernel_rfl,by kernel_rfl,by kernel_rfl,by kernel_rfl,by kernel_rfl,by kernel_rfl⟩
def Qpg(ops:Array Oper):Prop:=Region.noSelect ops=true∧Qo ops 8 [0,2,3,5] 0=true∧Region.ready .any ops (msk 8 45)= [1]∧Region.ready .any ops (msk 8 47)= [4]∧Region.ready .any ops (msk 8 63)= [6]∧Region.ready .any ops (msk 8 127)= [7]∧Region.ready .any ops (msk 8 255)= []
theorem QjQ:Qpg ((Tryz.f12.body.bind (Qg 21)).getD #[]):=⟨by kernel_rfl,by kernel_rfl,by kernel_rfl,by kernel_rfl,by kernel_rfl,by kernel_rfl,by kernel_rfl⟩
def Qph(ops:Array Oper):Prop:=Region.noSelect ops=true∧Qo ops 8 [0,2,3,5] 0=true∧Region.ready .any ops (msk 8 45)= [1]∧Region.ready .any ops (msk 8 47)= [4]∧Region.ready .any ops (msk 8 63)= [6]∧Region.ready .any ops (msk 8 127)= [7]∧Region.ready .any ops (msk 8 255)= []
theorem QjR:Qph ((Tryz.f12.body.bind (Qg 21)).getD #[]):=⟨by kernel_rfl,by kernel_rfl,by kernel_rfl,by kernel_rfl,by kernel_rfl,by kernel_rfl,by kernel_rfl⟩
theorem Qpi{id:Nat}{ops:Array Oper}{Q:Exit→Act→World→Prop}{v0 v1 v2 v3 v4 v5 v8 v9 v12 v13 v14 v15 v16 v17 v18 v19 v20 v21 v22 v23 v24 v25 v26 v27 v28 v29 v30 v31 v32 v33 v34 v35 v36 v37 v38 v39 v40 v41 v42 v43 v44 v45 v46 v47 v48 v49 v50 v51 v52 v53 v54 v55 v56 v57 v58 v59 v60 v61 v62 v63 v64 v65 v66 v67 v68 v69 v70 v71 v72 v73 v74 v75 v76 v77 v78 v79 v80 v81 v82 v83 v84 v85 v86 v87 v88 v89 v90 v91 v92 v93 v94 v95 v96 v97 v98 v99 v100 v101 v102 v103 v104 v105 v106 v107 v108 v109 v110 v111 v112 v113 v114 v115 v116 v117 v118 v119 v120 v121 v122 v123 v124 v125 v126 v127:Value}{df}{w0 W:World}{b6 b7 b10 b11:Nat}{o1:Ag}{c:Cm}{x:Ru.Ac}{pl:List Int}{rz:Array Value}(hops:ops=((Tryz.f12.body.bind (Qg 21)).getD #[]))
  (E:Ext w0 W)(l6:w0.heap.size≤b6)(l67:b6<b7)(l7:b7<b10)(l10:b10<b11)(ra:RowZ W b6 (agv o1))(rd:RowZ W b7 rz)(hrz:rz.size=3)(r10:RowZ W b10 (cmv c))(r11:RowZ W b11 (acv x))(sO:SlC W o1.p o1.xs)(hpO: ∀b off,o1.p=some ⟨b,off,none⟩→b10<b∧b<W.heap.size)(hl:o1.xs.length≤1000)
  (sq:SlB W c.ip pl)(hq: ∀b off,c.ip=some ⟨b,off,none⟩→b10<b∧b<W.heap.size)(hd:x.d=0∨x.d=1∨x.d=2)
  (H: ∀a' w' p' c' ep ec sp sc,a'.eval (.tmp 6)= .pointer (some ⟨b6,0,none⟩)→a'.eval (.tmp 7)= .pointer (some ⟨b7,0,none⟩)→a'.tmps.size=128→a'.defers=df→RowZ w' b6 (agv {o1 with p:=p',xs:=(Qba x o1 c pl).2.1,c:=c'})→RowZ w' b7 (dnv ⟨(Qba x o1 c pl).1,ep,(Qba x o1 c pl).2.2.1.length,ec,sp,(Qba x o1 c pl).2.2.2.length,sc⟩)→SlC w' p' (Qba x o1 c pl).2.1→SlE w' ep (Qba x o1 c pl).2.2.1→SlBB w' sp (Qba x o1 c pl).2.2.2→Ext w0 w'→Q .normal a' w'):
  (Code.region id ops true).wp Tryz.prog Q ⟨#[v0,v1,v2,v3,v4,v5,.pointer (some ⟨b6,0,none⟩),.pointer (some ⟨b7,0,none⟩),v8,v9,.pointer (some ⟨b10,0,none⟩),.pointer (some ⟨b11,0,none⟩),v12,v13,v14,v15,v16,v17,v18,v19,v20,v21,v22,v23,v24,v25,v26,v27,v28,v29,v30,v31,v32,v33,v34,v35,v36,v37,v38,v39,v40,v41,v42,v43,v44,v45,v46,v47,v48,v49,v50,v51,v52,v53,v54,v55,v56,v57,v58,v59,v60,v61,v62,v63,v64,v65,v66,v67,v68,v69,v70,v71,v72,v73,v74,v75,v76,v77,v78,v79,v80,v81,v82,v83,v84,v85,v86,v87,v88,v89,v90,v91,v92,v93,v94,v95,v96,v97,v98,v99,v100,v101,v102,v103,v104,v105,v106,v107,v108,v109,v110,v111,v112,v113,v114,v115,v116,v117,v118,v119,v120,v121,v122,v123,v124,v125,v126,v127],df⟩ W:=by
 subst hops;have hne: ∀b off,o1.p=some ⟨b,off,none⟩→b≠b6:=fun b off e=>by have:=hpO b off e;omega
 have hD10: ¬(fun q=>q=b6∨q=b7) b10:=fun e=>e.elim (by omega) (by omega);have hD11: ¬(fun q=>q=b6∨q=b7) b11:=fun e=>e.elim (by omega) (by omega);have hsz:W.heap.size≤W.heap.size:=Nat.le_refl _;obtain⟨lo,hlo⟩: ∃n,W.heap.size=n:=⟨_,rfl⟩;have l11:b11<lo:=by rw [←hlo];exact r11.l
 rw [hlo]at hpO hq;have hsz:lo≤W.heap.size:=by omega
 clear hlo;refine Qy (fun _=>False) (fun q=>q=b6∨q=b7) 6 (by kernel_rfl) ?_;obtain⟨W1,hW⟩: ∃Wdr,World.drew W=Wdr:=⟨_,rfl⟩;have gD:Ext W W1:=by rw [←hW];exact Ext.dr (Ext.rf _)
 rw [hW];clear hW;have E:=E.tr gD;have ra:=ra.ext gD;have rd:=rd.ext gD;have r10:=r10.ext gD;have r11:=r11.ext gD;have sO:=sO.ext gD;have sq:=sq.ext gD;have hsz:=Xt hsz gD.size;have HR:=Xh H;clear H;rcases hd with hxd|hxd|hxd
 ·have HSSL:rz.size≤3∧ ∀bs∈([]:List (List Int)),3<bs.length:=⟨Nat.le_of_eq hrz,fun bs hb=>by cases hb⟩;have HW:=Xh (show Qba x o1 c pl=_ from if_pos hxd);refine Zg (N:=8) (R:=Qpf) (E:=((Tryz.f12.body.bind (Qg 21)).getD #[])) (by kernel_rfl) QjP (by kernel_rfl) fun hS=> ?_;have hT:=hS.2.1;refine tW 1 (.agg (acv x)) hS.1 hT rfl (QjL r11 rfl hD11 _ _ _ _ _ _ _ (by kernel_rfl)) fun hT=> ?_;refine tWk 5 (.pointer (some ⟨b11,0,none⟩)) hS.1 hT rfl fun hT=> ?_;refine tW 13 (.int .u8 x.d) hS.1 hT rfl (Yl (r11.cell 0 (by show 0<5;omega)) r11.l hD11 _ _ _ _ _ _ _ (by kernel_rfl)) fun hT=> ?_;refine tW 45 (.agg (cmv c)) hS.1 hT rfl (QcM r10 hD10 _ _ _ _ _ _ _ (by kernel_rfl)) fun hT=> ?_;refine sV 47 (QkT x b6) hS.2.2.1 rfl (QjO x b6 W1 ra.l) ?_;rintro vm WM1 gWM1 ⟨b1,b2,bc,WI⟩;have E:=E.tr gWM1;have ra:=ra.ext gWM1;have rd:=rd.ext gWM1;have r10:=r10.ext gWM1;have r11:=r11.ext gWM1;have sO:=sO.ext gWM1;have sq:=sq.ext gWM1;obtain⟨Bm,fm,rfl,HM,f0,f1,f2,f3⟩:=WI.is;have hsz:=Xt hsz gWM1.size;refine Qv hS.2.2.2.1 (Zv (m':=63) (v:= .func (.func 113) #[] #[.pointer (some ⟨b1,0,none⟩)]) rfl rfl (by kernel_rfl) (QcP (n:=x.d) HM (by rw [hxd];exact f0) _ _ _ _ _ _ _ _ (by kernel_rfl) (by kernel_rfl)) ⟨.inr (Mv.refl _ _),Mv.refl _ _⟩ ?_);obtain⟨WM2,eWM2⟩: ∃N,WM1=N:=⟨_,rfl⟩;have gWM2:Ext WM1 WM2:=by rw [eWM2];exact Ext.rf _
  have WI:Qev WM2 (.map (some Bm)) x b6 b1 b2 bc:=by rw [←eWM2];exact WI
  rw [eWM2];clear HM f0 f1 f2 f3;have E:=E.tr gWM2;have ra:=ra.ext gWM2;have rd:=rd.ext gWM2;have r10:=r10.ext gWM2;have r11:=r11.ext gWM2;have sO:=sO.ext gWM2;have sq:=sq.ext gWM2;have hsz:=Xt hsz gWM2.size;have hlt: ∀b off,o1.p=some ⟨b,off,none⟩→b<WM2.heap.size:=fun b off e=>by have:=hpO b off e;omega
  have hql: ∀b off,c.ip=some ⟨b,off,none⟩→b<WM2.heap.size:=fun b off e=>by have:=hq b off e;omega
  refine Qv hS.2.2.2.2.1 (QjM (m':=127) (M:=fun q=>q=b6) (R:=Qrk WM2 b6 o1 x.x o1.xs [] []) rfl rfl (by kernel_rfl) (by kernel_rfl) (Qpe (ZX x c o1 b6 b1 WM2 ra WI.rx sO hlt)) (.inl (by decide)) (fun q e=> .inl e) ?_);rintro vd WM3 hmv ⟨p',c',ep,ec,sp,sc,rfl,ra,sn,se,ss,hp',he',hs'⟩;have E:=Mv.ext_of E hmv (fun q e=>by omega);have rd:=rd.mv hmv (by omega);have r10:=r10.mv hmv (by omega);have r11:=r11.mv hmv (by omega);have sO:=sO.mvg hmv (fun b off e f=>by have:=hpO b off e;omega);have sq:=sq.mvg hmv (fun b off e f=>by have:=hq b off e;omega);have hsz:=Xt hsz hmv.size;have gWM3:=Ext.rf WM3;have E:=E.tr gWM3;have ra:=ra.ext gWM3;have rd:=rd.ext gWM3;have r10:=r10.ext gWM3;have r11:=r11.ext gWM3;have sO:=sO.ext gWM3;have sq:=sq.ext gWM3;refine Qv hS.2.2.2.2.2.1 (QE (m':=255) rfl rfl (by kernel_rfl) (YV (B:=b7) (cs:=(dnv ⟨x.x,ep,([]:List Ev).length,ec,sp,([]:List (List Int)).length,sc⟩)) (by rw [rd.r];exact hrz) rd.z rfl (by simp [go_sem,dnv]) _ _ _ _ _ _ _ _ (by kernel_rfl) (by kernel_rfl)) ⟨.inl (by decide),(Mv.sa _ (.inr rfl) (Mv.refl _ _))⟩ ?_);obtain⟨WM4,hWM4⟩: ∃WM4,Qe WM3 b7 0 (dnv ⟨x.x,ep,([]:List Ev).length,ec,sp,([]:List (List Int)).length,sc⟩)=WM4:=⟨_,rfl⟩;have gS:Mv (fun q=>q=b7) WM3 WM4:=by rw [←hWM4];exact Mv.sa _ rfl (Mv.refl _ _)
  have ra:=ra.mv gS (by omega);have rd0:=rd;have rd:RowZ WM4 b7 (dnv ⟨x.x,ep,([]:List Ev).length,ec,sp,([]:List (List Int)).length,sc⟩):=by rw [←hWM4];exact rd.all _ hrz
  have E:=Mv.ext_of E gS (fun q e=>by omega);have sn:=sn.mvg gS (fun b off e f=>by rcases hp' b off e with h|h;omega;(rw [h]at e;have:=hpO b off e;omega));have se:=se.mvg gS (fun b off e f=>by have:=he' b off e;omega);have ss:=ss.mv3 gS rd0 (fun b off e f=>by have:=hs' b off e;omega) HSSL;rw [hWM4];clear hWM4;refine Q8 hS.2.2.2.2.2.2 ?_;exact HR.out _ _ p' c' ep ec sp sc (by kernel_rfl) (by kernel_rfl) (by kernel_rfl) rfl (by rw [HW.out];exact ra) (by rw [HW.out];exact rd) (by rw [HW.out];exact sn) (by rw [HW.out];exact se) (by rw [HW.out];exact ss) E
 ·have HSSL:rz.size≤3∧ ∀bs∈([]:List (List Int)),3<bs.length:=⟨Nat.le_of_eq hrz,fun bs hb=>by cases hb⟩;have HW:=Xh (show Qba x o1 c pl=_ from(if_neg (by omega)).trans (if_pos hxd));refine Zg (N:=8) (R:=Qpg) (E:=((Tryz.f12.body.bind (Qg 21)).getD #[])) (by kernel_rfl) QjQ (by kernel_rfl) fun hS=> ?_;have hT:=hS.2.1;refine tW 1 (.agg (acv x)) hS.1 hT rfl (QjL r11 rfl hD11 _ _ _ _ _ _ _ (by kernel_rfl)) fun hT=> ?_;refine tWk 5 (.pointer (some ⟨b11,0,none⟩)) hS.1 hT rfl fun hT=> ?_;refine tW 13 (.int .u8 x.d) hS.1 hT rfl (Yl (r11.cell 0 (by show 0<5;omega)) r11.l hD11 _ _ _ _ _ _ _ (by kernel_rfl)) fun hT=> ?_;refine tW 45 (.agg (cmv c)) hS.1 hT rfl (QcM r10 hD10 _ _ _ _ _ _ _ (by kernel_rfl)) fun hT=> ?_;refine sV 47 (QkT x b6) hS.2.2.1 rfl (QjO x b6 W1 ra.l) ?_;rintro vm WM1 gWM1 ⟨b1,b2,bc,WI⟩;have E:=E.tr gWM1;have ra:=ra.ext gWM1;have rd:=rd.ext gWM1;have r10:=r10.ext gWM1;have r11:=r11.ext gWM1;have sO:=sO.ext gWM1;have sq:=sq.ext gWM1;obtain⟨Bm,fm,rfl,HM,f0,f1,f2,f3⟩:=WI.is;have hsz:=Xt hsz gWM1.size;refine Qv hS.2.2.2.1 (Zv (m':=63) (v:= .func (.func 114) #[] #[.pointer (some ⟨bc,0,none⟩),.pointer (some ⟨b2,0,none⟩)]) rfl rfl (by kernel_rfl) (QcP (n:=x.d) HM (by rw [hxd];exact f1) _ _ _ _ _ _ _ _ (by kernel_rfl) (by kernel_rfl)) ⟨.inr (Mv.refl _ _),Mv.refl _ _⟩ ?_);obtain⟨WM2,eWM2⟩: ∃N,WM1=N:=⟨_,rfl⟩;have gWM2:Ext WM1 WM2:=by rw [eWM2];exact Ext.rf _
  have WI:Qev WM2 (.map (some Bm)) x b6 b1 b2 bc:=by rw [←eWM2];exact WI
  rw [eWM2];clear HM f0 f1 f2 f3;have E:=E.tr gWM2;have ra:=ra.ext gWM2;have rd:=rd.ext gWM2;have r10:=r10.ext gWM2;have r11:=r11.ext gWM2;have sO:=sO.ext gWM2;have sq:=sq.ext gWM2;have hsz:=Xt hsz gWM2.size;have hlt: ∀b off,o1.p=some ⟨b,off,none⟩→b<WM2.heap.size:=fun b off e=>by have:=hpO b off e;omega
  have hql: ∀b off,c.ip=some ⟨b,off,none⟩→b<WM2.heap.size:=fun b off e=>by have:=hq b off e;omega
  refine Qv hS.2.2.2.2.1 (QjM (m':=127) (M:=fun q=>q=b6) (R:=Qrk WM2 b6 o1 0 (QhK o1 c) (Qet o1 c) []) rfl rfl (by kernel_rfl) (by kernel_rfl) (Qpe (QhL o1 c b6 b2 bc WM2 ⟨ra,WI.rb,WI.rc,sO,WI.ne.1,WI.ne.2.1⟩ hl hlt hne)) (.inl (by decide)) (fun q e=> .inl e) ?_);rintro vd WM3 hmv ⟨p',c',ep,ec,sp,sc,rfl,ra,sn,se,ss,hp',he',hs'⟩;have E:=Mv.ext_of E hmv (fun q e=>by omega);have rd:=rd.mv hmv (by omega);have r10:=r10.mv hmv (by omega);have r11:=r11.mv hmv (by omega);have sO:=sO.mvg hmv (fun b off e f=>by have:=hpO b off e;omega);have sq:=sq.mvg hmv (fun b off e f=>by have:=hq b off e;omega);have hsz:=Xt hsz hmv.size;have gWM3:=Ext.rf WM3;have E:=E.tr gWM3;have ra:=ra.ext gWM3;have rd:=rd.ext gWM3;have r10:=r10.ext gWM3;have r11:=r11.ext gWM3;have sO:=sO.ext gWM3;have sq:=sq.ext gWM3;refine Qv hS.2.2.2.2.2.1 (QE (m':=255) rfl rfl (by kernel_rfl) (YV (B:=b7) (cs:=(dnv ⟨0,ep,(Qet o1 c).length,ec,sp,([]:List (List Int)).length,sc⟩)) (by rw [rd.r];exact hrz) rd.z rfl (by simp [go_sem,dnv]) _ _ _ _ _ _ _ _ (by kernel_rfl) (by kernel_rfl)) ⟨.inl (by decide),(Mv.sa _ (.inr rfl) (Mv.refl _ _))⟩ ?_);obtain⟨WM4,hWM4⟩: ∃WM4,Qe WM3 b7 0 (dnv ⟨0,ep,(Qet o1 c).length,ec,sp,([]:List (List Int)).length,sc⟩)=WM4:=⟨_,rfl⟩;have gS:Mv (fun q=>q=b7) WM3 WM4:=by rw [←hWM4];exact Mv.sa _ rfl (Mv.refl _ _)
  have ra:=ra.mv gS (by omega);have rd0:=rd;have rd:RowZ WM4 b7 (dnv ⟨0,ep,(Qet o1 c).length,ec,sp,([]:List (List Int)).length,sc⟩):=by rw [←hWM4];exact rd.all _ hrz
  have E:=Mv.ext_of E gS (fun q e=>by omega);have sn:=sn.mvg gS (fun b off e f=>by rcases hp' b off e with h|h;omega;(rw [h]at e;have:=hpO b off e;omega));have se:=se.mvg gS (fun b off e f=>by have:=he' b off e;omega);have ss:=ss.mv3 gS rd0 (fun b off e f=>by have:=hs' b off e;omega) HSSL;rw [hWM4];clear hWM4;refine Q8 hS.2.2.2.2.2.2 ?_;exact HR.out _ _ p' c' ep ec sp sc (by kernel_rfl) (by kernel_rfl) (by kernel_rfl) rfl (by rw [HW.out];exact ra) (by rw [HW.out];exact rd) (by rw [HW.out];exact sn) (by rw [HW.out];exact se) (by rw [HW.out];exact ss) E
 ·have HSSL:rz.size≤3∧ ∀bs∈([]:List (List Int)),3<bs.length:=⟨Nat.le_of_eq hrz,fun bs hb=>by cases hb⟩;have HW:=Xh (show Qba x o1 c pl=_ from(if_neg (by omega)).trans ((if_neg (by omega)).trans (if_pos hxd)));refine Zg (N:=8) (R:=Qph) (E:=((Tryz.f12.body.bind (Qg 21)).getD #[])) (by kernel_rfl) QjR (by kernel_rfl) fun hS=> ?_;have hT:=hS.2.1;refine tW 1 (.agg (acv x)) hS.1 hT rfl (QjL r11 rfl hD11 _ _ _ _ _ _ _ (by kernel_rfl)) fun hT=> ?_;refine tWk 5 (.pointer (some ⟨b11,0,none⟩)) hS.1 hT rfl fun hT=> ?_;refine tW 13 (.int .u8 x.d) hS.1 hT rfl (Yl (r11.cell 0 (by show 0<5;omega)) r11.l hD11 _ _ _ _ _ _ _ (by kernel_rfl)) fun hT=> ?_;refine tW 45 (.agg (cmv c)) hS.1 hT rfl (QcM r10 hD10 _ _ _ _ _ _ _ (by kernel_rfl)) fun hT=> ?_;refine sV 47 (QkT x b6) hS.2.2.1 rfl (QjO x b6 W1 ra.l) ?_;rintro vm WM1 gWM1 ⟨b1,b2,bc,WI⟩;have E:=E.tr gWM1;have ra:=ra.ext gWM1;have rd:=rd.ext gWM1;have r10:=r10.ext gWM1;have r11:=r11.ext gWM1;have sO:=sO.ext gWM1;have sq:=sq.ext gWM1;obtain⟨Bm,fm,rfl,HM,f0,f1,f2,f3⟩:=WI.is;have hsz:=Xt hsz gWM1.size;refine Qv hS.2.2.2.1 (Zv (m':=63) (v:= .func (.func 118) #[] #[.pointer (some ⟨b2,0,none⟩),.pointer (some ⟨bc,0,none⟩)]) rfl rfl (by kernel_rfl) (QcP (n:=x.d) HM (by rw [hxd];exact f2) _ _ _ _ _ _ _ _ (by kernel_rfl) (by kernel_rfl)) ⟨.inr (Mv.refl _ _),Mv.refl _ _⟩ ?_);obtain⟨WM2,eWM2⟩: ∃N,WM1=N:=⟨_,rfl⟩;have gWM2:Ext WM1 WM2:=by rw [eWM2];exact Ext.rf _
  have WI:Qev WM2 (.map (some Bm)) x b6 b1 b2 bc:=by rw [←eWM2];exact WI
  rw [eWM2];clear HM f0 f1 f2 f3;have E:=E.tr gWM2;have ra:=ra.ext gWM2;have rd:=rd.ext gWM2;have r10:=r10.ext gWM2;have r11:=r11.ext gWM2;have sO:=sO.ext gWM2;have sq:=sq.ext gWM2;have hsz:=Xt hsz gWM2.size;have hlt: ∀b off,o1.p=some ⟨b,off,none⟩→b<WM2.heap.size:=fun b off e=>by have:=hpO b off e;omega
  have hql: ∀b off,c.ip=some ⟨b,off,none⟩→b<WM2.heap.size:=fun b off e=>by have:=hq b off e;omega
  refine Qv hS.2.2.2.2.1 (QjM (m':=127) (M:=fun q=>q=b6) (R:=Qrk WM2 b6 o1 0 (Qaj o1.xs c.pk.tu c.now) [⟨1,o1.id,c.pk.tu⟩] []) rfl rfl (by kernel_rfl) (by kernel_rfl) (Qpe (Jf o1 c b6 b2 bc WM2 ⟨ra,WI.rb,WI.rc,sO,WI.ne.1,WI.ne.2.1⟩ hl)) (.inl (by decide)) (fun q e=> .inl e) ?_);rintro vd WM3 hmv ⟨p',c',ep,ec,sp,sc,rfl,ra,sn,se,ss,hp',he',hs'⟩;have E:=Mv.ext_of E hmv (fun q e=>by omega);have rd:=rd.mv hmv (by omega);have r10:=r10.mv hmv (by omega);have r11:=r11.mv hmv (by omega);have sO:=sO.mvg hmv (fun b off e f=>by have:=hpO b off e;omega);have sq:=sq.mvg hmv (fun b off e f=>by have:=hq b off e;omega);have hsz:=Xt hsz hmv.size;have gWM3:=Ext.rf WM3;have E:=E.tr gWM3;have ra:=ra.ext gWM3;have rd:=rd.ext gWM3;have r10:=r10.ext gWM3;have r11:=r11.ext gWM3;have sO:=sO.ext gWM3;have sq:=sq.ext gWM3;refine Qv hS.2.2.2.2.2.1 (QE (m':=255) rfl rfl (by kernel_rfl) (YV (B:=b7) (cs:=(dnv ⟨0,ep,([⟨1,o1.id,c.pk.tu⟩]:List Ev).length,ec,sp,([]:List (List Int)).length,sc⟩)) (by rw [rd.r];exact hrz) rd.z rfl (by simp [go_sem,dnv]) _ _ _ _ _ _ _ _ (by kernel_rfl) (by kernel_rfl)) ⟨.inl (by decide),(Mv.sa _ (.inr rfl) (Mv.refl _ _))⟩ ?_);obtain⟨WM4,hWM4⟩: ∃WM4,Qe WM3 b7 0 (dnv ⟨0,ep,([⟨1,o1.id,c.pk.tu⟩]:List Ev).length,ec,sp,([]:List (List Int)).length,sc⟩)=WM4:=⟨_,rfl⟩;have gS:Mv (fun q=>q=b7) WM3 WM4:=by rw [←hWM4];exact Mv.sa _ rfl (Mv.refl _ _)
  have ra:=ra.mv gS (by omega);have rd0:=rd;have rd:RowZ WM4 b7 (dnv ⟨0,ep,([⟨1,o1.id,c.pk.tu⟩]:List Ev).length,ec,sp,([]:List (List Int)).length,sc⟩):=by rw [←hWM4];exact rd.all _ hrz
  have E:=Mv.ext_of E gS (fun q e=>by omega);have sn:=sn.mvg gS (fun b off e f=>by rcases hp' b off e with h|h;omega;(rw [h]at e;have:=hpO b off e;omega));have se:=se.mvg gS (fun b off e f=>by have:=he' b off e;omega);have ss:=ss.mv3 gS rd0 (fun b off e f=>by have:=hs' b off e;omega) HSSL;rw [hWM4];clear hWM4;refine Q8 hS.2.2.2.2.2.2 ?_;exact HR.out _ _ p' c' ep ec sp sc (by kernel_rfl) (by kernel_rfl) (by kernel_rfl) rfl (by rw [HW.out];exact ra) (by rw [HW.out];exact rd) (by rw [HW.out];exact sn) (by rw [HW.out];exact se) (by rw [HW.out];exact ss) E
theorem QkU:(Tryz.prog.info? 96).map (·.size)=some 6:=by kernel_rfl
theorem Qmk{w:World}{b o:Nat}(h:o+6≤(Qc w b).size):(Instr.loadAt 96 (.pointer (some ⟨b,o,none⟩))).run Tryz.prog w= .ok (.agg ((Qc w b).extract o (o+6))) w:=by
 have:=run_loadAt_mid w b o 96 ((Qc w b).extract o (o+6)).toList _ (QB w b o (o+6)) Tryz.underlying96 rfl (by rw [QkU];simp;omega)
 rwa [Array.toArray_toList]at this
@[go_sem ↓ high] theorem Qcl(ρ:Operand→Value)(dst:Option Tmp)(x:Operand)(ty:TypeId)(pos:String)(after:Array Edge)(g:Option (Nat×Bool))(w:World)
  (hx:ρ x= .pointer (some ⟨Qb (ρ x),Qd (ρ x),none⟩))(h:Fits (Qd (ρ x)) 6 (Qc w (Qb (ρ x)))):
  (execOp ρ ⟨dst,.load 96 x,ty,pos,after,g⟩).run Tryz.prog w= .ok (.value (.agg (Qz (Qc w (Qb (ρ x))) (Qd (ρ x)) 6))) w:=by
 unfold Fits at h;generalize hB:Qb (ρ x)=B at*;generalize hO:Qd (ρ x)=O at*;simp only [execOp,hx,Sem.run_bind,Qmk h,Result.andThen_ok,Sem.run_pure,Qz]
@[go_sem ↓ high] theorem QsB(l:Option Nat)(ρ:Operand→Value)(dst:Option Tmp)(x:Operand)(ty:TypeId)(pos:String)(after:Array Edge)(g:Option (Nat×Bool))(w:World)
  (hx:ρ x= .pointer (some ⟨Qb (ρ x),Qd (ρ x),none⟩))(h:Fits (Qd (ρ x)) 6 (Qc w (Qb (ρ x)))):
  (Oper.semAt l ρ ⟨dst,.load 96 x,ty,pos,after,g⟩).run Tryz.prog w= .ok (.value (.agg (Qz (Qc w (Qb (ρ x))) (Qd (ρ x)) 6))) w:=by rw [Oper.semAt_eq _ _ _ (fun c h=>by cases h)];exact Qcl ρ dst x ty pos after g w hx h
@[go_sem ↓ high] theorem QeR(ρ:Operand→Value)(dst:Option Tmp)(x y:Operand)(ty:TypeId)(pos:String)(after:Array Edge)(g:Option (Nat×Bool))(w:World)
  (hx:ρ x= .pointer (some ⟨Qb (ρ x),Qd (ρ x),none⟩))(hy:ρ y= .agg (ρ y).cells)(hs:Qn (ρ y).cells 6)(h:Fits (Qd (ρ x)) 6 (Qc w (Qb (ρ x))))(hz:Qs w (Qb (ρ x))=(0,0))(h1:QI (ρ y).cells):
  (execOp ρ ⟨dst,.store 96 x y,ty,pos,after,g⟩).run Tryz.prog w= .ok .skip (Qe w (Qb (ρ x)) (Qd (ρ x)) (ρ y).cells):=by
 unfold Fits at h;unfold Qn at hs;generalize hB:Qb (ρ x)=B at*;generalize hO:Qd (ρ x)=O at*;generalize hC:(ρ y).cells=C at*;have hst:(Instr.storeAt 96 (.pointer (some ⟨B,O,none⟩)) (.agg C)).run Tryz.prog w= .ok () (Qe w B O C):=
  run_storeAt_mid w B O 96 C (fun j hj=>⟨by rw [Qa,Array.getElem?_eq_getElem (by omega)];rfl,Ql hz _⟩) (by rw [QkU,hs]) h1
 simp only [execOp,hx,hy,Sem.run_bind,hst,Result.andThen_ok,Sem.run_pure]
@[go_sem ↓ high] theorem Qrl(l:Option Nat)(ρ:Operand→Value)(dst:Option Tmp)(x y:Operand)(ty:TypeId)(pos:String)(after:Array Edge)(g:Option (Nat×Bool))(w:World)
  (hx:ρ x= .pointer (some ⟨Qb (ρ x),Qd (ρ x),none⟩))(hy:ρ y= .agg (ρ y).cells)(hs:Qn (ρ y).cells 6)(h:Fits (Qd (ρ x)) 6 (Qc w (Qb (ρ x))))(hz:Qs w (Qb (ρ x))=(0,0))(h1:QI (ρ y).cells):
  (Oper.semAt l ρ ⟨dst,.store 96 x y,ty,pos,after,g⟩).run Tryz.prog w= .ok .skip (Qe w (Qb (ρ x)) (Qd (ρ x)) (ρ y).cells):=by rw [Oper.semAt_eq _ _ _ (fun c h=>by cases h)];exact QeR ρ dst x y ty pos after g w hx hy hs h hz h1
attribute [local go_sem ↓ high] QC Z6
def cm0(now:Int):Cm:=⟨(0,0),(0,0),⟨0,0,0,0,0,0⟩,none,0,0,⟨⟨0,0,0,0⟩,0,[]⟩,none,0,0,now⟩
@[go_sem] theorem QwC{c:Cm}:(cmv c).size=18:=rfl
@[go_sem] theorem Qt0{c:Cm}:Qn (cmv c) 18=True:=eq_true rfl
@[go_sem ↓ high] theorem Qvd{c:Cm}:(Value.agg (cmv c)).cells=cmv c:=QD _
@[go_sem] theorem QxF{c:Cm}:QI (cmv c):=by unfold cmv;simp [go_sem]
@[go_sem] theorem QsC{c:Cm}:Qz (cmv c) 0 18=cmv c:=Q5 _ _ rfl
theorem Qt1{W:World}{b:Nat}{c:Cm}(fr tn:Int×Int)(o:Opt)(p:Option Addr)(n k:Nat)(h:RowZ W b (cmv c)):RowZ (Qe W b 0 (wrV fr tn o (.slice p n k))) b (cmv {c with fr:=fr,tn:=tn,o:=o,ip:=p,iN:=n,ic:=k}):=by
 have r:=(((((((((((h.set 0 (.int .u8 fr.1)).set 1 (.int .i64 fr.2)).set 2 (.int .u8 tn.1)).set 3 (.int .i64 tn.2)).set 4 (.int .u8 o.ki)).set 5 (.int .u8 o.bu)).set 6 (.int .i64 o.cu)).set 7 (.int .i64 o.pv)).set 8 (.int .i64 o.ge)).set 9 (.int .i64 o.ti)).set 10 (.slice p n k));have hc:((((((((((((cmv c).setIfInBounds 0 (.int .u8 fr.1)).setIfInBounds 1 (.int .i64 fr.2)).setIfInBounds 2 (.int .u8 tn.1)).setIfInBounds 3 (.int .i64 tn.2)).setIfInBounds 4 (.int .u8 o.ki)).setIfInBounds 5 (.int .u8 o.bu)).setIfInBounds 6 (.int .i64 o.cu)).setIfInBounds 7 (.int .i64 o.pv)).setIfInBounds 8 (.int .i64 o.ge)).setIfInBounds 9 (.int .i64 o.ti)).setIfInBounds 10 (.slice p n k))=cmv {c with fr:=fr,tn:=tn,o:=o,ip:=p,iN:=n,ic:=k}:=by kernel_rfl
 rw [hc]at r;have hW:Qe W b 0 (wrV fr tn o (.slice p n k))=(((((((((((W.setCell ⟨b,0,none⟩ (.int .u8 fr.1)).setCell ⟨b,1,none⟩ (.int .i64 fr.2)).setCell ⟨b,2,none⟩ (.int .u8 tn.1)).setCell ⟨b,3,none⟩ (.int .i64 tn.2)).setCell ⟨b,4,none⟩ (.int .u8 o.ki)).setCell ⟨b,5,none⟩ (.int .u8 o.bu)).setCell ⟨b,6,none⟩ (.int .i64 o.cu)).setCell ⟨b,7,none⟩ (.int .i64 o.pv)).setCell ⟨b,8,none⟩ (.int .i64 o.ge)).setCell ⟨b,9,none⟩ (.int .i64 o.ti)).setCell ⟨b,10,none⟩ (.slice p n k)):=by kernel_rfl
 rw [hW];exact r
theorem Qt2{W:World}{b:Nat}{c:Cm}(t:Pk)(p:Option Addr)(n k:Nat)(h:RowZ W b (cmv c)):RowZ (Qe W b 11 (pkV t (.slice p n k))) b (cmv {c with pk:=t,bp:=p,bN:=n,bc:=k}):=by
 have r:=((((((h.set 11 (.int .u32 t.tu.a)).set 12 (.int .u32 t.tu.b)).set 13 (.int .u16 t.tu.c)).set 14 (.int .u16 t.tu.d)).set 15 (.int .u8 t.fl)).set 16 (.slice p n k));have hc:(((((((cmv c).setIfInBounds 11 (.int .u32 t.tu.a)).setIfInBounds 12 (.int .u32 t.tu.b)).setIfInBounds 13 (.int .u16 t.tu.c)).setIfInBounds 14 (.int .u16 t.tu.d)).setIfInBounds 15 (.int .u8 t.fl)).setIfInBounds 16 (.slice p n k))=cmv {c with pk:=t,bp:=p,bN:=n,bc:=k}:=by kernel_rfl
 rw [hc]at r;have hW:Qe W b 11 (pkV t (.slice p n k))=((((((W.setCell ⟨b,11,none⟩ (.int .u32 t.tu.a)).setCell ⟨b,12,none⟩ (.int .u32 t.tu.b)).setCell ⟨b,13,none⟩ (.int .u16 t.tu.c)).setCell ⟨b,14,none⟩ (.int .u16 t.tu.d)).setCell ⟨b,15,none⟩ (.int .u8 t.fl)).setCell ⟨b,16,none⟩ (.slice p n k)):=by kernel_rfl
 rw [hW];exact r
theorem Qrm{w:World}{B o:Nat}{cs:Array Value}(hs:o+11≤(Qc w B).size)(hz:Qs w B=(0,0))(hcs:cs.size=11)(ho:QI cs)(ρ:Operand→Value)(dst:Option Tmp)(x y:Operand)(ty:TypeId)(pos:String)(after:Array Edge)(g:Option (Nat×Bool))
  (hx:ρ x= .pointer (some ⟨B,o,none⟩))(hy:ρ y= .agg cs):(execOp ρ ⟨dst,.store 77 x y,ty,pos,after,g⟩).run Tryz.prog w= .ok .skip (Qe w B o cs):=by
 have e:=Qbg ρ dst x y ty pos after g w (by rw [hx];rfl) (by rw [hy];rfl) (by rw [hy];exact hcs) (by rw [hx];show Fits o 11 (Qc w B);unfold Fits;omega) (by rw [hx];exact hz) (by rw [hy];exact ho);rw [e,hx,hy];rfl
theorem Qrn{w:World}{B o:Nat}{cs:Array Value}(hs:o+6≤(Qc w B).size)(hz:Qs w B=(0,0))(hcs:cs.size=6)(ho:QI cs)(ρ:Operand→Value)(dst:Option Tmp)(x y:Operand)(ty:TypeId)(pos:String)(after:Array Edge)(g:Option (Nat×Bool))
  (hx:ρ x= .pointer (some ⟨B,o,none⟩))(hy:ρ y= .agg cs):(execOp ρ ⟨dst,.store 81 x y,ty,pos,after,g⟩).run Tryz.prog w= .ok .skip (Qe w B o cs):=by
 have e:=Ju ρ dst x y ty pos after g w (by rw [hx];rfl) (by rw [hy];rfl) (by rw [hy];exact hcs) (by rw [hx];show Fits o 6 (Qc w B);unfold Fits;omega) (by rw [hx];exact hz) (by rw [hy];exact ho);rw [e,hx,hy];rfl
theorem QcQ{w:World}{B i:Nat}{n:Int}{u:Value}(hc:w.cell? ⟨B,i,none⟩=some u)(hf:w.frozen? ⟨B,i,none⟩=false)(ρ:Operand→Value)(dst:Option Tmp)(x y:Operand)(ty:TypeId)(pos:String)(after:Array Edge)(g:Option (Nat×Bool))
  (hx:ρ x= .pointer (some ⟨B,i,none⟩))(hy:ρ y= .int .u8 n):(execOp ρ ⟨dst,.store 5 x y,ty,pos,after,g⟩).run Tryz.prog w= .ok .skip (w.setCell ⟨B,i,none⟩ (.int .u8 n)):=by
 simp only [execOp,hx,hy];go_simp
theorem Qro{C:Nat→Prop}{w:World}{B i:Nat}{a b:Value}(h0:w.cell? ⟨B,i,none⟩=some a)(h1:w.cell? ⟨B,i+1,none⟩=some b)(hl:Lt B w)(hC: ¬C B)(ρ:Operand→Value)(dst:Option Tmp)(x:Operand)(ty:TypeId)(pos:String)(after:Array Edge)(g:Option (Nat×Bool))
  (hx:ρ x= .pointer (some ⟨B,i,none⟩)): ∀w',Mv C w w'→(execOp ρ ⟨dst,.load 73 x,ty,pos,after,g⟩).run Tryz.prog w'= .ok (.value (.agg #[a,b])) w':=by
 intro w' hE;have e:=Qf (hE.same B hl hC);have h0:w'.cell? ⟨B,i,none⟩=some a:=by rw [Qa,e,←Qa];exact h0
 have h1:w'.cell? ⟨B,i+1,none⟩=some b:=by rw [Qa,e,←Qa];exact h1
 simp only [execOp,hx];go_simp
theorem Qml{tn:Int×Int}{id:Int}{nb:Bool}(hn:decide (tn=(2,id))=!nb)(ρ:Operand→Value)(dst:Option Tmp)(x y:Operand)(ty:TypeId)(pos:String)(after:Array Edge)(g:Option (Nat×Bool))(hx:ρ x= .agg #[.int .u8 tn.1,.int .i64 tn.2])(hy:ρ y= .agg #[.int .u8 2,.int .i64 id])(w:World):
  (execOp ρ ⟨dst,.binOp .neq 73 x y 73,ty,pos,after,g⟩).run Tryz.prog w= .ok (.value (.bool nb)) w:=by
 obtain⟨t1,t2⟩:=tn;simp only [execOp,hx,hy];go_simp
 by_cases h1:t1=2<;>by_cases h2:t2=id<;>cases nb<;>simp_all
theorem Qrp{C:Nat→Prop}{w:World}{B:Nat}{c:Cm}(h0:RowZ w B (cmv c))(hC: ¬C B)(ρ:Operand→Value)(dst:Option Tmp)(q:Operand)(ty:TypeId)(pos:String)(after:Array Edge)(g:Option (Nat×Bool))
  (hx:ρ q= .pointer (some ⟨B,11,none⟩)): ∀w',Mv C w w'→(execOp ρ ⟨dst,.load 81 q,ty,pos,after,g⟩).run Tryz.prog w'= .ok (.value (.agg (pkV c.pk (.slice c.bp c.bN c.bc)))) w':=by
 intro w' hE;have h1:=h0.mv hE hC;have e:=JY ρ dst q ty pos after g w' (by rw [hx];rfl) (by rw [hx];show Fits 11 6 (Qc w' B);rw [h1.r];unfold Fits;exact Nat.le_of_ble_eq_true rfl);rw [e,hx];show Result.ok (Next.value (Value.agg (Qz (Qc w' B) 11 6))) w'=_;rw [h1.r,Qmc]
theorem Qbq(ρ:Operand→Value)(dst:Option Tmp)(ty:TypeId)(pos:String)(after:Array Edge)(g:Option (Nat×Bool))(w:World):
  (execOp ρ ⟨dst,.alloc 105,ty,pos,after,g⟩).run Tryz.prog w= .ok (.value (.pointer (some ⟨w.heap.size,0,none⟩))) (w.alloc (.cells #[.int .u8 0,.int .u8 0,.int .u8 0,.int .i64 0,.int .i64 0] 105)):=by kernel_rfl
theorem RowZ.of_heap{w:World}{b:Nat}{cs:Array Value}{t:TypeId}(h:w.heap[b]?=some (.cells cs t)):RowZ w b cs:=
 ⟨by unfold Qc;rw [h],by unfold Qs;rw [h],(Array.getElem?_eq_some_iff.1 h).1⟩
theorem Qt3{C:Nat→Prop}{w:World}{B:Nat}{cs:Array Value}(h0:RowZ w B cs)(h6:cs.size=6)(hC: ¬C B)(ρ:Operand→Value)(dst:Option Tmp)(q:Operand)(ty:TypeId)(pos:String)(after:Array Edge)(g:Option (Nat×Bool))
  (hx:ρ q= .pointer (some ⟨B,0,none⟩)): ∀w',Mv C w w'→(execOp ρ ⟨dst,.load 96 q,ty,pos,after,g⟩).run Tryz.prog w'= .ok (.value (.agg cs)) w':=by
 intro w' hE;have h1:=h0.mv hE hC;have e:=Qcl ρ dst q ty pos after g w' (by rw [hx];rfl) (by rw [hx];show Fits 0 6 (Qc w' B);rw [h1.r];unfold Fits;omega);rw [e,hx];show Result.ok (Next.value (Value.agg (Qz (Qc w' B) 0 6))) w'=_;rw [h1.r,Q5 _ 6 h6]
theorem Qmm{B i:Nat}(hi:i<16)(ρ:Operand→Value)(dst:Option Tmp)(x y:Operand)(ty:TypeId)(pos:String)(after:Array Edge)(g:Option (Nat×Bool))(hx:ρ x= .pointer (some ⟨B,2,none⟩))(hy:ρ y= .int .i64 (i:Int))(w:World):
  (execOp ρ ⟨dst,.indexAddr 24 x y,ty,pos,after,g⟩).run Tryz.prog w= .ok (.value (.pointer (some ⟨B,2+i*4,none⟩))) w:=by
 simp only [execOp,hx,hy];go_simp;intro h;omega
theorem Qrq{w:World}{B i:Nat}{n:Int}{u:Value}(hc:w.cell? ⟨B,i,none⟩=some u)(hf:w.frozen? ⟨B,i,none⟩=false)(ρ:Operand→Value)(dst:Option Tmp)(x y:Operand)(ty:TypeId)(pos:String)(after:Array Edge)(g:Option (Nat×Bool))
  (hx:ρ x= .pointer (some ⟨B,i,none⟩))(hy:ρ y= .int .i64 n):(execOp ρ ⟨dst,.store 3 x y,ty,pos,after,g⟩).run Tryz.prog w= .ok .skip (w.setCell ⟨B,i,none⟩ (.int .i64 n)):=by
 simp only [execOp,hx,hy];go_simp
theorem QjS{w:World}{B i:Nat}{n:Bool}{u:Value}(hc:w.cell? ⟨B,i,none⟩=some u)(hf:w.frozen? ⟨B,i,none⟩=false)(ρ:Operand→Value)(dst:Option Tmp)(x y:Operand)(ty:TypeId)(pos:String)(after:Array Edge)(g:Option (Nat×Bool))
  (hx:ρ x= .pointer (some ⟨B,i,none⟩))(hy:ρ y= .bool n):(execOp ρ ⟨dst,.store 4 x y,ty,pos,after,g⟩).run Tryz.prog w= .ok .skip (w.setCell ⟨B,i,none⟩ (.bool n)):=by
 simp only [execOp,hx,hy];go_simp
def QwD(bs:List Int)(W:World)(v:Value)(w':World):Prop:= ∃fr tn o q pl cq dr,v= .tuple #[.agg (wrV fr tn o (.slice q pl.length cq)),.int .u8 dr]∧Ext W w'∧((Jh bs=none∧dr=13)∨(Jh bs=some (fr,tn,o,pl)∧dr=0∧pl.length≤cq∧SlB w' q pl∧ ∀b off,q=some ⟨b,off,none⟩→W.heap.size≤b∧b<w'.heap.size))
def QwE(t:Pk):Bool:=bits .and .u8 t.fl 7==2
def inX(a:Ag)(fr:Int×Int)(o:Opt)(pl:List Int):Ru.Ac:=Ru.Qsz (toR (a.md (ofT (pkI pl).tu).toNat)) o.ki (if fr.1=2 then fr.2 else-1) o.ge (QwE (pkI pl)) (okC a.xs (pkI pl).tu) (decide ((a.xs.length:Int)<32))
def inG(a:Ag)(now:Int):Bool:=agR a&&(decide (0≤now)&&decide (now≤1099511627776))
def inR(a:Ag)(bs:List Int)(now:Int):Int×List Co×List Ev×List (List Int):=
 if inG a now=false then(13,a.xs,[],[])
 else match Jh bs with
  |none=>(13,a.xs,[],[])
  |some (fr,tn,o,pl)=>if tn≠(2,a.id)then(13,a.xs,[],[])else if Yd pl≠0 then(Yd pl,a.xs,[],[])else if ofT (pkI pl).tu≠o.bu then(14,a.xs,[],[])
   else Qba (inX a fr o pl) a ⟨fr,tn,o,none,0,0,pkI pl,none,0,0,now⟩ pl
theorem Qrr{bs:List Int}{fr tn:Int×Int}{o:Opt}{pl:List Int}(hr:ByR bs)(h:Jh bs=some (fr,tn,o,pl)):ByR pl∧pl.length≤bs.length∧((0≤o.ki∧o.ki<256)∧(0≤o.bu∧o.bu<256)∧ZS o=true):=by
 unfold Jh at h
 split at h
 ·rename_i h1
  split at h
  ·split at h
   ·simp only [Option.some.injEq,Prod.mk.injEq]at h;obtain⟨-,-,rfl,rfl⟩:=h;exact⟨(JG hr).2,Qhg.2,Qhi (JG hr).1 h1.2⟩
   ·cases h
  ·cases h
 ·cases h
theorem Qt4{pl:List Int}(hr:ByR pl):TuR (pkI pl).tu∧(0≤(pkI pl).fl∧(pkI pl).fl<256):=by
 unfold pkI
 split
 ·have hp:ByR (hdI pl).pl:=by
   unfold hdI
   split
   ·exact(JG hr).2
   ·intro z hz;cases hz
  have hh:(0≤(hdI pl).sr∧(hdI pl).sr<4294967296)∧(0≤(hdI pl).ds∧(hdI pl).ds<4294967296):=by
   unfold hdI
   split
   ·have h1:=ZR hr 12;have h2:=ZR hr 14;have h3:=ZR hr 16;have h4:=ZR hr 18;unfold ipH;refine⟨⟨?_,?_⟩,?_,?_⟩<;>dsimp only<;>omega
   ·exact⟨⟨by decide,by decide⟩,by decide,by decide⟩
  generalize (hdI pl).pl=l at*;have ht: ∀s d:Int,(0≤(tcI s d l).sp∧(tcI s d l).sp<65536)∧(0≤(tcI s d l).dp∧(tcI s d l).dp<65536)∧(0≤(tcI s d l).fl∧(tcI s d l).fl<256):=fun s d=>by
   unfold tcI
   split
   ·exact⟨ZR hp 0,ZR hp 2,Qag hp 13⟩
   ·exact⟨⟨by decide,by decide⟩,⟨by decide,by decide⟩,by decide,by decide⟩
  exact⟨⟨hh.1,hh.2,(ht _ _).1,(ht _ _).2.1⟩,(ht _ _).2.2⟩
 ·exact⟨⟨⟨by decide,by decide⟩,⟨by decide,by decide⟩,⟨by decide,by decide⟩,by decide,by decide⟩,by decide,by decide⟩
def Qpj(pl:List Int)(W:World)(v:Value)(w':World):Prop:= ∃p n k,v= .tuple #[.agg (pkV (pkI pl) (.slice p n k)),.int .u8 (Yd pl)]∧Ext W w'
theorem Qrs{q:Option Addr}{pl:List Int}{cq:Nat}{W:World}(hs:SlB W q pl)(hr:ByR pl)(hl:pl.length≤1000)(hlc:pl.length≤cq)(hq: ∀b off,q=some ⟨b,off,none⟩→b<W.heap.size):Calls Tryz.prog 42 #[.slice q pl.length cq] W fun e w'=> ∃v,e= .returned v∧Qpj pl W v w':=
 (Qg1 q pl cq W hs hr hl hlc hq).mono fun e w' ⟨vb,h1,h2,p,k,h3,_⟩=>⟨_,h1,p,(pkI pl).by_.length,k,by rw [h3],h2⟩
def Qt5(w:World)(a:Ag)(r:Int×List Co×List Ev×List (List Int))(e:Ending)(w':World):Prop:=
 ∃p c ep ec sp sc,e= .returned (.tuple #[.agg (agv {a with p:=p,xs:=r.2.1,c:=c}),.agg (dnv ⟨r.1,ep,r.2.2.1.length,ec,sp,r.2.2.2.length,sc⟩)])∧SlC w' p r.2.1∧SlE w' ep r.2.2.1∧SlBB w' sp r.2.2.2∧Ext w w'
def Qpk(ops:Array Oper):Prop:=Region.noSelect ops=true∧Qo ops 12 [0,1,2,3,4,5,6,7,8] 0=true∧Region.ready .any ops (msk 12 511)= [9]∧Qo ops 12 [10] 1023=true∧Region.ready .any ops (msk 12 2047)= [11]∧Region.ready .any ops (msk 12 4095)= []
theorem QjT:Qpk ((Tryz.f12.body.bind (Qg 17)).getD #[]):=⟨by kernel_rfl,by kernel_rfl,by kernel_rfl,by kernel_rfl,by kernel_rfl,by kernel_rfl⟩
def QkV(ops:Array Oper):Prop:=Region.noSelect ops=true∧Qo ops 8 [0,1,2,3,4] 0=true∧Region.ready .any ops (msk 8 31)= [5,6]∧Region.ready .any ops (msk 8 63)= [6]∧Region.ready .any ops (msk 8 127)= [7]∧Region.ready .any ops (msk 8 255)= []
theorem QhQ:QkV ((Tryz.f12.body.bind (Qg 20)).getD #[]):=⟨by kernel_rfl,by kernel_rfl,by kernel_rfl,by kernel_rfl,by kernel_rfl,by kernel_rfl⟩
def QkW(ops:Array Oper):Prop:=Region.noSelect ops=true∧Qo ops 8 [0,1,2,3,4] 0=true∧Region.ready .any ops (msk 8 31)= [5,6]∧Region.ready .any ops (msk 8 95)= [5]∧Region.ready .any ops (msk 8 127)= [7]∧Region.ready .any ops (msk 8 255)= []
theorem QhR:QkW ((Tryz.f12.body.bind (Qg 20)).getD #[]):=⟨by kernel_rfl,by kernel_rfl,by kernel_rfl,by kernel_rfl,by kernel_rfl,by kernel_rfl⟩
def Qpl(ops:Array Oper):Prop:=QkV ops∧QkW ops
theorem QjU:Qpl ((Tryz.f12.body.bind (Qg 20)).getD #[]):=⟨QhQ,QhR⟩
def Qpm(ops:Array Oper):Prop:=Region.noSelect ops=true∧Qo ops 10 [0,1,3,4] 0=true∧Region.ready .any ops (msk 10 27)= [2]∧Qo ops 10 [6] 31=true∧Region.ready .any ops (msk 10 95)= [5]∧Region.ready .any ops (msk 10 127)= [7]∧Qo ops 10 [8] 255=true∧Region.ready .any ops (msk 10 511)= [9]∧Region.ready .any ops (msk 10 1023)= []
theorem QjV:Qpm ((Tryz.f12.body.bind (Qg 19)).getD #[]):=⟨by kernel_rfl,by kernel_rfl,by kernel_rfl,by kernel_rfl,by kernel_rfl,by kernel_rfl,by kernel_rfl,by kernel_rfl,by kernel_rfl⟩
def Qpn(ops:Array Oper):Prop:=Region.noSelect ops=true∧Qt ops 12 [0,1,2,3,4,5,6,7,8,9,10,11] 0=true∧Region.ready .any ops (msk 12 4095)= []
theorem QjW:Qpn ((Tryz.f12.body.bind (Qg 8)).getD #[]):=⟨by kernel_rfl,by kernel_rfl,by kernel_rfl⟩
def Qpo(ops:Array Oper):Prop:=Region.noSelect ops=true∧Qt ops 12 [0,1,2,3,4,5,6,7,8] 0=true∧Region.ready .any ops (msk 12 511)= [9]∧Qt ops 12 [10,11] 1023=true∧Region.ready .any ops (msk 12 4095)= []
theorem QjX:Qpo ((Tryz.f12.body.bind (Qg 8)).getD #[]):=⟨by kernel_rfl,by kernel_rfl,by kernel_rfl,by kernel_rfl,by kernel_rfl⟩
theorem Qt6(a:Ag)(bs:List Int)(pp:Option Addr)(cp:Nat)(now:Int)(w:World)(hs:SlC w a.p a.xs)(hl:a.xs.length≤1000)(hr: ∀x∈a.xs,TuR x.t)(hk: ∀k,k<16→0≤(a.md k).kind)
  (hb:SlB w pp bs)(hB:ByR bs)(hlb:bs.length≤1000)(hcp:bs.length≤cp)(hSM:Jh bs≠none∧ ∀fr tn o pl,Jh bs=some (fr,tn,o,pl)→(inX a fr o pl).d≠3):
  Calls Tryz.prog 12 #[.agg (agv a),.slice pp bs.length cp,.int .i64 now] w (Qt5 w a (inR a bs now)):=by
 have HOW:=Xh (fun W (hE:Ext w W)=>Qb7 a W (hs.ext hE) hl);have HRT:=Xh (fun W (hE:Ext w W)=>YD a W (hs.ext hE) hl hr hk);have HTK:=Xh (fun W (hE:Ext w W)=>Qhj bs pp cp W (hb.ext hE) hB hlb hcp hSM.1);have HSM:=Xh hSM.2;clear hSM;have HK:=Xh hk;have HSA:=Xh (And.intro hs hl);have HBB:=Xh (And.intro hB hlb);obtain⟨r,er⟩: ∃r,inR a bs now=r:=⟨_,rfl⟩;rw [er];have HER:=Xh er;clear er hs hr hk hb hB
 go_enter Tryz.func12,Tryz.ntmps12
 go_upto_region 2 with(fail)
 obtain⟨W0,hW⟩: ∃W0,((w.alloc (.cells (agv a) 27)).alloc (.cells (agv agz) 27)).alloc (.cells #[.int .u8 0,.slice none 0 0,.slice none 0 0] 42)=W0:=⟨_,rfl⟩;have E:Ext w W0:=by rw [←hW];exact Ext.al (Ext.al (Ext.al (Ext.rf _) _) _) _
 have ra:RowZ W0 w.heap.size (agv a):=by rw [←hW];exact⟨by simp [go_sem],by simp [go_sem],by simp [go_sem,Lt]⟩
 have ro:RowZ W0 (w.heap.size+1) (agv agz):=by rw [←hW];exact⟨by simp [go_sem],by simp [go_sem],by simp [go_sem,Lt]⟩
 have rd:RowZ W0 (w.heap.size+1+1) #[.int .u8 0,.slice none 0 0,.slice none 0 0]:=by rw [←hW];exact⟨by simp [go_sem],by simp [go_sem],by simp [go_sem,Lt]⟩
 have hsz:W0.heap.size=w.heap.size+3:=by rw [←hW];simp
 rw [hW];clear hW;obtain⟨b3,e3⟩: ∃b,w.heap.size=b:=⟨_,rfl⟩;have HE3:=Xh e3;rw [e3]at ra ro rd hsz⊢;clear e3;obtain⟨b6,e6⟩: ∃b,b3+1=b:=⟨_,rfl⟩;rw [e6]at ro rd⊢;obtain⟨b7,e7⟩: ∃b,b6+1=b:=⟨_,rfl⟩;rw [e7]at rd⊢;refine Qp 0 rfl ?_
 go_upto_region 4 with(fail)
 obtain⟨b9,e9⟩: ∃b,b3+3=b:=⟨_,rfl⟩;obtain⟨b10,e10⟩: ∃b,b9+1=b:=⟨_,rfl⟩;rw [e9,e10];rw [e9]at hsz;obtain⟨V1,h1⟩: ∃V1,W0.alloc (.cells #[.int .u8 0,.int .i64 0,.int .i64 0,.bool false,.bool false,.bool false] 96)=V1:=⟨_,rfl⟩;have r9:RowZ V1 b9 #[.int .u8 0,.int .i64 0,.int .i64 0,.bool false,.bool false,.bool false]:=by rw [←h1,←hsz];exact RowZ.new _ _ _
 have g1:Ext W0 V1:=by rw [←h1];exact Ext.al (Ext.rf _) _
 have z1:V1.heap.size=b10:=by rw [←h1];simp;omega
 rw [h1];obtain⟨V2,h2⟩: ∃V2,Qe V1 b9 0 #[.int .u8 0,.int .i64 (-1),.int .i64 0,.bool false,.bool false,.bool false]=V2:=⟨_,rfl⟩;have r9:RowZ V2 b9 #[.int .u8 0,.int .i64 (-1),.int .i64 0,.bool false,.bool false,.bool false]:=by rw [←h2];exact r9.all _ rfl
 have g2:Ext W0 V2:=by rw [←h2];exact Mv.ext_of (C:=fun q=>q=b9) g1 (Mv.sa _ rfl (Mv.refl _ _)) (fun q e=>by omega)
 have z2:V2.heap.size=b10:=by rw [←h2,Qbz];exact z1
 rw [h2];obtain⟨V3,h3⟩: ∃V3,V2.alloc (.cells (cmv (cm0 0)) 98)=V3:=⟨_,rfl⟩;have r10:RowZ V3 b10 (cmv (cm0 0)):=by rw [←h3,←z2];exact RowZ.new _ _ _
 have g3:Ext V2 V3:=by rw [←h3];exact Ext.al (Ext.rf _) _
 have r9:=r9.ext g3;have h3':=h3;unfold cm0 cmv at h3';rw [h3'];obtain⟨V4,h4⟩: ∃V4,Qe V3 b10 0 (cmv (cm0 now))=V4:=⟨_,rfl⟩;have r10:RowZ V4 b10 (cmv (cm0 now)):=by rw [←h4];exact r10.all _ rfl
 have m4:Mv (fun q=>q=b10) V3 V4:=by rw [←h4];exact Mv.sa _ rfl (Mv.refl _ _)
 have r9:=r9.mv m4 (by omega);have g4:Ext W0 V4:=Mv.ext_of (g2.tr g3) m4 (fun q e=>by omega);have h4':=h4;unfold cm0 cmv at h4';rw [h4'];have ra:=ra.ext g4;have ro:=ro.ext g4;have rd:=rd.ext g4;have E4:=E.tr g4;have hz4:b10<V4.heap.size:=r10.l;clear h1 h2 h3 h4 h3' h4' g1 g2 g3 g4 m4 z1 z2 E hsz;have hr0:=ra.r;have HH:=Xh (And.intro ra (And.intro ro (And.intro rd (And.intro r9 (And.intro r10 E4)))));clear ra ro rd r9 r10
 go_upto_region 5 with(go_at_call 25;(with_reducible refine(HOW.out _ E4).mono ?_);rintro e w1 ⟨p',c',rfl,o1⟩;have s1:=o1.own;have g1:=o1.ext;clear o1;have hrz:=(HH.out.2.1.ext g1).r;have hzz:=(HH.out.2.1.ext g1).z)
 obtain⟨o1,eo⟩: ∃o1,({a with p:=p',c:=c'}:Ag)=o1:=⟨_,rfl⟩;have HEO:=Xh eo;obtain⟨W5,h5⟩: ∃W5,Qe w1 b6 0 (agv {a with p:=p',c:=c'})=W5:=⟨_,rfl⟩;have m5:Mv (fun q=>q=b6) w1 W5:=by rw [←h5];exact Mv.sa _ rfl (Mv.refl _ _)
 obtain⟨ra,ro,rd,r9,r10,-⟩:=HH.out;have ra:=(ra.ext g1).mv m5 (by omega);have ro:RowZ W5 b6 (agv o1):=by rw [←h5,←eo];exact(ro.ext g1).all _ (by rw [Qh,Qh])
 have rd:=(rd.ext g1).mv m5 (by omega);have r9:=(r9.ext g1).mv m5 (by omega);have r10:=(r10.ext g1).mv m5 (by omega);have sO:SlC W5 p' a.xs:=by
  obtain⟨p,c,e,-,s⟩:=SlC.own (Qu s1 m5 (fun k hk e=>by omega))
  cases e;exact s
 have hpO: ∀b off,p'=some ⟨b,off,none⟩→b10<b∧b<W5.heap.size:=fun b off e=>by
  have h1:=Qi s1 b (by rw [e];rfl);have h2:=Qbv s1 b (by rw [e];rfl);have h3:=m5.size;exact⟨by omega,by omega⟩
 have E5:Ext w W5:=Mv.ext_of (E4.tr g1) m5 (fun q e=>by have:=HE3.out;omega);rw [h5,eo];clear h5 eo m5 s1 g1 hrz hzz HH hr0 E4 hz4;have d0:W5.cell? ⟨b7,0,none⟩=some (.int .u8 0):=rd.cell 0 (by show 0<3;omega);have f0:W5.frozen? ⟨b7,0,none⟩=false:=rd.frz 0
 go_upto_region 6 with(fail)
 obtain⟨W6,h6⟩: ∃W6,W5.setCell ⟨b7,0,none⟩ (.int .u8 13)=W6:=⟨_,rfl⟩;have m6:Mv (fun q=>q=b7) W5 W6:=by rw [←h6];exact Mv.st _ (.inl rfl) (Mv.refl _ _)
 have rd:RowZ W6 b7 #[.int .u8 13,.slice none 0 0,.slice none 0 0]:=by rw [←h6];exact rd.set 0 _
 have ra:=ra.mv m6 (by omega);have ro:=ro.mv m6 (by omega);have r9:=r9.mv m6 (by omega);have r10:=r10.mv m6 (by omega);have sO:=sO.mvg m6 (fun b off e=>by have:=hpO b off e;omega);have E6:Ext w W6:=Mv.ext_of E5 m6 (fun q e=>by have:=HE3.out;omega);have hpO: ∀b off,p'=some ⟨b,off,none⟩→b10<b∧b<W6.heap.size:=fun b off e=>by have h1:=hpO b off e;have h3:=m6.size;exact⟨h1.1,by omega⟩
 rw [h6];clear h6 m6 d0 f0 E5;have hra:=ra.r;have HH:=Xh (And.intro ra (And.intro ro (And.intro rd (And.intro r9 (And.intro r10 (And.intro sO hpO))))));clear ra ro rd r9 r10 sO hpO
 cases hG:inG a now
 ·have HG:inR a bs now=(13,a.xs,[],[]):=by unfold inR;rw [hG,if_pos rfl]
  have HG:=Xh HG
  cases hA:agR a
  ·rw [hA]at HRT;have HA:=Xh hA;clear hA hG
   go_wp2_with (go_at_call 22;(with_reducible refine(HRT.out _ E6).mono ?_);rintro e w3 ⟨rfl,g3⟩)
   have HF:=Xh (show RowZ w3 b6 (agv o1)∧RowZ w3 b7 (dnv ⟨13,none,0,0,none,0,0⟩)∧SlC w3 p' a.xs∧Ext w w3 from⟨HH.out.2.1.ext g3,HH.out.2.2.1.ext g3,HH.out.2.2.2.2.2.1.ext g3,E6.tr g3⟩);clear hra;go_step3;refine⟨rfl,?_⟩
   go_upto_region 23 with(fail)
   refine Jk (o:=o1) (d:=⟨13,none,0,0,none,0,0⟩) (b6:=b6) (b7:=b7) (by kernel_rfl) (by kernel_rfl) (by kernel_rfl) HF.out.1 HF.out.2.1 ?_;intro a' w' e' r6 r7 q6 q7 hd;go_wp2;refine bodyPost_ret (ZE rfl _ _ b6 b7 q6 q7 (Yu r6.r) (JN r7.r rfl)) hd ?_;rw [←HER.out,HG.out,←HEO.out];exact⟨p',c',none,0,none,0,rfl,HF.out.2.2.1.ext e',SlE.nil _ none,SlBB.nil _ none,HF.out.2.2.2.tr e'⟩
  ·rw [hA]at HRT;have hor:now<0∨(0≤now∧1099511627776<now):=by
    unfold inG at hG;rw [hA]at hG;simp only [Bool.true_and,Bool.and_eq_false_iff,decide_eq_false_iff_not]at hG;omega
   clear hA hG;rcases hor with h0|⟨h0,h1⟩
   ·have h0':decide (now<0)=true:=decide_eq_true h0;clear h0
    go_wp2_with (go_at_call 22;(with_reducible refine(HRT.out _ E6).mono ?_);rintro e w3 ⟨rfl,g3⟩)
    have HF:=Xh (show RowZ w3 b6 (agv o1)∧RowZ w3 b7 (dnv ⟨13,none,0,0,none,0,0⟩)∧SlC w3 p' a.xs∧Ext w w3 from⟨HH.out.2.1.ext g3,HH.out.2.2.1.ext g3,HH.out.2.2.2.2.2.1.ext g3,E6.tr g3⟩);clear hra;go_step3;refine⟨rfl,?_⟩
    go_upto_region 23 with(fail)
    refine Jk (o:=o1) (d:=⟨13,none,0,0,none,0,0⟩) (b6:=b6) (b7:=b7) (by kernel_rfl) (by kernel_rfl) (by kernel_rfl) HF.out.1 HF.out.2.1 ?_;intro a' w' e' r6 r7 q6 q7 hd;go_wp2;refine bodyPost_ret (ZE rfl _ _ b6 b7 q6 q7 (Yu r6.r) (JN r7.r rfl)) hd ?_;rw [←HER.out,HG.out,←HEO.out];exact⟨p',c',none,0,none,0,rfl,HF.out.2.2.1.ext e',SlE.nil _ none,SlBB.nil _ none,HF.out.2.2.2.tr e'⟩
   ·have h0':decide (now<0)=false:=decide_eq_false (by omega);have h1':decide (1099511627776<now)=true:=decide_eq_true h1;clear h0 h1
    go_wp2_with (go_at_call 22;(with_reducible refine(HRT.out _ E6).mono ?_);rintro e w3 ⟨rfl,g3⟩)
    have HF:=Xh (show RowZ w3 b6 (agv o1)∧RowZ w3 b7 (dnv ⟨13,none,0,0,none,0,0⟩)∧SlC w3 p' a.xs∧Ext w w3 from⟨HH.out.2.1.ext g3,HH.out.2.2.1.ext g3,HH.out.2.2.2.2.2.1.ext g3,E6.tr g3⟩);clear hra;go_step3;refine⟨rfl,?_⟩
    go_upto_region 23 with(fail)
    refine Jk (o:=o1) (d:=⟨13,none,0,0,none,0,0⟩) (b6:=b6) (b7:=b7) (by kernel_rfl) (by kernel_rfl) (by kernel_rfl) HF.out.1 HF.out.2.1 ?_;intro a' w' e' r6 r7 q6 q7 hd;go_wp2;refine bodyPost_ret (ZE rfl _ _ b6 b7 q6 q7 (Yu r6.r) (JN r7.r rfl)) hd ?_;rw [←HER.out,HG.out,←HEO.out];exact⟨p',c',none,0,none,0,rfl,HF.out.2.2.1.ext e',SlE.nil _ none,SlBB.nil _ none,HF.out.2.2.2.tr e'⟩
 have hA:agR a=true:=by unfold inG at hG;simp only [Bool.and_eq_true]at hG;exact hG.1
 rw [hA]at HRT;have h0':decide (now<0)=false:=by unfold inG at hG;simp only [Bool.and_eq_true,decide_eq_true_eq]at hG;exact decide_eq_false (by omega)
 have h1':decide (1099511627776<now)=false:=by unfold inG at hG;simp only [Bool.and_eq_true,decide_eq_true_eq]at hG;exact decide_eq_false (by omega)
 have HAG:=Xh (And.intro hA hG);clear hA hG
 go_upto_region 7 with(go_at_call 22;(with_reducible refine(HRT.out _ E6).mono ?_);rintro e w3 ⟨rfl,g3⟩)
 have HTK2:Calls Tryz.prog 40 #[.slice pp bs.length cp] w3 fun e w'=> ∃v,e= .returned v∧QwD bs w3 v w':=(HTK.out _ (E6.tr g3)).mono fun e w' h=>by
  rcases h with⟨h1,h2,h3⟩|⟨fr,tn,o,pl,vp,h1,h2,h3,q,cq,h4,h5,h6,h7⟩
  ·exact⟨_,h2,(0,0),(0,0),⟨0,0,0,0,0,0⟩,none,[],0,13,rfl,h3,.inl ⟨h1,rfl⟩⟩
  ·exact⟨_,h2,fr,tn,o,q,pl,cq,0,by rw [h4],h3,.inr ⟨h1,rfl,h5,h6,h7⟩⟩
 obtain⟨ra,ro,rd,r9,r10,sO,hpO⟩:=HH.out;refine wp_region_lit ?_;refine listV (v:= .slice pp bs.length cp) (w':=w3) rfl (by kernel_rfl) ?_;refine JM (f:=40) (args:=#[.slice pp bs.length cp]) rfl (by kernel_rfl) HTK2 ?_;rintro v8 w8 ⟨fr,tn,o,q,pl,cq,dr,rfl,g8,hT⟩;have g38:=g3.tr g8;have ra:=ra.ext g38;have ro:=ro.ext g38;have rd:=rd.ext g38;have r9:=r9.ext g38;have r10:=r10.ext g38;have sO:=sO.ext g38;refine listV (v:= .tuple #[.agg (wrV fr tn o (.slice q pl.length cq)),.int .u8 dr]) (w':=w8) rfl (by kernel_rfl) ?_;refine listV (v:= .agg (wrV fr tn o (.slice q pl.length cq))) (w':=w8) rfl (by kernel_rfl) ?_;refine listV (v:= .int .u8 dr) (w':=w8) rfl (by kernel_rfl) ?_;refine listV (v:= .pointer (some ⟨b10,0,none⟩)) (w':=w8) rfl (by kernel_rfl) ?_;refine Zh rfl (Qrm (B:=b10) (o:=0) (cs:=wrV fr tn o (.slice q pl.length cq)) (by rw [r10.r];show 0+11≤18;omega) r10.z rfl (by unfold wrV;simp [go_sem]) _ _ _ _ _ _ _ _ (by kernel_rfl) (by kernel_rfl)) ?_;obtain⟨W8,h8⟩: ∃W8,Qe w8 b10 0 (wrV fr tn o (.slice q pl.length cq))=W8:=⟨_,rfl⟩;have m8:Mv (fun q=>q=b10) w8 W8:=by rw [←h8];exact Mv.sa _ rfl (Mv.refl _ _)
 obtain⟨c1,ec1⟩: ∃c1,({cm0 now with fr:=fr,tn:=tn,o:=o,ip:=q,iN:=pl.length,ic:=cq}:Cm)=c1:=⟨_,rfl⟩;have r10:RowZ W8 b10 (cmv c1):=by rw [←h8,←ec1];exact Qt1 fr tn o q pl.length cq r10
 have ra:=ra.mv m8 (by omega);have ro:=ro.mv m8 (by omega);have rd:=rd.mv m8 (by omega);have r9:=r9.mv m8 (by omega);have sO:=sO.mvg m8 (fun b off e=>by have:=hpO b off e;omega);rw [h8];refine listV (v:= .pointer (some ⟨b7,0,none⟩)) (w':=W8) rfl (by kernel_rfl) ?_;refine Zh rfl (QcQ (B:=b7) (i:=0) (n:=dr) (rd.cell 0 (by show 0<3;omega)) (rd.frz 0) _ _ _ _ _ _ _ _ (by kernel_rfl) (by kernel_rfl)) ?_;refine wpList_nil ?_;obtain⟨W9,h9⟩: ∃W9,W8.setCell ⟨b7,0,none⟩ (.int .u8 dr)=W9:=⟨_,rfl⟩;have m9:Mv (fun q=>q=b7) W8 W9:=by rw [←h9];exact Mv.st _ (.inl rfl) (Mv.refl _ _)
 have rd:RowZ W9 b7 #[.int .u8 dr,.slice none 0 0,.slice none 0 0]:=by rw [←h9];exact rd.set 0 _
 have ra:=ra.mv m9 (by omega);have ro:=ro.mv m9 (by omega);have r9:=r9.mv m9 (by omega);have r10:=r10.mv m9 (by omega);have sO:=sO.mvg m9 (fun b off e=>by have:=hpO b off e;omega);rw [h9];have hw3:W6.heap.size≤w3.heap.size:=g3.size;have hz9:w8.heap.size≤W9.heap.size:=Xt m8.size m9.size;have hqO:dr=0→SlB W9 q pl∧(∀b off,q=some ⟨b,off,none⟩→b10<b)∧(∀b off,q=some ⟨b,off,none⟩→b<W9.heap.size):=fun h=>by
  rcases hT with⟨-,h1⟩|⟨-,-,-,h1,h2⟩
  ·exfalso;omega
  ·have hlo:b10<w3.heap.size:=by have:=HH.out.2.2.2.2.1.l;unfold Lt at this;omega
   have hlt: ∀b off,q=some ⟨b,off,none⟩→b10<b:=fun b off e=>by have:=h2 b off e;omega
   exact⟨(h1.mvg m8 (fun b off e f=>by have:=hlt b off e;omega)).mvg m9 (fun b off e f=>by have:=hlt b off e;omega),hlt,fun b off e=>by have:=(h2 b off e).2;omega⟩
 have E9:Ext w W9:=Mv.ext_of (Mv.ext_of (E6.tr g38) m8 (fun q e=>by have:=HE3.out;omega)) m9 (fun q e=>by have:=HE3.out;omega);have hpO: ∀b off,p'=some ⟨b,off,none⟩→b10<b∧b<W9.heap.size:=fun b off e=>by have h1:=hpO b off e;have:=g8.size;exact⟨h1.1,by omega⟩
 have HEC:=Xh ec1;clear h8 h9 m8 m9 g8 g38 ec1 HH E6 hw3 hz9 HRT HTK hra h0' h1';rcases hT with⟨hN,rfl⟩|⟨hN,rfl,hcq,-,-⟩
 ·have HG:inR a bs now=(13,a.xs,[],[]):=by unfold inR;rw [HAG.out.2,if_neg (by decide),hN]
  have HG:=Xh HG
  go_upto_region 8 with(fail)
  refine QQ (fun _=>False) (by kernel_rfl) ?_;obtain⟨WA,hW⟩: ∃Wdr,World.drew W9=Wdr:=⟨_,rfl⟩;have gD:Ext W9 WA:=by rw [←hW];exact Ext.dr (Ext.rf _)
  rw [hW];clear hW;have E9:=E9.tr gD;have ra:=ra.ext gD;have ro:=ro.ext gD;have rd:=rd.ext gD;have r9:=r9.ext gD;have r10:=r10.ext gD;have sO:=sO.ext gD;refine Qaf (N:=12) (R:=Qpn) (E:=((Tryz.f12.body.bind (Qg 8)).getD #[])) (by kernel_rfl) QjW (by kernel_rfl) fun hS=> ?_;have hT:=hS.2.1;refine tMk 1 (.pointer (some ⟨b7,0,none⟩)) hS.1 hT rfl fun hT=> ?_;refine tM 3 (.int .u8 13) hS.1 hT rfl (Yl (C:=fun _=>False) (rd.cell 0 (by show 0<3;omega)) rd.l (fun h=>h) _ _ _ _ _ _ _ (by kernel_rfl)) fun hT=> ?_;refine tMk 7 (.bool true) hS.1 hT rfl fun hT=> ?_;refine tMk 15 (.bool true) hS.1 hT rfl fun hT=> ?_;refine tMU 31 hS.1 hT rfl fun hT=> ?_;refine tMU 63 hS.1 hT rfl fun hT=> ?_;refine tMU 127 hS.1 hT rfl fun hT=> ?_;refine tMU 255 hS.1 hT rfl fun hT=> ?_;refine tMU 511 hS.1 hT rfl fun hT=> ?_;refine tMU 1023 hS.1 hT rfl fun hT=> ?_;refine tMU 2047 hS.1 hT rfl fun hT=> ?_;refine tMk 4095 (.bool true) hS.1 hT rfl fun hT=> ?_;refine doneK hS.2.2 ?_;clear hS hT;go_simp;have d0:=rd.cell 0 (by show 0<3;omega);have f0:=rd.frz 0
  go_upto_region 9 with(fail)
  have rd8:=rd;refine wp_region_lit ?_;refine listV (v:= .pointer (some ⟨b7,0,none⟩)) (w':=WA) rfl (by kernel_rfl) ?_;refine Zh rfl (QcQ (B:=b7) (i:=0) (n:=13) (rd.cell 0 (by show 0<3;omega)) (rd.frz 0) _ _ _ _ _ _ _ _ (by kernel_rfl) (by kernel_rfl)) ?_;refine wpList_nil ?_;obtain⟨W10,h10⟩: ∃W10,WA.setCell ⟨b7,0,none⟩ (.int .u8 13)=W10:=⟨_,rfl⟩;have m10:Mv (fun q=>q=b7) WA W10:=by rw [←h10];exact Mv.st _ (.inl rfl) (Mv.refl _ _)
  have HF:=Xh (show RowZ W10 b6 (agv o1)∧RowZ W10 b7 (dnv ⟨13,none,0,0,none,0,0⟩)∧SlC W10 p' a.xs∧Ext w W10 from⟨ro.mv m10 (by omega),by rw [←h10];exact rd.set 0 _,sO.mvg m10 (fun b off e=>by have:=hpO b off e;omega),Mv.ext_of E9 m10 (fun q e=>by have:=HE3.out;omega)⟩);rw [h10];clear h10 m10;clear rd8 ra ro rd r9 r10 sO E9 hpO d0 f0;go_simp;go_wp2;go_step3;refine⟨rfl,?_⟩
  go_upto_region 23 with(fail)
  refine Jk (o:=o1) (d:=⟨13,none,0,0,none,0,0⟩) (b6:=b6) (b7:=b7) (by kernel_rfl) (by kernel_rfl) (by kernel_rfl) HF.out.1 HF.out.2.1 ?_;intro a' w' e' r6 r7 q6 q7 hd;go_wp2;refine bodyPost_ret (ZE rfl _ _ b6 b7 q6 q7 (Yu r6.r) (JN r7.r rfl)) hd ?_;rw [←HER.out,HG.out,←HEO.out];exact⟨p',c',none,0,none,0,rfl,HF.out.2.2.1.ext e',SlE.nil _ none,SlBB.nil _ none,HF.out.2.2.2.tr e'⟩
 obtain⟨nb,hnb⟩: ∃nb:Bool,decide (tn=(2,a.id))=!nb:=⟨!decide (tn=(2,a.id)),by simp⟩;obtain⟨sq,hq1,hq2⟩:=hqO rfl;obtain⟨lo9,hlo9⟩: ∃n,W9.heap.size=n:=⟨_,rfl⟩;rw [hlo9]at hq2 hpO;have z9:lo9≤W9.heap.size:=by omega
 clear hlo9 hqO
 go_upto_region 8 with(fail)
 refine QQ (fun _=>False) (by kernel_rfl) ?_;obtain⟨WA,hW⟩: ∃Wdr,World.drew W9=Wdr:=⟨_,rfl⟩;have gD:Ext W9 WA:=by rw [←hW];exact Ext.dr (Ext.rf _)
 rw [hW];clear hW;have E9:=E9.tr gD;have ra:=ra.ext gD;have ro:=ro.ext gD;have rd:=rd.ext gD;have r9:=r9.ext gD;have r10:=r10.ext gD;have sO:=sO.ext gD;have sq:=sq.ext gD;have z9:=Xt z9 gD.size;have r10c2:WA.cell? ⟨b10,2,none⟩=some (.int .u8 tn.1):=by have:=r10.cell 2 (by show 2<18;omega);rw [this,←HEC.out];rfl
 have r10c3:WA.cell? ⟨b10,2+1,none⟩=some (.int .i64 tn.2):=by have:=r10.cell 3 (by show 3<18;omega);rw [this,←HEC.out];rfl
 refine Qaf (N:=12) (R:=Qpo) (E:=((Tryz.f12.body.bind (Qg 8)).getD #[])) (by kernel_rfl) QjX (by kernel_rfl) fun hS=> ?_;have hT:=hS.2.1;refine tMk 1 (.pointer (some ⟨b7,0,none⟩)) hS.1 hT rfl fun hT=> ?_;refine tM 3 (.int .u8 0) hS.1 hT rfl (Yl (C:=fun _=>False) (rd.cell 0 (by show 0<3;omega)) rd.l (fun h=>h) _ _ _ _ _ _ _ (by kernel_rfl)) fun hT=> ?_;refine tMk 7 (.bool false) hS.1 hT rfl fun hT=> ?_;refine tMk 15 (.bool false) hS.1 hT rfl fun hT=> ?_;refine tMk 31 (.pointer (some ⟨b10,0,none⟩)) hS.1 hT rfl fun hT=> ?_;refine tMk 63 (.pointer (some ⟨b10,2,none⟩)) hS.1 hT rfl fun hT=> ?_;refine tM 127 (.agg #[.int .u8 tn.1,.int .i64 tn.2]) hS.1 hT rfl (Qro (C:=fun _=>False) r10c2 r10c3 r10.l (fun h=>h) _ _ _ _ _ _ _ (by kernel_rfl)) fun hT=> ?_;refine tMk 255 (.pointer (some ⟨b3,0,none⟩)) hS.1 hT rfl fun hT=> ?_;refine tM 511 (.int .i64 a.id) hS.1 hT rfl (QX (C:=fun _=>False) (Ye ra.r) ra.l (fun h=>h) _ _ _ _ _ _ _ (by kernel_rfl)) fun hT=> ?_;refine sM 1023 (fun v _=>v= .agg #[.int .u8 2,.int .i64 a.id]) hS.2.2.1 rfl (Zt (QcB a.id WA)) ?_;rintro _ WB1 gWB1 rfl;have E9:=E9.tr gWB1;have ra:=ra.ext gWB1;have ro:=ro.ext gWB1;have rd:=rd.ext gWB1;have r9:=r9.ext gWB1;have r10:=r10.ext gWB1;have sO:=sO.ext gWB1;have sq:=sq.ext gWB1;have hT:=hS.2.2.2.1;refine tM 2047 (.bool nb) hS.1 hT rfl (fun w' _=>Qml hnb _ _ _ _ _ _ _ _ (by kernel_rfl) (by kernel_rfl) w') fun hT=> ?_;refine tMk 4095 (.bool nb) hS.1 hT rfl fun hT=> ?_;refine doneK hS.2.2.2.2 ?_;clear hS hT r10c2 r10c3;have z9:=Xt z9 gWB1.size
 cases nb
 ·have htn:tn=(2,a.id):=by simpa using hnb
  have HTN:=Xh htn;clear htn hnb;go_simp;have HEN:=Xh (Qrr HBB.out.1 hN);have HN:=Xh hN
  go_upto_region 10 with(fail)
  have HPK:Calls Tryz.prog 42 #[.slice q pl.length cq] WB1 fun e w'=> ∃v,e= .returned v∧Qpj pl WB1 v w':=by
   refine Qrs sq HEN.out.1 (by have:=HEN.out.2.1;have:=HBB.out.2;omega) hcq ?_;exact fun b off e=>by have:=hq2 b off e;omega
  have c10:WB1.cell? ⟨b10,10,none⟩=some (.slice q pl.length cq):=by have:=r10.cell 10 (by show 10<18;omega);rw [this,←HEC.out];rfl
  refine wp_region_lit ?_;refine listV (v:= .pointer (some ⟨b10,0,none⟩)) (w':=WB1) rfl (by kernel_rfl) ?_;refine listV (v:= .pointer (some ⟨b10,10,none⟩)) (w':=WB1) rfl (by kernel_rfl) ?_;refine listV rfl (JZ (C:=fun _=>False) c10 r10.l (fun h=>h) _ _ _ _ _ _ _ (by kernel_rfl) _ (Mv.refl _ _)) ?_;refine JM (f:=42) (args:=#[.slice q pl.length cq]) rfl (by kernel_rfl) HPK ?_;rintro v11 w11 ⟨pb,nb,kb,rfl,g11⟩;have E9:=E9.tr g11;have ra:=ra.ext g11;have ro:=ro.ext g11;have rd:=rd.ext g11;have r9:=r9.ext g11;have r10:=r10.ext g11;have sO:=sO.ext g11;have sq:=sq.ext g11;have z9:=Xt z9 g11.size;obtain⟨k,hk⟩: ∃k,pkI pl=k:=⟨_,rfl⟩;obtain⟨dr,hdr⟩: ∃dr,Yd pl=dr:=⟨_,rfl⟩;have HKD:=Xh (And.intro hk hdr);rw [hk,hdr];clear hk hdr;refine listV (v:= .tuple #[.agg (pkV k (.slice pb nb kb)),.int .u8 dr]) (w':=w11) rfl (by kernel_rfl) ?_;refine listV (v:= .agg (pkV k (.slice pb nb kb))) (w':=w11) rfl (by kernel_rfl) ?_;refine listV (v:= .int .u8 dr) (w':=w11) rfl (by kernel_rfl) ?_;refine listV (v:= .pointer (some ⟨b10,11,none⟩)) (w':=w11) rfl (by kernel_rfl) ?_;refine Zh rfl (Qrn (B:=b10) (o:=11) (cs:=pkV k (.slice pb nb kb)) (by rw [r10.r];show 11+6≤18;omega) r10.z rfl (by unfold pkV;simp [go_sem]) _ _ _ _ _ _ _ _ (by kernel_rfl) (by kernel_rfl)) ?_;obtain⟨W11,h11⟩: ∃W11,Qe w11 b10 11 (pkV k (.slice pb nb kb))=W11:=⟨_,rfl⟩;have m11:Mv (fun q=>q=b10) w11 W11:=by rw [←h11];exact Mv.sa _ rfl (Mv.refl _ _)
  obtain⟨c2,ec2⟩: ∃c2,({c1 with pk:=k,bp:=pb,bN:=nb,bc:=kb}:Cm)=c2:=⟨_,rfl⟩;have r10:RowZ W11 b10 (cmv c2):=by rw [←h11,←ec2];exact Qt2 k pb nb kb r10
  have ra:=ra.mv m11 (by omega);have ro:=ro.mv m11 (by omega);have rd:=rd.mv m11 (by omega);have r9:=r9.mv m11 (by omega);have sO:=sO.mvg m11 (fun b off e=>by have:=hpO b off e;omega);have sq:=sq.mvg m11 (fun b off e=>by have:=hq1 b off e;omega);rw [h11];refine listV (v:= .pointer (some ⟨b7,0,none⟩)) (w':=W11) rfl (by kernel_rfl) ?_;refine Zh rfl (QcQ (B:=b7) (i:=0) (n:=dr) (rd.cell 0 (by show 0<3;omega)) (rd.frz 0) _ _ _ _ _ _ _ _ (by kernel_rfl) (by kernel_rfl)) ?_;refine wpList_nil ?_;obtain⟨W12,h12⟩: ∃W12,W11.setCell ⟨b7,0,none⟩ (.int .u8 dr)=W12:=⟨_,rfl⟩;have m12:Mv (fun q=>q=b7) W11 W12:=by rw [←h12];exact Mv.st _ (.inl rfl) (Mv.refl _ _)
  have rd:RowZ W12 b7 #[.int .u8 dr,.slice none 0 0,.slice none 0 0]:=by rw [←h12];exact rd.set 0 _
  have ra:=ra.mv m12 (by omega);have ro:=ro.mv m12 (by omega);have r9:=r9.mv m12 (by omega);have r10:=r10.mv m12 (by omega);have sO:=sO.mvg m12 (fun b off e=>by have:=hpO b off e;omega);have sq:=sq.mvg m12 (fun b off e=>by have:=hq1 b off e;omega);have z9:=Xt (Xt z9 m11.size) m12.size;have E9:=Mv.ext_of (Mv.ext_of E9 m11 (fun q e=>by have:=HE3.out;omega)) m12 (fun q e=>by have:=HE3.out;omega);have HEC2:=Xh ec2;rw [h12];clear h11 h12 m11 m12 g11 ec2 c10 HPK;have d0:W12.cell? ⟨b7,0,none⟩=some (.int .u8 dr):=rd.cell 0 (by show 0<3;omega)
  cases hdz:decide (dr=0)
  ·have hdz':(dr==0)=false:=by simpa using hdz
   have HG:inR a bs now=(dr,a.xs,[],[]):=by
    have hne:dr≠0:=by simpa using hdz
    unfold inR;rw [HAG.out.2,if_neg (by decide),HN.out];show(if tn≠(2,a.id)then _ else if Yd pl≠0 then _ else _)=_;rw [if_neg (by rw [HTN.out];exact fun h=>h rfl),HKD.out.2,if_pos hne]
   have HG:=Xh HG;have HF:=Xh (show RowZ W12 b6 (agv o1)∧RowZ W12 b7 (dnv ⟨dr,none,0,0,none,0,0⟩)∧SlC W12 p' a.xs∧Ext w W12 from⟨ro,rd,sO,E9⟩);clear ra ro rd r9 r10 sO sq E9 hpO hdz;go_simp;go_wp2;go_step3;refine⟨rfl,?_⟩
   go_upto_region 23 with(fail)
   refine Jk (o:=o1) (d:=⟨dr,none,0,0,none,0,0⟩) (b6:=b6) (b7:=b7) (by kernel_rfl) (by kernel_rfl) (by kernel_rfl) HF.out.1 HF.out.2.1 ?_;intro a' w' e' r6 r7 q6 q7 hd;go_wp2;refine bodyPost_ret (ZE rfl _ _ b6 b7 q6 q7 (Yu r6.r) (JN r7.r rfl)) hd ?_;rw [←HER.out,HG.out,←HEO.out];exact⟨p',c',none,0,none,0,rfl,HF.out.2.2.1.ext e',SlE.nil _ none,SlBB.nil _ none,HF.out.2.2.2.tr e'⟩
  ·have hdz':dr=0:=by simpa using hdz
   subst hdz';clear hdz;go_simp;obtain⟨hTU,hFL⟩:=Qt4 HEN.out.1;rw [HKD.out.1]at hTU hFL;have HTUR:=Xh (And.intro hTU hFL);have ek2:c2.pk=k:=by rw [←HEC2.out]
   have eo2:c2.o=o:=by rw [←HEC2.out,←HEC.out]
   have ef2:c2.fr=fr:=by rw [←HEC2.out,←HEC.out]
   have en2:c2.now=now:=by rw [←HEC2.out,←HEC.out];rfl
   have HCE:=Xh (And.intro ek2 (And.intro eo2 (And.intro ef2 en2)));have t0:W12.cell? ⟨b10,11,none⟩=some (.int .u32 k.tu.a):=by rw [←ek2];exact r10.cell 11 (by show 11<18;omega)
   have t1:W12.cell? ⟨b10,12,none⟩=some (.int .u32 k.tu.b):=by rw [←ek2];exact r10.cell 12 (by show 12<18;omega)
   have t2:W12.cell? ⟨b10,13,none⟩=some (.int .u16 k.tu.c):=by rw [←ek2];exact r10.cell 13 (by show 13<18;omega)
   have t3:W12.cell? ⟨b10,14,none⟩=some (.int .u16 k.tu.d):=by rw [←ek2];exact r10.cell 14 (by show 14<18;omega)
   clear hTU hFL ek2 eo2 ef2 en2;have HR12:=Xh (And.intro ra (And.intro ro (And.intro rd (And.intro r9 (And.intro r10 (And.intro sO (And.intro sq E9)))))));clear ra ro rd r9 r10 sO sq E9;have HHO:=Xh (fun W=>QfD k.tu HTUR.out.1 W);have hbd:=QdF k.tu
   go_upto_region 13 with(go_at_call 43;(with_reducible refine(HHO.out _).mono ?_);rintro e w13 ⟨rfl,g13⟩)
   obtain⟨ra,ro,rd,r9,r10,sO,sq,E9⟩:=HR12.out;have ra:=ra.ext g13;have ro:=ro.ext g13;have rd:=rd.ext g13;have r9:=r9.ext g13;have r10:=r10.ext g13;have sO:=sO.ext g13;have sq:=sq.ext g13;have E9:=E9.tr g13;have z9:=Xt z9 g13.size;refine wp_region_lit ?_;refine listV (v:= .pointer (some ⟨b7,0,none⟩)) (w':=w13) rfl (by kernel_rfl) ?_;refine Zh rfl (QcQ (B:=b7) (i:=0) (n:=14) (rd.cell 0 (by show 0<3;omega)) (rd.frz 0) _ _ _ _ _ _ _ _ (by kernel_rfl) (by kernel_rfl)) ?_;refine wpList_nil ?_;obtain⟨W14,h14⟩: ∃W14,w13.setCell ⟨b7,0,none⟩ (.int .u8 14)=W14:=⟨_,rfl⟩;have m14:Mv (fun q=>q=b7) w13 W14:=by rw [←h14];exact Mv.st _ (.inl rfl) (Mv.refl _ _)
   have rd:RowZ W14 b7 #[.int .u8 14,.slice none 0 0,.slice none 0 0]:=by rw [←h14];exact rd.set 0 _
   have ra:=ra.mv m14 (by omega);have ro:=ro.mv m14 (by omega);have r9:=r9.mv m14 (by omega);have r10:=r10.mv m14 (by omega);have sO:=sO.mvg m14 (fun b off e=>by have:=hpO b off e;omega);have sq:=sq.mvg m14 (fun b off e=>by have:=hq1 b off e;omega);have z9:=Xt z9 m14.size;have E9:=Mv.ext_of E9 m14 (fun q e=>by have:=HE3.out;omega);rw [h14];clear h14 m14 g13 t0 t1 t2 t3 d0 HR12 HHO;have cb:W14.cell? ⟨b10,5,none⟩=some (.int .u8 o.bu):=by have:=r10.cell 5 (by show 5<18;omega);rw [this];show some (Value.int .u8 c2.o.bu)=_;rw [HCE.out.2.1]
   have hbu:0≤o.bu∧o.bu<256:=HEN.out.2.2.2.1;go_simp
   cases hbk:decide (ofT k.tu=o.bu)
   ·have hbk':(ofT k.tu==o.bu)=false:=by simpa using hbk
    have HG:inR a bs now=(14,a.xs,[],[]):=by
     have hne:ofT k.tu≠o.bu:=by simpa using hbk
     unfold inR;rw [HAG.out.2,if_neg (by decide),HN.out];show(if tn≠(2,a.id)then _ else if Yd pl≠0 then _ else if ofT (pkI pl).tu≠o.bu then _ else _)=_;rw [if_neg (by rw [HTN.out];exact fun h=>h rfl),HKD.out.2,if_neg (fun h=>h rfl),HKD.out.1,if_pos hne]
    have HG:=Xh HG;have HF:=Xh (show RowZ W14 b6 (agv o1)∧RowZ W14 b7 (dnv ⟨14,none,0,0,none,0,0⟩)∧SlC W14 p' a.xs∧Ext w W14 from⟨ro,rd,sO,E9⟩);clear ra ro rd r9 r10 sO sq E9 hpO hbk;go_wp2;go_step3;refine⟨rfl,?_⟩
    go_upto_region 23 with(fail)
    refine Jk (o:=o1) (d:=⟨14,none,0,0,none,0,0⟩) (b6:=b6) (b7:=b7) (by kernel_rfl) (by kernel_rfl) (by kernel_rfl) HF.out.1 HF.out.2.1 ?_;intro a' w' e' r6 r7 q6 q7 hd;go_wp2;refine bodyPost_ret (ZE rfl _ _ b6 b7 q6 q7 (Yu r6.r) (JN r7.r rfl)) hd ?_;rw [←HER.out,HG.out,←HEO.out];exact⟨p',c',none,0,none,0,rfl,HF.out.2.2.1.ext e',SlE.nil _ none,SlBB.nil _ none,HF.out.2.2.2.tr e'⟩
   ·have hbk':ofT k.tu=o.bu:=by simpa using hbk
    clear hbk;have cf0:W14.cell? ⟨b10,0,none⟩=some (.int .u8 fr.1):=by have:=r10.cell 0 (by show 0<18;omega);rw [this];show some (Value.int .u8 c2.fr.1)=_;rw [HCE.out.2.2.1]
    have cf1:W14.cell? ⟨b10,1,none⟩=some (.int .i64 fr.2):=by have:=r10.cell 1 (by show 1<18;omega);rw [this];show some (Value.int .i64 c2.fr.2)=_;rw [HCE.out.2.2.1]
    have c91:W14.cell? ⟨b9,1,none⟩=some (.int .i64 (-1)):=r9.cell 1 (by show 1<6;omega);have f91:W14.frozen? ⟨b9,1,none⟩=false:=r9.frz 1;obtain⟨fv,hfv⟩: ∃fv:Int,(if fr.1=2 then fr.2 else-1)=fv:=⟨_,rfl⟩;have HFV:=Xh hfv;have HR14:=Xh (And.intro ra (And.intro ro (And.intro rd (And.intro r9 (And.intro r10 (And.intro sO (And.intro sq E9)))))));clear ra ro rd r9 r10 sO sq E9 hfv;have h910:b10≠b9:=by omega
    go_upto_if 77 with(fail)
    have HBK:=Xh hbk';clear cb hbk'
    go_cut [78]from 78 to 83 (fun v wx=>RowZ wx b9 #[.int .u8 0,.int .i64 fv,.int .i64 0,.bool false,.bool false,.bool false]∧Mv (fun q=>q=b9) W14 wx)
    case first=>
     cases hf2:decide (fr.1=2)
     ·have hf2':(fr.1==2)=false:=by simpa using hf2
      have HV:=Xh (show fv= -1 by rw [←HFV.out,if_neg (by simpa using hf2)]);clear hf2
      go_wp2_with (fail)
      go_meet
      exact⟨by rw [HV.out];exact HR14.out.2.2.2.1,Mv.refl _ _⟩
     ·have hf2':fr.1=2:=by simpa using hf2
      have HV:=Xh (show fv=fr.2 by rw [←HFV.out,if_pos hf2']);have hf2b:(fr.1==2)=true:=by rw [hf2'];rfl
      clear hf2 hf2'
      go_wp2_with (fail)
      go_meet
      exact⟨by rw [HV.out];exact HR14.out.2.2.2.1.set 1 _,Mv.st _ (.inl rfl) (Mv.refl _ _)⟩
    case rest=>
     obtain⟨r9,m16⟩:=hcut;obtain⟨W16,hW16⟩: ∃W,wc=W:=⟨_,rfl⟩;rw [hW16]at r9 m16⊢;clear hW16 cf0 cf1 c91 f91;obtain⟨ra,ro,rd,-,r10,sO,sq,E9⟩:=HR14.out;have ra:=ra.mv m16 (by omega);have ro:=ro.mv m16 (by omega);have rd:=rd.mv m16 (by omega);have r10:=r10.mv m16 (by omega);have sO:=sO.mvg m16 (fun b off e=>by have:=hpO b off e;omega);have sq:=sq.mvg m16 (fun b off e=>by have:=hq1 b off e;omega);have z9:=Xt z9 m16.size;have E9:=Mv.ext_of E9 m16 (fun q e=>by have:=HE3.out;omega);clear HR14 m16;have h109: ¬b10=b9:=by omega
     go_upto_region 17 with(fail)
     refine Qy (fun _=>False) (fun q=>q=b9) 9 (by kernel_rfl) ?_;obtain⟨WG,hW⟩: ∃Wdr,World.drew W16=Wdr:=⟨_,rfl⟩;have gD:Ext W16 WG:=by rw [←hW];exact Ext.dr (Ext.rf _)
     rw [hW];clear hW;have E9:=E9.tr gD;have ra:=ra.ext gD;have ro:=ro.ext gD;have rd:=rd.ext gD;have r9:=r9.ext gD;have r10:=r10.ext gD;have sO:=sO.ext gD;have sq:=sq.ext gD;have z9:=Xt z9 gD.size;refine Zg (N:=12) (R:=Qpk) (E:=((Tryz.f12.body.bind (Qg 17)).getD #[])) (by kernel_rfl) QjT (by kernel_rfl) fun hS=> ?_;have hT:=hS.2.1;refine tWk 1 (.pointer (some ⟨b10,0,none⟩)) hS.1 hT rfl fun hT=> ?_;refine tWk 3 (.pointer (some ⟨b10,4,none⟩)) hS.1 hT rfl fun hT=> ?_;refine tWk 7 (.pointer (some ⟨b10,4,none⟩)) hS.1 hT rfl fun hT=> ?_;refine tW 15 (.int .u8 c2.o.ki) hS.1 hT rfl (Yl (C:=fun q=>q=b9) (QW r10 4 (by show 4<18;omega)) r10.l h109 _ _ _ _ _ _ _ (by kernel_rfl)) fun hT=> ?_;refine tWk 31 (.pointer (some ⟨b10,0,none⟩)) hS.1 hT rfl fun hT=> ?_;refine tWk 63 (.pointer (some ⟨b10,4,none⟩)) hS.1 hT rfl fun hT=> ?_;refine tWk 127 (.pointer (some ⟨b10,8,none⟩)) hS.1 hT rfl fun hT=> ?_;refine tW 255 (.int .i64 c2.o.ge) hS.1 hT rfl (QX (QW r10 8 (by show 8<18;omega)) r10.l h109 _ _ _ _ _ _ _ (by kernel_rfl)) fun hT=> ?_;refine tWk 511 (.pointer (some ⟨b9,0,none⟩)) hS.1 hT rfl fun hT=> ?_;refine Qv hS.2.2.1 (QE (m':=1023) rfl rfl (by kernel_rfl) (QcQ (B:=b9) (i:=0) (n:=c2.o.ki) (r9.cell 0 (by show 0<6;omega)) (r9.frz 0) _ _ _ _ _ _ _ _ (by kernel_rfl) (by kernel_rfl)) ⟨.inl (by decide),(Mv.st _ (.inl rfl) (Mv.refl _ _))⟩ ?_);obtain⟨WH1,hWH1⟩: ∃WH1,World.setCell WG ⟨b9,0,none⟩ (.int .u8 c2.o.ki)=WH1:=⟨_,rfl⟩;have gS:Mv (fun q=>q=b9) WG WH1:=by rw [←hWH1];exact Mv.st _ (.inl rfl) (Mv.refl _ _)
     have r9:RowZ WH1 b9 #[.int .u8 c2.o.ki,.int .i64 fv,.int .i64 0,.bool false,.bool false,.bool false]:=by rw [←hWH1];exact r9.set 0 _
     have E9:=Mv.ext_of E9 gS (fun q e=>by have:=HE3.out;omega);have ra:=ra.mv gS (by omega);have ro:=ro.mv gS (by omega);have rd:=rd.mv gS (by omega);have r10:=r10.mv gS (by omega);have sO:=sO.mvg gS (fun b off e=>by have:=hpO b off e;omega);have sq:=sq.mvg gS (fun b off e=>by have:=hq1 b off e;omega);have z9:=Xt z9 gS.size;rw [hWH1];clear hWH1;have hT:=hS.2.2.2.1;refine tWk 2047 (.pointer (some ⟨b9,2,none⟩)) hS.1 hT rfl fun hT=> ?_;refine Qv hS.2.2.2.2.1 (QE (m':=4095) rfl rfl (by kernel_rfl) (Qrq (B:=b9) (i:=2) (n:=c2.o.ge) (r9.cell 2 (by show 2<6;omega)) (r9.frz 2) _ _ _ _ _ _ _ _ (by kernel_rfl) (by kernel_rfl)) ⟨.inl (by decide),(Mv.st _ (.inl rfl) (Mv.refl _ _))⟩ ?_);obtain⟨WH2,hWH2⟩: ∃WH2,World.setCell WH1 ⟨b9,2,none⟩ (.int .i64 c2.o.ge)=WH2:=⟨_,rfl⟩;have gS:Mv (fun q=>q=b9) WH1 WH2:=by rw [←hWH2];exact Mv.st _ (.inl rfl) (Mv.refl _ _)
     have r9:RowZ WH2 b9 #[.int .u8 c2.o.ki,.int .i64 fv,.int .i64 c2.o.ge,.bool false,.bool false,.bool false]:=by rw [←hWH2];exact r9.set 2 _
     have E9:=Mv.ext_of E9 gS (fun q e=>by have:=HE3.out;omega);have ra:=ra.mv gS (by omega);have ro:=ro.mv gS (by omega);have rd:=rd.mv gS (by omega);have r10:=r10.mv gS (by omega);have sO:=sO.mvg gS (fun b off e=>by have:=hpO b off e;omega);have sq:=sq.mvg gS (fun b off e=>by have:=hq1 b off e;omega);have z9:=Xt z9 gS.size;rw [hWH2];clear hWH2;refine Q8 hS.2.2.2.2.2 ?_;clear hS hT
     go_upto_region 18 with(fail)
     have HFI:Calls Tryz.prog 44 #[.slice a.p a.xs.length a.c,.agg #[.int .u32 c2.pk.tu.a,.int .u32 c2.pk.tu.b,.int .u16 c2.pk.tu.c,.int .u16 c2.pk.tu.d]] WH2 fun e w'=> ∃v,e= .returned v∧(v= .tuple #[.int .i64 (atC a.xs c2.pk.tu),.bool (okC a.xs c2.pk.tu)]∧Ext WH2 w'):=
      (Qdw c2.pk.tu a.p a.xs a.c WH2 (HSA.out.1.ext E9) HSA.out.2).mono fun e w' ⟨h1,h2⟩=>⟨_,h1,rfl,h2⟩
     refine wp_region_lit ?_;refine listV (v:= .pointer (some ⟨b3,66,none⟩)) (w':=WH2) rfl (by kernel_rfl) ?_;refine listV rfl (Qaa (C:=fun _=>False) (by rw [Qa,ra.r,Qw]) ra.l (fun h=>h) _ _ _ _ _ _ _ (by kernel_rfl) _ (Mv.refl _ _)) ?_;refine listV (v:= .pointer (some ⟨b10,11,none⟩)) (w':=WH2) rfl (by kernel_rfl) ?_;refine listV (v:= .pointer (some ⟨b10,11,none⟩)) (w':=WH2) rfl (by kernel_rfl) ?_;refine listV rfl (Qeq (C:=fun _=>False) (QW r10 11 (by show 11<18;omega)) (QW r10 12 (by show 12<18;omega)) (QW r10 13 (by show 13<18;omega)) (QW r10 14 (by show 14<18;omega)) r10.l (fun h=>h) _ _ _ _ _ _ _ (by kernel_rfl) _ (Mv.refl _ _)) ?_;refine JM (f:=44) rfl (by kernel_rfl) HFI ?_;rintro v18 w18 ⟨rfl,g18⟩;have E9:=E9.tr g18;have ra:=ra.ext g18;have ro:=ro.ext g18;have rd:=rd.ext g18;have r9:=r9.ext g18;have r10:=r10.ext g18;have sO:=sO.ext g18;have sq:=sq.ext g18;have z9:=Xt z9 g18.size;obtain⟨kn,hkn⟩: ∃kn,okC a.xs c2.pk.tu=kn:=⟨_,rfl⟩;have HKN:=Xh hkn;rw [hkn];clear hkn HFI;refine listV (v:= .tuple #[.int .i64 (atC a.xs c2.pk.tu),.bool kn]) (w':=w18) rfl (by kernel_rfl) ?_;refine listV (v:= .int .i64 (atC a.xs c2.pk.tu)) (w':=w18) rfl (by kernel_rfl) ?_;refine listV (v:= .bool kn) (w':=w18) rfl (by kernel_rfl) ?_;refine listV (v:= .pointer (some ⟨b9,4,none⟩)) (w':=w18) rfl (by kernel_rfl) ?_;refine Zh rfl (QjS (B:=b9) (i:=4) (n:=kn) (r9.cell 4 (by show 4<6;omega)) (r9.frz 4) _ _ _ _ _ _ _ _ (by kernel_rfl) (by kernel_rfl)) ?_;refine wpList_nil ?_;obtain⟨W18,h18⟩: ∃W18,w18.setCell ⟨b9,4,none⟩ (.bool kn)=W18:=⟨_,rfl⟩;have gS:Mv (fun q=>q=b9) w18 W18:=by rw [←h18];exact Mv.st _ (.inl rfl) (Mv.refl _ _)
     have r9:RowZ W18 b9 #[.int .u8 c2.o.ki,.int .i64 fv,.int .i64 c2.o.ge,.bool false,.bool kn,.bool false]:=by rw [←h18];exact r9.set 4 _
     have E9:=Mv.ext_of E9 gS (fun q e=>by have:=HE3.out;omega);have ra:=ra.mv gS (by omega);have ro:=ro.mv gS (by omega);have rd:=rd.mv gS (by omega);have r10:=r10.mv gS (by omega);have sO:=sO.mvg gS (fun b off e=>by have:=hpO b off e;omega);have sq:=sq.mvg gS (fun b off e=>by have:=hq1 b off e;omega);have z9:=Xt z9 gS.size;rw [h18];clear h18 g18 gS
     go_upto_region 19 with(fail)
     obtain⟨sy,hsy⟩: ∃sy,QwE c2.pk=sy:=⟨_,rfl⟩;obtain⟨rm,hrm⟩: ∃rm,decide ((a.xs.length:Int)<32)=rm:=⟨_,rfl⟩;have HSY:Hid (∀W,Calls Tryz.prog 45 #[.agg (pkV c2.pk (.slice c2.bp c2.bN c2.bc))] W fun e w'=>e= .returned (.bool sy)∧Ext W w'):=Xh (fun W=>by rw [←hsy];exact Qrb c2.pk c2.bp c2.bN c2.bc W);have HRM:Hid (∀W,Calls Tryz.prog 46 #[.slice a.p a.xs.length a.c] W fun e w'=>e= .returned (.bool rm)∧Ext W w'):=Xh (fun W=>by rw [←hrm];exact(Qdx a.p a.xs.length a.c W).mono fun e w' ⟨h1,h2⟩=>⟨h1,by rw [←h2];exact Ext.rf _⟩);have HSR:=Xh (And.intro hsy hrm);clear hsy hrm;have h39: ¬b3=b9:=by omega
     refine Qy (fun _=>False) (fun q=>q=b9) 7 (by kernel_rfl) ?_;obtain⟨WI,hW⟩: ∃Wdr,World.drew W18=Wdr:=⟨_,rfl⟩;have gD:Ext W18 WI:=by rw [←hW];exact Ext.dr (Ext.rf _)
     rw [hW];clear hW;have E9:=E9.tr gD;have ra:=ra.ext gD;have ro:=ro.ext gD;have rd:=rd.ext gD;have r9:=r9.ext gD;have r10:=r10.ext gD;have sO:=sO.ext gD;have sq:=sq.ext gD;have z9:=Xt z9 gD.size;refine Zg (N:=10) (R:=Qpm) (E:=((Tryz.f12.body.bind (Qg 19)).getD #[])) (by kernel_rfl) QjV (by kernel_rfl) fun hS=> ?_;have hT:=hS.2.1;refine tWk 1 (.pointer (some ⟨b10,11,none⟩)) hS.1 hT rfl fun hT=> ?_;refine tW 3 (.agg (pkV c2.pk (.slice c2.bp c2.bN c2.bc))) hS.1 hT rfl (Qrp r10 h109 _ _ _ _ _ _ _ (by kernel_rfl)) fun hT=> ?_;refine tWk 11 (.pointer (some ⟨b3,66,none⟩)) hS.1 hT rfl fun hT=> ?_;refine tW 27 (.slice a.p a.xs.length a.c) hS.1 hT rfl (Qaa (C:=fun q=>q=b9) (by rw [Qa,ra.r,Qw]) ra.l h39 _ _ _ _ _ _ _ (by kernel_rfl)) fun hT=> ?_;refine sV 31 (fun v _=>v= .bool sy) hS.2.2.1 rfl (Zt (HSY.out WI)) ?_;rintro _ WJ1 gWJ1 rfl;have E9:=E9.tr gWJ1;have ra:=ra.ext gWJ1;have ro:=ro.ext gWJ1;have rd:=rd.ext gWJ1;have r9:=r9.ext gWJ1;have r10:=r10.ext gWJ1;have sO:=sO.ext gWJ1;have sq:=sq.ext gWJ1;have z9:=Xt z9 gWJ1.size;have hT:=hS.2.2.2.1;refine tWk 95 (.pointer (some ⟨b9,3,none⟩)) hS.1 hT rfl fun hT=> ?_;refine sV 127 (fun v _=>v= .bool rm) hS.2.2.2.2.1 rfl (Zt (HRM.out WJ1)) ?_;rintro _ WJ2 gWJ2 rfl;have E9:=E9.tr gWJ2;have ra:=ra.ext gWJ2;have ro:=ro.ext gWJ2;have rd:=rd.ext gWJ2;have r9:=r9.ext gWJ2;have r10:=r10.ext gWJ2;have sO:=sO.ext gWJ2;have sq:=sq.ext gWJ2;have z9:=Xt z9 gWJ2.size;refine Qv hS.2.2.2.2.2.1 (QE (m':=255) rfl rfl (by kernel_rfl) (QjS (B:=b9) (i:=3) (n:=sy) (r9.cell 3 (by show 3<6;omega)) (r9.frz 3) _ _ _ _ _ _ _ _ (by kernel_rfl) (by kernel_rfl)) ⟨.inl (by decide),(Mv.st _ (.inl rfl) (Mv.refl _ _))⟩ ?_);obtain⟨WJ3,hWJ3⟩: ∃WJ3,World.setCell WJ2 ⟨b9,3,none⟩ (.bool sy)=WJ3:=⟨_,rfl⟩;have gS:Mv (fun q=>q=b9) WJ2 WJ3:=by rw [←hWJ3];exact Mv.st _ (.inl rfl) (Mv.refl _ _)
     have r9:RowZ WJ3 b9 #[.int .u8 c2.o.ki,.int .i64 fv,.int .i64 c2.o.ge,.bool sy,.bool kn,.bool false]:=by rw [←hWJ3];exact r9.set 3 _
     have E9:=Mv.ext_of E9 gS (fun q e=>by have:=HE3.out;omega);have ra:=ra.mv gS (by omega);have ro:=ro.mv gS (by omega);have rd:=rd.mv gS (by omega);have r10:=r10.mv gS (by omega);have sO:=sO.mvg gS (fun b off e=>by have:=hpO b off e;omega);have sq:=sq.mvg gS (fun b off e=>by have:=hq1 b off e;omega);have z9:=Xt z9 gS.size;rw [hWJ3];clear hWJ3;have hT:=hS.2.2.2.2.2.2.1;refine tWk 511 (.pointer (some ⟨b9,5,none⟩)) hS.1 hT rfl fun hT=> ?_;refine Qv hS.2.2.2.2.2.2.2.1 (QE (m':=1023) rfl rfl (by kernel_rfl) (QjS (B:=b9) (i:=5) (n:=rm) (r9.cell 5 (by show 5<6;omega)) (r9.frz 5) _ _ _ _ _ _ _ _ (by kernel_rfl) (by kernel_rfl)) ⟨.inl (by decide),(Mv.st _ (.inl rfl) (Mv.refl _ _))⟩ ?_);obtain⟨WJ4,hWJ4⟩: ∃WJ4,World.setCell WJ3 ⟨b9,5,none⟩ (.bool rm)=WJ4:=⟨_,rfl⟩;have gS:Mv (fun q=>q=b9) WJ3 WJ4:=by rw [←hWJ4];exact Mv.st _ (.inl rfl) (Mv.refl _ _)
     have r9:RowZ WJ4 b9 #[.int .u8 c2.o.ki,.int .i64 fv,.int .i64 c2.o.ge,.bool sy,.bool kn,.bool rm]:=by rw [←hWJ4];exact r9.set 5 _
     have E9:=Mv.ext_of E9 gS (fun q e=>by have:=HE3.out;omega);have ra:=ra.mv gS (by omega);have ro:=ro.mv gS (by omega);have rd:=rd.mv gS (by omega);have r10:=r10.mv gS (by omega);have sO:=sO.mvg gS (fun b off e=>by have:=hpO b off e;omega);have sq:=sq.mvg gS (fun b off e=>by have:=hq1 b off e;omega);have z9:=Xt z9 gS.size;rw [hWJ4];clear hWJ4;refine Q8 hS.2.2.2.2.2.2.2.2 ?_;clear hS hT;go_simp
     go_upto_region 20 with(fail)
     obtain⟨W19,hW19⟩: ∃W,WJ4=W:=⟨_,rfl⟩;rw [hW19]at ra ro rd r9 r10 sO sq E9 z9⊢;clear hW19 gS;obtain⟨x,hx⟩: ∃x,Ru.Qsz (toR (a.md (ofT k.tu).toNat)) c2.o.ki fv c2.o.ge sy kn rm=x:=⟨_,rfl⟩;obtain⟨bi,hbi'⟩: ∃bi,(ofT k.tu).toNat=bi:=⟨_,rfl⟩;have hbi:bi<16:=by omega
     have eof:ofT k.tu=(bi:Int):=by omega
     have HRU:Hid (∀W,Calls Tryz.prog 47 #[.agg (mdv (a.md bi)),.agg #[.int .u8 c2.o.ki,.int .i64 fv,.int .i64 c2.o.ge,.bool sy,.bool kn,.bool rm]] W fun e w'=>e= .returned (.agg (acv x))∧Ext W w'):=Xh (fun W=>by
      rw [←hx,hbi',J6]
      exact Ru.QwB (toR (a.md bi)) c2.o.ki fv c2.o.ge sy kn rm W (HK.out bi hbi) (by rw [HCE.out.2.1];exact HEN.out.2.2.1.1))
     have HX0:=Xh (And.intro hx hbi');have HIX:=Xh (Qmm (B:=b3) hbi);rw [eof];have HEOF:=Xh eof;clear hx hbi' eof hbd;have HR19:=Xh (And.intro ra (And.intro ro (And.intro rd (And.intro r9 (And.intro r10 (And.intro sO (And.intro sq E9)))))));obtain⟨lo19,hl19'⟩: ∃n,W19.heap.size=n:=⟨_,rfl⟩;have hl19:W19.heap.size≤lo19:=by omega
     have z19:lo19≤W19.heap.size:=by omega
     clear hl19';have hd3: ¬lo19≤b3:=by have:b10<W19.heap.size:=r10.l;omega
     have hd9: ¬lo19≤b9:=by have:b10<W19.heap.size:=r10.l;omega
     go_cut [11]from 111 to 117 (fun s wx=> ∃b11,s= .pointer (some ⟨b11,0,none⟩)∧(RowZ wx b11 (acv x)∧Ext W19 wx∧lo19≤b11))
     case first=>
      have E20:=Ext.rf W19;refine Qy (fun _=>False) (fun q=>lo19≤q) 7 (by kernel_rfl) ?_;obtain⟨WK,hW⟩: ∃Wdr,World.drew W19=Wdr:=⟨_,rfl⟩;have gD:Ext W19 WK:=by rw [←hW];exact Ext.dr (Ext.rf _)
      rw [hW];clear hW;have E20:=E20.tr gD;have ra:=ra.ext gD;have r9:=r9.ext gD;have z19:=Xt z19 gD.size;refine Zg (N:=8) (R:=Qpl) (E:=((Tryz.f12.body.bind (Qg 20)).getD #[])) (by kernel_rfl) QjU (by kernel_rfl) fun hS=> ?_;obtain⟨hS,hSb⟩:=hS;have hT:=hS.2.1;refine tWk 1 (.int .i64 (bi:Int)) hS.1 hT rfl fun hT=> ?_;refine tWk 3 (.pointer (some ⟨b3,2,none⟩)) hS.1 hT rfl fun hT=> ?_;refine tW 7 (.pointer (some ⟨b3,2+bi*4,none⟩)) hS.1 hT rfl (fun w' _=>HIX.out _ _ _ _ _ _ _ _ (by kernel_rfl) (by kernel_rfl) w') fun hT=> ?_;refine tW 15 (.agg (mdv (a.md bi))) hS.1 hT rfl (Qgg (C:=fun q=>lo19≤q) ra hbi hd3 _ _ _ _ _ _ _ (by kernel_rfl)) fun hT=> ?_;refine tW 31 (.agg #[.int .u8 c2.o.ki,.int .i64 fv,.int .i64 c2.o.ge,.bool sy,.bool kn,.bool rm]) hS.1 hT rfl (Qt3 (C:=fun q=>lo19≤q) r9 rfl hd9 _ _ _ _ _ _ _ (by kernel_rfl)) fun hT=> ?_;refine Qnl hS.2.2.1 ?_ ?_
      ·clear HR19;refine(Qsh (m':=63) (R:=fun v _=>v= .agg (acv x)) rfl rfl (by kernel_rfl) (by kernel_rfl) (Zt (HRU.out WK)) ?_);rintro _ WL1 gWL1 rfl;have E20:=E20.tr gWL1;have z19:=Xt z19 gWL1.size;refine Qv hS.2.2.2.1 (Zv (m':=127) rfl rfl (by kernel_rfl) (Qbq _ _ _ _ _ _ WL1) ⟨.inr (Mv.of_ext (Ext.al (Ext.rf _) _)),(Mv.of_ext (Ext.al (Ext.rf _) _))⟩ ?_);obtain⟨WL2,hWL2⟩: ∃WL2,WL1.alloc (.cells #[.int .u8 0,.int .u8 0,.int .u8 0,.int .i64 0,.int .i64 0] 105)=WL2:=⟨_,rfl⟩;have hbk:=World.alloc_heap_new WL1 (.cells #[.int .u8 0,.int .u8 0,.int .u8 0,.int .i64 0,.int .i64 0] 105);have gWL2:Ext WL1 WL2:=by rw [←hWL2];exact Ext.al (Ext.rf _) _
       rw [hWL2]at hbk⊢;clear hWL2;have E20:=E20.tr gWL2;have r11:=RowZ.of_heap hbk;obtain⟨b11,e11⟩: ∃b,WL1.heap.size=b:=⟨_,rfl⟩;rw [e11]at r11⊢;have h11:lo19≤b11:=by have:=z19;omega
       have z19:=Xt z19 gWL2.size;clear hbk;refine Qv hS.2.2.2.2.1 (QE (m':=255) rfl rfl (by kernel_rfl) (QhP (B:=b11) (cs:=acv x) (by rw [r11.r];rfl) r11.z rfl (by unfold acv;simp [go_sem]) _ _ _ _ _ _ _ _ (by kernel_rfl) (by kernel_rfl)) ⟨.inl (by decide),(Mv.sa _ h11 (Mv.refl _ _))⟩ ?_);obtain⟨WL3,hWL3⟩: ∃WL3,Qe WL2 b11 0 (acv x)=WL3:=⟨_,rfl⟩;have HX:=Xh (show RowZ WL3 b11 (acv x)∧Ext W19 WL3∧lo19≤b11 from⟨by rw [←hWL3];exact r11.all _ rfl,by rw [←hWL3];exact Mv.ext_of (C:=fun q=>q=b11) E20 (Mv.sa _ rfl (Mv.refl _ _)) (fun q e=>by have:=hl19;omega),h11⟩);rw [hWL3];clear hWL3;refine Q8 hS.2.2.2.2.2 ?_;clear hS hT
       go_wp2_with (fail)
       go_meet
       exact⟨b11,rfl,HX.out⟩
      ·clear HR19;refine(Zv (m':=95) rfl rfl (by kernel_rfl) (Qbq _ _ _ _ _ _ WK) ⟨.inr (Mv.of_ext (Ext.al (Ext.rf _) _)),(Mv.of_ext (Ext.al (Ext.rf _) _))⟩ ?_);obtain⟨WL1,hWL1⟩: ∃WL1,WK.alloc (.cells #[.int .u8 0,.int .u8 0,.int .u8 0,.int .i64 0,.int .i64 0] 105)=WL1:=⟨_,rfl⟩;have hbk:=World.alloc_heap_new WK (.cells #[.int .u8 0,.int .u8 0,.int .u8 0,.int .i64 0,.int .i64 0] 105);have gWL1:Ext WK WL1:=by rw [←hWL1];exact Ext.al (Ext.rf _) _
       rw [hWL1]at hbk⊢;clear hWL1;have E20:=E20.tr gWL1;have r11:=RowZ.of_heap hbk;obtain⟨b11,e11⟩: ∃b,WK.heap.size=b:=⟨_,rfl⟩;rw [e11]at r11⊢;have h11:lo19≤b11:=by have:=z19;omega
       have z19:=Xt z19 gWL1.size;clear hbk;refine sV 127 (fun v _=>v= .agg (acv x)) hSb.2.2.2.1 rfl (Zt (HRU.out WL1)) ?_;rintro _ WL2 gWL2 rfl;have E20:=E20.tr gWL2;have r11:=r11.ext gWL2;have z19:=Xt z19 gWL2.size;refine Qv hSb.2.2.2.2.1 (QE (m':=255) rfl rfl (by kernel_rfl) (QhP (B:=b11) (cs:=acv x) (by rw [r11.r];rfl) r11.z rfl (by unfold acv;simp [go_sem]) _ _ _ _ _ _ _ _ (by kernel_rfl) (by kernel_rfl)) ⟨.inl (by decide),(Mv.sa _ h11 (Mv.refl _ _))⟩ ?_);obtain⟨WL3,hWL3⟩: ∃WL3,Qe WL2 b11 0 (acv x)=WL3:=⟨_,rfl⟩;have HX:=Xh (show RowZ WL3 b11 (acv x)∧Ext W19 WL3∧lo19≤b11 from⟨by rw [←hWL3];exact r11.all _ rfl,by rw [←hWL3];exact Mv.ext_of (C:=fun q=>q=b11) E20 (Mv.sa _ rfl (Mv.refl _ _)) (fun q e=>by have:=hl19;omega),h11⟩);rw [hWL3];clear hWL3;refine Q8 hSb.2.2.2.2.2 ?_;clear hS hT
       go_wp2_with (fail)
       go_meet
       exact⟨b11,rfl,HX.out⟩
     case rest=>
      obtain⟨b11,rfl,hcut⟩:=hcut;obtain⟨W20,hW20⟩: ∃W,wc=W:=⟨_,rfl⟩;rw [hW20]at hcut⊢;obtain⟨r11,E20,h11⟩:=hcut;clear hW20;have HX1:=Xh (And.intro r11 (And.intro E20 h11));clear r11 E20 h11
      go_upto_region 21 with(fail)
      obtain⟨r11,E20,h11⟩:=HX1.out;obtain⟨ra,ro,rd,r9,r10,sO,sq,E9⟩:=HR19.out;have hs20:=E20.size;have eid:o1.id=a.id:=by rw [←HEO.out]
      have exs:o1.xs=a.xs:=by rw [←HEO.out]
      have ep1:o1.p=p':=by rw [←HEO.out]
      have eip:c2.ip=q:=by rw [←HEC2.out,←HEC.out]
      have eiN:c2.iN=pl.length:=by rw [←HEC2.out,←HEC.out]
      have eic:c2.ic=cq:=by rw [←HEC2.out,←HEC.out]
      have hkA:(Ru.Qsz (toR (a.md bi)) c2.o.ki fv c2.o.ge sy kn rm)=x:=by have h0:=HX0.out.1;rw [HX0.out.2]at h0;exact h0
      have hmr:(toR (a.md bi)).right=true:=Qmj HAG.out.1 bi hbi;have eo:c2.o=o:=HCE.out.2.1;have hgo:0≤o.ge∧o.ge≤2147483647:=Qri HEN.out.2.2.2.2;have hx:inX a fr o pl=x:=by
       unfold inX;rw [HKD.out.1,←HCE.out.1,←eo,HFV.out,HSR.out.1,HKN.out,HSR.out.2];have h0:=HX0.out.1;rw [←HCE.out.1]at h0;exact h0
      have hx3:x.d≠3:=by
       have h:=HSM.out fr tn o pl HN.out;rw [hx]at h;exact h
      have HGR:=Xh (show inR a bs now=Qba x o1 c2 pl from by
       unfold inR;rw [HAG.out.2,if_neg (by decide),HN.out];show(if tn≠(2,a.id)then _ else if Yd pl≠0 then _ else if ofT (pkI pl).tu≠o.bu then _ else _)=_;rw [if_neg (by rw [HTN.out];exact fun h=>h rfl),HKD.out.2,if_neg (fun h=>h rfl),HKD.out.1,if_neg (fun h=>h HBK.out)];show Qba (inX a fr o pl) a _ pl=_;rw [hx]
       exact(QjN exs eid (by rw [HCE.out.1]) HCE.out.2.2.2 eo).symm)
      refine Qpi (o1:=o1) (c:=c2) (x:=x) (pl:=pl) (b6:=b6) (b7:=b7) (b10:=b10) (b11:=b11) (by kernel_rfl) (E9.tr E20) (by have:=HE3.out;omega) (by omega) (by omega) (by have:b10<W19.heap.size:=r10.l;omega) (ro.ext E20) (rd.ext E20) rfl (r10.ext E20) r11 (by rw [ep1,exs];exact sO.ext E20) (fun b off e=>by rw [ep1]at e;have:=hpO b off e;omega) (by rw [exs];exact HSA.out.2) (by rw [eip];exact sq.ext E20) (fun b off e=>by rw [eip]at e;have h1:=hq1 b off e;have h2:=hq2 b off e;omega) (by
       have h4:x.d=0∨x.d=1∨x.d=2∨x.d=3:=by rw [←hkA];exact Qrj
       rcases h4 with h|h|h|h
       ·exact .inl h
       ·exact .inr (.inl h)
       ·exact .inr (.inr h)
       ·exact absurd h hx3) ?_
      ·intro a' w' p2 c3 ep ec sp sc h6 h7 hz hdf r6 r7 s1 s2 s3 Ew
       go_upto_region 22 with(fail)
       refine Qpd h6 h7 hz r6 r7 ?_;intro a2 w2 e2 r6 r7 q6 q7 hd2;go_wp2;refine bodyPost_ret (ZE rfl _ _ b6 b7 q6 q7 (Yu r6.r) (JN r7.r rfl)) (hd2.trans hdf) ?_;rw [←HER.out,HGR.out];rw [←HEO.out]at s1 s2 s3⊢;exact⟨p2,c3,ep,ec,sp,sc,rfl,s1.ext e2,s2.ext e2,s3.ext e2,Ew.tr e2⟩
 ·have htn:tn≠(2,a.id):=by simpa using hnb
  have HG:inR a bs now=(13,a.xs,[],[]):=by unfold inR;rw [HAG.out.2,if_neg (by decide),hN];exact if_pos htn
  have HG:=Xh HG;clear htn hnb;go_simp
  go_upto_region 9 with(fail)
  have rd8:=rd;refine wp_region_lit ?_;refine listV (v:= .pointer (some ⟨b7,0,none⟩)) (w':=WB1) rfl (by kernel_rfl) ?_;refine Zh rfl (QcQ (B:=b7) (i:=0) (n:=13) (rd.cell 0 (by show 0<3;omega)) (rd.frz 0) _ _ _ _ _ _ _ _ (by kernel_rfl) (by kernel_rfl)) ?_;refine wpList_nil ?_;obtain⟨W10,h10⟩: ∃W10,WB1.setCell ⟨b7,0,none⟩ (.int .u8 13)=W10:=⟨_,rfl⟩;have m10:Mv (fun q=>q=b7) WB1 W10:=by rw [←h10];exact Mv.st _ (.inl rfl) (Mv.refl _ _)
  have HF:=Xh (show RowZ W10 b6 (agv o1)∧RowZ W10 b7 (dnv ⟨13,none,0,0,none,0,0⟩)∧SlC W10 p' a.xs∧Ext w W10 from⟨ro.mv m10 (by omega),by rw [←h10];exact rd.set 0 _,sO.mvg m10 (fun b off e=>by have:=hpO b off e;omega),Mv.ext_of E9 m10 (fun q e=>by have:=HE3.out;omega)⟩);rw [h10];clear h10 m10;clear rd8 ra ro rd r9 r10 sO E9 hpO;go_simp;go_wp2;go_step3;refine⟨rfl,?_⟩
  go_upto_region 23 with(fail)
  refine Jk (o:=o1) (d:=⟨13,none,0,0,none,0,0⟩) (b6:=b6) (b7:=b7) (by kernel_rfl) (by kernel_rfl) (by kernel_rfl) HF.out.1 HF.out.2.1 ?_;intro a' w' e' r6 r7 q6 q7 hd;go_wp2;refine bodyPost_ret (ZE rfl _ _ b6 b7 q6 q7 (Yu r6.r) (JN r7.r rfl)) hd ?_;rw [←HER.out,HG.out,←HEO.out];exact⟨p',c',none,0,none,0,rfl,HF.out.2.2.1.ext e',SlE.nil _ none,SlBB.nil _ none,HF.out.2.2.2.tr e'⟩
end Go.Proofs.YtpeonbaodnmlnaaGreat
namespace Go.Proofs.YtpeonbaodnmlnaaGreat
open Go.RowKit
def ZZ:Tu:=⟨1,2,3,4⟩
def synI:List Int:=QhE ⟨0,0,0,64,6,1,2,[],Qjm 1 2 3 4 2⟩
def QbK:List Int:=QhE ⟨0,0,0,64,4,QL (1,0),QL (2,2),Jl ⟨1,13,2,-1,1,0⟩,synI⟩
theorem Qrt:ofT ZZ=13:=by kernel_rfl
def wA:Ag:=agN 2 9
def wX2:Ct:=⟨2,0,2,13,1,-1,0,0,0,none,0,0⟩
def wX3:Ct:=⟨2,0,3,13,1,-1,0,0,0,none,0,0⟩
def wB(p:Option Addr)(c:Nat):Ag:={YU wA wX2 with p:=p,xs:= [],c:=c}
def wC(p:Option Addr)(c:Nat):Ag:={YU wA wX2 with p:=p,xs:= [⟨ZZ,5,5⟩],c:=c}
def wD(p:Option Addr)(c:Nat):Ag:={YU wA wX2 with p:=p,xs:= [⟨ZZ,5,6⟩],c:=c}
def wE(p:Option Addr)(c:Nat):Ag:={YU wA wX2 with p:=p,xs:= [],c:=c}
theorem Qt7:Qei 2 9=wA:=if_pos (by kernel_rfl)
theorem Qru:QbG 2 9=0:=by kernel_rfl
theorem Qt8:Qei 6 9=agz:=if_neg (by rw [show agR (agN 6 9)=false by kernel_rfl];decide)
theorem Qrv:QbG 6 9=2:=by kernel_rfl
theorem QwF:inR wA QbK 5=(15,[],[],[]):=by kernel_rfl
theorem Qt9:Qak wA wX2=true:=by kernel_rfl
theorem Qua:Qak wA wX3=false:=by kernel_rfl
theorem Qrw:JK wA wX2= []:=by kernel_rfl
theorem Qrx:JL wA wX2= []:=by kernel_rfl
theorem Qry:Qai wA wX2=⟨4,2,2,13,1,0,0,0,0,none,0,0⟩:=by kernel_rfl
theorem QwG(p:Option Addr)(c:Nat):inR (wB p c) QbK 5=(0,[⟨ZZ,5,5⟩],[⟨1,2,ZZ⟩],[]):=by kernel_rfl
theorem QwH(p:Option Addr)(c:Nat):inR (wC p c) QbK 6=(0,[⟨ZZ,5,6⟩],[⟨2,2,ZZ⟩],[]):=by kernel_rfl
theorem QhS(p:Option Addr)(c:Nat):Qbk (wD p c) 14= [⟨ZZ,5,6⟩]∧Qbl (wD p c) 14= []:=⟨by kernel_rfl,by kernel_rfl⟩
theorem QhT(p:Option Addr)(c:Nat):Qbk (wD p c) 15= []∧Qbl (wD p c) 15= [⟨4,2,ZZ⟩]:=⟨by kernel_rfl,by kernel_rfl⟩
theorem Qrz(p q:Option Addr)(c d:Nat):Y0 (wD p c) (wD q d)=true:=by kernel_rfl
theorem QrA(p q:Option Addr)(c d:Nat):Y0 (wC p c) (wC q d)=true:=by kernel_rfl
theorem QrB(p q:Option Addr)(c d:Nat):Y0 (wC p c) (wB q d)=false:=by kernel_rfl
theorem Qpp(p:Option Addr)(c:Nat):agR (wC p c)=true:=by kernel_rfl
theorem Qpq:agR agz=false:=by kernel_rfl
theorem QkX:QbK.length=76:=by kernel_rfl
theorem Qpr:ByR QbK:=by
 have h:QbK.all (fun b=>decide (0≤b)&&decide (b<256))=true:=by kernel_rfl
 intro b hb;have:=List.all_eq_true.1 h b hb;simp only [Bool.and_eq_true,decide_eq_true_eq]at this;exact this
theorem Qew(p:Option Addr)(xs:List Co)(c:Nat): ∀k,k<16→0≤((({YU wA wX2 with p:=p,xs:=xs,c:=c}:Ag)).md k).kind:=by
 intro k hk;have h:(List.range 16).all (fun k=>decide (0≤((YU wA wX2).md k).kind))=true:=by kernel_rfl
 exact of_decide_eq_true (List.all_eq_true.1 h k (List.mem_range.2 hk))
theorem Qgm: ∀k,k<16→0≤(wA.md k).kind:=fun k _=>by show(0:Int)≤0;omega
theorem QhU:TuR ZZ:=by unfold TuR ZZ;decide
theorem QwI:Jh QbK=some ((1,0),(2,2),⟨1,13,2,-1,1,0⟩,synI):=by kernel_rfl
theorem Qub{a:Ag}(h:decide ((inX a (1,0) ⟨1,13,2,-1,1,0⟩ synI).d=3)=false):Jh QbK≠none∧ ∀fr tn o pl,Jh QbK=some (fr,tn,o,pl)→(inX a fr o pl).d≠3:=by
 rw [QwI];refine⟨fun e=>(by cases e),fun fr tn o pl e=> ?_⟩;have e:=Option.some.inj e;have e1:=congrArg Prod.fst e;have e2:=congrArg (fun z=>z.2.2.1) e;have e3:=congrArg (fun z=>z.2.2.2) e;dsimp only at e1 e2 e3;rw [←e1,←e2,←e3];exact of_decide_eq_false h
theorem QxX:decide ((inX wA (1,0) ⟨1,13,2,-1,1,0⟩ synI).d=3)=false:=by kernel_rfl
theorem QxY(p:Option Addr)(c:Nat):decide ((inX (wB p c) (1,0) ⟨1,13,2,-1,1,0⟩ synI).d=3)=false:=by kernel_rfl
theorem QxZ(p:Option Addr)(c:Nat):decide ((inX (wC p c) (1,0) ⟨1,13,2,-1,1,0⟩ synI).d=3)=false:=by kernel_rfl
def QsD(ops:Array Oper):Prop:=Region.noSelect ops=true∧Qan ops 10 [0,1,2,4,5,6] []=true∧Region.ready .any ops (don 10 [6,5,4,2,1,0])= [3]∧Region.ready .any ops (don 10 [3,6,5,4,2,1,0])= [7]∧Region.ready .any ops (don 10 [7,3,6,5,4,2,1,0])= [8]∧Region.ready .any ops (don 10 [8,7,3,6,5,4,2,1,0])= [9]∧Region.ready .any ops (don 10 [9,8,7,3,6,5,4,2,1,0])= []
theorem Qps:QsD ((Tryz.f158.body.bind (Qg 1)).getD #[]):=⟨by kernel_rfl,by kernel_rfl,by kernel_rfl,by kernel_rfl,by kernel_rfl,by kernel_rfl,by kernel_rfl⟩
def QsE(ops:Array Oper):Prop:=Region.noSelect ops=true∧Qan ops 12 [0,1,2,3,6,7,8] []=true∧Region.ready .any ops (don 12 [8,7,6,3,2,1,0])= [4]∧Region.ready .any ops (don 12 [4,8,7,6,3,2,1,0])= [5]∧Region.ready .any ops (don 12 [5,4,8,7,6,3,2,1,0])= [9]∧Region.ready .any ops (don 12 [9,5,4,8,7,6,3,2,1,0])= [10]∧Region.ready .any ops (don 12 [10,9,5,4,8,7,6,3,2,1,0])= [11]∧Region.ready .any ops (don 12 [11,10,9,5,4,8,7,6,3,2,1,0])= []
theorem Qpt:QsE ((Tryz.f158.body.bind (Qg 2)).getD #[]):=⟨by kernel_rfl,by kernel_rfl,by kernel_rfl,by kernel_rfl,by kernel_rfl,by kernel_rfl,by kernel_rfl,by kernel_rfl⟩
theorem QkY{C:Nat→Prop}{w:World}{B k:Nat}{n:Int}{kd:IntKind}(h0:w.cell? ⟨B,k,none⟩=some (.int kd n))(hl:Lt B w)(hC: ¬C B)(ρ:Operand→Value)(o:Oper)
  (hr: ∀w':World,w'.cell? ⟨B,k,none⟩=some (.int kd n)→(execOp ρ o).run Tryz.prog w'= .ok (.value (.int kd n)) w'): ∀w',Mv C w w'→(execOp ρ o).run Tryz.prog w'= .ok (.value (.int kd n)) w':=by
 intro w' hE;exact hr w' (by rw [Qa,Qf (hE.same B hl hC),←Qa];exact h0)
theorem QhV{w:World}{B k:Nat}{n:Int}(h0:w.cell? ⟨B,k,none⟩=some (.int .u32 n))(ρ:Operand→Value)(dst:Option Tmp)(x:Operand)(ty:TypeId)(pos:String)(after:Array Edge)(g:Option (Nat×Bool))(hx:ρ x= .pointer (some ⟨B,k,none⟩)):
  (execOp ρ ⟨dst,.load 61 x,ty,pos,after,g⟩).run Tryz.prog w= .ok (.value (.int .u32 n)) w:=by
 simp only [execOp,hx];go_simp
theorem QhW{w:World}{B k:Nat}{n:Int}(h0:w.cell? ⟨B,k,none⟩=some (.int .u16 n))(ρ:Operand→Value)(dst:Option Tmp)(x:Operand)(ty:TypeId)(pos:String)(after:Array Edge)(g:Option (Nat×Bool))(hx:ρ x= .pointer (some ⟨B,k,none⟩)):
  (execOp ρ ⟨dst,.load 62 x,ty,pos,after,g⟩).run Tryz.prog w= .ok (.value (.int .u16 n)) w:=by
 simp only [execOp,hx];go_simp
theorem QhX{n:Int}(hn:IntKind.i64.wrap n=n)(ρ:Operand→Value)(dst:Option Tmp)(x:Operand)(ty:TypeId)(pos:String)(after:Array Edge)(g:Option (Nat×Bool))(hx:ρ x= .int .u32 n)(w:World):
  (execOp ρ ⟨dst,.convert 61 3 x,ty,pos,after,g⟩).run Tryz.prog w= .ok (.value (.int .i64 n)) w:=by
 simp only [execOp,hx];go_simp
 try simp [hn]
theorem QhY{n:Int}(hn:IntKind.i64.wrap n=n)(ρ:Operand→Value)(dst:Option Tmp)(x:Operand)(ty:TypeId)(pos:String)(after:Array Edge)(g:Option (Nat×Bool))(hx:ρ x= .int .u16 n)(w:World):
  (execOp ρ ⟨dst,.convert 62 3 x,ty,pos,after,g⟩).run Tryz.prog w= .ok (.value (.int .i64 n)) w:=by
 simp only [execOp,hx];go_simp
 try simp [hn]
theorem Qgn(n:Int)(m:Nat)(hm:m≤4)(h0:0≤n)(h1:n<4294967296)(w:World):
  Calls Tryz.prog 208 #[.int .i64 n,.int .i64 m] w fun e w'=> ∃v,e= .returned v∧OB w' w.heap.size v (byN n m)∧Ext w w':=
 (Qig n m hm h0 h1 w).mono fun e w' ⟨v,h1,h2,h3⟩=>⟨v,h1,by unfold OB;rw [Zs];exact h2,h3⟩
theorem QbL(t:Tu)(hr:TuR t)(w:World):
  Calls Tryz.prog 158 #[tu t.a t.b t.c t.d] w fun e w'=> ∃v,e= .returned v∧OB w' w.heap.size v (tb t)∧Ext w w':=by
 obtain⟨⟨a0,a1⟩,⟨b0,b1⟩,⟨c0,c1⟩,⟨d0,d1⟩⟩:=hr;have wa:IntKind.i64.wrap t.a=t.a:=by rw [IntKind.wrap_i64];omega
 have wb:IntKind.i64.wrap t.b=t.b:=by rw [IntKind.wrap_i64];omega
 have wc:IntKind.i64.wrap t.c=t.c:=by rw [IntKind.wrap_i64];omega
 have wd:IntKind.i64.wrap t.d=t.d:=by rw [IntKind.wrap_i64];omega
 go_enter Tryz.func158,Tryz.ntmps158
 go_upto_region 1 with(fail)
 obtain⟨W0,hW⟩: ∃W0,w.alloc (.cells #[.int .u32 t.a,.int .u32 t.b,.int .u16 t.c,.int .u16 t.d] 64)=W0:=⟨_,rfl⟩;have g0:Ext w W0:=by rw [←hW];exact Ext.al (Ext.rf _) _
 have x0:W0.cell? ⟨w.heap.size,0,none⟩=some (.int .u32 t.a):=by rw [←hW];simp [go_sem]
 have x1:W0.cell? ⟨w.heap.size,1,none⟩=some (.int .u32 t.b):=by rw [←hW];simp [go_sem]
 have x2:W0.cell? ⟨w.heap.size,2,none⟩=some (.int .u16 t.c):=by rw [←hW];simp [go_sem]
 have x3:W0.cell? ⟨w.heap.size,3,none⟩=some (.int .u16 t.d):=by rw [←hW];simp [go_sem]
 have hsz:W0.heap.size=w.heap.size+1:=by rw [←hW];simp
 have lB:Lt w.heap.size W0:=by unfold Lt;omega
 rw [hW];clear hW;refine QQ (fun k=>W0.heap.size≤k) (by kernel_rfl) ?_;obtain⟨W1,hW1⟩: ∃W1,W0.drew=W1:=⟨_,rfl⟩;have g1:Ext W0 W1:=by rw [←hW1];exact Ext.dr (Ext.rf _)
 rw [hW1];clear hW1;have hnC: ¬(W0.heap.size≤w.heap.size):=by omega
 have y0:=(g1.cell (p:=⟨w.heap.size,0,none⟩) lB).trans x0;have y1:=(g1.cell (p:=⟨w.heap.size,1,none⟩) lB).trans x1;have lB1:Lt w.heap.size W1:=Xl lB g1.size;refine QmW (N:=10) (R:=QsD) (E:=((Tryz.f158.body.bind (Qg 1)).getD #[])) (by kernel_rfl) Qps (by kernel_rfl) fun hS=> ?_;have hT:=hS.2.1;refine YQ (N:=10) (k:=0) (v:= .pointer (some ⟨w.heap.size,0,none⟩)) hS.1 hT rfl (by kernel_rfl) (fun _ _=>by kernel_rfl) fun hT=> ?_;refine YQ (N:=10) (k:=1) (v:= .int .u32 t.a) hS.1 hT rfl (by kernel_rfl) (QkY y0 lB1 hnC _ _ fun w' h=>QhV h _ _ _ _ _ _ _ (by kernel_rfl)) fun hT=> ?_;refine YQ (N:=10) (k:=2) (v:= .int .i64 t.a) hS.1 hT rfl (by kernel_rfl) (fun w' _=>QhX wa _ _ _ _ _ _ _ (by kernel_rfl) w') fun hT=> ?_;refine YQ (N:=10) (k:=4) (v:= .pointer (some ⟨w.heap.size,1,none⟩)) hS.1 hT rfl (by kernel_rfl) (fun _ _=>by kernel_rfl) fun hT=> ?_;refine YQ (N:=10) (k:=5) (v:= .int .u32 t.b) hS.1 hT rfl (by kernel_rfl) (QkY y1 lB1 hnC _ _ fun w' h=>QhV h _ _ _ _ _ _ _ (by kernel_rfl)) fun hT=> ?_;refine YQ (N:=10) (k:=6) (v:= .int .i64 t.b) hS.1 hT rfl (by kernel_rfl) (fun w' _=>QhX wb _ _ _ _ _ _ _ (by kernel_rfl) w') fun hT=> ?_;refine Qao hS.2.2.1 (QeY (R:=fun v w'=>OB w' W1.heap.size v (byN t.a 4)) rfl rfl (by kernel_rfl) (Qgn t.a 4 (by omega) a0 a1 W1) fun v1 W2 g2 o1=> ?_);refine Qao hS.2.2.2.1 (QeY (R:=fun v w'=>OB w' W2.heap.size v (byN t.b 4)) rfl rfl (by kernel_rfl) (Qgn t.b 4 (by omega) b0 b1 W2) fun v2 W3 g3 o2=> ?_);have hb2:W0.heap.size≤W3.heap.size:=(g1.tr (g2.tr g3)).size;refine Qao hS.2.2.2.2.1 (QsZ rfl (by kernel_rfl) (by kernel_rfl) ((o1.ext g3).le g1.size) o2 (by rw [Zs];omega) (by rw [Zs,Zs];omega) hb2 fun v3 W4 m4 o3=> ?_);refine Qao hS.2.2.2.2.2.1 (QmV (v:=v3) rfl rfl (by kernel_rfl) (Mv.refl _ _) ?_);refine doneK hS.2.2.2.2.2.2 ?_;have M4:Mv (fun k=>W0.heap.size≤k) W0 W4:=(Mv.of_ext (g1.tr (g2.tr g3))).trans m4;have hO:=Xh o3;have z2:W4.cell? ⟨w.heap.size,2,none⟩=some (.int .u16 t.c):=by rw [Qa,Qf (M4.same _ lB hnC),←Qa];exact x2
 have z3:W4.cell? ⟨w.heap.size,3,none⟩=some (.int .u16 t.d):=by rw [Qa,Qf (M4.same _ lB hnC),←Qa];exact x3
 have lB4:Lt w.heap.size W4:=Xl lB M4.size;have hb4:=M4.size;clear hS hT m4 o1 o2 o3 y0 y1 x0 x1 x2 x3;go_simp
 go_upto_region 2 with(fail)
 refine QQ (fun k=>W0.heap.size≤k) (by kernel_rfl) ?_;obtain⟨W5,hW5⟩: ∃W5,W4.drew=W5:=⟨_,rfl⟩;have g5:Ext W4 W5:=by rw [←hW5];exact Ext.dr (Ext.rf _)
 rw [hW5];clear hW5;have y2:=(g5.cell (p:=⟨w.heap.size,2,none⟩) lB4).trans z2;have y3:=(g5.cell (p:=⟨w.heap.size,3,none⟩) lB4).trans z3;have lB5:Lt w.heap.size W5:=Xl lB4 g5.size;have hO5:=hO.out.ext g5;have hb5:=Xt hb4 g5.size;refine QmW (N:=12) (R:=QsE) (E:=((Tryz.f158.body.bind (Qg 2)).getD #[])) (by kernel_rfl) Qpt (by kernel_rfl) fun hS=> ?_;have hT:=hS.2.1;refine YQ (N:=12) (k:=0) (v:=v3) hS.1 hT rfl (by kernel_rfl) (fun _ _=>by kernel_rfl) fun hT=> ?_;refine YQ (N:=12) (k:=1) (v:= .pointer (some ⟨w.heap.size,2,none⟩)) hS.1 hT rfl (by kernel_rfl) (fun _ _=>by kernel_rfl) fun hT=> ?_;refine YQ (N:=12) (k:=2) (v:= .int .u16 t.c) hS.1 hT rfl (by kernel_rfl) (QkY y2 lB5 hnC _ _ fun w' h=>QhW h _ _ _ _ _ _ _ (by kernel_rfl)) fun hT=> ?_;refine YQ (N:=12) (k:=3) (v:= .int .i64 t.c) hS.1 hT rfl (by kernel_rfl) (fun w' _=>QhY wc _ _ _ _ _ _ _ (by kernel_rfl) w') fun hT=> ?_;refine YQ (N:=12) (k:=6) (v:= .pointer (some ⟨w.heap.size,3,none⟩)) hS.1 hT rfl (by kernel_rfl) (fun _ _=>by kernel_rfl) fun hT=> ?_;refine YQ (N:=12) (k:=7) (v:= .int .u16 t.d) hS.1 hT rfl (by kernel_rfl) (QkY y3 lB5 hnC _ _ fun w' h=>QhW h _ _ _ _ _ _ _ (by kernel_rfl)) fun hT=> ?_;refine YQ (N:=12) (k:=8) (v:= .int .i64 t.d) hS.1 hT rfl (by kernel_rfl) (fun w' _=>QhY wd _ _ _ _ _ _ _ (by kernel_rfl) w') fun hT=> ?_;refine Qao hS.2.2.1 (QeY (R:=fun v w'=>OB w' W5.heap.size v (byN t.c 2)) rfl rfl (by kernel_rfl) (Qgn t.c 2 (by omega) c0 (by omega) W5) fun v4 W6 g6 o4=> ?_);refine Qao hS.2.2.2.1 (QsZ rfl (by kernel_rfl) (by kernel_rfl) (hO5.ext g6) o4 (by rw [Zs];omega) (by simp only [List.length_append,Zs];omega) (Xt hb5 g6.size) fun v5 W7 m7 o5=> ?_);refine Qao hS.2.2.2.2.1 (QeY (R:=fun v w'=>OB w' W7.heap.size v (byN t.d 2)) rfl rfl (by kernel_rfl) (Qgn t.d 2 (by omega) d0 (by omega) W7) fun v6 W8 g8 o6=> ?_);refine Qao hS.2.2.2.2.2.1 (QsZ rfl (by kernel_rfl) (by kernel_rfl) (o5.ext g8) o6 (by rw [Zs];omega) (by simp only [List.length_append,Zs];omega) (Xt (Xt hb5 g6.size) (Xt m7.size g8.size)) fun v7 W9 m9 o7=> ?_);refine Qao hS.2.2.2.2.2.2.1 (QmV (v:=v7) rfl rfl (by kernel_rfl) (Mv.refl _ _) ?_);refine doneK hS.2.2.2.2.2.2.2 ?_;have M9:Mv (fun k=>W0.heap.size≤k) W4 W9:=(((Mv.of_ext (g5.tr g6)).trans m7).tr g8).trans m9;clear hS hT;go_simp;go_wp2;refine bodyPost_ret (v:=v7) (by simp [results,Tryz.results158,go_sem]) rfl ⟨v7,rfl,?_,?_⟩
 ·have h:=o7.le (b':=w.heap.size) (by omega);have e:byN t.a 4++byN t.b 4++byN t.c 2++byN t.d 2=tb t:=rfl;rw [e]at h;exact h
 ·exact Mv.ext_of g0 (M4.trans M9) (fun k h=>by omega)
theorem QjY(n:Int)(h0:0≤n)(h1:n<256):bits BinOp.xor IntKind.i64 (wrap64 ((wrap64 n).tdiv 16)) ((wrap64 n).tmod 16)=Qdq n:=by
 refine QeT (fun n=>bits BinOp.xor IntKind.i64 (wrap64 ((wrap64 n).tdiv 16)) ((wrap64 n).tmod 16)=Qdq n) ?_ h0 h1
 kernel_rfl
theorem Qpu(t:Tu)(hr:TuR t)(w:World):
  Calls Tryz.prog 87 #[tu t.a t.b t.c t.d] w fun e w'=>e= .returned (.int .u8 (sumT t))∧Ext w w':=by
 have HR:=Xh hr;clear hr
 go_enter Tryz.func87,Tryz.ntmps87
 go_wp2_with (first|(go_at_call 158;(with_reducible refine(QbL t HR.out _).mono ?_);rintro e w1 ⟨v,rfl,ho,hE1⟩;obtain⟨p,c,rfl,hs⟩:=ho.sl (by rw [QdE];omega);have HB:=Xh hs;have hE0:=Ext.tr (Ext.al (Ext.rf _) _) hE1;clear hs ho)|(go_at_call 157;(with_reducible refine(Qqk 0 (tb t) _ _ _ HB.out (by rw [QdE];omega)).mono ?_);rintro e w2 ⟨rfl,rfl⟩))
 go_ret;exact⟨rfl,hE0⟩
theorem QkZ(t:Tu)(hr:TuR t)(w:World):
  Calls Tryz.prog 33 #[tu t.a t.b t.c t.d] w fun e w'=>e= .returned (.int .i64 (ofT t))∧Ext w w':=by
 have HR:=Xh hr;have HV:=Xh (QjY (sumT t) (QaX t).1 (QaX t).2);clear hr
 go_enter Tryz.func33,Tryz.ntmps33
 go_wp2_with (go_at_call 87;(with_reducible refine(Qpu t HR.out _).mono ?_);rintro e w1 ⟨rfl,hE1⟩;have hE0:=Ext.tr (Ext.al (Ext.rf _) _) hE1)
 go_ret;exact⟨by show _=Ending.returned (.int .i64 (Qdq (sumT t)));rw [←HV.out];rfl,hE0⟩
def QcR:List Int→List Int→Int
 |x::xs,y::ys=>if x<y then-1 else if y<x then 1 else QcR xs ys
 |_,_=>0
theorem QwJ(n k:Int)(xs ys:List Int)(h0:0≤n∧n<4294967296)(h1:0≤k∧k<4294967296):QcR (byN n 4++xs) (byN k 4++ys)=if n<k then-1 else if k<n then 1 else QcR xs ys:=by
 have e3:(256:Int)^3=16777216:=by decide
 have e2:(256:Int)^2=65536:=by decide
 have e1:(256:Int)^1=256:=by decide
 have e0:(256:Int)^0=1:=by decide
 simp only [byN,List.cons_append,List.nil_append,QcR,e3,e2,e1,e0]
 repeat' split
 all_goals first|rfl|(exfalso;omega)
theorem QwK(n k:Int)(xs ys:List Int)(h0:0≤n∧n<65536)(h1:0≤k∧k<65536):QcR (byN n 2++xs) (byN k 2++ys)=if n<k then-1 else if k<n then 1 else QcR xs ys:=by
 have e1:(256:Int)^1=256:=by decide
 have e0:(256:Int)^0=1:=by decide
 simp only [byN,List.cons_append,List.nil_append,QcR,e1,e0]
 repeat' split
 all_goals first|rfl|(exfalso;omega)
theorem QrC(s t:Tu)(hs:TuR s)(ht:TuR t):QcR (tb s) (tb t)=QbO s t:=by
 have e: ∀t:Tu,tb t=byN t.a 4++(byN t.b 4++(byN t.c 2++(byN t.d 2++ []))):=fun t=>rfl;rw [e s,e t,QwJ _ _ _ _ hs.1 ht.1,QwJ _ _ _ _ hs.2.1 ht.2.1,QwK _ _ _ _ hs.2.2.1 ht.2.2.1,QwK _ _ _ _ hs.2.2.2 ht.2.2.2];have key: ∀(x y r:Int),(if cmpI x y=0 then r else cmpI x y)=if x<y then-1 else if y<x then 1 else r:=by
  intro x y r;unfold cmpI
  by_cases h1:x<y
  ·simp [h1]
  ·by_cases h2:y<x
   ·simp [h1,h2]
   ·simp [h1,h2]
 show _=(if cmpI s.a t.a=0 then(if cmpI s.b t.b=0 then(if cmpI s.c t.c=0 then(if cmpI s.d t.d=0 then 0 else cmpI s.d t.d)else cmpI s.c t.c)else cmpI s.b t.b)else cmpI s.a t.a);rw [key,key,key,key];rfl
def QwL(ops:Array Oper):Prop:=Region.noSelect ops=true∧Qan ops 6 [0,2] []=true∧Region.ready .any ops (don 6 [2,0])= [1]∧Region.ready .any ops (don 6 [1,2,0])= [3]∧Qan ops 6 [4,5] [3,1,2,0]=true∧Region.ready .any ops (don 6 [5,4,3,1,2,0])= []
theorem Qx0:QwL ((Tryz.f122.body.bind (Qg 1)).getD #[]):=⟨by kernel_rfl,by kernel_rfl,by kernel_rfl,by kernel_rfl,by kernel_rfl,by kernel_rfl⟩
theorem Qk0{C:Nat→Prop}{w:World}{B:Nat}{t:Tu}(h:Yr w B t)(hC: ¬C B)(ρ:Operand→Value)(dst:Option Tmp)(x:Operand)(ty:TypeId)(pos:String)(after:Array Edge)(g:Option (Nat×Bool))(hx:ρ x= .pointer (some ⟨B,0,none⟩)):
  ∀w',Mv C w w'→(execOp ρ ⟨dst,.load 64 x,ty,pos,after,g⟩).run Tryz.prog w'= .ok (.value (tu t.a t.b t.c t.d)) w':=by
 intro w' hm;obtain⟨d0,d1,d2,d3⟩:=h.cells;have hs:=Qf (hm.same B h.2 hC);have q0:w'.cell? ⟨B,0,none⟩=some (.int .u32 t.a):=by rw [Qa,hs,←Qa];exact d0
 have q1:w'.cell? ⟨B,1,none⟩=some (.int .u32 t.b):=by rw [Qa,hs,←Qa];exact d1
 have q2:w'.cell? ⟨B,2,none⟩=some (.int .u16 t.c):=by rw [Qa,hs,←Qa];exact d2
 have q3:w'.cell? ⟨B,3,none⟩=some (.int .u16 t.d):=by rw [Qa,hs,←Qa];exact d3
 simp only [execOp,hx];go_simp
theorem Qpv(xs ys:List Int)(k:Nat)(hx:k<xs.length)(hy:k<ys.length):QcR (xs.drop k) (ys.drop k)=if xs[k]<ys[k]then-1 else if ys[k]<xs[k]then 1 else QcR (xs.drop (k+1)) (ys.drop (k+1)):=by
 rw [List.drop_eq_getElem_cons hx,List.drop_eq_getElem_cons hy];rfl
theorem QhZ(s t:Tu)(hs:TuR s)(ht:TuR t)(w:World):
  Calls Tryz.prog 122 #[tu s.a s.b s.c s.d,tu t.a t.b t.c t.d] w fun e w'=>e= .returned (.int .i64 (QbO s t))∧Ext w w':=by
 rw [←QrC s t hs ht];have HS:=Xh hs;have HT:=Xh ht;clear hs ht
 go_enter Tryz.func122,Tryz.ntmps122
 go_upto_region 1 with(fail)
 obtain⟨W0,hW⟩: ∃W0,(w.alloc (.cells #[.int .u32 s.a,.int .u32 s.b,.int .u16 s.c,.int .u16 s.d] 64)).alloc (.cells #[.int .u32 t.a,.int .u32 t.b,.int .u16 t.c,.int .u16 t.d] 64)=W0:=⟨_,rfl⟩;have g0:Ext w W0:=by rw [←hW];exact Ext.al (Ext.al (Ext.rf _) _) _
 have hsz:W0.heap.size=w.heap.size+2:=by rw [←hW];simp
 have ts:Yr W0 w.heap.size s:=by rw [←hW];unfold Yr;simp [go_sem,Lt];try omega
 have tt:Yr W0 (w.heap.size+1) t:=by rw [←hW];unfold Yr;simp [go_sem,Lt];try omega
 rw [hW];clear hW;refine QQ (fun k=>W0.heap.size≤k) (by kernel_rfl) ?_;obtain⟨W1,hW1⟩: ∃W1,W0.drew=W1:=⟨_,rfl⟩;have g1:Ext W0 W1:=by rw [←hW1];exact Ext.dr (Ext.rf _)
 rw [hW1];clear hW1;refine QmW (N:=6) (R:=QwL) (E:=((Tryz.f122.body.bind (Qg 1)).getD #[])) (by kernel_rfl) Qx0 (by kernel_rfl) fun hS=> ?_;have hT:=hS.2.1;refine YQ (N:=6) (k:=0) (v:=(tu s.a s.b s.c s.d)) hS.1 hT rfl (by kernel_rfl) (Qk0 (ts.ext g1) (by omega) _ _ _ _ _ _ _ (by kernel_rfl)) fun hT=> ?_;refine YQ (N:=6) (k:=2) (v:=(tu t.a t.b t.c t.d)) hS.1 hT rfl (by kernel_rfl) (Qk0 (tt.ext g1) (by omega) _ _ _ _ _ _ _ (by kernel_rfl)) fun hT=> ?_;refine Qao hS.2.2.1 (QeY (R:=fun v w'=>OB w' W1.heap.size v (tb s)) rfl rfl (by kernel_rfl) (QbL s HS.out W1) fun v1 W2 g2 o1=> ?_);refine Qao hS.2.2.2.1 (QeY (R:=fun v w'=>OB w' W2.heap.size v (tb t)) rfl rfl (by kernel_rfl) (QbL t HT.out W2) fun v2 W3 g3 o2=> ?_);have hT:=hS.2.2.2.2.1;refine YQ (N:=6) (k:=4) (v:=v1) hS.1 hT rfl (by kernel_rfl) (fun _ _=>by kernel_rfl) fun hT=> ?_;refine YQ (N:=6) (k:=5) (v:=v2) hS.1 hT rfl (by kernel_rfl) (fun _ _=>by kernel_rfl) fun hT=> ?_;refine doneK hS.2.2.2.2.2 ?_;clear hS hT;go_simp;have E3:=g0.tr (g1.tr (g2.tr g3));obtain⟨p1,c1,rfl,s1⟩:=(o1.ext g3).sl (by rw [QdE];omega);obtain⟨p2,c2,rfl,s2⟩:=o2.sl (by rw [QdE];omega);obtain⟨xs,hxs⟩: ∃xs,tb s=xs:=⟨_,rfl⟩;obtain⟨ys,hys⟩: ∃ys,tb t=ys:=⟨_,rfl⟩;have lx:xs.length=12:=by rw [←hxs];rfl
 have ly:ys.length=12:=by rw [←hys];rfl
 rw [hxs]at s1⊢;rw [hys]at s2⊢;rw [lx,ly];have HXS:=Xh hxs;have HYS:=Xh hys;clear o1 o2 ts tt hxs hys g0 g1 g2 g3;go_wp2
 go_loopw [7] (fun a wr=> ∃k:Nat,k≤12∧a= .int .i64 k∧QcR xs ys=QcR (xs.drop k) (ys.drop k)∧Ext w wr∧SlB wr p1 xs∧SlB wr p2 ys) (fun a _=>12- (intOf a).toNat)
 case atStart=>exact⟨0,by omega,rfl,rfl,E3,s1,s2⟩
 case round=>
  clear s1 s2 E3;obtain⟨k,hk,rfl,hlx,hE,h1,h2⟩:=hrel
  by_cases hlt:k<12
  ·have hil:(k:Int)<12:=by omega
   have H1:=Xh h1;have H2:=Xh h2;obtain⟨b1,o1,rfl,l1,c1'⟩:=h1 k (by omega);obtain⟨b2,o2,rfl,l2,c2'⟩:=h2 k (by omega);have hst:=hlx.trans (Qpv xs ys k (by omega) (by omega));obtain⟨x,hx⟩: ∃x,xs[k]'(by omega)=x:=⟨_,rfl⟩;obtain⟨y,hy⟩: ∃y,ys[k]'(by omega)=y:=⟨_,rfl⟩;rw [hx]at c1' hst;rw [hy]at c2' hst;have L1:Lt b1 wr:=l1;have L2:Lt b2 wr:=l2;clear h1 h2 l1 l2 hx hy hlx
   by_cases hxy:x<y
   ·rw [if_pos hxy]at hst;have HR:=Xh hst;clear hst;have hdx:decide (x<y)=true:=decide_eq_true hxy
    go_upto_region 5 with(fail)
    refine Qj (by kernel_rfl) (by kernel_rfl) ?_;(repeat(go_big_quiet_step (fail)));refine wpQuiet_nil ?_;intro d
    have hd:=Qq d;go_wp2;exact bodyPost_ret (v:= .int .i64 (-1)) (by simp [results,Tryz.results122,go_sem]) rfl ⟨by rw [HXS.out,HYS.out,HR.out],hE.tr hd⟩
   ·rw [if_neg hxy]at hst;have hdx:decide (x<y)=false:=decide_eq_false hxy;have HX:=Xh hxy
    by_cases hyx:y<x
    ·rw [if_pos hyx]at hst;have HR:=Xh hst;clear hst;have hdy:decide (y<x)=true:=decide_eq_true hyx
     go_upto_region 5 with(fail)
     refine Qj (by kernel_rfl) (by kernel_rfl) ?_;(repeat(go_big_quiet_step (fail)));refine wpQuiet_nil ?_;intro d
     have hd:=Qq d;obtain⟨W5,hW5⟩: ∃W5,later d=W5:=⟨_,rfl⟩;rw [hW5]at hd⊢;clear hW5;have q1:=(hd.cell (p:=⟨b1,_,none⟩) L1).trans c1';have q2:=(hd.cell (p:=⟨b2,_,none⟩) L2).trans c2';have K1:Lt b1 W5:=Xl L1 hd.size;have K2:Lt b2 W5:=Xl L2 hd.size
     go_upto_region 7 with(fail)
     refine Qj (by kernel_rfl) (by kernel_rfl) ?_;(repeat(go_big_quiet_step (fail)));refine wpQuiet_nil ?_;intro d2
     have hd2:=Qq d2;go_wp2;exact bodyPost_ret (v:= .int .i64 1) (by simp [results,Tryz.results122,go_sem]) rfl ⟨by rw [HXS.out,HYS.out,HR.out],(hE.tr hd).tr hd2⟩
    ·rw [if_neg hyx]at hst;have HR:=Xh hst;clear hst;have hdy:decide (y<x)=false:=decide_eq_false hyx
     go_upto_region 5 with(fail)
     refine Qj (by kernel_rfl) (by kernel_rfl) ?_;(repeat(go_big_quiet_step (fail)));refine wpQuiet_nil ?_;intro d
     have hd:=Qq d;obtain⟨W5,hW5⟩: ∃W5,later d=W5:=⟨_,rfl⟩;rw [hW5]at hd⊢;clear hW5;have q1:=(hd.cell (p:=⟨b1,_,none⟩) L1).trans c1';have q2:=(hd.cell (p:=⟨b2,_,none⟩) L2).trans c2';have K1:Lt b1 W5:=Xl L1 hd.size;have K2:Lt b2 W5:=Xl L2 hd.size
     go_upto_region 7 with(fail)
     refine Qj (by kernel_rfl) (by kernel_rfl) ?_;(repeat(go_big_quiet_step (fail)));refine wpQuiet_nil ?_;intro d2
     have hd2:=Qq d2;go_wp2
     go_roundw
     case rel=>exact⟨k+1,by omega,by go_num,HR.out,(hE.tr hd).tr hd2,(H1.out.ext hd).ext hd2,(H2.out.ext hd).ext hd2⟩
     case measure=>simp [intOf];omega
  ·have hil: ¬((k:Int)<12):=by omega
   have HR:=Xh (show QcR xs ys=0 by rw [hlx,List.drop_of_length_le (by omega)];rfl);clear hlx;go_wp2;exact bodyPost_ret (v:= .int .i64 0) (by simp [results,Tryz.results122,go_sem]) rfl ⟨by rw [HXS.out,HYS.out,HR.out],hE⟩
theorem Quc(S:List Int)(hS:synI=S)(g q:Nat)(W:World)(s:SlB W (some ⟨g,0,none⟩) S):Calls Tryz.prog 84 #[.agg #[.int .u8 1,.int .i64 0,.int .u8 2,.int .i64 2,.int .u8 1,.int .u8 13,.int .i64 2,.int .i64 (-1),.int .i64 1,.int .i64 0,.slice (some ⟨g,0,none⟩) S.length q]] W fun e w'=> ∃v,e= .returned (.tuple #[v,.int .u8 0])∧Z2 W w' v QbK:=by
 subst hS;exact Ql8 (1,0) (2,2) ⟨1,13,2,-1,1,0⟩ synI (some ⟨g,0,none⟩) q W (by decide) (by decide) (by kernel_rfl) s (fun e=>by cases e) (by rw [show synI.length=40 by kernel_rfl];omega)
theorem Qmn(w:World):Calls Tryz.prog 37 #[] w fun e w'=> ∃v,e= .returned (.tuple #[v,.int .i64 13])∧Z2 w w' v QbK:=by
 obtain⟨S,eS⟩: ∃S,synI=S:=⟨_,rfl⟩;have HSL:=Xh (show S.length=40 by rw [←eS];kernel_rfl);have HSE:=Xh eS;have HOF:Hid (∀W,Calls Tryz.prog 33 #[.agg #[.int .u32 1,.int .u32 2,.int .u16 3,.int .u16 4]] W fun e w'=>e= .returned (.int .i64 13)∧Ext W w'):=Xh (fun W=>by have h:=QkZ ZZ QhU W;rw [Qrt]at h;exact h);have HMK:Hid (∀W,Calls Tryz.prog 91 #[.agg #[.int .u32 1,.int .u32 2,.int .u16 3,.int .u16 4],.int .u8 2,.slice none 0 0] W fun e w'=> ∃v,e= .returned (.tuple #[v,.bool true])∧Z2 W w' v S):=Xh (fun W=>by rw [←eS];exact Ql5 1 2 3 4 2 (by decide) (by decide) (by decide) W);have HO6:Hid (∀W,Calls Tryz.prog 92 #[.int .u8 1,.int .i64 13,.agg #[.int .i64 2,.int .i64 (-1),.int .i64 1,.int .i64 0]] W fun e w'=>e= .returned (.tuple #[.agg #[.int .u8 1,.int .u8 13,.int .i64 2,.int .i64 (-1),.int .i64 1,.int .i64 0],.int .i64 0])∧Ext W w'):=Xh (QoX 1 13 2 (-1) 1 0 (by decide) (by kernel_rfl));have hb1: ∀W,(Instr.build 64 #[(0,.int .u32 1),(1,.int .u32 2),(2,.int .u16 3),(3,.int .u16 4)]).run Tryz.prog W= .ok (.agg #[.int .u32 1,.int .u32 2,.int .u16 3,.int .u16 4]) W:=fun W=>by kernel_rfl
 have hb2: ∀W,(Instr.build 153 #[(0,.int .i64 2),(1,.int .i64 (-1)),(2,.int .i64 1)]).run Tryz.prog W= .ok (.agg #[.int .i64 2,.int .i64 (-1),.int .i64 1,.int .i64 0]) W:=fun W=>by kernel_rfl
 have hb3: ∀W,(Instr.build 73 #[(0,.int .u8 1)]).run Tryz.prog W= .ok (.agg #[.int .u8 1,.int .i64 0]) W:=fun W=>by kernel_rfl
 have hb4: ∀W,(Instr.build 73 #[(0,.int .u8 2),(1,.int .i64 2)]).run Tryz.prog W= .ok (.agg #[.int .u8 2,.int .i64 2]) W:=fun W=>by kernel_rfl
 have hb5: ∀W (g q:Nat),(Instr.build 77 #[(0,.agg #[.int .u8 1,.int .i64 0]),(1,.agg #[.int .u8 2,.int .i64 2]),(2,.agg #[.int .u8 1,.int .u8 13,.int .i64 2,.int .i64 (-1),.int .i64 1,.int .i64 0]),(3,.slice (some ⟨g,0,none⟩) S.length q)]).run Tryz.prog W= .ok (.agg #[.int .u8 1,.int .i64 0,.int .u8 2,.int .i64 2,.int .u8 1,.int .u8 13,.int .i64 2,.int .i64 (-1),.int .i64 1,.int .i64 0,.slice (some ⟨g,0,none⟩) S.length q]) W:=fun W g q=>by kernel_rfl
 clear eS
 go_enter Tryz.func37,Tryz.ntmps37
 go_upto_region 2 with(fail)
 obtain⟨W0,hW⟩: ∃W0,w.alloc (.cells #[.int .u32 1,.int .u32 2,.int .u16 3,.int .u16 4] 64)=W0:=⟨_,rfl⟩;have g0:Ext w W0:=by rw [←hW];exact Ext.al (Ext.rf _) _
 have rz:RowZ W0 w.heap.size #[.int .u32 1,.int .u32 2,.int .u16 3,.int .u16 4]:=by rw [←hW];exact RowZ.new _ _ _
 rw [hW];clear hW;have HRT:=Xh rz;have HE:=Xh g0;clear rz g0;have d0:W0.cell? ⟨w.heap.size,0,none⟩=some (.int .u32 1):=HRT.out.cell 0 (by show 0<4;omega);have d1:W0.cell? ⟨w.heap.size,1,none⟩=some (.int .u32 2):=HRT.out.cell 1 (by show 1<4;omega);have d2:W0.cell? ⟨w.heap.size,2,none⟩=some (.int .u16 3):=HRT.out.cell 2 (by show 2<4;omega);have d3:W0.cell? ⟨w.heap.size,3,none⟩=some (.int .u16 4):=HRT.out.cell 3 (by show 3<4;omega)
 go_upto_region 5 with(first|(go_at_call 33;(with_reducible refine(HOF.out _).mono ?_);rintro e wa ⟨rfl,ga⟩;have HRT:=Xh (HRT.out.ext ga);have HE:=Xh (HE.out.tr ga);have d0:wa.cell? ⟨w.heap.size,0,none⟩=some (.int .u32 1):=HRT.out.cell 0 (by show 0<4;omega);have d1:wa.cell? ⟨w.heap.size,1,none⟩=some (.int .u32 2):=HRT.out.cell 1 (by show 1<4;omega);have d2:wa.cell? ⟨w.heap.size,2,none⟩=some (.int .u16 3):=HRT.out.cell 2 (by show 2<4;omega);have d3:wa.cell? ⟨w.heap.size,3,none⟩=some (.int .u16 4):=HRT.out.cell 3 (by show 3<4;omega))|(go_at_call 91;(with_reducible refine(HMK.out _).mono ?_);rintro e wb ⟨vb,rfl,ob⟩;obtain⟨g,q,rfl,-,-,-,-,-⟩:=ob.own.at (by have:=HSL.out;omega);have s1:SlB wb (some ⟨g,0,none⟩) S:=(by obtain⟨p,c,e,-,s⟩:=ob.sl;cases e;exact s);have HE:=Xh (HE.out.tr ob.ext);have HS1:=Xh s1;clear s1 ob)|(go_at_call 92;(with_reducible refine(HO6.out _).mono ?_);rintro e wc ⟨rfl,gc⟩;have HE:=Xh (HE.out.tr gc);have HS1:=Xh (HS1.out.ext gc)))
 obtain⟨W5,hW⟩: ∃W5,Qe (wc.alloc (.cells #[.int .u8 0,.int .u8 0,.int .i64 0,.int .i64 0,.int .i64 0,.int .i64 0] 75)) wc.heap.size 0 #[.int .u8 1,.int .u8 13,.int .i64 2,.int .i64 (-1),.int .i64 1,.int .i64 0]=W5:=⟨_,rfl⟩;have g5:Ext wc W5:=by rw [←hW];exact Ext.sa _ (Nat.le_refl _) (Ext.al (Ext.rf _) _)
 have r5:Qc W5 wc.heap.size=#[.int .u8 1,.int .u8 13,.int .i64 2,.int .i64 (-1),.int .i64 1,.int .i64 0]:=by rw [←hW];exact Qr _ _ _ (by rw [Zf];rfl)
 rw [hW];have HE5:=Xh (HE.out.tr g5);have HP7:=Xh (Quc S HSE.out g q W5 (HS1.out.ext g5));clear g5 hW
 go_wp2_with (go_at_call 84;(with_reducible refine(HP7.out).mono ?_);rintro e wd ⟨vd,rfl,od⟩;have HO:=Xh od;clear od)
 refine bodyPost_ret (v:= .tuple #[vd,.int .i64 13]) (by simp [results,Tryz.results37,go_sem]) rfl ?_;exact⟨vd,rfl,HO.out.own.le HE5.out.size,HE5.out.tr HO.out.ext⟩
def InW(A:Option Addr→Nat→Ag)(dr:Int)(xs:List Co)(es:List Ev)(v:Value)(w':World):Prop:= ∃p c ep ec sp sc,v= .tuple #[.agg (agv (A p c)),.agg (dnv ⟨dr,ep,es.length,ec,sp,0,sc⟩)]∧SlC w' p xs∧SlE w' ep es
theorem Qud{a:Ag}{bs:List Int}{now dr:Int}{xs:List Co}{es:List Ev}{g q:Nat}{W:World}(A:Option Addr→Nat→Ag)(hA: ∀p c,({a with p:=p,xs:=xs,c:=c}:Ag)=A p c)(hr:inR a bs now=(dr,xs,es,[]))(hs:SlC W a.p a.xs)(hl:a.xs.length≤1000)(ht: ∀x∈a.xs,TuR x.t)(hk: ∀k,k<16→0≤(a.md k).kind)
  (hb:SlB W (some ⟨g,0,none⟩) bs)(hB:ByR bs)(hlb:bs.length≤1000)(hq:bs.length≤q)(hSM:Jh bs≠none∧ ∀fr tn o pl,Jh bs=some (fr,tn,o,pl)→(inX a fr o pl).d≠3):Calls Tryz.prog 12 #[.agg (agv a),.slice (some ⟨g,0,none⟩) bs.length q,.int .i64 now] W fun e w'=> ∃v,e= .returned v∧InW A dr xs es v w'∧Ext W w':=
 (Qt6 a bs _ q now W hs hl ht hk hb hB hlb hq hSM).mono fun e w' ⟨p,c,ep,ec,sp,sc,h1,h2,h3,h4,h5⟩=>by
  rw [hr]at h1 h2 h3;rw [hA]at h1;exact⟨_,h1,⟨p,c,ep,ec,sp,sc,rfl,h2,h3⟩,h5⟩
theorem QwM{S:List Int}(hS:QbK=S){g q:Nat}{W:World}(hb:SlB W (some ⟨g,0,none⟩) S)(hq:S.length≤q):Calls Tryz.prog 12 #[.agg (agv wA),.slice (some ⟨g,0,none⟩) S.length q,.int .i64 5] W fun e w'=> ∃v,e= .returned v∧InW (fun p c=>{wA with p:=p,xs:= [],c:=c}) 15 [] [] v w'∧Ext W w':=by
 subst hS;exact Qud _ (fun _ _=>rfl) QwF (SlC.nil _ _) (by show 0≤1000;omega) (fun x hx=>by cases hx) Qgm hb Qpr (by rw [QkX];omega) hq (Qub QxX)
theorem QwN{S:List Int}(hS:QbK=S){g q:Nat}{W:World}(p:Option Addr)(c:Nat)(hb:SlB W (some ⟨g,0,none⟩) S)(hq:S.length≤q):Calls Tryz.prog 12 #[.agg (agv (wB p c)),.slice (some ⟨g,0,none⟩) S.length q,.int .i64 5] W fun e w'=> ∃v,e= .returned v∧InW wC 0 [⟨ZZ,5,5⟩] [⟨1,2,ZZ⟩] v w'∧Ext W w':=by
 subst hS;exact Qud _ (fun _ _=>rfl) (QwG p c) (SlC.nil _ _) (by show 0≤1000;omega) (fun x hx=>by cases hx) (Qew p [] c) hb Qpr (by rw [QkX];omega) hq (Qub (QxY p c))
theorem QwO{S:List Int}(hS:QbK=S){g q:Nat}{W:World}(p:Option Addr)(c:Nat)(hs:SlC W p [⟨ZZ,5,5⟩])(hb:SlB W (some ⟨g,0,none⟩) S)(hq:S.length≤q):Calls Tryz.prog 12 #[.agg (agv (wC p c)),.slice (some ⟨g,0,none⟩) S.length q,.int .i64 6] W fun e w'=> ∃v,e= .returned v∧InW wD 0 [⟨ZZ,5,6⟩] [⟨2,2,ZZ⟩] v w'∧Ext W w':=by
 subst hS;exact Qud _ (fun _ _=>rfl) (QwH p c) hs (by show 1≤1000;omega) (fun x hx=>by rw [List.mem_singleton.1 hx];exact QhU) (Qew p _ c) hb Qpr (by rw [QkX];omega) hq (Qub (QxZ p c))
def QwP(v:Value)(w':World):Prop:= ∃p c q d,v= .tuple #[.agg (agv (wB p c)),.slice q 0 d,.agg (ctv ⟨4,2,2,13,1,0,0,0,0,none,0,0⟩),.bool true]
theorem QwQ(W:World):Calls Tryz.prog 16 #[.agg (agv wA),.agg (ctv wX2)] W fun e w'=> ∃v,e= .returned v∧QwP v w'∧Ext W w':=
 (Qfg wA wX2 W (SlC.nil _ _) (by show 0≤1000;omega) (fun x hx=>by cases hx) Qgm (by decide) (by decide)).mono fun e w' ⟨p,c,q,d,h1,_,_,h4⟩=>by
  rw [Qrw,Qrx,Qry,Qt9]at h1;exact⟨_,h1,⟨p,c,q,d,rfl⟩,h4⟩
def QwR(v:Value)(w':World):Prop:= ∃A q n d K,v= .tuple #[.agg (agv A),.slice q n d,.agg (ctv K),.bool false]
theorem QwS(W:World):Calls Tryz.prog 16 #[.agg (agv wA),.agg (ctv wX3)] W fun e w'=> ∃v,e= .returned v∧QwR v w'∧Ext W w':=
 (Qfg wA wX3 W (SlC.nil _ _) (by show 0≤1000;omega) (fun x hx=>by cases hx) Qgm (by decide) (by decide)).mono fun e w' ⟨p,c,q,d,h1,_,_,h4⟩=>by
  rw [Qua]at h1;exact⟨_,h1,⟨_,q,_,d,_,rfl⟩,h4⟩
def TiW(A:Option Addr→Nat→Ag)(xs:List Co)(es:List Ev)(v:Value)(w':World):Prop:= ∃p c q d,v= .tuple #[.agg (agv (A p c)),.slice q es.length d]∧SlC w' p xs∧SlE w' q es
theorem Que(p:Option Addr)(c:Nat)(W:World)(hs:SlC W p [⟨ZZ,5,6⟩]):Calls Tryz.prog 20 #[.agg (agv (wD p c)),.int .i64 14] W fun e w'=> ∃v,e= .returned v∧TiW wD [⟨ZZ,5,6⟩] [] v w'∧Ext W w':=
 (QcD (wD p c) 14 W hs (by show 1≤1000;omega) (fun x hx=>by rw [List.mem_singleton.1 hx];exact QhU) (Qew p _ c)).mono fun e w' ⟨p',c',q,d,h1,h2,h3,h4⟩=>by
  rw [(QhS p c).1]at h1 h2;rw [(QhS p c).2]at h1 h3;exact⟨_,h1,⟨p',c',q,d,rfl,h2,h3⟩,h4⟩
theorem Quf(p:Option Addr)(c:Nat)(W:World)(hs:SlC W p [⟨ZZ,5,6⟩]):Calls Tryz.prog 20 #[.agg (agv (wD p c)),.int .i64 15] W fun e w'=> ∃v,e= .returned v∧TiW wE [] [⟨4,2,ZZ⟩] v w'∧Ext W w':=
 (QcD (wD p c) 15 W hs (by show 1≤1000;omega) (fun x hx=>by rw [List.mem_singleton.1 hx];exact QhU) (Qew p _ c)).mono fun e w' ⟨p',c',q,d,h1,h2,h3,h4⟩=>by
  rw [(QhT p c).1]at h1 h2;rw [(QhT p c).2]at h1 h3;exact⟨_,h1,⟨p',c',q,d,rfl,h2,h3⟩,h4⟩
theorem Qx1(W:World):Calls Tryz.prog 10 #[.int .i64 2,.int .i64 9] W fun e w'=>e= .returned (.tuple #[.agg (agv wA),.int .i64 0])∧Ext W w':=by
 have h:=Qhs 2 9 W;rw [Qt7,Qru]at h;exact h
theorem Qx2(W:World):Calls Tryz.prog 10 #[.int .i64 6,.int .i64 9] W fun e w'=>e= .returned (.tuple #[.agg (agv agz),.int .i64 2])∧Ext W w':=by
 have h:=Qhs 6 9 W;rw [Qt8,Qrv]at h;exact h
def OwW(v:Value)(w':World):Prop:= ∃p c,v= .agg (agv (wC p c))∧SlC w' p [⟨ZZ,5,5⟩]
theorem Qx3(p:Option Addr)(c:Nat)(W:World)(hs:SlC W p [⟨ZZ,5,5⟩]):Calls Tryz.prog 25 #[.agg (agv (wC p c))] W fun e w'=> ∃v,e= .returned v∧OwW v w'∧Ext W w':=
 (Qb7 (wC p c) W hs (by show 1≤1000;omega)).mono fun e w' ⟨p',c',h1,h2⟩=>⟨_,h1,⟨p',c',rfl,by
  obtain⟨q,d,e2,-,s⟩:=SlC.own h2.own
  cases e2
  exact s⟩,h2.ext⟩
theorem QcS(ρ:Operand→Value)(dst:Option Tmp)(ty:TypeId)(pos:String)(after:Array Edge)(g:Option (Nat×Bool))(w:World):
  (execOp ρ ⟨dst,.alloc 42,ty,pos,after,g⟩).run Tryz.prog w= .ok (.value (.pointer (some ⟨w.heap.size,0,none⟩))) (w.alloc (.cells #[.int .u8 0,.slice none 0 0,.slice none 0 0] 42)):=by kernel_rfl
theorem Qfk(ρ:Operand→Value)(dst:Option Tmp)(ty:TypeId)(pos:String)(after:Array Edge)(g:Option (Nat×Bool))(w:World):
  (execOp ρ ⟨dst,.alloc 33,ty,pos,after,g⟩).run Tryz.prog w= .ok (.value (.pointer (some ⟨w.heap.size,0,none⟩))) (w.alloc (.cells (ctv ⟨0,0,0,0,0,0,0,0,0,none,0,0⟩) 33)):=by kernel_rfl
structure EvB(w:World)(b o:Nat)(k a:Int):Prop where
 lt:Lt b w
 cell0:w.cell? ⟨b,o,none⟩=some (.int .u8 k)
 cell1:w.cell? ⟨b,o+1,none⟩=some (.int .i64 a)
theorem EvB.ext{w w':World}{b o:Nat}{k a:Int}(h:EvB w b o k a)(e:Ext w w'):EvB w' b o k a:=⟨Xl h.lt e.size,(e.cell (p:=⟨b,o,none⟩) h.lt).trans h.cell0,(e.cell (p:=⟨b,o+1,none⟩) h.lt).trans h.cell1⟩
theorem SlE.evb{w:World}{p:Option Addr}{k a:Int}{t:Tu}(h:SlE w p [⟨k,a,t⟩]): ∃b o,p=some ⟨b,o,none⟩∧EvB w b o k a:=by
 obtain⟨b,o,h1,h2,c0,c1,-⟩:=h 0 Nat.zero_lt_one;exact⟨b,o,h1,h2,by rw [Nat.zero_mul]at c0;exact c0,by rw [Nat.zero_mul]at c1;exact c1⟩
theorem Qa6{b o c:Nat}(ρ:Operand→Value)(dst:Option Tmp)(x y:Operand)(ty:TypeId)(pos:String)(after:Array Edge)(g:Option (Nat×Bool))(hx:ρ x= .slice (some ⟨b,o,none⟩) 1 c)(hy:ρ y= .int .i64 0)(w:World):
  (execOp ρ ⟨dst,.indexAddr 39 x y,ty,pos,after,g⟩).run Tryz.prog w= .ok (.value (.pointer (some ⟨b,o,none⟩))) w:=by
 simp only [execOp,hx,hy];go_simp
theorem QwT(p q:Option Addr)(c d:Nat)(W:World)(s:SlC W p [⟨ZZ,5,6⟩])(t:SlC W q [⟨ZZ,5,6⟩]):Calls Tryz.prog 24 #[.agg (agv (wD p c)),.agg (agv (wD q d))] W fun e w'=>e= .returned (.bool true)∧Ext W w':=by
 have h:=QcC (wD p c) (wD q d) W s t (by show 1≤1000;omega) (by show 1≤1000;omega);rw [Qrz]at h;exact h
theorem QwU(p q:Option Addr)(c d:Nat)(W:World)(s:SlC W p [⟨ZZ,5,5⟩])(t:SlC W q [⟨ZZ,5,5⟩]):Calls Tryz.prog 24 #[.agg (agv (wC p c)),.agg (agv (wC q d))] W fun e w'=>e= .returned (.bool true)∧Ext W w':=by
 have h:=QcC (wC p c) (wC q d) W s t (by show 1≤1000;omega) (by show 1≤1000;omega);rw [QrA]at h;exact h
theorem QwV(p q:Option Addr)(c d:Nat)(W:World)(s:SlC W p [⟨ZZ,5,5⟩]):Calls Tryz.prog 24 #[.agg (agv (wC p c)),.agg (agv (wB q d))] W fun e w'=>e= .returned (.bool false)∧Ext W w':=by
 have h:=QcC (wC p c) (wB q d) W s (SlC.nil _ _) (by show 1≤1000;omega) (by show 0≤1000;omega);rw [QrB]at h;exact h
theorem QwW(p:Option Addr)(c:Nat)(W:World)(s:SlC W p [⟨ZZ,5,5⟩]):Calls Tryz.prog 22 #[.agg (agv (wC p c))] W fun e w'=>e= .returned (.bool true)∧Ext W w':=by
 have h:=YD (wC p c) W s (by show 1≤1000;omega) (fun x hx=>by rw [List.mem_singleton.1 hx];exact QhU) (Qew p _ c);rw [Qpp]at h;exact h
theorem QwX(W:World):Calls Tryz.prog 22 #[.agg (agv agz)] W fun e w'=>e= .returned (.bool false)∧Ext W w':=by
 have h:=YD agz W (SlC.nil _ _) (by show 0≤1000;omega) (fun x hx=>by cases hx) (fun k hk=>by show(0:Int)≤0;omega);rw [Qpq]at h;exact h
def Qpw(ops:Array Oper):Prop:=Region.noSelect ops=true∧Qt ops 107 [0,1,2,3,4,5,6,7,8,9,10,11,12,13] 0=true∧Qt ops 107 [14,15,16,17,18,19,20,21,22,23,24,25,26,27] 16383=true∧Qt ops 107 [28,29,30,31,32,33,34,35,36,37,38,39,40,41] 268435455=true∧Qt ops 107 [42,43,44,45,46,47,48,49,50,51,52,53,54,55] 4398046511103=true∧Qt ops 107 [56,57,58,59,60,61,62,63,64] 72057594037927935=true∧Region.ready .any ops (msk 107 36893488147419103231)= [65]∧Qt ops 107 [66,67,68,69,70,71,72,73,74,75,76,77,78,79] 73786976294838206463=true∧Qt ops 107 [80,81,82,83,84,85,86] 1208925819614629174706175=true∧Region.ready .any ops (msk 107 154742504910672534362390527)= [87]∧Qt ops 107 [88,89,90] 309485009821345068724781055=true∧Region.ready .any ops (msk 107 2475880078570760549798248447)= [91]∧Qt ops 107 [92,93,94,95,97] 4951760157141521099596496895=true∧Region.ready .any ops (msk 107 237684487542793012780631851007)= [96]∧Region.ready .any ops (msk 107 316912650057057350374175801343)= [98]∧Qt ops 107 [99,100,101,102] 633825300114114700748351602687=true∧Region.ready .any ops (msk 107 10141204801825835211973625643007)= [103]∧Qt ops 107 [104,105,106] 20282409603651670423947251286015=true∧Region.ready .any ops (msk 107 162259276829213363391578010288127)= []
theorem Qpx:Region.noSelect ((Tryz.f9.body.bind (Qg 13)).getD #[])=true:=by kernel_rfl
theorem Qpy:Qt ((Tryz.f9.body.bind (Qg 13)).getD #[]) 107 [0,1,2,3,4,5,6,7,8,9,10,11,12,13] 0=true:=by kernel_rfl
theorem Qpz:Qt ((Tryz.f9.body.bind (Qg 13)).getD #[]) 107 [14,15,16,17,18,19,20,21,22,23,24,25,26,27] 16383=true:=by kernel_rfl
theorem QpA:Qt ((Tryz.f9.body.bind (Qg 13)).getD #[]) 107 [28,29,30,31,32,33,34,35,36,37,38,39,40,41] 268435455=true:=by kernel_rfl
theorem QpB:Qt ((Tryz.f9.body.bind (Qg 13)).getD #[]) 107 [42,43,44,45,46,47,48,49,50,51,52,53,54,55] 4398046511103=true:=by kernel_rfl
theorem QpC:Qt ((Tryz.f9.body.bind (Qg 13)).getD #[]) 107 [56,57,58,59,60,61,62,63,64] 72057594037927935=true:=by kernel_rfl
theorem QpD:Region.ready .any ((Tryz.f9.body.bind (Qg 13)).getD #[]) (msk 107 36893488147419103231)= [65]:=by kernel_rfl
theorem QpE:Qt ((Tryz.f9.body.bind (Qg 13)).getD #[]) 107 [66,67,68,69,70,71,72,73,74,75,76,77,78,79] 73786976294838206463=true:=by kernel_rfl
theorem QpF:Qt ((Tryz.f9.body.bind (Qg 13)).getD #[]) 107 [80,81,82,83,84,85,86] 1208925819614629174706175=true:=by kernel_rfl
theorem QpG:Region.ready .any ((Tryz.f9.body.bind (Qg 13)).getD #[]) (msk 107 154742504910672534362390527)= [87]:=by kernel_rfl
theorem Qmo:Qt ((Tryz.f9.body.bind (Qg 13)).getD #[]) 107 [88,89,90] 309485009821345068724781055=true:=by kernel_rfl
theorem Qmp:Region.ready .any ((Tryz.f9.body.bind (Qg 13)).getD #[]) (msk 107 2475880078570760549798248447)= [91]:=by kernel_rfl
theorem Qmq:Qt ((Tryz.f9.body.bind (Qg 13)).getD #[]) 107 [92,93,94,95,97] 4951760157141521099596496895=true:=by kernel_rfl
theorem Qmr:Region.ready .any ((Tryz.f9.body.bind (Qg 13)).getD #[]) (msk 107 237684487542793012780631851007)= [96]:=by kernel_rfl
theorem Qms:Region.ready .any ((Tryz.f9.body.bind (Qg 13)).getD #[]) (msk 107 316912650057057350374175801343)= [98]:=by kernel_rfl
theorem Qmt:Qt ((Tryz.f9.body.bind (Qg 13)).getD #[]) 107 [99,100,101,102] 633825300114114700748351602687=true:=by kernel_rfl
theorem Qmu:Region.ready .any ((Tryz.f9.body.bind (Qg 13)).getD #[]) (msk 107 10141204801825835211973625643007)= [103]:=by kernel_rfl
theorem Qmv:Qt ((Tryz.f9.body.bind (Qg 13)).getD #[]) 107 [104,105,106] 20282409603651670423947251286015=true:=by kernel_rfl
theorem Qmw:Region.ready .any ((Tryz.f9.body.bind (Qg 13)).getD #[]) (msk 107 162259276829213363391578010288127)= []:=by kernel_rfl
theorem QjZ:Qpw ((Tryz.f9.body.bind (Qg 13)).getD #[]):=⟨Qpx,Qpy,Qpz,QpA,QpB,QpC,QpD,QpE,QpF,QpG,Qmo,Qmp,Qmq,Qmr,Qms,Qmt,Qmu,Qmv,Qmw⟩
theorem Qdf(w:World):Calls Tryz.prog 9 #[] w fun e w'=>e= .returned (.bool true)∧Ext w w':=by
 obtain⟨S,eS⟩: ∃S,QbK=S:=⟨_,rfl⟩;have HSY:Hid (Calls Tryz.prog 37 #[] w fun e w'=> ∃v,e= .returned (.tuple #[v,.int .i64 13])∧Z2 w w' v S):=Xh (by rw [←eS];exact Qmn w);have HSL:=Xh (show S.length=76 by rw [←eS];exact QkX);have HSE:=Xh eS;clear eS
 go_enter Tryz.func9,Tryz.ntmps9
 go_upto_region 2 with(go_at_call 37;(with_reducible refine(HSY.out).mono ?_);rintro e W1 ⟨v,rfl,o1⟩;obtain⟨g,q,rfl,hq,-,-,-,-⟩:=o1.own.at (by have:=HSL.out;omega);have sS:SlB W1 (some ⟨g,0,none⟩) S:=(by obtain⟨p,c,e,-,s⟩:=o1.sl;cases e;exact s);have E:=o1.ext;clear o1)
 go_upto_region 2 with(fail)
 refine wp_region_lit ?_;refine JM (R:=fun v w'=>(fun v _=>v= .tuple #[.agg (agv wA),.int .i64 0]) v w'∧Ext W1 w') rfl (by kernel_rfl) (Zt (Qx1 W1)) ?_;rintro _ X2_1 ⟨rfl,gX2_1⟩;have E:=E.tr gX2_1;have sS:=sS.ext gX2_1;have eC:=Ext.rf X2_1;refine listV (v:= .tuple #[.agg (agv wA),.int .i64 0]) (w':=X2_1) rfl (by kernel_rfl) ?_;refine listV (v:= .agg (agv wA)) (w':=X2_1) rfl (by kernel_rfl) ?_;refine listV (v:= .int .i64 0) (w':=X2_1) rfl (by kernel_rfl) ?_;refine listV rfl (QC _ _ _ _ _ _ _) ?_;obtain⟨b3,e3⟩: ∃b,X2_1.heap.size=b:=⟨_,rfl⟩;obtain⟨X2_2,hX2_2⟩: ∃N,X2_1.alloc (.cells (agv agz) 27)=N:=⟨_,rfl⟩;have r3:RowZ X2_2 b3 (agv agz):=by rw [←hX2_2,←e3];exact RowZ.new _ _ _
 have l3:X2_1.heap.size≤b3:=by rw [←e3];exact eC.size
 have g1:Ext X2_1 X2_2:=by rw [←hX2_2];exact Ext.al (Ext.rf _) _
 have eC:=eC.tr g1;rw [hX2_2,e3];clear hX2_2 e3 g1;refine Zh rfl (Zp (B:=b3) (cs:=agv wA) (by rw [r3.r];exact Qh) r3.z Qh ZN _ _ _ _ _ _ _ _ (by kernel_rfl) (by kernel_rfl)) ?_;obtain⟨X2_3,hX2_3⟩: ∃X2_3,Qe X2_2 b3 0 (agv wA)=X2_3:=⟨_,rfl⟩;have gS:Mv (fun q=>q=b3) X2_2 X2_3:=by rw [←hX2_3];exact Mv.sa _ rfl (Mv.refl _ _)
 have r3:RowZ X2_3 b3 (agv wA):=by rw [←hX2_3];exact r3.all _ (Qh.trans Qh.symm)
 have eC:Ext X2_1 X2_3:=by rw [←hX2_3];exact Ext.sa _ l3 eC
 clear gS;rw [hX2_3];clear hX2_3;refine listV (v:= .int .i64 0) (w':=X2_3) rfl (by kernel_rfl) ?_;refine wpList_nil ?_;have HX:=Xh eC;clear eC;have E:=E.tr HX.out;have sS:=sS.ext HX.out;clear HX l3;go_simp
 go_upto_region 3 with(fail)
 refine wp_region_lit ?_;refine JM (R:=fun v w'=>(fun v _=>v= .tuple #[.agg (agv agz),.int .i64 2]) v w'∧Ext X2_3 w') rfl (by kernel_rfl) (Zt (Qx2 X2_3)) ?_;rintro _ X3_1 ⟨rfl,gX3_1⟩;have E:=E.tr gX3_1;have sS:=sS.ext gX3_1;have r3:=r3.ext gX3_1;have eC:=Ext.rf X3_1;refine listV (v:= .tuple #[.agg (agv agz),.int .i64 2]) (w':=X3_1) rfl (by kernel_rfl) ?_;refine listV (v:= .agg (agv agz)) (w':=X3_1) rfl (by kernel_rfl) ?_;refine listV (v:= .int .i64 2) (w':=X3_1) rfl (by kernel_rfl) ?_;refine listV rfl (QC _ _ _ _ _ _ _) ?_;obtain⟨b5,e5⟩: ∃b,X3_1.heap.size=b:=⟨_,rfl⟩;obtain⟨X3_2,hX3_2⟩: ∃N,X3_1.alloc (.cells (agv agz) 27)=N:=⟨_,rfl⟩;have r5:RowZ X3_2 b5 (agv agz):=by rw [←hX3_2,←e5];exact RowZ.new _ _ _
 have l5:X3_1.heap.size≤b5:=by rw [←e5];exact eC.size
 have g1:Ext X3_1 X3_2:=by rw [←hX3_2];exact Ext.al (Ext.rf _) _
 have eC:=eC.tr g1;rw [hX3_2,e5];clear hX3_2 e5 g1;refine Zh rfl (Zp (B:=b5) (cs:=agv agz) (by rw [r5.r];exact Qh) r5.z Qh ZN _ _ _ _ _ _ _ _ (by kernel_rfl) (by kernel_rfl)) ?_;obtain⟨X3_3,hX3_3⟩: ∃X3_3,Qe X3_2 b5 0 (agv agz)=X3_3:=⟨_,rfl⟩;have gS:Mv (fun q=>q=b5) X3_2 X3_3:=by rw [←hX3_3];exact Mv.sa _ rfl (Mv.refl _ _)
 have r5:RowZ X3_3 b5 (agv agz):=by rw [←hX3_3];exact r5.all _ (Qh.trans Qh.symm)
 have eC:Ext X3_1 X3_3:=by rw [←hX3_3];exact Ext.sa _ l5 eC
 clear gS;rw [hX3_3];clear hX3_3;refine listV (v:= .int .i64 2) (w':=X3_3) rfl (by kernel_rfl) ?_;refine wpList_nil ?_;have HX:=Xh eC;clear eC;have E:=E.tr HX.out;have sS:=sS.ext HX.out;have r3:=r3.ext HX.out;clear HX l5;go_simp
 go_upto_region 4 with(fail)
 refine wp_region_lit ?_;refine listV (v:= .agg (agv wA)) (w':=X3_3) rfl ((ZI (C:=fun _=>False) r3 (fun h=>h) _ _ _ _ _ _ _ (by kernel_rfl)) _ (Mv.refl (fun _=>False) _)) ?_;refine listV (v:= .slice (some ⟨g,0,none⟩) S.length q) (w':=X3_3) rfl (by kernel_rfl) ?_;refine JM (R:=fun v w'=>(InW (fun p c=>{wA with p:=p,xs:= [],c:=c}) 15 [] []) v w'∧Ext X3_3 w') rfl (by kernel_rfl) (QwM HSE.out sS hq) ?_;rintro _ X4_1 ⟨⟨p7,c7,ep7,ec7,sp7,sc7,rfl,-,-⟩,gX4_1⟩;have E:=E.tr gX4_1;have sS:=sS.ext gX4_1;have r3:=r3.ext gX4_1;have eC:=Ext.rf X4_1;refine listV (v:= .tuple #[.agg (agv {wA with p:=p7,xs:= [],c:=c7}),.agg (dnv ⟨15,ep7,0,ec7,sp7,0,sc7⟩)]) (w':=X4_1) rfl (by kernel_rfl) ?_;refine listV (v:= .agg (agv {wA with p:=p7,xs:= [],c:=c7})) (w':=X4_1) rfl (by kernel_rfl) ?_;refine listV (v:= .agg (dnv ⟨15,ep7,0,ec7,sp7,0,sc7⟩)) (w':=X4_1) rfl (by kernel_rfl) ?_;refine listV rfl (QC _ _ _ _ _ _ _) ?_;obtain⟨b7,e7⟩: ∃b,X4_1.heap.size=b:=⟨_,rfl⟩;obtain⟨X4_2,hX4_2⟩: ∃N,X4_1.alloc (.cells (agv agz) 27)=N:=⟨_,rfl⟩;have r7:RowZ X4_2 b7 (agv agz):=by rw [←hX4_2,←e7];exact RowZ.new _ _ _
 have l7:X4_1.heap.size≤b7:=by rw [←e7];exact eC.size
 have g1:Ext X4_1 X4_2:=by rw [←hX4_2];exact Ext.al (Ext.rf _) _
 have eC:=eC.tr g1;rw [hX4_2,e7];clear hX4_2 e7 g1;refine listV rfl (QcS _ _ _ _ _ _ _) ?_;obtain⟨b8,e8⟩: ∃b,X4_2.heap.size=b:=⟨_,rfl⟩;obtain⟨X4_3,hX4_3⟩: ∃N,X4_2.alloc (.cells (#[.int .u8 0,.slice none 0 0,.slice none 0 0]) 42)=N:=⟨_,rfl⟩;have n7_8:b7<b8:=by have:=r7.l;unfold Lt at this;omega
 have r8:RowZ X4_3 b8 (#[.int .u8 0,.slice none 0 0,.slice none 0 0]):=by rw [←hX4_3,←e8];exact RowZ.new _ _ _
 have l8:X4_1.heap.size≤b8:=by rw [←e8];exact eC.size
 have g1:Ext X4_2 X4_3:=by rw [←hX4_3];exact Ext.al (Ext.rf _) _
 have eC:=eC.tr g1;have r7:=r7.ext g1;rw [hX4_3,e8];clear hX4_3 e8 g1;refine Zh rfl (Zp (B:=b7) (cs:=agv {wA with p:=p7,xs:= [],c:=c7}) (by rw [r7.r];exact Qh) r7.z Qh ZN _ _ _ _ _ _ _ _ (by kernel_rfl) (by kernel_rfl)) ?_;obtain⟨X4_4,hX4_4⟩: ∃X4_4,Qe X4_3 b7 0 (agv {wA with p:=p7,xs:= [],c:=c7})=X4_4:=⟨_,rfl⟩;have gS:Mv (fun q=>q=b7) X4_3 X4_4:=by rw [←hX4_4];exact Mv.sa _ rfl (Mv.refl _ _)
 have r7:RowZ X4_4 b7 (agv {wA with p:=p7,xs:= [],c:=c7}):=by rw [←hX4_4];exact r7.all _ (Qh.trans Qh.symm)
 have eC:Ext X4_1 X4_4:=by rw [←hX4_4];exact Ext.sa _ l7 eC
 have r8:=r8.mv gS (by omega);clear gS;rw [hX4_4];clear hX4_4;refine Zh rfl (YV (B:=b8) (cs:=dnv ⟨15,ep7,0,ec7,sp7,0,sc7⟩) (by rw [r8.r];rfl) r8.z rfl (by simp [go_sem,dnv]) _ _ _ _ _ _ _ _ (by kernel_rfl) (by kernel_rfl)) ?_;obtain⟨X4_5,hX4_5⟩: ∃X4_5,Qe X4_4 b8 0 (dnv ⟨15,ep7,0,ec7,sp7,0,sc7⟩)=X4_5:=⟨_,rfl⟩;have gS:Mv (fun q=>q=b8) X4_4 X4_5:=by rw [←hX4_5];exact Mv.sa _ rfl (Mv.refl _ _)
 have r8:RowZ X4_5 b8 (dnv ⟨15,ep7,0,ec7,sp7,0,sc7⟩):=by rw [←hX4_5];exact r8.all _ rfl
 have eC:Ext X4_1 X4_5:=by rw [←hX4_5];exact Ext.sa _ l8 eC
 have r7:=r7.mv gS (by omega);clear gS;rw [hX4_5];clear hX4_5;refine wpList_nil ?_;have HX:=Xh eC;clear eC;have E:=E.tr HX.out;have sS:=sS.ext HX.out;have r3:=r3.ext HX.out;clear HX l7 l8;go_simp
 go_upto_region 5 with(fail)
 refine wp_region_lit ?_;refine listV (v:= .agg (agv wA)) (w':=X4_5) rfl ((ZI (C:=fun _=>False) r3 (fun h=>h) _ _ _ _ _ _ _ (by kernel_rfl)) _ (Mv.refl (fun _=>False) _)) ?_;refine listV (v:= .int .i64 13) (w':=X4_5) rfl (by kernel_rfl) ?_;refine listV (v:= .agg (ctv wX2)) (w':=X4_5) rfl (by kernel_rfl) ?_;refine JM (R:=fun v w'=>(QwP) v w'∧Ext X4_5 w') rfl (by kernel_rfl) (QwQ X4_5) ?_;rintro _ X5_1 ⟨⟨p9,c9,q10,d10,rfl⟩,gX5_1⟩;have E:=E.tr gX5_1;have sS:=sS.ext gX5_1;have r3:=r3.ext gX5_1;have r8:=r8.ext gX5_1;have eC:=Ext.rf X5_1;refine listV (v:= .tuple #[.agg (agv (wB p9 c9)),.slice q10 0 d10,.agg (ctv ⟨4,2,2,13,1,0,0,0,0,none,0,0⟩),.bool true]) (w':=X5_1) rfl (by kernel_rfl) ?_;refine listV (v:= .agg (agv (wB p9 c9))) (w':=X5_1) rfl (by kernel_rfl) ?_;refine listV (v:= .slice q10 0 d10) (w':=X5_1) rfl (by kernel_rfl) ?_;refine listV (v:= .agg (ctv ⟨4,2,2,13,1,0,0,0,0,none,0,0⟩)) (w':=X5_1) rfl (by kernel_rfl) ?_;refine listV (v:= .bool true) (w':=X5_1) rfl (by kernel_rfl) ?_;refine listV rfl (QC _ _ _ _ _ _ _) ?_;obtain⟨b9,e9⟩: ∃b,X5_1.heap.size=b:=⟨_,rfl⟩;obtain⟨X5_2,hX5_2⟩: ∃N,X5_1.alloc (.cells (agv agz) 27)=N:=⟨_,rfl⟩;have r9:RowZ X5_2 b9 (agv agz):=by rw [←hX5_2,←e9];exact RowZ.new _ _ _
 have l9:X5_1.heap.size≤b9:=by rw [←e9];exact eC.size
 have g1:Ext X5_1 X5_2:=by rw [←hX5_2];exact Ext.al (Ext.rf _) _
 have eC:=eC.tr g1;rw [hX5_2,e9];clear hX5_2 e9 g1;refine listV rfl (Qfk _ _ _ _ _ _ _) ?_;obtain⟨b11,e11⟩: ∃b,X5_2.heap.size=b:=⟨_,rfl⟩;obtain⟨X5_3,hX5_3⟩: ∃N,X5_2.alloc (.cells (ctv ⟨0,0,0,0,0,0,0,0,0,none,0,0⟩) 33)=N:=⟨_,rfl⟩;have n9_11:b9<b11:=by have:=r9.l;unfold Lt at this;omega
 have r11:RowZ X5_3 b11 (ctv ⟨0,0,0,0,0,0,0,0,0,none,0,0⟩):=by rw [←hX5_3,←e11];exact RowZ.new _ _ _
 have l11:X5_1.heap.size≤b11:=by rw [←e11];exact eC.size
 have g1:Ext X5_2 X5_3:=by rw [←hX5_3];exact Ext.al (Ext.rf _) _
 have eC:=eC.tr g1;have r9:=r9.ext g1;rw [hX5_3,e11];clear hX5_3 e11 g1;refine Zh rfl (Zp (B:=b9) (cs:=agv (wB p9 c9)) (by rw [r9.r];exact Qh) r9.z Qh ZN _ _ _ _ _ _ _ _ (by kernel_rfl) (by kernel_rfl)) ?_;obtain⟨X5_4,hX5_4⟩: ∃X5_4,Qe X5_3 b9 0 (agv (wB p9 c9))=X5_4:=⟨_,rfl⟩;have gS:Mv (fun q=>q=b9) X5_3 X5_4:=by rw [←hX5_4];exact Mv.sa _ rfl (Mv.refl _ _)
 have r9:RowZ X5_4 b9 (agv (wB p9 c9)):=by rw [←hX5_4];exact r9.all _ (Qh.trans Qh.symm)
 have eC:Ext X5_1 X5_4:=by rw [←hX5_4];exact Ext.sa _ l9 eC
 have r11:=r11.mv gS (by omega);clear gS;rw [hX5_4];clear hX5_4;refine listV (v:= .slice q10 0 d10) (w':=X5_4) rfl (by kernel_rfl) ?_;refine Zh rfl (JI (B:=b11) (cs:=ctv ⟨4,2,2,13,1,0,0,0,0,none,0,0⟩) (by rw [r11.r];exact Q1) r11.z Q1 Qca _ _ _ _ _ _ _ _ (by kernel_rfl) (by kernel_rfl)) ?_;obtain⟨X5_5,hX5_5⟩: ∃X5_5,Qe X5_4 b11 0 (ctv ⟨4,2,2,13,1,0,0,0,0,none,0,0⟩)=X5_5:=⟨_,rfl⟩;have gS:Mv (fun q=>q=b11) X5_4 X5_5:=by rw [←hX5_5];exact Mv.sa _ rfl (Mv.refl _ _)
 have r11:RowZ X5_5 b11 (ctv ⟨4,2,2,13,1,0,0,0,0,none,0,0⟩):=by rw [←hX5_5];exact r11.all _ (Q1.trans Q1.symm)
 have eC:Ext X5_1 X5_5:=by rw [←hX5_5];exact Ext.sa _ l11 eC
 have r9:=r9.mv gS (by omega);clear gS;rw [hX5_5];clear hX5_5;refine listV (v:= .bool true) (w':=X5_5) rfl (by kernel_rfl) ?_;refine wpList_nil ?_;have HX:=Xh eC;clear eC;have E:=E.tr HX.out;have sS:=sS.ext HX.out;have r3:=r3.ext HX.out;have r8:=r8.ext HX.out;clear HX l9 l11;go_simp
 go_upto_region 6 with(fail)
 refine wp_region_lit ?_;refine listV (v:= .agg (agv wA)) (w':=X5_5) rfl ((ZI (C:=fun _=>False) r3 (fun h=>h) _ _ _ _ _ _ _ (by kernel_rfl)) _ (Mv.refl (fun _=>False) _)) ?_;refine listV (v:= .int .i64 13) (w':=X5_5) rfl (by kernel_rfl) ?_;refine listV (v:= .agg (ctv wX3)) (w':=X5_5) rfl (by kernel_rfl) ?_;refine JM (R:=fun v w'=>(QwR) v w'∧Ext X5_5 w') rfl (by kernel_rfl) (QwS X5_5) ?_;rintro _ X6_1 ⟨⟨A13,q14,n14,d14,K15,rfl⟩,gX6_1⟩;have E:=E.tr gX6_1;have sS:=sS.ext gX6_1;have r3:=r3.ext gX6_1;have r8:=r8.ext gX6_1;have r9:=r9.ext gX6_1;have r11:=r11.ext gX6_1;have eC:=Ext.rf X6_1;refine listV (v:= .tuple #[.agg (agv A13),.slice q14 n14 d14,.agg (ctv K15),.bool false]) (w':=X6_1) rfl (by kernel_rfl) ?_;refine listV (v:= .agg (agv A13)) (w':=X6_1) rfl (by kernel_rfl) ?_;refine listV (v:= .slice q14 n14 d14) (w':=X6_1) rfl (by kernel_rfl) ?_;refine listV (v:= .agg (ctv K15)) (w':=X6_1) rfl (by kernel_rfl) ?_;refine listV (v:= .bool false) (w':=X6_1) rfl (by kernel_rfl) ?_;refine listV rfl (QC _ _ _ _ _ _ _) ?_;obtain⟨b13,e13⟩: ∃b,X6_1.heap.size=b:=⟨_,rfl⟩;obtain⟨X6_2,hX6_2⟩: ∃N,X6_1.alloc (.cells (agv agz) 27)=N:=⟨_,rfl⟩;have r13:RowZ X6_2 b13 (agv agz):=by rw [←hX6_2,←e13];exact RowZ.new _ _ _
 have l13:X6_1.heap.size≤b13:=by rw [←e13];exact eC.size
 have g1:Ext X6_1 X6_2:=by rw [←hX6_2];exact Ext.al (Ext.rf _) _
 have eC:=eC.tr g1;rw [hX6_2,e13];clear hX6_2 e13 g1;refine listV rfl (Qfk _ _ _ _ _ _ _) ?_;obtain⟨b15,e15⟩: ∃b,X6_2.heap.size=b:=⟨_,rfl⟩;obtain⟨X6_3,hX6_3⟩: ∃N,X6_2.alloc (.cells (ctv ⟨0,0,0,0,0,0,0,0,0,none,0,0⟩) 33)=N:=⟨_,rfl⟩;have n13_15:b13<b15:=by have:=r13.l;unfold Lt at this;omega
 have r15:RowZ X6_3 b15 (ctv ⟨0,0,0,0,0,0,0,0,0,none,0,0⟩):=by rw [←hX6_3,←e15];exact RowZ.new _ _ _
 have l15:X6_1.heap.size≤b15:=by rw [←e15];exact eC.size
 have g1:Ext X6_2 X6_3:=by rw [←hX6_3];exact Ext.al (Ext.rf _) _
 have eC:=eC.tr g1;have r13:=r13.ext g1;rw [hX6_3,e15];clear hX6_3 e15 g1;refine Zh rfl (Zp (B:=b13) (cs:=agv A13) (by rw [r13.r];exact Qh) r13.z Qh ZN _ _ _ _ _ _ _ _ (by kernel_rfl) (by kernel_rfl)) ?_;obtain⟨X6_4,hX6_4⟩: ∃X6_4,Qe X6_3 b13 0 (agv A13)=X6_4:=⟨_,rfl⟩;have gS:Mv (fun q=>q=b13) X6_3 X6_4:=by rw [←hX6_4];exact Mv.sa _ rfl (Mv.refl _ _)
 have r13:RowZ X6_4 b13 (agv A13):=by rw [←hX6_4];exact r13.all _ (Qh.trans Qh.symm)
 have eC:Ext X6_1 X6_4:=by rw [←hX6_4];exact Ext.sa _ l13 eC
 have r15:=r15.mv gS (by omega);clear gS;rw [hX6_4];clear hX6_4;refine listV (v:= .slice q14 n14 d14) (w':=X6_4) rfl (by kernel_rfl) ?_;refine Zh rfl (JI (B:=b15) (cs:=ctv K15) (by rw [r15.r];exact Q1) r15.z Q1 Qca _ _ _ _ _ _ _ _ (by kernel_rfl) (by kernel_rfl)) ?_;obtain⟨X6_5,hX6_5⟩: ∃X6_5,Qe X6_4 b15 0 (ctv K15)=X6_5:=⟨_,rfl⟩;have gS:Mv (fun q=>q=b15) X6_4 X6_5:=by rw [←hX6_5];exact Mv.sa _ rfl (Mv.refl _ _)
 have r15:RowZ X6_5 b15 (ctv K15):=by rw [←hX6_5];exact r15.all _ (Q1.trans Q1.symm)
 have eC:Ext X6_1 X6_5:=by rw [←hX6_5];exact Ext.sa _ l15 eC
 have r13:=r13.mv gS (by omega);clear gS;rw [hX6_5];clear hX6_5;refine listV (v:= .bool false) (w':=X6_5) rfl (by kernel_rfl) ?_;refine wpList_nil ?_;have HX:=Xh eC;clear eC;have E:=E.tr HX.out;have sS:=sS.ext HX.out;have r3:=r3.ext HX.out;have r8:=r8.ext HX.out;have r9:=r9.ext HX.out;have r11:=r11.ext HX.out;clear HX l13 l15;go_simp
 go_upto_region 7 with(fail)
 refine wp_region_lit ?_;refine listV (v:= .agg (agv (wB p9 c9))) (w':=X6_5) rfl ((ZI (C:=fun _=>False) r9 (fun h=>h) _ _ _ _ _ _ _ (by kernel_rfl)) _ (Mv.refl (fun _=>False) _)) ?_;refine listV (v:= .slice (some ⟨g,0,none⟩) S.length q) (w':=X6_5) rfl (by kernel_rfl) ?_;refine JM (R:=fun v w'=>(InW wC 0 [⟨ZZ,5,5⟩] [⟨1,2,ZZ⟩]) v w'∧Ext X6_5 w') rfl (by kernel_rfl) (QwN HSE.out p9 c9 sS hq) ?_;rintro _ X7_1 ⟨⟨p17,c17,ep18,ec18,sp18,sc18,rfl,s17,s18⟩,gX7_1⟩;have E:=E.tr gX7_1;have sS:=sS.ext gX7_1;have r3:=r3.ext gX7_1;have r8:=r8.ext gX7_1;have r9:=r9.ext gX7_1;have r11:=r11.ext gX7_1;have eC:=Ext.rf X7_1;refine listV (v:= .tuple #[.agg (agv (wC p17 c17)),.agg (dnv ⟨0,ep18,1,ec18,sp18,0,sc18⟩)]) (w':=X7_1) rfl (by kernel_rfl) ?_;refine listV (v:= .agg (agv (wC p17 c17))) (w':=X7_1) rfl (by kernel_rfl) ?_;refine listV (v:= .agg (dnv ⟨0,ep18,1,ec18,sp18,0,sc18⟩)) (w':=X7_1) rfl (by kernel_rfl) ?_;refine listV rfl (QC _ _ _ _ _ _ _) ?_;obtain⟨b17,e17⟩: ∃b,X7_1.heap.size=b:=⟨_,rfl⟩;obtain⟨X7_2,hX7_2⟩: ∃N,X7_1.alloc (.cells (agv agz) 27)=N:=⟨_,rfl⟩;have r17:RowZ X7_2 b17 (agv agz):=by rw [←hX7_2,←e17];exact RowZ.new _ _ _
 have l17:X7_1.heap.size≤b17:=by rw [←e17];exact eC.size
 have g1:Ext X7_1 X7_2:=by rw [←hX7_2];exact Ext.al (Ext.rf _) _
 have eC:=eC.tr g1;rw [hX7_2,e17];clear hX7_2 e17 g1;refine listV rfl (QcS _ _ _ _ _ _ _) ?_;obtain⟨b18,e18⟩: ∃b,X7_2.heap.size=b:=⟨_,rfl⟩;obtain⟨X7_3,hX7_3⟩: ∃N,X7_2.alloc (.cells (#[.int .u8 0,.slice none 0 0,.slice none 0 0]) 42)=N:=⟨_,rfl⟩;have n17_18:b17<b18:=by have:=r17.l;unfold Lt at this;omega
 have r18:RowZ X7_3 b18 (#[.int .u8 0,.slice none 0 0,.slice none 0 0]):=by rw [←hX7_3,←e18];exact RowZ.new _ _ _
 have l18:X7_1.heap.size≤b18:=by rw [←e18];exact eC.size
 have g1:Ext X7_2 X7_3:=by rw [←hX7_3];exact Ext.al (Ext.rf _) _
 have eC:=eC.tr g1;have r17:=r17.ext g1;rw [hX7_3,e18];clear hX7_3 e18 g1;refine Zh rfl (Zp (B:=b17) (cs:=agv (wC p17 c17)) (by rw [r17.r];exact Qh) r17.z Qh ZN _ _ _ _ _ _ _ _ (by kernel_rfl) (by kernel_rfl)) ?_;obtain⟨X7_4,hX7_4⟩: ∃X7_4,Qe X7_3 b17 0 (agv (wC p17 c17))=X7_4:=⟨_,rfl⟩;have gS:Mv (fun q=>q=b17) X7_3 X7_4:=by rw [←hX7_4];exact Mv.sa _ rfl (Mv.refl _ _)
 have r17:RowZ X7_4 b17 (agv (wC p17 c17)):=by rw [←hX7_4];exact r17.all _ (Qh.trans Qh.symm)
 have eC:Ext X7_1 X7_4:=by rw [←hX7_4];exact Ext.sa _ l17 eC
 have r18:=r18.mv gS (by omega);clear gS;rw [hX7_4];clear hX7_4;refine Zh rfl (YV (B:=b18) (cs:=dnv ⟨0,ep18,1,ec18,sp18,0,sc18⟩) (by rw [r18.r];rfl) r18.z rfl (by simp [go_sem,dnv]) _ _ _ _ _ _ _ _ (by kernel_rfl) (by kernel_rfl)) ?_;obtain⟨X7_5,hX7_5⟩: ∃X7_5,Qe X7_4 b18 0 (dnv ⟨0,ep18,1,ec18,sp18,0,sc18⟩)=X7_5:=⟨_,rfl⟩;have gS:Mv (fun q=>q=b18) X7_4 X7_5:=by rw [←hX7_5];exact Mv.sa _ rfl (Mv.refl _ _)
 have r18:RowZ X7_5 b18 (dnv ⟨0,ep18,1,ec18,sp18,0,sc18⟩):=by rw [←hX7_5];exact r18.all _ rfl
 have eC:Ext X7_1 X7_5:=by rw [←hX7_5];exact Ext.sa _ l18 eC
 have r17:=r17.mv gS (by omega);clear gS;rw [hX7_5];clear hX7_5;refine wpList_nil ?_;have HX:=Xh eC;clear eC;have E:=E.tr HX.out;have sS:=sS.ext HX.out;have r3:=r3.ext HX.out;have r8:=r8.ext HX.out;have r9:=r9.ext HX.out;have r11:=r11.ext HX.out;have s17:=s17.ext HX.out;have s18:=s18.ext HX.out;clear HX l17 l18;go_simp
 go_upto_region 8 with(fail)
 refine wp_region_lit ?_;refine listV (v:= .agg (agv (wC p17 c17))) (w':=X7_5) rfl ((ZI (C:=fun _=>False) r17 (fun h=>h) _ _ _ _ _ _ _ (by kernel_rfl)) _ (Mv.refl (fun _=>False) _)) ?_;refine listV (v:= .slice (some ⟨g,0,none⟩) S.length q) (w':=X7_5) rfl (by kernel_rfl) ?_;refine JM (R:=fun v w'=>(InW wD 0 [⟨ZZ,5,6⟩] [⟨2,2,ZZ⟩]) v w'∧Ext X7_5 w') rfl (by kernel_rfl) (QwO HSE.out p17 c17 s17 sS hq) ?_;rintro _ X8_1 ⟨⟨p19,c19,ep20,ec20,sp20,sc20,rfl,s19,s20⟩,gX8_1⟩;have E:=E.tr gX8_1;have sS:=sS.ext gX8_1;have r3:=r3.ext gX8_1;have r8:=r8.ext gX8_1;have r9:=r9.ext gX8_1;have r11:=r11.ext gX8_1;have s17:=s17.ext gX8_1;have s18:=s18.ext gX8_1;have r17:=r17.ext gX8_1;have r18:=r18.ext gX8_1;have eC:=Ext.rf X8_1;refine listV (v:= .tuple #[.agg (agv (wD p19 c19)),.agg (dnv ⟨0,ep20,1,ec20,sp20,0,sc20⟩)]) (w':=X8_1) rfl (by kernel_rfl) ?_;refine listV (v:= .agg (agv (wD p19 c19))) (w':=X8_1) rfl (by kernel_rfl) ?_;refine listV (v:= .agg (dnv ⟨0,ep20,1,ec20,sp20,0,sc20⟩)) (w':=X8_1) rfl (by kernel_rfl) ?_;refine listV rfl (QC _ _ _ _ _ _ _) ?_;obtain⟨b19,e19⟩: ∃b,X8_1.heap.size=b:=⟨_,rfl⟩;obtain⟨X8_2,hX8_2⟩: ∃N,X8_1.alloc (.cells (agv agz) 27)=N:=⟨_,rfl⟩;have r19:RowZ X8_2 b19 (agv agz):=by rw [←hX8_2,←e19];exact RowZ.new _ _ _
 have l19:X8_1.heap.size≤b19:=by rw [←e19];exact eC.size
 have g1:Ext X8_1 X8_2:=by rw [←hX8_2];exact Ext.al (Ext.rf _) _
 have eC:=eC.tr g1;rw [hX8_2,e19];clear hX8_2 e19 g1;refine listV rfl (QcS _ _ _ _ _ _ _) ?_;obtain⟨b20,e20⟩: ∃b,X8_2.heap.size=b:=⟨_,rfl⟩;obtain⟨X8_3,hX8_3⟩: ∃N,X8_2.alloc (.cells (#[.int .u8 0,.slice none 0 0,.slice none 0 0]) 42)=N:=⟨_,rfl⟩;have n19_20:b19<b20:=by have:=r19.l;unfold Lt at this;omega
 have r20:RowZ X8_3 b20 (#[.int .u8 0,.slice none 0 0,.slice none 0 0]):=by rw [←hX8_3,←e20];exact RowZ.new _ _ _
 have l20:X8_1.heap.size≤b20:=by rw [←e20];exact eC.size
 have g1:Ext X8_2 X8_3:=by rw [←hX8_3];exact Ext.al (Ext.rf _) _
 have eC:=eC.tr g1;have r19:=r19.ext g1;rw [hX8_3,e20];clear hX8_3 e20 g1;refine Zh rfl (Zp (B:=b19) (cs:=agv (wD p19 c19)) (by rw [r19.r];exact Qh) r19.z Qh ZN _ _ _ _ _ _ _ _ (by kernel_rfl) (by kernel_rfl)) ?_;obtain⟨X8_4,hX8_4⟩: ∃X8_4,Qe X8_3 b19 0 (agv (wD p19 c19))=X8_4:=⟨_,rfl⟩;have gS:Mv (fun q=>q=b19) X8_3 X8_4:=by rw [←hX8_4];exact Mv.sa _ rfl (Mv.refl _ _)
 have r19:RowZ X8_4 b19 (agv (wD p19 c19)):=by rw [←hX8_4];exact r19.all _ (Qh.trans Qh.symm)
 have eC:Ext X8_1 X8_4:=by rw [←hX8_4];exact Ext.sa _ l19 eC
 have r20:=r20.mv gS (by omega);clear gS;rw [hX8_4];clear hX8_4;refine Zh rfl (YV (B:=b20) (cs:=dnv ⟨0,ep20,1,ec20,sp20,0,sc20⟩) (by rw [r20.r];rfl) r20.z rfl (by simp [go_sem,dnv]) _ _ _ _ _ _ _ _ (by kernel_rfl) (by kernel_rfl)) ?_;obtain⟨X8_5,hX8_5⟩: ∃X8_5,Qe X8_4 b20 0 (dnv ⟨0,ep20,1,ec20,sp20,0,sc20⟩)=X8_5:=⟨_,rfl⟩;have gS:Mv (fun q=>q=b20) X8_4 X8_5:=by rw [←hX8_5];exact Mv.sa _ rfl (Mv.refl _ _)
 have r20:RowZ X8_5 b20 (dnv ⟨0,ep20,1,ec20,sp20,0,sc20⟩):=by rw [←hX8_5];exact r20.all _ rfl
 have eC:Ext X8_1 X8_5:=by rw [←hX8_5];exact Ext.sa _ l20 eC
 have r19:=r19.mv gS (by omega);clear gS;rw [hX8_5];clear hX8_5;refine wpList_nil ?_;have HX:=Xh eC;clear eC;have E:=E.tr HX.out;have sS:=sS.ext HX.out;have r3:=r3.ext HX.out;have r8:=r8.ext HX.out;have r9:=r9.ext HX.out;have r11:=r11.ext HX.out;have s17:=s17.ext HX.out;have s18:=s18.ext HX.out;have r17:=r17.ext HX.out;have r18:=r18.ext HX.out;have s19:=s19.ext HX.out;have s20:=s20.ext HX.out;clear HX l19 l20;go_simp
 go_upto_region 9 with(fail)
 refine wp_region_lit ?_;refine listV (v:= .agg (agv (wD p19 c19))) (w':=X8_5) rfl ((ZI (C:=fun _=>False) r19 (fun h=>h) _ _ _ _ _ _ _ (by kernel_rfl)) _ (Mv.refl (fun _=>False) _)) ?_;refine JM (R:=fun v w'=>(TiW wD [⟨ZZ,5,6⟩] []) v w'∧Ext X8_5 w') rfl (by kernel_rfl) (Que p19 c19 X8_5 s19) ?_;rintro _ X9_1 ⟨⟨p21,c21,q22,d22,rfl,s21,-⟩,gX9_1⟩;have E:=E.tr gX9_1;have sS:=sS.ext gX9_1;have r3:=r3.ext gX9_1;have r8:=r8.ext gX9_1;have r9:=r9.ext gX9_1;have r11:=r11.ext gX9_1;have s17:=s17.ext gX9_1;have s18:=s18.ext gX9_1;have r17:=r17.ext gX9_1;have r18:=r18.ext gX9_1;have s19:=s19.ext gX9_1;have s20:=s20.ext gX9_1;have r19:=r19.ext gX9_1;have r20:=r20.ext gX9_1;have eC:=Ext.rf X9_1;refine listV (v:= .tuple #[.agg (agv (wD p21 c21)),.slice q22 0 d22]) (w':=X9_1) rfl (by kernel_rfl) ?_;refine listV (v:= .agg (agv (wD p21 c21))) (w':=X9_1) rfl (by kernel_rfl) ?_;refine listV (v:= .slice q22 0 d22) (w':=X9_1) rfl (by kernel_rfl) ?_;refine listV rfl (QC _ _ _ _ _ _ _) ?_;obtain⟨b21,e21⟩: ∃b,X9_1.heap.size=b:=⟨_,rfl⟩;obtain⟨X9_2,hX9_2⟩: ∃N,X9_1.alloc (.cells (agv agz) 27)=N:=⟨_,rfl⟩;have r21:RowZ X9_2 b21 (agv agz):=by rw [←hX9_2,←e21];exact RowZ.new _ _ _
 have l21:X9_1.heap.size≤b21:=by rw [←e21];exact eC.size
 have g1:Ext X9_1 X9_2:=by rw [←hX9_2];exact Ext.al (Ext.rf _) _
 have eC:=eC.tr g1;rw [hX9_2,e21];clear hX9_2 e21 g1;refine Zh rfl (Zp (B:=b21) (cs:=agv (wD p21 c21)) (by rw [r21.r];exact Qh) r21.z Qh ZN _ _ _ _ _ _ _ _ (by kernel_rfl) (by kernel_rfl)) ?_;obtain⟨X9_3,hX9_3⟩: ∃X9_3,Qe X9_2 b21 0 (agv (wD p21 c21))=X9_3:=⟨_,rfl⟩;have gS:Mv (fun q=>q=b21) X9_2 X9_3:=by rw [←hX9_3];exact Mv.sa _ rfl (Mv.refl _ _)
 have r21:RowZ X9_3 b21 (agv (wD p21 c21)):=by rw [←hX9_3];exact r21.all _ (Qh.trans Qh.symm)
 have eC:Ext X9_1 X9_3:=by rw [←hX9_3];exact Ext.sa _ l21 eC
 clear gS;rw [hX9_3];clear hX9_3;refine listV (v:= .slice q22 0 d22) (w':=X9_3) rfl (by kernel_rfl) ?_;refine wpList_nil ?_;have HX:=Xh eC;clear eC;have E:=E.tr HX.out;have sS:=sS.ext HX.out;have r3:=r3.ext HX.out;have r8:=r8.ext HX.out;have r9:=r9.ext HX.out;have r11:=r11.ext HX.out;have s17:=s17.ext HX.out;have s18:=s18.ext HX.out;have r17:=r17.ext HX.out;have r18:=r18.ext HX.out;have s19:=s19.ext HX.out;have s20:=s20.ext HX.out;have r19:=r19.ext HX.out;have r20:=r20.ext HX.out;have s21:=s21.ext HX.out;clear HX l21;go_simp
 go_upto_region 10 with(fail)
 refine wp_region_lit ?_;refine listV (v:= .agg (agv (wD p19 c19))) (w':=X9_3) rfl ((ZI (C:=fun _=>False) r19 (fun h=>h) _ _ _ _ _ _ _ (by kernel_rfl)) _ (Mv.refl (fun _=>False) _)) ?_;refine JM (R:=fun v w'=>(TiW wE [] [⟨4,2,ZZ⟩]) v w'∧Ext X9_3 w') rfl (by kernel_rfl) (Quf p19 c19 X9_3 s19) ?_;rintro _ X10_1 ⟨⟨p23,c23,q24,d24,rfl,-,s24⟩,gX10_1⟩;have E:=E.tr gX10_1;have sS:=sS.ext gX10_1;have r3:=r3.ext gX10_1;have r8:=r8.ext gX10_1;have r9:=r9.ext gX10_1;have r11:=r11.ext gX10_1;have s17:=s17.ext gX10_1;have s18:=s18.ext gX10_1;have r17:=r17.ext gX10_1;have r18:=r18.ext gX10_1;have s19:=s19.ext gX10_1;have s20:=s20.ext gX10_1;have r19:=r19.ext gX10_1;have r20:=r20.ext gX10_1;have s21:=s21.ext gX10_1;have r21:=r21.ext gX10_1;have eC:=Ext.rf X10_1;refine listV (v:= .tuple #[.agg (agv (wE p23 c23)),.slice q24 1 d24]) (w':=X10_1) rfl (by kernel_rfl) ?_;refine listV (v:= .agg (agv (wE p23 c23))) (w':=X10_1) rfl (by kernel_rfl) ?_;refine listV (v:= .slice q24 1 d24) (w':=X10_1) rfl (by kernel_rfl) ?_;refine listV rfl (QC _ _ _ _ _ _ _) ?_;obtain⟨b23,e23⟩: ∃b,X10_1.heap.size=b:=⟨_,rfl⟩;obtain⟨X10_2,hX10_2⟩: ∃N,X10_1.alloc (.cells (agv agz) 27)=N:=⟨_,rfl⟩;have r23:RowZ X10_2 b23 (agv agz):=by rw [←hX10_2,←e23];exact RowZ.new _ _ _
 have l23:X10_1.heap.size≤b23:=by rw [←e23];exact eC.size
 have g1:Ext X10_1 X10_2:=by rw [←hX10_2];exact Ext.al (Ext.rf _) _
 have eC:=eC.tr g1;rw [hX10_2,e23];clear hX10_2 e23 g1;refine Zh rfl (Zp (B:=b23) (cs:=agv (wE p23 c23)) (by rw [r23.r];exact Qh) r23.z Qh ZN _ _ _ _ _ _ _ _ (by kernel_rfl) (by kernel_rfl)) ?_;obtain⟨X10_3,hX10_3⟩: ∃X10_3,Qe X10_2 b23 0 (agv (wE p23 c23))=X10_3:=⟨_,rfl⟩;have gS:Mv (fun q=>q=b23) X10_2 X10_3:=by rw [←hX10_3];exact Mv.sa _ rfl (Mv.refl _ _)
 have r23:RowZ X10_3 b23 (agv (wE p23 c23)):=by rw [←hX10_3];exact r23.all _ (Qh.trans Qh.symm)
 have eC:Ext X10_1 X10_3:=by rw [←hX10_3];exact Ext.sa _ l23 eC
 clear gS;rw [hX10_3];clear hX10_3;refine listV (v:= .slice q24 1 d24) (w':=X10_3) rfl (by kernel_rfl) ?_;refine wpList_nil ?_;have HX:=Xh eC;clear eC;have E:=E.tr HX.out;have sS:=sS.ext HX.out;have r3:=r3.ext HX.out;have r8:=r8.ext HX.out;have r9:=r9.ext HX.out;have r11:=r11.ext HX.out;have s17:=s17.ext HX.out;have s18:=s18.ext HX.out;have r17:=r17.ext HX.out;have r18:=r18.ext HX.out;have s19:=s19.ext HX.out;have s20:=s20.ext HX.out;have r19:=r19.ext HX.out;have r20:=r20.ext HX.out;have s21:=s21.ext HX.out;have r21:=r21.ext HX.out;have s24:=s24.ext HX.out;clear HX l23;go_simp;obtain⟨be18,oe18,rfl,z18⟩:=s18.evb;clear s18;obtain⟨be20,oe20,rfl,z20⟩:=s20.evb;clear s20;obtain⟨be24,oe24,rfl,z24⟩:=s24.evb;clear s24;have x18:X10_3.cell? ⟨b18,1,none⟩=some (.slice (some ⟨be18,oe18,none⟩) 1 ec18):=r18.cell 1 (by show 1<3;omega);have x20:X10_3.cell? ⟨b20,1,none⟩=some (.slice (some ⟨be20,oe20,none⟩) 1 ec20):=r20.cell 1 (by show 1<3;omega);have x17:X10_3.cell? ⟨b17,66,none⟩=some (.slice p17 1 c17):=by rw [Qa,r17.r];exact Qw _
 have HC:=Xh (And.intro E (And.intro r8 (And.intro r9 (And.intro r11 (And.intro s17 (And.intro z18 (And.intro r17 (And.intro r18 (And.intro s19 (And.intro z20 (And.intro r19 (And.intro r20 (And.intro s21 (And.intro r21 (And.intro z24 r23)))))))))))))));clear E r8 r9 r11 s17 z18 r17 r18 s19 z20 r19 r20 s21 r21 z24 r23 sS r3
 go_upto_region 13 with(fail)
 obtain⟨E,r8,r9,r11,s17,z18,r17,r18,s19,z20,r19,r20,s21,r21,z24,r23⟩:=HC.out;clear HC x18 x20 x17;refine QQ (fun _=>False) (by kernel_rfl) ?_;obtain⟨WW,hW⟩: ∃Wdr,World.drew X10_3=Wdr:=⟨_,rfl⟩;have gD:Ext X10_3 WW:=by rw [←hW];exact Ext.dr (Ext.rf _)
 rw [hW];clear hW;have E:=E.tr gD;have r8:=r8.ext gD;have r9:=r9.ext gD;have r11:=r11.ext gD;have s17:=s17.ext gD;have z18:=z18.ext gD;have r17:=r17.ext gD;have r18:=r18.ext gD;have s19:=s19.ext gD;have z20:=z20.ext gD;have r19:=r19.ext gD;have r20:=r20.ext gD;have s21:=s21.ext gD;have r21:=r21.ext gD;have z24:=z24.ext gD;have r23:=r23.ext gD;refine Qaf (N:=107) (R:=Qpw) (E:=((Tryz.f9.body.bind (Qg 13)).getD #[])) (by kernel_rfl) QjZ (by kernel_rfl) fun hS=> ?_;have hT:=hS.2.1;refine tMk 1 (.int .i64 0) hS.1 hT rfl fun hT=> ?_;refine tMk 3 (.bool true) hS.1 hT rfl fun hT=> ?_;refine tMk 7 (.bool true) hS.1 hT rfl fun hT=> ?_;refine tMk 15 (.int .i64 2) hS.1 hT rfl fun hT=> ?_;refine tMk 31 (.bool true) hS.1 hT rfl fun hT=> ?_;refine tMk 63 (.bool true) hS.1 hT rfl fun hT=> ?_;refine tMk 127 (.bool true) hS.1 hT rfl fun hT=> ?_;refine tMk 255 (.pointer (some ⟨b8,0,none⟩)) hS.1 hT rfl fun hT=> ?_;refine tM 511 (.int .u8 15) hS.1 hT rfl (Yl (C:=fun _=>False) (r8.cell 0 (by show 0<3;omega)) r8.l (fun h=>h) _ _ _ _ _ _ _ (by kernel_rfl)) fun hT=> ?_;refine tMk 1023 (.bool true) hS.1 hT rfl fun hT=> ?_;refine tMk 2047 (.bool true) hS.1 hT rfl fun hT=> ?_;refine tMk 4095 (.bool true) hS.1 hT rfl fun hT=> ?_;refine tMk 8191 (.slice q10 0 d10) hS.1 hT rfl fun hT=> ?_;refine tMk 16383 (.int .i64 0) hS.1 hT rfl fun hT=> ?_;have hT:=hS.2.2.1;refine tMk 32767 (.bool true) hS.1 hT rfl fun hT=> ?_;refine tMk 65535 (.bool true) hS.1 hT rfl fun hT=> ?_;refine tMk 131071 (.bool true) hS.1 hT rfl fun hT=> ?_;refine tMk 262143 (.bool true) hS.1 hT rfl fun hT=> ?_;refine tMk 524287 (.bool true) hS.1 hT rfl fun hT=> ?_;refine tMk 1048575 (.bool true) hS.1 hT rfl fun hT=> ?_;refine tMk 2097151 (.pointer (some ⟨b11,0,none⟩)) hS.1 hT rfl fun hT=> ?_;refine tM 4194303 (.int .u8 4) hS.1 hT rfl (Yl (C:=fun _=>False) (r11.cell 0 (by show 0<10;omega)) r11.l (fun h=>h) _ _ _ _ _ _ _ (by kernel_rfl)) fun hT=> ?_;refine tMk 8388607 (.bool true) hS.1 hT rfl fun hT=> ?_;refine tMk 16777215 (.bool true) hS.1 hT rfl fun hT=> ?_;refine tMk 33554431 (.bool true) hS.1 hT rfl fun hT=> ?_;refine tMk 67108863 (.pointer (some ⟨b11,1,none⟩)) hS.1 hT rfl fun hT=> ?_;refine tM 134217727 (.int .u8 2) hS.1 hT rfl (Yl (C:=fun _=>False) (r11.cell 1 (by show 1<10;omega)) r11.l (fun h=>h) _ _ _ _ _ _ _ (by kernel_rfl)) fun hT=> ?_;refine tMk 268435455 (.bool true) hS.1 hT rfl fun hT=> ?_;have hT:=hS.2.2.2.1;refine tMk 536870911 (.bool true) hS.1 hT rfl fun hT=> ?_;refine tMk 1073741823 (.bool true) hS.1 hT rfl fun hT=> ?_;refine tMk 2147483647 (.pointer (some ⟨b11,4,none⟩)) hS.1 hT rfl fun hT=> ?_;refine tM 4294967295 (.int .i64 1) hS.1 hT rfl (QX (C:=fun _=>False) (r11.cell 4 (by show 4<10;omega)) r11.l (fun h=>h) _ _ _ _ _ _ _ (by kernel_rfl)) fun hT=> ?_;refine tMk 8589934591 (.bool true) hS.1 hT rfl fun hT=> ?_;refine tMk 17179869183 (.bool true) hS.1 hT rfl fun hT=> ?_;refine tMk 34359738367 (.bool true) hS.1 hT rfl fun hT=> ?_;refine tMk 68719476735 (.bool false) hS.1 hT rfl fun hT=> ?_;refine tMk 137438953471 (.bool true) hS.1 hT rfl fun hT=> ?_;refine tMk 274877906943 (.bool true) hS.1 hT rfl fun hT=> ?_;refine tMk 549755813887 (.bool true) hS.1 hT rfl fun hT=> ?_;refine tMk 1099511627775 (.pointer (some ⟨b18,1,none⟩)) hS.1 hT rfl fun hT=> ?_;refine tM 2199023255551 (.slice (some ⟨be18,oe18,none⟩) 1 ec18) hS.1 hT rfl (Qa5 (C:=fun _=>False) (r18.cell 1 (by show 1<3;omega)) r18.l (fun h=>h) _ _ _ _ _ _ _ (by kernel_rfl)) fun hT=> ?_;refine tM 4398046511103 (.pointer (some ⟨be18,oe18,none⟩)) hS.1 hT rfl (fun w' _=>Qa6 (b:=be18) (o:=oe18) (c:=ec18) _ _ _ _ _ _ _ _ (by kernel_rfl) (by kernel_rfl) w') fun hT=> ?_;have hT:=hS.2.2.2.2.1;refine tMk 8796093022207 (.pointer (some ⟨be18,oe18,none⟩)) hS.1 hT rfl fun hT=> ?_;refine tM 17592186044415 (.int .u8 1) hS.1 hT rfl (Yl (C:=fun _=>False) (z18.cell0) z18.lt (fun h=>h) _ _ _ _ _ _ _ (by kernel_rfl)) fun hT=> ?_;refine tMk 35184372088831 (.bool true) hS.1 hT rfl fun hT=> ?_;refine tMk 70368744177663 (.bool true) hS.1 hT rfl fun hT=> ?_;refine tMk 140737488355327 (.bool true) hS.1 hT rfl fun hT=> ?_;refine tMk 281474976710655 (.pointer (some ⟨b18,1,none⟩)) hS.1 hT rfl fun hT=> ?_;refine tM 562949953421311 (.slice (some ⟨be18,oe18,none⟩) 1 ec18) hS.1 hT rfl (Qa5 (C:=fun _=>False) (r18.cell 1 (by show 1<3;omega)) r18.l (fun h=>h) _ _ _ _ _ _ _ (by kernel_rfl)) fun hT=> ?_;refine tM 1125899906842623 (.pointer (some ⟨be18,oe18,none⟩)) hS.1 hT rfl (fun w' _=>Qa6 (b:=be18) (o:=oe18) (c:=ec18) _ _ _ _ _ _ _ _ (by kernel_rfl) (by kernel_rfl) w') fun hT=> ?_;refine tMk 2251799813685247 (.pointer (some ⟨be18,oe18+1,none⟩)) hS.1 hT rfl fun hT=> ?_;refine tM 4503599627370495 (.int .i64 2) hS.1 hT rfl (QX (C:=fun _=>False) z18.cell1 z18.lt (fun h=>h) _ _ _ _ _ _ _ (by kernel_rfl)) fun hT=> ?_;refine tMk 9007199254740991 (.bool true) hS.1 hT rfl fun hT=> ?_;refine tMk 18014398509481983 (.bool true) hS.1 hT rfl fun hT=> ?_;refine tMk 36028797018963967 (.bool true) hS.1 hT rfl fun hT=> ?_;refine tMk 72057594037927935 (.pointer (some ⟨b20,1,none⟩)) hS.1 hT rfl fun hT=> ?_;have hT:=hS.2.2.2.2.2.1;refine tM 144115188075855871 (.slice (some ⟨be20,oe20,none⟩) 1 ec20) hS.1 hT rfl (Qa5 (C:=fun _=>False) (r20.cell 1 (by show 1<3;omega)) r20.l (fun h=>h) _ _ _ _ _ _ _ (by kernel_rfl)) fun hT=> ?_;refine tM 288230376151711743 (.pointer (some ⟨be20,oe20,none⟩)) hS.1 hT rfl (fun w' _=>Qa6 (b:=be20) (o:=oe20) (c:=ec20) _ _ _ _ _ _ _ _ (by kernel_rfl) (by kernel_rfl) w') fun hT=> ?_;refine tMk 576460752303423487 (.pointer (some ⟨be20,oe20,none⟩)) hS.1 hT rfl fun hT=> ?_;refine tM 1152921504606846975 (.int .u8 2) hS.1 hT rfl (Yl (C:=fun _=>False) (z20.cell0) z20.lt (fun h=>h) _ _ _ _ _ _ _ (by kernel_rfl)) fun hT=> ?_;refine tMk 2305843009213693951 (.bool true) hS.1 hT rfl fun hT=> ?_;refine tMk 4611686018427387903 (.bool true) hS.1 hT rfl fun hT=> ?_;refine tMk 9223372036854775807 (.bool true) hS.1 hT rfl fun hT=> ?_;refine tM 18446744073709551615 (.agg (agv (wD p21 c21))) hS.1 hT rfl (ZI (C:=fun _=>False) r21 (fun h=>h) _ _ _ _ _ _ _ (by kernel_rfl)) fun hT=> ?_;refine tM 36893488147419103231 (.agg (agv (wD p19 c19))) hS.1 hT rfl (ZI (C:=fun _=>False) r19 (fun h=>h) _ _ _ _ _ _ _ (by kernel_rfl)) fun hT=> ?_;refine sM 73786976294838206463 (fun v _=>v= .bool true) hS.2.2.2.2.2.2.1 rfl (Zt (QwT p21 p19 c21 c19 WW s21 s19)) ?_;rintro _ WY1 gWY1 rfl;have E:=E.tr gWY1;have r8:=r8.ext gWY1;have r9:=r9.ext gWY1;have r11:=r11.ext gWY1;have s17:=s17.ext gWY1;have z18:=z18.ext gWY1;have r17:=r17.ext gWY1;have r18:=r18.ext gWY1;have s19:=s19.ext gWY1;have z20:=z20.ext gWY1;have r19:=r19.ext gWY1;have r20:=r20.ext gWY1;have s21:=s21.ext gWY1;have r21:=r21.ext gWY1;have z24:=z24.ext gWY1;have r23:=r23.ext gWY1;have hT:=hS.2.2.2.2.2.2.2.1;refine tMk 147573952589676412927 (.bool true) hS.1 hT rfl fun hT=> ?_;refine tMk 295147905179352825855 (.bool true) hS.1 hT rfl fun hT=> ?_;refine tMk 590295810358705651711 (.slice q22 0 d22) hS.1 hT rfl fun hT=> ?_;refine tMk 1180591620717411303423 (.int .i64 0) hS.1 hT rfl fun hT=> ?_;refine tMk 2361183241434822606847 (.bool true) hS.1 hT rfl fun hT=> ?_;refine tMk 4722366482869645213695 (.bool true) hS.1 hT rfl fun hT=> ?_;refine tMk 9444732965739290427391 (.bool true) hS.1 hT rfl fun hT=> ?_;refine tMk 18889465931478580854783 (.slice (some ⟨be24,oe24,none⟩) 1 d24) hS.1 hT rfl fun hT=> ?_;refine tM 37778931862957161709567 (.pointer (some ⟨be24,oe24,none⟩)) hS.1 hT rfl (fun w' _=>Qa6 (b:=be24) (o:=oe24) (c:=d24) _ _ _ _ _ _ _ _ (by kernel_rfl) (by kernel_rfl) w') fun hT=> ?_;refine tMk 75557863725914323419135 (.pointer (some ⟨be24,oe24,none⟩)) hS.1 hT rfl fun hT=> ?_;refine tM 151115727451828646838271 (.int .u8 4) hS.1 hT rfl (Yl (C:=fun _=>False) (z24.cell0) z24.lt (fun h=>h) _ _ _ _ _ _ _ (by kernel_rfl)) fun hT=> ?_;refine tMk 302231454903657293676543 (.bool true) hS.1 hT rfl fun hT=> ?_;refine tMk 604462909807314587353087 (.bool true) hS.1 hT rfl fun hT=> ?_;refine tMk 1208925819614629174706175 (.bool true) hS.1 hT rfl fun hT=> ?_;have hT:=hS.2.2.2.2.2.2.2.2.1;refine tMk 2417851639229258349412351 (.pointer (some ⟨b23,66,none⟩)) hS.1 hT rfl fun hT=> ?_;refine tM 4835703278458516698824703 (.slice p23 0 c23) hS.1 hT rfl (Qaa (C:=fun _=>False) (by rw [Qa,r23.r];exact Qw _) r23.l (fun h=>h) _ _ _ _ _ _ _ (by kernel_rfl)) fun hT=> ?_;refine tMk 9671406556917033397649407 (.int .i64 0) hS.1 hT rfl fun hT=> ?_;refine tMk 19342813113834066795298815 (.bool true) hS.1 hT rfl fun hT=> ?_;refine tMk 38685626227668133590597631 (.bool true) hS.1 hT rfl fun hT=> ?_;refine tMk 77371252455336267181195263 (.bool true) hS.1 hT rfl fun hT=> ?_;refine tM 154742504910672534362390527 (.agg (agv (wC p17 c17))) hS.1 hT rfl (ZI (C:=fun _=>False) r17 (fun h=>h) _ _ _ _ _ _ _ (by kernel_rfl)) fun hT=> ?_;refine sM 309485009821345068724781055 (fun v _=>v= .bool true) hS.2.2.2.2.2.2.2.2.2.1 rfl (Zt (QwW p17 c17 WY1 s17)) ?_;rintro _ WY2 gWY2 rfl;have E:=E.tr gWY2;have r8:=r8.ext gWY2;have r9:=r9.ext gWY2;have r11:=r11.ext gWY2;have s17:=s17.ext gWY2;have z18:=z18.ext gWY2;have r17:=r17.ext gWY2;have r18:=r18.ext gWY2;have s19:=s19.ext gWY2;have z20:=z20.ext gWY2;have r19:=r19.ext gWY2;have r20:=r20.ext gWY2;have s21:=s21.ext gWY2;have r21:=r21.ext gWY2;have z24:=z24.ext gWY2;have r23:=r23.ext gWY2;have hT:=hS.2.2.2.2.2.2.2.2.2.2.1;refine tMk 618970019642690137449562111 (.bool true) hS.1 hT rfl fun hT=> ?_;refine tMk 1237940039285380274899124223 (.bool true) hS.1 hT rfl fun hT=> ?_;refine tMk 2475880078570760549798248447 (.agg (agv agz)) hS.1 hT rfl fun hT=> ?_;refine sM 4951760157141521099596496895 (fun v _=>v= .bool false) hS.2.2.2.2.2.2.2.2.2.2.2.1 rfl (Zt (QwX WY2)) ?_;rintro _ WY3 gWY3 rfl;have E:=E.tr gWY3;have r8:=r8.ext gWY3;have r9:=r9.ext gWY3;have r11:=r11.ext gWY3;have s17:=s17.ext gWY3;have z18:=z18.ext gWY3;have r17:=r17.ext gWY3;have r18:=r18.ext gWY3;have s19:=s19.ext gWY3;have z20:=z20.ext gWY3;have r19:=r19.ext gWY3;have r20:=r20.ext gWY3;have s21:=s21.ext gWY3;have r21:=r21.ext gWY3;have z24:=z24.ext gWY3;have r23:=r23.ext gWY3;have hT:=hS.2.2.2.2.2.2.2.2.2.2.2.2.1;refine tMk 9903520314283042199192993791 (.bool true) hS.1 hT rfl fun hT=> ?_;refine tMk 19807040628566084398385987583 (.bool true) hS.1 hT rfl fun hT=> ?_;refine tMk 39614081257132168796771975167 (.bool true) hS.1 hT rfl fun hT=> ?_;refine tM 79228162514264337593543950335 (.agg (agv (wC p17 c17))) hS.1 hT rfl (ZI (C:=fun _=>False) r17 (fun h=>h) _ _ _ _ _ _ _ (by kernel_rfl)) fun hT=> ?_;refine tM 237684487542793012780631851007 (.agg (agv (wC p17 c17))) hS.1 hT rfl (ZI (C:=fun _=>False) r17 (fun h=>h) _ _ _ _ _ _ _ (by kernel_rfl)) fun hT=> ?_;refine sM 316912650057057350374175801343 (OwW) hS.2.2.2.2.2.2.2.2.2.2.2.2.2.1 rfl (Qx3 p17 c17 WY3 s17) ?_;rintro _ WY4 gWY4 ⟨pO,cO,rfl,sO⟩;have E:=E.tr gWY4;have r8:=r8.ext gWY4;have r9:=r9.ext gWY4;have r11:=r11.ext gWY4;have s17:=s17.ext gWY4;have z18:=z18.ext gWY4;have r17:=r17.ext gWY4;have r18:=r18.ext gWY4;have s19:=s19.ext gWY4;have z20:=z20.ext gWY4;have r19:=r19.ext gWY4;have r20:=r20.ext gWY4;have s21:=s21.ext gWY4;have r21:=r21.ext gWY4;have z24:=z24.ext gWY4;have r23:=r23.ext gWY4;refine sM 633825300114114700748351602687 (fun v _=>v= .bool true) hS.2.2.2.2.2.2.2.2.2.2.2.2.2.2.1 rfl (Zt (QwU pO p17 cO c17 WY4 sO s17)) ?_;rintro _ WY5 gWY5 rfl;have E:=E.tr gWY5;have r8:=r8.ext gWY5;have r9:=r9.ext gWY5;have r11:=r11.ext gWY5;have s17:=s17.ext gWY5;have z18:=z18.ext gWY5;have r17:=r17.ext gWY5;have r18:=r18.ext gWY5;have s19:=s19.ext gWY5;have z20:=z20.ext gWY5;have r19:=r19.ext gWY5;have r20:=r20.ext gWY5;have s21:=s21.ext gWY5;have r21:=r21.ext gWY5;have z24:=z24.ext gWY5;have r23:=r23.ext gWY5;have sO:=sO.ext gWY5;have hT:=hS.2.2.2.2.2.2.2.2.2.2.2.2.2.2.2.1;refine tMk 1267650600228229401496703205375 (.bool true) hS.1 hT rfl fun hT=> ?_;refine tMk 2535301200456458802993406410751 (.bool true) hS.1 hT rfl fun hT=> ?_;refine tM 5070602400912917605986812821503 (.agg (agv (wC p17 c17))) hS.1 hT rfl (ZI (C:=fun _=>False) r17 (fun h=>h) _ _ _ _ _ _ _ (by kernel_rfl)) fun hT=> ?_;refine tM 10141204801825835211973625643007 (.agg (agv (wB p9 c9))) hS.1 hT rfl (ZI (C:=fun _=>False) r9 (fun h=>h) _ _ _ _ _ _ _ (by kernel_rfl)) fun hT=> ?_;refine sM 20282409603651670423947251286015 (fun v _=>v= .bool false) hS.2.2.2.2.2.2.2.2.2.2.2.2.2.2.2.2.1 rfl (Zt (QwV p17 p9 c17 c9 WY5 s17)) ?_;rintro _ WY6 gWY6 rfl;have E:=E.tr gWY6;have r8:=r8.ext gWY6;have r9:=r9.ext gWY6;have r11:=r11.ext gWY6;have s17:=s17.ext gWY6;have z18:=z18.ext gWY6;have r17:=r17.ext gWY6;have r18:=r18.ext gWY6;have s19:=s19.ext gWY6;have z20:=z20.ext gWY6;have r19:=r19.ext gWY6;have r20:=r20.ext gWY6;have s21:=s21.ext gWY6;have r21:=r21.ext gWY6;have z24:=z24.ext gWY6;have r23:=r23.ext gWY6;have sO:=sO.ext gWY6;have hT:=hS.2.2.2.2.2.2.2.2.2.2.2.2.2.2.2.2.2.1;refine tMk 40564819207303340847894502572031 (.bool true) hS.1 hT rfl fun hT=> ?_;refine tMk 81129638414606681695789005144063 (.bool true) hS.1 hT rfl fun hT=> ?_;refine tMk 162259276829213363391578010288127 (.bool true) hS.1 hT rfl fun hT=> ?_;refine doneK hS.2.2.2.2.2.2.2.2.2.2.2.2.2.2.2.2.2.2 ?_;clear hS hT;have HE:=Xh E;clear E;go_simp;go_wp2;go_ret;exact⟨rfl,HE.out⟩
def QsF(xs:List Co)(k:Nat):Prop:= ∃x,xs[k]?=some x∧(Yh x=true∨ ∃m y,k=m+1∧xs[m]?=some y∧0≤QbO y.t x.t)
def QcT(xs:List Co)(k:Nat):Prop:= ∀j,j<k→ ¬QsF xs j
theorem Qae(xs:List Co):Zn xs=true↔xs.length≤32∧QcT xs xs.length:=by
 unfold Zn;simp only [Bool.and_eq_true,decide_eq_true_eq,Bool.not_eq_true',and_assoc];refine and_congr_right fun _=>⟨fun⟨h1,h2⟩ j hj ⟨x,hx,hb⟩=> ?_,fun h=>⟨?_,?_⟩⟩
 ·rcases hb with hb|⟨m,y,rfl,hy,hc⟩
  ·rw [List.any_eq_false]at h1;exact h1 x (List.mem_of_getElem? hx) hb
  ·have hp:=Qbu xs m (by omega);have:=List.all_eq_true.1 h2 _ (List.mem_of_getElem? hp);unfold Qc1 at this;rw [List.getElem?_eq_getElem hj]at hx;rw [List.getElem?_eq_getElem (by omega)]at hy;have ex:=Option.some.inj hx;have ey:=Option.some.inj hy;rw [←ex,←ey]at hc;have:=of_decide_eq_true this;simp only at this;omega
 ·rw [List.any_eq_false];intro x hx hw;obtain⟨j,hj,hjx⟩:=List.getElem_of_mem hx;exact h j hj ⟨x,by rw [List.getElem?_eq_getElem hj,hjx],.inl hw⟩
 ·rw [List.all_eq_true];intro p hp;obtain⟨m,hm,hmp⟩:=List.getElem_of_mem hp;have hm':m+1<xs.length:=by rw [Qdy]at hm;omega
  have hg:=Qbu xs m hm';rw [List.getElem?_eq_getElem hm,hmp]at hg
  cases hg
  unfold Qc1;refine decide_eq_true (Int.not_le.1 fun hc=>h (m+1) hm' ⟨xs[m+1],List.getElem?_eq_getElem hm',.inr ⟨m,xs[m],rfl,List.getElem?_eq_getElem (by omega),hc⟩⟩)
theorem Qj0{xs:List Co}{k:Nat}(hk:k<xs.length)(h:QsF xs k):Zn xs=false:=by
 rw [Bool.eq_false_iff];intro e;exact((Qae xs).1 e).2 k hk h
theorem QpH{xs:List Co}{k:Nat}(hk: ¬k<xs.length)(h:QcT xs k):Zn xs=decide ((xs.length:Int)≤32):=by
 have hg:QcT xs xs.length:=fun j hj=>h j (by omega)
 by_cases hl:xs.length≤32
 ·rw [(Qae xs).2 ⟨hl,hg⟩,decide_eq_true (by omega)]
 ·rw [decide_eq_false (by omega),Bool.eq_false_iff];exact fun e=>hl ((Qae xs).1 e).1
theorem Qmx{xs:List Co}{k:Nat}{x:Co}(hx:xs[k]?=some x)(h:QcT xs k)(hw:Yh x=false)(hc: ∀m y,k=m+1→xs[m]?=some y→QbO y.t x.t<0):QcT xs (k+1):=by
 intro j hj
 by_cases hjk:j<k
 ·exact h j hjk
 ·obtain rfl:j=k:=by omega
  rintro⟨z,hz,hb⟩;rw [hx]at hz
  cases hz
  rcases hb with hb|⟨m,y,e,hy,hge⟩
  ·rw [hw]at hb;cases hb
  ·have:=hc m y e hy;omega
theorem Qh0(p:Option Addr)(xs:List Co)(c:Nat)(w:World)(hs:SlC w p xs)(hl:xs.length≤9223372036854775807)(hr: ∀x∈xs,TuR x.t):
  Calls Tryz.prog 77 #[.slice p xs.length c] w fun e w'=>e= .returned (.bool (Zn xs))∧Ext w w':=by
 have HRR:=Xh hr;clear hr
 go_enter Tryz.func77,Tryz.ntmps77
 go_wp2
 go_loopw [3] (fun a wr=> ∃k:Nat,k≤xs.length∧a= .int .i64 k∧QcT xs k∧Ext w wr) (fun a _=>xs.length- (intOf a).toNat)
 case atStart=>exact⟨0,Nat.zero_le _,rfl,(fun j hj=>absurd hj (Nat.not_lt_zero _)),Ext.rf _⟩
 case round=>
  obtain⟨k,hk,rfl,hG,hE⟩:=hrel
  by_cases hlt:k<xs.length
  ·have hil:(k:Int)<xs.length:=by omega
   obtain⟨b,off,rfl,lb,c0,c1,c2,c3,c4,c5⟩:=(hs.ext hE) k hlt;obtain⟨x,hx⟩: ∃x,xs[k]=x:=⟨_,rfl⟩;have hx':xs[k]?=some x:=by rw [List.getElem?_eq_getElem hlt,hx]
   have HX:=Xh (HRR.out x (by rw [←hx];exact List.getElem_mem hlt));rw [hx]at c0 c1 c2 c3 c4 c5;have lbb:Lt b wr:=lb;have HBAD:=fun h=>Xh (Qj0 hlt ⟨x,hx',h⟩);have HNEXT:=fun hw hc=>Xh (Qmx hx' hG hw hc);have HSS:=Xh hs;clear hG
   by_cases h1:x.s<0
   ·have HR:=HBAD (.inl (by unfold Yh;simp [h1]));clear HBAD HNEXT hx hx' hs lb
    go_upto_region 4 with(fail)
    refine Qj (by kernel_rfl) (by kernel_rfl) ?_;(repeat(go_big_quiet_step (fail)));refine wpQuiet_nil ?_;intro d
    have hd:=Qq d;go_wp2;exact bodyPost_ret (v:= .bool false) (by simp [results,Tryz.results77,go_sem]) rfl ⟨by rw [HR.out],hE.tr hd⟩
   ·by_cases h2:x.l<x.s
    ·have HR:=HBAD (.inl (by unfold Yh;simp [h2]));clear HBAD HNEXT hx hx' hs lb
     go_upto_region 4 with(fail)
     refine Qj (by kernel_rfl) (by kernel_rfl) ?_;(repeat(go_big_quiet_step (fail)));refine wpQuiet_nil ?_;intro d
     have hd:=Qq d;go_wp2;exact bodyPost_ret (v:= .bool false) (by simp [results,Tryz.results77,go_sem]) rfl ⟨by rw [HR.out],hE.tr hd⟩
    ·by_cases h3:1099511627776<x.l
     ·have HR:=HBAD (.inl (by unfold Yh;simp [h3]));clear HBAD HNEXT hx hx' hs lb
      go_upto_region 4 with(fail)
      refine Qj (by kernel_rfl) (by kernel_rfl) ?_;(repeat(go_big_quiet_step (fail)));refine wpQuiet_nil ?_;intro d
      have hd:=Qq d;go_wp2;exact bodyPost_ret (v:= .bool false) (by simp [results,Tryz.results77,go_sem]) rfl ⟨by rw [HR.out],hE.tr hd⟩
     ·have hw:Yh x=false:=by unfold Yh;simp;omega
      by_cases hk0:k=0
      ·have HN:=HNEXT hw (fun m y e _=>by omega);clear HBAD HNEXT hx hx' hs lb hw;subst hk0
       go_upto_region 4 with(fail)
       refine Qj (by kernel_rfl) (by kernel_rfl) ?_;(repeat(go_big_quiet_step (fail)));refine wpQuiet_nil ?_;intro d
       have hd:=Qq d;go_wp2
       go_roundw
       case rel=>exact⟨1,by omega,by go_num,HN.out,hE.tr hd⟩
       case measure=>simp [intOf];omega
      ·obtain⟨m,rfl⟩: ∃m,k=m+1:=⟨k- 1,by omega⟩;obtain⟨b',off',hpe,-,d0,d1,d2,d3,d4,d5⟩:=(hs.ext hE) m (by omega)
       cases hpe
       have hml:m<xs.length:=by omega
       obtain⟨y,hy⟩: ∃y,xs[m]=y:=⟨_,rfl⟩;have hy':xs[m]?=some y:=by rw [List.getElem?_eq_getElem hml,hy]
       have HY:=Xh (HRR.out y (by rw [←hy];exact List.getElem_mem hml));rw [hy]at d0 d1 d2 d3 d4 d5;have hkp:(0:Int)<((m+1:Nat):Int):=by omega
       have hi1:(m:Int)<xs.length:=by omega
       have hmw:IntKind.i64.wrap (((m+1:Nat):Int)- 1)=m:=by rw [IntKind.wrap_i64];omega
       clear hk0
       by_cases hc:0≤QbO y.t x.t
       ·have HR:=HBAD (.inr ⟨m,y,rfl,hy',hc⟩);have hcd:decide (0≤QbO y.t x.t)=true:=decide_eq_true hc;clear HBAD HNEXT hx hx' hy hy' hs lb hw
        go_upto_region 4 with(fail)
        refine Qj (by kernel_rfl) (by kernel_rfl) ?_;(repeat(go_big_quiet_step ((go_at_call 122;exact ZA (QhZ _ _ HY.out HX.out _)))));refine wpQuiet_nil ?_;intro d
        have hd:=Qq d;go_wp2;exact bodyPost_ret (v:= .bool false) (by simp [results,Tryz.results77,go_sem]) rfl ⟨by rw [HR.out],hE.tr hd⟩
       ·have hcd:decide (0≤QbO y.t x.t)=false:=decide_eq_false hc
        have HN:=HNEXT hw (fun m' y' e h'=>by
         obtain rfl:m'=m:=by omega
         rw [hy']at h';cases h'
         omega)
        clear HBAD HNEXT hx hx' hy hy' hs lb hw
        go_upto_region 4 with(fail)
        refine Qj (by kernel_rfl) (by kernel_rfl) ?_;(repeat(go_big_quiet_step ((go_at_call 122;exact ZA (QhZ _ _ HY.out HX.out _)))));refine wpQuiet_nil ?_;intro d
        have hd:=Qq d;go_wp2
        go_roundw
        case rel=>exact⟨m+1+1,by omega,by go_num,HN.out,hE.tr hd⟩
        case measure=>simp [intOf];omega
  ·have hil: ¬((k:Int)<xs.length):=by omega
   have HR:=Xh (QpH hlt hG);clear hG;go_wp2;exact bodyPost_ret (v:= .bool (decide ((xs.length:Int)≤32))) (by simp [results,Tryz.results77,go_sem]) rfl ⟨by rw [HR.out],hE⟩
theorem Qmy(a:Ag)(w:World)(hs:SlC w a.p a.xs)(hl:a.xs.length≤9223372036854775807)(hr: ∀x∈a.xs,TuR x.t)(hk0: ∀k,k<16→0≤(a.md k).kind):
  Calls Tryz.prog 23 #[.agg (agv a)] w fun e w'=>e= .returned (.bool (agR a))∧Ext w w':=by
 have HC:=Xh (fun W (hE:Ext w W)=>Qh0 a.p a.xs a.c W (hs.ext hE) hl hr);have HSL:=Xh (fun W (hE:Ext w W)=>hs.ext hE);have HTU:=Xh hr;have HK0:=Xh hk0;clear hs hr hk0
 go_enter Tryz.func23,Tryz.ntmps23
 go_upto_region 1 with(fail)
 obtain⟨W0,hW⟩: ∃W0,w.alloc (.cells (agv a) 27)=W0:=⟨_,rfl⟩;have g0:Ext w W0:=by rw [←hW];exact Ext.al (Ext.rf _) _
 have rx0:Qc W0 w.heap.size=agv a:=by rw [←hW];simp [go_sem]
 have lx0:Lt w.heap.size W0:=by rw [←hW];simp [go_sem]
 rw [hW];clear hW;have c0:W0.cell? ⟨w.heap.size,0,none⟩=some (.int .i64 a.id):=by rw [Qa,rx0,Yz]
 have c1:W0.cell? ⟨w.heap.size,1,none⟩=some (.int .i64 a.idle):=by rw [Qa,rx0,Yc]
 cases h1:decide (0≤a.id)
 ·have h1':=of_decide_eq_false h1;have HN:=Xh (ZY (a:=a) (by unfold Z7;rw [h1];rfl));go_wp2;go_ret;exact⟨Qm HN.out.symm,g0⟩
 have h1':=of_decide_eq_true h1
 cases h2:decide (a.id<6)
 ·have h2':=of_decide_eq_false h2;have HN:=Xh (ZY (a:=a) (by unfold Z7;rw [h2];simp));go_wp2;go_ret;exact⟨Qm HN.out.symm,g0⟩
 have h2':=of_decide_eq_true h2
 cases h3:decide (0≤a.idle)
 ·have h3':=of_decide_eq_false h3;have HN:=Xh (ZY (a:=a) (by unfold Z7;rw [h3];simp));go_wp2;go_ret;exact⟨Qm HN.out.symm,g0⟩
 have h3':=of_decide_eq_true h3
 cases h4:decide (a.idle≤1099511627776)
 ·have h4':=of_decide_eq_false h4;have HN:=Xh (ZY (a:=a) (by unfold Z7;rw [h4];simp));go_wp2;go_ret;exact⟨Qm HN.out.symm,g0⟩
 have h4':=of_decide_eq_true h4;have c66:W0.cell? ⟨w.heap.size,66,none⟩=some (.slice a.p a.xs.length a.c):=by rw [Qa,rx0,Qw]
 cases h5:Zn a.xs
 ·have HN:=Xh (ZY (a:=a) (by unfold Z7;rw [h5];simp));rw [h5]at HC
  go_wp2_with (go_at_call 77;(with_reducible refine(HC.out _ g0).mono ?_);rintro e w1 ⟨rfl,g1⟩)
  go_ret;exact⟨Qm HN.out.symm,g0.tr g1⟩
 have HH:=Xh (show Z7 a=true by unfold Z7;rw [h1,h2,h3,h4,h5];rfl);rw [h5]at HC
 go_wp2_with (go_at_call 77;(with_reducible refine(HC.out _ g0).mono ?_);rintro e w1 ⟨rfl,g1⟩;have rx1:=Q6 g1 lx0 rx0;have lx1:Lt w.heap.size w1:=Xl lx0 g1.size)
 clear rx0 lx0 c66 c0 c1
 go_loopw [3] (fun q wr=> ∃k:Nat,k≤16∧q= .int .i64 k∧(∀j,j<k→Qdj a j=true)∧Ext w1 wr) (fun q _=>16- (intOf q).toNat)
 case atStart=>exact⟨0,Nat.zero_le _,rfl,fun j hj=>by omega,Ext.rf _⟩
 case round=>
  obtain⟨k,hk,rfl,hA,hE⟩:=hrel;have hR:=Q6 hE lx1 rx1;have hL:Lt w.heap.size wr:=Xl lx1 hE.size;have hEw:=(g0.tr g1).tr hE
  by_cases hlt:k<16
  ·have hlt':(k:Int)<16:=by omega
   have cp:wr.cell? ⟨w.heap.size,2+k*4+1,none⟩=some (.int .i64 (a.md k).peer):=by
    rw [Qa,hR];unfold agv;rw [QU,if_pos (by omega)];unfold Ag.at
    rw [if_neg (by omega),if_neg (by omega),if_pos (by omega),show(2+k*4+1- 2)/4=k by omega,show(2+k*4+1- 2) % 4=1 by omega];rfl
   have c0:wr.cell? ⟨w.heap.size,0,none⟩=some (.int .i64 a.id):=by rw [Qa,hR,Yz]
   have hfit:2+k*4+4≤67:=by omega
   have HA:=Xh hA;have HE:=Xh hE;have HEW:=Xh hEw;clear hA hE hEw
   cases hm:mdR (a.md k)
   ·have HN:=Xh (Qog k hlt (by unfold Qdj;rw [hm];rfl))
    go_wp2_with (fail)
    refine Qj (by kernel_rfl) (by kernel_rfl) ?_;(repeat(go_big_quiet_step ((go_at_call 35;exact ZA (Qee _ _ (HK0.out k hlt))))));refine wpQuiet_nil ?_;intro d
    have HD:=Xh (Qq d);go_wp2;go_ret;exact⟨Qm HN.out.symm,HEW.out.tr HD.out⟩
   cases hp:((a.md k).peer==a.id)
   ·have HB:=Xh (show Qdj a k=true by unfold Qdj;rw [hm];simpa using hp)
    go_wp2_with (fail)
    refine Qj (by kernel_rfl) (by kernel_rfl) ?_;(repeat(go_big_quiet_step ((go_at_call 35;exact ZA (Qee _ _ (HK0.out k hlt))))));refine wpQuiet_nil ?_;intro d
    have HD:=Xh (Qq d);generalize later d=W2 at*;go_wp2
    go_roundw
    case rel=>exact⟨k+1,by omega,by go_num,fun j hj=>by rcases Nat.lt_or_ge j k with h|h;exact HA.out j h;(obtain rfl:j=k:=by omega);exact HB.out,HE.out.tr HD.out⟩
    case measure=>simp [intOf];omega
   ·have HN:=Xh (Qog k hlt (by unfold Qdj;rw [hm];simpa using hp))
    go_wp2_with (fail)
    refine Qj (by kernel_rfl) (by kernel_rfl) ?_;(repeat(go_big_quiet_step ((go_at_call 35;exact ZA (Qee _ _ (HK0.out k hlt))))));refine wpQuiet_nil ?_;intro d
    have HD:=Xh (Qq d);go_wp2;go_ret;exact⟨Qm HN.out.symm,HEW.out.tr HD.out⟩
  ·obtain rfl:k=16:=by omega
   have HM:=Xh hA;have rx2:=hR;have lx2:=hL;have HEW:=Xh hEw;generalize wr=w2 at*;clear hA hE hEw hR hL rx1 lx1;rw [show((16:Nat):Int)=16 from rfl];go_wp2
   go_loopw [4,5] (fun q _ wr=> ∃k:Nat,k≤a.xs.length∧q= .int .i64 k∧(∀j,j<k→ ∀hj:j<a.xs.length,cnA a a.xs[j]=true)∧Ext w2 wr) (fun q _ _=>a.xs.length- (intOf q).toNat)
   case atStart=>exact⟨0,Nat.zero_le _,rfl,fun j hj=>by omega,Ext.rf _⟩
   case round=>
    obtain⟨k,hk,rfl,hA,hE⟩:=hrel;have hR:=Q6 hE lx2 rx2;have hL:Lt w.heap.size wr:=Xl lx2 hE.size;have hEw:=HEW.out.tr hE;have c66:wr.cell? ⟨w.heap.size,66,none⟩=some (.slice a.p a.xs.length a.c):=by rw [Qa,hR,Qw]
    by_cases hlt:k<a.xs.length
    ·have hlt':(k:Int)<a.xs.length:=by omega
     obtain⟨b,off,hp,hb,d0,d1,d2,d3,d4,d5⟩:=(HSL.out _ hEw) k hlt;have HTZ:=Xh (HTU.out _ (List.getElem_mem hlt));have HMEM:=Xh (List.getElem_mem hlt);obtain⟨o,ho⟩: ∃o:Nat,ofT a.xs[k].t=o:=⟨(ofT a.xs[k].t).toNat,by have:=(QdF a.xs[k].t).1;omega⟩;have ho16:o<16:=by have:=(QdF a.xs[k].t).2;omega
     have HOF:=Xh (fun W=>ho▸QkZ a.xs[k].t HTZ.out W);have HCN:=Xh (show cnA a a.xs[k]=((a.md o).kind !=0&&!(a.md o).ret)by unfold cnA;rw [ho];rfl);obtain⟨z,hz⟩: ∃z,a.xs[k]=z:=⟨_,rfl⟩;rw [hz]at d0 d1 d2 d3 d4 d5 HOF HCN HMEM;have HZ:=Xh hz;have HPP:=Xh hp;have lb:Lt b wr:=hb;have hfit:2+o*4+4≤67:=by omega
     have ho':(o:Int)<16:=by omega
     have HA:=Xh hA;have HE:=Xh hE;have HEW2:=Xh hEw;have hlen:((a.xs.length:Nat):Int)≤9223372036854775807:=by omega
     rw [hp]at c66;clear hz ho hp hA hE hEw HTZ d4 d5 hb
     go_upto_region 12 with(go_at_call 33;(with_reducible refine(HOF.out _).mono ?_);rintro e w4 ⟨rfl,g4⟩;have hR4:=Q6 g4 hL hR;have hL4:Lt w.heap.size w4:=Xl hL g4.size)
     obtain⟨W5,hW⟩: ∃W5,Qe (w4.alloc (.cells #[.int .u8 0,.int .i64 0,.int .i64 0,.bool false] 23)) w4.heap.size 0 (mdv (a.md o))=W5:=⟨_,rfl⟩;have g5:Ext w4 W5:=by rw [←hW];exact Ext.sa _ (Nat.le_refl _) (Ext.al (Ext.rf _) _)
     have r5:Qc W5 w4.heap.size=mdv (a.md o):=by rw [←hW];exact Qr _ _ _ (by rw [Zf,Jz];rfl)
     have c0:W5.cell? ⟨w4.heap.size,0,none⟩=some (.int .u8 (a.md o).kind):=by rw [Qa,r5,Qka]
     have c3:W5.cell? ⟨w4.heap.size,3,none⟩=some (.bool (a.md o).ret):=by rw [Qa,r5,Qkb]
     have HE6:=Xh (HEW2.out.tr (g4.tr g5));have HG6:=Xh (HE.out.tr (g4.tr g5));rw [hW];clear hW g4 g5 r5 hR4 hL4 hR d0 d1 d2 d3 c66;generalize w4.heap.size=M at*
     cases e0:((a.md o).kind==0)
     ·cases e3:(a.md o).ret
      ·have HB:=Xh (show cnA a z=true by rw [HCN.out];simp_all);go_wp2
       go_roundw
       case rel=>exact⟨k+1,by omega,by go_num,fun j hj hjl=>by rcases Nat.lt_or_ge j k with h|h;exact HA.out j h hjl;(obtain rfl:j=k:=by omega);rw [HZ.out];exact HB.out,HG6.out⟩
       case measure=>simp [intOf];omega
      ·have HN:=Xh (Qoh z HMEM.out (show cnA a z=false by rw [HCN.out];simp_all));go_wp2;go_ret;exact⟨Qm HN.out.symm,HE6.out⟩
     ·have HN:=Xh (Qoh z HMEM.out (show cnA a z=false by rw [HCN.out];simp_all));go_wp2;go_ret;exact⟨Qm HN.out.symm,HE6.out⟩
    ·obtain rfl:k=a.xs.length:=by omega
     have HK:=Xh (show agR a=true from QtG HH.out HM.out fun c hc=>by obtain⟨j,hj,rfl⟩:=List.mem_iff_getElem.1 hc;exact hA j hj hj);have HEE:=Xh hEw;clear hA hE hEw hR;go_wp2;go_ret;exact⟨Qm HK.out.symm,HEE.out⟩
end Go.Proofs.YtpeonbaodnmlnaaGreat
namespace Go.Proofs.YtpeonbaodnmlnaaGreat
open Go.ChangeShapes Go.WideShapes Go.ChangeAt Go.RowKit
section
variable {H:Type} {enc:TypeId×Value→H} {P:Program}
theorem QeS{f:Func}{s:ChangeSpec}{apart fresh handsOn again:Bool}{W W':World}{args:Array Value}{v:Value}{ds gs:List (DataW H)}{before pa pv:List MemPlace}
  (hW:DataW.Whole enc P f.params.toList s.vars apart W args.toList ds gs before)
  (hres: ∀(b:Nat) (sp:Nat→Bool) (hd:Bool),DataW.TrodAll enc P W' b sp hd f.resultTypes.toList (v.resultList f.resultTypes.size) (s.fn H (ds++gs)).results [])
  (hargs: ∀sp:Nat→Bool,(∀p∈before,sp p.block=true)→DataW.TrodAll enc P W' 0 sp true f.params.toList args.toList (s.fn H (ds++gs)).args pa)
  (hvars: ∀sp:Nat→Bool,(∀p∈before,sp p.block=true)→DataW.TrodVars enc P W' sp s.vars (s.fn H (ds++gs)).vars pv)
  (hps:before=pa++pv)(hb:Below W.heap.size W W')
  (hok: ∀(j:Nat) (t:TypeId) (r:Value),f.resultTypes[j]?=some t→(v.resultList f.resultTypes.size)[j]?=some r→Value.okWide P W' .any 0 t r):
  s.post enc P f apart fresh handsOn again W args v W':=by
 have hlt: ∀p∈before,p.block<W.heap.size:=fun p hp=>hW.lt p hp;have hold: ∀p∈before,(fun b=>decide (b<W.heap.size)) p.block=true:=fun p hp=>by simpa using hlt p hp
 refine⟨ds,gs,before,[],pa,pv,hW,hres _ _ _,hargs _ hold,hvars _ hold,World.keptBut_mono (fun p hp=>⟨hp,?_⟩) (hb.frame (· ∈before)),fun _=> ?_⟩
 ·rw [hps,List.mem_append]at hp;exact Or.inr hp
 ·obtain⟨_,_,_,_,_,hz,hn⟩:=hW;refine⟨hok,_,_,([]++pa)++pv,⟨[]++pa,pv,trodAll_append (hargs _ (fun _ _=>rfl)) (hres _ _ _),hvars _ (fun _ _=>rfl),rfl,?_,?_⟩,?_⟩
  ·intro b off hp;have hin:MemPlace.cell b off∈before:=by rw [hps];simpa using hp
   rw [hb.frozen (hlt _ hin)];exact hz b off hin
  ·intro ha;have:=hn ha;rw [hps]at this;simpa using this
  ·intro p hp _;rw [hps];simpa using hp
theorem Qbr(hl:laidOutB P=true){W W':World}{sp':Nat→Bool}: ∀(ts:List TypeId) (vs:List Value) (ds:List (DataW H)) (ps:List MemPlace),
  ts.all (fun t=>P.readableRec t&&decide (t<P.types.size))=true→DataW.TrodAll enc P W 0 (fun _=>true) true ts vs ds ps→
  (∀p∈ps,W.sameAt W' p)→(∀p∈ps,sp' p.block=true)→DataW.TrodAll enc P W' 0 sp' true ts vs ds ps
 | [],vs,ds,ps,_,h,_,_=>by
  obtain⟨rfl,rfl,rfl⟩:=trodAll_nil h;exact trodAll_mk0
 |t::ts,vs,ds,ps,ht,h,hs,hp=>by
  obtain⟨v,vs',d,ds',p,q,rfl,rfl,rfl,h1,h2⟩:=trodAll_cons h;simp only [List.all_cons,Bool.and_eq_true,decide_eq_true_eq]at ht;refine trodAll_cons_mk (WideElems.Trod_stays hl ht.1.1 ht.1.2 h1 (fun x hx=>hs x (by simp [hx])) (fun x hx=>hp x (by simp [hx]))) ?_;exact Qbr hl ts vs' ds' q ht.2 h2 (fun x hx=>hs x (by simp [hx])) (fun x hx=>hp x (by simp [hx]))
theorem QaT{W:World}{b:Nat}{sp:Nat→Bool}{hd:Bool}: ∀(ts:List TypeId) (vs:List Value) (ds:List (DataW H)) (ps:List MemPlace),
  DataW.TrodAll enc P W b sp hd ts vs ds ps→ds.length=ts.length
 | [],vs,ds,ps,h=>by obtain⟨rfl,rfl,rfl⟩:=trodAll_nil h;rfl
 |t::ts,vs,ds,ps,h=>by
  obtain⟨v,vs',d,ds',p,q,rfl,rfl,rfl,h1,h2⟩:=trodAll_cons h;simp only [List.length_cons,QaT ts vs' ds' q h2]
end
theorem QpI{C:Checked}{f:FuncId}{fn:Func}{s:ChangeSpec}{os:Os}{H:Type}{enc:TypeId×Value→H}(tb:TypeId)
  (own:ownKnob C.prog.godebug=none)(started:os.Started)(noInit:C.prog.inits.idxOf? f=none)(hfn:C.prog.funcs[f]?=some fn)
  (witness: ∃(w:World) (tape:Tape) (i:Input),w.os=os∧(w.forCall tape i).Shaped C.prog∧i.vars= []∧Input.okWide C.prog (w.forCall tape i) .any w.heap.size f i∧
   s.pre6 enc C.prog fn [] false (w.forCall tape i).memory i.args∧({}:Assume).holds C.prog (lone (Frame.enter C.prog f i.args .normal) [] (w.forCall tape i)))
  (hl:laidOutB C.prog=true)(hvars:s.vars= [])(hrt:fn.resultTypes=#[tb])(htb:C.prog.underlying tb=some .bool)
  (hs: ∀ds:List (DataW H),ds.length=fn.params.toList.length→s.fn H ds={results:= [.lit (.bool true)],args:=ds})
  (hread:fn.params.toList.all (fun t=>C.prog.readableRec t&&decide (t<C.prog.types.size))=true)
  (walk: ∀(W:World) (base:Nat) (args:Array Value) (ds:List (DataW H)) (p:List MemPlace),
   (∀(j:Nat) t v,fn.params[j]?=some t→args[j]?=some v→Value.okWide C.prog W .any base t v)→
   DataW.TrodAll enc C.prog W 0 (fun _=>true) true fn.params.toList args.toList ds p→(∀x∈p,x.block<W.heap.size)→
   Calls C.prog f args W fun e W'=>e= .returned (.bool true)∧Below W.heap.size W W'):
  ReturnsInHanded {} C os f .any (s.pre6 enc C.prog fn [] false) (s.post enc C.prog fn false true false false):=by
 refine returnsInHanded_of_change (C:=C) own started noInit hfn witness ?_;intro W base args ds gs before hval hW _ _;have hW':=hW;obtain⟨p,q,hA,hV,rfl,hfz,hnd⟩:=hW;rw [hvars]at hV;obtain⟨rfl,rfl⟩:=trodVars_none hV;have hlt: ∀x∈p++ [],x.block<W.heap.size:=fun x hx=>hW'.lt x hx;refine(walk W base args ds p hval hA (fun x hx=>hlt x (by simpa using hx))).mono fun e W' h=> ?_;obtain⟨he,hb⟩:=h;subst he;have hlen:=QaT _ _ _ _ hA;have hsp:=hs (ds++ []) (by simpa using hlen);refine⟨_,rfl,QeS (pa:=p) (pv:= []) hW' ?_ ?_ ?_ rfl hb ?_⟩
 ·intro b sp hd;rw [hsp,hrt];exact trodAll_mk1 (shut_bool htb _)
 ·intro sp hsp';rw [hsp];simp only [List.append_nil];exact Qbr hl _ _ _ _ hread hA (fun x hx=>hb.same (hlt x (by simpa using hx))) (fun x hx=>hsp' x (by simpa using hx))
 ·intro sp _;rw [hsp,hvars];rfl
 ·exact ok_one hrt rfl (okWide_bool_mk htb _)
end Go.Proofs.YtpeonbaodnmlnaaGreat
