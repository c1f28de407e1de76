/- Lemmas of this claim, put together out of: NF, NG, NH, NI, ZF, NJ, NK, ZG, NL, ZH, I3, I4, J2, J3, PC, TA, TB, TC, TD, TE, TF, J4, TG, HT, HU, HV, HX, HY, HZ, IA, IC, IE. -/
import Derived.Test.YtpeonbaodnmlnaaGreatSA4
import Derived.Laws.EntriesVeiled
set_option linter.unusedSimpArgs false
set_option linter.unusedVariables false
set_option maxRecDepth 100000
set_option maxHeartbeats 16000000
namespace Go.Proofs.YtpeonbaodnmlnaaGreat
open Go.RowKit
variable{after:Array Edge}{cs:Array Value}{B b i k m:Nat}{C:Nat→Prop}{q x y:Operand}{ρ:Operand→Value}{g:Option (Nat×Bool)}{l:Option Nat}{dst:Option Tmp}{pos:String}{ty:TypeId}{a0 a1 a2 v:Value}{w:World}
theorem Qqt{r:Operand}(hx:ρ q= .int .i64 20)(hy:ρ r= .int .i64 20)(w:World):
  (execOp ρ ⟨dst,.makeSlice 28 q r,ty,pos,after,g⟩).run Tryz.prog w= .ok (.value (.slice (some ⟨w.heap.size,0,none⟩) 20 20)) (w.alloc (.cells (((List.replicate 20 (0:Int))).map (Value.int .u8)).toArray 5)):=by
 have h:(Instr.makeSlice 28 (.int .i64 20) (.int .i64 20)).run Tryz.prog w= .ok (.slice (some ⟨w.heap.size,0,none⟩) 20 20) (w.alloc (.cells (((List.replicate 20 (0:Int))).map (Value.int .u8)).toArray 5)):=Kr
 simp [execOp,hx,hy,h,Result.andThen]
theorem OB.of_heap{base g:Nat}{bs:List Int}(h:w.heap[g]?=some (.cells (bs.map (Value.int .u8)).toArray 5))(hb:base≤g)(n:Nat)(hn:n=bs.length)(hl:bs.length≤1000):OB w base (.slice (some ⟨g,0,none⟩) n n) bs:=by
 subst hn;exact⟨by simp,.inr ⟨g,bs.length,_,rfl,hb,h,Nat.le_refl _,by unfold maxLen;omega,by simp,by simp [List.take_of_length_le]⟩⟩
theorem Qcd{x:Int}(hx:ρ q= .int .u16 x)(hy:ρ y= .int .u64 8)(w:World):
  (execOp ρ ⟨dst,.binOp .shr 62 q y 197,ty,pos,after,g⟩).run Tryz.prog w= .ok (.value (.int .u16 (x/256))) w:=by
 simp only [execOp,hx,hy];go_simp
theorem Jy{x:Int}(hx:ρ q= .int .u16 x)(w:World):
  (execOp ρ ⟨dst,.convert 62 5 q,ty,pos,after,g⟩).run Tryz.prog w= .ok (.value (.int .u8 (x % 256))) w:=by
 simp only [execOp,hx];go_simp;rw [Ye]
def QkC(sp dp fl:Int):List Int:=((((((List.replicate 20 (0:Int)).set 0 (sp/256 % 256)).set 1 (sp % 256)).set 2 (dp/256 % 256)).set 3 (dp % 256)).set 12 80).set 13 fl
theorem QiW(sp dp fl:Int):(QkC sp dp fl).length=20:=by unfold QkC;simp
theorem QvP(sp dp fl:Int)(h:0≤fl∧fl<256):ByR (QkC sp dp fl):=by
 have a:ByR (List.replicate 20 (0:Int)):=fun b hb=>by rw [List.eq_of_mem_replicate hb];omega
 exact(((((a.set 0 _ Om).set 1 _ Om).set 2 _ Om).set 3 _ Om).set 12 _ Om).set 13 _ h
def QkD(src dst sp dp fl:Int):List Int:=((QkC sp dp fl).set 16 (Z5 (Z4 src dst 20++QkC sp dp fl)/256 % 256)).set 17 (Z5 (Z4 src dst 20++QkC sp dp fl) % 256)
def Qqu(ops:Array Oper):Prop:=Region.noSelect ops=true∧Qo ops 13 [0,1,2,3,4,5,6,7,8,9] 0=true∧Rd ops 13 1023 [10]∧Qo ops 13 [11] 2047=true∧Rd ops 13 4095 [12]∧Rd ops 13 8191 []
theorem QkE:Qqu ((Tryz.f164.body.bind (Qh 4)).getD #[]):=⟨Kr,Kr,Rk,Kr,Rk,Rk⟩
def Qqv(ops:Array Oper):Prop:=Region.noSelect ops=true∧Qo ops 13 [0,1,2,3,4,5,6,7,8,9] 0=true∧Rd ops 13 1023 [10]∧Qo ops 13 [11] 2047=true∧Rd ops 13 4095 [12]∧Rd ops 13 8191 []
theorem QkF:Qqv ((Tryz.f164.body.bind (Qh 5)).getD #[]):=⟨Kr,Kr,Rk,Kr,Rk,Rk⟩
theorem Qnv(src dst sp dp fl:Int)(h0:0≤src∧src<4294967296)(h1:0≤dst∧dst<4294967296)(hf:0≤fl∧fl<256)(w:World):
  Calls Tryz.prog 164 #[.int .u32 src,.int .u32 dst,.agg #[.int .u16 sp,.int .u16 dp,.int .u8 fl,.int .i64 20,.slice none 0 0]] w fun e w'=> ∃v,e= .returned (.tuple #[v,.bool true])∧Z8 w w' v (QkD src dst sp dp fl):=by
 have b2:=Xh (QiV src dst 20 h0 h1);have b3:=Xh (QvP sp dp fl hf);clear h0 h1 hf
 go_enter Tryz.func164,Tryz.ntmps164
 go_upto_region 3 with(fail)
 obtain⟨r,u⟩: ∃r,w.alloc (.cells #[.int .u16 sp,.int .u16 dp,.int .u8 fl,.int .i64 20,.slice none 0 0] 142)=r:=⟨_,rfl⟩;have E:Ext w r:=by rw [←u];exact Ea
 have f:RowZ r w.heap.size #[.int .u16 sp,.int .u16 dp,.int .u8 fl,.int .i64 20,.slice none 0 0]:=by rw [←u];exact RowZ.new _ _ _
 rw [u];clear u;obtain⟨x,e5⟩: ∃b,w.heap.size=b:=⟨_,rfl⟩;rw [e5]at f⊢;have z:=Xh e5;obtain⟨s,c3⟩: ∃s,x+1=s:=⟨_,rfl⟩;have a8:s≤r.heap.size:=by have:=f.l;unfold Lt at this;omega
 clear e5;refine wp_region_lit ?_;refine listV (v:= .pointer (some ⟨x,3,none⟩)) (w':=r) rfl Kr ?_;refine listV (v:= .int .i64 20) (w':=r) rfl ((Q0 (C:=fun _=>False) (f.cell 3 (by show 3<5;omega)) f.l (fun h=>h) Kr) _ (Mv.refl (fun _=>False) _)) ?_;refine listV rfl (Qqt Kr Kr r) ?_;obtain⟨I,a9⟩: ∃I,r.alloc (.cells (((List.replicate 20 (0:Int))).map (Value.int .u8)).toArray 5)=I:=⟨_,rfl⟩;have T:=World.alloc_heap_new r (.cells (((List.replicate 20 (0:Int))).map (Value.int .u8)).toArray 5);have U:Ext r I:=by rw [←a9];exact Ea
 rw [a9]at T⊢;clear a9;have E:=E.tr U;have f:=f.ext U;refine listV (v:= .slice (some ⟨r.heap.size,0,none⟩) 20 20) (w':=I) rfl Kr ?_;refine wpList_nil ?_;have d:=OB.of_heap (base:=s) T a8 20 (by simp) (by simp);have o:=Xt a8 U.size;obtain⟨g,eg⟩: ∃g,r.heap.size=g:=⟨_,rfl⟩;rw [eg]at d T a8⊢;have c1: ¬(fun q=>q=g) x:=fun e=>by have e':x=g:=e;omega
 have c2:x<g:=by omega
 clear U T;go_simp
 go_upto_region 4 with(fail)
 refine Qy (fun _=>False) (fun q=>q=g) 10 Kr ?_;obtain⟨WA,u⟩: ∃Wdr,World.drew I=Wdr:=⟨_,rfl⟩;have A:Ext I WA:=by rw [←u];exact Ext.dr (Ext.rf _)
 rw [u];clear u;have E:=E.tr A;have f:=f.ext A;have d:=d.ext A;have o:=Xt o A.size;refine Zi (N:=13) (R:=Qqu) (E:=((Tryz.f164.body.bind (Qh 4)).getD #[])) Kr QkE Kr fun hS=> ?_;have a:=hS.2.1;refine tWk 1 (.slice (some ⟨g,0,none⟩) 20 20) hS.1 a rfl fun a=>tWk 3 (.slice (some ⟨g,0,none⟩) 20 20) hS.1 a rfl fun a=>tWk 7 (.pointer (some ⟨x,0,none⟩)) hS.1 a rfl fun a=>tW 15 (.int .u16 sp) hS.1 a rfl (Qa1 (f.cell 0 (by show 0<5;omega)) f.l Om Kr) fun a=>tW 31 (.int .u16 (sp/256)) hS.1 a rfl (fun w' _=>Qcd Kr Kr w') fun a=>tW 63 (.int .u8 ((sp/256) % 256)) hS.1 a rfl (fun w' _=>Jy Kr w') fun a=>tWk 127 (.pointer (some ⟨x,0,none⟩)) hS.1 a rfl fun a=>tW 255 (.int .u16 sp) hS.1 a rfl (Qa1 (f.cell 0 (by show 0<5;omega)) f.l Om Kr) fun a=>tW 511 (.int .u8 (sp % 256)) hS.1 a rfl (fun w' _=>Jy Kr w') fun a=>tW 1023 (.pointer (some ⟨g,0,none⟩)) hS.1 a rfl (fun w' _=>Zh (m:=20) (c:=20) 0 Om Kr Kr w') fun a=> ?_;refine Qr hS.2.2.1 (QE (m':=2047) rfl rfl Kr (Y5 (B:=g) (i:=0) (n:=sp/256 % 256) (Zp d 0 (by simp)).1 (Zp d 0 (by simp)).2.1 Kr Kr) ⟨.inl Dc,(Mv.st _ (.inl rfl) (Mv.refl _ _))⟩ ?_);obtain⟨J,Y⟩: ∃J,World.setCell WA ⟨g,0,none⟩ (.int .u8 (sp/256 % 256))=J:=⟨_,rfl⟩;have j:Mv (fun q=>q=g) WA J:=by rw [←Y];exact Mv.st _ (.inl rfl) (Mv.refl _ _)
 have d:OB J s (.slice (some ⟨g,0,none⟩) 20 20) ((List.replicate 20 (0:Int)).set 0 (sp/256 % 256)):=by rw [←Y];exact YD d 0 _ (by simp)
 have E:=Mv.ext_of E j (fun q e=>by have:=z.out;omega);have f:=f.mv j Om;have o:=Xt o j.size;rw [Y];clear Y;have a:=hS.2.2.2.1;refine tW 4095 (.pointer (some ⟨g,1,none⟩)) hS.1 a rfl (fun w' _=>Zh (m:=20) (c:=20) 1 Om Kr Kr w') fun a=> ?_;refine Qr hS.2.2.2.2.1 (QE (m':=8191) rfl rfl Kr (Y5 (B:=g) (i:=1) (n:=sp % 256) (Zp d 1 (by simp)).1 (Zp d 1 (by simp)).2.1 Kr Kr) ⟨.inl Dc,(Mv.st _ (.inl rfl) (Mv.refl _ _))⟩ ?_);obtain⟨M,Z⟩: ∃M,World.setCell J ⟨g,1,none⟩ (.int .u8 (sp % 256))=M:=⟨_,rfl⟩;have j:Mv (fun q=>q=g) J M:=by rw [←Z];exact Mv.st _ (.inl rfl) (Mv.refl _ _)
 have d:OB M s (.slice (some ⟨g,0,none⟩) 20 20) (((List.replicate 20 (0:Int)).set 0 (sp/256 % 256)).set 1 (sp % 256)):=by rw [←Z];exact YD d 1 _ (by simp)
 have E:=Mv.ext_of E j (fun q e=>by have:=z.out;omega);have f:=f.mv j Om;have o:=Xt o j.size;rw [Z];clear Z;refine QZ hS.2.2.2.2.2 ?_;clear hS a;go_simp
 go_upto_region 5 with(fail)
 refine Qy (fun _=>False) (fun q=>q=g) 10 Kr ?_;obtain⟨WC,u⟩: ∃Wdr,World.drew M=Wdr:=⟨_,rfl⟩;have A:Ext M WC:=by rw [←u];exact Ext.dr (Ext.rf _)
 rw [u];clear u;have E:=E.tr A;have f:=f.ext A;have d:=d.ext A;have o:=Xt o A.size;refine Zi (N:=13) (R:=Qqv) (E:=((Tryz.f164.body.bind (Qh 5)).getD #[])) Kr QkF Kr fun hS=> ?_;have a:=hS.2.1;refine tWk 1 (.slice (some ⟨g,0,none⟩) 20 20) hS.1 a rfl fun a=>tWk 3 (.slice (some ⟨g,0,none⟩) 20 20) hS.1 a rfl fun a=>tWk 7 (.pointer (some ⟨x,1,none⟩)) hS.1 a rfl fun a=>tW 15 (.int .u16 dp) hS.1 a rfl (Qa1 (f.cell 1 (by show 1<5;omega)) f.l Om Kr) fun a=>tW 31 (.int .u16 (dp/256)) hS.1 a rfl (fun w' _=>Qcd Kr Kr w') fun a=>tW 63 (.int .u8 ((dp/256) % 256)) hS.1 a rfl (fun w' _=>Jy Kr w') fun a=>tWk 127 (.pointer (some ⟨x,1,none⟩)) hS.1 a rfl fun a=>tW 255 (.int .u16 dp) hS.1 a rfl (Qa1 (f.cell 1 (by show 1<5;omega)) f.l Om Kr) fun a=>tW 511 (.int .u8 (dp % 256)) hS.1 a rfl (fun w' _=>Jy Kr w') fun a=>tW 1023 (.pointer (some ⟨g,2,none⟩)) hS.1 a rfl (fun w' _=>Zh (m:=20) (c:=20) 2 Om Kr Kr w') fun a=> ?_;refine Qr hS.2.2.1 (QE (m':=2047) rfl rfl Kr (Y5 (B:=g) (i:=2) (n:=dp/256 % 256) (Zp d 2 (by simp)).1 (Zp d 2 (by simp)).2.1 Kr Kr) ⟨.inl Dc,(Mv.st _ (.inl rfl) (Mv.refl _ _))⟩ ?_);obtain⟨O,a0⟩: ∃O,World.setCell WC ⟨g,2,none⟩ (.int .u8 (dp/256 % 256))=O:=⟨_,rfl⟩;have j:Mv (fun q=>q=g) WC O:=by rw [←a0];exact Mv.st _ (.inl rfl) (Mv.refl _ _)
 have d:OB O s (.slice (some ⟨g,0,none⟩) 20 20) ((((List.replicate 20 (0:Int)).set 0 (sp/256 % 256)).set 1 (sp % 256)).set 2 (dp/256 % 256)):=by rw [←a0];exact YD d 2 _ (by simp)
 have E:=Mv.ext_of E j (fun q e=>by have:=z.out;omega);have f:=f.mv j Om;have o:=Xt o j.size;rw [a0];clear a0;have a:=hS.2.2.2.1;refine tW 4095 (.pointer (some ⟨g,3,none⟩)) hS.1 a rfl (fun w' _=>Zh (m:=20) (c:=20) 3 Om Kr Kr w') fun a=> ?_;refine Qr hS.2.2.2.2.1 (QE (m':=8191) rfl rfl Kr (Y5 (B:=g) (i:=3) (n:=dp % 256) (Zp d 3 (by simp)).1 (Zp d 3 (by simp)).2.1 Kr Kr) ⟨.inl Dc,(Mv.st _ (.inl rfl) (Mv.refl _ _))⟩ ?_);obtain⟨t,a1⟩: ∃t,World.setCell O ⟨g,3,none⟩ (.int .u8 (dp % 256))=t:=⟨_,rfl⟩;have j:Mv (fun q=>q=g) O t:=by rw [←a1];exact Mv.st _ (.inl rfl) (Mv.refl _ _)
 have d:OB t s (.slice (some ⟨g,0,none⟩) 20 20) (((((List.replicate 20 (0:Int)).set 0 (sp/256 % 256)).set 1 (sp % 256)).set 2 (dp/256 % 256)).set 3 (dp % 256)):=by rw [←a1];exact YD d 3 _ (by simp)
 have E:=Mv.ext_of E j (fun q e=>by have:=z.out;omega);have f:=f.mv j Om;have o:=Xt o j.size;rw [a1];clear a1;refine QZ hS.2.2.2.2.2 ?_;clear hS a;go_simp
 go_upto_region 6 with(fail)
 refine wp_region_lit ?_;refine listV (v:= .slice (some ⟨g,0,none⟩) 20 20) (w':=t) rfl Kr ?_;refine listV (v:= .pointer (some ⟨x,3,none⟩)) (w':=t) rfl Kr ?_;refine listV (v:= .int .i64 20) (w':=t) rfl ((Q0 (C:=fun _=>False) (f.cell 3 (by show 3<5;omega)) f.l (fun h=>h) Kr) _ (Mv.refl (fun _=>False) _)) ?_;refine listV (v:= .int .i64 5) (w':=t) rfl Kr ?_;refine listV (v:= .int .i64 80) (w':=t) rfl Kr ?_;refine listV (v:= .int .u8 80) (w':=t) rfl Kr ?_;refine listV (v:= .pointer (some ⟨g,12,none⟩)) (w':=t) rfl ((fun w' _=>Zh (m:=20) (c:=20) 12 Om Kr Kr w') _ (Mv.refl (fun _=>False) _)) ?_;refine Zj rfl (Y5 (B:=g) (i:=12) (n:=80) (Zp d 12 (by simp)).1 (Zp d 12 (by simp)).2.1 Kr Kr) ?_;obtain⟨y,a2⟩: ∃y,World.setCell t ⟨g,12,none⟩ (.int .u8 (80))=y:=⟨_,rfl⟩;have j:Mv (fun q=>q=g) t y:=by rw [←a2];exact Mv.st _ (.inl rfl) (Mv.refl _ _)
 have d:OB y s (.slice (some ⟨g,0,none⟩) 20 20) ((((((List.replicate 20 (0:Int)).set 0 (sp/256 % 256)).set 1 (sp % 256)).set 2 (dp/256 % 256)).set 3 (dp % 256)).set 12 80):=by rw [←a2];exact YD d 12 _ (by simp)
 have E:=Mv.ext_of E j (fun q e=>by have:=z.out;omega);have f:=f.mv j Om;have o:=Xt o j.size;rw [a2];clear a2;refine wpList_nil ?_;go_simp
 go_upto_region 7 with(fail)
 refine wp_region_lit ?_;refine listV (v:= .slice (some ⟨g,0,none⟩) 20 20) (w':=y) rfl Kr ?_;refine listV (v:= .pointer (some ⟨x,2,none⟩)) (w':=y) rfl Kr ?_;refine listV (v:= .int .u8 fl) (w':=y) rfl ((Yv (C:=fun _=>False) (f.cell 2 (by show 2<5;omega)) f.l (fun h=>h) Kr) _ (Mv.refl (fun _=>False) _)) ?_;refine listV (v:= .pointer (some ⟨g,13,none⟩)) (w':=y) rfl ((fun w' _=>Zh (m:=20) (c:=20) 13 Om Kr Kr w') _ (Mv.refl (fun _=>False) _)) ?_;refine Zj rfl (Y5 (B:=g) (i:=13) (n:=fl) (Zp d 13 (by simp)).1 (Zp d 13 (by simp)).2.1 Kr Kr) ?_;obtain⟨F,a3⟩: ∃F,World.setCell y ⟨g,13,none⟩ (.int .u8 (fl))=F:=⟨_,rfl⟩;have j:Mv (fun q=>q=g) y F:=by rw [←a3];exact Mv.st _ (.inl rfl) (Mv.refl _ _)
 have d:OB F s (.slice (some ⟨g,0,none⟩) 20 20) (((((((List.replicate 20 (0:Int)).set 0 (sp/256 % 256)).set 1 (sp % 256)).set 2 (dp/256 % 256)).set 3 (dp % 256)).set 12 80).set 13 fl):=by rw [←a3];exact YD d 13 _ (by simp)
 have E:=Mv.ext_of E j (fun q e=>by have:=z.out;omega);have f:=f.mv j Om;have o:=Xt o j.size;rw [a3];clear a3;refine wpList_nil ?_;go_simp;have HE:=Xh E;have b4:=Xh f;have b6:=Xh o;obtain⟨Q,S⟩: ∃L,QkC sp dp fl=L:=⟨_,rfl⟩;have D:=Xh (show Q.length=20 by rw [←S];exact QiW sp dp fl);obtain⟨P,a4⟩: ∃L,Z4 src dst 20++Q=L:=⟨_,rfl⟩;have b7:=Xh (show ByR P by rw [←a4,←S];exact(QfW _ _ _).app b3.out);have b8:=Xh (show P.length=32 by rw [←a4,List.length_append,Jd,D.out]);have b0:=Xh a4;have V:Hid (OB F s (.slice (some ⟨g,0,none⟩) 20 20) Q):=Xh (by rw [←S];exact d);have b9:=Xh S;have b1:=Xh (fun W p c (hs:SlB W p P)=>Qe5 P p c W hs b7.out (by have:=b8.out;omega));have hK:=Qlz P;obtain⟨K,eK⟩: ∃K,Z5 P=K:=⟨_,rfl⟩;have HK:=Xh eK;rw [eK]at b1 hK;have c4:F.cell? ⟨x,4,none⟩=some (.slice none 0 0):=f.cell 4 (by show 4<5;omega);clear E f o d S a4 eK
 go_upto_region 10 with(first|(go_at_call 206;(with_reducible refine(b2.out _).mono ?_);rintro e wp ⟨vp,rfl,op⟩;have X:=Xh op;clear op)|(at_builtin;refine listA (base:=F.heap.size) X.out.own (QaE.of_ob (V.out.ext X.out.ext)) (by rw [Jd,D.out];omega) X.out.ext.size rfl rfl ?_;intro va wa d hm;rw [b0.out]at d;have H:=Xh (Mv.ext_of X.out.ext hm (fun k hk=>hk));obtain⟨pp,pc,rfl,-,hs⟩:=d.slb;have c0:=Xh (b1.out _ _ pc hs);clear d hm hs)|(go_at_call 199;(with_reducible refine(c0.out).mono ?_);rintro e wc ⟨rfl,gc⟩;have H:=Xh (H.out.tr gc);clear gc))
 clear c4;have d:=V.out.ext H.out;have f:=b4.out.ext H.out;have E:=HE.out.tr H.out;have o:=Xt b6.out H.out.size;refine wp_region_lit ?_;refine listV (v:= .slice (some ⟨g,0,none⟩) 20 20) (w':=wc) rfl Kr ?_;refine listV (v:= .slice (some ⟨g,0,none⟩) 20 20) (w':=wc) rfl Kr ?_;refine listV (v:= .int .u16 K) (w':=wc) rfl Kr ?_;refine listV (v:= .int .u16 (K/256)) (w':=wc) rfl ((fun w' _=>Qcd Kr Kr w') _ (Mv.refl (fun _=>False) _)) ?_;refine listV (v:= .int .u8 ((K/256) % 256)) (w':=wc) rfl ((fun w' _=>Jy Kr w') _ (Mv.refl (fun _=>False) _)) ?_;refine listV (v:= .int .u16 K) (w':=wc) rfl Kr ?_;refine listV (v:= .int .u8 (K % 256)) (w':=wc) rfl ((fun w' _=>Jy Kr w') _ (Mv.refl (fun _=>False) _)) ?_;refine listV (v:= .pointer (some ⟨g,16,none⟩)) (w':=wc) rfl ((fun w' _=>Zh (m:=20) (c:=20) 16 Om Kr Kr w') _ (Mv.refl (fun _=>False) _)) ?_;refine Zj rfl (Y5 (B:=g) (i:=16) (n:=K/256 % 256) (Zp d 16 (by rw [D.out];omega)).1 (Zp d 16 (by rw [D.out];omega)).2.1 Kr Kr) ?_;obtain⟨G,a5⟩: ∃G,World.setCell wc ⟨g,16,none⟩ (.int .u8 (K/256 % 256))=G:=⟨_,rfl⟩;have j:Mv (fun q=>q=g) wc G:=by rw [←a5];exact Mv.st _ (.inl rfl) (Mv.refl _ _)
 have d:OB G s (.slice (some ⟨g,0,none⟩) 20 20) (Q.set 16 (K/256 % 256)):=by rw [←a5];exact YD d 16 _ D.out.symm
 have E:=Mv.ext_of E j (fun q e=>by have:=z.out;omega);have f:=f.mv j Om;have o:=Xt o j.size;rw [a5];clear a5;refine listV (v:= .pointer (some ⟨g,17,none⟩)) (w':=G) rfl ((fun w' _=>Zh (m:=20) (c:=20) 17 Om Kr Kr w') _ (Mv.refl (fun _=>False) _)) ?_;refine Zj rfl (Y5 (B:=g) (i:=17) (n:=K % 256) (Zp d 17 (by rw [List.length_set,D.out];omega)).1 (Zp d 17 (by rw [List.length_set,D.out];omega)).2.1 Kr Kr) ?_;obtain⟨a6,a7⟩: ∃a6,World.setCell G ⟨g,17,none⟩ (.int .u8 (K % 256))=a6:=⟨_,rfl⟩;have j:Mv (fun q=>q=g) G a6:=by rw [←a7];exact Mv.st _ (.inl rfl) (Mv.refl _ _)
 have d:OB a6 s (.slice (some ⟨g,0,none⟩) 20 20) ((Q.set 16 (K/256 % 256)).set 17 (K % 256)):=by rw [←a7];exact YD d 17 _ (by rw [List.length_set,D.out])
 have E:=Mv.ext_of E j (fun q e=>by have:=z.out;omega);have f:=f.mv j Om;have o:=Xt o j.size;rw [a7];clear a7;refine wpList_nil ?_;go_simp;have HE:=Xh E;have V:=Xh d;clear E f o d;go_wp2;refine bodyPost_ret (v:= .tuple #[.slice (some ⟨g,0,none⟩) 20 20,.bool true]) (by simp [results,Tryz.results164,go_sem]) rfl ?_;refine⟨_,rfl,?_,HE.out⟩;unfold QkD;rw [b9.out,b0.out,HK.out,z.out];exact V.out.le Om
theorem Qqw(src dst sp dp fl:Int):(QkD src dst sp dp fl).length=20:=by unfold QkD;rw [List.length_set,List.length_set,QiW]
theorem QvQ(a b:Int)(pl:List Int)(g q:Nat)(w1:World)(HL:pl.length=20)(H0:0≤a∧a<4294967296)(H1:0≤b∧b<4294967296)(s1:SlB w1 (some ⟨g,0,none⟩) pl):Calls Tryz.prog 155 #[.agg #[.int .u8 0,.int .u16 0,.int .u16 0,.int .u8 64,.int .u8 6,.int .u32 a,.int .u32 b,.slice none 0 0,.slice (some ⟨g,0,none⟩) pl.length q]] w1 fun e w'=> ∃v,e= .returned (.tuple #[v,.bool true])∧Z8 w1 w' v (QiT ⟨0,0,0,64,6,a,b,[],pl⟩):=by
 refine Qe7 ⟨0,0,0,64,6,a,b,[],pl⟩ none (some ⟨g,0,none⟩) 0 q w1 (by show hdR 0 0 pl.length=true;rw [HL];decide) (by show(0:Int)≤0∧(0:Int)<256;decide) (by show(0:Int)≤0∧(0:Int)<65536;decide) (by show(0:Int)≤0∧(0:Int)<65536;decide) (by show(0:Int)≤64∧(64:Int)<256;decide) (by show(0:Int)≤6∧(6:Int)<256;decide) H0 H1 (SlB.nil _ _) (fun _=>rfl) s1 (fun e=>by cases e) ByR.nil ?_ ?_
 ·show 0≤40;omega
 ·show pl.length≤2000;omega
theorem Qnw(a b c d fl:Int)(h0:0≤a∧a<4294967296)(h1:0≤b∧b<4294967296)(hf:0≤fl∧fl<256)(w:World):
  Calls Tryz.prog 91 #[.agg #[.int .u32 a,.int .u32 b,.int .u16 c,.int .u16 d],.int .u8 fl,.slice none 0 0] w fun e w'=> ∃v,e= .returned (.tuple #[v,.bool true])∧Z8 w w' v (QiT ⟨0,0,0,64,6,a,b,[],QkD a b c d fl⟩):=by
 have j:=Xh (Qnv a b c d fl h0 h1 hf);have A: ∀W,(Instr.build 142 #[(0,.int .u16 c),(1,.int .u16 d),(2,.int .u8 fl),(3,.int .i64 20),(4,.slice none 0 0)]).run Tryz.prog W= .ok (.agg #[.int .u16 c,.int .u16 d,.int .u8 fl,.int .i64 20,.slice none 0 0]) W:=fun W=>by kernel_rfl
 have B: ∀W (g n q:Nat),(Instr.build 132 #[(3,.int .u8 64),(4,.int .u8 6),(5,.int .u32 a),(6,.int .u32 b),(8,.slice (some ⟨g,0,none⟩) n q)]).run Tryz.prog W= .ok (.agg #[.int .u8 0,.int .u16 0,.int .u16 0,.int .u8 64,.int .u8 6,.int .u32 a,.int .u32 b,.slice none 0 0,.slice (some ⟨g,0,none⟩) n q]) W:=fun W g n q=>by kernel_rfl
 obtain⟨h,i⟩: ∃h,QkD a b c d fl=h:=⟨_,rfl⟩;have k:=Xh (show h.length=20 by rw [←i];exact Qqw _ _ _ _ _);rw [i]at j⊢;have x:=Xh h0;have y:=Xh h1;clear i h0 h1 hf
 go_enter Tryz.func91,Tryz.ntmps91
 go_wp2_with (first|(go_at_call 164;(with_reducible refine(j.out _).mono ?_);rintro e r ⟨E,rfl,f⟩;obtain⟨g,q,rfl,-,-,-,-,-⟩:=f.own.at (by have:=k.out;omega);have l:SlB r (some ⟨g,0,none⟩) h:=(by obtain⟨p,c,e,-,s⟩:=f.sl;cases e;exact s);have C:=(f.ext.cell (p:=⟨w.heap.size,0,none⟩) (by simp [go_sem,Lt])).trans (show _=some (Value.int .u32 a)by simp [go_sem]);have D:=(f.ext.cell (p:=⟨w.heap.size,1,none⟩) (by simp [go_sem,Lt])).trans (show _=some (Value.int .u32 b)by simp [go_sem]);have m:=Xh (Ea.tr f.ext);have z:=Xh (QvQ a b h g q r k.out x.out y.out l);clear l f)|(go_at_call 155;(with_reducible refine(z.out).mono ?_);rintro e F ⟨t,rfl,u⟩;have o:=Xh u;clear u))
 refine bodyPost_ret (v:= .tuple #[t,.bool true]) (by simp [results,Tryz.results91,go_sem]) rfl ?_;exact⟨t,rfl,o.out.own.le (by have:=m.out.size;omega),m.out.tr o.out.ext⟩
theorem Zz(o:Opt):ZO o=true↔(1≤o.ki∧o.ki≤5)∧(0≤o.bu∧o.bu≤15)∧((-1)≤o.cu∧o.cu≤5)∧((-1)≤o.pv∧o.pv≤5)∧(0≤o.ge∧o.ge≤2147483647)∧(0≤o.ti∧o.ti≤1099511627776):=by
 unfold ZO J4 QeG;simp only [List.all_cons,List.all_nil,Bool.and_eq_true,decide_eq_true_eq,Bool.and_true];omega
theorem QdQ(o:Opt)(hbu:0≤o.bu)(w:World):Cr 165 #[.agg (opv o)] w (.bool (ZO o)):=by
 unfold opv
 go_enter Tryz.func165,Tryz.ntmps165
 cases b:decide (1≤o.ki)
 ·have a:=Xh (show ZO o=false from Bool.eq_false_iff.2 fun h=>of_decide_eq_false b (by have:=(Zz o).1 h;omega));clear hbu;go_wp2;go_ret;exact⟨Qm a.out.symm,Ext.al (Ext.rf _) _⟩
 cases c:decide (o.ki<6)
 ·have a:=Xh (show ZO o=false from Bool.eq_false_iff.2 fun h=>of_decide_eq_false c (by have:=(Zz o).1 h;omega));clear hbu;go_wp2;go_ret;exact⟨Qm a.out.symm,Ext.al (Ext.rf _) _⟩
 cases d:decide (o.bu<16)
 ·have a:=Xh (show ZO o=false from Bool.eq_false_iff.2 fun h=>of_decide_eq_false d (by have:=(Zz o).1 h;omega));clear hbu;go_wp2;go_ret;exact⟨Qm a.out.symm,Ext.al (Ext.rf _) _⟩
 cases e:decide ((-1)≤o.cu)
 ·have a:=Xh (show ZO o=false from Bool.eq_false_iff.2 fun h=>of_decide_eq_false e (by have:=(Zz o).1 h;omega));clear hbu;go_wp2;go_ret;exact⟨Qm a.out.symm,Ext.al (Ext.rf _) _⟩
 cases f:decide (o.cu<6)
 ·have a:=Xh (show ZO o=false from Bool.eq_false_iff.2 fun h=>of_decide_eq_false f (by have:=(Zz o).1 h;omega));clear hbu;go_wp2;go_ret;exact⟨Qm a.out.symm,Ext.al (Ext.rf _) _⟩
 cases g:decide ((-1)≤o.pv)
 ·have a:=Xh (show ZO o=false from Bool.eq_false_iff.2 fun h=>of_decide_eq_false g (by have:=(Zz o).1 h;omega));clear hbu;go_wp2;go_ret;exact⟨Qm a.out.symm,Ext.al (Ext.rf _) _⟩
 cases i:decide (o.pv<6)
 ·have a:=Xh (show ZO o=false from Bool.eq_false_iff.2 fun h=>of_decide_eq_false i (by have:=(Zz o).1 h;omega));clear hbu;go_wp2;go_ret;exact⟨Qm a.out.symm,Ext.al (Ext.rf _) _⟩
 cases j:decide (0≤o.ge)
 ·have a:=Xh (show ZO o=false from Bool.eq_false_iff.2 fun h=>of_decide_eq_false j (by have:=(Zz o).1 h;omega));clear hbu;go_wp2;go_ret;exact⟨Qm a.out.symm,Ext.al (Ext.rf _) _⟩
 cases k:decide (o.ge<2147483648)
 ·have a:=Xh (show ZO o=false from Bool.eq_false_iff.2 fun h=>of_decide_eq_false k (by have:=(Zz o).1 h;omega));clear hbu;go_wp2;go_ret;exact⟨Qm a.out.symm,Ext.al (Ext.rf _) _⟩
 cases l:decide (0≤o.ti)
 ·have a:=Xh (show ZO o=false from Bool.eq_false_iff.2 fun h=>of_decide_eq_false l (by have:=(Zz o).1 h;omega));clear hbu;go_wp2;go_ret;exact⟨Qm a.out.symm,Ext.al (Ext.rf _) _⟩
 cases m:decide (o.ti≤1099511627776)
 ·have a:=Xh (show ZO o=false from Bool.eq_false_iff.2 fun h=>of_decide_eq_false m (by have:=(Zz o).1 h;omega));clear hbu;go_wp2;go_ret;exact⟨Qm a.out.symm,Ext.al (Ext.rf _) _⟩
 have a:=Xh (show ZO o=true from(Zz o).2 (by
  have n:=of_decide_eq_true b;have p:=of_decide_eq_true c;have q:=of_decide_eq_true d;have r:=of_decide_eq_true e;have s:=of_decide_eq_true f;have t:=of_decide_eq_true g;have u:=of_decide_eq_true i;have v:=of_decide_eq_true j;have x:=of_decide_eq_true k;have y:=of_decide_eq_true l;have z:=of_decide_eq_true m
  omega))
 clear hbu;go_wp2;go_ret;exact⟨Qm a.out.symm,Ext.al (Ext.rf _) _⟩
theorem Qby(x:Int)(h0:0≤x)(h1:x<281474976710656):bits .and .i64 x 255=x % 256:=by
 have h:=bits_mask .i64 48 Dc (fun n h0 h1=>by rw [IntKind.wrap_i64];omega) 8 Dc x h0 Om;have e:((2:Int)^8- 1)=255:=by decide
 have a:((2:Int)^8)=256:=by decide
 rw [e,a]at h;exact h
theorem Y6(x:Int)(h0:0≤x)(h1:x<281474976710656)(k:Int)(hk:1≤k):0≤x/k∧x/k<281474976710656:=by
 refine⟨Int.ediv_nonneg h0 Om,?_⟩;exact Int.lt_of_le_of_lt (Int.ediv_le_self _ h0) h1
theorem QiX(n:Int)(m:Nat)(hm:m≤6)(h0:0≤n)(h1:n<281474976710656)(w:World):
  Calls Tryz.prog 200 #[.int .i64 n,.int .i64 m] w fun e w'=> ∃v,e= .returned v∧w'.ownsRow w.heap.size 5 1 v m ((byN n m).map (Value.int .u8))∧Ext w w':=by
 obtain⟨s,t,x,y,z⟩:=info_parts YB;have G:IntKind.i64.wrap ((m:Int)- 1)=(m:Int)- 1:=by rw [IntKind.wrap_i64];omega
 go_enter Tryz.func200,Tryz.ntmps200
 go_wp2
 go_loopw [5,6] (fun v a wr=> ∃q:Nat,q≤m∧a= .int .i64 ((q:Int)- 1)∧wr.ownsRow w.heap.size 5 1 v (m- q) (((byN n m).take (m- q)).map (Value.int .u8))∧Ext w wr) (fun _ a _=>(intOf a+1).toNat)
 case atStart=>exact⟨m,Nat.le_refl _,rfl,by rw [Nat.sub_self];exact World.ownsRow_nil _ _ _ _,Ext.rf _⟩
 case round=>
  obtain⟨q,I,rfl,D,g⟩:=hrel
  by_cases F:q=0
  ·subst F;have f:=Xh D;clear D;go_wp2;refine bodyPost_ret (v:=u5) (by simp [results,Tryz.results200,go_sem]) rfl ⟨_,rfl,?_,g⟩;have:=f.out
   rwa [Nat.sub_zero,List.take_of_length_le (by rw [ZA];omega)]at this
  ·obtain⟨j,rfl⟩: ∃j,q=j+1:=⟨q- 1,Om⟩;have E:decide ((0:Int)≤((j+1:Nat):Int)- 1)=true:=decide_eq_true Om;have p:=Xh (Qcm n m j Om);have f:=Xh D;clear D;rw [show(((j+1:Nat):Int)- 1)=j by omega]at E⊢;have H:j<6:=by omega
   obtain rfl|rfl|rfl|rfl|rfl|rfl:j=0∨j=1∨j=2∨j=3∨j=4∨j=5:=by omega
   ·have i:=Xh (show bits .and .i64 n 255 % 256=n/256^0 % 256 by
     rw [Qby _ h0 h1,show(256:Int)^0=1 by decide];omega)
    go_wp2_with (at_builtin;go_must (refine wpList_append_own _ rfl _ _ 28 rfl w.heap.size 5 s (.int .u8 0) 1 1 Tryz.underlying28 t x y z rfl Dc _ _ _ rfl (f.out.alloc _) ⟨wr.heap.size,0,none⟩ 1 1 [.int .u8 (bits .and .i64 n 255 % 256)] rfl rfl (Q1 _ _ _) (by intro u b;simp at b;subst b;rfl) (by unfold maxLen;omega) Om (by have:=g.size;simp;omega) ?_);intro A B c d _;have l:=Xh c;have o:=Xh d;clear c d)
    go_roundw
    case rel=>
     refine⟨0,Om,by go_num,?_,Mv.ext_of (Ext.al g _) (Mv.of_grown (C:=fun k=>w.heap.size≤k) o.out fun r e=> .inl (Qi f.out r e)) (fun k h=>h)⟩;have h:=l.out;rw [i.out,show m- (0+1)+1=m- 0 by omega]at h;rw [←p.out,List.map_append];exact h
    case measure=>first|(simp [intOf];done)|(simp [intOf];omega)
   ·have i:=Xh (show bits .and .i64 (n/256) 255 % 256=n/256^1 % 256 by
     rw [Qby _ (Y6 n h0 h1 256 Om).1 (Y6 n h0 h1 256 Om).2,show(256:Int)^1=256 by decide];omega)
    go_wp2_with (at_builtin;go_must (refine wpList_append_own _ rfl _ _ 28 rfl w.heap.size 5 s (.int .u8 0) 1 1 Tryz.underlying28 t x y z rfl Dc _ _ _ rfl (f.out.alloc _) ⟨wr.heap.size,0,none⟩ 1 1 [.int .u8 (bits .and .i64 (n/256) 255 % 256)] rfl rfl (Q1 _ _ _) (by intro u b;simp at b;subst b;rfl) (by unfold maxLen;omega) Om (by have:=g.size;simp;omega) ?_);intro A B c d _;have l:=Xh c;have o:=Xh d;clear c d)
    go_roundw
    case rel=>
     refine⟨1,Om,by go_num,?_,Mv.ext_of (Ext.al g _) (Mv.of_grown (C:=fun k=>w.heap.size≤k) o.out fun r e=> .inl (Qi f.out r e)) (fun k h=>h)⟩;have h:=l.out;rw [i.out,show m- (1+1)+1=m- 1 by omega]at h;rw [←p.out,List.map_append];exact h
    case measure=>first|(simp [intOf];done)|(simp [intOf];omega)
   ·have i:=Xh (show bits .and .i64 (n/65536) 255 % 256=n/256^2 % 256 by
     rw [Qby _ (Y6 n h0 h1 65536 Om).1 (Y6 n h0 h1 65536 Om).2,show(256:Int)^2=65536 by decide];omega)
    go_wp2_with (at_builtin;go_must (refine wpList_append_own _ rfl _ _ 28 rfl w.heap.size 5 s (.int .u8 0) 1 1 Tryz.underlying28 t x y z rfl Dc _ _ _ rfl (f.out.alloc _) ⟨wr.heap.size,0,none⟩ 1 1 [.int .u8 (bits .and .i64 (n/65536) 255 % 256)] rfl rfl (Q1 _ _ _) (by intro u b;simp at b;subst b;rfl) (by unfold maxLen;omega) Om (by have:=g.size;simp;omega) ?_);intro A B c d _;have l:=Xh c;have o:=Xh d;clear c d)
    go_roundw
    case rel=>
     refine⟨2,Om,by go_num,?_,Mv.ext_of (Ext.al g _) (Mv.of_grown (C:=fun k=>w.heap.size≤k) o.out fun r e=> .inl (Qi f.out r e)) (fun k h=>h)⟩;have h:=l.out;rw [i.out,show m- (2+1)+1=m- 2 by omega]at h;rw [←p.out,List.map_append];exact h
    case measure=>first|(simp [intOf];done)|(simp [intOf];omega)
   ·have i:=Xh (show bits .and .i64 (n/16777216) 255 % 256=n/256^3 % 256 by
     rw [Qby _ (Y6 n h0 h1 16777216 Om).1 (Y6 n h0 h1 16777216 Om).2,show(256:Int)^3=16777216 by decide];omega)
    go_wp2_with (at_builtin;go_must (refine wpList_append_own _ rfl _ _ 28 rfl w.heap.size 5 s (.int .u8 0) 1 1 Tryz.underlying28 t x y z rfl Dc _ _ _ rfl (f.out.alloc _) ⟨wr.heap.size,0,none⟩ 1 1 [.int .u8 (bits .and .i64 (n/16777216) 255 % 256)] rfl rfl (Q1 _ _ _) (by intro u b;simp at b;subst b;rfl) (by unfold maxLen;omega) Om (by have:=g.size;simp;omega) ?_);intro A B c d _;have l:=Xh c;have o:=Xh d;clear c d)
    go_roundw
    case rel=>
     refine⟨3,Om,by go_num,?_,Mv.ext_of (Ext.al g _) (Mv.of_grown (C:=fun k=>w.heap.size≤k) o.out fun r e=> .inl (Qi f.out r e)) (fun k h=>h)⟩;have h:=l.out;rw [i.out,show m- (3+1)+1=m- 3 by omega]at h;rw [←p.out,List.map_append];exact h
    case measure=>first|(simp [intOf];done)|(simp [intOf];omega)
   ·have i:=Xh (show bits .and .i64 (n/4294967296) 255 % 256=n/256^4 % 256 by
     rw [Qby _ (Y6 n h0 h1 4294967296 Om).1 (Y6 n h0 h1 4294967296 Om).2,show(256:Int)^4=4294967296 by decide];omega)
    go_wp2_with (at_builtin;go_must (refine wpList_append_own _ rfl _ _ 28 rfl w.heap.size 5 s (.int .u8 0) 1 1 Tryz.underlying28 t x y z rfl Dc _ _ _ rfl (f.out.alloc _) ⟨wr.heap.size,0,none⟩ 1 1 [.int .u8 (bits .and .i64 (n/4294967296) 255 % 256)] rfl rfl (Q1 _ _ _) (by intro u b;simp at b;subst b;rfl) (by unfold maxLen;omega) Om (by have:=g.size;simp;omega) ?_);intro A B c d _;have l:=Xh c;have o:=Xh d;clear c d)
    go_roundw
    case rel=>
     refine⟨4,Om,by go_num,?_,Mv.ext_of (Ext.al g _) (Mv.of_grown (C:=fun k=>w.heap.size≤k) o.out fun r e=> .inl (Qi f.out r e)) (fun k h=>h)⟩;have h:=l.out;rw [i.out,show m- (4+1)+1=m- 4 by omega]at h;rw [←p.out,List.map_append];exact h
    case measure=>first|(simp [intOf];done)|(simp [intOf];omega)
   ·have i:=Xh (show bits .and .i64 (n/1099511627776) 255 % 256=n/256^5 % 256 by
     rw [Qby _ (Y6 n h0 h1 1099511627776 Om).1 (Y6 n h0 h1 1099511627776 Om).2,show(256:Int)^5=1099511627776 by decide];omega)
    go_wp2_with (at_builtin;go_must (refine wpList_append_own _ rfl _ _ 28 rfl w.heap.size 5 s (.int .u8 0) 1 1 Tryz.underlying28 t x y z rfl Dc _ _ _ rfl (f.out.alloc _) ⟨wr.heap.size,0,none⟩ 1 1 [.int .u8 (bits .and .i64 (n/1099511627776) 255 % 256)] rfl rfl (Q1 _ _ _) (by intro u b;simp at b;subst b;rfl) (by unfold maxLen;omega) Om (by have:=g.size;simp;omega) ?_);intro A B c d _;have l:=Xh c;have o:=Xh d;clear c d)
    go_roundw
    case rel=>
     refine⟨5,Om,by go_num,?_,Mv.ext_of (Ext.al g _) (Mv.of_grown (C:=fun k=>w.heap.size≤k) o.out fun r e=> .inl (Qi f.out r e)) (fun k h=>h)⟩;have h:=l.out;rw [i.out,show m- (5+1)+1=m- 5 by omega]at h;rw [←p.out,List.map_append];exact h
    case measure=>first|(simp [intOf];done)|(simp [intOf];omega)
theorem Qhm{o:Opt}(h:ZO o=true):Ym o= [158,16,o.ki,o.bu,o.cu % 256,o.pv % 256]++byN o.ge 4++byN o.ti 6:=by
 have h:=(Zz o).1 h;have e: ∀n:Int,byN n 1= [n % 256]:=fun n=>by show [n/256^0 % 256]=_;rw [show(256:Int)^0=1 by decide,Int.ediv_one]
 show byN 158 1++(byN 16 1++(byN o.ki 1++(byN o.bu 1++(byN o.cu 1++(byN o.pv 1++(byN o.ge 4++(byN o.ti 6++ [])))))))=_;rw [e,e,e,e,e,e,show o.ki % 256=o.ki by omega,show o.bu % 256=o.bu by omega];simp
theorem QiY(lo:Nat)(n:Int)(m:Nat)(hm:m≤6)(h:0≤n∧n<281474976710656)(w:World)(hlo:lo≤w.heap.size):Calls Tryz.prog 200 #[.int .i64 n,.int .i64 m] w fun e w'=> ∃v,e= .returned v∧OB w' lo v (byN n m)∧Ext w w':=
 (QiX n m hm h.1 h.2 w).mono fun e w' ⟨v,h1,h2,h3⟩=>⟨v,h1,OB.le (by unfold OB;rw [ZA];exact h2) hlo,h3⟩
theorem Qmd{x:Int}(h:(-1)≤x∧x≤5):bits .and .i64 x 255=x % 256:=by
 obtain rfl|rfl|rfl|rfl|rfl|rfl|rfl:x= -1∨x=0∨x=1∨x=2∨x=3∨x=4∨x=5:=by omega
 all_goals decide
def Qqx(ops:Array Oper):Prop:=Region.noSelect ops=true∧Qo ops 11 [0,1,2,5,6] 0=true∧Rd ops 11 103 [3]∧Rd ops 11 111 [4]∧Rd ops 11 127 [7]∧Rd ops 11 255 [8]∧Qo ops 11 [9,10] 511=true∧Rd ops 11 2047 []
theorem QkG:Qqx ((Tryz.f151.body.bind (Qh 4)).getD #[]):=⟨Kr,Kr,Rk,Rk,Rk,Rk,Kr,Rk⟩
theorem Qnx(o:Opt)(h:ZO o=true)(w:World):Calls Tryz.prog 151 #[.agg (opv o)] w fun e w'=> ∃v,e= .returned (.tuple #[v,.int .i64 0])∧Z8 w w' v (Ym o):=by
 have A:=(Zz o).1 h;have B:=Xh (QdQ o Om);have T:=Xh (show 0≤o.ge∧o.ge<281474976710656 by omega);have U:=Xh (show 0≤o.ti∧o.ti<281474976710656 by omega);have V:=Xh (Qhm h);have h1:=Qmd A.2.2.1;have h2:=Qmd A.2.2.2.1;have h3:IntKind.u8.wrap (o.cu % 256)=o.cu % 256:=by rw [Ye];omega
 have h4:IntKind.u8.wrap (o.pv % 256)=o.pv % 256:=by rw [Ye];omega
 rw [h]at B;clear h A;unfold opv at B⊢
 go_enter Tryz.func151,Tryz.ntmps151
 go_upto_region 1 with(fail)
 obtain⟨x,i⟩: ∃x,w.alloc (.cells #[.int .u8 o.ki,.int .u8 o.bu,.int .i64 o.cu,.int .i64 o.pv,.int .i64 o.ge,.int .i64 o.ti] 75)=x:=⟨_,rfl⟩;have L:Ext w x:=by rw [←i];exact Ea
 have s:RowZ x w.heap.size #[.int .u8 o.ki,.int .u8 o.bu,.int .i64 o.cu,.int .i64 o.pv,.int .i64 o.ge,.int .i64 o.ti]:=by rw [←i];exact RowZ.new _ _ _
 rw [i];clear i;obtain⟨b1,J⟩: ∃b,w.heap.size=b:=⟨_,rfl⟩;rw [J]at s⊢;have D:=Xh J;have F:=s.r;have m:=Xh s;have q:=Xh L;clear s J L
 go_upto_region 3 with(go_at_call 165;(refine(B.out _).mono ?_);rintro e j ⟨rfl,M⟩;have m:=Xh (m.out.ext M);have q:=Xh (q.out.tr M))
 clear F;have F:=m.out.r;have W:j.cell? ⟨b1,0,none⟩=some (.int .u8 o.ki):=m.out.cell 0 (by show 0<6;omega);have X:j.cell? ⟨b1,1,none⟩=some (.int .u8 o.bu):=m.out.cell 1 (by show 1<6;omega);have Y:j.cell? ⟨b1,2,none⟩=some (.int .i64 o.cu):=m.out.cell 2 (by show 2<6;omega);have Z:j.cell? ⟨b1,3,none⟩=some (.int .i64 o.pv):=m.out.cell 3 (by show 3<6;omega);clear F
 go_upto_region 4 with(fail)
 clear W X Y Z;obtain⟨d,a1⟩: ∃d,b1+1=d:=⟨_,rfl⟩;have G:d≤j.heap.size:=by have:=m.out.l;unfold Lt at this;omega
 obtain⟨p,i⟩: ∃p,j.alloc (.cells #[.int .u8 158,.int .u8 16,.int .u8 o.ki,.int .u8 o.bu,.int .u8 (o.cu % 256),.int .u8 (o.pv % 256)] 5)=p:=⟨_,rfl⟩;have t:Ext j p:=by rw [←i];exact Ea
 have c:OB p d (.slice (some ⟨j.heap.size,0,none⟩) 6 6) [158,16,o.ki,o.bu,o.cu % 256,o.pv % 256]:=by rw [←i];exact OB.lit j d [158,16,o.ki,o.bu,o.cu % 256,o.pv % 256] 6 rfl G (by simp)
 rw [i];clear i;have a:=m.out.ext t;have E:=q.out.tr t;have g:=Xt G t.size;obtain⟨va,O⟩: ∃v,Value.slice (some ⟨j.heap.size,0,none⟩) 6 6=v:=⟨_,rfl⟩;rw [O]at c⊢;clear t G O;refine Qy (fun k=>d≤k) (fun k=>d≤k) 11 Kr ?_;obtain⟨P,i⟩: ∃Wdr,World.drew p=Wdr:=⟨_,rfl⟩;have u:Ext p P:=by rw [←i];exact Ext.dr (Ext.rf _)
 rw [i];clear i;have E:=E.tr u;have a:=a.ext u;have c:=c.ext u;have g:=Xt g u.size;refine Zi (N:=11) (R:=Qqx) (E:=((Tryz.f151.body.bind (Qh 4)).getD #[])) Kr QkG Kr fun hS=> ?_;have f:=hS.2.1;refine tWk 1 va hS.1 f rfl fun f=>tWk 3 (.pointer (some ⟨b1,4,none⟩)) hS.1 f rfl fun f=>tW 7 (.int .i64 o.ge) hS.1 f rfl (Q0 (a.cell 4 (by show 4<6;omega)) a.l Om Kr) fun f=>tWk 39 (.pointer (some ⟨b1,5,none⟩)) hS.1 f rfl fun f=>tW 103 (.int .i64 o.ti) hS.1 f rfl (Q0 (a.cell 5 (by show 5<6;omega)) a.l Om Kr) fun f=> ?_;refine sV 111 (fun v w'=>OB w' d v (byN o.ge 4)) hS.2.2.1 rfl (QiY d o.ge 4 Om T.out P g) ?_;rintro vq a2 y K;have E:=E.tr y;have a:=a.ext y;have c:=c.ext y;have g:=Xt g y.size;refine Qr hS.2.2.2.1 (Qma (m':=127) (base:=d) (b1:= [158,16,o.ki,o.bu,o.cu % 256,o.pv % 256]) rfl rfl Kr Kr c (QaE.of_ob K) (by simp [ZA]<;>omega) g (fun k hk=>hk) ?_);intro v5 Q c n;have a:=a.mv (C:=fun k=>d≤k) n Om;have E:=Mv.ext_of (C:=fun k=>d≤k) E n (fun k hk=>by have:=D.out;omega);have g:=Xt g n.size;have H:=Ext.rf Q;have E:=E.tr H;have a:=a.ext H;have c:=c.ext H;refine sV 255 (fun v w'=>OB w' d v (byN o.ti 6)) hS.2.2.2.2.1 rfl (QiY d o.ti 6 Om U.out Q g) ?_;rintro vq a3 z K;have E:=E.tr z;have a:=a.ext z;have c:=c.ext z;have g:=Xt g z.size;refine Qr hS.2.2.2.2.2.1 (Qma (m':=511) (base:=d) (b1:=([158,16,o.ki,o.bu,o.cu % 256,o.pv % 256]++byN o.ge 4)) rfl rfl Kr Kr c (QaE.of_ob K) (by simp [ZA]<;>omega) g (fun k hk=>hk) ?_);intro S a0 c n;have a:=a.mv (C:=fun k=>d≤k) n Om;have E:=Mv.ext_of (C:=fun k=>d≤k) E n (fun k hk=>by have:=D.out;omega);have g:=Xt g n.size;have I:=Ext.rf a0;have E:=E.tr I;have a:=a.ext I;have c:=c.ext I;have f:=hS.2.2.2.2.2.2.1;refine tWk 1023 S hS.1 f rfl fun f=>tWk 2047 (.int .i64 0) hS.1 f rfl fun f=> ?_;refine QZ hS.2.2.2.2.2.2.2 ?_;clear hS f;go_simp;have q:=Xh E;have HO:=Xh c;clear E a g c;go_wp2;refine bodyPost_ret (v:= .tuple #[S,.int .i64 0]) (by simp [results,Tryz.results151,go_sem]) rfl ?_;refine⟨_,rfl,?_,q.out⟩;rw [D.out,V.out];exact HO.out.le Om
theorem QBz(o:Opt)(hbu:0≤o.bu)(h:ZO o=false)(w:World):Cr 151 #[.agg (opv o)] w (.tuple #[.slice none 0 0,.int .i64 2]):=by
 have c:=Xh (QdQ o hbu);rw [h]at c;clear h hbu;unfold opv at c⊢
 go_enter Tryz.func151,Tryz.ntmps151
 go_upto_region 1 with(fail)
 obtain⟨a,b⟩: ∃a,w.alloc (.cells #[.int .u8 o.ki,.int .u8 o.bu,.int .i64 o.cu,.int .i64 o.pv,.int .i64 o.ge,.int .i64 o.ti] 75)=a:=⟨_,rfl⟩;have f:Ext w a:=by rw [←b];exact Ea
 have d:RowZ a w.heap.size #[.int .u8 o.ki,.int .u8 o.bu,.int .i64 o.cu,.int .i64 o.pv,.int .i64 o.ge,.int .i64 o.ti]:=by rw [←b];exact RowZ.new _ _ _
 rw [b];clear b;have i:=d.r;clear d
 go_wp2_with (go_at_call 165;(refine(c.out _).mono ?_);rintro e j ⟨rfl,g⟩)
 exact bodyPost_ret (v:= .tuple #[.slice none 0 0,.int .i64 2]) (by simp [results,Tryz.results151,go_sem]) rfl ⟨rfl,f.tr g⟩
theorem QAJ(n c:Int)(h:0≤c∧c<256): ∀k,byN (n*256+c) (k+1)=byN n k++ [c]
 |0=>by simp only [byN,Int.pow_zero,Int.ediv_one,List.nil_append];rw [show(n*256+c) % 256=c by omega]
 |k+1=>by
  have e:(n*256+c)/256^(k+1)=n/256^k:=by
   rw [Int.pow_succ,Int.mul_comm (256^k) 256,←Int.ediv_ediv_of_nonneg Om,show(n*256+c)/256=n by omega]
  rw [byN,QAJ n c h k,byN,List.cons_append,e]
theorem QAS: ∀(k:Nat) (bs:List Int),bs.length=k→ByR bs→byN (nbe bs) k=bs
 |0,bs,h,_=>by rw [List.length_eq_zero_iff.1 h];rfl
 |k+1,bs,h,hr=>by
  obtain⟨a,c,rfl⟩: ∃l c,bs=l++ [c]:=⟨bs.dropLast,bs.getLast (by intro e;rw [e]at h;cases h),(List.dropLast_concat_getLast _).symm⟩;have d:a.length=k:=by rw [List.length_append]at h;simp at h;exact h
  rw [Qil,QAJ _ _ (hr c (List.mem_append_right _ (List.mem_singleton.2 rfl))),QAS k a d (fun b hb=>hr b (List.mem_append_left _ hb))]
theorem QBi{c:Int}(h:0≤c∧c<256):nd c % 256=c:=by unfold nd;split<;>omega
theorem QA6{bs:List Int}(hl:bs.length=16)(hr:ByR bs)(ho:ZO (Qpi bs)=true):Ym (Qpi bs)=158::16::bs.drop 2:=by
 have a:=QAS 4 ((bs.drop 6).take 4) (by simp;omega) ((hr.drop 6).take 4);have b:=QAS 6 ((bs.drop 10).take 6) (by simp;omega) ((hr.drop 10).take 6);rw [Qhm ho];show [158,16,bt bs 2,bt bs 3,nd (bt bs 4) % 256,nd (bt bs 5) % 256]++byN (nbe ((bs.drop 6).take 4)) 4++byN (nbe ((bs.drop 10).take 6)) 6=_;rw [a,b,QBi (QaI hr 4),QBi (QaI hr 5)];have c:bs.drop 2= [bt bs 2,bt bs 3,bt bs 4,bt bs 5]++bs.drop 6:=by
  rw [←List.take_append_drop 4 (bs.drop 2),List.drop_drop]
  congr 1
  refine List.ext_getElem (by simp;omega) fun i h1 h2=> ?_;simp at h2;obtain rfl|rfl|rfl|rfl:i=0∨i=1∨i=2∨i=3:=by omega
  all_goals(simp;unfold bt;rw [List.getD_eq_getElem?_getD,List.getElem?_eq_getElem Om];rfl)
 have d:bs.drop 6=(bs.drop 6).take 4++(bs.drop 10).take 6:=by
  rw [List.take_of_length_le (l:=bs.drop 10) (by rw [List.length_drop];omega),show bs.drop 10=(bs.drop 6).drop 4 by rw [List.drop_drop],List.take_append_drop]
 have e:=c.trans (congrArg ([bt bs 2,bt bs 3,bt bs 4,bt bs 5]++ ·) d);rw [e];simp
theorem QBK{bs:List Int}(hl:bs.length=16)(hr:ByR bs)(ho:ZO (Qpi bs)=true):decide (Ym (Qpi bs)=bs)=Qc7 bs:=by
 unfold Qc7;rw [QA6 hl hr ho,ho,Bool.and_true];have e:bs=bt bs 0::bt bs 1::bs.drop 2:=by
  refine List.ext_getElem (by simp;omega) fun i h1 h2=> ?_;obtain rfl|rfl|c:i=0∨i=1∨2≤i:=by omega
  ·unfold bt;simp;rw [List.getElem?_eq_getElem h1];rfl
  ·unfold bt;simp;rw [List.getElem?_eq_getElem h1];rfl
  ·obtain⟨j,rfl⟩: ∃j,i=j+2:=⟨i- 2,Om⟩;simp;congr 1;omega
 generalize bt bs 0=x at*;generalize bt bs 1=y at*;generalize bs.drop 2=l at*;subst e;rw [Bool.eq_iff_iff];simp only [List.cons.injEq,and_true,Bool.and_eq_true,beq_iff_eq,decide_eq_true_eq];exact⟨fun⟨a,b⟩=>⟨a.symm,b.symm⟩,fun⟨a,b⟩=>⟨a.symm,b.symm⟩⟩
theorem QAD: ∀args w,(callFunc 149 args).run Tryz.prog w= .ok (.enter 149 args) w:=enters_of Tryz.func149 Kr rfl
theorem QAG: ∀args w,(callFunc 150 args).run Tryz.prog w= .ok (.enter 150 args) w:=enters_of Tryz.func150 Kr rfl
theorem QAK{x:Int}(h:0≤x∧x<256)(w:World):Cr 149 #[.int .u8 x] w (.int .i64 (nd x)):=by
 have b:wrap64 x=x:=by simp only [wrap64];omega
 unfold nd
 by_cases a:x=255
 ·have c:(x==255)=true:=by simpa using a
  rw [if_pos a];clear a h
  go_enter Tryz.func149,Tryz.ntmps149
  go_wp2;go_ret;exact⟨rfl,Ext.rf _⟩
 ·have c:(x==255)=false:=by simpa using a
  rw [if_neg a];clear a h
  go_enter Tryz.func149,Tryz.ntmps149
  go_wp2;go_ret;exact⟨by show Ending.returned (.int .i64 (wrap64 x))=_;rw [b],Ext.rf _⟩
theorem QAE{tmps:Array Value}{g:Nat}(hp:tmps.getD 2 undef= .pointer (some ⟨g,0,none⟩))(hr:Qc w g=cs)(hc:cs.size=6):
  (results Tryz.f82 tmps).run Tryz.prog w= .ok (.tuple #[.agg cs,tmps.getD 3 undef]) w:=
 QL rfl tmps w g hp (by
  rw [Qar (by rw [hr,hc];omega),hr]
  rw [show cs.extract 0 (0+6)=cs by rw [Nat.zero_add,←hc];simp])
theorem QA7(p:Option Addr)(bs:List Int)(c:Nat)(w:World)(hs:SlB w p bs)(hr:ByR bs)(hl:bs.length≤1000)(hlc:bs.length≤c):
  Cr 82 #[.slice p bs.length c] w (.tuple #[.agg (opv (Yh bs)),.int .i64 (takeE bs)]):=by
 have HS:=Xh hs;have i:=hr;obtain⟨n,o⟩: ∃n,bs.length=n:=⟨_,rfl⟩;have H:=Xh (fun h:takeE bs≠0=>Qna h);rw [o]at hl hlc⊢;clear hs hr
 go_enter Tryz.func82,Tryz.ntmps82
 go_upto_region 1 with(fail)
 obtain⟨y,q⟩: ∃y,w.alloc (.cells #[.int .u8 0,.int .u8 0,.int .i64 0,.int .i64 0,.int .i64 0,.int .i64 0] 75)=y:=⟨_,rfl⟩;have E:Ext w y:=by rw [←q];exact Ea
 have f:RowZ y w.heap.size #[.int .u8 0,.int .u8 0,.int .i64 0,.int .i64 0,.int .i64 0,.int .i64 0]:=by rw [←q];exact RowZ.new _ _ _
 have t:=f.r;have hZ:=f.z;rw [q];clear q
 by_cases b2:n<16
 ·have b6:(n:Int)<16:=by omega
  have g:=Xh (show takeE bs=61 by unfold takeE;rw [o,if_pos b2]);go_wp2;refine bodyPost_ret (QAE rfl (Qq _ _ _ (by rw [t];try rfl)) rfl) rfl ⟨?_,Ext.sa _ (Nat.le_refl _) E⟩;rw [H.out (by rw [g.out];omega),g.out];rfl
 by_cases b5:16<n
 ·have b6: ¬(n:Int)<16:=by omega
  have b9:(16:Int)<n:=by omega
  have g:=Xh (show takeE bs=60 by unfold takeE;rw [o,if_neg b2,if_pos b5]);go_wp2;refine bodyPost_ret (QAE rfl (Qq _ _ _ (by rw [t];try rfl)) rfl) rfl ⟨?_,Ext.sa _ (Nat.le_refl _) E⟩;rw [H.out (by rw [g.out];omega),g.out];rfl
 obtain rfl:n=16:=by omega
 obtain⟨b,d,rfl,c1,-⟩:=HS.out 0 Om
 go_upto_region 5 with(fail)
 have s:=HS.out.ext E;have x:SlB y.drew (some ⟨b,d,none⟩) bs:=s.ext (Ext.dr (Ext.rf _));obtain⟨G,b3⟩: ∃G,y.heap.size=G:=⟨_,rfl⟩;have b4:G≤y.drew.heap.size:=by rw [←b3];exact Nat.le_refl _
 have c0:w.heap.size<G:=by rw [←b3];exact f.l
 refine Qa7 [(0,15,eqA (.slice (some ⟨b,d,none⟩) 16 c)),(1,16,eqA (.pointer (some ⟨b,d+2,none⟩))),(2,17,eqA (.int .u8 (bt bs 2))),(3,18,eqA (.slice (some ⟨b,d,none⟩) 16 c)),(4,19,eqA (.pointer (some ⟨b,d+3,none⟩))),(5,20,eqA (.int .u8 (bt bs 3))),(6,21,eqA (.slice (some ⟨b,d,none⟩) 16 c)),(7,22,eqA (.pointer (some ⟨b,d+4,none⟩))),(8,23,eqA (.int .u8 (bt bs 4))),(9,24,eqA (.int .i64 (nd (bt bs 4)))),(10,25,eqA (.slice (some ⟨b,d,none⟩) 16 c)),(11,26,eqA (.pointer (some ⟨b,d+5,none⟩))),(12,27,eqA (.int .u8 (bt bs 5))),(13,28,eqA (.int .i64 (nd (bt bs 5)))),(14,29,eqA (.slice (some ⟨b,d,none⟩) 16 c)),(15,30,eqA (.slice (some ⟨b,d+6,none⟩) 4 (c- 6))),(16,31,eqA (.int .i64 (nbe ((bs.drop 6).take 4)))),(17,32,eqA (.slice (some ⟨b,d,none⟩) 16 c)),(18,33,eqA (.slice (some ⟨b,d+10,none⟩) 6 (c- 10))),(19,34,eqA (.int .i64 (nbe ((bs.drop 10).take 6)))),(20,35,eqA (.agg #[.int .u8 (bt bs 2),.int .u8 (bt bs 3),.int .i64 (nd (bt bs 4)),.int .i64 (nd (bt bs 5)),.int .i64 (nbe ((bs.drop 6).take 4)),.int .i64 (nbe ((bs.drop 10).take 6))])),(21,4,fun w v=> ∃B,v= .pointer (some ⟨B,0,none⟩)∧G≤B∧RowZ w B #[.int .u8 0,.int .u8 0,.int .i64 0,.int .i64 0,.int .i64 0,.int .i64 0])] 22 23 1 4194303 rfl Dc Kr ⟨rfl,(by show List.Nodup [15,16,17,18,19,20,21,22,23,24,25,26,27,28,29,30,31,32,33,34,35,4];decide),rfl,Om,rfl,Kr,Kr,⟨QQ _,QQ _,QQ _,QQ _,QQ _,QQ _,QQ _,QQ _,QQ _,QQ _,QQ _,QQ _,QQ _,QQ _,QQ _,QQ _,QQ _,QQ _,QQ _,QQ _,QQ _,QAN _ _,trivial⟩,⟨dsA fun ρ w a hc hfn hf E=> .eq (mvA (hf 0 rfl)),
  dsA fun ρ w a hc hfn hf E=> .eq (ixA 2 Om (a 0 Kr) (hc _)),
  dsA fun ρ w a hc hfn hf E=> .eq (QA3 x E 2 Om (a 1 Kr)),
  dsA fun ρ w a hc hfn hf E=> .eq (mvA (hf 0 rfl)),
  dsA fun ρ w a hc hfn hf E=> .eq (ixA 3 Om (a 3 Kr) (hc _)),
  dsA fun ρ w a hc hfn hf E=> .eq (QA3 x E 3 Om (a 4 Kr)),
  dsA fun ρ w a hc hfn hf E=> .eq (mvA (hf 0 rfl)),
  dsA fun ρ w a hc hfn hf E=> .eq (ixA 4 Om (a 6 Kr) (hc _)),
  dsA fun ρ w a hc hfn hf E=> .eq (QA3 x E 4 Om (a 7 Kr)),
  dsA fun ρ w a hc hfn hf E=>c1A hfn (a 8 Kr) (eqC (QAK (QaI i 4) _)) QAD,
  dsA fun ρ w a hc hfn hf E=> .eq (mvA (hf 0 rfl)),
  dsA fun ρ w a hc hfn hf E=> .eq (ixA 5 Om (a 10 Kr) (hc _)),
  dsA fun ρ w a hc hfn hf E=> .eq (QA3 x E 5 Om (a 11 Kr)),
  dsA fun ρ w a hc hfn hf E=>c1A hfn (a 12 Kr) (eqC (QAK (QaI i 5) _)) QAD,
  dsA fun ρ w a hc hfn hf E=> .eq (mvA (hf 0 rfl)),
  dsA fun ρ w a hc hfn hf E=> .eq (slA 6 4 Om Om (a 14 Kr) (hc _) (hc _)),
  dsA fun ρ w a hc hfn hf E=>c1A hfn (a 15 Kr) (eqC (QBO (x.ext E) i 6 4 _ Om Om)) QAG,
  dsA fun ρ w a hc hfn hf E=> .eq (mvA (hf 0 rfl)),
  dsA fun ρ w a hc hfn hf E=> .eq (QB5 10 6 rfl Om Om (a 17 Kr) (hc _)),
  dsA fun ρ w a hc hfn hf E=>c1A hfn (a 18 Kr) (eqC (QBO (x.ext E) i 10 6 _ Om Om)) QAG,
  dsA fun ρ w a hc hfn hf E=> .eq (bdA (.cons (a 2 Kr)<| .cons (a 5 Kr)<| .cons (a 9 Kr)<| .cons (a 13 Kr)<| .cons (a 16 Kr)<| .cons (a 19 Kr) .nil)),
  dsA fun ρ w a hc hfn hf E=>bxA (Xt b4 E.size),trivial⟩⟩ ?_
 intro val WN L hall;obtain⟨M,O,P,Q,R,S,T,U,V,X,Y,Z,a0,a1,a2,a3,a4,a5,a6,a7,a8,a9,-⟩:=hall
 replace M:val 15= .slice (some ⟨b,d,none⟩) 16 c:=M
 replace O:val 16= .pointer (some ⟨b,d+2,none⟩):=O
 replace P:val 17= .int .u8 (bt bs 2):=P
 replace Q:val 18= .slice (some ⟨b,d,none⟩) 16 c:=Q
 replace R:val 19= .pointer (some ⟨b,d+3,none⟩):=R
 replace S:val 20= .int .u8 (bt bs 3):=S
 replace T:val 21= .slice (some ⟨b,d,none⟩) 16 c:=T
 replace U:val 22= .pointer (some ⟨b,d+4,none⟩):=U
 replace V:val 23= .int .u8 (bt bs 4):=V
 obtain X:=X
 replace Y:val 25= .slice (some ⟨b,d,none⟩) 16 c:=Y
 replace Z:val 26= .pointer (some ⟨b,d+5,none⟩):=Z
 replace a0:val 27= .int .u8 (bt bs 5):=a0
 obtain a1:=a1
 replace a2:val 29= .slice (some ⟨b,d,none⟩) 16 c:=a2
 replace a3:val 30= .slice (some ⟨b,d+6,none⟩) 4 (c- 6):=a3
 obtain a4:=a4
 replace a5:val 32= .slice (some ⟨b,d,none⟩) 16 c:=a5
 replace a6:val 33= .slice (some ⟨b,d+10,none⟩) 6 (c- 10):=a6
 obtain a7:=a7
 replace a8:val 35= .agg #[.int .u8 (bt bs 2),.int .u8 (bt bs 3),.int .i64 (nd (bt bs 4)),.int .i64 (nd (bt bs 5)),.int .i64 (nbe ((bs.drop 6).take 4)),.int .i64 (nbe ((bs.drop 10).take 6))]:=a8
 obtain⟨B,a9,hB,u⟩:=a9;simp only [List.foldl_cons,List.foldl_nil,M,O,P,Q,R,S,T,U,V,X,Y,Z,a0,a1,a2,a3,a4,a5,a6,a7,a8,a9];clear M O P Q R S T U V X Y Z a0 a1 a2 a3 a4 a5 a6 a7 a8 a9;refine QiO (C:=fun k=>k=B) ?_;refine QaO (k:=22) (N:=23) (m:=4194303) Kr (Qan (m':=8388607) rfl rfl Kr (Qpa (B:=B) (cs:=#[.int .u8 (bt bs 2),.int .u8 (bt bs 3),.int .i64 (nd (bt bs 4)),.int .i64 (nd (bt bs 5)),.int .i64 (nbe ((bs.drop 6).take 4)),.int .i64 (nbe ((bs.drop 10).take 6))]) (by rw [u.r];rfl) u.z rfl (by simp [go_sem]) Kr Kr) (Mv.sa _ rfl (Mv.refl _ _)) ?_);refine doneK (listed:=msk 23 8388607) Kr ?_;obtain⟨j,q⟩: ∃j,Qe WN B 0 #[.int .u8 (bt bs 2),.int .u8 (bt bs 3),.int .i64 (nd (bt bs 4)),.int .i64 (nd (bt bs 5)),.int .i64 (nbe ((bs.drop 6).take 4)),.int .i64 (nbe ((bs.drop 10).take 6))]=j:=⟨_,rfl⟩;have I:Mv (fun k=>k=B) WN j:=by rw [←q];exact Mv.sa _ rfl (Mv.refl _ _)
 have u:RowZ j B #[.int .u8 (bt bs 2),.int .u8 (bt bs 3),.int .i64 (nd (bt bs 4)),.int .i64 (nd (bt bs 5)),.int .i64 (nbe ((bs.drop 6).take 4)),.int .i64 (nbe ((bs.drop 10).take 6))]:=by rw [←q];exact u.all _ rfl
 have E:Ext w j:=Mv.ext_of (E.tr L) I (fun k e=>by omega);have s:=(s.ext L).mv I Om;have f:=(f.ext L).mv I Om;rw [q];clear q I L b4 b3 x t hZ;go_simp
 go_upto_region 6 with(fail)
 have b7:=u.r;have HT:=Xh (show takeE bs=if Qc7 bs then 0 else 60 by unfold takeE;rw [o,if_neg b2,if_neg b5])
 cases A:ZO (Qpi bs)
 ·have J:Hid (Cr 151 #[.agg #[.int .u8 (bt bs 2),.int .u8 (bt bs 3),.int .i64 (nd (bt bs 4)),.int .i64 (nd (bt bs 5)),.int .i64 (nbe ((bs.drop 6).take 4)),.int .i64 (nbe ((bs.drop 10).take 6))]] j (.tuple #[.slice none 0 0,.int .i64 2])):=Xh (QBz (Qpi bs) (QaI i 3).1 A j);have g:=Xh (show takeE bs=60 by rw [HT.out,if_neg (by unfold Qc7;rw [A,Bool.and_false];exact Bool.false_ne_true)])
  go_upto_region 8 with(go_at_call 151;(refine J.out.mono ?_);rintro e w3 ⟨rfl,g3⟩;have E:=E.tr g3;have f:=f.ext g3;have t:=f.r;have hZ:=f.z)
  go_wp2;refine bodyPost_ret (QAE rfl (Qq _ _ _ (by rw [t];try rfl)) rfl) rfl ⟨?_,Ext.sa _ (Nat.le_refl _) E⟩;rw [H.out (by rw [g.out];omega),g.out];rfl
 ·have J:Hid (Calls Tryz.prog 151 #[.agg #[.int .u8 (bt bs 2),.int .u8 (bt bs 3),.int .i64 (nd (bt bs 4)),.int .i64 (nd (bt bs 5)),.int .i64 (nbe ((bs.drop 6).take 4)),.int .i64 (nbe ((bs.drop 10).take 6))]] j fun e w'=> ∃v,e= .returned (.tuple #[v,.int .i64 0])∧Z8 j w' v (Ym (Qpi bs))):=Xh (Qnx (Qpi bs) A j);have K:=Xh (QBK o i A);have hL:(Ym (Qpi bs)).length=16:=by rw [QA6 o i A];simp;omega
  have b0:ByR (Ym (Qpi bs)):=by rw [QA6 o i A];exact ByR.cons Om (ByR.cons Om (i.drop 2))
  have HX:=Xh (fun W (E:Ext j W)=>(show(convert 28 9 (.slice (some ⟨b,d,none⟩) 16 c)).run Tryz.prog W= .ok (.string ⟨(u8L bs).toArray⟩) W by rw [←o];exact Qcy (s.ext E) i Om));have HJ:=Xh (show u8L (Ym (Qpi bs))=u8L bs→Ym (Qpi bs)=bs from Qsz b0 i);have b1:=Xh (show Qc7 bs=true→Yh bs=Qpi bs from fun h=>by unfold Yh;rw [if_pos ⟨o,h⟩]);obtain⟨ob,b8⟩: ∃l,Ym (Qpi bs)=l:=⟨_,rfl⟩;rw [b8]at J K hL b0 HJ
  go_upto_region 7 with(go_at_call 151;(refine J.out.mono ?_);rintro e w3 ⟨vo,rfl,D⟩;obtain⟨pv,cv,rfl,-,sv⟩:=D.own.slb;have k1:=Qcy (c:=cv) sv b0 Om;have k2:=HX.out _ D.ext;have E:=E.tr D.ext;have f:=f.ext D.ext;have u:=u.ext D.ext;have t:=f.r;have hZ:=f.z;have b7:=u.r;rw [hL]at k1⊢;clear D sv)
  have a:(u8L ob==u8L bs)=Qc7 bs:=by
   rw [←K.out]
   by_cases h:ob=bs
   ·rw [h];simp
   ·have h2:u8L ob≠u8L bs:=fun e=>h (HJ.out e);simp [h,h2]
  cases F:Qc7 bs
  ·rw [F]at a;have g:=Xh (show takeE bs=60 by rw [HT.out,F];rfl);clear K;go_wp2;refine bodyPost_ret (QAE rfl (Qq _ _ _ (by rw [t];try rfl)) rfl) rfl ⟨?_,Ext.sa _ (Nat.le_refl _) E⟩;rw [H.out (by rw [g.out];omega),g.out];rfl
  ·rw [F]at a;have g:=Xh (show takeE bs=0 by rw [HT.out,F];rfl);have b1:=Xh (b1.out F);clear K;go_wp2;refine bodyPost_ret (QAE rfl (Qq _ _ _ (by rw [t];try rfl)) rfl) rfl ⟨?_,Ext.sa _ (Nat.le_refl _) E⟩;rw [b1.out,g.out];rfl
section
open Ru
theorem QsV:(Tryz.prog.info? 73).map (fun i=>(i.zero,i.size,i.bytes))=some (some (.agg #[.int .u8 0,.int .i64 0]),2,16):=Kr
def ndN(ps:List (Int×Int)):List Value:=ps.flatMap fun p=> [.int .u8 p.1,.int .i64 p.2]
theorem JZ(w:World)(a b:Value)(t:TypeId): ∀j u,[a,b][j]?=some u→(w.alloc (.cells #[a,b] t)).cell? ((⟨w.heap.size,0,none⟩:Addr).add j)=some u:=by
 intro j u h
 match j,h with
 |0,h=>cases h;simp [go_sem,Addr.add]
 |1,h=>cases h;simp [go_sem,Addr.add]
theorem QAn{q:Nat}(h:q<3):ndN (Qx.take q)++ [.int .u8 1,.int .i64 q]=ndN (Qx.take (q+1)):=by
 obtain rfl|rfl|rfl:q=0∨q=1∨q=2:=by omega
 all_goals rfl
theorem QAo{q:Nat}(h:q<6):ndN (Qx.take (3+q))++ [.int .u8 2,.int .i64 q]=ndN (Qx.take (3+(q+1))):=by
 obtain rfl|rfl|rfl|rfl|rfl|rfl:q=0∨q=1∨q=2∨q=3∨q=4∨q=5:=by omega
 all_goals rfl
theorem QkH(w:World):Calls Tryz.prog 152 #[] w fun e w'=> ∃v,e= .returned v∧w'.ownsRow w.heap.size 73 2 v 10 (ndN Qx)∧Ext w w':=by
 obtain⟨p,s,t,x,y⟩:=info_parts QsV
 go_enter Tryz.func152,Tryz.ntmps152
 go_wp2
 go_loopw [1,2] (fun v a wr=> ∃q:Nat,q≤3∧a= .int .i64 q∧wr.ownsRow w.heap.size 73 2 v q (ndN (Qx.take q))∧Ext w wr) (fun _ a _=>3- (intOf a).toNat)
 case atStart=>exact⟨0,Nat.zero_le _,rfl,World.ownsRow_nil _ _ _ _,Ext.rf _⟩
 case round=>
  obtain⟨q,z,rfl,l,m⟩:=hrel;have b:=Xh l;have c:=Xh m;clear l m
  by_cases n:q<3
  ·have D:(q:Int)<3:=by omega
   have o:=Xh (QAn n)
   go_wp2_with (at_builtin;go_must (refine wpList_append_own _ rfl _ _ 191 rfl w.heap.size 73 p (.agg #[.int .u8 0,.int .i64 0]) 2 16 Tryz.underlying191 s t x y rfl Dc _ _ _ rfl (b.out.alloc _) ⟨wr.heap.size,0,none⟩ 1 1 [.int .u8 1,.int .i64 (q:Int)] rfl rfl (JZ _ _ _ _) (by intro u d;simp at d;rcases d with rfl|rfl<;>rfl) (by unfold maxLen;omega) Om (by have:=c.out.size;simp;omega) ?_);intro A B f g _;have i:=Xh f;have j:=Xh g;clear f g)
   go_roundw
   case rel=>
    refine⟨q+1,Om,by go_num,?_,Mv.ext_of (Ext.al c.out _) (Mv.of_grown (C:=fun k=>w.heap.size≤k) j.out fun r e=> .inl (Qi b.out r e)) (fun k h=>h)⟩;have h:=i.out;rw [o.out]at h;exact h
   case measure=>simp [intOf];omega
  ·obtain rfl:q=3:=by omega
   have E:=Xh b.out;have F:=Xh c.out;generalize wr=w2 at*;clear b c n z;rw [show((3:Nat):Int)=3 from rfl];go_wp2
   go_loopw [1,3] (fun v a wr=> ∃q:Nat,q≤6∧a= .int .i64 q∧wr.ownsRow w.heap.size 73 2 v (3+q) (ndN (Qx.take (3+q)))∧Ext w wr) (fun _ a _=>6- (intOf a).toNat)
   case atStart=>exact⟨0,Nat.zero_le _,rfl,E.out,F.out⟩
   case round=>
    obtain⟨q,z,rfl,l,m⟩:=hrel;have b:=Xh l;have c:=Xh m;clear l m
    by_cases n:q<6
    ·have D:(q:Int)<6:=by omega
     have o:=Xh (QAo n)
     go_wp2_with (at_builtin;go_must (refine wpList_append_own _ rfl _ _ 191 rfl w.heap.size 73 p (.agg #[.int .u8 0,.int .i64 0]) 2 16 Tryz.underlying191 s t x y rfl Dc _ _ _ rfl (b.out.alloc _) ⟨wr.heap.size,0,none⟩ 1 1 [.int .u8 2,.int .i64 (q:Int)] rfl rfl (JZ _ _ _ _) (by intro u d;simp at d;rcases d with rfl|rfl<;>rfl) (by unfold maxLen;omega) Om (by have:=c.out.size;simp;omega) ?_);intro A B f g _;have i:=Xh f;have j:=Xh g;clear f g)
     go_roundw
     case rel=>
      refine⟨q+1,Om,by go_num,?_,Mv.ext_of (Ext.al c.out _) (Mv.of_grown (C:=fun k=>w.heap.size≤k) j.out fun r e=> .inl (Qi b.out r e)) (fun k h=>h)⟩;have h:=i.out;rw [o.out]at h;exact h
     case measure=>simp [intOf];omega
    ·obtain rfl:q=6:=by omega
     rw [show((6:Nat):Int)=6 from rfl]
     go_wp2_with (at_builtin;go_must (refine wpList_append_own _ rfl _ _ 191 rfl w.heap.size 73 p (.agg #[.int .u8 0,.int .i64 0]) 2 16 Tryz.underlying191 s t x y rfl Dc _ _ _ rfl (b.out.alloc _) ⟨wr.heap.size,0,none⟩ 1 1 [.int .u8 3,.int .i64 0] rfl rfl (JZ _ _ _ _) (by intro u d;simp at d;rcases d with rfl|rfl<;>rfl) (by unfold maxLen;omega) Om (by have:=c.out.size;simp;omega) ?_);intro A B f g _;have i:=Xh f;have j:=Xh g;clear f g)
     go_ret;exact⟨_,rfl,i.out,Mv.ext_of (Ext.al c.out _) (Mv.of_grown (C:=fun k=>w.heap.size≤k) j.out fun r e=> .inl (Qi b.out r e)) (fun k h=>h)⟩
theorem Qqy(p:Int×Int)(h:p∈Qx)(w:World):Cr 153 #[.agg #[.int .u8 p.1,.int .i64 p.2]] w (.int .u32 (QD p)):=by
 have a:(0≤p.1∧p.1<4)∧(0≤p.2∧p.2<6):=by
  have: ∀x∈Qx,(0≤x.1∧x.1<4)∧(0≤x.2∧x.2<6):=by decide
  exact this p h
 have b:IntKind.u32.wrap p.1=p.1:=by rw [YC];omega
 have c:IntKind.u32.wrap (p.1*256)=p.1*256:=by rw [YC];omega
 have d:IntKind.u32.wrap (167772160+p.1*256)=167772160+p.1*256:=by rw [YC];omega
 have e:IntKind.u32.wrap p.2=p.2:=by rw [YC];omega
 have f:IntKind.u32.wrap (167772160+p.1*256+p.2)=167772160+p.1*256+p.2:=by rw [YC];omega
 clear h a
 go_enter Tryz.func153,Tryz.ntmps153
 go_wp2;go_ret;exact⟨rfl,Ext.al (Ext.rf _) _⟩
end
section
open Ru
theorem Qqz{base:Nat}(h:w.ownsRow base 73 2 v 10 (ndN Qx)): ∃g cap,v= .slice (some ⟨g,0,none⟩) 10 cap∧g<w.heap.size∧ ∀k (hk:k<10),w.cell? ⟨g,k*2,none⟩=some (.int .u8 (Qx[k]'hk).1)∧w.cell? ⟨g,k*2+1,none⟩=some (.int .i64 (Qx[k]'hk).2):=by
 rcases h.2 with⟨-,h1⟩|⟨g,cap,cur,rfl,hg,hgb,h1,h2,h3,h4⟩
 ·omega
 ·refine⟨g,cap,rfl,(Array.getElem?_eq_some_iff.1 hgb).1,fun k hk=> ?_⟩;have a: ∀j u,(ndN Qx)[j]?=some u→w.cell? ⟨g,j,none⟩=some u:=fun j u hu=>by
   have b:j<20:=(List.getElem?_eq_some_iff.1 hu).1;rw [←h4,List.getElem?_take,if_pos Om,Array.getElem?_toList]at hu;simp only [World.cell?,hgb];exact hu
  obtain rfl|rfl|rfl|rfl|rfl|rfl|rfl|rfl|rfl|rfl:k=0∨k=1∨k=2∨k=3∨k=4∨k=5∨k=6∨k=7∨k=8∨k=9:=by omega
  all_goals exact⟨a _ _ rfl,a _ _ rfl⟩
theorem QqA{g cap q:Nat}(h:q<10){gd:Option (Nat×Bool)}(hx:ρ x= .slice (some ⟨g,0,none⟩) 10 cap)(hy:ρ y= .int .i64 (q:Int))(w:World):
  (execOp ρ ⟨dst,.indexAddr 191 x y,ty,pos,after,gd⟩).run Tryz.prog w= .ok (.value (.pointer (some ⟨g,q*2,none⟩))) w:=by
 have a:(q:Int)<10:=by omega
 simp only [execOp,hx,hy];go_simp
theorem QsW{a b:Value}(h0:w.cell? ⟨B,i,none⟩=some a)(h1:w.cell? ⟨B,i+1,none⟩=some b)(hl:Lt B w)(hC: ¬C B)
  (hx:ρ x= .pointer (some ⟨B,i,none⟩)): ∀w',Mv C w w'→(execOp ρ ⟨dst,.load 73 x,ty,pos,after,g⟩).run Tryz.prog w'= .ok (.value (.agg #[a,b])) w':=by
 intro w' c;have e:=Qf (c.same B hl hC);have h0:w'.cell? ⟨B,i,none⟩=some a:=by rw [Qa,e,←Qa];exact h0
 have h1:w'.cell? ⟨B,i+1,none⟩=some b:=by rw [Qa,e,←Qa];exact h1
 simp only [execOp,hx];go_simp
theorem QqB{p q:Int×Int}{bb:Bool}(hn:decide (p=q)=bb)(hx:ρ x= .agg #[.int .u8 p.1,.int .i64 p.2])(hy:ρ y= .agg #[.int .u8 q.1,.int .i64 q.2])(w:World):
  (execOp ρ ⟨dst,.binOp .eql 73 x y 73,ty,pos,after,g⟩).run Tryz.prog w= .ok (.value (.bool bb)) w:=by
 obtain⟨a,b⟩:=p;obtain⟨c,d⟩:=q;simp only [execOp,hx,hy];go_simp
 by_cases e:a=c<;>by_cases f:b=d<;>cases bb<;>simp_all
def QqC(ops:Array Oper):Prop:=Region.noSelect ops=true∧Qo ops 6 [0,1,2,3,4,5] 0=true∧Rd ops 6 63 []
theorem QkI:QqC ((Tryz.f154.body.bind (Qh 5)).getD #[]):=⟨Kr,Kr,Rk⟩
theorem Qny(p:Int×Int)(w:World):Cr 154 #[.agg #[.int .u8 p.1,.int .i64 p.2]] w (.tuple #[.int .u32 (adO p),.bool (isN p)]):=by
 go_enter Tryz.func154,Tryz.ntmps154
 go_upto_region 1 with(fail)
 obtain⟨A,f⟩: ∃A,w.alloc (.cells #[.int .u8 p.1,.int .i64 p.2] 73)=A:=⟨_,rfl⟩;have K:Ext w A:=by rw [←f];exact Ea
 have d:RowZ A w.heap.size #[.int .u8 p.1,.int .i64 p.2]:=by rw [←f];exact RowZ.new _ _ _
 rw [f];clear f;obtain⟨b1,O⟩: ∃b,w.heap.size=b:=⟨_,rfl⟩;rw [O]at d⊢;clear O
 go_wp2_with (go_at_call 152;(refine(QkH _).mono ?_);rintro e V ⟨v,rfl,P,u⟩;have d:=d.ext u;have u:=K.tr u;clear K;obtain⟨g,cap,rfl,G,W⟩:=Qqz P;clear P)
 go_loopw [5] (fun a wr=> ∃q:Nat,q≤10∧a= .int .i64 q∧(∀j (m:j<10),j<q→(Qx[j]'m)≠p)∧Ext V wr) (fun a _=>10- (intOf a).toNat)
 case atStart=>exact⟨0,Nat.zero_le _,rfl,fun j m h=>by omega,Ext.rf _⟩
 case round=>
  obtain⟨q,hq,rfl,H,i⟩:=hrel;have d:=d.ext i;have E:=u.tr i;have L:=Xh H;have Q:=Xh i
  by_cases z:q<10
  ·have Z:(q:Int)<10:=by omega
   have S:=z;obtain⟨k,l⟩:=W q z;have k:=(i.cell (p:=⟨g,q*2,none⟩) G).trans k;have l:=(i.cell (p:=⟨g,q*2+1,none⟩) G).trans l;have o:Lt g wr:=Xl G i.size;obtain⟨x,I⟩: ∃x,(Qx[q]'z)=x:=⟨_,rfl⟩;rw [I]at k l;have M:=Xh I;obtain⟨B,J⟩: ∃B,decide (x=p)=B:=⟨_,rfl⟩;clear H i I
   go_upto_region 5 with(fail)
   refine Qy (fun _=>False) (fun _=>False) 6 Kr ?_;obtain⟨X,f⟩: ∃Wdr,World.drew wr=Wdr:=⟨_,rfl⟩;have n:Ext wr X:=by rw [←f];exact Ext.dr (Ext.rf _)
   rw [f];clear f;have E:=E.tr n;have d:=d.ext n;have k:=(n.cell (p:=⟨g,q*2,none⟩) o).trans k;have l:=(n.cell (p:=⟨g,q*2+1,none⟩) o).trans l;have o:=Xl o n.size;have T:=Xh (Q.out.tr n);refine Zi (N:=6) (R:=QqC) (E:=((Tryz.f154.body.bind (Qh 5)).getD #[])) Kr QkI Kr fun hS=> ?_;have c:=hS.2.1;refine tWk 1 (.slice (some ⟨g,0,none⟩) 10 cap) hS.1 c rfl fun c=>tWk 3 (.int .i64 (q:Int)) hS.1 c rfl fun c=>tW 7 (.pointer (some ⟨g,q*2,none⟩)) hS.1 c rfl (fun w' _=>QqA (cap:=cap) S Kr Kr w') fun c=>tW 15 (.agg #[.int .u8 x.1,.int .i64 x.2]) hS.1 c rfl (QsW (C:=fun _=>False) k l o (fun h=>h) Kr) fun c=>tW 31 (.agg #[.int .u8 p.1,.int .i64 p.2]) hS.1 c rfl (Qpv d rfl (fun h=>h) Kr) fun c=>tW 63 (.bool B) hS.1 c rfl (fun w' _=>QqB J Kr Kr w') fun c=> ?_;refine QZ hS.2.2 ?_;clear hS c k l;go_simp;have D:=Xh J;have F:=Xh E;have hR:=d.r;clear J E d
   cases B
   ·have y:=Xh (of_decide_eq_false D.out);go_wp2
    go_roundw
    case rel=>exact⟨q+1,Om,by go_num,fun j m h=>by rcases Nat.lt_or_ge j q with h'|h';exact L.out j m h';(obtain rfl:j=q:=by omega);rw [M.out];exact y.out,T.out⟩
    case measure=>simp [intOf];omega
   ·have y:=of_decide_eq_true D.out;have s:p∈Qx:=by rw [←y,←M.out];exact List.getElem_mem z
    have U:=Xh (Qqy p s);have t:=Xh s;clear y s D
    go_wp2_with (go_at_call 153;(refine(U.out _).mono ?_);rintro e w2 ⟨rfl,Y⟩)
    exact bodyPost_ret (v:= .tuple #[.int .u32 (QD p),.bool true]) (by simp [results,Tryz.results154,go_sem]) rfl ⟨by unfold adO isN;rw [if_pos t.out,decide_eq_true t.out],F.out.tr Y⟩
  ·obtain rfl:q=10:=by omega
   have t:=Xh (show p ∉ Qx from fun s=>by obtain⟨j,m,e⟩:=List.mem_iff_getElem.1 s;exact L.out j m m e);have F:=Xh E;clear H i E d;go_wp2;exact bodyPost_ret (v:= .tuple #[.int .u32 0,.bool false]) (by simp [results,Tryz.results154,go_sem]) rfl ⟨by unfold adO isN;rw [if_neg t.out,decide_eq_false t.out],F.out⟩
end
theorem QBA{n m:Int}{r:TypeId}(hx:ρ x= .int .u32 n)(hy:ρ y= .int .u32 m)(w:World):
  (execOp ρ ⟨dst,.binOp .eql 61 x y r,ty,pos,after,g⟩).run Tryz.prog w= .ok (.value (.bool (n==m))) w:=by
 simp only [execOp,hx,hy];go_simp
theorem QBj{tmps:Array Value}{g:Nat}(hp:tmps.getD 2 undef= .pointer (some ⟨g,0,none⟩))(hr:Qc w g=cs)(hc:cs.size=2):
  (results Tryz.f83 tmps).run Tryz.prog w= .ok (.tuple #[.agg cs,tmps.getD 3 undef]) w:=
 QL rfl tmps w g hp (by
  rw [QeO (by rw [hr,hc];omega),hr]
  rw [show cs.extract 0 (0+2)=cs by rw [Nat.zero_add,←hc];simp])
theorem QAL(x:Int)(w:World):Cr 83 #[.int .u32 x] w (.tuple #[.agg (noC ((Yi x).getD (0,0))),.bool (Yi x).isSome]):=by
 go_enter Tryz.func83,Tryz.ntmps83
 go_upto_region 1 with(fail)
 obtain⟨F,G⟩: ∃F,w.alloc (.cells #[.int .u8 0,.int .i64 0] 73)=F:=⟨_,rfl⟩;have O:Ext w F:=by rw [←G];exact Ea
 have c:RowZ F w.heap.size #[.int .u8 0,.int .i64 0]:=by rw [←G];exact RowZ.new _ _ _
 rw [G];clear G;obtain⟨J,K⟩: ∃b,w.heap.size=b:=⟨_,rfl⟩;have P:=Xh K;rw [K]at c⊢;clear K
 go_wp2_with (go_at_call 152;(refine(QkH _).mono ?_);rintro e Y ⟨v,rfl,U,A⟩;have c:=c.ext A;have A:=O.tr A;clear O;obtain⟨g,cap,rfl,L,Z⟩:=Qqz U;clear U)
 go_loopw [5] (fun a wr=> ∃q:Nat,q≤10∧a= .int .i64 q∧(∀j (s:j<10),j<q→QD (Qx[j]'s)≠x)∧Ext Y wr) (fun a _=>10- (intOf a).toNat)
 case atStart=>exact⟨0,Nat.zero_le _,rfl,fun j s h=>by omega,Ext.rf _⟩
 case round=>
  obtain⟨q,hq,rfl,M,i⟩:=hrel;have c:=c.ext i;have E:=A.tr i;have Q:=Xh M;have a0:=Xh i
  by_cases y:q<10
  ·have a1:(q:Int)<10:=by omega
   obtain⟨d,f⟩:=Z q y;have d:=(i.cell (p:=⟨g,q*2,none⟩) L).trans d;have f:=(i.cell (p:=⟨g,q*2+1,none⟩) L).trans f;have o:Lt g wr:=Xl L i.size;have u:=List.getElem_mem (l:=Qx) y;obtain⟨p,N⟩: ∃p,(Qx[q]'y)=p:=⟨_,rfl⟩;rw [N]at d f u;have V:=Xh N;have D:=Xh u;clear M N
   go_upto_region 5 with(fail)
   refine wp_region_lit ?_;refine listV (v:= .slice (some ⟨g,0,none⟩) 10 cap) (w':=wr) rfl Kr ?_;refine listV (v:= .int .i64 (q:Int)) (w':=wr) rfl Kr ?_;refine listV rfl (QqA (g:=g) (cap:=cap) y Kr Kr wr) ?_;refine listV rfl (QsW (C:=fun _=>False) d f o (fun h=>h) Kr wr (Mv.refl _ _)) ?_;refine JS (R:=fun v w'=>v= .int .u32 (QD p)∧Ext wr w') rfl Kr ((Qqy p D.out wr).mono fun e w' ⟨h1,h2⟩=>⟨_,h1,rfl,h2⟩) ?_;rintro v k ⟨rfl,t⟩;refine listV (v:= .int .u32 x) (w':=k) rfl Kr ?_;refine listV rfl (QBA (n:=QD p) (m:=x) Kr Kr k) ?_;refine wpList_nil ?_;go_simp;have W:=Xh (i.tr t);clear i
   cases T:(QD p==x)
   ·have H:=Xh (show QD p≠x by simpa using T);clear d f o u;go_wp2
    go_roundw
    case rel=>exact⟨q+1,Om,by go_num,fun j s h=>by rcases Nat.lt_or_ge j q with h'|h';exact Q.out j s h';(obtain rfl:j=q:=by omega);rw [V.out];exact H.out,W.out⟩
    case measure=>simp [intOf];omega
   ·have S:Yi x=some p:=Qb7 D.out (by simpa using T);have d:=(t.cell (p:=⟨g,q*2,none⟩) o).trans d;have f:=(t.cell (p:=⟨g,q*2+1,none⟩) o).trans f;have o:Lt g k:=Xl o t.size;have c:=c.ext t;have E:=E.tr t;have H:=Xh S;clear S
    go_upto_region 6 with(fail)
    refine wp_region_lit ?_;refine listV (v:= .slice (some ⟨g,0,none⟩) 10 cap) (w':=k) rfl Kr ?_;refine listV (v:= .int .i64 (q:Int)) (w':=k) rfl Kr ?_;refine listV rfl (QqA (g:=g) (cap:=cap) y Kr Kr k) ?_;refine listV rfl (QsW (C:=fun _=>False) d f o (fun h=>h) Kr k (Mv.refl _ _)) ?_;refine Zj rfl (QBw (B:=J) (cs:=#[.int .u8 p.1,.int .i64 p.2]) (by rw [c.r];rfl) c.z rfl (by simp [go_sem]) Kr Kr) ?_;refine listV (v:= .bool true) (w':=Qe k J 0 #[.int .u8 p.1,.int .i64 p.2]) rfl Kr ?_;refine wpList_nil ?_;go_simp;have X:=Xh (c.all #[.int .u8 p.1,.int .i64 p.2] rfl);have I:=Xh (show Ext w (Qe k J 0 #[.int .u8 p.1,.int .i64 p.2])from Ext.sa _ (by have:=P.out;omega) E);clear d f o E;go_wp2;exact bodyPost_ret (QBj rfl X.out.r rfl) rfl ⟨by rw [H.out];rfl,I.out⟩
  ·obtain rfl:q=10:=by omega
   have D:=Xh (QjY (x:=x) fun p u=>by obtain⟨j,s,e⟩:=List.mem_iff_getElem.1 u;rw [←e];exact Q.out j s s);have I:=Xh E;have hR:=c.r;have hZ:=c.z;clear M i E;go_wp2;exact bodyPost_ret (QBj rfl ((c.all #[.int .u8 0,.int .i64 0] rfl).r) rfl) rfl ⟨by rw [D.out];rfl,Ext.sa _ (by have:=P.out;omega) I.out⟩
section
open Ru
theorem QqD(ki bu cu pv ge ti:Int)(hb:0≤bu∧bu<16)(h:ZO ⟨ki,bu,cu,pv,ge,ti⟩=true)(w:World):
  Cr 92 #[.int .u8 ki,.int .i64 bu,.agg #[.int .i64 cu,.int .i64 pv,.int .i64 ge,.int .i64 ti]] w (.tuple #[.agg (opv ⟨ki,bu,cu,pv,ge,ti⟩),.int .i64 0]):=by
 have l:=Xh (QdQ ⟨ki,bu,cu,pv,ge,ti⟩ hb.1);rw [h]at l;have D:decide (bu<0)=false:=decide_eq_false Om;have E:decide (16≤bu)=false:=decide_eq_false Om;have F:IntKind.u8.wrap bu=bu:=by rw [Ye];omega
 have G: ∀W,(Instr.build 75 #[(0,.int .u8 ki),(1,.int .u8 bu),(2,.int .i64 cu),(3,.int .i64 pv),(4,.int .i64 ge),(5,.int .i64 ti)]).run Tryz.prog W= .ok (.agg #[.int .u8 ki,.int .u8 bu,.int .i64 cu,.int .i64 pv,.int .i64 ge,.int .i64 ti]) W:=fun W=>by kernel_rfl
 clear h hb;unfold opv at l⊢
 go_enter Tryz.func92,Tryz.ntmps92
 go_upto_region 4 with(fail)
 obtain⟨V,c⟩: ∃V,(w.alloc (.cells #[.int .i64 cu,.int .i64 pv,.int .i64 ge,.int .i64 ti] 153)).alloc (.cells #[.int .u8 0,.int .u8 0,.int .i64 0,.int .i64 0,.int .i64 0,.int .i64 0] 75)=V:=⟨_,rfl⟩;have p:Ext w V:=by rw [←c];exact Ext.al Ea _
 have m:V.heap.size=w.heap.size+1+1:=by rw [←c];simp
 have a:RowZ V (w.heap.size+1) #[.int .u8 0,.int .u8 0,.int .i64 0,.int .i64 0,.int .i64 0,.int .i64 0]:=by rw [←c];exact⟨by simp [go_sem],by simp [go_sem],by simp [go_sem,Lt]⟩
 rw [c];obtain⟨f,g⟩: ∃f,Qe (V.alloc (.cells #[.int .u8 0,.int .u8 0,.int .i64 0,.int .i64 0,.int .i64 0,.int .i64 0] 75)) (w.heap.size+1+1) 0 #[.int .u8 ki,.int .u8 bu,.int .i64 cu,.int .i64 pv,.int .i64 ge,.int .i64 ti]=f:=⟨_,rfl⟩;have d:RowZ f (w.heap.size+1+1) #[.int .u8 ki,.int .u8 bu,.int .i64 cu,.int .i64 pv,.int .i64 ge,.int .i64 ti]:=by rw [←g,←m];exact(RowZ.new V _ _).all _ rfl
 have n:Ext V f:=by rw [←g,←m];exact Ext.sa _ (Nat.le_refl _) Ea
 rw [g];have a:=a.ext n;have u:=p.tr n;clear g c n p m;obtain⟨i,t⟩: ∃b,w.heap.size+1=b:=⟨_,rfl⟩;rw [t]at a d⊢;have v:w.heap.size≤i:=by omega
 clear t;have x:=d.r;have q:=Xh a;have y:=Xh d;clear a d
 go_wp2_with (go_at_call 165;(refine(l.out _).mono ?_);rintro e C ⟨rfl,j⟩;have x:=(y.out.ext j).r;have A:=(q.out.ext j).r;have H:=(q.out.ext j).z)
 obtain⟨k,o⟩: ∃k,Qe C i 0 #[.int .u8 ki,.int .u8 bu,.int .i64 cu,.int .i64 pv,.int .i64 ge,.int .i64 ti]=k:=⟨_,rfl⟩;have s:Qc k i=#[.int .u8 ki,.int .u8 bu,.int .i64 cu,.int .i64 pv,.int .i64 ge,.int .i64 ti]:=by rw [←o];exact Qq _ _ _ (by rw [A];rfl)
 have B:Ext w k:=by rw [←o];exact Ext.sa _ v (u.tr j)
 rw [o]
 refine bodyPost_ret (QL rfl _ _ i rfl (by
  rw [Qar (by rw [s];show 0+6≤6;omega),s]
  rfl)) rfl ⟨rfl,B⟩
theorem QqE{p:Int×Int}(h:p∈Qx):0≤QD p∧QD p<4294967296:=by
 have: ∀x∈Qx,0≤QD x∧QD x<4294967296:=by decide
 exact this p h
theorem Qf9{p:Int×Int}(h:p∈Qx)(w:World):Cr 154 #[.agg #[.int .u8 p.1,.int .i64 p.2]] w (.tuple #[.int .u32 (QD p),.bool true]):=by
 have:=Qny p w;unfold adO isN at this;rw [if_pos h,decide_eq_true h]at this;exact this
theorem QsX(x y:Int)(LO pl:List Int)(g q:Nat)(pp:Option Addr)(cp:Nat)(w1:World)(HL:LO.length=16)(H0:0≤x∧x<4294967296)(H1:0≤y∧y<4294967296)(s1:SlB w1 (some ⟨g,0,none⟩) LO)(rl:ByR LO)(sp:SlB w1 pp pl)(hpp:pp=none→cp=0)(hl:pl.length≤2000):
  Calls Tryz.prog 155 #[.agg #[.int .u8 0,.int .u16 0,.int .u16 0,.int .u8 64,.int .u8 4,.int .u32 x,.int .u32 y,.slice (some ⟨g,0,none⟩) LO.length q,.slice pp pl.length cp]] w1 fun e w'=> ∃v,e= .returned (.tuple #[v,.bool true])∧Z8 w1 w' v (QiT ⟨0,0,0,64,4,x,y,LO,pl⟩):=by
 refine Qe7 ⟨0,0,0,64,4,x,y,LO,pl⟩ (some ⟨g,0,none⟩) pp q cp w1 ?_ (by show(0:Int)≤0∧(0:Int)<256;decide) (by show(0:Int)≤0∧(0:Int)<65536;decide) (by show(0:Int)≤0∧(0:Int)<65536;decide) (by show(0:Int)≤64∧(64:Int)<256;decide) (by show(0:Int)≤4∧(4:Int)<256;decide) H0 H1 s1 (fun e=>by cases e) sp hpp rl ?_ ?_
 ·show hdR 0 LO.length pl.length=true;unfold hdR;rw [HL,show decide (20+((16:Nat):Int)+(pl.length:Int)≤65535)=true from decide_eq_true Om];decide
 ·show LO.length≤40;omega
 ·exact hl
theorem Qnz(fr tn:Int×Int)(o:Opt)(pl:List Int)(pp:Option Addr)(cp:Nat)(w:World)(hf:fr∈Qx)(ht:tn∈Qx)(ho:ZO o=true)(sp:SlB w pp pl)(hpp:pp=none→cp=0)(hl:pl.length≤2000):
  Calls Tryz.prog 84 #[.agg (wrV fr tn o (.slice pp pl.length cp))] w fun e w'=> ∃v,e= .returned (.tuple #[v,.int .u8 0])∧Z8 w w' v (QiT ⟨0,0,0,64,4,QD fr,QD tn,Ym o,pl⟩):=by
 have A:=Xh (Qf9 hf);have B:=Xh (Qf9 ht);have n:=Xh (Qnx o ho);have S:=Xh (fun W (hE:Ext w W)=>sp.ext hE);have r:=Xh (show(Ym o).length=16 by rw [Qhm ho];simp [ZA])
 have C:=Xh (show ByR (Ym o)from by
  rw [Qhm ho];have h:=(Zz o).1 ho
  exact((ByR.cons Om (ByR.cons Om (ByR.cons Om (ByR.cons Om (ByR.cons Om (ByR.cons Om ByR.nil)))))).app (QlT _ _)).app (QlT _ _))
 have D:=Xh (QqE hf);have E:=Xh (QqE ht);obtain⟨l,J⟩: ∃L,Ym o=L:=⟨_,rfl⟩;rw [J]at n r C⊢;obtain⟨x,K⟩: ∃x,QD fr=x:=⟨_,rfl⟩;obtain⟨y,M⟩: ∃y,QD tn=y:=⟨_,rfl⟩;rw [K]at A D⊢;rw [M]at B E⊢;have F:=Xh (And.intro hpp hl);have U: ∀W (g q:Nat),(Instr.build 132 #[(3,.int .u8 64),(4,.int .u8 4),(5,.int .u32 x),(6,.int .u32 y),(7,.slice (some ⟨g,0,none⟩) l.length q),(8,.slice pp pl.length cp)]).run Tryz.prog W= .ok (.agg #[.int .u8 0,.int .u16 0,.int .u16 0,.int .u8 64,.int .u8 4,.int .u32 x,.int .u32 y,.slice (some ⟨g,0,none⟩) l.length q,.slice pp pl.length cp]) W:=fun W g q=>by kernel_rfl
 clear hf ht ho sp hpp hl J K M;unfold opv at n;unfold wrV
 go_enter Tryz.func84,Tryz.ntmps84
 go_upto_region 1 with(fail)
 obtain⟨i,m⟩: ∃i,w.alloc (.cells #[.int .u8 fr.1,.int .i64 fr.2,.int .u8 tn.1,.int .i64 tn.2,.int .u8 o.ki,.int .u8 o.bu,.int .i64 o.cu,.int .i64 o.pv,.int .i64 o.ge,.int .i64 o.ti,.slice pp pl.length cp] 77)=i:=⟨_,rfl⟩;have G:Ext w i:=by rw [←m];exact Ea
 have t:RowZ i w.heap.size #[.int .u8 fr.1,.int .i64 fr.2,.int .u8 tn.1,.int .i64 tn.2,.int .u8 o.ki,.int .u8 o.bu,.int .i64 o.cu,.int .i64 o.pv,.int .i64 o.ge,.int .i64 o.ti,.slice pp pl.length cp]:=by rw [←m];exact RowZ.new _ _ _
 rw [m];clear m;obtain⟨d,u⟩: ∃b,w.heap.size=b:=⟨_,rfl⟩;rw [u]at t⊢;have V:=Xh u;have a:=Xh t;have f:=Xh G;clear t u G;have X:i.cell? ⟨d,0,none⟩=some (.int .u8 fr.1):=a.out.cell 0 (by show 0<11;omega);have Y:i.cell? ⟨d,1,none⟩=some (.int .i64 fr.2):=a.out.cell 1 (by show 1<11;omega)
 go_wp2_with (first|(go_at_call 154;first|((with_reducible refine(A.out _).mono ?_);rintro e N ⟨rfl,O⟩;have a:=Xh (a.out.ext O);have f:=Xh (f.out.tr O);have Z:N.cell? ⟨d,2,none⟩=some (.int .u8 tn.1):=a.out.cell 2 (by show 2<11;omega);have c3:N.cell? ⟨d,3,none⟩=some (.int .i64 tn.2):=a.out.cell 3 (by show 3<11;omega))|((with_reducible refine(B.out _).mono ?_);rintro e j ⟨rfl,P⟩;have a:=Xh (a.out.ext P);have f:=Xh (f.out.tr P);have c4:j.cell? ⟨d,4,none⟩=some (.int .u8 o.ki):=a.out.cell 4 (by show 4<11;omega);have c5:j.cell? ⟨d,5,none⟩=some (.int .u8 o.bu):=a.out.cell 5 (by show 5<11;omega);have c6:j.cell? ⟨d,6,none⟩=some (.int .i64 o.cu):=a.out.cell 6 (by show 6<11;omega);have c7:j.cell? ⟨d,7,none⟩=some (.int .i64 o.pv):=a.out.cell 7 (by show 7<11;omega);have c8:j.cell? ⟨d,8,none⟩=some (.int .i64 o.ge):=a.out.cell 8 (by show 8<11;omega);have c9:j.cell? ⟨d,9,none⟩=some (.int .i64 o.ti):=a.out.cell 9 (by show 9<11;omega)))|(go_at_call 151;(with_reducible refine(n.out _).mono ?_);rintro e z ⟨vo,rfl,k⟩;obtain⟨g,q,rfl,-,-,-,-,-⟩:=k.own.at (by have:=r.out;omega);have H:SlB z (some ⟨g,0,none⟩) l:=(by obtain⟨p,c,e,-,s⟩:=k.sl;cases e;exact s);have a:=Xh (a.out.ext k.ext);have f:=Xh (f.out.tr k.ext);have T:=Xh (QsX x y l pl g q pp cp z r.out D.out E.out H C.out (S.out _ f.out) F.out.1 F.out.2);clear H k;have a0:z.cell? ⟨d,10,none⟩=some (.slice pp pl.length cp):=a.out.cell 10 (by show 10<11;omega))|(go_at_call 155;(with_reducible refine(T.out).mono ?_);rintro e w2 ⟨Q,rfl,R⟩;have I:=Xh R;clear R))
 refine bodyPost_ret (v:= .tuple #[Q,.int .u8 0]) (by simp [results,Tryz.results84,go_sem]) rfl ?_;exact⟨Q,rfl,I.out.own.le f.out.size,f.out.tr I.out.ext⟩
end
theorem QAM(sr ds:Int)(op pl:List Int)(h:op.length=16):ipB sr ds op pl=QiT ⟨0,0,0,64,4,sr,ds,op,pl⟩:=by
 have e:ipA sr ds pl.length op=Qf8 ⟨0,0,0,64,4,sr,ds,op,pl⟩:=by
  unfold ipA Qf8 YO Ju Qbc Ju;rw [h];simp only [Yz,List.cons_append,List.nil_append,List.append_assoc];simp only [List.cons.injEq]
  and_intros
  all_goals first|rfl|omega|(simp;done)|skip
 unfold ipB QiT;rw [e]
theorem QBB{lo n c:Nat}{bs:List Int}(h:OB w lo (.slice none n c) bs):c=0:=by
 rcases h.2 with⟨h,-⟩|⟨g,cap,cur,h,-⟩
 ·cases h;rfl
 ·cases h
theorem QAI{tmps:Array Value}{g:Nat}(hp:tmps.getD 2 undef= .pointer (some ⟨g,0,none⟩))(hr:Qc w g=cs)(hc:cs.size=11):
  (results Tryz.f30 tmps).run Tryz.prog w= .ok (.tuple #[.agg cs,tmps.getD 3 undef]) w:=
 QL rfl tmps w g hp (by
  rw [Qj2 (by rw [hr,hc];omega),hr]
  rw [show cs.extract 0 (0+11)=cs by rw [Nat.zero_add,←hc];simp])
theorem QA8(p:Option Addr)(bs:List Int)(c:Nat)(w:World)(hs:SlB w p bs)(hr:ByR bs)(hl:bs.length≤1000)(hlc:bs.length≤c):
  Calls Tryz.prog 30 #[.slice p bs.length c] w fun e w'=>(Qdb bs=none∧e= .returned (.tuple #[.agg #[.int .u8 0,.int .i64 0,.int .u8 0,.int .i64 0,.int .u8 0,.int .u8 0,.int .i64 0,.int .i64 0,.int .i64 0,.int .i64 0,.slice none 0 0],.int .u8 13])∧Ext w w')∨
   ∃fr tn o pl vp,Qdb bs=some (fr,tn,o,pl)∧e= .returned (.tuple #[.agg (wrV fr tn o vp),.int .u8 0])∧Ext w w'∧OB w' w.heap.size vp pl:=by
 have b1:=Xh (fun W (E:Ext w W)=>(QAB p bs c W (hs.ext E) hr hl hlc).mono fun e w' h=>h.one);have HS:=Xh hs;have a0:=Xh (show Zd bs=0→hdI bs=ipH bs from fun h=>if_pos h);have Q:=Xh (And.intro hr (show ByR (hdI bs).op∧ByR (hdI bs).pl from by unfold hdI;split;exact Yo hr;exact⟨ByR.nil,ByR.nil⟩));have a4:=Xh (show(hdI bs).op.length≤1000∧(hdI bs).pl.length≤1000 from by unfold hdI;split;exact⟨Xt Qcz.1 hl,Xt Qcz.2 hl⟩;exact⟨Nat.zero_le _,Nat.zero_le _⟩)
 have c3:=Xh (show Zd bs=0→0<bs.length from fun h=>by
  rcases Nat.lt_or_ge bs.length 20 with s|s
  ·unfold Zd at h;rw [if_pos s]at h;cases h
  ·omega)
 obtain⟨H,hH⟩: ∃H,hdI bs=H:=⟨_,rfl⟩;rw [hH]at b1 a0 Q a4;obtain⟨y,I⟩: ∃y,Zd bs=y:=⟨_,rfl⟩
 have HW:=Xh (show Qdb bs=if Zd bs=0∧takeE (ipH bs).op=0 then
  match Yi (ipH bs).sr,Yi (ipH bs).ds with
  |some fr,some tn=>if ipB (QD fr) (QD tn) (Ym (Yh (ipH bs).op)) (ipH bs).pl=bs then some (fr,tn,Yh (ipH bs).op,(ipH bs).pl)else none
  |_,_=>none
  else none from rfl)
 rw [I]at b1 a0 c3 HW;clear hs hr hH I
 go_enter Tryz.func30,Tryz.ntmps30
 go_upto_region 1 with(fail)
 obtain⟨U,a⟩: ∃U,w.alloc (.cells #[.int .u8 0,.int .i64 0,.int .u8 0,.int .i64 0,.int .u8 0,.int .u8 0,.int .i64 0,.int .i64 0,.int .i64 0,.int .i64 0,.slice none 0 0] 77)=U:=⟨_,rfl⟩;have E:Ext w U:=by rw [←a];exact Ea
 have f:RowZ U w.heap.size #[.int .u8 0,.int .i64 0,.int .u8 0,.int .i64 0,.int .u8 0,.int .u8 0,.int .i64 0,.int .i64 0,.int .i64 0,.int .i64 0,.slice none 0 0]:=by rw [←a];exact RowZ.new _ _ _
 rw [a];clear a;obtain⟨B2,e2⟩: ∃B,w.heap.size=B:=⟨_,rfl⟩;have s:w.heap.size≤B2:=by omega
 have f2:B2<U.heap.size:=by rw [←e2];exact f.l
 rw [e2]at f⊢
 go_upto_region 2 with(go_at_call 81;(refine(b1.out _ E).mono ?_);rintro e V ⟨vo,vp,rfl,b0,ho,G⟩;obtain⟨po,co,rfl,e6,so⟩:=ho.slb;obtain⟨m,q,rfl,f8,i⟩:=G.slb;unfold heV)
 obtain⟨X,a⟩: ∃W,Qe (V.alloc (.cells #[.int .u8 0,.int .u16 0,.int .u16 0,.int .u8 0,.int .u8 0,.int .u32 0,.int .u32 0,.slice none 0 0,.slice none 0 0] 132)) V.heap.size 0 #[.int .u8 H.sv,.int .u16 H.nu,.int .u16 H.fl,.int .u8 H.ho,.int .u8 H.pr,.int .u32 H.sr,.int .u32 H.ds,.slice po H.op.length co,.slice m H.pl.length q]=W:=⟨_,rfl⟩;have R:Ext V X:=by rw [←a];exact Mv.ext_of Ea (Mv.sa (C:=fun k=>k=V.heap.size) _ rfl (Mv.refl _ _)) (fun k e=>by omega)
 have g:RowZ X V.heap.size #[.int .u8 H.sv,.int .u16 H.nu,.int .u16 H.fl,.int .u8 H.ho,.int .u8 H.pr,.int .u32 H.sr,.int .u32 H.ds,.slice po H.op.length co,.slice m H.pl.length q]:=by rw [←a];exact(RowZ.new _ _ _).all _ rfl
 rw [a];clear a;obtain⟨Y,b7⟩: ∃B,V.heap.size=B:=⟨_,rfl⟩;have f3:U.heap.size≤Y:=by rw [←b7];exact b0.size
 have E:=(E.tr b0).tr R;have f:=(f.ext b0).ext R;rw [b7]at g⊢;have so:=so.ext R;have i:=i.ext R;have G:=G.ext R;have A:=f.r;have a5:=f.z;have f4:=Xh E;have j:=Xh G;clear b7 b0 R ho G
 cases t:(y !=0)
 case true=>
  go_wp2;exact bodyPost_ret (QAI rfl (Qq _ _ _ (by rw [A];try rfl)) rfl) rfl (.inl ⟨by rw [HW.out,if_neg (fun h=>absurd h.1 (by simpa using t))],rfl,Ext.sa _ s E⟩)
 have I:y=0:=by simpa using t
 have HY:=Xh I;have a0:=Xh (a0.out I);have c5:X.cell? ⟨Y,5,none⟩=some (.int .u32 H.sr):=g.cell 5 (by show 5<9;omega);have c7:X.cell? ⟨Y,7,none⟩=some (.slice po H.op.length co):=g.cell 7 (by show 7<9;omega);have a6:=Xh (QA7 po H.op co X so Q.out.2.1 a4.out.1 e6);have a7:=Xh (fun h:takeE H.op=0=>And.intro (Qiy h) (Qiz Q.out.2.1 h))
 have J:=Xh (show Qdb bs=if takeE H.op=0 then
  match Yi H.sr,Yi H.ds with
  |some fr,some tn=>if ipB (QD fr) (QD tn) (Ym (Yh H.op)) H.pl=bs then some (fr,tn,Yh H.op,H.pl)else none
  |_,_=>none
  else none by rw [HW.out,←a0.out,I];simp only [true_and])
 obtain⟨O,hO⟩: ∃O,Yh H.op=O:=⟨_,rfl⟩;obtain⟨z,hz⟩: ∃z,takeE H.op=z:=⟨_,rfl⟩;rw [hO]at a6 a7 J;rw [hz]at a6 a7 J;rw [Qcu]at a6;have a8:=Xh (QAL H.sr);have a9:=Xh (QAL H.ds);obtain⟨M,b8⟩: ∃n,Yi H.sr=n:=⟨_,rfl⟩;obtain⟨Z,b9⟩: ∃n,Yi H.ds=n:=⟨_,rfl⟩;rw [b8]at a8 J;rw [b9]at a9 J;have c4:=Xh (fun fr (h:M=some fr)=>(Qf2 (b8.trans h)).1);have c9:=Xh (fun fr (h:Z=some fr)=>(Qf2 (b9.trans h)).1);clear hO hz b8 b9 I HW
 go_upto_region 5 with(go_at_call 82;(refine a6.out.mono ?_);rintro e w3 ⟨rfl,N⟩)
 clear t;obtain⟨d1,d3⟩: ∃d,M.getD (0,0)=d:=⟨_,rfl⟩;obtain⟨d2,d4⟩: ∃d,Z.getD (0,0)=d:=⟨_,rfl⟩;rw [d3]at a8;rw [d4]at a9;unfold noC at a8 a9;obtain⟨W3,a⟩: ∃W,Qe (w3.alloc (.cells #[.int .u8 0,.int .u8 0,.int .i64 0,.int .i64 0,.int .i64 0,.int .i64 0] 75)) w3.heap.size 0 #[.int .u8 O.ki,.int .u8 O.bu,.int .i64 O.cu,.int .i64 O.pv,.int .i64 O.ge,.int .i64 O.ti]=W:=⟨_,rfl⟩;have S:Ext w3 W3:=by rw [←a];exact Mv.ext_of Ea (Mv.sa (C:=fun k=>k=w3.heap.size) _ rfl (Mv.refl _ _)) (fun k e=>by omega)
 have K:RowZ W3 w3.heap.size #[.int .u8 O.ki,.int .u8 O.bu,.int .i64 O.cu,.int .i64 O.pv,.int .i64 O.ge,.int .i64 O.ti]:=by rw [←a];exact(RowZ.new _ _ _).all _ rfl
 rw [a];clear a;obtain⟨B6,c0⟩: ∃B,w3.heap.size=B:=⟨_,rfl⟩;have f5:X.heap.size≤B6:=by rw [←c0];exact N.size
 have E:=(E.tr N).tr S;have f:=(f.ext N).ext S;have g:=(g.ext N).ext S;have i:=(i.ext N).ext S;rw [c0]at K⊢;have j:=Xh ((j.out.ext N).ext S);clear c0 N S so c5 c7;have c5:W3.cell? ⟨Y,5,none⟩=some (.int .u32 H.sr):=g.cell 5 (by show 5<9;omega)
 go_upto_region 6 with(go_at_call 83;(refine(a8.out _).mono ?_);rintro e w5 ⟨rfl,F⟩)
 obtain⟨W5,a⟩: ∃W,Qe (w5.alloc (.cells #[.int .u8 0,.int .i64 0] 73)) w5.heap.size 0 #[.int .u8 d1.1,.int .i64 d1.2]=W:=⟨_,rfl⟩;have L:Ext w5 W5:=by rw [←a];exact Mv.ext_of Ea (Mv.sa (C:=fun k=>k=w5.heap.size) _ rfl (Mv.refl _ _)) (fun k e=>by omega)
 have r8:RowZ W5 w5.heap.size #[.int .u8 d1.1,.int .i64 d1.2]:=by rw [←a];exact(RowZ.new _ _ _).all _ rfl
 rw [a];clear a;obtain⟨B8,c1⟩: ∃B,w5.heap.size=B:=⟨_,rfl⟩;have f6:W3.heap.size≤B8:=by rw [←c1];exact F.size
 have E:=(E.tr F).tr L;have f:=(f.ext F).ext L;have g:=(g.ext F).ext L;have K:=(K.ext F).ext L;have i:=(i.ext F).ext L;rw [c1]at r8⊢;have j:=Xh ((j.out.ext F).ext L);clear c1 F L c5;have c6:W5.cell? ⟨Y,6,none⟩=some (.int .u32 H.ds):=g.cell 6 (by show 6<9;omega)
 go_upto_region 7 with(go_at_call 83;(refine(a9.out _).mono ?_);rintro e w7 ⟨rfl,u⟩)
 obtain⟨x,a⟩: ∃W,Qe (w7.alloc (.cells #[.int .u8 0,.int .i64 0] 73)) w7.heap.size 0 #[.int .u8 d2.1,.int .i64 d2.2]=W:=⟨_,rfl⟩;have D:Ext w7 x:=by rw [←a];exact Mv.ext_of Ea (Mv.sa (C:=fun k=>k=w7.heap.size) _ rfl (Mv.refl _ _)) (fun k e=>by omega)
 have b2:RowZ x w7.heap.size #[.int .u8 d2.1,.int .i64 d2.2]:=by rw [←a];exact(RowZ.new _ _ _).all _ rfl
 rw [a];clear a;obtain⟨e7,c2⟩: ∃B,w7.heap.size=B:=⟨_,rfl⟩;have f7:W5.heap.size≤e7:=by rw [←c2];exact u.size
 have E:=(E.tr u).tr D;have f:=(f.ext u).ext D;have g:=(g.ext u).ext D;have K:=(K.ext u).ext D;have r8:=(r8.ext u).ext D;have i:=(i.ext u).ext D;rw [c2]at b2⊢;have j:=Xh ((j.out.ext u).ext D);clear c2 u D c6 A a5;have A:=f.r;have a5:=f.z;have d7:(z !=0)=true∨(z !=0)=false∧(M.isSome=false∨M.isSome=true∧Z.isSome=false)∨(z !=0)=false∧M.isSome=true∧Z.isSome=true:=by
  cases(z !=0)<;>cases M.isSome<;>cases Z.isSome<;>simp
 rcases d7 with t|⟨t,t1|⟨t1,t2⟩⟩|⟨t,t1,t2⟩
 case' inr.inr=>
  have b3:z=0:=by simpa using t
  obtain⟨e8,e9,f0,a3⟩:=a7.out b3;obtain⟨fr,rfl⟩:=Option.isSome_iff_exists.1 t1;obtain⟨tn,rfl⟩:=Option.isSome_iff_exists.1 t2;subst d3 d4;have b4:(Ym O).length=16:=by rw [Qhm a3];simp [ZA]
  have b5:=Xh (show Qdb bs=if ipB (QD fr) (QD tn) (Ym O) H.pl=bs then some (fr,tn,O,H.pl)else none by rw [J.out,if_pos b3]);have d8:m=none→q=0:=fun e=>by have h:=j.out;subst e;exact QBB h
  have T:=Xh (fun W (i:SlB W m H.pl)=>Qnz fr tn O H.pl m q W (c4.out fr rfl) (c9.out tn rfl) a3 i d8 (by have:=a4.out.2;omega));rw [←QAM _ _ _ _ b4]at T
  have b6:ByR (ipB (QD fr) (QD tn) (Ym O) H.pl):=Qys (by
   rw [Qhm a3];have h:=(Zz O).1 a3
   exact((ByR.cons Om (ByR.cons Om (ByR.cons Om (ByR.cons Om (ByR.cons Om (ByR.cons Om ByR.nil)))))).app (QlT _ _)).app (QlT _ _)) Q.out.2.2
  have d0:0<(ipB (QD fr) (QD tn) (Ym O) H.pl).length:=by rw [QAM _ _ _ _ b4];unfold QiT Qf8;simp
  obtain⟨P,d5⟩: ∃l,ipB (QD fr) (QD tn) (Ym O) H.pl=l:=⟨_,rfl⟩;rw [d5]at T b5 b6 d0;have HJ:=Xh (show u8L P=u8L bs→P=bs from Qsz b6 Q.out.1);have d9: ∀W,(Instr.build 77 #[(0,.agg #[.int .u8 fr.1,.int .i64 fr.2]),(1,.agg #[.int .u8 tn.1,.int .i64 tn.2]),(2,.agg #[.int .u8 O.ki,.int .u8 O.bu,.int .i64 O.cu,.int .i64 O.pv,.int .i64 O.ge,.int .i64 O.ti]),(3,.slice m H.pl.length q)]).run Tryz.prog W= .ok (.agg #[.int .u8 fr.1,.int .i64 fr.2,.int .u8 tn.1,.int .i64 tn.2,.int .u8 O.ki,.int .u8 O.bu,.int .i64 O.cu,.int .i64 O.pv,.int .i64 O.ge,.int .i64 O.ti,.slice m H.pl.length q]) W:=fun W=>by kernel_rfl
  have c8:x.cell? ⟨Y,8,none⟩=some (.slice m H.pl.length q):=g.cell 8 (by show 8<9;omega);have e0:=K.r;have e1:=r8.r;have e3:=b2.r;have e4:=Xh (c3.out HY.out);clear J e9 f0 a3 b4 d5 b3 c4 c9 a7 a4 e8
  go_upto_region 10 with(fail)
  clear t t1 t2 d9 c8 e0 e1 e3 A a5;obtain⟨W9,a⟩: ∃W,Qe (x.alloc (.cells #[.int .u8 0,.int .i64 0,.int .u8 0,.int .i64 0,.int .u8 0,.int .u8 0,.int .i64 0,.int .i64 0,.int .i64 0,.int .i64 0,.slice none 0 0] 77)) x.heap.size 0 #[.int .u8 fr.1,.int .i64 fr.2,.int .u8 tn.1,.int .i64 tn.2,.int .u8 O.ki,.int .u8 O.bu,.int .i64 O.cu,.int .i64 O.pv,.int .i64 O.ge,.int .i64 O.ti,.slice m H.pl.length q]=W:=⟨_,rfl⟩;have a1:Ext x W9:=by rw [←a];exact Mv.ext_of Ea (Mv.sa (C:=fun k=>k=x.heap.size) _ rfl (Mv.refl _ _)) (fun k e=>by omega)
  have a2:RowZ W9 x.heap.size #[.int .u8 fr.1,.int .i64 fr.2,.int .u8 tn.1,.int .i64 tn.2,.int .u8 O.ki,.int .u8 O.bu,.int .i64 O.cu,.int .i64 O.pv,.int .i64 O.ge,.int .i64 O.ti,.slice m H.pl.length q]:=by rw [←a];exact(RowZ.new _ _ _).all _ rfl
  rw [a];clear a;obtain⟨f1,d6⟩: ∃B,x.heap.size=B:=⟨_,rfl⟩;rw [d6]at a2⊢;have hb:B2<f1:=by have:=f.l;unfold Lt at this;omega
  have E:=E.tr a1;have f:=f.ext a1;have j:=Xh (j.out.ext a1);have T:=Xh (T.out W9 (i.ext a1));have e5:=a2.r;unfold wrV at T;clear g K r8 b2 i d6 a1
  go_upto_region 11 with(go_at_call 84;(refine T.out.mono ?_);rintro e f9 ⟨v,rfl,o⟩)
  obtain⟨pv,cv,rfl,-,sv⟩:=o.own.slb;have k1:=Qcy (c:=cv) sv b6 d0;have E:=E.tr o.ext;have k2:=Qcy (c:=c) (HS.out.ext E) Q.out.1 e4.out;have f:=f.ext o.ext;have a2:=a2.ext o.ext;have j:=Xh (j.out.ext o.ext);have A:=f.r;have a5:=f.z;have e5:=a2.r;have hd:(u8L P==u8L bs)=decide (P=bs):=by
   by_cases h:P=bs
   ·rw [h];simp
   ·have s:u8L P≠u8L bs:=fun e=>h (HJ.out e);simp [h,s]
  clear o sv
  cases t:decide (P=bs)
  ·rw [t]at hd;go_wp2;exact bodyPost_ret (QAI rfl (Qq _ _ _ (by rw [A];try rfl)) rfl) rfl (.inl ⟨by rw [b5.out,if_neg (of_decide_eq_false t)],rfl,Ext.sa _ s E⟩)
  ·rw [t]at hd;have HZ:=Xh (show Qdb bs=some (fr,tn,O,H.pl)by rw [b5.out,if_pos (of_decide_eq_true t)]);clear t;go_wp2;have G:=j.out.mvx (C:=fun k=>k=B2) (Mv.sa (b:=B2) (o:=0) #[.int .u8 fr.1,.int .i64 fr.2,.int .u8 tn.1,.int .i64 tn.2,.int .u8 O.ki,.int .u8 O.bu,.int .i64 O.cu,.int .i64 O.pv,.int .i64 O.ge,.int .i64 O.ti,.slice m H.pl.length q] rfl (Mv.refl _ _)) (fun k hk e=>by omega);exact bodyPost_ret (QAI rfl (Qq _ _ _ (by rw [A];try rfl)) rfl) rfl (.inr ⟨fr,tn,O,H.pl,_,HZ.out,rfl,Ext.sa _ s E,G.le Om⟩)
 all_goals
  have HN:Qdb bs=none:=by
   rw [J.out]
   first|exact if_neg (by simpa using t)|(rw [if_pos (by simpa using t)];cases M<;>cases Z<;>simp_all)
  go_wp2;exact bodyPost_ret (QAI rfl (Qq _ _ _ (by rw [A];try rfl)) rfl) rfl (.inl ⟨HN,rfl,Ext.sa _ s E⟩)
def QtQ(ops:Array Oper):Prop:=Region.noSelect ops=true∧JW ops 10 [0,1,2,4,5,6] []=true∧Region.ready .any ops (don 10 [6,5,4,2,1,0])= [3]∧Region.ready .any ops (don 10 [3,6,5,4,2,1,0])= [7]∧Region.ready .any ops (don 10 [7,3,6,5,4,2,1,0])= [8]∧Region.ready .any ops (don 10 [8,7,3,6,5,4,2,1,0])= [9]∧Region.ready .any ops (don 10 [9,8,7,3,6,5,4,2,1,0])= []
theorem QoF:QtQ ((Tryz.f158.body.bind (Qh 1)).getD #[]):=⟨Kr,Kr,Kr,Kr,Kr,Kr,Kr⟩
def QtR(ops:Array Oper):Prop:=Region.noSelect ops=true∧JW ops 12 [0,1,2,3,6,7,8] []=true∧Region.ready .any ops (don 12 [8,7,6,3,2,1,0])= [4]∧Region.ready .any ops (don 12 [4,8,7,6,3,2,1,0])= [5]∧Region.ready .any ops (don 12 [5,4,8,7,6,3,2,1,0])= [9]∧Region.ready .any ops (don 12 [9,5,4,8,7,6,3,2,1,0])= [10]∧Region.ready .any ops (don 12 [10,9,5,4,8,7,6,3,2,1,0])= [11]∧Region.ready .any ops (don 12 [11,10,9,5,4,8,7,6,3,2,1,0])= []
theorem QoG:QtR ((Tryz.f158.body.bind (Qh 2)).getD #[]):=⟨Kr,Kr,Kr,Kr,Kr,Kr,Kr,Kr⟩
theorem Qlm{n:Int}{kd:IntKind}(h0:w.cell? ⟨B,k,none⟩=some (.int kd n))(hl:Lt B w)(hC: ¬C B)(ρ:Operand→Value)(o:Oper)
  (hr: ∀w':World,w'.cell? ⟨B,k,none⟩=some (.int kd n)→(execOp ρ o).run Tryz.prog w'= .ok (.value (.int kd n)) w'): ∀w',Mv C w w'→(execOp ρ o).run Tryz.prog w'= .ok (.value (.int kd n)) w':=by
 intro w' a;exact hr w' (by rw [Qa,Qf (a.same B hl hC),←Qa];exact h0)
theorem QhT{n:Int}(h0:w.cell? ⟨B,k,none⟩=some (.int .u32 n))(hx:ρ x= .pointer (some ⟨B,k,none⟩)):
  (execOp ρ ⟨dst,.load 61 x,ty,pos,after,g⟩).run Tryz.prog w= .ok (.value (.int .u32 n)) w:=by
 simp only [execOp,hx];go_simp
theorem QhU{n:Int}(h0:w.cell? ⟨B,k,none⟩=some (.int .u16 n))(hx:ρ x= .pointer (some ⟨B,k,none⟩)):
  (execOp ρ ⟨dst,.load 62 x,ty,pos,after,g⟩).run Tryz.prog w= .ok (.value (.int .u16 n)) w:=by
 simp only [execOp,hx];go_simp
theorem QhV{n:Int}(hn:IntKind.i64.wrap n=n)(hx:ρ x= .int .u32 n)(w:World):
  (execOp ρ ⟨dst,.convert 61 3 x,ty,pos,after,g⟩).run Tryz.prog w= .ok (.value (.int .i64 n)) w:=by
 simp only [execOp,hx];go_simp
 try simp [hn]
theorem QhW{n:Int}(hn:IntKind.i64.wrap n=n)(hx:ρ x= .int .u16 n)(w:World):
  (execOp ρ ⟨dst,.convert 62 3 x,ty,pos,after,g⟩).run Tryz.prog w= .ok (.value (.int .i64 n)) w:=by
 simp only [execOp,hx];go_simp
 try simp [hn]
theorem QgD(n:Int)(m:Nat)(hm:m≤4)(h0:0≤n)(h1:n<4294967296)(w:World):
  Calls Tryz.prog 208 #[.int .i64 n,.int .i64 m] w fun e w'=> ∃v,e= .returned v∧OB w' w.heap.size v (byN n m)∧Ext w w':=
 (Qjt n m hm h0 h1 w).mono fun e w' ⟨v,h1,h2,h3⟩=>⟨v,h1,by unfold OB;rw [ZA];exact h2,h3⟩
theorem Qb0(t:Tu)(hr:TuR t)(w:World):
  Calls Tryz.prog 158 #[tu t.a t.b t.c t.d] w fun e w'=> ∃v,e= .returned v∧OB w' w.heap.size v (tb t)∧Ext w w':=by
 obtain⟨⟨X,Y⟩,⟨Z,b1⟩,⟨c0,c1⟩,⟨d0,d1⟩⟩:=hr;have I:IntKind.i64.wrap t.a=t.a:=by rw [IntKind.wrap_i64];omega
 have J:IntKind.i64.wrap t.b=t.b:=by rw [IntKind.wrap_i64];omega
 have wc:IntKind.i64.wrap t.c=t.c:=by rw [IntKind.wrap_i64];omega
 have K:IntKind.i64.wrap t.d=t.d:=by rw [IntKind.wrap_i64];omega
 go_enter Tryz.func158,Tryz.ntmps158
 go_upto_region 1 with(fail)
 obtain⟨g,i⟩: ∃g,w.alloc (.cells #[.int .u32 t.a,.int .u32 t.b,.int .u16 t.c,.int .u16 t.d] 64)=g:=⟨_,rfl⟩;have L:Ext w g:=by rw [←i];exact Ea
 have y:g.cell? ⟨w.heap.size,0,none⟩=some (.int .u32 t.a):=by rw [←i];simp [go_sem]
 have z:g.cell? ⟨w.heap.size,1,none⟩=some (.int .u32 t.b):=by rw [←i];simp [go_sem]
 have A:g.cell? ⟨w.heap.size,2,none⟩=some (.int .u16 t.c):=by rw [←i];simp [go_sem]
 have B:g.cell? ⟨w.heap.size,3,none⟩=some (.int .u16 t.d):=by rw [←i];simp [go_sem]
 have a2:g.heap.size=w.heap.size+1:=by rw [←i];simp
 have j:Lt w.heap.size g:=by unfold Lt;omega
 rw [i];clear i;refine QO (fun k=>g.heap.size≤k) Kr ?_;obtain⟨o,u⟩: ∃o,g.drew=o:=⟨_,rfl⟩;have l:Ext g o:=by rw [←u];exact Ext.dr (Ext.rf _)
 rw [u];clear u;have m: ¬(g.heap.size≤w.heap.size):=by omega
 have C:=(l.cell (p:=⟨w.heap.size,0,none⟩) j).trans y;have D:=(l.cell (p:=⟨w.heap.size,1,none⟩) j).trans z;have F:Lt w.heap.size o:=Xl j l.size;refine Qll (N:=10) (R:=QtQ) (E:=((Tryz.f158.body.bind (Qh 1)).getD #[])) Kr QoF Kr fun hS=> ?_;have f:=hS.2.1;refine ZY (N:=10) (k:=0) (v:= .pointer (some ⟨w.heap.size,0,none⟩)) hS.1 f rfl Kr (fun _ _=>by kernel_rfl) fun f=> ?_;refine ZY (N:=10) (k:=1) (v:= .int .u32 t.a) hS.1 f rfl Kr (Qlm C F m _ _ fun w' h=>QhT h Kr) fun f=> ?_;refine ZY (N:=10) (k:=2) (v:= .int .i64 t.a) hS.1 f rfl Kr (fun w' _=>QhV I Kr w') fun f=> ?_;refine ZY (N:=10) (k:=4) (v:= .pointer (some ⟨w.heap.size,1,none⟩)) hS.1 f rfl Kr (fun _ _=>by kernel_rfl) fun f=> ?_;refine ZY (N:=10) (k:=5) (v:= .int .u32 t.b) hS.1 f rfl Kr (Qlm D F m _ _ fun w' h=>QhT h Kr) fun f=> ?_;refine ZY (N:=10) (k:=6) (v:= .int .i64 t.b) hS.1 f rfl Kr (fun w' _=>QhV J Kr w') fun f=> ?_;refine JK hS.2.2.1 (QfO (R:=fun v w'=>OB w' o.heap.size v (byN t.a 4)) rfl rfl Kr (QgD t.a 4 Om X Y o) fun v1 W2 g2 o1=> ?_);refine JK hS.2.2.2.1 (QfO (R:=fun v w'=>OB w' W2.heap.size v (byN t.b 4)) rfl rfl Kr (QgD t.b 4 Om Z b1 W2) fun v2 W3 g3 o2=> ?_);have M:g.heap.size≤W3.heap.size:=(l.tr (g2.tr g3)).size;refine JK hS.2.2.2.2.1 (QuW rfl Kr Kr ((o1.ext g3).le l.size) o2 (by rw [ZA];omega) (by rw [ZA,ZA];omega) M fun v3 W4 m4 o3=> ?_);refine JK hS.2.2.2.2.2.1 (QhS (v:=v3) rfl rfl Kr (Mv.refl _ _) ?_);refine doneK hS.2.2.2.2.2.2 ?_;have r:Mv (fun k=>g.heap.size≤k) g W4:=(Mv.of_ext (l.tr (g2.tr g3))).trans m4;have O:=Xh o3;have P:W4.cell? ⟨w.heap.size,2,none⟩=some (.int .u16 t.c):=by rw [Qa,Qf (r.same _ j m),←Qa];exact A
 have Q:W4.cell? ⟨w.heap.size,3,none⟩=some (.int .u16 t.d):=by rw [Qa,Qf (r.same _ j m),←Qa];exact B
 have s:Lt w.heap.size W4:=Xl j r.size;have S:=r.size;clear hS f m4 o1 o2 o3 C D y z A B;go_simp
 go_upto_region 2 with(fail)
 refine QO (fun k=>g.heap.size≤k) Kr ?_;obtain⟨q,x⟩: ∃q,W4.drew=q:=⟨_,rfl⟩;have n:Ext W4 q:=by rw [←x];exact Ext.dr (Ext.rf _)
 rw [x];clear x;have T:=(n.cell (p:=⟨w.heap.size,2,none⟩) s).trans P;have U:=(n.cell (p:=⟨w.heap.size,3,none⟩) s).trans Q;have G:Lt w.heap.size q:=Xl s n.size;have V:=O.out.ext n;have H:=Xt S n.size;refine Qll (N:=12) (R:=QtR) (E:=((Tryz.f158.body.bind (Qh 2)).getD #[])) Kr QoG Kr fun hS=> ?_;have f:=hS.2.1;refine ZY (N:=12) (k:=0) (v:=v3) hS.1 f rfl Kr (fun _ _=>by kernel_rfl) fun f=> ?_;refine ZY (N:=12) (k:=1) (v:= .pointer (some ⟨w.heap.size,2,none⟩)) hS.1 f rfl Kr (fun _ _=>by kernel_rfl) fun f=> ?_;refine ZY (N:=12) (k:=2) (v:= .int .u16 t.c) hS.1 f rfl Kr (Qlm T G m _ _ fun w' h=>QhU h Kr) fun f=> ?_;refine ZY (N:=12) (k:=3) (v:= .int .i64 t.c) hS.1 f rfl Kr (fun w' _=>QhW wc Kr w') fun f=> ?_;refine ZY (N:=12) (k:=6) (v:= .pointer (some ⟨w.heap.size,3,none⟩)) hS.1 f rfl Kr (fun _ _=>by kernel_rfl) fun f=> ?_;refine ZY (N:=12) (k:=7) (v:= .int .u16 t.d) hS.1 f rfl Kr (Qlm U G m _ _ fun w' h=>QhU h Kr) fun f=> ?_;refine ZY (N:=12) (k:=8) (v:= .int .i64 t.d) hS.1 f rfl Kr (fun w' _=>QhW K Kr w') fun f=> ?_;refine JK hS.2.2.1 (QfO (R:=fun v w'=>OB w' q.heap.size v (byN t.c 2)) rfl rfl Kr (QgD t.c 2 Om c0 Om q) fun v4 W6 g6 o4=> ?_);refine JK hS.2.2.2.1 (QuW rfl Kr Kr (V.ext g6) o4 (by rw [ZA];omega) (by simp only [List.length_append,ZA];omega) (Xt H g6.size) fun v5 W7 m7 o5=> ?_);refine JK hS.2.2.2.2.1 (QfO (R:=fun v w'=>OB w' W7.heap.size v (byN t.d 2)) rfl rfl Kr (QgD t.d 2 Om d0 Om W7) fun v6 W8 g8 o6=> ?_);refine JK hS.2.2.2.2.2.1 (QuW rfl Kr Kr (o5.ext g8) o6 (by rw [ZA];omega) (by simp only [List.length_append,ZA];omega) (Xt (Xt H g6.size) (Xt m7.size g8.size)) fun v7 W9 m9 o7=> ?_);refine JK hS.2.2.2.2.2.2.1 (QhS (v:=v7) rfl rfl Kr (Mv.refl _ _) ?_);refine doneK hS.2.2.2.2.2.2.2 ?_;have W:Mv (fun k=>g.heap.size≤k) W4 W9:=(((Mv.of_ext (n.tr g6)).trans m7).tr g8).trans m9;clear hS f;go_simp;go_wp2;refine bodyPost_ret (v:=v7) (by simp [results,Tryz.results158,go_sem]) rfl ⟨v7,rfl,?_,?_⟩
 ·have h:=o7.le (b':=w.heap.size) Om;have e:byN t.a 4++byN t.b 4++byN t.c 2++byN t.d 2=tb t:=rfl;rw [e]at h;exact h
 ·exact Mv.ext_of L (r.trans W) (fun k h=>by omega)
theorem Qju(n:Int)(h0:0≤n)(h1:n<256):bits BinOp.xor IntKind.i64 (wrap64 ((wrap64 n).tdiv 16)) ((wrap64 n).tmod 16)=Qei n:=by
 refine QfK (fun n=>bits BinOp.xor IntKind.i64 (wrap64 ((wrap64 n).tdiv 16)) ((wrap64 n).tmod 16)=Qei n) ?_ h0 h1
 kernel_rfl
theorem QoH(t:Tu)(hr:TuR t)(w:World):
  Cr 87 #[tu t.a t.b t.c t.d] w (.int .u8 (sumT t)):=by
 have h:=Xh hr;clear hr
 go_enter Tryz.func87,Tryz.ntmps87
 go_wp2_with (first|(go_at_call 158;(with_reducible refine(Qb0 t h.out _).mono ?_);rintro e l ⟨v,rfl,f,k⟩;obtain⟨p,c,rfl,g⟩:=f.sl (by rw [Qek];omega);have i:=Xh g;have j:=Ext.tr Ea k;clear g f)|(go_at_call 157;(with_reducible refine(Qsa 0 (tb t) _ _ _ i.out (by rw [Qek];omega)).mono ?_);rintro e m ⟨rfl,rfl⟩))
 go_ret;exact⟨rfl,j⟩
theorem Qln(t:Tu)(hr:TuR t)(w:World):
  Cr 33 #[tu t.a t.b t.c t.d] w (.int .i64 (ofT t)):=by
 have f:=Xh hr;have g:=Xh (Qju (sumT t) (Qbm t).1 (Qbm t).2);clear hr
 go_enter Tryz.func33,Tryz.ntmps33
 go_wp2_with (go_at_call 87;(refine(QoH t f.out _).mono ?_);rintro e j ⟨rfl,i⟩;have h:=Ext.tr Ea i)
 go_ret;exact⟨by show _=Ending.returned (.int .i64 (Qei (sumT t)));rw [←g.out];rfl,h⟩
def QcX:List Int→List Int→Int
 |x::xs,y::ys=>if x<y then-1 else if y<x then 1 else QcX xs ys
 |_,_=>0
theorem QxI(n k:Int)(xs ys:List Int)(h0:0≤n∧n<4294967296)(h1:0≤k∧k<4294967296):QcX (byN n 4++xs) (byN k 4++ys)=if n<k then-1 else if k<n then 1 else QcX xs ys:=by
 have a:(256:Int)^3=16777216:=by decide
 have b:(256:Int)^2=65536:=by decide
 have c:(256:Int)^1=256:=by decide
 have d:(256:Int)^0=1:=by decide
 simp only [byN,List.cons_append,List.nil_append,QcX,a,b,c,d]
 repeat' split
 all_goals first|rfl|(exfalso;omega)
theorem QxJ(n k:Int)(xs ys:List Int)(h0:0≤n∧n<65536)(h1:0≤k∧k<65536):QcX (byN n 2++xs) (byN k 2++ys)=if n<k then-1 else if k<n then 1 else QcX xs ys:=by
 have a:(256:Int)^1=256:=by decide
 have b:(256:Int)^0=1:=by decide
 simp only [byN,List.cons_append,List.nil_append,QcX,a,b]
 repeat' split
 all_goals first|rfl|(exfalso;omega)
theorem Qsb(s t:Tu)(hs:TuR s)(ht:TuR t):QcX (tb s) (tb t)=YQ s t:=by
 have e: ∀t:Tu,tb t=byN t.a 4++(byN t.b 4++(byN t.c 2++(byN t.d 2++ []))):=fun t=>rfl;rw [e s,e t,QxI _ _ _ _ hs.1 ht.1,QxI _ _ _ _ hs.2.1 ht.2.1,QxJ _ _ _ _ hs.2.2.1 ht.2.2.1,QxJ _ _ _ _ hs.2.2.2 ht.2.2.2];have f: ∀(x y r:Int),(if cmpI x y=0 then r else cmpI x y)=if x<y then-1 else if y<x then 1 else r:=by
  intro x y r;unfold cmpI
  by_cases g:x<y
  ·simp [g]
  ·by_cases h:y<x
   ·simp [g,h]
   ·simp [g,h]
 show _=(if cmpI s.a t.a=0 then(if cmpI s.b t.b=0 then(if cmpI s.c t.c=0 then(if cmpI s.d t.d=0 then 0 else cmpI s.d t.d)else cmpI s.c t.c)else cmpI s.b t.b)else cmpI s.a t.a);rw [f,f,f,f];rfl
def QxK(ops:Array Oper):Prop:=Region.noSelect ops=true∧JW ops 6 [0,2] []=true∧Region.ready .any ops (don 6 [2,0])= [1]∧Region.ready .any ops (don 6 [1,2,0])= [3]∧JW ops 6 [4,5] [3,1,2,0]=true∧Region.ready .any ops (don 6 [5,4,3,1,2,0])= []
theorem QAd:QxK ((Tryz.f122.body.bind (Qh 1)).getD #[]):=⟨Kr,Kr,Kr,Kr,Kr,Kr⟩
theorem Qlo{t:Tu}(h:YM w B t)(hC: ¬C B)(hx:ρ x= .pointer (some ⟨B,0,none⟩)):
  ∀w',Mv C w w'→(execOp ρ ⟨dst,.load 64 x,ty,pos,after,g⟩).run Tryz.prog w'= .ok (.value (tu t.a t.b t.c t.d)) w':=by
 intro w' f;obtain⟨i,j,k,l⟩:=h.cells;have e:=Qf (f.same B h.2 hC);have m:w'.cell? ⟨B,0,none⟩=some (.int .u32 t.a):=by rw [Qa,e,←Qa];exact i
 have n:w'.cell? ⟨B,1,none⟩=some (.int .u32 t.b):=by rw [Qa,e,←Qa];exact j
 have o:w'.cell? ⟨B,2,none⟩=some (.int .u16 t.c):=by rw [Qa,e,←Qa];exact k
 have p:w'.cell? ⟨B,3,none⟩=some (.int .u16 t.d):=by rw [Qa,e,←Qa];exact l
 simp only [execOp,hx];go_simp
theorem QoI(xs ys:List Int)(k:Nat)(hx:k<xs.length)(hy:k<ys.length):QcX (xs.drop k) (ys.drop k)=if xs[k]<ys[k]then-1 else if ys[k]<xs[k]then 1 else QcX (xs.drop (k+1)) (ys.drop (k+1)):=by
 rw [List.drop_eq_getElem_cons hx,List.drop_eq_getElem_cons hy];rfl
theorem Qen(s t:Tu)(hs:TuR s)(ht:TuR t)(w:World):
  Cr 122 #[tu s.a s.b s.c s.d,tu t.a t.b t.c t.d] w (.int .i64 (YQ s t)):=by
 rw [←Qsb s t hs ht];have HS:=Xh hs;have HT:=Xh ht;clear hs ht
 go_enter Tryz.func122,Tryz.ntmps122
 go_upto_region 1 with(fail)
 obtain⟨h,n⟩: ∃h,(w.alloc (.cells #[.int .u32 s.a,.int .u32 s.b,.int .u16 s.c,.int .u16 s.d] 64)).alloc (.cells #[.int .u32 t.a,.int .u32 t.b,.int .u16 t.c,.int .u16 t.d] 64)=h:=⟨_,rfl⟩;have Y:Ext w h:=by rw [←n];exact Ext.al Ea _
 have a3:h.heap.size=w.heap.size+2:=by rw [←n];simp
 have Z:YM h w.heap.size s:=by rw [←n];unfold YM;simp [go_sem,Lt];try omega
 have tt:YM h (w.heap.size+1) t:=by rw [←n];unfold YM;simp [go_sem,Lt];try omega
 rw [n];clear n;refine QO (fun k=>h.heap.size≤k) Kr ?_;obtain⟨r,M⟩: ∃r,h.drew=r:=⟨_,rfl⟩;have B:Ext h r:=by rw [←M];exact Ext.dr (Ext.rf _)
 rw [M];clear M;refine Qll (N:=6) (R:=QxK) (E:=((Tryz.f122.body.bind (Qh 1)).getD #[])) Kr QAd Kr fun hS=> ?_;have g:=hS.2.1;refine ZY (N:=6) (k:=0) (v:=(tu s.a s.b s.c s.d)) hS.1 g rfl Kr (Qlo (Z.ext B) Om Kr) fun g=> ?_;refine ZY (N:=6) (k:=2) (v:=(tu t.a t.b t.c t.d)) hS.1 g rfl Kr (Qlo (tt.ext B) Om Kr) fun g=> ?_;refine JK hS.2.2.1 (QfO (R:=fun v w'=>OB w' r.heap.size v (tb s)) rfl rfl Kr (Qb0 s HS.out r) fun v1 W2 g2 T=> ?_);refine JK hS.2.2.2.1 (QfO (R:=fun v w'=>OB w' W2.heap.size v (tb t)) rfl rfl Kr (Qb0 t HT.out W2) fun v2 W3 g3 V=> ?_);have g:=hS.2.2.2.2.1;refine ZY (N:=6) (k:=4) (v:=v1) hS.1 g rfl Kr (fun _ _=>by kernel_rfl) fun g=> ?_;refine ZY (N:=6) (k:=5) (v:=v2) hS.1 g rfl Kr (fun _ _=>by kernel_rfl) fun g=> ?_;refine doneK hS.2.2.2.2.2 ?_;clear hS g;go_simp;have E3:=Y.tr (B.tr (g2.tr g3));obtain⟨p1,c1,rfl,O⟩:=(T.ext g3).sl (by rw [Qek];omega);obtain⟨p2,c2,rfl,P⟩:=V.sl (by rw [Qek];omega);obtain⟨i,G⟩: ∃i,tb s=i:=⟨_,rfl⟩;obtain⟨j,H⟩: ∃j,tb t=j:=⟨_,rfl⟩;have lx:i.length=12:=by rw [←G];rfl
 have ly:j.length=12:=by rw [←H];rfl
 rw [G]at O⊢;rw [H]at P⊢;rw [lx,ly];have K:=Xh G;have L:=Xh H;clear T V Z tt G H Y B g2 g3;go_wp2
 go_loopw [7] (fun a wr=> ∃k:Nat,k≤12∧a= .int .i64 k∧QcX i j=QcX (i.drop k) (j.drop k)∧Ext w wr∧SlB wr p1 i∧SlB wr p2 j) (fun a _=>12- (intOf a).toNat)
 case atStart=>exact⟨0,Om,rfl,rfl,E3,O,P⟩
 case round=>
  clear O P E3;obtain⟨k,hk,rfl,I,J,Q,S⟩:=hrel
  by_cases a4:k<12
  ·have a0:(k:Int)<12:=by omega
   have H1:=Xh Q;have H2:=Xh S;obtain⟨u,T,rfl,l1,U⟩:=Q k Om;obtain⟨z,V,rfl,l2,W⟩:=S k Om;have f:=I.trans (QoI i j k Om Om);obtain⟨x,hx⟩: ∃x,i[k]'Om=x:=⟨_,rfl⟩;obtain⟨y,hy⟩: ∃y,j[k]'Om=y:=⟨_,rfl⟩;rw [hx]at U f;rw [hy]at W f;have C:Lt u wr:=l1;have D:Lt z wr:=l2;clear Q S l1 l2 hx hy I
   by_cases q:x<y
   ·rw [if_pos q]at f;have m:=Xh f;clear f;have a1:decide (x<y)=true:=decide_eq_true q
    go_upto_region 5 with(fail)
    refine Qk Kr Kr ?_;(repeat(go_big_quiet_step (fail)));refine wpQuiet_nil ?_;intro d
    have e:=Qt d;go_wp2;exact bodyPost_ret (v:= .int .i64 (-1)) (by simp [results,Tryz.results122,go_sem]) rfl ⟨by rw [K.out,L.out,m.out],J.tr e⟩
   ·rw [if_neg q]at f;have a1:decide (x<y)=false:=decide_eq_false q;have HX:=Xh q
    by_cases F:y<x
    ·rw [if_pos F]at f;have m:=Xh f;clear f;have a2:decide (y<x)=true:=decide_eq_true F
     go_upto_region 5 with(fail)
     refine Qk Kr Kr ?_;(repeat(go_big_quiet_step (fail)));refine wpQuiet_nil ?_;intro d
     have e:=Qt d;obtain⟨l,A⟩: ∃l,later d=l:=⟨_,rfl⟩;rw [A]at e⊢;clear A;have q1:=(e.cell (p:=⟨u,_,none⟩) C).trans U;have q2:=(e.cell (p:=⟨z,_,none⟩) D).trans W;have K1:Lt u l:=Xl C e.size;have K2:Lt z l:=Xl D e.size
     go_upto_region 7 with(fail)
     refine Qk Kr Kr ?_;(repeat(go_big_quiet_step (fail)));refine wpQuiet_nil ?_;intro X
     have o:=Qt X;go_wp2;exact bodyPost_ret (v:= .int .i64 1) (by simp [results,Tryz.results122,go_sem]) rfl ⟨by rw [K.out,L.out,m.out],(J.tr e).tr o⟩
    ·rw [if_neg F]at f;have m:=Xh f;clear f;have a2:decide (y<x)=false:=decide_eq_false F
     go_upto_region 5 with(fail)
     refine Qk Kr Kr ?_;(repeat(go_big_quiet_step (fail)));refine wpQuiet_nil ?_;intro d
     have e:=Qt d;obtain⟨l,A⟩: ∃l,later d=l:=⟨_,rfl⟩;rw [A]at e⊢;clear A;have q1:=(e.cell (p:=⟨u,_,none⟩) C).trans U;have q2:=(e.cell (p:=⟨z,_,none⟩) D).trans W;have K1:Lt u l:=Xl C e.size;have K2:Lt z l:=Xl D e.size
     go_upto_region 7 with(fail)
     refine Qk Kr Kr ?_;(repeat(go_big_quiet_step (fail)));refine wpQuiet_nil ?_;intro X
     have o:=Qt X;go_wp2
     go_roundw
     case rel=>exact⟨k+1,Om,by go_num,m.out,(J.tr e).tr o,(H1.out.ext e).ext o,(H2.out.ext e).ext o⟩
     case measure=>simp [intOf];omega
  ·have a0: ¬((k:Int)<12):=by omega
   have m:=Xh (show QcX i j=0 by rw [I,List.drop_of_length_le Om];rfl);clear I;go_wp2;exact bodyPost_ret (v:= .int .i64 0) (by simp [results,Tryz.results122,go_sem]) rfl ⟨by rw [K.out,L.out,m.out],J⟩
def QtS(xs:List Co)(k:Nat):Prop:= ∃x,xs[k]?=some x∧(ZU x=true∨ ∃m y,k=m+1∧xs[m]?=some y∧0≤YQ y.t x.t)
def QcY(xs:List Co)(k:Nat):Prop:= ∀j,j<k→ ¬QtS xs j
theorem ZK(xs:List Co):QJ xs=true↔xs.length≤32∧QcY xs xs.length:=by
 unfold QJ;simp only [Bool.and_eq_true,decide_eq_true_eq,Bool.not_eq_true',and_assoc];refine and_congr_right fun _=>⟨fun⟨h1,h2⟩ j b ⟨x,a,hb⟩=> ?_,fun h=>⟨?_,?_⟩⟩
 ·rcases hb with hb|⟨m,y,rfl,hy,hc⟩
  ·rw [List.any_eq_false]at h1;exact h1 x (List.mem_of_getElem? a) hb
  ·have c:=QbV xs m Om;have:=List.all_eq_true.1 h2 _ (List.mem_of_getElem? c);unfold QdE at this;rw [List.getElem?_eq_getElem b]at a;rw [List.getElem?_eq_getElem Om]at hy;have g:=Option.some.inj a;have i:=Option.some.inj hy;rw [←g,←i]at hc;have:=of_decide_eq_true this;simp only at this;omega
 ·rw [List.any_eq_false];intro x a k;obtain⟨j,b,l⟩:=List.getElem_of_mem a;exact h j b ⟨x,by rw [List.getElem?_eq_getElem b,l],.inl k⟩
 ·rw [List.all_eq_true];intro p c;obtain⟨m,f,n⟩:=List.getElem_of_mem c;have d:m+1<xs.length:=by rw [Qef]at f;omega
  have e:=QbV xs m d;rw [List.getElem?_eq_getElem f,n]at e
  cases e
  unfold QdE;refine decide_eq_true (Int.not_le.1 fun hc=>h (m+1) d ⟨xs[m+1],List.getElem?_eq_getElem d,.inr ⟨m,xs[m],rfl,List.getElem?_eq_getElem Om,hc⟩⟩)
theorem Qjv{xs:List Co}(hk:k<xs.length)(h:QtS xs k):QJ xs=false:=by
 rw [Bool.eq_false_iff];intro e;exact((ZK xs).1 e).2 k hk h
theorem QoJ{xs:List Co}(hk: ¬k<xs.length)(h:QcY xs k):QJ xs=decide ((xs.length:Int)≤32):=by
 have b:QcY xs xs.length:=fun j hj=>h j Om
 by_cases a:xs.length≤32
 ·rw [(ZK xs).2 ⟨a,b⟩,decide_eq_true Om]
 ·rw [decide_eq_false Om,Bool.eq_false_iff];exact fun e=>a ((ZK xs).1 e).1
theorem QmH{xs:List Co}{x:Co}(hx:xs[k]?=some x)(h:QcY xs k)(hw:ZU x=false)(hc: ∀m y,k=m+1→xs[m]?=some y→YQ y.t x.t<0):QcY xs (k+1):=by
 intro j d
 by_cases c:j<k
 ·exact h j c
 ·obtain rfl:j=k:=by omega
  rintro⟨z,b,a⟩;rw [hx]at b
  cases b
  rcases a with a|⟨m,y,e,hy,hge⟩
  ·rw [hw]at a;cases a
  ·have:=hc m y e hy;omega
open Go.RowKit
open Go.RowKit
@[go_sem] theorem Qyz{x}:(ctv x)[0]?=some (.int .u8 x.ki):=by rw [ZB];rfl
@[go_sem] theorem QyA{x}:(ctv x)[1]?=some (.int .u8 x.of_):=by rw [ZB];rfl
@[go_sem] theorem QyB{x}:(ctv x)[2]?=some (.int .i64 x.ag):=by rw [ZB];rfl
@[go_sem] theorem QyC{x}:(ctv x)[3]?=some (.int .i64 x.bu):=by rw [ZB];rfl
@[go_sem] theorem QyD{x}:(ctv x)[4]?=some (.int .i64 x.ge):=by rw [ZB];rfl
@[go_sem] theorem QyE{x}:(ctv x)[5]?=some (.int .i64 x.pe):=by rw [ZB];rfl
@[go_sem] theorem QyF{x}:(ctv x)[6]?=some (.int .i64 x.ve):=by rw [ZB];rfl
@[go_sem] theorem QyG{x}:(ctv x)[7]?=some (.int .i64 x.sb):=by rw [ZB];rfl
@[go_sem] theorem QyH{x}:(ctv x)[8]?=some (.int .i64 x.st):=by rw [ZB];rfl
@[go_sem] theorem QyI{x}:(ctv x)[9]?=some (.slice x.p x.n x.c):=by rw [ZB];rfl
open Go.RowKit
open Go.RowKit
structure Rw where
 bu:Int
 cu:Int
 pr:Int
 ge:Int
 ti:Int
def Rw.at(x:Rw)(j:Nat):Value:=match j with|0=> .int .i64 x.bu|1=> .int .i64 x.cu|2=> .int .i64 x.pr|3=> .int .i64 x.ge|_=> .int .i64 x.ti
def SlR(w:World)(p:Option Addr)(xs:List Rw):Prop:= ∀k,(h:k<xs.length)→ ∃b off,p=some ⟨b,off,none⟩∧b<w.heap.size∧w.cell? ⟨b,off+k*5,none⟩=some (.int .i64 xs[k].bu)∧w.cell? ⟨b,off+k*5+1,none⟩=some (.int .i64 xs[k].cu)∧w.cell? ⟨b,off+k*5+2,none⟩=some (.int .i64 xs[k].pr)∧w.cell? ⟨b,off+k*5+3,none⟩=some (.int .i64 xs[k].ge)∧w.cell? ⟨b,off+k*5+4,none⟩=some (.int .i64 xs[k].ti)
theorem SlR.ext{w':World}{p:Option Addr}{xs:List Rw}(h:SlR w p xs)(e:Ext w w'):SlR w' p xs:=fun k hk=>by
 obtain⟨b,a,d,c,f,g,i,j,l⟩:=h k hk;exact⟨b,a,d,Xl c e.size,(e.cell (p:=⟨b,a+k*5,none⟩) c).trans f,(e.cell (p:=⟨b,a+k*5+1,none⟩) c).trans g,(e.cell (p:=⟨b,a+k*5+2,none⟩) c).trans i,(e.cell (p:=⟨b,a+k*5+3,none⟩) c).trans j,(e.cell (p:=⟨b,a+k*5+4,none⟩) c).trans l⟩
theorem SlR.nil(w:World)(p:Option Addr):SlR w p []:=fun k hk=>by simp at hk
open Go.RowKit
theorem QA0(a b:Ag)(w:World)(hs:SlC w a.p a.xs)(ht:SlC w b.p b.xs)(hl:a.xs.length≤1000)(hm:b.xs.length≤1000):
  Cr 14 #[.agg (agv a),.agg (agv b)] w (.bool (Jl a b)):=by
 have X:=Xh hs;have Y:=Xh ht;clear hs ht
 go_enter Tryz.func14,Tryz.ntmps14
 go_upto_region 1 with(fail)
 obtain⟨f,m⟩: ∃f,(w.alloc (.cells (agv a) 27)).alloc (.cells (agv b) 27)=f:=⟨_,rfl⟩;have O:Ext w f:=by rw [←m];exact Ext.al Ea _
 have q:Qc f w.heap.size=agv a:=by rw [←m];simp [go_sem]
 have r:Qc f (w.heap.size+1)=agv b:=by rw [←m];simp [go_sem]
 have D:Lt (w.heap.size+1) f:=by rw [←m];simp [go_sem,Lt]
 have E:Lt w.heap.size f:=by rw [←m];simp [go_sem,Lt]
 rw [m];clear m;obtain⟨o,I⟩: ∃b,w.heap.size=b:=⟨_,rfl⟩;obtain⟨z,N⟩: ∃b,o+1=b:=⟨_,rfl⟩;rw [I]at q E;rw [I,N]at r D;rw [I,N];clear I N;have Z:f.cell? ⟨o,0,none⟩=some (.int .i64 a.id):=by rw [Qa,q,Jw]
 have c1:f.cell? ⟨o,1,none⟩=some (.int .i64 a.idle):=by rw [Qa,q,Jb]
 have d0:f.cell? ⟨z,0,none⟩=some (.int .i64 b.id):=by rw [Qa,r,Jw]
 have d1:f.cell? ⟨z,1,none⟩=some (.int .i64 b.idle):=by rw [Qa,r,Jb]
 have F:f.cell? ⟨o,66,none⟩=some (.slice a.p a.xs.length a.c):=by rw [Qa,q,Qu]
 have G:f.cell? ⟨z,66,none⟩=some (.slice b.p b.xs.length b.c):=by rw [Qa,r,Qu]
 have n:=Xh (And.intro (And.intro F E) (And.intro G D));have j:=Xh O
 cases t:(a.id==b.id)
 ·have P:(a.id !=b.id)=true:=by rw [bne,t];rfl
  have g:=Xh (show Jl a b=false by unfold Jl;rw [t];rfl);go_wp2;go_ret;exact⟨Qm g.out.symm,j.out⟩
 have P:(a.id !=b.id)=false:=by rw [bne,t];rfl
 cases u:(a.idle==b.idle)
 ·have Q:(a.idle !=b.idle)=true:=by rw [bne,u];rfl
  have g:=Xh (show Jl a b=false by unfold Jl;rw [u];simp);go_wp2;go_ret;exact⟨Qm g.out.symm,j.out⟩
 have Q:(a.idle !=b.idle)=false:=by rw [bne,u];rfl
 cases M:Qne a.md b.md
 ·have g:=Xh (show Jl a b=false by unfold Jl;rw [M];simp);go_wp2;go_ret;exact⟨Qm g.out.symm,j.out⟩
 have g:=Xh (show Jl a b=decide (a.xs=b.xs)by unfold Jl;rw [t,u,M];rfl)
 by_cases l:a.xs.length=b.xs.length
 ·have R:((a.xs.length:Int) !=b.xs.length)=false:=by simp [l]
  have a0:=Xh l;clear l O;go_wp2;clear q r Z c1 d0 d1 F G t u P Q M R E D
  go_loopw [5] (fun i wr=> ∃k:Nat,k≤a.xs.length∧i= .int .i64 k∧a.xs.take k=b.xs.take k∧Ext f wr) (fun i _=>a.xs.length- (intOf i).toNat)
  case atStart=>exact⟨0,Nat.zero_le _,rfl,rfl,Ext.rf _⟩
  case round=>
   obtain⟨k,hk,rfl,A,h⟩:=hrel;have l:=a0.out;have F:=(h.cell (p:=⟨o,66,none⟩) n.out.1.2).trans n.out.1.1;have G:=(h.cell (p:=⟨z,66,none⟩) n.out.2.2).trans n.out.2.1;have E:Lt o wr:=Xl n.out.1.2 h.size;have D:Lt z wr:=Xl n.out.2.2 h.size
   by_cases S:k<a.xs.length
   ·have a1:(k:Int)<a.xs.length:=by omega
    have a5:(k:Int)<b.xs.length:=by omega
    obtain⟨p1,o1,T,U,q0,q1,q2,q3,q4,q5⟩:=(X.out.ext (j.out.tr h)) k S;obtain⟨p2,o2,V,W,r0,r1,r2,r3,r4,r5⟩:=(Y.out.ext (j.out.tr h)) k Om;have L1:Lt p1 wr:=U;have L2:Lt p2 wr:=W;rw [T]at F;rw [V]at G;have a2:k<b.xs.length:=by omega
    obtain⟨x,B⟩: ∃x,a.xs[k]=x:=⟨_,rfl⟩;obtain⟨y,C⟩: ∃y,b.xs[k]=y:=⟨_,rfl⟩;have J:a.xs.take (k+1)=a.xs.take k++ [x]:=by rw [List.take_succ_eq_append_getElem S,B]
    have K:b.xs.take (k+1)=b.xs.take k++ [y]:=by rw [List.take_succ_eq_append_getElem a2,C]
    rw [B]at q0 q1 q2 q3 q4 q5;rw [C]at r0 r1 r2 r3 r4 r5;clear T V l U W
    by_cases H:x=y
    ·subst H;have a3:=Xh (show a.xs.take (k+1)=b.xs.take (k+1)by rw [J,K,A]);clear A J K B C
     go_upto_region 6 with(fail)
     refine Qk Kr Kr ?_;(repeat(go_big_quiet_step (fail)));refine wpQuiet_nil ?_;intro d
     have L:=Qt d;go_wp2
     go_roundw
     case rel=>exact⟨k+1,Om,by go_num,a3.out,h.tr L⟩
     case measure=>simp [intOf];omega
    ·have a4:=Xh H
     have s:=Xh (show Jl a b=false by
      rw [g.out];refine decide_eq_false fun e=>H ?_;rw [←B,←C]
      exact List.getElem_of_eq e _)
     clear A J K B C H
     go_upto_region 6 with(fail)
     refine Qk Kr Kr ?_;(repeat(go_big_quiet_step (fail)))
     refine QdG (v:= .bool true) Kr (QxD a4.out Kr Kr) ?_;refine wpQuiet_nil ?_;intro d
     have L:=Qt d;go_simp;go_wp2;exact bodyPost_ret (v:= .bool false) (by simp [results,Tryz.results14,go_sem]) rfl ⟨by rw [s.out],j.out.tr (h.tr L)⟩
   ·have a1: ¬((k:Int)<a.xs.length):=by omega
    have s:=Xh (show Jl a b=true by
     rw [g.out];refine decide_eq_true ?_
     rwa [List.take_of_length_le Om,List.take_of_length_le Om]at A)
    clear A;go_wp2;exact bodyPost_ret (v:= .bool true) (by simp [results,Tryz.results14,go_sem]) rfl ⟨by rw [s.out],j.out.tr h⟩
 ·have R:((a.xs.length:Int) !=b.xs.length)=true:=by simp;omega
  have s:=Xh (show Jl a b=false by rw [g.out];exact decide_eq_false fun e=>l (by rw [e]));clear l;go_wp2;exact bodyPost_ret (v:= .bool false) (by simp [results,Tryz.results14,go_sem]) rfl ⟨by rw [s.out],j.out⟩
open Go.RowKit
theorem QBo(a:Nat→Md):Qne a a=true:=by unfold Qne Qde;simp
theorem Qqo(a b:Md)(w:World):(Op.equalIn 10000 23 (.agg (mdv a)) (.agg (mdv b))).run Tryz.prog w= .ok (Qde a b) w:=by
 rw [YH,YH];unfold Qde;go_simp
 by_cases c:a.kind=b.kind<;>by_cases d:a.peer=b.peer<;>by_cases e:a.gen=b.gen<;>by_cases f:a.ret=b.ret<;>simp [*]
@[go_sem ↓ high] theorem QAm(a b:Md)(w:World):(binOp .neq 23 (.agg (mdv a)) (.agg (mdv b))).run Tryz.prog w= .ok (.bool (!Qde a b)) w:=by
 rw [run_neq_struct,Qqo];rfl
@[go_sem] theorem QyL{a3 a4 a5 a6 a7 a8 a9 a10 a11 a12 a13 a14 a15 a16 a17:Value}{o:Nat}:Fits o m #[a0,a1,a2,a3,a4,a5,a6,a7,a8,a9,a10,a11,a12,a13,a14,a15,a16,a17]=(o+m≤18):=by unfold Fits;rfl
@[go_sem] theorem QvR{a3 a4 a5 a6 a7 a8 a9 a10 a11 a12 a13 a14 a15 a16 a17:Value}:Qn #[a0,a1,a2,a3,a4,a5,a6,a7,a8,a9,a10,a11,a12,a13,a14,a15,a16,a17] 18=True:=by unfold Qn;exact eq_true rfl
@[go_sem] theorem QyM{a3 a4 a5 a6 a7 a8 a9 a10 a11 a12 a13 a14 a15 a16 a17:Value}:QK #[a0,a1,a2,a3,a4,a5,a6,a7,a8,a9,a10,a11,a12,a13,a14,a15,a16,a17]=(a0.oneCell'=true∧a1.oneCell'=true∧a2.oneCell'=true∧a3.oneCell'=true∧a4.oneCell'=true∧a5.oneCell'=true∧a6.oneCell'=true∧a7.oneCell'=true∧a8.oneCell'=true∧a9.oneCell'=true∧a10.oneCell'=true∧a11.oneCell'=true∧a12.oneCell'=true∧a13.oneCell'=true∧a14.oneCell'=true∧a15.oneCell'=true∧a16.oneCell'=true∧a17.oneCell'=true):=by
 unfold QK;simp [and_assoc]
@[go_sem ↓ high] theorem Qxg{a3 a4 a5 a6 a7 a8 a9 a10 a11 a12 a13 a14 a15 a16 a17:Value}:(Value.agg #[a0,a1,a2,a3,a4,a5,a6,a7,a8,a9,a10,a11,a12,a13,a14,a15,a16,a17]).cells=#[a0,a1,a2,a3,a4,a5,a6,a7,a8,a9,a10,a11,a12,a13,a14,a15,a16,a17]:=QF _
@[go_sem] theorem QyN{a3 a4 a5 a6 a7 a8 a9 a10 a11 a12 a13 a14 a15 a16 a17:Value}:QB #[a0,a1,a2,a3,a4,a5,a6,a7,a8,a9,a10,a11,a12,a13,a14,a15,a16,a17] 0 18=#[a0,a1,a2,a3,a4,a5,a6,a7,a8,a9,a10,a11,a12,a13,a14,a15,a16,a17]:=Q9 _ _ rfl
theorem Qme:(Tryz.prog.info? 98).map (·.size)=some 18:=Kr
theorem QnA{o:Nat}(h:o+18≤(Qc w b).size):(Instr.loadAt 98 (.pointer (some ⟨b,o,none⟩))).run Tryz.prog w= .ok (.agg ((Qc w b).extract o (o+18))) w:=by
 have:=run_loadAt_mid w b o 98 ((Qc w b).extract o (o+18)).toList _ (QC w b o (o+18)) Tryz.underlying98 rfl (by rw [Qme];simp;omega)
 rwa [Array.toArray_toList]at this
@[go_sem ↓ high] theorem QcI(ρ:Operand→Value)(dst:Option Tmp)(x:Operand)(ty:TypeId)(pos:String)(after:Array Edge)(g:Option (Nat×Bool))(w:World)
  (hx:ρ x= .pointer (some ⟨Qb (ρ x),Qd (ρ x),none⟩))(h:Fits (Qd (ρ x)) 18 (Qc w (Qb (ρ x)))):
  (execOp ρ ⟨dst,.load 98 x,ty,pos,after,g⟩).run Tryz.prog w= .ok (.value (.agg (QB (Qc w (Qb (ρ x))) (Qd (ρ x)) 18))) w:=by
 unfold Fits at h;generalize a:Qb (ρ x)=B at*;generalize b:Qd (ρ x)=O at*;simp only [execOp,hx,Sem.run_bind,QnA h,Result.andThen_ok,Sem.run_pure,QB]
@[go_sem ↓ high] theorem Quq(w:World)
  (hx:ρ x= .pointer (some ⟨Qb (ρ x),Qd (ρ x),none⟩))(h:Fits (Qd (ρ x)) 18 (Qc w (Qb (ρ x)))):
  (Oper.semAt l ρ ⟨dst,.load 98 x,ty,pos,after,g⟩).run Tryz.prog w= .ok (.value (.agg (QB (Qc w (Qb (ρ x))) (Qd (ρ x)) 18))) w:=by rw [Oper.semAt_eq _ _ _ (fun c h=>by cases h)];exact QcI ρ dst x ty pos after g w hx h
@[go_sem ↓ high] theorem QfA(ρ:Operand→Value)(dst:Option Tmp)(x y:Operand)(ty:TypeId)(pos:String)(after:Array Edge)(g:Option (Nat×Bool))(w:World)
  (hx:ρ x= .pointer (some ⟨Qb (ρ x),Qd (ρ x),none⟩))(hy:ρ y= .agg (ρ y).cells)(hs:Qn (ρ y).cells 18)(h:Fits (Qd (ρ x)) 18 (Qc w (Qb (ρ x))))(hz:Qs w (Qb (ρ x))=(0,0))(h1:QK (ρ y).cells):
  (execOp ρ ⟨dst,.store 98 x y,ty,pos,after,g⟩).run Tryz.prog w= .ok .skip (Qe w (Qb (ρ x)) (Qd (ρ x)) (ρ y).cells):=by
 unfold Fits at h;unfold Qn at hs;generalize b:Qb (ρ x)=B at*;generalize c:Qd (ρ x)=O at*;generalize d:(ρ y).cells=C at*;have a:(Instr.storeAt 98 (.pointer (some ⟨B,O,none⟩)) (.agg C)).run Tryz.prog w= .ok () (Qe w B O C):=
  run_storeAt_mid w B O 98 C (fun j hj=>⟨by rw [Qa,Array.getElem?_eq_getElem Om];rfl,Ql hz _⟩) (by rw [Qme,hs]) h1
 simp only [execOp,hx,hy,Sem.run_bind,a,Result.andThen_ok,Sem.run_pure]
@[go_sem ↓ high] theorem QsY(w:World)
  (hx:ρ x= .pointer (some ⟨Qb (ρ x),Qd (ρ x),none⟩))(hy:ρ y= .agg (ρ y).cells)(hs:Qn (ρ y).cells 18)(h:Fits (Qd (ρ x)) 18 (Qc w (Qb (ρ x))))(hz:Qs w (Qb (ρ x))=(0,0))(h1:QK (ρ y).cells):
  (Oper.semAt l ρ ⟨dst,.store 98 x y,ty,pos,after,g⟩).run Tryz.prog w= .ok .skip (Qe w (Qb (ρ x)) (Qd (ρ x)) (ρ y).cells):=by rw [Oper.semAt_eq _ _ _ (fun c h=>by cases h)];exact QfA ρ dst x y ty pos after g w hx hy hs h hz h1
theorem Qhn:(Tryz.prog.info? 42).map (·.size)=some 3:=Kr
theorem QnB{o:Nat}(h:o+3≤(Qc w b).size):(Instr.loadAt 42 (.pointer (some ⟨b,o,none⟩))).run Tryz.prog w= .ok (.agg ((Qc w b).extract o (o+3))) w:=by
 have:=run_loadAt_mid w b o 42 ((Qc w b).extract o (o+3)).toList _ (QC w b o (o+3)) Tryz.underlying42 rfl (by rw [Qhn];simp;omega)
 rwa [Array.toArray_toList]at this
theorem QkJ{o:Nat}(h:o+3≤(Qc w b).size):(loadVar 42 ⟨b,o,none⟩).run Tryz.prog w= .ok (.agg ((Qc w b).extract o (o+3))) w:=by
 have:=run_loadVar_mid w b o 42 ((Qc w b).extract o (o+3)).toList _ (QC w b o (o+3)) Tryz.underlying42 rfl (by rw [Qhn];simp;omega)
 rwa [Array.toArray_toList]at this
@[go_sem ↓ high] theorem QcJ(ρ:Operand→Value)(dst:Option Tmp)(x:Operand)(ty:TypeId)(pos:String)(after:Array Edge)(g:Option (Nat×Bool))(w:World)
  (hx:ρ x= .pointer (some ⟨Qb (ρ x),Qd (ρ x),none⟩))(h:Fits (Qd (ρ x)) 3 (Qc w (Qb (ρ x)))):
  (execOp ρ ⟨dst,.load 42 x,ty,pos,after,g⟩).run Tryz.prog w= .ok (.value (.agg (QB (Qc w (Qb (ρ x))) (Qd (ρ x)) 3))) w:=by
 unfold Fits at h;generalize a:Qb (ρ x)=B at*;generalize b:Qd (ρ x)=O at*;simp only [execOp,hx,Sem.run_bind,QnB h,Result.andThen_ok,Sem.run_pure,QB]
@[go_sem ↓ high] theorem Qur(w:World)
  (hx:ρ x= .pointer (some ⟨Qb (ρ x),Qd (ρ x),none⟩))(h:Fits (Qd (ρ x)) 3 (Qc w (Qb (ρ x)))):
  (Oper.semAt l ρ ⟨dst,.load 42 x,ty,pos,after,g⟩).run Tryz.prog w= .ok (.value (.agg (QB (Qc w (Qb (ρ x))) (Qd (ρ x)) 3))) w:=by rw [Oper.semAt_eq _ _ _ (fun c h=>by cases h)];exact QcJ ρ dst x ty pos after g w hx h
@[go_sem ↓ high] theorem QbP(ρ:Operand→Value)(dst:Option Tmp)(x y:Operand)(ty:TypeId)(pos:String)(after:Array Edge)(g:Option (Nat×Bool))(w:World)
  (hx:ρ x= .pointer (some ⟨Qb (ρ x),Qd (ρ x),none⟩))(hy:ρ y= .agg (ρ y).cells)(hs:Qn (ρ y).cells 3)(h:Fits (Qd (ρ x)) 3 (Qc w (Qb (ρ x))))(hz:Qs w (Qb (ρ x))=(0,0))(h1:QK (ρ y).cells):
  (execOp ρ ⟨dst,.store 42 x y,ty,pos,after,g⟩).run Tryz.prog w= .ok .skip (Qe w (Qb (ρ x)) (Qd (ρ x)) (ρ y).cells):=by
 unfold Fits at h;unfold Qn at hs;generalize b:Qb (ρ x)=B at*;generalize c:Qd (ρ x)=O at*;generalize d:(ρ y).cells=C at*;have a:(Instr.storeAt 42 (.pointer (some ⟨B,O,none⟩)) (.agg C)).run Tryz.prog w= .ok () (Qe w B O C):=
  run_storeAt_mid w B O 42 C (fun j hj=>⟨by rw [Qa,Array.getElem?_eq_getElem Om];rfl,Ql hz _⟩) (by rw [Qhn,hs]) h1
 simp only [execOp,hx,hy,Sem.run_bind,a,Result.andThen_ok,Sem.run_pure]
@[go_sem ↓ high] theorem QsZ(w:World)
  (hx:ρ x= .pointer (some ⟨Qb (ρ x),Qd (ρ x),none⟩))(hy:ρ y= .agg (ρ y).cells)(hs:Qn (ρ y).cells 3)(h:Fits (Qd (ρ x)) 3 (Qc w (Qb (ρ x))))(hz:Qs w (Qb (ρ x))=(0,0))(h1:QK (ρ y).cells):
  (Oper.semAt l ρ ⟨dst,.store 42 x y,ty,pos,after,g⟩).run Tryz.prog w= .ok .skip (Qe w (Qb (ρ x)) (Qd (ρ x)) (ρ y).cells):=by rw [Oper.semAt_eq _ _ _ (fun c h=>by cases h)];exact QbP ρ dst x y ty pos after g w hx hy hs h hz h1
@[go_sem] theorem QyO{o:Nat}:Fits o m #[a0,a1,a2]=(o+m≤3):=by unfold Fits;rfl
@[go_sem] theorem QvS:Qn #[a0,a1,a2] 3=True:=by unfold Qn;exact eq_true rfl
@[go_sem] theorem QyP:QK #[a0,a1,a2]=(a0.oneCell'=true∧a1.oneCell'=true∧a2.oneCell'=true):=by
 unfold QK;simp [and_assoc]
@[go_sem ↓ high] theorem Qxh:(Value.agg #[a0,a1,a2]).cells=#[a0,a1,a2]:=QF _
@[go_sem] theorem QyQ:QB #[a0,a1,a2] 0 3=#[a0,a1,a2]:=rfl
theorem Yq(hs:(Qc w B).size=3)(hz:Qs w B=(0,0))(hcs:cs.size=3)(ho:QK cs)
  (hx:ρ x= .pointer (some ⟨B,0,none⟩))(hy:ρ y= .agg cs):(execOp ρ ⟨dst,.store 42 x y,ty,pos,after,g⟩).run Tryz.prog w= .ok .skip (Qe w B 0 cs):=by
 have e:=QbP ρ dst x y ty pos after g w (by rw [hx];rfl) (by rw [hy];rfl) (by rw [hy];exact hcs) (by rw [hx];show Fits 0 3 (Qc w B);unfold Fits;omega) (by rw [hx];exact hz) (by rw [hy];exact ho);rw [e,hx,hy];rfl
theorem Qho:(Tryz.prog.info? 68).map (·.size)=some 6:=Kr
theorem QnC{o:Nat}(h:o+6≤(Qc w b).size):(Instr.loadAt 68 (.pointer (some ⟨b,o,none⟩))).run Tryz.prog w= .ok (.agg ((Qc w b).extract o (o+6))) w:=by
 have:=run_loadAt_mid w b o 68 ((Qc w b).extract o (o+6)).toList _ (QC w b o (o+6)) Tryz.underlying68 rfl (by rw [Qho];simp;omega)
 rwa [Array.toArray_toList]at this
theorem QkK{o:Nat}(h:o+6≤(Qc w b).size):(loadVar 68 ⟨b,o,none⟩).run Tryz.prog w= .ok (.agg ((Qc w b).extract o (o+6))) w:=by
 have:=run_loadVar_mid w b o 68 ((Qc w b).extract o (o+6)).toList _ (QC w b o (o+6)) Tryz.underlying68 rfl (by rw [Qho];simp;omega)
 rwa [Array.toArray_toList]at this
@[go_sem ↓ high] theorem Qhp(ρ:Operand→Value)(dst:Option Tmp)(x:Operand)(ty:TypeId)(pos:String)(after:Array Edge)(g:Option (Nat×Bool))(w:World)
  (hx:ρ x= .pointer (some ⟨Qb (ρ x),Qd (ρ x),none⟩))(h:Fits (Qd (ρ x)) 6 (Qc w (Qb (ρ x)))):
  (execOp ρ ⟨dst,.load 68 x,ty,pos,after,g⟩).run Tryz.prog w= .ok (.value (.agg (QB (Qc w (Qb (ρ x))) (Qd (ρ x)) 6))) w:=by
 unfold Fits at h;generalize a:Qb (ρ x)=B at*;generalize b:Qd (ρ x)=O at*;simp only [execOp,hx,Sem.run_bind,QnC h,Result.andThen_ok,Sem.run_pure,QB]
@[go_sem ↓ high] theorem Qus(w:World)
  (hx:ρ x= .pointer (some ⟨Qb (ρ x),Qd (ρ x),none⟩))(h:Fits (Qd (ρ x)) 6 (Qc w (Qb (ρ x)))):
  (Oper.semAt l ρ ⟨dst,.load 68 x,ty,pos,after,g⟩).run Tryz.prog w= .ok (.value (.agg (QB (Qc w (Qb (ρ x))) (Qd (ρ x)) 6))) w:=by rw [Oper.semAt_eq _ _ _ (fun c h=>by cases h)];exact Qhp ρ dst x ty pos after g w hx h
@[go_sem ↓ high] theorem QbQ(ρ:Operand→Value)(dst:Option Tmp)(x y:Operand)(ty:TypeId)(pos:String)(after:Array Edge)(g:Option (Nat×Bool))(w:World)
  (hx:ρ x= .pointer (some ⟨Qb (ρ x),Qd (ρ x),none⟩))(hy:ρ y= .agg (ρ y).cells)(hs:Qn (ρ y).cells 6)(h:Fits (Qd (ρ x)) 6 (Qc w (Qb (ρ x))))(hz:Qs w (Qb (ρ x))=(0,0))(h1:QK (ρ y).cells):
  (execOp ρ ⟨dst,.store 68 x y,ty,pos,after,g⟩).run Tryz.prog w= .ok .skip (Qe w (Qb (ρ x)) (Qd (ρ x)) (ρ y).cells):=by
 unfold Fits at h;unfold Qn at hs;generalize b:Qb (ρ x)=B at*;generalize c:Qd (ρ x)=O at*;generalize d:(ρ y).cells=C at*;have a:(Instr.storeAt 68 (.pointer (some ⟨B,O,none⟩)) (.agg C)).run Tryz.prog w= .ok () (Qe w B O C):=
  run_storeAt_mid w B O 68 C (fun j hj=>⟨by rw [Qa,Array.getElem?_eq_getElem Om];rfl,Ql hz _⟩) (by rw [Qho,hs]) h1
 simp only [execOp,hx,hy,Sem.run_bind,a,Result.andThen_ok,Sem.run_pure]
@[go_sem ↓ high] theorem Qs0(w:World)
  (hx:ρ x= .pointer (some ⟨Qb (ρ x),Qd (ρ x),none⟩))(hy:ρ y= .agg (ρ y).cells)(hs:Qn (ρ y).cells 6)(h:Fits (Qd (ρ x)) 6 (Qc w (Qb (ρ x))))(hz:Qs w (Qb (ρ x))=(0,0))(h1:QK (ρ y).cells):
  (Oper.semAt l ρ ⟨dst,.store 68 x y,ty,pos,after,g⟩).run Tryz.prog w= .ok .skip (Qe w (Qb (ρ x)) (Qd (ρ x)) (ρ y).cells):=by rw [Oper.semAt_eq _ _ _ (fun c h=>by cases h)];exact QbQ ρ dst x y ty pos after g w hx hy hs h hz h1
theorem QqF(hs:(Qc w B).size=6)(hz:Qs w B=(0,0))(hcs:cs.size=6)(ho:QK cs)
  (hx:ρ x= .pointer (some ⟨B,0,none⟩))(hy:ρ y= .agg cs):(execOp ρ ⟨dst,.store 68 x y,ty,pos,after,g⟩).run Tryz.prog w= .ok .skip (Qe w B 0 cs):=by
 have e:=QbQ ρ dst x y ty pos after g w (by rw [hx];rfl) (by rw [hy];rfl) (by rw [hy];exact hcs) (by rw [hx];show Fits 0 6 (Qc w B);unfold Fits;omega) (by rw [hx];exact hz) (by rw [hy];exact ho);rw [e,hx,hy];rfl
structure Cm where
 fr:Int×Int
 tn:Int×Int
 o:Opt
 ip:Option Addr
 iN:Nat
 ic:Nat
 pk:Pk
 bp:Option Addr
 bN:Nat
 bc:Nat
 now:Int
def cmv(c:Cm):Array Value:=#[.int .u8 c.fr.1,.int .i64 c.fr.2,.int .u8 c.tn.1,.int .i64 c.tn.2,.int .u8 c.o.ki,.int .u8 c.o.bu,.int .i64 c.o.cu,.int .i64 c.o.pv,.int .i64 c.o.ge,.int .i64 c.o.ti,.slice c.ip c.iN c.ic,.int .u32 c.pk.tu.a,.int .u32 c.pk.tu.b,.int .u16 c.pk.tu.c,.int .u16 c.pk.tu.d,.int .u8 c.pk.fl,.slice c.bp c.bN c.bc,.int .i64 c.now]
theorem Q2{c:Cm}(h:RowZ w B (cmv c))(j:Nat)(hj:j<(cmv c).size):w.cell? ⟨B,j,none⟩=some (cmv c)[j]:=h.cell j hj
structure Dn where
 dr:Int
 ep:Option Addr
 eN:Nat
 ec:Nat
 sp:Option Addr
 sN:Nat
 sc:Nat
def dnv(d:Dn):Array Value:=#[.int .u8 d.dr,.slice d.ep d.eN d.ec,.slice d.sp d.sN d.sc]
def dn0:Dn:=⟨0,none,0,0,none,0,0⟩
theorem Qad(h:Qc w b=cs)(h3:cs.size=3):(loadVar 42 ⟨b,0,none⟩).run Tryz.prog w= .ok (.agg cs) w:=by
 rw [QkJ (by rw [h,h3];omega),h];rw [show cs.extract 0 (0+3)=cs by rw [Nat.zero_add,←h3];simp]
theorem QyR(h:Qc w b=cs)(h3:cs.size=6):(loadVar 68 ⟨b,0,none⟩).run Tryz.prog w= .ok (.agg cs) w:=by
 rw [QkK (by rw [h,h3];omega),h];rw [show cs.extract 0 (0+6)=cs by rw [Nat.zero_add,←h3];simp]
theorem Qbf{q:Option Addr}(h0:w.cell? ⟨B,i,none⟩=some (.pointer q))(hl:Lt B w)(hC: ¬C B)
  (hx:ρ x= .pointer (some ⟨B,i,none⟩)): ∀w',Mv C w w'→(execOp ρ ⟨dst,.load 110 x,ty,pos,after,g⟩).run Tryz.prog w'= .ok (.value (.pointer q)) w':=by
 intro w' a;have b:w'.cell? ⟨B,i,none⟩=some (.pointer q):=by rw [Qa,Qf (a.same B hl hC),←Qa];exact h0
 simp only [execOp,hx];go_simp
theorem Qe8{a b c d:Value}(h0:w.cell? ⟨B,i,none⟩=some a)(h1:w.cell? ⟨B,i+1,none⟩=some b)(h2:w.cell? ⟨B,i+2,none⟩=some c)(h3:w.cell? ⟨B,i+3,none⟩=some d)(hl:Lt B w)(hC: ¬C B)
  (hx:ρ x= .pointer (some ⟨B,i,none⟩)): ∀w',Mv C w w'→(execOp ρ ⟨dst,.load 64 x,ty,pos,after,g⟩).run Tryz.prog w'= .ok (.value (.agg #[a,b,c,d])) w':=by
 intro w' f;have e:=Qf (f.same B hl hC);have h0:w'.cell? ⟨B,i,none⟩=some a:=by rw [Qa,e,←Qa];exact h0
 have h1:w'.cell? ⟨B,i+1,none⟩=some b:=by rw [Qa,e,←Qa];exact h1
 have h2:w'.cell? ⟨B,i+2,none⟩=some c:=by rw [Qa,e,←Qa];exact h2
 have h3:w'.cell? ⟨B,i+3,none⟩=some d:=by rw [Qa,e,←Qa];exact h3
 simp only [execOp,hx];go_simp
def QqG(ops:Array Oper):Prop:=Region.noSelect ops=true∧Qo ops 10 [0,1,2,3,4,5,6,7,8] 0=true∧Rd ops 10 511 [9]∧Rd ops 10 1023 []
theorem QkL:QqG ((Tryz.f112.body.bind (Qh 1)).getD #[]):=⟨Kr,Kr,Rk,Rk⟩
theorem Qdm(q id:Int)(c:Cm)(b2 Ba:Nat)(w:World)(c2:w.cell? ⟨b2,0,none⟩=some (.pointer (some ⟨Ba,0,none⟩)))(l2:Lt b2 w)(ci:w.cell? ⟨Ba,0,none⟩=some (.int .i64 id))(li:Lt Ba w):
  Cr 112 #[.int .u8 q,.agg (cmv c),.pointer (some ⟨b2,0,none⟩)] w (Ev.v ⟨q,id,c.pk.tu⟩):=by
 go_enter Tryz.func112,Tryz.ntmps112
 go_upto_region 1 with(fail)
 obtain⟨k,h⟩: ∃k,(w.alloc (.cells (cmv c) 98)).alloc (.cells #[.int .u8 0,.int .i64 0,.int .u32 0,.int .u32 0,.int .u16 0,.int .u16 0] 68)=k:=⟨_,rfl⟩;have E:Ext w k:=by rw [←h];exact Ext.al Ea _
 have i:RowZ k w.heap.size (cmv c):=by rw [←h];exact⟨by simp [go_sem],by simp [go_sem],by simp [go_sem,Lt]⟩
 have g:RowZ k (w.heap.size+1) #[.int .u8 0,.int .i64 0,.int .u32 0,.int .u32 0,.int .u16 0,.int .u16 0]:=by rw [←h];exact⟨by simp [go_sem],by simp [go_sem],by simp [go_sem,Lt]⟩
 rw [h];clear h;have c2:=(E.cell (p:=⟨b2,0,none⟩) l2).trans c2;have ci:=(E.cell (p:=⟨Ba,0,none⟩) li).trans ci;have u:b2<w.heap.size:=l2;have x:Ba<w.heap.size:=li;obtain⟨s,A⟩: ∃b,w.heap.size=b:=⟨_,rfl⟩;rw [A]at i g u x⊢;obtain⟨m,C⟩: ∃b,s+1=b:=⟨_,rfl⟩;rw [C]at g⊢;have l2:=Xl l2 E.size;have li:=Xl li E.size;refine Qy (fun _=>False) (fun q=>q=m) 9 Kr ?_;obtain⟨t,h⟩: ∃Wdr,World.drew k=Wdr:=⟨_,rfl⟩;have j:Ext k t:=by rw [←h];exact Ext.dr (Ext.rf _)
 rw [h];clear h;have E:=E.tr j;have i:=i.ext j;have g:=g.ext j;have c2:=(j.cell (p:=⟨b2,0,none⟩) l2).trans c2;have ci:=(j.cell (p:=⟨Ba,0,none⟩) li).trans ci;have l2:=Xl l2 j.size;have li:=Xl li j.size;refine Zi (N:=10) (R:=QqG) (E:=((Tryz.f112.body.bind (Qh 1)).getD #[])) Kr QkL Kr fun hS=> ?_;have f:=hS.2.1;refine tWk 1 (.int .u8 q) hS.1 f rfl fun f=>tW 3 (.pointer (some ⟨Ba,0,none⟩)) hS.1 f rfl (Qbf (by exact c2) l2 Om Kr) fun f=>tWk 7 (.pointer (some ⟨Ba,0,none⟩)) hS.1 f rfl fun f=>tWk 15 (.pointer (some ⟨Ba,0,none⟩)) hS.1 f rfl fun f=>tW 31 (.int .i64 id) hS.1 f rfl (Q0 ci li Om Kr) fun f=>tWk 63 (.pointer (some ⟨s,11,none⟩)) hS.1 f rfl fun f=>tWk 127 (.pointer (some ⟨s,11,none⟩)) hS.1 f rfl fun f=>tW 255 (.agg #[.int .u32 c.pk.tu.a,.int .u32 c.pk.tu.b,.int .u16 c.pk.tu.c,.int .u16 c.pk.tu.d]) hS.1 f rfl (Qe8 (Q2 i 11 (by show 11<18;omega)) (Q2 i 12 (by show 12<18;omega)) (Q2 i 13 (by show 13<18;omega)) (Q2 i 14 (by show 14<18;omega)) i.l Om Kr) fun f=>tWk 511 (.agg #[.int .u8 q,.int .i64 id,.int .u32 c.pk.tu.a,.int .u32 c.pk.tu.b,.int .u16 c.pk.tu.c,.int .u16 c.pk.tu.d]) hS.1 f rfl fun f=> ?_;refine Qr hS.2.2.1 (QE (m':=1023) rfl rfl Kr (QqF (B:=m) (cs:=#[.int .u8 q,.int .i64 id,.int .u32 c.pk.tu.a,.int .u32 c.pk.tu.b,.int .u16 c.pk.tu.c,.int .u16 c.pk.tu.d]) (by rw [g.r];rfl) g.z rfl (by simp [go_sem]) Kr Kr) ⟨.inl Dc,(Mv.sa _ rfl (Mv.refl _ _))⟩ ?_);obtain⟨n,o⟩: ∃n,Qe t m 0 #[.int .u8 q,.int .i64 id,.int .u32 c.pk.tu.a,.int .u32 c.pk.tu.b,.int .u16 c.pk.tu.c,.int .u16 c.pk.tu.d]=n:=⟨_,rfl⟩;have y:Mv (fun q=>q=m) t n:=by rw [←o];exact Mv.sa _ rfl (Mv.refl _ _)
 have g:RowZ n m #[.int .u8 q,.int .i64 id,.int .u32 c.pk.tu.a,.int .u32 c.pk.tu.b,.int .u16 c.pk.tu.c,.int .u16 c.pk.tu.d]:=by rw [←o];exact g.all _ rfl
 have E:=Mv.ext_of E y (fun q e=>by omega);rw [o];clear o;refine QZ hS.2.2.2 ?_;clear hS f;go_simp;go_wp2;exact bodyPost_ret (Zv rfl _ _ m rfl (QyR g.r rfl)) rfl ⟨rfl,E⟩
theorem Mv.trn{D:Nat→Prop}{A B:World}(h:Mv C w A)(m:Mv D A B)(hc: ∀k,D k→C k∨w.heap.size≤k):Mv C w B:=
 ⟨m.os.trans h.os,m.tape.trans h.tape,m.output.trans h.output,Xt h.size m.size,fun q hq hn=>(m.same q (Xl hq h.size) (fun d=>(hc q d).elim hn (fun g=>by omega))).trans (h.same q hq hn)⟩
theorem SlC.mvg{A B:World}{p:Option Addr}{xs:List Co}(h:SlC A p xs)(m:Mv C A B)(hb: ∀b off,p=some ⟨b,off,none⟩→ ¬C b):SlC B p xs:=fun j hk=>by
 obtain⟨b,off,a,c,d,f,g,i,k,l⟩:=h j hk;have e:=Qf (m.same b c (hb b off a));simp only [Qa]at d f g i k l⊢;exact⟨b,off,a,Xl c m.size,by rw [e];exact d,by rw [e];exact f,by rw [e];exact g,by rw [e];exact i,by rw [e];exact k,by rw [e];exact l⟩
theorem SlE.mvg{A B:World}{p:Option Addr}{xs:List Ev}(h:SlE A p xs)(m:Mv C A B)(hb: ∀b off,p=some ⟨b,off,none⟩→ ¬C b):SlE B p xs:=fun j hk=>by
 obtain⟨b,off,a,c,d,f,g,i,k,l⟩:=h j hk;have e:=Qf (m.same b c (hb b off a));simp only [Qa]at d f g i k l⊢;exact⟨b,off,a,Xl c m.size,by rw [e];exact d,by rw [e];exact f,by rw [e];exact g,by rw [e];exact i,by rw [e];exact k,by rw [e];exact l⟩
def Z3(v:Value):Nat→Prop:=fun k=>v.ownBlock=some k
def OEv(w:World)(base:Nat)(v:Value)(es:List Ev):Prop:=w.ownsRow base 68 6 v es.length (flE es)
theorem OEv.ext{w':World}{base:Nat}{es:List Ev}(h:OEv w base v es)(e:Ext w w'):OEv w' base v es:=Zl h e
theorem OEv.mv{w':World}{base:Nat}{es:List Ev}(h:OEv w base v es)(m:Mv C w w')(hc: ∀q,base≤q→ ¬C q):OEv w' base v es:=Qw h m hc
theorem Qe9{base:Nat}{es:List Ev}(h:OEv w base v es): ∃p n c,v= .slice p n c:=by
 obtain⟨p,c,e,-,-⟩:=SlE.own h;exact⟨p,_,c,e⟩
theorem Qfa{x:Ev}{p:Operand}(hx:ρ p=x.v)(w:World):
  (execOp ρ ⟨dst,.buildSlice 39 1 #[(0,p)],ty,pos,after,g⟩).run Tryz.prog w= .ok (.value (.slice (some ⟨w.heap.size,0,none⟩) 1 1)) (w.alloc (.cells x.cl.toArray 68)):=by
 simp only [execOp,List.map_toArray,List.map_cons,List.map_nil,hx];go_simp;rfl
theorem QkM{ops:Array Oper}{D:Nat→Prop}{r:Nat}{Q:Act→World→Prop}{N m':Nat}{fuel:Nat}{a:Act}{base A:Nat}{v1:Value}{b1:List Ev}{x1:Ev}
  (hm:m|||(1<<<k)=m')(hi:ops[k]?=some ⟨dst,.call {callee:= .builtin .append,args:=#[x,y],argTypes:=#[39,39]},ty,pos,after,none⟩)(hx:a.eval x=v1)(hy:a.eval y= .slice (some ⟨A,0,none⟩) 1 1)(h1:OEv w base v1 b1)(hA: ∀j u,x1.cl[j]?=some u→w.cell? ⟨A,j,none⟩=some u)(hl:b1.length≤1000)(hC: ∀r,v1.ownBlock=some r→C r)(hCD: ∀k,C k→D k)(hb:base≤w.heap.size)
  (H: ∀v' w',OEv w' base v' (b1++ [x1])→w.grownBy w' v1.ownBlock→Mv (fun k=>v1.ownBlock=some k) w w'→QP C D r Tryz.prog .any ops Q fuel (msk N m') (a.put dst v') w'):QaX C D r Tryz.prog ops Q fuel N k m a w:=by
 obtain⟨f,g,i,l,n⟩:=info_parts QpP
 obtain⟨v',w',o,p,d,-,-⟩:=run_append_own_at (P:=Tryz.prog) w base 39 ty 68 f (.agg #[.int .u8 0,.int .i64 0,.int .u32 0,.int .u32 0,.int .u16 0,.int .u16 0]) 6 32 Tryz.underlying39 g i l n rfl Dc v1 b1.length _ h1 ⟨A,0,none⟩ 1 1 x1.cl rfl (fun j u hu=>by
  have e:(⟨A,0,none⟩:Addr).add j=⟨A,j,none⟩:=by unfold Addr.add;split<;>simp_all
  rw [e];exact hA j u hu) (QpQ x1) (by unfold maxLen;omega) Om hb
 have b:Mv (fun k=>v1.ownBlock=some k) w w':=Mv.of_grown d fun r e=> .inl e;have c:Mv C w w':=b.mono fun k _ e=>hC k e;refine Zq (v:=v') hm hi rfl ?_ ⟨.inr c,c.mono fun k _ h=>hCD k h⟩ (H v' w' ?_ d b)
 ·simp [execOp,resolve,invoke,builtin,hx,hy,o,Result.andThen]
 ·unfold OEv;rw [List.length_append,QiB];exact p
theorem Qdn{u:Value}(hc:w.cell? ⟨B,i,none⟩=some u)(hf:w.frozen? ⟨B,i,none⟩=false)(hv: ∃a m c,v= .slice a m c)
  (hx:ρ x= .pointer (some ⟨B,i,none⟩))(hy:ρ y=v):(execOp ρ ⟨dst,.store 25 x y,ty,pos,after,g⟩).run Tryz.prog w= .ok .skip (w.setCell ⟨B,i,none⟩ v):=by
 obtain⟨a,m,c,rfl⟩:=hv;simp only [execOp,hx,hy];go_simp
theorem Qdo{u:Value}(hc:w.cell? ⟨B,i,none⟩=some u)(hf:w.frozen? ⟨B,i,none⟩=false)(hv: ∃a m c,v= .slice a m c)
  (hx:ρ x= .pointer (some ⟨B,i,none⟩))(hy:ρ y=v):(execOp ρ ⟨dst,.store 39 x y,ty,pos,after,g⟩).run Tryz.prog w= .ok .skip (w.setCell ⟨B,i,none⟩ v):=by
 obtain⟨a,m,c,rfl⟩:=hv;simp only [execOp,hx,hy];go_simp
theorem QaF{a:Option Addr}{c:Nat}(h0:w.cell? ⟨B,i,none⟩=some (.slice a m c))(hl:Lt B w)(hC: ¬C B)
  (hx:ρ q= .pointer (some ⟨B,i,none⟩)): ∀w',Mv C w w'→(execOp ρ ⟨dst,.load 39 q,ty,pos,after,g⟩).run Tryz.prog w'= .ok (.value (.slice a m c)) w':=by
 intro w' b;have d:w'.cell? ⟨B,i,none⟩=some (.slice a m c):=by rw [Qa,Qf (b.same B hl hC),←Qa];exact h0
 simp only [execOp,hx];go_simp
theorem QkN{f:Nat}{x y:Array Value}(h0:w.cell? ⟨B,i,none⟩=some (.func (.func f) x y))(hl:Lt B w)(hC: ¬C B)
  (hx:ρ q= .pointer (some ⟨B,i,none⟩)): ∀w',Mv C w w'→(execOp ρ ⟨dst,.load 168 q,ty,pos,after,g⟩).run Tryz.prog w'= .ok (.value (.func (.func f) x y)) w':=by
 intro w' a;have b:w'.cell? ⟨B,i,none⟩=some (.func (.func f) x y):=by rw [Qa,Qf (a.same B hl hC),←Qa];exact h0
 simp only [execOp,hx];go_simp
theorem Qce{c:Cm}(h0:RowZ w B (cmv c))(hC: ¬C B)
  (hx:ρ q= .pointer (some ⟨B,0,none⟩)): ∀w',Mv C w w'→(execOp ρ ⟨dst,.load 98 q,ty,pos,after,g⟩).run Tryz.prog w'= .ok (.value (.agg (cmv c))) w':=by
 intro w' b;have a:=h0.mv b hC;have e:=QcI ρ dst q ty pos after g w' (by rw [hx];rfl) (by rw [hx];show Fits 0 18 (Qc w' B);rw [a.r];unfold Fits;exact Nat.le_refl _);rw [e,hx];show Result.ok (Next.value (Value.agg (QB (Qc w' B) 0 18))) w'=_;rw [a.r,Q9 _ 18 rfl]
def SlBB(w:World)(p:Option Addr)(bss:List (List Int)):Prop:= ∀k,(h:k<bss.length)→ ∃b off q c,p=some ⟨b,off,none⟩∧b<w.heap.size∧w.cell? ⟨b,off+k,none⟩=some (.slice q bss[k].length c)∧SlB w q bss[k]∧bss[k].length≤c
theorem SlBB.nil(w:World)(p:Option Addr):SlBB w p []:=fun k hk=>by simp at hk
def Qdp(w:World)(Ba:Nat)(a:Ag)(dr:Int)(xs:List Co)(es:List Ev)(ss:List (List Int))(e:Ending)(w':World):Prop:=
 ∃p c ep ec sp sc,e= .returned (.agg (dnv ⟨dr,ep,es.length,ec,sp,ss.length,sc⟩))∧RowZ w' Ba (agv {a with p:=p,xs:=xs,c:=c})∧SlC w' p xs∧SlE w' ep es∧SlBB w' sp ss∧Mv (fun q=>q=Ba) w w'∧
  (∀b off,p=some ⟨b,off,none⟩→w.heap.size≤b∨p=a.p)∧(∀b off,ep=some ⟨b,off,none⟩→w.heap.size≤b)∧(∀b off,sp=some ⟨b,off,none⟩→w.heap.size≤b)
theorem QcK{W W5:World}{Ba b4 lo:Nat}{a:Ag}{dr:Int}{xs:List Co}{es:List Ev}{ss:List (List Int)}{p ep sp:Option Addr}{c ec sc:Nat}(hW:Qe W b4 0 cs=W5)(E:Mv (fun q=>q=Ba) w W)(ra:RowZ W Ba (agv {a with p:=p,xs:=xs,c:=c}))(sn:SlC W p xs)(se:SlE W ep es)(ss':SlBB W5 sp ss)
  (h4:w.heap.size≤b4)(h5:b4<lo)(hBa:Ba<w.heap.size)(hp:(∀b off,p=some ⟨b,off,none⟩→lo≤b)∨p=a.p∧ ∀b off,p=some ⟨b,off,none⟩→b<w.heap.size)(he: ∀b off,ep=some ⟨b,off,none⟩→lo≤b)(hs: ∀b off,sp=some ⟨b,off,none⟩→lo≤b):
  Qdp w Ba a dr xs es ss (.returned (.agg (dnv ⟨dr,ep,es.length,ec,sp,ss.length,sc⟩))) W5:=by
 have m:Mv (fun q=>q=b4) W W5:=by rw [←hW];exact Mv.sa _ rfl (Mv.refl _ _)
 refine⟨p,c,ep,ec,sp,sc,rfl,ra.mv m Om,sn.mvg m ?_,se.mvg m (fun b off e f=>by have:=he b off e;omega),ss',E.trn m (fun k e=> .inr Om),?_,fun b off e=>by have:=he b off e;omega,fun b off e=>by have:=hs b off e;omega⟩
 ·rintro b off e rfl;rcases hp with hp|⟨-,hp⟩
  ·have:=hp _ _ e;omega
  ·have:=hp _ _ e;omega
 ·intro b off e;rcases hp with hp|⟨h,-⟩
  ·exact .inl (by have:=hp b off e;omega)
  ·exact .inr h
structure Qut(w:World)(a:Ag)(Ba b2 bc:Nat):Prop where
 ra:RowZ w Ba (agv a)
 rb:RowZ w b2 #[.pointer (some ⟨Ba,0,none⟩)]
 rc:RowZ w bc #[.func (.func 112) #[] #[.pointer (some ⟨b2,0,none⟩)]]
 s:SlC w a.p a.xs
 n:Ba≠b2∧Ba≠bc
def Quu(lo:Nat)(xs:List Co)(n:Int)(v:Value)(w':World):Prop:= ∃p c,v= .tuple #[.slice p xs.length c,.int .i64 n]∧SlC w' p xs∧ ∀b off,p=some ⟨b,off,none⟩→lo≤b
theorem QyS(lo:Nat)(t:Tu)(now:Int)(p:Option Addr)(xs:List Co)(c:Nat)(w:World)(hs:SlC w p xs)(hl:xs.length≤1000)(hlo:lo≤w.heap.size):Calls Tryz.prog 119 #[.slice p xs.length c,.agg #[.int .u32 t.a,.int .u32 t.b,.int .u16 t.c,.int .u16 t.d],.int .i64 now] w fun e w'=> ∃v,e= .returned v∧Quu lo (JV xs t now) (QaM xs t now) v w'∧Ext w w':=
 (QrY t now p xs c w hs hl).mono fun e w' ⟨v,h1,h2,h3⟩=>⟨_,h1,(by obtain⟨q,d,e,-,s⟩:=SlC.own h2;exact⟨q,d,by rw [e],s,fun b off e2=>Xt hlo (Qi h2 b (by rw [e,e2];rfl))⟩),h3⟩
def QqH(ops:Array Oper):Prop:=Region.noSelect ops=true∧Qo ops 17 [0,1,2,3,4,5,6,7,8,9] 0=true∧Rd ops 17 1023 [10]∧Qo ops 17 [11,12,13,14,15] 2047=true∧Rd ops 17 65535 [16]∧Rd ops 17 131071 []∧lateB .any ops 16 4=true
theorem QkO:QqH ((Tryz.f118.body.bind (Qh 1)).getD #[]):=⟨Kr,Kr,Rk,Kr,Rk,Rk,Kr⟩
def QqI(ops:Array Oper):Prop:=Region.noSelect ops=true∧Qo ops 9 [0,1,2,3] 0=true∧Rd ops 9 15 [4]∧Rd ops 9 31 [5]∧Rd ops 9 63 [6]∧Qo ops 9 [7] 127=true∧Rd ops 9 255 [8]∧Rd ops 9 511 []∧lateB .any ops 8 1=true
theorem QkP:QqI ((Tryz.f118.body.bind (Qh 2)).getD #[]):=⟨Kr,Kr,Rk,Rk,Rk,Kr,Rk,Rk,Kr⟩
theorem JC(a:Ag)(c:Cm)(Ba b2 bc:Nat)(w:World)(h:Qut w a Ba b2 bc)(hl:a.xs.length≤1000):
  Calls Tryz.prog 118 #[.agg (cmv c),.pointer (some ⟨b2,0,none⟩),.pointer (some ⟨bc,0,none⟩)] w (Qdp w Ba a 0 (JV a.xs c.pk.tu c.now) [⟨1,a.id,c.pk.tu⟩] []):=by
 obtain⟨m,s,t,hs,d2,d3⟩:=h;have lA:Ba<w.heap.size:=m.l;have lB:b2<w.heap.size:=s.l;have lC:bc<w.heap.size:=t.l
 go_enter Tryz.func118,Tryz.ntmps118
 go_upto_region 1 with(fail)
 obtain⟨O,H⟩: ∃O,(w.alloc (.cells (cmv c) 98)).alloc (.cells #[.int .u8 0,.slice none 0 0,.slice none 0 0] 42)=O:=⟨_,rfl⟩;have S:Ext w O:=by rw [←H];exact Ext.al Ea _
 have o:RowZ O w.heap.size (cmv c):=by rw [←H];exact⟨by simp [go_sem],by simp [go_sem],by simp [go_sem,Lt]⟩
 have n:RowZ O (w.heap.size+1) #[.int .u8 0,.slice none 0 0,.slice none 0 0]:=by rw [←H];exact⟨by simp [go_sem],by simp [go_sem],by simp [go_sem,Lt]⟩
 have c1:O.heap.size=w.heap.size+2:=by rw [←H];simp
 rw [H];clear H;have m:=m.ext S;have s:=s.ext S;have t:=t.ext S;obtain⟨U,e3⟩: ∃b,w.heap.size=b:=⟨_,rfl⟩;rw [e3]at o n c1 lA lB lC⊢;obtain⟨A,e4⟩: ∃b,U+1=b:=⟨_,rfl⟩;rw [e4]at n⊢;obtain⟨lo,d8⟩: ∃lo,A+1=lo:=⟨_,rfl⟩;have E:Mv (fun q=>q=Ba) w O:=Mv.of_ext S;have a8: ¬b2=Ba:=fun e=>d2 e.symm;have c2: ¬bc=Ba:=fun e=>d3 e.symm;have a9: ¬U=Ba:=by omega
 have c3: ¬A=Ba:=by omega
 refine Qy (fun _=>False) (fun q=>q=Ba) 16 Kr ?_;have b0: ¬(fun q=>q=Ba) b2:=a8;have a0: ¬(fun q=>q=Ba) U:=a9;obtain⟨WA,H⟩: ∃Wdr,World.drew O=Wdr:=⟨_,rfl⟩;have D:Ext O WA:=by rw [←H];exact Ext.dr (Ext.rf _)
 rw [H];clear H;have E:=E.tr D;have m:=m.ext D;have s:=s.ext D;have t:=t.ext D;have o:=o.ext D;have n:=n.ext D;have S:=S.tr D;refine Zi (N:=17) (R:=QqH) (E:=((Tryz.f118.body.bind (Qh 1)).getD #[])) Kr QkO Kr fun hS=> ?_;have g:=hS.2.1;refine tW 1 (.pointer (some ⟨Ba,0,none⟩)) hS.1 g rfl (Qbf (s.cell 0 Nat.zero_lt_one) s.l b0 Kr) fun g=>tW 3 (.pointer (some ⟨Ba,0,none⟩)) hS.1 g rfl (Qbf (s.cell 0 Nat.zero_lt_one) s.l b0 Kr) fun g=>tWk 7 (.pointer (some ⟨Ba,0,none⟩)) hS.1 g rfl fun g=>tWk 15 (.pointer (some ⟨Ba,66,none⟩)) hS.1 g rfl fun g=> ?_;refine ZD (N:=17) (k:=4) (m':=31) (v:= .slice a.p a.xs.length a.c) hS.1 g hS.2.2.2.2.2.2 rfl rfl Kr (QaB (C:=fun _=>False) (by rw [Qa,m.r,Qu]) m.l (fun h=>h) Kr) fun g=>tWk 63 (.pointer (some ⟨U,11,none⟩)) hS.1 g rfl fun g=>tWk 127 (.pointer (some ⟨U,11,none⟩)) hS.1 g rfl fun g=>tW 255 (.agg #[.int .u32 c.pk.tu.a,.int .u32 c.pk.tu.b,.int .u16 c.pk.tu.c,.int .u16 c.pk.tu.d]) hS.1 g rfl (Qe8 (Q2 o 11 (by show 11<18;omega)) (Q2 o 12 (by show 12<18;omega)) (Q2 o 13 (by show 13<18;omega)) (Q2 o 14 (by show 14<18;omega)) o.l a0 Kr) fun g=>tWk 511 (.pointer (some ⟨U,17,none⟩)) hS.1 g rfl fun g=>tW 1023 (.int .i64 c.now) hS.1 g rfl (Q0 (Q2 o 17 (by show 17<18;omega)) o.l a0 Kr) fun g=> ?_;refine sV 2047 (Quu lo (JV a.xs c.pk.tu c.now) (QaM a.xs c.pk.tu c.now)) hS.2.2.1 rfl (QyS lo c.pk.tu c.now a.p a.xs a.c WA (hs.ext (by first|exact S|exact S.tr X)) hl (by have:=E.size;have:=n.l;unfold Lt at this;omega)) ?_;rintro _ c0 X ⟨P,V,rfl,y,nn⟩;have E:=E.tr X;have m:=m.ext X;have s:=s.ext X;have t:=t.ext X;have o:=o.ext X;have n:=n.ext X;have g:=hS.2.2.2.1;refine tWk 4095 (.tuple #[.slice P (JV a.xs c.pk.tu c.now).length V,.int .i64 (QaM a.xs c.pk.tu c.now)]) hS.1 g rfl fun g=>tWk 8191 (.slice P (JV a.xs c.pk.tu c.now).length V) hS.1 g rfl fun g=>tWk 16383 (.int .i64 (QaM a.xs c.pk.tu c.now)) hS.1 g rfl fun g=>tWk 32767 (.pointer (some ⟨Ba,0,none⟩)) hS.1 g rfl fun g=>tWk 65535 (.pointer (some ⟨Ba,66,none⟩)) hS.1 g rfl fun g=> ?_;refine Qr hS.2.2.2.2.1 (QE (m':=131071) rfl rfl Kr (Qdn (B:=Ba) (i:=66) (v:= .slice P (JV a.xs c.pk.tu c.now).length V) (u:= .slice a.p a.xs.length a.c) (by rw [Qa,m.r,Qu]) (m.frz 66) ⟨_,_,_,rfl⟩ Kr Kr) ⟨.inl Dc,(Mv.st _ (.inl rfl) (Mv.refl _ _))⟩ ?_);obtain⟨L,a2⟩: ∃L,World.setCell c0 ⟨Ba,66,none⟩ (.slice P (JV a.xs c.pk.tu c.now).length V)=L:=⟨_,rfl⟩;have G:Mv (fun q=>q=Ba) c0 L:=by rw [←a2];exact Mv.st _ (.inl rfl) (Mv.refl _ _)
 have m:RowZ L Ba (agv {a with p:=P,xs:=(JV a.xs c.pk.tu c.now),c:=V}):=by rw [←a2];exact⟨Qab (a:=a) P (JV a.xs c.pk.tu c.now) V m.r,by rw [QR];exact m.z,by rw [Zk];exact m.l⟩
 have E:=E.trans G;have s:=s.mv G a8;have t:=t.mv G c2;have o:=o.mv G a9;have n:=n.mv G c3;have y:=y.mvo G (fun b off e=>by have:=nn b off e;omega);rw [a2];clear a2;refine QZ hS.2.2.2.2.2.1 ?_;clear hS g;go_simp;obtain⟨I,ea⟩: ∃I,({a with p:=P,xs:=(JV a.xs c.pk.tu c.now),c:=V}:Ag)=I:=⟨_,rfl⟩;have m:RowZ L Ba (agv I):=by rw [←ea];exact m
 have c4:I.id=a.id:=by rw [←ea]
 have c5:=Xh ea;clear ea
 go_upto_region 2 with(fail)
 have F:OEv L lo (.slice none 0 0) []:=World.ownsRow_nil L lo 68 6;have K:lo≤L.heap.size:=by have:=n.l;unfold Lt at this;omega
 have Y:=Qi F;have c6: ¬Z3 (.slice none 0 0) Ba:=fun e=>by have:=Y _ e;omega
 have c7: ¬Z3 (.slice none 0 0) b2:=fun e=>by have:=Y _ e;omega
 have b5: ¬Z3 (.slice none 0 0) bc:=fun e=>by have:=Y _ e;omega
 have b6: ¬Z3 (.slice none 0 0) U:=fun e=>by have:=Y _ e;omega
 have b7: ¬Z3 (.slice none 0 0) A:=fun e=>by have:=Y _ e;omega
 have c8: ∀q,Z3 (.slice none 0 0) q→w.heap.size≤q:=fun q e=>by have:=Y _ e;omega
 have c9: ¬(fun q=>q=A∨Z3 (.slice none 0 0) q) bc:=fun e=>e.elim Om b5;have a0: ¬(fun q=>q=A∨Z3 (.slice none 0 0) q) U:=fun e=>e.elim Om b6;have d0:([]:List Ev).length≤1000:=by decide
 have b8: ∀b off,P=some ⟨b,off,none⟩→ ¬Z3 (.slice none 0 0) b:=fun b off _ f=>by cases f
 refine Qy (Z3 (.slice none 0 0)) (fun q=>q=A∨Z3 (.slice none 0 0) q) 8 Kr ?_;obtain⟨WC,H⟩: ∃Wdr,World.drew L=Wdr:=⟨_,rfl⟩;have D:Ext L WC:=by rw [←H];exact Ext.dr (Ext.rf _)
 rw [H];clear H;have E:=E.tr D;have m:=m.ext D;have s:=s.ext D;have t:=t.ext D;have o:=o.ext D;have n:=n.ext D;have F:=F.ext D;have y:=y.ext D;have K:=Xt K D.size;refine Zi (N:=9) (R:=QqI) (E:=((Tryz.f118.body.bind (Qh 2)).getD #[])) Kr QkP Kr fun hS=> ?_;have g:=hS.2.1;refine tWk 1 (.pointer (some ⟨A,1,none⟩)) hS.1 g rfl fun g=> ?_;refine ZD (N:=9) (k:=1) (m':=3) (v:= .slice none 0 0) hS.1 g hS.2.2.2.2.2.2.2.2 rfl rfl Kr (QaF (C:=Z3 (.slice none 0 0)) (n.cell 1 (by show 1<3;omega)) n.l b7 Kr) fun g=>tW 7 (.func (.func 112) #[] #[.pointer (some ⟨b2,0,none⟩)]) hS.1 g rfl (QkN (t.cell 0 Nat.zero_lt_one) t.l c9 Kr) fun g=>tW 15 (.agg (cmv c)) hS.1 g rfl (Qce o a0 Kr) fun g=> ?_;refine sV 31 (fun v _=>v=Ev.v ⟨1,I.id,c.pk.tu⟩) hS.2.2.1 rfl (ZC (Qdm 1 I.id c b2 Ba WC (s.cell 0 Nat.zero_lt_one) s.l (ZQ m.r) m.l)) ?_;rintro _ Z Q rfl;have E:=E.tr Q;have m:=m.ext Q;have s:=s.ext Q;have t:=t.ext Q;have o:=o.ext Q;have n:=n.ext Q;have F:=F.ext Q;have y:=y.ext Q;have K:=Xt K Q.size;refine Qr hS.2.2.2.1 (Zq (m':=63) rfl rfl Kr (Qfa (x:=⟨1,I.id,c.pk.tu⟩) Kr Z) ⟨.inr (Mv.of_ext Ea),(Mv.of_ext Ea)⟩ ?_);obtain⟨a3,a6⟩: ∃a3,Z.alloc (.cells (Ev.cl ⟨1,I.id,c.pk.tu⟩).toArray 68)=a3:=⟨_,rfl⟩;have b9:=World.alloc_heap_new Z (.cells (Ev.cl ⟨1,I.id,c.pk.tu⟩).toArray 68);have M:Ext Z a3:=by rw [←a6];exact Ea
 rw [a6]at b9⊢;clear a6;have E:=E.tr M;have m:=m.ext M;have s:=s.ext M;have t:=t.ext M;have o:=o.ext M;have n:=n.ext M;have F:=F.ext M;have y:=y.ext M;have hA: ∀j u,(Ev.cl ⟨1,I.id,c.pk.tu⟩)[j]?=some u→a3.cell? ⟨Z.heap.size,j,none⟩=some u:=fun j u hu=>by simp only [World.cell?,b9];simpa using hu
 have K:=Xt K M.size;refine Qr hS.2.2.2.2.1 (QkM (m':=127) (base:=lo) (v1:= .slice none 0 0) (b1:=([]:List Ev)) (x1:=⟨1,I.id,c.pk.tu⟩) rfl rfl Kr Kr F hA d0 (fun r e=>e) (fun k h=> .inr h) K ?_);intro v' a7 F d9 W;have E:=E.trn W (fun q e=> .inr (c8 q e));have m:=m.mv W c6;have s:=s.mv W c7;have t:=t.mv W b5;have o:=o.mv W b6;have n:=n.mv W b7;have K:=Xt K W.size;have y:=y.mvg W (fun b off e f=>by first|exact b8 b off e f|(have:=nn b off e;omega));have T:=Ext.rf a7;have E:=E.tr T;have m:=m.ext T;have s:=s.ext T;have t:=t.ext T;have o:=o.ext T;have n:=n.ext T;have F:=F.ext T;have y:=y.ext T;have g:=hS.2.2.2.2.2.1;refine tWk 255 (.pointer (some ⟨A,1,none⟩)) hS.1 g rfl fun g=> ?_;refine Qr hS.2.2.2.2.2.2.1 (QE (m':=511) rfl rfl Kr (Qdo (B:=A) (i:=1) (v:=v') (u:= .slice none 0 0) (n.cell 1 (by show 1<3;omega)) (n.frz 1) (Qe9 F) Kr Kr) ⟨.inl Dc,(Mv.st _ (.inl (.inl rfl)) (Mv.refl _ _))⟩ ?_);obtain⟨J,a4⟩: ∃J,World.setCell a7 ⟨A,1,none⟩ v'=J:=⟨_,rfl⟩;have G:Mv (fun q=>q=A) a7 J:=by rw [←a4];exact Mv.st _ (.inl rfl) (Mv.refl _ _)
 have n:RowZ J A #[.int .u8 0,v',.slice none 0 0]:=by rw [←a4];exact n.set 1 _
 have E:=E.trn G (fun q e=> .inr Om);have m:=m.mv G Om;have s:=s.mv G Om;have t:=t.mv G Om;have o:=o.mv G Om;have F:=F.mv G (fun q hq e=>by omega);have K:=Xt K G.size;have y:=y.mvg G (fun b off e f=>by first|exact b8 b off e f|(have:=nn b off e;omega));rw [a4];clear a4;refine QZ hS.2.2.2.2.2.2.2.1 ?_;clear hS g;obtain⟨ep,ec,rfl,-,se⟩:=SlE.own F;have a5:=Qi F;have e1:(([]:List Ev)++ [(⟨1,I.id,c.pk.tu⟩:Ev)]).length=1:=rfl;rw [e1]at n a5⊢;clear e1;have HC:=Xh (show Mv (fun q=>q=Ba) w J∧RowZ J Ba (agv I)∧SlC J P (JV a.xs c.pk.tu c.now)∧SlE J ep [⟨1,I.id,c.pk.tu⟩]∧(∀b off,ep=some ⟨b,off,none⟩→lo≤b)from⟨E,m,y,se,fun b off e=>by have:=a5 b (by rw [e];rfl);omega⟩);clear E m y se s t o F a5;have d5:=Xh n;have d1:Qc J A=#[.int .u8 0,.slice ep 1 ec,.slice none 0 0]:=n.r;have d6:Qs J A=(0,0):=n.z;have d7:Lt A J:=n.l;go_wp2;obtain⟨W5,h5⟩: ∃W5,Qe J A 0 #[.int .u8 0,.slice ep 1 ec,.slice none 0 0]=W5:=⟨_,rfl⟩;have q5:Qc W5 A=#[.int .u8 0,.slice ep 1 ec,.slice none 0 0]:=by rw [←h5];exact Qq _ _ _ (by rw [d1])
 rw [h5];obtain⟨E,m,y,se,d4⟩:=HC.out;rw [c4]at se;refine bodyPost_ret (Zv rfl _ _ A rfl (Qad q5 rfl)) rfl (QcK (lo:=lo) (a:=a) (c:=V) h5 E (by rw [c5.out];exact m) y se (SlBB.nil _ none) Om Om Om (.inl nn) d4 (fun b off e=>by cases e))
theorem QkQ(t:Pk)(p:Option Addr)(n c:Nat)(w:World):Cr 116 #[.agg (pkV t (.slice p n c))] w (.bool (bits .and .u8 t.fl 5 !=0)):=by
 unfold pkV
 go_enter Tryz.func116,Tryz.ntmps116
 go_wp2;go_ret;exact⟨rfl,Ext.al (Ext.rf _) _⟩
theorem Qs1(t:Pk)(p:Option Addr)(n c:Nat)(w:World):Cr 45 #[.agg (pkV t (.slice p n c))] w (.bool (bits .and .u8 t.fl 7==2)):=by
 unfold pkV
 go_enter Tryz.func45,Tryz.ntmps45
 go_wp2;go_ret;exact⟨rfl,Ext.al (Ext.rf _) _⟩
def acv(x:Ru.Ac):Array Value:=#[.int .u8 x.d,.int .u8 x.x,.int .u8 x.k,.int .i64 x.t,.int .i64 x.g]
theorem Z9(x:Ru.Ac)(c:Cm)(a:Ag)(Ba b1:Nat)(w:World)(ra:RowZ w Ba (agv a))(rx:RowZ w b1 (acv x))(hs:SlC w a.p a.xs)(hlt: ∀b off,a.p=some ⟨b,off,none⟩→b<w.heap.size):
  Calls Tryz.prog 113 #[.agg (cmv c),.pointer (some ⟨b1,0,none⟩)] w (Qdp w Ba a x.x a.xs [] []):=by
 go_enter Tryz.func113,Tryz.ntmps113
 go_upto_region 1 with(fail)
 obtain⟨d,i⟩: ∃d,(w.alloc (.cells (cmv c) 98)).alloc (.cells #[.int .u8 0,.slice none 0 0,.slice none 0 0] 42)=d:=⟨_,rfl⟩;have h:Ext w d:=by rw [←i];exact Ext.al Ea _
 have g:RowZ d (w.heap.size+1) #[.int .u8 0,.slice none 0 0,.slice none 0 0]:=by rw [←i];exact⟨by simp [go_sem],by simp [go_sem],by simp [go_sem,Lt]⟩
 have t:d.cell? ⟨b1,1,none⟩=some (.int .u8 x.x):=(h.cell (p:=⟨b1,1,none⟩) rx.l).trans (rx.cell 1 (by show 1<5;omega));have u:Ba<w.heap.size:=ra.l;rw [i];clear i;have ra:=ra.ext h;have hs:=hs.ext h;obtain⟨f,q⟩: ∃b,w.heap.size+1=b:=⟨_,rfl⟩;rw [q]at g⊢;have m:=Xh (show Ext w d∧RowZ d Ba (agv a)∧SlC d a.p a.xs from⟨h,ra,hs⟩);clear h ra hs;have n:Qc d f=#[.int .u8 0,.slice none 0 0,.slice none 0 0]:=g.r;have v:Qs d f=(0,0):=g.z;have y:Lt f d:=g.l;have A:=Xh g;clear g;go_wp2;obtain⟨j,k⟩: ∃j,Qe d f 0 #[.int .u8 x.x,.slice none 0 0,.slice none 0 0]=j:=⟨_,rfl⟩;have o:Qc j f=#[.int .u8 x.x,.slice none 0 0,.slice none 0 0]:=by rw [←k];exact Qq _ _ _ (by rw [n];rfl)
 rw [k];obtain⟨E,ra,s⟩:=m.out;exact bodyPost_ret (Zv rfl _ _ f rfl (Qad o rfl)) rfl (QcK (lo:=f+1) (a:=a) (p:=a.p) (c:=a.c) (es:= []) (ss:= []) k (Mv.of_ext E) ra s (SlE.nil _ none) (SlBB.nil _ none) Om Om Om (.inr ⟨rfl,hlt⟩) (fun b off e=>by cases e) (fun b off e=>by cases e))
def Qmf(lo:Nat)(xs:List Co)(ok:Bool)(v:Value)(w':World):Prop:= ∃p c,v= .tuple #[.slice p xs.length c,.bool ok]∧SlC w' p xs∧ ∀b off,p=some ⟨b,off,none⟩→lo≤b
theorem Qs2(lo:Nat)(t:Tu)(now:Int)(p:Option Addr)(xs:List Co)(c:Nat)(w:World)(hs:SlC w p xs)(hl:xs.length≤1000)(hlo:lo≤w.heap.size):Calls Tryz.prog 115 #[.slice p xs.length c,.agg #[.int .u32 t.a,.int .u32 t.b,.int .u16 t.c,.int .u16 t.d],.int .i64 now] w fun e w'=> ∃v,e= .returned v∧Qmf lo (withX (touchF now) xs t) (withOk xs t) v w'∧Ext w w':=
 (Qmx t now p xs c w hs hl).mono fun e w' ⟨v,h1,h2,h3⟩=>⟨_,h1,(by obtain⟨q,d,e,-,s⟩:=SlC.own h2;exact⟨q,d,by rw [e],s,fun b off e2=>Xt hlo (Qi h2 b (by rw [e,e2];rfl))⟩),h3⟩
theorem Qs3(lo:Nat)(t:Tu)(p:Option Addr)(xs:List Co)(c:Nat)(w:World)(hs:SlC w p xs)(hl:xs.length≤1000)(hlo:lo≤w.heap.size):Calls Tryz.prog 117 #[.slice p xs.length c,.agg #[.int .u32 t.a,.int .u32 t.b,.int .u16 t.c,.int .u16 t.d]] w fun e w'=> ∃v,e= .returned v∧Qmf lo (withX (fun xs k=>xs.eraseIdx k) xs t) (withOk xs t) v w'∧Ext w w':=
 (QmA t p xs c w hs hl).mono fun e w' ⟨v,h1,h2,h3⟩=>⟨_,h1,(by obtain⟨q,d,e,-,s⟩:=SlC.own h2;exact⟨q,d,by rw [e],s,fun b off e2=>Xt hlo (Qi h2 b (by rw [e,e2];rfl))⟩),h3⟩
theorem QkR(now:Int)(xs:List Co)(t:Tu):(withX (touchF now) xs t).length=xs.length:=by
 unfold withX touchF
 split
 ·split
  ·simp
  ·rfl
 ·rfl
@[go_sem] theorem Qz3{c:Cm}{o:Nat}:Fits o m (cmv c)=(o+m≤18):=by unfold Fits;rfl
@[go_sem] theorem QnD{c:Cm}:QB (cmv c) 11 6=pkV c.pk (.slice c.bp c.bN c.bc):=rfl
def QcL(c:Cm):Bool:=bits .and .u8 c.pk.fl 5 !=0
def QfB(a:Ag)(c:Cm):List Co:=if QcL c=true then withX (fun xs k=>xs.eraseIdx k) (withX (touchF c.now) a.xs c.pk.tu) c.pk.tu else(withX (touchF c.now) a.xs c.pk.tu)
def Qdq(a:Ag)(c:Cm):List Ev:=if QcL c=true then [⟨2,a.id,c.pk.tu⟩,⟨3,a.id,c.pk.tu⟩]else [⟨2,a.id,c.pk.tu⟩]
def QqJ(ops:Array Oper):Prop:=Region.noSelect ops=true∧Qo ops 9 [0,1,2,3] 0=true∧Rd ops 9 15 [4]∧Rd ops 9 31 [5]∧Rd ops 9 63 [6]∧Qo ops 9 [7] 127=true∧Rd ops 9 255 [8]∧Rd ops 9 511 []∧lateB .any ops 8 1=true
theorem QkS:QqJ ((Tryz.f114.body.bind (Qh 1)).getD #[]):=⟨Kr,Kr,Rk,Rk,Rk,Kr,Rk,Rk,Kr⟩
def QqK(ops:Array Oper):Prop:=Region.noSelect ops=true∧Qo ops 17 [0,1,2,3,4,5,6,7,8,9] 0=true∧Rd ops 17 1023 [10]∧Qo ops 17 [11,12,13,14,15] 2047=true∧Rd ops 17 65535 [16]∧Rd ops 17 131071 []∧lateB .any ops 16 4=true
theorem QkT:QqK ((Tryz.f114.body.bind (Qh 2)).getD #[]):=⟨Kr,Kr,Rk,Kr,Rk,Rk,Kr⟩
def QqL(ops:Array Oper):Prop:=Region.noSelect ops=true∧Qo ops 9 [0,1,2,3] 0=true∧Rd ops 9 15 [4]∧Rd ops 9 31 [5]∧Rd ops 9 63 [6]∧Qo ops 9 [7] 127=true∧Rd ops 9 255 [8]∧Rd ops 9 511 []∧lateB .any ops 8 1=true
theorem QkU:QqL ((Tryz.f114.body.bind (Qh 4)).getD #[]):=⟨Kr,Kr,Rk,Rk,Rk,Kr,Rk,Rk,Kr⟩
def QqM(ops:Array Oper):Prop:=Region.noSelect ops=true∧Qo ops 15 [0,1,2,3,4,5,6,7] 0=true∧Rd ops 15 255 [8]∧Qo ops 15 [9,10,11,12,13] 511=true∧Rd ops 15 16383 [14]∧Rd ops 15 32767 []∧lateB .any ops 14 4=true
theorem QkV:QqM ((Tryz.f114.body.bind (Qh 5)).getD #[]):=⟨Kr,Kr,Rk,Kr,Rk,Rk,Kr⟩
theorem QiZ(a:Ag)(c:Cm)(Ba b2 bc:Nat)(w:World)(h:Qut w a Ba b2 bc)(hl:a.xs.length≤1000)(hlt: ∀b off,a.p=some ⟨b,off,none⟩→b<w.heap.size)(hne: ∀b off,a.p=some ⟨b,off,none⟩→b≠Ba):
  Calls Tryz.prog 114 #[.agg (cmv c),.pointer (some ⟨bc,0,none⟩),.pointer (some ⟨b2,0,none⟩)] w (Qdp w Ba a 0 (QfB a c) (Qdq a c) []):=by
 obtain⟨m,t,A,D,h4,h6⟩:=h;have lA:Ba<w.heap.size:=m.l;have lB:b2<w.heap.size:=t.l;have lC:bc<w.heap.size:=A.l
 go_enter Tryz.func114,Tryz.ntmps114
 go_upto_region 1 with(fail)
 obtain⟨Y,K⟩: ∃Y,(w.alloc (.cells (cmv c) 98)).alloc (.cells #[.int .u8 0,.slice none 0 0,.slice none 0 0] 42)=Y:=⟨_,rfl⟩;have E':Ext w Y:=by rw [←K];exact Ext.al Ea _
 have o:RowZ Y w.heap.size (cmv c):=by rw [←K];exact⟨by simp [go_sem],by simp [go_sem],by simp [go_sem,Lt]⟩
 have n:RowZ Y (w.heap.size+1) #[.int .u8 0,.slice none 0 0,.slice none 0 0]:=by rw [←K];exact⟨by simp [go_sem],by simp [go_sem],by simp [go_sem,Lt]⟩
 have g8:Y.heap.size=w.heap.size+2:=by rw [←K];simp
 rw [K];clear K;have m:=m.ext E';have t:=t.ext E';have A:=A.ext E';have D:=D.ext E';obtain⟨V,e3⟩: ∃b,w.heap.size=b:=⟨_,rfl⟩;rw [e3]at o n g8 lA lB lC hlt⊢;obtain⟨I,e4⟩: ∃b,V+1=b:=⟨_,rfl⟩;rw [e4]at n⊢;obtain⟨lo,i4⟩: ∃lo,I+1=lo:=⟨_,rfl⟩;have E:Mv (fun q=>q=Ba) w Y:=Mv.of_ext E';have d7: ¬b2=Ba:=fun e=>h4 e.symm;have f9: ¬bc=Ba:=fun e=>h6 e.symm;have d8: ¬V=Ba:=by omega
 have g0: ¬I=Ba:=by omega
 have s:OEv Y lo (.slice none 0 0) []:=World.ownsRow_nil Y lo 68 6;have H:lo≤Y.heap.size:=by omega
 have P:=Qi s;have c7: ¬Z3 (.slice none 0 0) Ba:=fun e=>by have:=P _ e;omega
 have c8: ¬Z3 (.slice none 0 0) b2:=fun e=>by have:=P _ e;omega
 have b6: ¬Z3 (.slice none 0 0) bc:=fun e=>by have:=P _ e;omega
 have b7: ¬Z3 (.slice none 0 0) V:=fun e=>by have:=P _ e;omega
 have b8: ¬Z3 (.slice none 0 0) I:=fun e=>by have:=P _ e;omega
 have c9: ∀q,Z3 (.slice none 0 0) q→w.heap.size≤q:=fun q e=>by have:=P _ e;omega
 have d0: ¬(fun q=>q=I∨Z3 (.slice none 0 0) q) bc:=fun e=>e.elim Om b6;have X: ¬(fun q=>q=I∨Z3 (.slice none 0 0) q) V:=fun e=>e.elim Om b7;have e9:([]:List Ev).length≤1000:=by decide
 have b9: ∀b off,a.p=some ⟨b,off,none⟩→ ¬Z3 (.slice none 0 0) b:=fun b off _ f=>by cases f
 have c0: ∀b off,a.p=some ⟨b,off,none⟩→ ¬b=I:=fun b off e=>by have:=hlt b off e;omega
 refine Qy (Z3 (.slice none 0 0)) (fun q=>q=I∨Z3 (.slice none 0 0) q) 8 Kr ?_;obtain⟨WA,K⟩: ∃Wdr,World.drew Y=Wdr:=⟨_,rfl⟩;have F:Ext Y WA:=by rw [←K];exact Ext.dr (Ext.rf _)
 rw [K];clear K;have E:=E.tr F;have m:=m.ext F;have t:=t.ext F;have A:=A.ext F;have o:=o.ext F;have n:=n.ext F;have s:=s.ext F;have D:=D.ext F;have H:=Xt H F.size;refine Zi (N:=9) (R:=QqJ) (E:=((Tryz.f114.body.bind (Qh 1)).getD #[])) Kr QkS Kr fun hS=> ?_;have g:=hS.2.1;refine tWk 1 (.pointer (some ⟨I,1,none⟩)) hS.1 g rfl fun g=> ?_;refine ZD (N:=9) (k:=1) (m':=3) (v:= .slice none 0 0) hS.1 g hS.2.2.2.2.2.2.2.2 rfl rfl Kr (QaF (C:=Z3 (.slice none 0 0)) (n.cell 1 (by show 1<3;omega)) n.l b8 Kr) fun g=>tW 7 (.func (.func 112) #[] #[.pointer (some ⟨b2,0,none⟩)]) hS.1 g rfl (QkN (A.cell 0 Nat.zero_lt_one) A.l d0 Kr) fun g=>tW 15 (.agg (cmv c)) hS.1 g rfl (Qce o X Kr) fun g=> ?_;refine sV 31 (fun v _=>v=Ev.v ⟨2,a.id,c.pk.tu⟩) hS.2.2.1 rfl (ZC (Qdm 2 a.id c b2 Ba WA (t.cell 0 Nat.zero_lt_one) t.l (ZQ m.r) m.l)) ?_;rintro _ d5 a4 rfl;have E:=E.tr a4;have m:=m.ext a4;have t:=t.ext a4;have A:=A.ext a4;have o:=o.ext a4;have n:=n.ext a4;have s:=s.ext a4;have D:=D.ext a4;have H:=Xt H a4.size;refine Qr hS.2.2.2.1 (Zq (m':=63) rfl rfl Kr (Qfa (x:=⟨2,a.id,c.pk.tu⟩) Kr d5) ⟨.inr (Mv.of_ext Ea),(Mv.of_ext Ea)⟩ ?_);obtain⟨e0,f5⟩: ∃e0,d5.alloc (.cells (Ev.cl ⟨2,a.id,c.pk.tu⟩).toArray 68)=e0:=⟨_,rfl⟩;have d1:=World.alloc_heap_new d5 (.cells (Ev.cl ⟨2,a.id,c.pk.tu⟩).toArray 68);have a0:Ext d5 e0:=by rw [←f5];exact Ea
 rw [f5]at d1⊢;clear f5;have E:=E.tr a0;have m:=m.ext a0;have t:=t.ext a0;have A:=A.ext a0;have o:=o.ext a0;have n:=n.ext a0;have s:=s.ext a0;have D:=D.ext a0;have hA: ∀j u,(Ev.cl ⟨2,a.id,c.pk.tu⟩)[j]?=some u→e0.cell? ⟨d5.heap.size,j,none⟩=some u:=fun j u hu=>by simp only [World.cell?,d1];simpa using hu
 have H:=Xt H a0.size;refine Qr hS.2.2.2.2.1 (QkM (m':=127) (base:=lo) (v1:= .slice none 0 0) (b1:=([]:List Ev)) (x1:=⟨2,a.id,c.pk.tu⟩) rfl rfl Kr Kr s hA e9 (fun r e=>e) (fun k h=> .inr h) H ?_);intro v' f6 s h7 O;have E:=E.trn O (fun q e=> .inr (c9 q e));have m:=m.mv O c7;have t:=t.mv O c8;have A:=A.mv O b6;have o:=o.mv O b7;have n:=n.mv O b8;have H:=Xt H O.size;have D:=D.mvg O (fun b off e f=>by first|exact b9 b off e f|exact c0 b off e f);have a8:=Ext.rf f6;have E:=E.tr a8;have m:=m.ext a8;have t:=t.ext a8;have A:=A.ext a8;have o:=o.ext a8;have n:=n.ext a8;have s:=s.ext a8;have D:=D.ext a8;have g:=hS.2.2.2.2.2.1;refine tWk 255 (.pointer (some ⟨I,1,none⟩)) hS.1 g rfl fun g=> ?_;refine Qr hS.2.2.2.2.2.2.1 (QE (m':=511) rfl rfl Kr (Qdo (B:=I) (i:=1) (v:=v') (u:= .slice none 0 0) (n.cell 1 (by show 1<3;omega)) (n.frz 1) (Qe9 s) Kr Kr) ⟨.inl Dc,(Mv.st _ (.inl (.inl rfl)) (Mv.refl _ _))⟩ ?_);obtain⟨b0,e2⟩: ∃b0,World.setCell f6 ⟨I,1,none⟩ v'=b0:=⟨_,rfl⟩;have G:Mv (fun q=>q=I) f6 b0:=by rw [←e2];exact Mv.st _ (.inl rfl) (Mv.refl _ _)
 have n:RowZ b0 I #[.int .u8 0,v',.slice none 0 0]:=by rw [←e2];exact n.set 1 _
 have E:=E.trn G (fun q e=> .inr Om);have m:=m.mv G Om;have t:=t.mv G Om;have A:=A.mv G Om;have o:=o.mv G Om;have s:=s.mv G (fun q hq e=>by omega);have H:=Xt H G.size;have D:=D.mvg G (fun b off e f=>by first|exact b9 b off e f|exact c0 b off e f);rw [e2];clear e2;refine QZ hS.2.2.2.2.2.2.2.1 ?_;clear hS g c7 c8 b6 b7 b8 c9 d0 X P;obtain⟨J,L,rfl,-,-⟩:=SlE.own s;have e1:(([]:List Ev)++ [(⟨2,a.id,c.pk.tu⟩:Ev)])= [⟨2,a.id,c.pk.tu⟩]:=rfl;rw [e1]at n s⊢;clear e1;rw [show([(⟨2,a.id,c.pk.tu⟩:Ev)]).length=1 from rfl]at n s⊢
 go_upto_region 2 with(fail)
 obtain⟨b5,i5⟩: ∃b5,b0.heap.size=b5:=⟨_,rfl⟩;have g1: ∀b,Z3 (.slice J 1 L) b→b<b5:=fun b e=>by have:=QbW s b e;omega
 have i2:lo≤b5:=by omega
 have f0:b5≤b0.heap.size:=by omega
 refine Qy (fun _=>False) (fun q=>q=Ba) 16 Kr ?_;have c1: ¬(fun q=>q=Ba) b2:=d7;have X: ¬(fun q=>q=Ba) V:=d8;obtain⟨WC,K⟩: ∃Wdr,World.drew b0=Wdr:=⟨_,rfl⟩;have F:Ext b0 WC:=by rw [←K];exact Ext.dr (Ext.rf _)
 rw [K];clear K;have E:=E.tr F;have m:=m.ext F;have t:=t.ext F;have A:=A.ext F;have o:=o.ext F;have n:=n.ext F;have s:=s.ext F;have D:=D.ext F;have H:=Xt H F.size;have f0:=Xt f0 F.size;refine Zi (N:=17) (R:=QqK) (E:=((Tryz.f114.body.bind (Qh 2)).getD #[])) Kr QkT Kr fun hS=> ?_;have g:=hS.2.1;refine tW 1 (.pointer (some ⟨Ba,0,none⟩)) hS.1 g rfl (Qbf (t.cell 0 Nat.zero_lt_one) t.l c1 Kr) fun g=>tW 3 (.pointer (some ⟨Ba,0,none⟩)) hS.1 g rfl (Qbf (t.cell 0 Nat.zero_lt_one) t.l c1 Kr) fun g=>tWk 7 (.pointer (some ⟨Ba,0,none⟩)) hS.1 g rfl fun g=>tWk 15 (.pointer (some ⟨Ba,66,none⟩)) hS.1 g rfl fun g=> ?_;refine ZD (N:=17) (k:=4) (m':=31) (v:= .slice a.p a.xs.length a.c) hS.1 g hS.2.2.2.2.2.2 rfl rfl Kr (QaB (C:=fun _=>False) (by rw [Qa,m.r,Qu]) m.l (fun h=>h) Kr) fun g=>tWk 63 (.pointer (some ⟨V,11,none⟩)) hS.1 g rfl fun g=>tWk 127 (.pointer (some ⟨V,11,none⟩)) hS.1 g rfl fun g=>tW 255 (.agg #[.int .u32 c.pk.tu.a,.int .u32 c.pk.tu.b,.int .u16 c.pk.tu.c,.int .u16 c.pk.tu.d]) hS.1 g rfl (Qe8 (Q2 o 11 (by show 11<18;omega)) (Q2 o 12 (by show 12<18;omega)) (Q2 o 13 (by show 13<18;omega)) (Q2 o 14 (by show 14<18;omega)) o.l X Kr) fun g=>tWk 511 (.pointer (some ⟨V,17,none⟩)) hS.1 g rfl fun g=>tW 1023 (.int .i64 c.now) hS.1 g rfl (Q0 (Q2 o 17 (by show 17<18;omega)) o.l X Kr) fun g=> ?_;refine sV 2047 (Qmf b5 (withX (touchF c.now) a.xs c.pk.tu) (withOk a.xs c.pk.tu)) hS.2.2.1 rfl (Qs2 b5 c.pk.tu c.now a.p a.xs a.c WC (D.ext (by first|exact Ext.rf _|exact a5)) hl Om) ?_;rintro _ g6 a5 ⟨Q,S,rfl,sn,nn⟩;have E:=E.tr a5;have m:=m.ext a5;have t:=t.ext a5;have A:=A.ext a5;have o:=o.ext a5;have n:=n.ext a5;have s:=s.ext a5;have H:=Xt H a5.size;have g:=hS.2.2.2.1;refine tWk 4095 (.tuple #[.slice Q (withX (touchF c.now) a.xs c.pk.tu).length S,.bool (withOk a.xs c.pk.tu)]) hS.1 g rfl fun g=>tWk 8191 (.slice Q (withX (touchF c.now) a.xs c.pk.tu).length S) hS.1 g rfl fun g=>tWk 16383 (.bool (withOk a.xs c.pk.tu)) hS.1 g rfl fun g=>tWk 32767 (.pointer (some ⟨Ba,0,none⟩)) hS.1 g rfl fun g=>tWk 65535 (.pointer (some ⟨Ba,66,none⟩)) hS.1 g rfl fun g=> ?_;refine Qr hS.2.2.2.2.1 (QE (m':=131071) rfl rfl Kr (Qdn (B:=Ba) (i:=66) (v:= .slice Q (withX (touchF c.now) a.xs c.pk.tu).length S) (u:= .slice a.p a.xs.length a.c) (by rw [Qa,m.r,Qu]) (m.frz 66) ⟨_,_,_,rfl⟩ Kr Kr) ⟨.inl Dc,(Mv.st _ (.inl rfl) (Mv.refl _ _))⟩ ?_);obtain⟨c5,e5⟩: ∃c5,World.setCell g6 ⟨Ba,66,none⟩ (.slice Q (withX (touchF c.now) a.xs c.pk.tu).length S)=c5:=⟨_,rfl⟩;have G:Mv (fun q=>q=Ba) g6 c5:=by rw [←e5];exact Mv.st _ (.inl rfl) (Mv.refl _ _)
 have m:RowZ c5 Ba (agv {a with p:=Q,xs:=(withX (touchF c.now) a.xs c.pk.tu),c:=S}):=by rw [←e5];exact⟨Qab (a:=a) Q (withX (touchF c.now) a.xs c.pk.tu) S m.r,by rw [QR];exact m.z,by rw [Zk];exact m.l⟩
 have E:=E.trans G;have t:=t.mv G d7;have A:=A.mv G f9;have o:=o.mv G d8;have n:=n.mv G g0;have sn:=sn.mvo G (fun b off e=>by have:=nn b off e;omega);have s:=s.mv G (fun q hq e=>by omega);have H:=Xt H G.size;rw [e5];clear e5;refine QZ hS.2.2.2.2.2.1 ?_;clear hS g;obtain⟨y,U⟩: ∃y,({a with p:=Q,xs:=(withX (touchF c.now) a.xs c.pk.tu),c:=S}:Ag)=y:=⟨_,rfl⟩;have m:RowZ c5 Ba (agv y):=by rw [←U];exact m
 have g9:y.id=a.id:=by rw [←U]
 have D:SlC c5 y.p y.xs:=by rw [←U];exact sn
 have f1:y.xs=(withX (touchF c.now) a.xs c.pk.tu):=by rw [←U]
 have c2: ∀b off,y.p=some ⟨b,off,none⟩→b5≤b:=by rw [←U];exact nn
 have h0:y.xs.length≤1000:=by rw [f1,QkR];exact hl
 have g2:=Xh U;have g4:=Xh f1;clear U f1 sn nn f0 b9 c0 hlt hne c1 X G;have d9:=Xh (fun W=>QkQ c.pk c.bp c.bN c.bc W);have i3:=Xh o;have h1:=o.r
 cases c4:QcL c
 ·have d2:(bits .and .u8 c.pk.fl 5 !=0)=false:=c4;rw [d2]at d9;clear d2;have d3:=Xh c4;clear c4
  go_upto_region 6 with(go_at_call 116;(refine(d9.out _).mono ?_);rintro e w3 ⟨rfl,T⟩)
  have E:=E.tr T;have m:=m.ext T;have D:=D.ext T;have n:=n.ext T;have s:=s.ext T;obtain⟨i0,i1,h,-,se⟩:=SlE.own s
  cases h
  have d4:=Qi s;have HC:=Xh (show Mv (fun q=>q=Ba) w w3∧RowZ w3 Ba (agv y)∧SlC w3 y.p y.xs∧SlE w3 J [(⟨2,a.id,c.pk.tu⟩:Ev)]∧(∀b off,y.p=some ⟨b,off,none⟩→lo≤b)∧(∀b off,J=some ⟨b,off,none⟩→lo≤b)from⟨E,m,D,se,fun b off e=>by have:=c2 b off e;omega,fun b off e=>by have:=d4 b (by rw [e];rfl);omega⟩);have q4:=n.r;have f4:=n.z;have z4:=n.l;clear E m D se c2 d4 s n t A o;go_wp2;obtain⟨W5,h5⟩: ∃W5,Qe w3 I 0 #[.int .u8 0,.slice J ([(⟨2,a.id,c.pk.tu⟩:Ev)]).length L,.slice none 0 0]=W5:=⟨_,rfl⟩;have q5:Qc W5 I=#[.int .u8 0,.slice J ([(⟨2,a.id,c.pk.tu⟩:Ev)]).length L,.slice none 0 0]:=by rw [←h5];exact Qq _ _ _ (by rw [q4];rfl)
  have c3:=h5;simp only [List.length_cons,List.length_nil,Nat.zero_add,Nat.reduceAdd]at c3;rw [c3];clear c3;obtain⟨E,m,D,se,h8,h9⟩:=HC.out;have hd:QfB a c=y.xs:=by unfold QfB;rw [d3.out,if_neg Dc];exact g4.out.symm
  have f2:Qdq a c= [⟨2,a.id,c.pk.tu⟩]:=by unfold Qdq;rw [d3.out];rfl
  rw [hd,f2];have f3:({a with p:=y.p,xs:=y.xs,c:=y.c}:Ag)=y:=by rw [←g2.out]
  exact bodyPost_ret (Zv rfl _ _ I rfl (Qad q5 rfl)) rfl (QcK (lo:=lo) (a:=a) (p:=y.p) (xs:=y.xs) (c:=y.c) (es:= [(⟨2,a.id,c.pk.tu⟩:Ev)]) (ss:= []) h5 E (by rw [f3];exact m) D se (SlBB.nil _ none) Om Om Om (.inl h8) h9 (fun b off e=>by cases e))
 have d2:(bits .and .u8 c.pk.fl 5 !=0)=true:=c4;rw [d2]at d9;clear d2;have d3:=Xh c4;clear c4
 go_upto_region 4 with(go_at_call 116;(refine(d9.out _).mono ?_);rintro e w3 ⟨rfl,T⟩)
 clear h1;have E:=E.tr T;have m:=m.ext T;have t:=t.ext T;have A:=A.ext T;have o:=o.ext T;have D:=D.ext T;have n:=n.ext T;have s:=s.ext T;have H:=Xt H T.size;have P:=Qi s;have c7: ¬Z3 (.slice J 1 L) Ba:=fun e=>by have:=P _ e;omega
 have c8: ¬Z3 (.slice J 1 L) b2:=fun e=>by have:=P _ e;omega
 have b6: ¬Z3 (.slice J 1 L) bc:=fun e=>by have:=P _ e;omega
 have b7: ¬Z3 (.slice J 1 L) V:=fun e=>by have:=P _ e;omega
 have b8: ¬Z3 (.slice J 1 L) I:=fun e=>by have:=P _ e;omega
 have c9: ∀q,Z3 (.slice J 1 L) q→w.heap.size≤q:=fun q e=>by have:=P _ e;omega
 have d0: ¬(fun q=>q=I∨Z3 (.slice J 1 L) q) bc:=fun e=>e.elim Om b6;have X: ¬(fun q=>q=I∨Z3 (.slice J 1 L) q) V:=fun e=>e.elim Om b7;have e9:([(⟨2,a.id,c.pk.tu⟩:Ev)]).length≤1000:=by show 1≤1000;omega
 have b9: ∀b off,y.p=some ⟨b,off,none⟩→ ¬Z3 (.slice J 1 L) b:=fun b off e f=>by have:=c2 b off e;have:=g1 b f;omega
 have c0: ∀b off,y.p=some ⟨b,off,none⟩→ ¬b=I:=fun b off e=>by have:=c2 b off e;omega
 refine Qy (Z3 (.slice J 1 L)) (fun q=>q=I∨Z3 (.slice J 1 L) q) 8 Kr ?_;obtain⟨WE,K⟩: ∃Wdr,World.drew w3=Wdr:=⟨_,rfl⟩;have F:Ext w3 WE:=by rw [←K];exact Ext.dr (Ext.rf _)
 rw [K];clear K;have E:=E.tr F;have m:=m.ext F;have t:=t.ext F;have A:=A.ext F;have o:=o.ext F;have n:=n.ext F;have s:=s.ext F;have D:=D.ext F;have H:=Xt H F.size;refine Zi (N:=9) (R:=QqL) (E:=((Tryz.f114.body.bind (Qh 4)).getD #[])) Kr QkU Kr fun hS=> ?_;have g:=hS.2.1;refine tWk 1 (.pointer (some ⟨I,1,none⟩)) hS.1 g rfl fun g=> ?_;refine ZD (N:=9) (k:=1) (m':=3) (v:= .slice J 1 L) hS.1 g hS.2.2.2.2.2.2.2.2 rfl rfl Kr (QaF (C:=Z3 (.slice J 1 L)) (n.cell 1 (by show 1<3;omega)) n.l b8 Kr) fun g=>tW 7 (.func (.func 112) #[] #[.pointer (some ⟨b2,0,none⟩)]) hS.1 g rfl (QkN (A.cell 0 Nat.zero_lt_one) A.l d0 Kr) fun g=>tW 15 (.agg (cmv c)) hS.1 g rfl (Qce o X Kr) fun g=> ?_;refine sV 31 (fun v _=>v=Ev.v ⟨3,y.id,c.pk.tu⟩) hS.2.2.1 rfl (ZC (Qdm 3 y.id c b2 Ba WE (t.cell 0 Nat.zero_lt_one) t.l (ZQ m.r) m.l)) ?_;rintro _ d6 a6 rfl;have E:=E.tr a6;have m:=m.ext a6;have t:=t.ext a6;have A:=A.ext a6;have o:=o.ext a6;have n:=n.ext a6;have s:=s.ext a6;have D:=D.ext a6;have H:=Xt H a6.size;refine Qr hS.2.2.2.1 (Zq (m':=63) rfl rfl Kr (Qfa (x:=⟨3,y.id,c.pk.tu⟩) Kr d6) ⟨.inr (Mv.of_ext Ea),(Mv.of_ext Ea)⟩ ?_);obtain⟨e6,f7⟩: ∃e6,d6.alloc (.cells (Ev.cl ⟨3,y.id,c.pk.tu⟩).toArray 68)=e6:=⟨_,rfl⟩;have d1:=World.alloc_heap_new d6 (.cells (Ev.cl ⟨3,y.id,c.pk.tu⟩).toArray 68);have a3:Ext d6 e6:=by rw [←f7];exact Ea
 rw [f7]at d1⊢;clear f7;have E:=E.tr a3;have m:=m.ext a3;have t:=t.ext a3;have A:=A.ext a3;have o:=o.ext a3;have n:=n.ext a3;have s:=s.ext a3;have D:=D.ext a3;have hA: ∀j u,(Ev.cl ⟨3,y.id,c.pk.tu⟩)[j]?=some u→e6.cell? ⟨d6.heap.size,j,none⟩=some u:=fun j u hu=>by simp only [World.cell?,d1];simpa using hu
 have H:=Xt H a3.size;refine Qr hS.2.2.2.2.1 (QkM (m':=127) (base:=lo) (v1:= .slice J 1 L) (b1:= [(⟨2,a.id,c.pk.tu⟩:Ev)]) (x1:=⟨3,y.id,c.pk.tu⟩) rfl rfl Kr Kr s hA e9 (fun r e=>e) (fun k h=> .inr h) H ?_);intro v' f8 s h7 O;have E:=E.trn O (fun q e=> .inr (c9 q e));have m:=m.mv O c7;have t:=t.mv O c8;have A:=A.mv O b6;have o:=o.mv O b7;have n:=n.mv O b8;have H:=Xt H O.size;have D:=D.mvg O (fun b off e f=>by first|exact b9 b off e f|exact c0 b off e f);have a9:=Ext.rf f8;have E:=E.tr a9;have m:=m.ext a9;have t:=t.ext a9;have A:=A.ext a9;have o:=o.ext a9;have n:=n.ext a9;have s:=s.ext a9;have D:=D.ext a9;have g:=hS.2.2.2.2.2.1;refine tWk 255 (.pointer (some ⟨I,1,none⟩)) hS.1 g rfl fun g=> ?_;refine Qr hS.2.2.2.2.2.2.1 (QE (m':=511) rfl rfl Kr (Qdo (B:=I) (i:=1) (v:=v') (u:= .slice J 1 L) (n.cell 1 (by show 1<3;omega)) (n.frz 1) (Qe9 s) Kr Kr) ⟨.inl Dc,(Mv.st _ (.inl (.inl rfl)) (Mv.refl _ _))⟩ ?_);obtain⟨c6,e7⟩: ∃c6,World.setCell f8 ⟨I,1,none⟩ v'=c6:=⟨_,rfl⟩;have G:Mv (fun q=>q=I) f8 c6:=by rw [←e7];exact Mv.st _ (.inl rfl) (Mv.refl _ _)
 have n:RowZ c6 I #[.int .u8 0,v',.slice none 0 0]:=by rw [←e7];exact n.set 1 _
 have E:=E.trn G (fun q e=> .inr Om);have m:=m.mv G Om;have t:=t.mv G Om;have A:=A.mv G Om;have o:=o.mv G Om;have s:=s.mv G (fun q hq e=>by omega);have H:=Xt H G.size;have D:=D.mvg G (fun b off e f=>by first|exact b9 b off e f|exact c0 b off e f);rw [e7];clear e7;refine QZ hS.2.2.2.2.2.2.2.1 ?_;clear hS g c7 c8 b6 b7 b8 c9 d0 X P;obtain⟨J,L,rfl,-,-⟩:=SlE.own s;have e1:([(⟨2,a.id,c.pk.tu⟩:Ev)]++ [(⟨3,y.id,c.pk.tu⟩:Ev)])= [⟨2,a.id,c.pk.tu⟩,⟨3,a.id,c.pk.tu⟩]:=by rw [g9];rfl
 rw [e1]at n s⊢;clear e1;rw [show([(⟨2,a.id,c.pk.tu⟩:Ev),⟨3,a.id,c.pk.tu⟩]).length=2 from rfl]at n s⊢;clear b9 c0 g1
 go_upto_region 5 with(fail)
 refine Qy (fun _=>False) (fun q=>q=Ba) 14 Kr ?_;have c1: ¬(fun q=>q=Ba) b2:=d7;have X: ¬(fun q=>q=Ba) V:=d8;obtain⟨WG,K⟩: ∃Wdr,World.drew c6=Wdr:=⟨_,rfl⟩;have F:Ext c6 WG:=by rw [←K];exact Ext.dr (Ext.rf _)
 rw [K];clear K;have E:=E.tr F;have m:=m.ext F;have t:=t.ext F;have A:=A.ext F;have o:=o.ext F;have n:=n.ext F;have s:=s.ext F;have D:=D.ext F;have H:=Xt H F.size;refine Zi (N:=15) (R:=QqM) (E:=((Tryz.f114.body.bind (Qh 5)).getD #[])) Kr QkV Kr fun hS=> ?_;have g:=hS.2.1;refine tW 1 (.pointer (some ⟨Ba,0,none⟩)) hS.1 g rfl (Qbf (t.cell 0 Nat.zero_lt_one) t.l c1 Kr) fun g=>tW 3 (.pointer (some ⟨Ba,0,none⟩)) hS.1 g rfl (Qbf (t.cell 0 Nat.zero_lt_one) t.l c1 Kr) fun g=>tWk 7 (.pointer (some ⟨Ba,0,none⟩)) hS.1 g rfl fun g=>tWk 15 (.pointer (some ⟨Ba,66,none⟩)) hS.1 g rfl fun g=> ?_;refine ZD (N:=15) (k:=4) (m':=31) (v:= .slice y.p y.xs.length y.c) hS.1 g hS.2.2.2.2.2.2 rfl rfl Kr (QaB (C:=fun _=>False) (by rw [Qa,m.r,Qu]) m.l (fun h=>h) Kr) fun g=>tWk 63 (.pointer (some ⟨V,11,none⟩)) hS.1 g rfl fun g=>tWk 127 (.pointer (some ⟨V,11,none⟩)) hS.1 g rfl fun g=>tW 255 (.agg #[.int .u32 c.pk.tu.a,.int .u32 c.pk.tu.b,.int .u16 c.pk.tu.c,.int .u16 c.pk.tu.d]) hS.1 g rfl (Qe8 (Q2 o 11 (by show 11<18;omega)) (Q2 o 12 (by show 12<18;omega)) (Q2 o 13 (by show 13<18;omega)) (Q2 o 14 (by show 14<18;omega)) o.l X Kr) fun g=> ?_;refine sV 511 (Qmf lo (withX (fun xs k=>xs.eraseIdx k) y.xs c.pk.tu) (withOk y.xs c.pk.tu)) hS.2.2.1 rfl (Qs3 lo c.pk.tu y.p y.xs y.c WG (D.ext (by first|exact Ext.rf _|exact a7)) h0 Om) ?_;rintro _ g7 a7 ⟨Q,S,rfl,sn,nn⟩;have E:=E.tr a7;have m:=m.ext a7;have t:=t.ext a7;have A:=A.ext a7;have o:=o.ext a7;have n:=n.ext a7;have s:=s.ext a7;have H:=Xt H a7.size;have g:=hS.2.2.2.1;refine tWk 1023 (.tuple #[.slice Q (withX (fun xs k=>xs.eraseIdx k) y.xs c.pk.tu).length S,.bool (withOk y.xs c.pk.tu)]) hS.1 g rfl fun g=>tWk 2047 (.slice Q (withX (fun xs k=>xs.eraseIdx k) y.xs c.pk.tu).length S) hS.1 g rfl fun g=>tWk 4095 (.bool (withOk y.xs c.pk.tu)) hS.1 g rfl fun g=>tWk 8191 (.pointer (some ⟨Ba,0,none⟩)) hS.1 g rfl fun g=>tWk 16383 (.pointer (some ⟨Ba,66,none⟩)) hS.1 g rfl fun g=> ?_;refine Qr hS.2.2.2.2.1 (QE (m':=32767) rfl rfl Kr (Qdn (B:=Ba) (i:=66) (v:= .slice Q (withX (fun xs k=>xs.eraseIdx k) y.xs c.pk.tu).length S) (u:= .slice y.p y.xs.length y.c) (by rw [Qa,m.r,Qu]) (m.frz 66) ⟨_,_,_,rfl⟩ Kr Kr) ⟨.inl Dc,(Mv.st _ (.inl rfl) (Mv.refl _ _))⟩ ?_);obtain⟨Z,e8⟩: ∃Z,World.setCell g7 ⟨Ba,66,none⟩ (.slice Q (withX (fun xs k=>xs.eraseIdx k) y.xs c.pk.tu).length S)=Z:=⟨_,rfl⟩;have G:Mv (fun q=>q=Ba) g7 Z:=by rw [←e8];exact Mv.st _ (.inl rfl) (Mv.refl _ _)
 have m:RowZ Z Ba (agv {y with p:=Q,xs:=(withX (fun xs k=>xs.eraseIdx k) y.xs c.pk.tu),c:=S}):=by rw [←e8];exact⟨Qab (a:=y) Q (withX (fun xs k=>xs.eraseIdx k) y.xs c.pk.tu) S m.r,by rw [QR];exact m.z,by rw [Zk];exact m.l⟩
 have E:=E.trans G;have t:=t.mv G d7;have A:=A.mv G f9;have o:=o.mv G d8;have n:=n.mv G g0;have sn:=sn.mvo G (fun b off e=>by have:=nn b off e;omega);have s:=s.mv G (fun q hq e=>by omega);have H:=Xt H G.size;rw [e8];clear e8;refine QZ hS.2.2.2.2.2.1 ?_;clear hS g;obtain⟨M,U⟩: ∃M,({y with p:=Q,xs:=(withX (fun xs k=>xs.eraseIdx k) y.xs c.pk.tu),c:=S}:Ag)=M:=⟨_,rfl⟩;have m:RowZ Z Ba (agv M):=by rw [←U];exact m
 have D:SlC Z M.p M.xs:=by rw [←U];exact sn
 have g5:M.xs=(withX (fun xs k=>xs.eraseIdx k) y.xs c.pk.tu):=by rw [←U]
 have c2: ∀b off,M.p=some ⟨b,off,none⟩→lo≤b:=by rw [←U];exact nn
 have h2:=Xh U;have h3:=Xh g5;clear U g5 sn nn c1 X G
 go_upto_region 6 with(fail)
 obtain⟨i0,i1,h,-,se⟩:=SlE.own s
 cases h
 have d4:=Qi s;have HC:=Xh (show Mv (fun q=>q=Ba) w Z∧RowZ Z Ba (agv M)∧SlC Z M.p M.xs∧SlE Z J [(⟨2,a.id,c.pk.tu⟩:Ev),⟨3,a.id,c.pk.tu⟩]∧(∀b off,M.p=some ⟨b,off,none⟩→lo≤b)∧(∀b off,J=some ⟨b,off,none⟩→lo≤b)from⟨E,m,D,se,fun b off e=>by have:=c2 b off e;omega,fun b off e=>by have:=d4 b (by rw [e];rfl);omega⟩);have q4:=n.r;have f4:=n.z;have z4:=n.l;clear E m D se c2 d4 s n t A o;go_wp2;obtain⟨W5,h5⟩: ∃W5,Qe Z I 0 #[.int .u8 0,.slice J ([(⟨2,a.id,c.pk.tu⟩:Ev),⟨3,a.id,c.pk.tu⟩]).length L,.slice none 0 0]=W5:=⟨_,rfl⟩;have q5:Qc W5 I=#[.int .u8 0,.slice J ([(⟨2,a.id,c.pk.tu⟩:Ev),⟨3,a.id,c.pk.tu⟩]).length L,.slice none 0 0]:=by rw [←h5];exact Qq _ _ _ (by rw [q4];rfl)
 have c3:=h5;simp only [List.length_cons,List.length_nil,Nat.zero_add,Nat.reduceAdd]at c3;rw [c3];clear c3;obtain⟨E,m,D,se,h8,h9⟩:=HC.out;have hd:QfB a c=M.xs:=by unfold QfB;rw [d3.out,if_pos rfl,←g4.out];exact h3.out.symm
 have f2:Qdq a c= [⟨2,a.id,c.pk.tu⟩,⟨3,a.id,c.pk.tu⟩]:=by unfold Qdq;rw [d3.out];rfl
 rw [hd,f2];have f3:({a with p:=M.p,xs:=M.xs,c:=M.c}:Ag)=M:=by rw [←h2.out,←g2.out]
 exact bodyPost_ret (Zv rfl _ _ I rfl (Qad q5 rfl)) rfl (QcK (lo:=lo) (a:=a) (p:=M.p) (xs:=M.xs) (c:=M.c) (es:= [(⟨2,a.id,c.pk.tu⟩:Ev),⟨3,a.id,c.pk.tu⟩]) (ss:= []) h5 E (by rw [f3];exact m) D se (SlBB.nil _ none) Om Om Om (.inl h8) h9 (fun b off e=>by cases e))
@[go_sem] theorem Qxi{c:Cm}:QB (cmv c) 4 6=opv c.o:=rfl
theorem QvT(h0:RowZ w B cs)(h6:cs.size=6)(hC: ¬C B)
  (hx:ρ q= .pointer (some ⟨B,0,none⟩)): ∀w',Mv C w w'→(execOp ρ ⟨dst,.load 75 q,ty,pos,after,g⟩).run Tryz.prog w'= .ok (.value (.agg cs)) w':=by
 intro w' b;have a:=h0.mv b hC;have e:=Qct ρ dst q ty pos after g w' (by rw [hx];rfl) (by rw [hx];show Fits 0 6 (Qc w' B);rw [a.r];unfold Fits;omega);rw [e,hx];show Result.ok (Next.value (Value.agg (QB (Qc w' B) 0 6))) w'=_;rw [a.r,Q9 _ 6 h6]
theorem QqN(lo:Nat){W:World}{F:Nat}{args:Array Value}{bs:List Int}(h:Calls Tryz.prog F args W fun e w'=> ∃v,e= .returned (.tuple #[v,.int .u8 0])∧Z8 W w' v bs)(hlo:lo≤W.heap.size):
  Calls Tryz.prog F args W fun e w'=> ∃v,e= .returned v∧(∃p q,v= .tuple #[.slice p bs.length q,.int .u8 0]∧SlB w' p bs∧(∀b off,p=some ⟨b,off,none⟩→lo≤b)∧bs.length≤q)∧Ext W w':=
 h.mono fun e w' ⟨v,h1,h2⟩=>by
  obtain⟨p,q,a,c,s⟩:=h2.sl;subst a;exact⟨_,h1,⟨p,q,rfl,s,fun b off e2=>Xt hlo (Qi h2.own b (by rw [e2];rfl)),c⟩,h2.ext⟩
theorem Qs4:(Tryz.prog.info? 28).map (fun i=>(i.zero,i.size,i.bytes))=some (some (.slice none 0 0),1,24):=Kr
theorem QvU{a:Option Addr}{c:Nat}(h0:w.cell? ⟨B,i,none⟩=some (.slice a m c))(hl:Lt B w)(hC: ¬C B)
  (hx:ρ q= .pointer (some ⟨B,i,none⟩)): ∀w',Mv C w w'→(execOp ρ ⟨dst,.load 40 q,ty,pos,after,g⟩).run Tryz.prog w'= .ok (.value (.slice a m c)) w':=by
 intro w' b;have d:w'.cell? ⟨B,i,none⟩=some (.slice a m c):=by rw [Qa,Qf (b.same B hl hC),←Qa];exact h0
 simp only [execOp,hx];go_simp
theorem QqO{u:Value}(hc:w.cell? ⟨B,i,none⟩=some u)(hf:w.frozen? ⟨B,i,none⟩=false)(hv: ∃a m c,v= .slice a m c)
  (hx:ρ x= .pointer (some ⟨B,i,none⟩))(hy:ρ y=v):(execOp ρ ⟨dst,.store 40 x y,ty,pos,after,g⟩).run Tryz.prog w= .ok .skip (w.setCell ⟨B,i,none⟩ v):=by
 obtain⟨a,m,c,rfl⟩:=hv;simp only [execOp,hx,hy];go_simp
theorem QnE{p:Option Addr}{n:Nat}(hx:ρ q= .slice p n m)(w:World):
  (execOp ρ ⟨dst,.buildSlice 40 1 #[(0,q)],ty,pos,after,g⟩).run Tryz.prog w= .ok (.value (.slice (some ⟨w.heap.size,0,none⟩) 1 1)) (w.alloc (.cells #[.slice p n m] 28)):=by
 simp only [execOp,List.map_toArray,List.map_cons,List.map_nil,hx];go_simp
theorem QqP{A:Nat}{u:Value}(hA:w.cell? ⟨A,0,none⟩=some u)(hu:u.oneCell'=true)(ty:TypeId): ∃g cap w',(Builtin.append_ #[40,40] ty #[.slice none 0 0,.slice (some ⟨A,0,none⟩) 1 1]).run Tryz.prog w= .ok (.slice (some ⟨g,0,none⟩) 1 cap) w'∧w.heap.size≤g∧g<w'.heap.size∧w'.cell? ⟨g,0,none⟩=some u∧Ext w w':=by
 obtain⟨c,d,f,i,k⟩:=info_parts Qs4
 obtain⟨o,w',l,m,n,-,-⟩:=run_append_own_at (P:=Tryz.prog) w w.heap.size 40 ty 28 c (.slice none 0 0) 1 24 Tryz.underlying40 d f i k rfl Dc (.slice none 0 0) 0 [] (World.ownsRow_nil w w.heap.size 28 1) ⟨A,0,none⟩ 1 1 [u] rfl (fun j x hx=>by
  cases j with
  |zero=>simp at hx;subst hx;exact hA
  |succ j=>simp at hx) (fun x hx=>by simp at hx;subst hx;exact hu) (by unfold maxLen;omega) Om (Nat.le_refl _)
 have b:Ext w w':=Mv.ext (C:=fun _=>False) (Mv.of_grown n fun r e=>by cases e) (fun _ _ h=>h);rcases m.2 with⟨-,h0⟩|⟨g,cap,cur,rfl,hgl,hgb,h1,h2,h3,h4⟩
 ·simp at h0
 ·refine⟨g,cap,w',l,hgl,(Array.getElem?_eq_some_iff.1 hgb).1,?_,b⟩;have a:(cur.toList.take 1)[0]?=some u:=by rw [show(1:Nat)=(0+1)*1 from rfl,h4];rfl
  rw [List.getElem?_take_of_lt Om]at a;simp only [World.cell?,hgb];simpa using a
theorem Qi0{i:Int}(h:0≤i∧i<6):((2,i):Int×Int)∈Qx:=by
 obtain⟨a,b⟩:=h;have:i=0∨i=1∨i=2∨i=3∨i=4∨i=5:=by omega
 rcases this with rfl|rfl|rfl|rfl|rfl|rfl<;>decide
def QqQ(ops:Array Oper):Prop:=Region.noSelect ops=true∧Qv ops 19 [0,1,2,3,5,6,8,9,10,11] 0=true∧Rd ops 19 3951 [4]∧Rd ops 19 3967 [7]∧Qv ops 19 [12] 4095=true∧Rd ops 19 8191 [13]∧Qv ops 19 [14,15,16,17,18] 16383=true∧Rd ops 19 524287 []
theorem QkW:QqQ ((Tryz.f120.body.bind (Qh 2)).getD #[]):=⟨Kr,Kr,Rk,Rk,Kr,Rk,Kr,Rk⟩
theorem J8(x:Ru.Ac)(c:Cm)(a:Ag)(Ba b1 b2:Nat)(pl:List Int)(w:World)(ra:RowZ w Ba (agv a))(rb:RowZ w b2 #[.pointer (some ⟨Ba,0,none⟩)])(rx:RowZ w b1 (acv x))(hs:SlC w a.p a.xs)(hlt: ∀b off,a.p=some ⟨b,off,none⟩→b<w.heap.size)
  (hid:0≤a.id∧a.id<6)(hx:0≤x.t∧x.t<6)(hk:0≤x.k∧x.k<256)(hbu:0≤c.o.bu∧c.o.bu<256)(ho:ZO {c.o with ki:=x.k,ge:=x.g}=true)
  (hN:c.iN≤1000)(hN0:(c.ip=none∧pl= [])∨ ∃b off,c.ip=some ⟨b,off,none⟩)(hpl:pl.length=c.iN)(hcp:c.iN≤c.ic)(sp:SlB w c.ip pl)(rp:ByR pl)(hpp: ∀b off,c.ip=some ⟨b,off,none⟩→b<w.heap.size):
  Calls Tryz.prog 120 #[.agg (cmv c),.pointer (some ⟨b1,0,none⟩),.pointer (some ⟨b2,0,none⟩)] w (Qdp w Ba a 0 a.xs [] [ipB (QD (2,a.id)) (QD (2,x.t)) (Ym {c.o with ki:=x.k,ge:=x.g}) pl]):=by
 obtain⟨G,U⟩: ∃G,({c.o with ki:=x.k,ge:=x.g}:Opt)=G:=⟨_,rfl⟩;have a0: ∀W,Cr 121 #[.agg (opv c.o),.int .u8 x.k,.int .i64 x.g] W (.tuple #[.agg (opv G),.int .i64 0]):=fun W=>by
  have h:=QjN c.o x.k x.g W hbu hk;unfold QgW QgX at h;rw [ho,if_pos rfl,if_pos rfl,U]at h;exact h
 have a1: ∀W,SlB W c.ip pl→w.heap.size≤W.heap.size→Calls Tryz.prog 96 #[.agg (wrV (2,a.id) (2,x.t) G (.slice c.ip c.iN c.ic))] W fun e w'=> ∃v,e= .returned (.tuple #[v,.int .u8 0])∧Z8 W w' v (ipB (QD (2,a.id)) (QD (2,x.t)) (Ym G) pl):=fun W hsp hw=>
  Qb9 (2,a.id) (2,x.t) G pl c.ip c.iN c.ic W (Qi0 hid) (Qi0 hx) (by rw [←U];exact hk) (by rw [←U];exact hbu) (by rw [←U];exact ho) hN hN0 hpl hcp hsp rp (fun b off e=>by have:=hpp b off e;omega)
 rw [U];obtain⟨u,b7⟩: ∃u,ipB (QD (2,a.id)) (QD (2,x.t)) (Ym G) pl=u:=⟨_,rfl⟩;rw [b7]at a1⊢;have a0:=Xh a0;have a1:=Xh a1;clear ho hN hN0 hpl hcp rp hpp hid hx hk hbu U b7;have lA:Ba<w.heap.size:=ra.l;have lB:b2<w.heap.size:=rb.l;have lX:b1<w.heap.size:=rx.l
 go_enter Tryz.func120,Tryz.ntmps120
 go_upto_region 1 with(fail)
 obtain⟨M,j⟩: ∃M,(w.alloc (.cells (cmv c) 98)).alloc (.cells #[.int .u8 0,.slice none 0 0,.slice none 0 0] 42)=M:=⟨_,rfl⟩;have E:Ext w M:=by rw [←j];exact Ext.al Ea _
 have s:RowZ M w.heap.size (cmv c):=by rw [←j];exact⟨by simp [go_sem],by simp [go_sem],by simp [go_sem,Lt]⟩
 have f:RowZ M (w.heap.size+1) #[.int .u8 0,.slice none 0 0,.slice none 0 0]:=by rw [←j];exact⟨by simp [go_sem],by simp [go_sem],by simp [go_sem,Lt]⟩
 have V:M.heap.size=w.heap.size+2:=by rw [←j];simp
 rw [j];clear j;have ra:=ra.ext E;have rb:=rb.ext E;have rx:=rx.ext E;have hs:=hs.ext E;have sp:=sp.ext E;obtain⟨b3,e3⟩: ∃b,w.heap.size=b:=⟨_,rfl⟩;rw [e3]at s f V lA lB lX hlt⊢;obtain⟨y,e4⟩: ∃b,b3+1=b:=⟨_,rfl⟩;rw [e4]at f⊢;have q3:=s.r;have c2:M.cell? ⟨b1,2,none⟩=some (.int .u8 x.k):=rx.cell 2 (by show 2<5;omega);have c3:M.cell? ⟨b1,4,none⟩=some (.int .i64 x.g):=rx.cell 4 (by show 4<5;omega);have HH:=Xh (And.intro E (And.intro ra (And.intro rb (And.intro rx (And.intro hs (And.intro sp (And.intro s f)))))));have a5:=Xh V;clear E ra rb rx hs sp s f V
 go_upto_region 2 with(go_at_call 121;(refine(a0.out _).mono ?_);rintro e K ⟨rfl,g1⟩)
 obtain⟨E,ra,rb,rx,hs,sp,s,f⟩:=HH.out;have V:=a5.out;have c4:M.heap.size≤K.heap.size:=g1.size;obtain⟨b5,e5⟩: ∃b,K.heap.size=b:=⟨_,rfl⟩;obtain⟨Q,j⟩: ∃Q,Qe (K.alloc (.cells #[.int .u8 0,.int .u8 0,.int .i64 0,.int .i64 0,.int .i64 0,.int .i64 0] 75)) K.heap.size 0 (opv G)=Q:=⟨_,rfl⟩;have gn:Ext K (K.alloc (.cells #[.int .u8 0,.int .u8 0,.int .i64 0,.int .i64 0,.int .i64 0,.int .i64 0] 75)):=Ext.al (Ext.rf _) _;have D:Ext K Q:=by rw [←j];exact Mv.ext_of (C:=fun q=>q=K.heap.size) gn (Mv.sa _ rfl (Mv.refl _ _)) (fun q e=>by omega)
 have F:RowZ Q b5 (opv G):=by
  rw [←j,←e5];exact(show RowZ (K.alloc (.cells #[.int .u8 0,.int .u8 0,.int .i64 0,.int .i64 0,.int .i64 0,.int .i64 0] 75)) K.heap.size #[.int .u8 0,.int .u8 0,.int .i64 0,.int .i64 0,.int .i64 0,.int .i64 0]from RowZ.new _ _ _).all _ rfl
 have c5:b5<Q.heap.size:=F.l;rw [j,e5];clear j gn c2 c3 q3 a0 a5;have D:=g1.tr D;have E:=E.tr D;have ra:=ra.ext D;have rb:=rb.ext D;have rx:=rx.ext D;have hs:=hs.ext D;have sp:=sp.ext D;have s:=s.ext D;have f:=f.ext D;obtain⟨lo,d2⟩: ∃lo,b5+1=lo:=⟨_,rfl⟩;have a6:lo≤Q.heap.size:=by omega
 have d0:y<b5:=by omega
 clear HH g1 D e5 c4 V c5;refine QO (fun _=>False) Kr ?_;obtain⟨WA,j⟩: ∃Wdr,World.drew Q=Wdr:=⟨_,rfl⟩;have J:Ext Q WA:=by rw [←j];exact Ext.dr (Ext.rf _)
 rw [j];clear j;have E:=E.tr J;have ra:=ra.ext J;have rb:=rb.ext J;have rx:=rx.ext J;have s:=s.ext J;have f:=f.ext J;have F:=F.ext J;have hs:=hs.ext J;have sp:=sp.ext J;have a6:=Xt a6 J.size;refine QaH (N:=19) (R:=QqQ) (E:=((Tryz.f120.body.bind (Qh 2)).getD #[])) Kr QkW Kr fun hS=> ?_;have d:=hS.2.1;refine tM 1 (.pointer (some ⟨Ba,0,none⟩)) hS.1 d rfl (Qbf (C:=fun _=>False) (rb.cell 0 Nat.zero_lt_one) rb.l (fun h=>h) Kr) fun d=>tMk 3 (.pointer (some ⟨Ba,0,none⟩)) hS.1 d rfl fun d=>tMk 7 (.pointer (some ⟨Ba,0,none⟩)) hS.1 d rfl fun d=>tM 15 (.int .i64 a.id) hS.1 d rfl (Q0 (C:=fun _=>False) (ZQ ra.r) ra.l (fun h=>h) Kr) fun d=>tMk 47 (.pointer (some ⟨b1,3,none⟩)) hS.1 d rfl fun d=>tM 111 (.int .i64 x.t) hS.1 d rfl (Q0 (C:=fun _=>False) (rx.cell 3 (by show 3<5;omega)) rx.l (fun h=>h) Kr) fun d=>tM 367 (.agg (opv G)) hS.1 d rfl (QvT (C:=fun _=>False) F rfl (fun h=>h) Kr) fun d=>tMk 879 (.pointer (some ⟨b3,0,none⟩)) hS.1 d rfl fun d=>tMk 1903 (.pointer (some ⟨b3,10,none⟩)) hS.1 d rfl fun d=>tM 3951 (.slice c.ip c.iN c.ic) hS.1 d rfl (JY (C:=fun _=>False) (Q2 s 10 (by show 10<18;omega)) s.l (fun h=>h) Kr) fun d=> ?_;refine sM 3967 (fun v _=>v= .agg #[.int .u8 2,.int .i64 a.id]) hS.2.2.1 rfl (ZC (Qdc a.id WA)) ?_;rintro _ c7 H rfl;have E:=E.tr H;have ra:=ra.ext H;have rb:=rb.ext H;have rx:=rx.ext H;have s:=s.ext H;have f:=f.ext H;have F:=F.ext H;have hs:=hs.ext H;refine sM 4095 (fun v _=>v= .agg #[.int .u8 2,.int .i64 x.t]) hS.2.2.2.1 rfl (ZC (Qdc x.t c7)) ?_;rintro _ c8 I rfl;have E:=E.tr I;have ra:=ra.ext I;have rb:=rb.ext I;have rx:=rx.ext I;have s:=s.ext I;have f:=f.ext I;have F:=F.ext I;have hs:=hs.ext I;have d:=hS.2.2.2.2.1;refine tMk 8191 (.agg (wrV (2,a.id) (2,x.t) G (.slice c.ip c.iN c.ic))) hS.1 d rfl fun d=> ?_;refine sM 16383 (fun v W'=> ∃p q,v= .tuple #[.slice p u.length q,.int .u8 0]∧SlB W' p u∧(∀b off,p=some ⟨b,off,none⟩→lo≤b)∧u.length≤q) hS.2.2.2.2.2.1 rfl (QqN lo (a1.out c8 (sp.ext (by first|exact Ext.rf _|exact H.tr I)) E.size) (by have:=H.size;have:=I.size;omega)) ?_;rintro _ S O ⟨L,P,rfl,sb,b8,c9⟩;have E:=E.tr O;have ra:=ra.ext O;have rb:=rb.ext O;have rx:=rx.ext O;have s:=s.ext O;have f:=f.ext O;have F:=F.ext O;have hs:=hs.ext O;have d:=hS.2.2.2.2.2.2.1;refine tMk 32767 (.tuple #[.slice L u.length P,.int .u8 0]) hS.1 d rfl fun d=>tMk 65535 (.slice L u.length P) hS.1 d rfl fun d=>tMk 131071 (.int .u8 0) hS.1 d rfl fun d=>tMk 262143 (.slice L u.length P) hS.1 d rfl fun d=>tMk 524287 (.int .u8 0) hS.1 d rfl fun d=> ?_;refine doneK hS.2.2.2.2.2.2.2 ?_;clear hS d;have d1:b3+1=y:=e4
 go_upto_region 3 with(fail)
 obtain⟨W5,j⟩: ∃W5,S.alloc (.cells #[.slice L u.length P] 28)=W5:=⟨_,rfl⟩;have g5:Ext S W5:=by rw [←j];exact Ea
 have hA:W5.cell? ⟨S.heap.size,0,none⟩=some (.slice L u.length P):=by rw [←j];simp [go_sem]
 obtain⟨g,Y,Z,b9,d3,c0,c1,g6⟩:=QqP hA rfl 40;have a2:RowZ Z y #[.int .u8 0,.slice none 0 0,.slice none 0 0]:=(f.ext g5).ext g6;obtain⟨A,a4⟩: ∃A,Z.setCell ⟨y,2,none⟩ (.slice (some ⟨g,0,none⟩) 1 Y)=A:=⟨_,rfl⟩;refine wp_region_lit ?_;refine listV (v:= .pointer (some ⟨y,2,none⟩)) (w':=S) rfl Kr ?_;refine listV rfl (QvU (C:=fun _=>False) (f.cell 2 (by show 2<3;omega)) f.l (fun h=>h) Kr _ (Mv.refl _ _)) ?_;refine listV (v:= .slice L u.length P) (w':=S) rfl Kr ?_;refine listV rfl (QnE (p:=L) (n:=u.length) (m:=P) Kr _) ?_;rw [j];refine listV rfl (Qa9 (v1:= .slice none 0 0) (v2:= .slice (some ⟨S.heap.size,0,none⟩) 1 1) Kr Kr b9) ?_;refine listV (v:= .pointer (some ⟨y,2,none⟩)) (w':=Z) rfl Kr ?_;refine Zj rfl (QqO (B:=y) (i:=2) (v:= .slice (some ⟨g,0,none⟩) 1 Y) (a2.cell 2 (by show 2<3;omega)) (a2.frz 2) ⟨_,_,_,rfl⟩ Kr Kr) ?_;refine wpList_nil ?_;have f:RowZ A y #[.int .u8 0,.slice none 0 0,.slice (some ⟨g,0,none⟩) 1 Y]:=by rw [←a4];exact a2.set 2 _
 have T:Mv (fun q=>q=y) Z A:=by rw [←a4];exact Mv.st _ (.inl rfl) (Mv.refl _ _)
 rw [a4];have X:Ext S Z:=g5.tr g6;have E6:=E.tr X;have c6:lo≤S.heap.size:=by have:=H.size;have:=I.size;have:=O.size;omega
 have a3:lo≤g:=by have:=g5.size;omega
 have E7:Mv (fun q=>q=Ba) w A:=(Mv.of_ext E6).trn T (fun q e=> .inr Om);have a7:RowZ A Ba (agv a):=(ra.ext X).mv T Om;have a8:SlC A a.p a.xs:=(hs.ext X).mvg T (fun b off e=>by have:=hlt b off e;omega);have a9:g<A.heap.size:=Xl c0 T.size;have b0:A.cell? ⟨g,0,none⟩=some (.slice L u.length P):=by rw [Qa,Qf (T.same g c0 Om),←Qa];exact c1
 have b6:SlB A L u:=(sb.ext X).mvg T (fun b off e=>by have:=b8 b off e;omega);have HC:=Xh (And.intro E7 (And.intro a7 (And.intro a8 (And.intro a9 (And.intro b0 (And.intro b6 (And.intro a3 hlt)))))));have q4:=f.r;have f4:=f.z;have z4:=f.l;clear E7 a7 a8 a9 b0 b6 a3 hlt E6 X c6 T a2 b9 c1 hA g5 g6 a4 j E ra rb rx s F hs sb f;go_simp;go_wp2;obtain⟨W8,h8⟩: ∃W8,Qe A y 0 #[.int .u8 0,.slice none 0 0,.slice (some ⟨g,0,none⟩) 1 Y]=W8:=⟨_,rfl⟩;have q5:Qc W8 y=#[.int .u8 0,.slice none 0 0,.slice (some ⟨g,0,none⟩) 1 Y]:=by rw [←h8];exact Qq _ _ _ (by rw [q4])
 rw [h8];obtain⟨E,ra,hs,hg,hc,sb,a3,hlt⟩:=HC.out;have m8:Mv (fun q=>q=y) A W8:=by rw [←h8];exact Mv.sa _ rfl (Mv.refl _ _)
 exact bodyPost_ret (Zv rfl _ _ y rfl (Qad q5 rfl)) rfl (QcK (lo:=lo) (a:=a) (p:=a.p) (c:=a.c) (es:= []) (ss:= [u]) h8 E ra hs (SlE.nil _ none) (fun k hk=>by
  obtain rfl:k=0:=by simp at hk;exact hk
  exact⟨g,0,L,P,rfl,Xl hg m8.size,by rw [Qa,Qf (m8.same g hg Om),←Qa];exact hc,sb.mvg m8 (fun b off e=>by have:=b8 b off e;omega),c9⟩) Om Om Om (.inr ⟨rfl,fun b off e=>by have:=hlt b off e;omega⟩) (fun b off e=>by cases e) (fun b off e=>by cases e;exact a3))
theorem Qfb:Ru.Qfp Tryz.prog 5 (fun x=> ∃n:Int,x= .int .u8 n):=Ru.Qye .u8 Tryz.underlying5
theorem Qs5(w:World):
  (execOp ρ ⟨dst,.makeMap 108 none,ty,pos,after,g⟩).run Tryz.prog w= .ok (.value (.map (some w.heap.size))) (w.alloc (.map #[] 0)):=by
 have:=run_makeMap (P:=Tryz.prog) 108 w;simp [execOp,this,Result.andThen]
theorem QcM{w':World}{m k:Value}{p r:Operand}(hp:ρ p=m)(hq:ρ q=k)(hr:ρ r=v)
  (h:(Instr.mapUpdate 108 m k v).run Tryz.prog w= .ok () w'):(execOp ρ ⟨dst,.insert 108 p q r,ty,pos,after,g⟩).run Tryz.prog w= .ok .skip w':=by
 simp only [execOp,hp,hq,hr,Sem.run_bind,h,Result.andThen_ok,Sem.run_pure]
structure Qdr(w:World)(m:Value)(x:Ru.Ac)(Ba b1 b2 bc:Nat):Prop where
 is: ∃B f,m= .map (some B)∧Ru.ZE (fun x=> ∃n:Int,x= .int .u8 n) w B f∧f (.int .u8 0)=some (.func (.func 113) #[] #[.pointer (some ⟨b1,0,none⟩)])∧f (.int .u8 1)=some (.func (.func 114) #[] #[.pointer (some ⟨bc,0,none⟩),.pointer (some ⟨b2,0,none⟩)])∧f (.int .u8 2)=some (.func (.func 118) #[] #[.pointer (some ⟨b2,0,none⟩),.pointer (some ⟨bc,0,none⟩)])∧f (.int .u8 3)=some (.func (.func 120) #[] #[.pointer (some ⟨b1,0,none⟩),.pointer (some ⟨b2,0,none⟩)])
 rx:RowZ w b1 (acv x)
 rb:RowZ w b2 #[.pointer (some ⟨Ba,0,none⟩)]
 rc:RowZ w bc #[.func (.func 112) #[] #[.pointer (some ⟨b2,0,none⟩)]]
 ne:Ba≠b2∧Ba≠bc∧Ba≠b1
theorem QqR(x:Ru.Ac)(Ba:Nat)(w:World)(lA:Ba<w.heap.size):
  Calls Tryz.prog 48 #[.pointer (some ⟨Ba,0,none⟩),.agg (acv x)] w fun e w'=> ∃m b1 b2 bc,e= .returned m∧Qdr w' m x Ba b1 b2 bc∧Ext w w':=by
 unfold acv
 go_enter Tryz.func48,Tryz.ntmps48
 go_upto_region 2 with(fail)
 obtain⟨V,u⟩: ∃V,(((w.alloc (.cells #[.pointer (some ⟨Ba,0,none⟩)] 110)).alloc (.cells #[.int .u8 x.d,.int .u8 x.x,.int .u8 x.k,.int .i64 x.t,.int .i64 x.g] 105)).alloc (.cells #[.func (.func 112) #[] #[.pointer (some ⟨w.heap.size,0,none⟩)]] 168))=V:=⟨_,rfl⟩;have E:Ext w V:=by rw [←u];exact Ext.al (Ext.al Ea _) _
 have s:RowZ V w.heap.size #[.pointer (some ⟨Ba,0,none⟩)]:=by rw [←u];exact⟨by simp [go_sem],by simp [go_sem],by simp [go_sem,Lt]⟩
 have p:RowZ V (w.heap.size+1) (acv x):=by rw [←u];exact⟨by simp [go_sem,acv],by simp [go_sem],by simp [go_sem,Lt]⟩
 have j:RowZ V (w.heap.size+1+1) #[.func (.func 112) #[] #[.pointer (some ⟨w.heap.size,0,none⟩)]]:=by rw [←u];exact⟨by simp [go_sem],by simp [go_sem],by simp [go_sem,Lt]⟩
 rw [u];clear u;obtain⟨b2,X⟩: ∃b,w.heap.size=b:=⟨_,rfl⟩;rw [X]at s p j lA⊢;obtain⟨b1,Y⟩: ∃b,b2+1=b:=⟨_,rfl⟩;rw [Y]at p j⊢;obtain⟨bc,Z⟩: ∃b,b1+1=b:=⟨_,rfl⟩;rw [Z]at j⊢;obtain⟨M,y⟩: ∃M,V.heap.size=M:=⟨_,rfl⟩;have lb:b2<M:=by rw [←y];exact s.l
 have lx:b1<M:=by rw [←y];exact p.l
 have lc:bc<M:=by rw [←y];exact j.l
 have lw:w.heap.size≤M:=by rw [←y];exact E.size
 obtain⟨r,A⟩: ∃r,V.alloc (.map #[] 0)=r:=⟨_,rfl⟩;have F:Ru.ZE (fun x=> ∃n:Int,x= .int .u8 n) r M (fun _=>none):=by rw [←A,←y];exact Ru.ZE.new V
 have z:Ext V r:=by rw [←A];exact Ea
 obtain⟨B,K,L,a,c,f,h,i⟩:=Ru.ZE.store (P:=Tryz.prog) (t:=108) Qfb Tryz.underlying108 F ⟨0,rfl⟩ (by simp) (.func (.func 113) #[] #[.pointer (some ⟨b1,0,none⟩)]);have G:Mv (fun q=>q=M) r B:=⟨a,c,f,Nat.le_of_eq h.symm,fun k _ hk=>i k hk⟩;clear a c f h i;obtain⟨C,N,O,a,c,f,h,i⟩:=Ru.ZE.store (P:=Tryz.prog) (t:=108) Qfb Tryz.underlying108 L ⟨1,rfl⟩ (by simp) (.func (.func 114) #[] #[.pointer (some ⟨bc,0,none⟩),.pointer (some ⟨b2,0,none⟩)]);have H:Mv (fun q=>q=M) B C:=⟨a,c,f,Nat.le_of_eq h.symm,fun k _ hk=>i k hk⟩;clear a c f h i;obtain⟨D,Q,R,a,c,f,h,i⟩:=Ru.ZE.store (P:=Tryz.prog) (t:=108) Qfb Tryz.underlying108 O ⟨2,rfl⟩ (by simp) (.func (.func 118) #[] #[.pointer (some ⟨b2,0,none⟩),.pointer (some ⟨bc,0,none⟩)]);have I:Mv (fun q=>q=M) C D:=⟨a,c,f,Nat.le_of_eq h.symm,fun k _ hk=>i k hk⟩;clear a c f h i;obtain⟨o,S,T,a,c,f,h,i⟩:=Ru.ZE.store (P:=Tryz.prog) (t:=108) Qfb Tryz.underlying108 R ⟨3,rfl⟩ (by simp) (.func (.func 120) #[] #[.pointer (some ⟨b1,0,none⟩),.pointer (some ⟨b2,0,none⟩)]);have J:Mv (fun q=>q=M) D o:=⟨a,c,f,Nat.le_of_eq h.symm,fun k _ hk=>i k hk⟩;clear a c f h i;refine wp_region_lit ?_;refine listV rfl (Qs5 _) ?_;rw [A,y];refine listV (v:=(.func (.func 113) #[] #[.pointer (some ⟨b1,0,none⟩)])) (w':=r) rfl Kr ?_;refine Zj rfl (QcM (m:= .map (some M)) (k:= .int .u8 0) (v:=(.func (.func 113) #[] #[.pointer (some ⟨b1,0,none⟩)])) Kr Kr Kr K) ?_;refine listV (v:=(.func (.func 114) #[] #[.pointer (some ⟨bc,0,none⟩),.pointer (some ⟨b2,0,none⟩)])) (w':=B) rfl Kr ?_;refine Zj rfl (QcM (m:= .map (some M)) (k:= .int .u8 1) (v:=(.func (.func 114) #[] #[.pointer (some ⟨bc,0,none⟩),.pointer (some ⟨b2,0,none⟩)])) Kr Kr Kr N) ?_;refine listV (v:=(.func (.func 118) #[] #[.pointer (some ⟨b2,0,none⟩),.pointer (some ⟨bc,0,none⟩)])) (w':=C) rfl Kr ?_;refine Zj rfl (QcM (m:= .map (some M)) (k:= .int .u8 2) (v:=(.func (.func 118) #[] #[.pointer (some ⟨b2,0,none⟩),.pointer (some ⟨bc,0,none⟩)])) Kr Kr Kr Q) ?_;refine listV (v:=(.func (.func 120) #[] #[.pointer (some ⟨b1,0,none⟩),.pointer (some ⟨b2,0,none⟩)])) (w':=D) rfl Kr ?_;refine Zj rfl (QcM (m:= .map (some M)) (k:= .int .u8 3) (v:=(.func (.func 120) #[] #[.pointer (some ⟨b1,0,none⟩),.pointer (some ⟨b2,0,none⟩)])) Kr Kr Kr S) ?_;refine listV (v:= .map (some M)) (w':=o) rfl Kr ?_;refine listV (v:= .map (some M)) (w':=o) rfl Kr ?_;refine wpList_nil ?_;have m:Mv (fun q=>q=M) r o:=((G.trans H).trans I).trans J;have U:=Xh (show Ext w o∧RowZ o b1 (acv x)∧RowZ o b2 #[.pointer (some ⟨Ba,0,none⟩)]∧RowZ o bc #[.func (.func 112) #[] #[.pointer (some ⟨b2,0,none⟩)]]from⟨Mv.ext_of (E.tr z) m (fun q e=>by omega),(p.ext z).mv m Om,(s.ext z).mv m Om,(j.ext z).mv m Om⟩);have W:=Xh T;clear F L O R T K N Q S G H I J m z A E p s j;go_simp;go_wp2;obtain⟨E,p,s,j⟩:=U.out;go_ret;exact⟨.map (some M),b1,b2,bc,rfl,⟨⟨M,_,rfl,W.out,by simp,by simp,by simp,by simp⟩,p,s,j,Om,Om,Om⟩,E⟩
theorem QqS(h0:RowZ w B cs)(h3:cs.size=3)(hC: ¬C B)
  (hx:ρ q= .pointer (some ⟨B,0,none⟩)): ∀w',Mv C w w'→(execOp ρ ⟨dst,.load 42 q,ty,pos,after,g⟩).run Tryz.prog w'= .ok (.value (.agg cs)) w':=by
 intro w' b;have a:=h0.mv b hC;have e:=QcJ ρ dst q ty pos after g w' (by rw [hx];rfl) (by rw [hx];show Fits 0 3 (Qc w' B);rw [a.r];unfold Fits;omega);rw [e,hx];show Result.ok (Next.value (Value.agg (QB (Qc w' B) 0 3))) w'=_;rw [a.r,Q9 _ 3 h3]
theorem QqT{id:Nat}{Q:Exit→Act→World→Prop}{a:Act}{b6 b7:Nat}{o:Ag}{d:Dn}(h6:a.eval (.tmp 6)= .pointer (some ⟨b6,0,none⟩))(h7:a.eval (.tmp 7)= .pointer (some ⟨b7,0,none⟩))(hz:a.tmps.size=128)(r6:RowZ w b6 (agv o))(r7:RowZ w b7 (dnv d))
  (H: ∀a' w',Ext w w'→RowZ w' b6 (agv o)→RowZ w' b7 (dnv d)→a'.eval (.tmp 6)= .pointer (some ⟨b6,0,none⟩)→a'.eval (.tmp 7)= .pointer (some ⟨b7,0,none⟩)→a'.defers=a.defers→Q .normal a' w'):(Code.region id #[⟨some 124,.load 27 (.tmp 6),27, "agent.go:124",#[],none⟩,⟨some 125,.load 42 (.tmp 7),42, "agent.go:124",#[⟨2,.gcOnly .lateStores⟩],none⟩,⟨none,.store 27 (.tmp 6) (.tmp 124),0, "agent.go:124",#[⟨0,.data⟩,⟨0,.phase⟩,⟨1,.textOnly .lateStores⟩],none⟩,⟨none,.store 42 (.tmp 7) (.tmp 125),0, "agent.go:124",#[⟨1,.data⟩,⟨2,.chain⟩,⟨0,.phase⟩,⟨1,.phase⟩,⟨2,.phase⟩],none⟩] true).wp Tryz.prog Q a w:=by
 refine wp_region_quiet (C:=fun w'=>Ext w w'∧RowZ w' b6 (agv o)∧RowZ w' b7 (dnv d)) Kr Kr ⟨Ext.dr (Ext.rf w),r6.ext (Ext.dr (Ext.rf w)),r7.ext (Ext.dr (Ext.rf w))⟩ ?_;refine QaD (.agg (agv o)) rfl (fun w' hw=>Zx (C:=fun _=>False) hw.2.1 (fun h=>h) h6 _ (Mv.refl _ _)) ?_;refine QaD (.agg (dnv d)) rfl (fun w' hw=>QqS (C:=fun _=>False) hw.2.2 rfl (fun h=>h) (by rw [QI Dc];exact h7) _ (Mv.refl _ _)) ?_;refine Qdk rfl (fun w' hw=>(Ze (B:=b6) (cs:=agv o) (by rw [hw.2.1.r];exact Qg) hw.2.1.z Qg Zr (by rw [QI Dc,QI Dc];exact h6) (by rw [QI Dc];exact QaC Om)).trans (by rw [Qac hw.2.1])) ?_;refine Qdk rfl (fun w' hw=>(Yq (B:=b7) (cs:=dnv d) (by rw [hw.2.2.r];rfl) hw.2.2.z rfl (by simp [go_sem,dnv]) (by show Act.eval _ _=_;rw [QI Dc,QI Dc];exact h7) (QaC (by rw [Zy];omega))).trans (by rw [Qac hw.2.2])) ?_;refine wpQuiet_nil fun w' hw=>H _ w' hw.1 hw.2.1 hw.2.2 ?_ ?_ rfl
 ·show((a.put (some 124) _).put (some 125) _).eval _=_;rw [QI Dc,QI Dc];exact h6
 ·show((a.put (some 124) _).put (some 125) _).eval _=_;rw [QI Dc,QI Dc];exact h7
theorem JH{id:Nat}{Q:Exit→Act→World→Prop}{a:Act}{b6 b7:Nat}{o:Ag}{d:Dn}(h6:a.eval (.tmp 6)= .pointer (some ⟨b6,0,none⟩))(h7:a.eval (.tmp 7)= .pointer (some ⟨b7,0,none⟩))(hz:a.tmps.size=128)(r6:RowZ w b6 (agv o))(r7:RowZ w b7 (dnv d))
  (H: ∀a' w',Ext w w'→RowZ w' b6 (agv o)→RowZ w' b7 (dnv d)→a'.eval (.tmp 6)= .pointer (some ⟨b6,0,none⟩)→a'.eval (.tmp 7)= .pointer (some ⟨b7,0,none⟩)→a'.defers=a.defers→Q .normal a' w'):(Code.region id #[⟨some 126,.load 27 (.tmp 6),27, "agent.go:127",#[],none⟩,⟨some 127,.load 42 (.tmp 7),42, "agent.go:127",#[⟨2,.gcOnly .lateStores⟩],none⟩,⟨none,.store 27 (.tmp 6) (.tmp 126),0, "agent.go:127",#[⟨0,.data⟩,⟨0,.phase⟩,⟨1,.textOnly .lateStores⟩],none⟩,⟨none,.store 42 (.tmp 7) (.tmp 127),0, "agent.go:127",#[⟨1,.data⟩,⟨2,.chain⟩,⟨0,.phase⟩,⟨1,.phase⟩,⟨2,.phase⟩],none⟩] true).wp Tryz.prog Q a w:=by
 refine wp_region_quiet (C:=fun w'=>Ext w w'∧RowZ w' b6 (agv o)∧RowZ w' b7 (dnv d)) Kr Kr ⟨Ext.dr (Ext.rf w),r6.ext (Ext.dr (Ext.rf w)),r7.ext (Ext.dr (Ext.rf w))⟩ ?_;refine QaD (.agg (agv o)) rfl (fun w' hw=>Zx (C:=fun _=>False) hw.2.1 (fun h=>h) h6 _ (Mv.refl _ _)) ?_;refine QaD (.agg (dnv d)) rfl (fun w' hw=>QqS (C:=fun _=>False) hw.2.2 rfl (fun h=>h) (by rw [QI Dc];exact h7) _ (Mv.refl _ _)) ?_;refine Qdk rfl (fun w' hw=>(Ze (B:=b6) (cs:=agv o) (by rw [hw.2.1.r];exact Qg) hw.2.1.z Qg Zr (by rw [QI Dc,QI Dc];exact h6) (by rw [QI Dc];exact QaC Om)).trans (by rw [Qac hw.2.1])) ?_;refine Qdk rfl (fun w' hw=>(Yq (B:=b7) (cs:=dnv d) (by rw [hw.2.2.r];rfl) hw.2.2.z rfl (by simp [go_sem,dnv]) (by show Act.eval _ _=_;rw [QI Dc,QI Dc];exact h7) (QaC (by rw [Zy];omega))).trans (by rw [Qac hw.2.2])) ?_;refine wpQuiet_nil fun w' hw=>H _ w' hw.1 hw.2.1 hw.2.2 ?_ ?_ rfl
 ·show((a.put (some 126) _).put (some 127) _).eval _=_;rw [QI Dc,QI Dc];exact h6
 ·show((a.put (some 126) _).put (some 127) _).eval _=_;rw [QI Dc,QI Dc];exact h7
theorem Qk2{m:Ru.Md}{k f g:Int}{s n r:Bool}(hm:m.right=true)(hg:0≤g∧g≤2147483647)(h:(Ru.Qux m k f g s n r).d=3):
  (0≤(Ru.Qux m k f g s n r).t∧(Ru.Qux m k f g s n r).t<6)∧(1≤(Ru.Qux m k f g s n r).k∧(Ru.Qux m k f g s n r).k≤5)∧0≤(Ru.Qux m k f g s n r).g∧(Ru.Qux m k f g s n r).g≤2147483647:=by
 have c:Ru.QT m=m:=by unfold Ru.QT;rw [if_pos hm]
 have b: ∀i:Int,(i=2∨i=3)→m.k=i→(0≤m.p∧m.p<6)∧1≤m.g∧m.g<2147483648:=fun i hi e=>by
  unfold Ru.Md.right Ru.Qg2 at hm;rw [e]at hm;rcases hi with rfl|rfl<;>grind
 obtain⟨x,a⟩: ∃x,Ru.Qux m k f g s n r=x:=⟨_,rfl⟩;rw [a]at h⊢;unfold Ru.Qux Ru.Quw Ru.Qau Ru.QeL Ru.Y4 Ru.Zs Ru.J9 at a;rw [c]at a;have j:Ru.QlP r≠3:=by unfold Ru.QlP;cases r<;>decide
 have l:=b 2 (.inl rfl);have o:=b 3 (.inr rfl);clear b hm c
 repeat' split at a
 all_goals(subst a;first|(exfalso;revert h;(first|exact fun h=>j h|exact fun h=>absurd h Dc))|grind)
theorem Qmg:(Tryz.prog.info? 105).map (·.size)=some 5:=Kr
theorem QnJ{o:Nat}(h:o+5≤(Qc w b).size):(Instr.loadAt 105 (.pointer (some ⟨b,o,none⟩))).run Tryz.prog w= .ok (.agg ((Qc w b).extract o (o+5))) w:=by
 have:=run_loadAt_mid w b o 105 ((Qc w b).extract o (o+5)).toList _ (QC w b o (o+5)) Tryz.underlying105 rfl (by rw [Qmg];simp;omega)
 rwa [Array.toArray_toList]at this
@[go_sem ↓ high] theorem QcP(ρ:Operand→Value)(dst:Option Tmp)(x:Operand)(ty:TypeId)(pos:String)(after:Array Edge)(g:Option (Nat×Bool))(w:World)
  (hx:ρ x= .pointer (some ⟨Qb (ρ x),Qd (ρ x),none⟩))(h:Fits (Qd (ρ x)) 5 (Qc w (Qb (ρ x)))):
  (execOp ρ ⟨dst,.load 105 x,ty,pos,after,g⟩).run Tryz.prog w= .ok (.value (.agg (QB (Qc w (Qb (ρ x))) (Qd (ρ x)) 5))) w:=by
 unfold Fits at h;generalize a:Qb (ρ x)=B at*;generalize b:Qd (ρ x)=O at*;simp only [execOp,hx,Sem.run_bind,QnJ h,Result.andThen_ok,Sem.run_pure,QB]
@[go_sem ↓ high] theorem Quy(w:World)
  (hx:ρ x= .pointer (some ⟨Qb (ρ x),Qd (ρ x),none⟩))(h:Fits (Qd (ρ x)) 5 (Qc w (Qb (ρ x)))):
  (Oper.semAt l ρ ⟨dst,.load 105 x,ty,pos,after,g⟩).run Tryz.prog w= .ok (.value (.agg (QB (Qc w (Qb (ρ x))) (Qd (ρ x)) 5))) w:=by rw [Oper.semAt_eq _ _ _ (fun c h=>by cases h)];exact QcP ρ dst x ty pos after g w hx h
@[go_sem ↓ high] theorem QbR(ρ:Operand→Value)(dst:Option Tmp)(x y:Operand)(ty:TypeId)(pos:String)(after:Array Edge)(g:Option (Nat×Bool))(w:World)
  (hx:ρ x= .pointer (some ⟨Qb (ρ x),Qd (ρ x),none⟩))(hy:ρ y= .agg (ρ y).cells)(hs:Qn (ρ y).cells 5)(h:Fits (Qd (ρ x)) 5 (Qc w (Qb (ρ x))))(hz:Qs w (Qb (ρ x))=(0,0))(h1:QK (ρ y).cells):
  (execOp ρ ⟨dst,.store 105 x y,ty,pos,after,g⟩).run Tryz.prog w= .ok .skip (Qe w (Qb (ρ x)) (Qd (ρ x)) (ρ y).cells):=by
 unfold Fits at h;unfold Qn at hs;generalize b:Qb (ρ x)=B at*;generalize c:Qd (ρ x)=O at*;generalize d:(ρ y).cells=C at*;have a:(Instr.storeAt 105 (.pointer (some ⟨B,O,none⟩)) (.agg C)).run Tryz.prog w= .ok () (Qe w B O C):=
  run_storeAt_mid w B O 105 C (fun j hj=>⟨by rw [Qa,Array.getElem?_eq_getElem Om];rfl,Ql hz _⟩) (by rw [Qmg,hs]) h1
 simp only [execOp,hx,hy,Sem.run_bind,a,Result.andThen_ok,Sem.run_pure]
@[go_sem ↓ high] theorem Qs7(w:World)
  (hx:ρ x= .pointer (some ⟨Qb (ρ x),Qd (ρ x),none⟩))(hy:ρ y= .agg (ρ y).cells)(hs:Qn (ρ y).cells 5)(h:Fits (Qd (ρ x)) 5 (Qc w (Qb (ρ x))))(hz:Qs w (Qb (ρ x))=(0,0))(h1:QK (ρ y).cells):
  (Oper.semAt l ρ ⟨dst,.store 105 x y,ty,pos,after,g⟩).run Tryz.prog w= .ok .skip (Qe w (Qb (ρ x)) (Qd (ρ x)) (ρ y).cells):=by rw [Oper.semAt_eq _ _ _ (fun c h=>by cases h)];exact QbR ρ dst x y ty pos after g w hx hy hs h hz h1
theorem Qi3(hs:(Qc w B).size=5)(hz:Qs w B=(0,0))(hcs:cs.size=5)(ho:QK cs)
  (hx:ρ x= .pointer (some ⟨B,0,none⟩))(hy:ρ y= .agg cs):(execOp ρ ⟨dst,.store 105 x y,ty,pos,after,g⟩).run Tryz.prog w= .ok .skip (Qe w B 0 cs):=by
 have e:=QbR ρ dst x y ty pos after g w (by rw [hx];rfl) (by rw [hy];rfl) (by rw [hy];exact hcs) (by rw [hx];show Fits 0 5 (Qc w B);unfold Fits;omega) (by rw [hx];exact hz) (by rw [hy];exact ho);rw [e,hx,hy];rfl
def Qae(x:Ru.Ac)(a:Ag)(c:Cm)(pl:List Int):Int×List Co×List Ev×List (List Int):=
 if x.d=0 then(x.x,a.xs,[],[])else if x.d=1 then(0,QfB a c,Qdq a c,[])else if x.d=2 then(0,JV a.xs c.pk.tu c.now,[⟨1,a.id,c.pk.tu⟩],[])
 else(0,a.xs,[],[ipB (QD (2,a.id)) (QD (2,x.t)) (Ym {c.o with ki:=x.k,ge:=x.g}) pl])
theorem Qhr(h0:RowZ w B cs)(h5:cs.size=5)(hC: ¬C B)
  (hx:ρ q= .pointer (some ⟨B,0,none⟩)): ∀w',Mv C w w'→(execOp ρ ⟨dst,.load 105 q,ty,pos,after,g⟩).run Tryz.prog w'= .ok (.value (.agg cs)) w':=by
 intro w' b;have a:=h0.mv b hC;have e:=QcP ρ dst q ty pos after g w' (by rw [hx];rfl) (by rw [hx];show Fits 0 5 (Qc w' B);rw [a.r];unfold Fits;omega);rw [e,hx];show Result.ok (Next.value (Value.agg (QB (Qc w' B) 0 5))) w'=_;rw [a.r,Q9 _ 5 h5]
theorem Qhs{P:Program}{ops:Array Oper}{D M:Nat→Prop}{r:Nat}{R:Value→World→Prop}{Q:Act→World→Prop}{N m':Nat}{oi:Oper}{f:FuncId}{args:Array Value}{fuel:Nat}{a:Act}(hm:m|||(1<<<k)=m')(hi:ops[k]?=some oi)(hw:Region.wanted oi (yielded ops a.tmps)=true)
  (he:(execOp a.eval oi).run P w= .ok (.enter f args) w)(hc:Calls P f args w fun e w'=> ∃v,e= .returned v∧R v w'∧Mv M w w')(hr:r≤k∨ ∀q,M q→C q)(hD: ∀q,M q→D q)
  (H: ∀v w',Mv M w w'→R v w'→QP C D r P .any ops Q fuel (msk N m') (a.put oi.dst v) w'):QaX C D r P ops Q fuel N k m a w:=by
 refine⟨?_⟩;unfold Jj;simp only [hi,hw,if_true,he,hm];exact hc.mono fun e w' ⟨v,h1,h2,h3⟩=>⟨v,h1,⟨hr.imp id fun h=>h3.mono fun q _ e=>h q e,h3.mono fun q _ e=>hD q e⟩,H v w' h3 h2⟩
theorem QAv{f:FuncId}{caps:Array Value}(hg: ∀args w,(callFunc f args).run Tryz.prog w= .ok (.enter f args) w){c:Operand}(tys:Array TypeId){u:Value}(hc:ρ c= .func (.func f) #[] caps)(hx:ρ x=u)(w:World):
  (execOp ρ ⟨dst,.call ⟨.value c,#[x],tys⟩,ty,pos,after,g⟩).run Tryz.prog w= .ok (.enter f (#[u]++caps)) w:=by
 simp [execOp,resolve,hc,hx,Deferred.ofValue,invoke,Result.andThen,hg]
theorem Qbz{f:Value→Option Value}{n:Int}(h:Ru.ZE (fun x=> ∃n:Int,x= .int .u8 n) w B f)(hv:f (.int .u8 n)=some v)(hx:ρ x= .map (some B))(hy:ρ y= .int .u8 n):
  (execOp ρ ⟨dst,.lookup 108 x y false,ty,pos,after,g⟩).run Tryz.prog w= .ok (.value v) w:=by
 have a:=h.look Qfb Tryz.underlying108 ⟨n,rfl⟩ .nilFunc (by simp [go_sem]);rw [hv]at a;simp [execOp,hx,hy,a,Result.andThen]
theorem Qk3{x:Ru.Ac}{a b:Ag}{c d:Cm}{pl:List Int}(h1:b.xs=a.xs)(h2:b.id=a.id)(h3:d.pk=c.pk)(h4:d.now=c.now)(h5:d.o=c.o):Qae x b d pl=Qae x a c pl:=by
 unfold Qae QfB Qdq QcL;rw [h1,h2,h3,h4,h5]
theorem Qga{a:Ag}(h:agR a=true)(k:Nat)(hk:k<16):(toR (a.md k)).right=true:=by
 unfold agR at h;simp only [Bool.and_eq_true,List.all_eq_true,List.mem_range]at h;have:=h.1.2 k hk;unfold Qdd at this;simp only [Bool.and_eq_true]at this;exact this.1
theorem QvW{a:Ag}(h:agR a=true):0≤a.id∧a.id<6:=(QiK h).2.2.imp_right fun h=>h.1
theorem Qs8{o:Opt}(h:ZO o=true):0≤o.ge∧o.ge≤2147483647:=by
 unfold ZO J4 QeG at h;simp only [List.all_cons,List.all_nil,Bool.and_eq_true,decide_eq_true_eq]at h
 grind
theorem Qs9{m:Ru.Md}{k f g:Int}{s n r:Bool}:(Ru.Qux m k f g s n r).d=0∨(Ru.Qux m k f g s n r).d=1∨(Ru.Qux m k f g s n r).d=2∨(Ru.Qux m k f g s n r).d=3:=by
 obtain⟨x,a⟩: ∃x,Ru.Qux m k f g s n r=x:=⟨_,rfl⟩;rw [a];unfold Ru.Qux Ru.Quw Ru.Qau Ru.QeL Ru.Y4 Ru.Zs at a;have b:Ru.QlP r=2∨Ru.QlP r=0:=by unfold Ru.QlP;cases r<;>decide
 repeat' split at a
 all_goals(subst a;first|exact .inl rfl|exact .inr (.inl rfl)|exact .inr (.inr (.inr rfl))|(rcases b with h|h;exact .inr (.inr (.inl h));exact .inl h))
def Qi4(x:Ru.Ac)(Ba:Nat)(v:Value)(w':World):Prop:= ∃b1 b2 bc,Qdr w' v x Ba b1 b2 bc
theorem Qht(x:Ru.Ac)(Ba:Nat)(w:World)(lA:Ba<w.heap.size):Calls Tryz.prog 48 #[.pointer (some ⟨Ba,0,none⟩),.agg (acv x)] w fun e w'=> ∃v,e= .returned v∧Qi4 x Ba v w'∧Ext w w':=
 (QqR x Ba w lA).mono fun e w' ⟨m,b1,b2,bc,h1,h2,h3⟩=>⟨m,h1,⟨b1,b2,bc,h2⟩,h3⟩
def QqU(w:World)(Ba:Nat)(a:Ag)(dr:Int)(xs:List Co)(es:List Ev)(ss:List (List Int))(v:Value)(w':World):Prop:=
 ∃p c ep ec sp sc,v= .agg (dnv ⟨dr,ep,es.length,ec,sp,ss.length,sc⟩)∧RowZ w' Ba (agv {a with p:=p,xs:=xs,c:=c})∧SlC w' p xs∧SlE w' ep es∧SlBB w' sp ss∧
  (∀b off,p=some ⟨b,off,none⟩→w.heap.size≤b∨p=a.p)∧(∀b off,ep=some ⟨b,off,none⟩→w.heap.size≤b)∧(∀b off,sp=some ⟨b,off,none⟩→w.heap.size≤b)
theorem Qmh{f:Nat}{args:Array Value}{Ba:Nat}{a:Ag}{dr:Int}{xs:List Co}{es:List Ev}{ss:List (List Int)}(h:Calls Tryz.prog f args w (Qdp w Ba a dr xs es ss)):
  Calls Tryz.prog f args w fun e w'=> ∃v,e= .returned v∧QqU w Ba a dr xs es ss v w'∧Mv (fun q=>q=Ba) w w':=
 h.mono fun e w' ⟨p,c,ep,ec,sp,sc,h1,h2,h3,h4,h5,h6,h7,h8,h9⟩=>⟨_,h1,⟨p,c,ep,ec,sp,sc,rfl,h2,h3,h4,h5,h7,h8,h9⟩,h6⟩
theorem SlBB.mv3{A B:World}{b7:Nat}{p:Option Addr}{bss:List (List Int)}(h:SlBB A p bss)(m:Mv (fun q=>q=b7) A B)(r:RowZ A b7 cs)(hb: ∀b off,p=some ⟨b,off,none⟩→b≠b7)(hl:cs.size≤3∧ ∀bs∈bss,3<bs.length):SlBB B p bss:=fun k hk=>by
 obtain⟨b,off,q,c,a,d,o,g,s⟩:=h k hk;have e:=Qf (m.same b d (hb b off a));refine⟨b,off,q,c,a,Xl d m.size,by rw [Qa,e,←Qa];exact o,g.mvg m (fun b' off' e' f=> ?_),s⟩;have l:b'=b7:=f;subst l;have n:=hl.2 _ (List.getElem_mem hk);obtain⟨t,u,i,-,j⟩:=g 3 n;rw [e']at i
 cases i
 rw [Qa,r.r,Array.getElem?_eq_none Om]at j
 cases j
theorem SlBB.ext{A B:World}{p:Option Addr}{bss:List (List Int)}(h:SlBB A p bss)(e:Ext A B):SlBB B p bss:=fun k hk=>by
 obtain⟨b,a,q,c,f,d,g,i,j⟩:=h k hk;exact⟨b,a,q,c,f,Xl d e.size,(e.cell (p:=⟨b,a+k,none⟩) d).trans g,i.ext e,j⟩
theorem QqV{sr ds:Int}{op pl:List Int}:3<(ipB sr ds op pl).length:=by
 have:(YO sr ds pl.length).length=10:=rfl;unfold ipB ipA;simp only [List.length_append,List.length_set,Jc,this];omega
theorem QnK{o:Opt}{k g:Int}(h:ZO o=true)(hk:1≤k∧k≤5)(hg:0≤g∧g≤2147483647):ZO {o with ki:=k,ge:=g}=true:=by
 unfold ZO J4 QeG at h⊢;simp only [List.all_cons,List.all_nil,Bool.and_eq_true,decide_eq_true_eq]at h⊢
 grind
def QAx(ops:Array Oper):Prop:=Region.noSelect ops=true∧Qo ops 8 [0,2,3,5] 0=true∧Rd ops 8 45 [1]∧Rd ops 8 47 [4]∧Rd ops 8 63 [6]∧Rd ops 8 127 [7]∧Rd ops 8 255 []
theorem QAw:QAx ((Tryz.f12.body.bind (Qh 21)).getD #[]):=⟨Kr,Kr,Rk,Rk,Rk,Rk,Rk⟩
theorem Qq0{id:Nat}{ops:Array Oper}{Q:Exit→Act→World→Prop}{v0 v1 v2 v3 v4 v5 v8 v9 v12 v13 v14 v15 v16 v17 v18 v19 v20 v21 v22 v23 v24 v25 v26 v27 v28 v29 v30 v31 v32 v33 v34 v35 v36 v37 v38 v39 v40 v41 v42 v43 v44 v45 v46 v47 v48 v49 v50 v51 v52 v53 v54 v55 v56 v57 v58 v59 v60 v61 v62 v63 v64 v65 v66 v67 v68 v69 v70 v71 v72 v73 v74 v75 v76 v77 v78 v79 v80 v81 v82 v83 v84 v85 v86 v87 v88 v89 v90 v91 v92 v93 v94 v95 v96 v97 v98 v99 v100 v101 v102 v103 v104 v105 v106 v107 v108 v109 v110 v111 v112 v113 v114 v115 v116 v117 v118 v119 v120 v121 v122 v123 v124 v125 v126 v127:Value}{df}{w0 W:World}{b6 b7 b10 b11:Nat}{o1:Ag}{c:Cm}{x:Ru.Ac}{pl:List Int}{rz:Array Value}(hops:ops=((Tryz.f12.body.bind (Qh 21)).getD #[]))
  (E:Ext w0 W)(l6:w0.heap.size≤b6)(l67:b6<b7)(l7:b7<b10)(l10:b10<b11)(ra:RowZ W b6 (agv o1))(rd:RowZ W b7 rz)(hrz:rz.size=3)(r10:RowZ W b10 (cmv c))(r11:RowZ W b11 (acv x))(sO:SlC W o1.p o1.xs)(hpO: ∀b off,o1.p=some ⟨b,off,none⟩→b10<b∧b<W.heap.size)(hl:o1.xs.length≤1000)
  (sq:SlB W c.ip pl)(hq: ∀b off,c.ip=some ⟨b,off,none⟩→b10<b∧b<W.heap.size)(hd:x.d=0∨x.d=1∨x.d=2∨x.d=3)
  (hs:x.d=3→(0≤o1.id∧o1.id<6)∧(0≤x.t∧x.t<6)∧(0≤x.k∧x.k<256)∧(0≤c.o.bu∧c.o.bu<256)∧ZO {c.o with ki:=x.k,ge:=x.g}=true∧c.iN≤1000∧(∃b off,c.ip=some ⟨b,off,none⟩)∧pl.length=c.iN∧c.iN≤c.ic∧ByR pl)
  (H: ∀a' w' p' c' ep ec sp sc,a'.eval (.tmp 6)= .pointer (some ⟨b6,0,none⟩)→a'.eval (.tmp 7)= .pointer (some ⟨b7,0,none⟩)→a'.tmps.size=128→a'.defers=df→RowZ w' b6 (agv {o1 with p:=p',xs:=(Qae x o1 c pl).2.1,c:=c'})→RowZ w' b7 (dnv ⟨(Qae x o1 c pl).1,ep,(Qae x o1 c pl).2.2.1.length,ec,sp,(Qae x o1 c pl).2.2.2.length,sc⟩)→SlC w' p' (Qae x o1 c pl).2.1→SlE w' ep (Qae x o1 c pl).2.2.1→SlBB w' sp (Qae x o1 c pl).2.2.2→Ext w0 w'→Q .normal a' w'):
  (Code.region id ops true).wp Tryz.prog Q ⟨#[v0,v1,v2,v3,v4,v5,.pointer (some ⟨b6,0,none⟩),.pointer (some ⟨b7,0,none⟩),v8,v9,.pointer (some ⟨b10,0,none⟩),.pointer (some ⟨b11,0,none⟩),v12,v13,v14,v15,v16,v17,v18,v19,v20,v21,v22,v23,v24,v25,v26,v27,v28,v29,v30,v31,v32,v33,v34,v35,v36,v37,v38,v39,v40,v41,v42,v43,v44,v45,v46,v47,v48,v49,v50,v51,v52,v53,v54,v55,v56,v57,v58,v59,v60,v61,v62,v63,v64,v65,v66,v67,v68,v69,v70,v71,v72,v73,v74,v75,v76,v77,v78,v79,v80,v81,v82,v83,v84,v85,v86,v87,v88,v89,v90,v91,v92,v93,v94,v95,v96,v97,v98,v99,v100,v101,v102,v103,v104,v105,v106,v107,v108,v109,v110,v111,v112,v113,v114,v115,v116,v117,v118,v119,v120,v121,v122,v123,v124,v125,v126,v127],df⟩ W:=by
 subst hops;have a8: ∀b off,o1.p=some ⟨b,off,none⟩→b≠b6:=fun b off e=>by have:=hpO b off e;omega
 have a9: ¬(fun q=>q=b6∨q=b7) b10:=fun e=>e.elim Om Om;have a5: ¬(fun q=>q=b6∨q=b7) b11:=fun e=>e.elim Om Om;have j:W.heap.size≤W.heap.size:=Nat.le_refl _;obtain⟨lo,a0⟩: ∃n,W.heap.size=n:=⟨_,rfl⟩;have b9:b11<lo:=by rw [←a0];exact r11.l
 rw [a0]at hpO hq;have j:lo≤W.heap.size:=by omega
 clear a0;refine Qy (fun _=>False) (fun q=>q=b6∨q=b7) 6 Kr ?_;obtain⟨W1,hW⟩: ∃Wdr,World.drew W=Wdr:=⟨_,rfl⟩;have m:Ext W W1:=by rw [←hW];exact Ext.dr (Ext.rf _)
 rw [hW];clear hW;have E:=E.tr m;have ra:=ra.ext m;have rd:=rd.ext m;have r10:=r10.ext m;have r11:=r11.ext m;have sO:=sO.ext m;have sq:=sq.ext m;have j:=Xt j m.size;have HR:=Xh H;clear H;refine Zi (N:=8) (R:=QAx) (E:=((Tryz.f12.body.bind (Qh 21)).getD #[])) Kr QAw Kr fun hS=> ?_;have s:=hS.2.1;refine tW 1 (.agg (acv x)) hS.1 s rfl (Qhr r11 rfl a5 Kr) fun s=>tWk 5 (.pointer (some ⟨b11,0,none⟩)) hS.1 s rfl fun s=>tW 13 (.int .u8 x.d) hS.1 s rfl (Yv (r11.cell 0 (by show 0<5;omega)) r11.l a5 Kr) fun s=>tW 45 (.agg (cmv c)) hS.1 s rfl (Qce r10 a9 Kr) fun s=> ?_;refine sV 47 (Qi4 x b6) hS.2.2.1 rfl (Qht x b6 W1 ra.l) ?_;rintro vm i y ⟨O,C,P,a⟩;have E:=E.tr y;have ra:=ra.ext y;have rd:=rd.ext y;have r10:=r10.ext y;have r11:=r11.ext y;have sO:=sO.ext y;have sq:=sq.ext y;obtain⟨Bm,fm,rfl,HM,f0,f1,f2,f3⟩:=a.is;have j:=Xt j y.size;have S: ∀b off,o1.p=some ⟨b,off,none⟩→b<i.heap.size:=fun b off e=>by have:=hpO b off e;omega
 have a6: ∀b off,c.ip=some ⟨b,off,none⟩→b<i.heap.size:=fun b off e=>by have:=hq b off e;omega
 have X: ∃(F:Nat) (T:Array Value),fm (.int .u8 x.d)=some (.func (.func F) #[] T)∧(∀args w,(callFunc F args).run Tryz.prog w= .ok (.enter F args) w)∧Calls Tryz.prog F (#[.agg (cmv c)]++T) i (Qdp i b6 o1 (Qae x o1 c pl).1 (Qae x o1 c pl).2.1 (Qae x o1 c pl).2.2.1 (Qae x o1 c pl).2.2.2)∧ ∀bs∈(Qae x o1 c pl).2.2.2,3<bs.length:=by
  rcases hd with hxd|hxd|hxd|hxd
  ·rw [show Qae x o1 c pl=_ from if_pos hxd];exact⟨_,#[.pointer (some ⟨O,0,none⟩)],by rw [hxd];exact f0,enters_of Tryz.func113 Kr rfl,Z9 x c o1 b6 O i ra a.rx sO S,fun bs hb=>nomatch (show bs∈([]:List (List Int))from hb)⟩
  ·rw [show Qae x o1 c pl=_ from(if_neg Om).trans (if_pos hxd)];exact⟨_,#[.pointer (some ⟨P,0,none⟩),.pointer (some ⟨C,0,none⟩)],by rw [hxd];exact f1,enters_of Tryz.func114 Kr rfl,QiZ o1 c b6 C P i ⟨ra,a.rb,a.rc,sO,a.ne.1,a.ne.2.1⟩ hl S a8,fun bs hb=>nomatch (show bs∈([]:List (List Int))from hb)⟩
  ·rw [show Qae x o1 c pl=_ from(if_neg Om).trans ((if_neg Om).trans (if_pos hxd))];exact⟨_,#[.pointer (some ⟨C,0,none⟩),.pointer (some ⟨P,0,none⟩)],by rw [hxd];exact f2,enters_of Tryz.func118 Kr rfl,JC o1 c b6 C P i ⟨ra,a.rb,a.rc,sO,a.ne.1,a.ne.2.1⟩ hl,fun bs hb=>nomatch (show bs∈([]:List (List Int))from hb)⟩
  ·have hs:=hs hxd;rw [show Qae x o1 c pl=_ from(if_neg Om).trans ((if_neg Om).trans (if_neg Om))];exact⟨_,#[.pointer (some ⟨O,0,none⟩),.pointer (some ⟨C,0,none⟩)],by rw [hxd];exact f3,enters_of Tryz.func120 Kr rfl,J8 x c o1 b6 O C pl i ra a.rb a.rx sO S hs.1 hs.2.1 hs.2.2.1 hs.2.2.2.1 hs.2.2.2.2.1 hs.2.2.2.2.2.1 (.inr hs.2.2.2.2.2.2.1) hs.2.2.2.2.2.2.2.1 hs.2.2.2.2.2.2.2.2.1 sq hs.2.2.2.2.2.2.2.2.2 a6,fun bs hb=>by rw [List.mem_singleton.1 hb];exact QqV⟩
 clear hs;clear hd S a6 f0 f1 f2 f3;obtain⟨I,a1,J,D,hw⟩: ∃I a1 J D,Qae x o1 c pl=(I,a1,J,D):=⟨_,_,_,_,rfl⟩;rw [hw]at X;dsimp only at X;have K:=Xh hw;clear hw;obtain⟨F,T,HF,HE,HC,a7⟩:=X;have b0:rz.size≤3∧ ∀bs∈D,3<bs.length:=⟨Nat.le_of_eq hrz,a7⟩;clear a7;refine Qr hS.2.2.2.1 (Zq (m':=63) (v:= .func (.func F) #[] T) rfl rfl Kr (Qbz (n:=x.d) HM HF Kr Kr) ⟨.inr (Mv.refl _ _),Mv.refl _ _⟩ ?_);obtain⟨a2,a3⟩: ∃N,i=N:=⟨_,rfl⟩;have u:Ext i a2:=by rw [a3];exact Ext.rf _
 have a:Qdr a2 (.map (some Bm)) x b6 O C P:=by rw [←a3];exact a
 rw [a3]at HC⊢;clear HM HF;have E:=E.tr u;have ra:=ra.ext u;have rd:=rd.ext u;have r10:=r10.ext u;have r11:=r11.ext u;have sO:=sO.ext u;have sq:=sq.ext u;have j:=Xt j u.size;refine Qr hS.2.2.2.2.1 (Qhs (m':=127) (M:=fun q=>q=b6) (R:=QqU a2 b6 o1 I a1 J D) rfl rfl Kr (QAv HE _ Kr Kr _) (Qmh HC) (.inl Dc) (fun q e=> .inl e) ?_);rintro vd a4 G ⟨p',c',ep,ec,sp,sc,rfl,ra,Y,Z,ss,b4,b5,b8⟩;have E:=Mv.ext_of E G (fun q e=>by omega);have rd:=rd.mv G Om;have r10:=r10.mv G Om;have r11:=r11.mv G Om;have sO:=sO.mvg G (fun b off e f=>by have:=hpO b off e;omega);have sq:=sq.mvg G (fun b off e f=>by have:=hq b off e;omega);have j:=Xt j G.size;have A:=Ext.rf a4;have E:=E.tr A;have ra:=ra.ext A;have rd:=rd.ext A;have r10:=r10.ext A;have r11:=r11.ext A;have sO:=sO.ext A;have sq:=sq.ext A;refine Qr hS.2.2.2.2.2.1 (QE (m':=255) rfl rfl Kr (Yq (B:=b7) (cs:=(dnv ⟨I,ep,J.length,ec,sp,D.length,sc⟩)) (by rw [rd.r];exact hrz) rd.z rfl (by simp [go_sem,dnv]) Kr Kr) ⟨.inl Dc,(Mv.sa _ (.inr rfl) (Mv.refl _ _))⟩ ?_);obtain⟨U,V⟩: ∃U,Qe a4 b7 0 (dnv ⟨I,ep,J.length,ec,sp,D.length,sc⟩)=U:=⟨_,rfl⟩;have L:Mv (fun q=>q=b7) a4 U:=by rw [←V];exact Mv.sa _ rfl (Mv.refl _ _)
 have ra:=ra.mv L Om;have b3:=rd;have rd:RowZ U b7 (dnv ⟨I,ep,J.length,ec,sp,D.length,sc⟩):=by rw [←V];exact rd.all _ hrz
 have E:=Mv.ext_of E L (fun q e=>by omega);have Y:=Y.mvg L (fun b off e f=>by rcases b4 b off e with h|h;omega;(rw [h]at e;have:=hpO b off e;omega));have Z:=Z.mvg L (fun b off e f=>by have:=b5 b off e;omega);have ss:=ss.mv3 L b3 (fun b off e f=>by have:=b8 b off e;omega) b0;rw [V];clear V;refine QZ hS.2.2.2.2.2.2 ?_;exact HR.out _ _ p' c' ep ec sp sc Kr Kr Kr rfl (by rw [K.out];exact ra) (by rw [K.out];exact rd) (by rw [K.out];exact Y) (by rw [K.out];exact Z) (by rw [K.out];exact ss) E
end Go.Proofs.YtpeonbaodnmlnaaGreat
