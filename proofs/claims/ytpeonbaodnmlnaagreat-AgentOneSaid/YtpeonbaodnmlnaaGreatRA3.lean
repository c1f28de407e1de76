/- Lemmas of this claim, put together out of: GN, GO, GP, GQ, GR, GS, GT, GU, GV, GW, GX2, GY, GZ, HA, HB, HC, HD, HE, HF, HG, HM. -/
import Derived.Test.YtpeonbaodnmlnaaGreatRA2
import Derived.Test.YtpeonbaodnmlnaaGreatRU
import Derived.Maps.RangeRun
import Derived.Maps.OwnIn
import Derived.Laws.IdiomStrings
set_option linter.unusedSimpArgs false
set_option linter.unusedVariables false
set_option maxRecDepth 100000
set_option maxHeartbeats 16000000
namespace Go.Proofs.YtpeonbaodnmlnaaGreat
open Go.RowKit
variable{after:Array Edge}{bs:List Int}{B base i o:Nat}{x y:Operand}{ρ:Operand→Value}{g:Option (Nat×Bool)}{p:Option Addr}{l:Option Nat}{dst:Option Tmp}{pos:String}{a0 a1 a10 a2 a3 a4 a5 a6 a7 a8 a9:Value}{A w:World}
def nd(c:Int):Int:=if c=255 then-1 else c
def nbe(bs:List Int):Int:=bs.foldl (fun n c=>n*256+c) 0
theorem Qil(bs:List Int)(c:Int):nbe (bs++ [c])=nbe bs*256+c:=by unfold nbe;rw [List.foldl_append];rfl
theorem Qph: ∀(k:Nat) (bs:List Int),bs.length=k→ByR bs→0≤nbe bs∧nbe bs<256^k
 |0,bs,h,_=>by
  obtain rfl:=List.length_eq_zero_iff.1 h;exact⟨Int.le_refl _,Dc⟩
 |k+1,bs,h,hr=>by
  obtain⟨as',c,rfl⟩: ∃l c,bs=l++ [c]:=⟨bs.dropLast,bs.getLast (by intro e;rw [e]at h;cases h),(List.dropLast_concat_getLast _).symm⟩;have hl:as'.length=k:=by rw [List.length_append]at h;simp at h;exact h
  have ih:=Qph k as' hl (fun b hb=>hr b (List.mem_append_left _ hb));have hc:=hr c (List.mem_append_right _ (List.mem_singleton.2 rfl));rw [Qil,Int.pow_succ];omega
def Qpi(bs:List Int):Opt:=⟨bt bs 2,bt bs 3,nd (bt bs 4),nd (bt bs 5),nbe ((bs.drop 6).take 4),nbe ((bs.drop 10).take 6)⟩
def Qc7(bs:List Int):Bool:=bt bs 0==158&&bt bs 1==16&&ZO (Qpi bs)
def takeE(bs:List Int):Int:=if bs.length<16 then 61 else if 16<bs.length then 60 else if Qc7 bs then 0 else 60
def Yh(bs:List Int):Opt:=if bs.length=16∧Qc7 bs=true then Qpi bs else QV
def offN(i:Nat):Nat:=if i<6 then i else if i=6 then 6 else if i=7 then 10 else 16
def Qvs(bs:List Int)(i:Nat):Int:=if i=4∨i=5 then nd (bt bs i)else if i<6 then bt bs i else if i=6 then nbe ((bs.drop 6).take 4)else nbe ((bs.drop 10).take 6)
def YN(bs:List Int)(i:Nat):List Int:=(List.range i).map (Qvs bs)
theorem Qst{x:Nm}(h:(J4 QV)[i]?=some x)(bs:List Int)(hb:bs.length=16)(hr:ByR bs):i<8∧ ∃m:Nat,x.by_=m∧1≤m∧m≤6∧offN (i+1)=offN i+m∧Qvs bs i=(if x.lo<0∧nbe ((bs.drop (offN i)).take m)=255 then-1 else nbe ((bs.drop (offN i)).take m))∧(x.lo<0∨0≤x.lo):=by
 have hi:i<8:=(List.getElem?_eq_some_iff.1 h).1;refine⟨hi,?_⟩;have one: ∀k,k<16→nbe ((bs.drop k).take 1)=bt bs k:=fun k hk=>by
  unfold bt;rw [List.getD_eq_getElem?_getD,List.getElem?_eq_getElem Om]
  rw [show(bs.drop k).take 1= [bs[k]]by
   refine List.ext_getElem? fun j=> ?_;rw [List.getElem?_take];rcases j with _|j
   ·simp [List.getElem?_eq_getElem (show k<bs.length by omega)]
   ·simp]
  simp [nbe]
 obtain rfl|rfl|rfl|rfl|rfl|rfl|rfl|rfl:i=0∨i=1∨i=2∨i=3∨i=4∨i=5∨i=6∨i=7:=by omega
 ·obtain rfl:=Option.some.inj h;exact⟨1,rfl,Om,Om,rfl,by rw [if_neg (by rintro⟨a,-⟩;revert a;decide),show offN 0=0 from rfl,one 0 Om];rfl,by right;decide⟩
 ·obtain rfl:=Option.some.inj h;exact⟨1,rfl,Om,Om,rfl,by rw [if_neg (by rintro⟨a,-⟩;revert a;decide),show offN 1=1 from rfl,one 1 Om];rfl,by right;decide⟩
 ·obtain rfl:=Option.some.inj h;exact⟨1,rfl,Om,Om,rfl,by rw [if_neg (by rintro⟨a,-⟩;revert a;decide),show offN 2=2 from rfl,one 2 Om];rfl,by right;decide⟩
 ·obtain rfl:=Option.some.inj h;exact⟨1,rfl,Om,Om,rfl,by rw [if_neg (by rintro⟨a,-⟩;revert a;decide),show offN 3=3 from rfl,one 3 Om];rfl,by right;decide⟩
 ·obtain rfl:=Option.some.inj h;refine⟨1,rfl,Om,Om,rfl,?_,by left;decide⟩;rw [show offN 4=4 from rfl,one 4 Om];show nd (bt bs 4)=_;unfold nd
  by_cases h:bt bs 4=255
  ·rw [if_pos h,if_pos ⟨Dc,h⟩]
  ·rw [if_neg h,if_neg (fun e=>h e.2)]
 ·obtain rfl:=Option.some.inj h;refine⟨1,rfl,Om,Om,rfl,?_,by left;decide⟩;rw [show offN 5=5 from rfl,one 5 Om];show nd (bt bs 5)=_;unfold nd
  by_cases h:bt bs 5=255
  ·rw [if_pos h,if_pos ⟨Dc,h⟩]
  ·rw [if_neg h,if_neg (fun e=>h e.2)]
 ·obtain rfl:=Option.some.inj h;exact⟨4,rfl,Om,Om,rfl,by rw [if_neg (by rintro⟨a,-⟩;revert a;decide)];rfl,by right;decide⟩
 ·obtain rfl:=Option.some.inj h;exact⟨6,rfl,Om,Om,rfl,by rw [if_neg (by rintro⟨a,-⟩;revert a;decide)];rfl,by right;decide⟩
theorem QAi{n c:Int}(h0:0≤n)(h1:n<1099511627776)(c0:0≤c)(c1:c<256):bits BinOp.or IntKind.i64 (n*256) c=n*256+c:=by
 obtain⟨a,rfl⟩:=Int.eq_ofNat_of_zero_le h0;obtain⟨b,rfl⟩:=Int.eq_ofNat_of_zero_le c0;rw [show(a:Int)*256=((a*2^8:Nat):Int)by omega,QaP _ _ _ (by show a*2^8<2^64;omega) (by show b<2^64;omega),Qjw _ _ _ Om,IntKind.wrap_i64];omega
def OIi(w:World)(base:Nat)(v:Value)(vs:List Int):Prop:=w.ownsRow base 3 1 v vs.length (vs.map (Value.int .i64))
theorem OIi.at{v:Value}{vs:List Int}(h:OIi w base v vs)(hn:0<vs.length): ∃g c,v= .slice (some ⟨g,0,none⟩) vs.length c∧base≤g∧Lt g w∧ ∀k (hk:k<vs.length),w.cell? ⟨g,k,none⟩=some (.int .i64 vs[k]):=by
 rcases h.2 with⟨rfl,h1⟩|⟨g,cap,cur,rfl,hg,hgb,h1,h2,h3,h4⟩
 ·omega
 ·refine⟨g,cap,rfl,hg,(Array.getElem?_eq_some_iff.1 hgb).1,fun k hk=> ?_⟩;have e1:(List.take (vs.length*1) cur.toList)[k]?=(vs.map (Value.int .i64))[k]?:=by rw [h4]
  rw [List.getElem?_take,if_pos Om,Array.getElem?_toList,List.getElem?_map,List.getElem?_eq_getElem hk]at e1;simp only [World.cell?,hgb];exact e1
theorem YE{v:Value}{vs:List Int}(h:OIi w base v vs): ∃a m c,v= .slice a m c:=Qfi h
theorem OIi.zero(w:World)(base:Nat):OIi w base (.slice none 0 0) []:=World.ownsRow_nil _ _ _ _
theorem Qvt:(Tryz.prog.info? 3).map (fun i=>(i.zero,i.size,i.bytes))=some (some (.int .i64 0),1,8):=Kr
theorem Qc8{ops:Array Oper}{C D:Nat→Prop}{r:Nat}{Q:Act→World→Prop}{N k m m':Nat}{ty:TypeId}{fuel:Nat}{a:Act}{A:Nat}{v1:Value}{b1:List Int}{x1:Int}
  (hm:m|||(1<<<k)=m')(hi:ops[k]?=some ⟨dst,.call {callee:= .builtin .append,args:=#[x,y],argTypes:=#[206,206]},ty,pos,after,none⟩)(hx:a.eval x=v1)(hy:a.eval y= .slice (some ⟨A,0,none⟩) 1 1)(h1:OIi w base v1 b1)(hA:w.cell? ⟨A,0,none⟩=some (.int .i64 x1))(hl:b1.length≤1000)(hC: ∀r,v1.ownBlock=some r→C r)(hCD: ∀k,C k→D k)(hb:base≤w.heap.size)
  (H: ∀v' w',OIi w' base v' (b1++ [x1])→w.grownBy w' v1.ownBlock→Mv (fun k=>v1.ownBlock=some k) w w'→QP C D r Tryz.prog .any ops Q fuel (msk N m') (a.put dst v') w'):QaX C D r Tryz.prog ops Q fuel N k m a w:=by
 obtain⟨i0,hi0,hz0,hz,hz2⟩:=info_parts Qvt
 obtain⟨v',w',hr,ho,hg,-,-⟩:=run_append_own_at (P:=Tryz.prog) w base 206 ty 3 i0 (.int .i64 0) 1 8 Tryz.underlying206 hi0 hz0 hz hz2 rfl Dc v1 b1.length _ h1 ⟨A,0,none⟩ 1 1 [.int .i64 x1] rfl (fun j u hu=>by
  match j,hu with
  |0,h=>cases h;exact hA) (by intro u hu;simp at hu;subst hu;rfl) (by unfold maxLen;omega) Om hb
 have hm3:Mv (fun k=>v1.ownBlock=some k) w w':=Mv.of_grown hg fun r e=> .inl e;have hm2:Mv C w w':=hm3.mono fun k _ e=>hC k e;refine Zq (v:=v') hm hi rfl ?_ ⟨.inr hm2,hm2.mono fun k _ h=>hCD k h⟩ (H v' w' ?_ hg hm3)
 ·simp [execOp,resolve,invoke,builtin,hx,hy,hr,Result.andThen]
 ·unfold OIi;rw [List.length_append,List.map_append];exact ho
theorem Jk{C:Nat→Prop}{a:Option Addr}{m c:Nat}(h0:w.cell? ⟨B,i,none⟩=some (.slice a m c))(hl:Lt B w)(hC: ¬C B){q:Operand}{ty:TypeId}
  (hx:ρ q= .pointer (some ⟨B,i,none⟩)): ∀w',Mv C w w'→(execOp ρ ⟨dst,.load 206 q,ty,pos,after,g⟩).run Tryz.prog w'= .ok (.value (.slice a m c)) w':=by
 intro w' hE;have h1:w'.cell? ⟨B,i,none⟩=some (.slice a m c):=by rw [Qa,Qf (hE.same B hl hC),←Qa];exact h0
 simp only [execOp,hx];go_simp
theorem YU{v:Int}{ty:TypeId}(hx:ρ x= .int .i64 v)(w:World):
  (execOp ρ ⟨dst,.buildSlice 206 1 #[(0,x)],ty,pos,after,g⟩).run Tryz.prog w= .ok (.value (.slice (some ⟨w.heap.size,0,none⟩) 1 1)) (w.alloc (.cells #[.int .i64 v] 3)):=by
 simp only [execOp];go_simp
theorem YV{v u:Value}(hc:w.cell? ⟨B,0,none⟩=some u)(hf:w.frozen? ⟨B,0,none⟩=false)(hv: ∃a m c,v= .slice a m c){ty:TypeId}
  (hx:ρ x= .pointer (some ⟨B,0,none⟩))(hy:ρ y=v):(execOp ρ ⟨dst,.store 206 x y,ty,pos,after,g⟩).run Tryz.prog w= .ok .skip (w.setCell ⟨B,0,none⟩ v):=by
 obtain⟨a,m,c,rfl⟩:=hv;simp only [execOp,hx,hy];go_simp
structure Qfo(bs:List Int)(b off B1 B3 base i:Nat)(W:World):Prop where
 at_: ∃P q va,Boxed W B1 28 (.slice P (16- offN i) q)∧16- offN i≤q∧(offN i<16→P=some ⟨b,off+offN i,none⟩)∧Boxed W B3 206 va∧OIi W base va (YN bs i)
theorem Qfo.mv{b off B1 B3:Nat}{A':World}{C:Nat→Prop}(h:Qfo bs b off B1 B3 base i A)(hm:Mv C A A')(h1: ¬C B1)(h3: ¬C B3)(hc: ∀k,base≤k→ ¬C k):Qfo bs b off B1 B3 base i A':=by
 obtain⟨P,q,va,a1,a2,a3,a4,a5⟩:=h;exact⟨P,q,va,Qj a1 hm h1,a2,a3,Qj a4 hm h3,Qw a5 hm hc⟩
theorem J5{m c:Nat}(i:Nat)(hi:i<m){ty:TypeId}
  (hx:ρ x= .slice (some ⟨B,0,none⟩) m c)(hy:ρ y= .int .i64 (i:Nat))(w:World):(execOp ρ ⟨dst,.indexAddr 206 x y,ty,pos,after,g⟩).run Tryz.prog w= .ok (.value (.pointer (some ⟨B,i,none⟩))) w:=by
 have hi':(i:Int)<m:=by omega
 simp only [execOp,hx,hy];go_simp
theorem QdK{n:Int}(h:n % 256=n){ty:TypeId}(hx:ρ x= .int .i64 n)(w:World):
  (execOp ρ ⟨dst,.convert 3 5 x,ty,pos,after,g⟩).run Tryz.prog w= .ok (.value (.int .u8 n)) w:=by
 have:=QeH ρ dst x ty pos after g hx w
 rwa [h]at this
theorem Qvu(bs:List Int):YN bs 8= [bt bs 0,bt bs 1,bt bs 2,bt bs 3,nd (bt bs 4),nd (bt bs 5),nbe ((bs.drop 6).take 4),nbe ((bs.drop 10).take 6)]:=rfl
theorem YW(bs:List Int)(i:Nat):YN bs (i+1)=YN bs i++ [Qvs bs i]:=by unfold YN;rw [List.range_succ,List.map_append];rfl
theorem Qbq{tmps:Array Value}{g:Nat}{cs:Array Value}(hp:tmps.getD 2 undef= .pointer (some ⟨g,0,none⟩))(hr:Qc w g=cs)(hc:cs.size=6):
  (results Tryz.f94 tmps).run Tryz.prog w= .ok (.tuple #[.agg cs,tmps.getD 3 undef]) w:=
 QL rfl tmps w g hp (by
  rw [Qar (by rw [hr,hc];omega),hr]
  rw [show cs.extract 0 (0+6)=cs by rw [Nat.zero_add,←hc];simp])
theorem OIi.ext{w':World}{v:Value}{vs:List Int}(h:OIi w base v vs)(e:Ext w w'):OIi w' base v vs:=Qw (C:=fun _=>False) h (Mv.of_ext e) (fun _ _ h=>h)
theorem OIi.lt{v:Value}{vs:List Int}(h:OIi w base v vs): ∀g,v.ownBlock=some g→g<w.heap.size:=by
 intro g hg;rcases h.2 with⟨rfl,h1⟩|⟨g',cap,cur,rfl,-,hgb,-⟩
 ·cases hg
 ·have:g'=g:=by simpa [Value.ownBlock]using hg
  subst this;exact(Array.getElem?_eq_some_iff.1 hgb).1
def Qim(ops:Array Oper):Prop:=Region.noSelect ops=true∧Qo ops 10 [1,4,5,6,7] 0=true∧Rd ops 10 242 [0,2]∧Rd ops 10 243 [2]∧Rd ops 10 247 [3]∧Rd ops 10 255 [8]∧Rd ops 10 511 [9]∧Rd ops 10 1023 []∧lateB .any ops 9 4=true∧lateB .any ops 9 5=true∧lateB .any ops 9 6=true∧lateB .any ops 9 7=true
theorem QgZ:Qim ((Tryz.f94.body.bind (Qh 16)).getD #[]):=⟨Kr,Kr,Rk,Rk,Rk,Rk,Rk,Rk,Kr,Kr,Kr,Kr⟩
def Qin(ops:Array Oper):Prop:=Region.noSelect ops=true∧Qo ops 10 [1,4,5,6,7] 0=true∧Rd ops 10 242 [0,2]∧Rd ops 10 246 [0]∧Rd ops 10 247 [3]∧Rd ops 10 255 [8]∧Rd ops 10 511 [9]∧Rd ops 10 1023 []∧lateB .any ops 9 4=true∧lateB .any ops 9 5=true∧lateB .any ops 9 6=true∧lateB .any ops 9 7=true
theorem Qg0:Qin ((Tryz.f94.body.bind (Qh 16)).getD #[]):=⟨Kr,Kr,Rk,Rk,Rk,Rk,Rk,Rk,Kr,Kr,Kr,Kr⟩
def Qd3(ops:Array Oper):Prop:=Qim ops∧Qin ops
theorem Qa4:Qd3 ((Tryz.f94.body.bind (Qh 16)).getD #[]):=⟨QgZ,Qg0⟩
def QlN(ops:Array Oper):Prop:=Region.noSelect ops=true∧Qv ops 22 [0,1,2,3,4,5,6,7,8,9,10,11,12,13] 0=true∧Qv ops 22 [14,15,16,17,18,19,20] 16383=true∧Rd ops 22 2097151 [21]∧Rd ops 22 4194303 []
theorem Qio:QlN ((Tryz.f94.body.bind (Qh 17)).getD #[]):=⟨Kr,Kr,Kr,Rk,Rk⟩
theorem Qbr(p:Option Addr)(bs:List Int)(c:Nat)(w:World)(hs:SlB w p bs)(hr:ByR bs)(hl:bs.length≤1000)(hlc:bs.length≤c)(hpb: ∀b off,p=some ⟨b,off,none⟩→b<w.heap.size):
  Cr 94 #[.slice p bs.length c] w (.tuple #[.agg (opv (Yh bs)),.int .i64 (takeE bs)]):=by
 have HS:=Xh hs;have HR:=Xh hr;have HPB:=Xh hpb;clear hs hr hpb;refine(callsIn_wide (n:=5)).1 ?_;refine callsIn_of_wp_marks Tryz.func94 rfl trivial ?_ rfl;simp only [Tryz.ntmps94,List.size_toArray,List.length_cons,List.length_nil,Nat.reduceAdd,Nat.reduceSub,Array.replicate_succ,Array.replicate_zero,List.push_toArray,List.append_toArray,List.nil_append,List.cons_append];refine wpIn_wide.2 ?_;go_wp2;refine Qp 0 rfl ?_
 go_upto_region 2 with(fail)
 obtain⟨W0,hW⟩: ∃W0,(((w.alloc (.cells #[.slice p bs.length c] 28)).alloc (.cells #[.int .u8 0,.int .u8 0,.int .i64 0,.int .i64 0,.int .i64 0,.int .i64 0] 75)).alloc (.cells #[.slice none 0 0] 206))=W0:=⟨_,rfl⟩;have g0:Ext w W0:=by rw [←hW];exact Ext.al (Ext.al Ea _) _
 have r2:RowZ W0 (w.heap.size+1) (opv QV):=by rw [←hW];exact⟨by simp [go_sem];rfl,by simp [go_sem],by simp [go_sem,Lt]⟩
 have bx1:Boxed W0 w.heap.size 28 (.slice p bs.length c):=by
  rw [←hW];exact Qj (C:=fun _=>False) (Boxed.new w 28 (.slice p bs.length c)) (Mv.of_ext (Ext.al Ea _)) (fun h=>h)
 have bx3:Boxed W0 (w.heap.size+1+1) 206 (.slice none 0 0):=by
  rw [←hW];have:=Boxed.new ((w.alloc (.cells #[.slice p bs.length c] 28)).alloc (.cells #[.int .u8 0,.int .u8 0,.int .i64 0,.int .i64 0,.int .i64 0,.int .i64 0] 75)) 206 (.slice none 0 0);simpa using this
 have hsz:W0.heap.size=w.heap.size+3:=by rw [←hW];simp
 have s0:=HS.out.ext g0;rw [hW];clear hW;obtain⟨B1,e1⟩: ∃B,w.heap.size=B:=⟨_,rfl⟩;rw [e1]at bx1 bx3 r2 hsz⊢;obtain⟨B2,e2⟩: ∃B,B1+1=B:=⟨_,rfl⟩;rw [e2]at r2 bx3⊢;obtain⟨B3,e3⟩: ∃B,B2+1=B:=⟨_,rfl⟩;rw [e3]at bx3⊢;have c1:=bx1.cell;have hR2:=r2.r;have hZ2:=r2.z;have HX:=Xh (And.intro bx1 (And.intro bx3 (And.intro r2 (And.intro s0 (And.intro g0 hsz)))));clear bx1 bx3 r2 s0 g0 hsz;rcases Nat.lt_trichotomy bs.length 16 with h16|h16|h16
 ·have hc:decide (((bs.length:Nat):Int)<16)=true:=decide_eq_true Om;go_wp2;go_step3;refine⟨rfl,?_⟩;go_wp2;rw [Exit.noGoto_ret];obtain⟨bx1,bx3,r2,s0,g0,hsz⟩:=HX.out;exact⟨_,Qbq rfl (r2.all (opv QV) rfl).r rfl,by rw [show Yh bs=QV from if_neg Om,show takeE bs=61 from if_pos h16];rfl,Mv.ext_of g0 (Mv.sa (C:=fun k=>k=B2) _ rfl (Mv.refl _ _)) (fun k e=>by omega)⟩
 ·obtain⟨b,off,rfl,-,-⟩:=HS.out 0 Om;rw [h16]at c1;have hc:decide ((16:Int)<16)=false:=by decide
  go_wp2_with (go_at_call 168;(refine(Qa2 QV _ Dc Dc).mono ?_);rintro e w1 ⟨Bv,rfl,⟨g1,lo1,⟨br,cv,sv,br1,br2⟩,lv⟩⟩)
  obtain⟨bx1,bx3,r2,s0,g0,hsz⟩:=HX.out;have g2:=g0.tr g1;have bx1':=Qj (C:=fun _=>False) bx1 (Mv.of_ext g1) (fun h=>h);rw [h16]at bx1';have bx3':=Qj (C:=fun _=>False) bx3 (Mv.of_ext g1) (fun h=>h);have r2':=r2.ext g1;have s1:=s0.ext g1;have hz1:B1+3≤w1.heap.size:=by have:=g1.size;omega
  have hbB:b<B1:=by have:=HPB.out b off rfl;omega
  clear bx1 bx3 r2 s0 HX hR2 hZ2 c1;refine(wpIn_wide (n:=5)).1 ?_;refine ZI rfl Om (gf:=212) (lb:=#[.pointer (some ⟨Bv,0,none⟩)]) rfl trivial JB
   (Qas _ (J4 QV) (some ⟨br,0,none⟩) 8 w1 Bv (fun k=>k=B1∨k=B3) sv (fun b off e=>by cases e;exact Nat.lt_trans br2 lv) (by show 8≤1000;omega) cv lv (fun k e=>⟨Om,fun b off e=>by cases e;omega⟩))
   (fun k h=>h.elim) (fun k h=>by omega) (fun _=>rfl)
   (fun i W=>Qfo bs b off B1 B3 (w1.heap.size+2) i W) (fun _ _=>False)
   (fun i A B h hm=>h.mv hm (by rintro(h|h|h);exact h.elim;omega;omega) (by rintro(h|h|h);exact h.elim;omega;omega) (fun k hk h=>by rcases h with h|h|h;exact h.elim;omega;omega))
   (fun _ _ _ h _=>h) ⟨⟨_,_,_,bx1',by show 16- 0≤c;omega,fun _=>rfl,bx3',OIi.zero _ _⟩⟩
   (fun x a' W=> ∃Bx va,w1.heap.size+2≤Bx∧RowZ W Bx #[.int .i64 x.n,.int .i64 x.lo,.int .i64 x.hi,.int .i64 x.by_]∧Boxed W B3 206 va∧(∀g,va.ownBlock=some g→g≠Bx)∧a'={tmps:=#[.slice (some ⟨b,off,none⟩) 16 c,.pointer (some ⟨B1,0,none⟩),.pointer (some ⟨B2,0,none⟩),.int .i64 60,.pointer (some ⟨B3,0,none⟩),.pointer (some ⟨Bx,0,none⟩),undef,undef,undef,.slice (some ⟨b,off,none⟩) 16 c,.int .i64 16,.bool false,.slice (some ⟨b,off,none⟩) 16 c,.int .i64 16,.bool false,.agg (opv QV),.func (.func 212) #[] #[.pointer (some ⟨Bv,0,none⟩)],.agg #[.int .i64 x.n,.int .i64 x.lo,.int .i64 x.hi,.int .i64 x.by_],undef,undef,undef,undef,undef,undef,undef,undef,undef,undef,undef,undef,undef,undef,undef,undef,undef,undef,undef,undef,undef,undef,undef,undef,undef,undef,undef,undef,undef,undef,undef,undef,undef,undef,undef,undef,undef,undef,undef,undef,undef,undef,undef,undef,undef,undef,undef,undef,undef,undef,undef,undef,undef,undef,undef,undef,undef,undef,undef,undef,undef,undef,undef,undef,undef,undef,undef,undef],defers:= []})
   (fun x a' A B h hm=>by
    obtain⟨Bx,va,q1,q2,q3,q4,q5⟩:=h
    exact⟨Bx,va,q1,q2.mv hm Om,Qj q3 hm Om,q4,q5⟩)
   ?assign ?body ?done ?stop
  case assign=>
   intro y i x W K hsz hv hI hx hK;unfold nmv
   gi_wp2
   have hI2:=hI.mv (C:=fun _=>False) (Mv.al (.cells #[.int .i64 x.n,.int .i64 x.lo,.int .i64 x.hi,.int .i64 x.by_] 210) (Mv.refl _ _)) (fun h=>h) (fun h=>h) (fun _ _ h=>h);have HI:=hI;obtain⟨P,q,va,-,-,-,a4,-⟩:=hI2;obtain⟨P',q',va',-,-,-,a4',a5'⟩:=HI;have a4'':=Qj (C:=fun _=>False) a4' (Mv.al (.cells #[.int .i64 x.n,.int .i64 x.lo,.int .i64 x.hi,.int .i64 x.by_] 210) (Mv.refl _ _)) (fun h=>h);refine hK _ _ (Mv.al _ (Mv.refl _ _)) (hI.mv (C:=fun _=>False) (Mv.al _ (Mv.refl _ _)) (fun h=>h) (fun h=>h) (fun _ _ h=>h)) ⟨W.heap.size,va',hsz,RowZ.new _ _ _,a4'',fun g hg e=>by have:=a5'.lt g hg;omega,rfl⟩
  case body=>
   rintro y i x a' W hyl ⟨rr,hr⟩ hsz' hv hI hx ⟨Bx,va2,q1,q2,q3,q4,rfl⟩;obtain⟨hi8,m,hm,m1,m6,ho,hval,hlo⟩:=Qst hx bs h16 HR.out;obtain⟨P,q,va,a1,a2,a3,a4,a5⟩:=hI;have h16':=show offN (i+1)≤16 by unfold offN;split;omega;split;omega;split;omega;omega
   obtain rfl:=a3 Om;have sW:=s1.mv hv (by rintro(h|h|h);exact h;omega;omega);obtain⟨oi,hoi⟩: ∃z,offN i=z:=⟨_,rfl⟩;rw [hoi]at ho hval a1 a2;obtain⟨N,hN⟩: ∃N,16- oi=N:=⟨_,rfl⟩;rw [hN]at a1 a2;have hLb:((bs.drop oi).take m).length=m:=by rw [List.length_take,List.length_drop];omega
   have hLg: ∀k (hk:k<m),((bs.drop oi).take m)[k]?=some (bt bs (oi+k)):=fun k hk=>by
    rw [List.getElem?_take,if_pos hk,List.getElem?_drop];unfold bt;rw [List.getD_eq_getElem?_getD,List.getElem?_eq_getElem Om];rfl
   have hLr:ByR ((bs.drop oi).take m):=fun z hz=>HR.out z (List.mem_of_mem_drop (List.mem_of_mem_take hz));obtain⟨L,hL⟩: ∃L,(bs.drop oi).take m=L:=⟨_,rfl⟩;rw [hL]at hval hLb hLg hLr;have cb:=a1.cell;have d3:W.cell? ⟨Bx,3,none⟩=some (.int .i64 (m:Nat)):=by rw [←hm];exact q2.cell 3 (by show 3<4;omega)
   have d1:W.cell? ⟨Bx,1,none⟩=some (.int .i64 x.lo):=q2.cell 1 (by show 1<4;omega);have hlen0:(0:Int)≤(m:Nat):=by omega
   have hlenN:((m:Nat):Int)≤(q:Nat):=by omega
   obtain rfl:va=va2:=Option.some.inj (a4.cell.symm.trans q3.cell);have HA:=Xh (And.intro a1 (And.intro a4 (And.intro a5 (And.intro q2 (And.intro sW (And.intro hval (And.intro q4 (And.intro hm ho))))))));have HL:=Xh (And.intro hLb (And.intro hLg hLr));clear a1 a4 a5 q2 sW hval hLb hLg hLr hv hx hlo hm hr q3 q4 ho hyl a3 hL s1 bx1' bx3' r2' cv sv
   gi_wp2
   gi_loopw [6,8,23] (fun a _ j wr=> ∃k:Nat,k≤m∧a= .int .i64 (nbe (L.take k))∧j= .int .i64 (k:Nat)∧wr=W) (fun _ _ j _=>m- (intOf j).toNat)
   case atStart=>exact⟨0,Om,rfl,rfl,rfl⟩
   case round=>
    obtain⟨k,hk,rfl,rfl,rfl⟩:=hrel
    by_cases hkm:k=m
    ·have hneg:decide ((k:Int)<(m:Int))=false:=decide_eq_false Om;have hval:=HA.out.2.2.2.2.2.1;rw [hkm,List.take_of_length_le (by rw [HL.out.1];omega)];obtain⟨V,hV⟩: ∃V,nbe L=V:=⟨_,rfl⟩;rw [hV]at hval⊢;have HV:=Xh hval;have HK:=Xh hkm;clear hval hV hkm;obtain⟨U,hU⟩: ∃U,(if x.lo<0∧V=255 then-1 else V)=U:=⟨_,rfl⟩;have HVV:=Xh (HV.out.trans hU);have h3:(decide (x.lo<0)=true∧(V==255)=true∧(-1:Int)=U)∨(decide (x.lo<0)=true∧(V==255)=false∧V=U)∨(decide (x.lo<0)=false∧True∧V=U):=by
      by_cases h1:x.lo<0<;>by_cases h2:V=255<;>simp [h1,h2]at hU⊢ <;>first|exact hU|(subst h2;exact hU)
     clear hU;obtain⟨hd1,hd2,hU⟩|⟨hd1,hd2,hU⟩|⟨hd1,hd2,hU⟩:=h3
     all_goals gi_wp2
     all_goals rw [hU]
     all_goals
      clear hU;obtain⟨a1,a4,a5,q2,sW,-,q4,hm,ho⟩:=HA.out;obtain⟨pa,na,ca,rfl⟩:=YE a5;have hval:=HVV.out;have hge:=Qi a5;have hC1: ¬(Value.slice pa na ca).ownBlock=some B1:=fun e=>by have:=hge _ e;omega
      have hC3: ¬(Value.slice pa na ca).ownBlock=some B3:=fun e=>by have:=hge _ e;omega
      have hCx: ¬(Value.slice pa na ca).ownBlock=some Bx:=fun e=>q4 _ e rfl;have hD1: ¬(fun k=>(Value.slice pa na ca).ownBlock=some k∨k=B3) B1:=by rintro(e|e);exact hC1 e;omega
      have hDx: ¬(fun k=>(Value.slice pa na ca).ownBlock=some k∨k=B3) Bx:=by rintro(e|e);exact hCx e;omega
      have hmN:m≤N:=by omega
      have hvl:(YN bs i).length≤1000:=by unfold YN;rw [List.length_map,List.length_range];omega
      refine ZW (fun k=>(Value.slice pa na ca).ownBlock=some k∨k=B3) (fun k=>(Value.slice pa na ca).ownBlock=some k∨k=B3∨k=B1) 9 (fun _=>trivial) (fun h=>by cases h) (fun f args w R h=>CallsIn.inRound y (callsIn_wide.2 h)) Kr Kr ?_;obtain⟨WA,hW⟩: ∃Wdr,World.drew wr=Wdr:=⟨_,rfl⟩;have gD:Ext wr WA:=by rw [←hW];exact Ext.dr (Ext.rf _)
      rw [hW];clear hW;have a1:=Qj (C:=fun _=>False) a1 (Mv.of_ext gD) (fun h=>h);have a4:=Qj (C:=fun _=>False) a4 (Mv.of_ext gD) (fun h=>h);have a5:=OIi.ext a5 gD;have q2:=q2.ext gD;have d3:WA.cell? ⟨Bx,3,none⟩=some (.int .i64 (m:Nat)):=by rw [←hm];exact q2.cell 3 (by show 3<4;omega)
      have hbs:w1.heap.size+2≤WA.heap.size:=Xt hsz' gD.size;refine Zi (N:=10) (R:=Qd3) (E:=((Tryz.f94.body.bind (Qh 16)).getD #[])) Kr Qa4 Kr fun hS=> ?_;obtain⟨hS,hSb⟩:=hS;have hT:=hS.2.1;refine tWk 2 (.int .i64 U) hS.1 hT rfl fun hT=> ?_;refine ZD (N:=10) (k:=4) (m':=18) (v:= .slice (some ⟨b,off+oi,none⟩) N q) hS.1 hT hS.2.2.2.2.2.2.2.2.1 rfl rfl Kr (JY a1.cell a1.lt hD1 Kr) fun hT=> ?_;refine ZD (N:=10) (k:=5) (m':=50) (v:= .pointer (some ⟨Bx,3,none⟩)) hS.1 hT hS.2.2.2.2.2.2.2.2.2.1 rfl rfl Kr (fun _ _=>by kernel_rfl) fun hT=> ?_;refine ZD (N:=10) (k:=6) (m':=114) (v:= .int .i64 (m:Nat)) hS.1 hT hS.2.2.2.2.2.2.2.2.2.2.1 rfl rfl Kr (QaY d3 q2.l hDx Kr) fun hT=> ?_;refine ZD (N:=10) (k:=7) (m':=242) (v:= .slice (ZF b (off+oi) q m) (N- m) (q- m)) hS.1 hT hS.2.2.2.2.2.2.2.2.2.2.2 rfl rfl Kr (fun w' _=>QaV (lo:=m) (m:=N) hmN a2 Kr Kr w') fun hT=> ?_;refine QmS hS.2.2.1 ?_ ?_
      ·refine(Zq (m':=243) (v:= .slice pa na ca) rfl rfl Kr ((Jk (C:=fun _=>False) a4.cell a4.lt (fun h=>h) Kr) _ (Mv.refl (fun _=>False) _)) ⟨.inr (Mv.refl _ _),(Mv.refl _ _)⟩ ?_);refine Qr hS.2.2.2.1 (Zq (m':=247) rfl rfl Kr (YU (v:=U) Kr WA) ⟨.inr (Mv.of_ext Ea),(Mv.of_ext Ea)⟩ ?_);obtain⟨WB2,hWB2⟩: ∃WB2,WA.alloc (.cells #[.int .i64 U] 3)=WB2:=⟨_,rfl⟩;have hbk:=World.alloc_heap_new WA (.cells #[.int .i64 U] 3);have gWB2:Ext WA WB2:=by rw [←hWB2];exact Ea
       rw [hWB2]at hbk⊢;clear hWB2;have a1:=Qj (C:=fun _=>False) a1 (Mv.of_ext gWB2) (fun h=>h);have a4:=Qj (C:=fun _=>False) a4 (Mv.of_ext gWB2) (fun h=>h);have a5:=OIi.ext a5 gWB2;have q2:=q2.ext gWB2;have hcA:WB2.cell? ⟨WA.heap.size,0,none⟩=some (.int .i64 U):=by simp only [World.cell?,hbk];rfl
       have hbs:=Xt hbs gWB2.size;have hm1:=Mv.of_ext (C:=fun k=>(k=B1∨k=B3)∨w1.heap.size+2≤k) gWB2;refine Qr hS.2.2.2.2.1 (Qc8 (m':=255) (base:=w1.heap.size+2) (v1:= .slice pa na ca) (b1:=YN bs i) (x1:=U) rfl rfl Kr Kr a5 hcA hvl (fun r e=> .inl e) (fun k h=>h.elim .inl (fun h=> .inr (.inl h))) hbs ?_);intro v' WB3 a5 hg' hm';have a1:=Qj a1 hm' hC1;have a4:=Qj a4 hm' hC3;have q2:=q2.mv hm' hCx;have hm2:=hm'.mono (D:=fun k=>(k=B1∨k=B3)∨w1.heap.size+2≤k) (fun k _ e=> .inr (hge k e));refine Qr hS.2.2.2.2.2.1 (QE (m':=511) rfl rfl Kr (YV (B:=B3) (v:=v') (u:= .slice pa na ca) a4.cell a4.frozen (YE a5) Kr Kr) ⟨.inr (Mv.st _ (.inl (by first|exact .inr rfl|exact .inr (.inl rfl))) (Mv.refl _ _)),(Mv.st _ (.inl (by first|exact .inr rfl|exact .inr (.inl rfl))) (Mv.refl _ _))⟩ ?_);obtain⟨WB4,hWB4⟩: ∃WB4,World.setCell WB3 ⟨B3,0,none⟩ v'=WB4:=⟨_,rfl⟩;have a4:Boxed WB4 B3 206 v':=by rw [←hWB4];exact a4.set _
       have gS:Mv (fun k=>k=B3) WB3 WB4:=by rw [←hWB4];exact Mv.st _ (.inl rfl) (Mv.refl _ _)
       have a1:=Qj a1 gS Om;have a5:=Qw a5 gS (fun k hk e=>by omega);rw [hWB4];clear hWB4;refine Qr hS.2.2.2.2.2.2.1 (QE (m':=1023) rfl rfl Kr (Yt (B:=B1) (v:= .slice (ZF b (off+oi) q m) (N- m) (q- m)) (u:= .slice (some ⟨b,off+oi,none⟩) N q) a1.cell a1.frozen ⟨_,_,_,rfl⟩ Kr Kr) ⟨.inl Dc,(Mv.st _ (.inl (.inr (.inr rfl))) (Mv.refl _ _))⟩ ?_);obtain⟨WB5,hWB5⟩: ∃WB5,World.setCell WB4 ⟨B1,0,none⟩ (.slice (ZF b (off+oi) q m) (N- m) (q- m))=WB5:=⟨_,rfl⟩;have a1:Boxed WB5 B1 28 (.slice (ZF b (off+oi) q m) (N- m) (q- m)):=by rw [←hWB5];exact a1.set _
       have gT:Mv (fun k=>k=B1) WB4 WB5:=by rw [←hWB5];exact Mv.st _ (.inl rfl) (Mv.refl _ _)
       have a4:=Qj a4 gT Om;have a5:=Qw a5 gT (fun k hk e=>by omega);rw [hWB5];clear hWB5;refine QZ hS.2.2.2.2.2.2.2.1 ?_;clear hS hSb hT;have HF:Qfo bs b off B1 B3 (w1.heap.size+2) (i+1) WB5:=⟨⟨ZF b (off+oi) q m,q- m,v',by rw [ho,show 16- (oi+m)=N- m by omega];exact a1,Om,fun h=>by unfold ZF;rw [if_neg Om,ho,Nat.add_assoc],a4,by rw [YW,hval];exact a5⟩⟩;have HM:Mv (fun k=>(k=B1∨k=B3)∨w1.heap.size+2≤k) wr WB5:=((((Mv.of_ext gD).trans hm1).trans hm2).trans (gS.mono (D:=fun k=>(k=B1∨k=B3)∨w1.heap.size+2≤k) (fun k _ e=> .inl (.inr e)))).trans (gT.mono (D:=fun k=>(k=B1∨k=B3)∨w1.heap.size+2≤k) (fun k _ e=> .inl (.inl e)));go_simp;exact⟨HM,HF⟩
      ·refine(Zq (m':=246) rfl rfl Kr (YU (v:=U) Kr WA) ⟨.inr (Mv.of_ext Ea),(Mv.of_ext Ea)⟩ ?_);obtain⟨WB1,hWB1⟩: ∃WB1,WA.alloc (.cells #[.int .i64 U] 3)=WB1:=⟨_,rfl⟩;have hbk:=World.alloc_heap_new WA (.cells #[.int .i64 U] 3);have gWB1:Ext WA WB1:=by rw [←hWB1];exact Ea
       rw [hWB1]at hbk⊢;clear hWB1;have a1:=Qj (C:=fun _=>False) a1 (Mv.of_ext gWB1) (fun h=>h);have a4:=Qj (C:=fun _=>False) a4 (Mv.of_ext gWB1) (fun h=>h);have a5:=OIi.ext a5 gWB1;have q2:=q2.ext gWB1;have hcA:WB1.cell? ⟨WA.heap.size,0,none⟩=some (.int .i64 U):=by simp only [World.cell?,hbk];rfl
       have hbs:=Xt hbs gWB1.size;have hm1:=Mv.of_ext (C:=fun k=>(k=B1∨k=B3)∨w1.heap.size+2≤k) gWB1;refine Qr hSb.2.2.2.1 (Zq (m':=247) (v:= .slice pa na ca) rfl rfl Kr ((Jk (C:=fun _=>False) a4.cell a4.lt (fun h=>h) Kr) _ (Mv.refl (fun _=>False) _)) ⟨.inr (Mv.refl _ _),(Mv.refl _ _)⟩ ?_);refine Qr hSb.2.2.2.2.1 (Qc8 (m':=255) (base:=w1.heap.size+2) (v1:= .slice pa na ca) (b1:=YN bs i) (x1:=U) rfl rfl Kr Kr a5 hcA hvl (fun r e=> .inl e) (fun k h=>h.elim .inl (fun h=> .inr (.inl h))) hbs ?_);intro v' WB3 a5 hg' hm';have a1:=Qj a1 hm' hC1;have a4:=Qj a4 hm' hC3;have q2:=q2.mv hm' hCx;have hm2:=hm'.mono (D:=fun k=>(k=B1∨k=B3)∨w1.heap.size+2≤k) (fun k _ e=> .inr (hge k e));refine Qr hSb.2.2.2.2.2.1 (QE (m':=511) rfl rfl Kr (YV (B:=B3) (v:=v') (u:= .slice pa na ca) a4.cell a4.frozen (YE a5) Kr Kr) ⟨.inr (Mv.st _ (.inl (by first|exact .inr rfl|exact .inr (.inl rfl))) (Mv.refl _ _)),(Mv.st _ (.inl (by first|exact .inr rfl|exact .inr (.inl rfl))) (Mv.refl _ _))⟩ ?_);obtain⟨WB4,hWB4⟩: ∃WB4,World.setCell WB3 ⟨B3,0,none⟩ v'=WB4:=⟨_,rfl⟩;have a4:Boxed WB4 B3 206 v':=by rw [←hWB4];exact a4.set _
       have gS:Mv (fun k=>k=B3) WB3 WB4:=by rw [←hWB4];exact Mv.st _ (.inl rfl) (Mv.refl _ _)
       have a1:=Qj a1 gS Om;have a5:=Qw a5 gS (fun k hk e=>by omega);rw [hWB4];clear hWB4;refine Qr hSb.2.2.2.2.2.2.1 (QE (m':=1023) rfl rfl Kr (Yt (B:=B1) (v:= .slice (ZF b (off+oi) q m) (N- m) (q- m)) (u:= .slice (some ⟨b,off+oi,none⟩) N q) a1.cell a1.frozen ⟨_,_,_,rfl⟩ Kr Kr) ⟨.inl Dc,(Mv.st _ (.inl (.inr (.inr rfl))) (Mv.refl _ _))⟩ ?_);obtain⟨WB5,hWB5⟩: ∃WB5,World.setCell WB4 ⟨B1,0,none⟩ (.slice (ZF b (off+oi) q m) (N- m) (q- m))=WB5:=⟨_,rfl⟩;have a1:Boxed WB5 B1 28 (.slice (ZF b (off+oi) q m) (N- m) (q- m)):=by rw [←hWB5];exact a1.set _
       have gT:Mv (fun k=>k=B1) WB4 WB5:=by rw [←hWB5];exact Mv.st _ (.inl rfl) (Mv.refl _ _)
       have a4:=Qj a4 gT Om;have a5:=Qw a5 gT (fun k hk e=>by omega);rw [hWB5];clear hWB5;refine QZ hSb.2.2.2.2.2.2.2.1 ?_;clear hS hSb hT;have HF:Qfo bs b off B1 B3 (w1.heap.size+2) (i+1) WB5:=⟨⟨ZF b (off+oi) q m,q- m,v',by rw [ho,show 16- (oi+m)=N- m by omega];exact a1,Om,fun h=>by unfold ZF;rw [if_neg Om,ho,Nat.add_assoc],a4,by rw [YW,hval];exact a5⟩⟩;have HM:Mv (fun k=>(k=B1∨k=B3)∨w1.heap.size+2≤k) wr WB5:=((((Mv.of_ext gD).trans hm1).trans hm2).trans (gS.mono (D:=fun k=>(k=B1∨k=B3)∨w1.heap.size+2≤k) (fun k _ e=> .inl (.inr e)))).trans (gT.mono (D:=fun k=>(k=B1∨k=B3)∨w1.heap.size+2≤k) (fun k _ e=> .inl (.inl e)));go_simp;exact⟨HM,HF⟩
    ·have hpos:decide ((k:Int)<(m:Int))=true:=decide_eq_true Om;obtain⟨a1,a4,a5,q2,sW,hval,q4,hm,ho⟩:=HA.out;obtain⟨hLb,hLg,hLr⟩:=HL.out;have hcc:wr.cell? ⟨b,off+oi+k,none⟩=some (.int .u8 (bt bs (oi+k))):=by
      rw [Nat.add_assoc];exact(sW.bt (oi+k) Om).1
     have htk:L.take (k+1)=L.take k++ [bt bs (oi+k)]:=by rw [List.take_add_one,hLg k Om];rfl
     have hn1:=Qph k (L.take k) (by rw [List.length_take];omega) (fun z hz=>hLr z (List.mem_of_mem_take hz));have hb1:=hLr _ (List.mem_iff_getElem?.2 ⟨k,hLg k Om⟩);have hN1:=Xh (congrArg nbe htk);rw [Qil]at hN1;obtain⟨n,hn⟩: ∃n,nbe (L.take k)=n:=⟨_,rfl⟩;obtain⟨d,hd⟩: ∃d,bt bs (oi+k)=d:=⟨_,rfl⟩;rw [hn]at hN1 hn1⊢;rw [hd]at hN1 hb1 hcc;clear a1 a4 a5 q2 sW hval hLb hLg hLr htk q4 hm ho;have hp:(256:Int)^k≤1099511627776:=by
      obtain rfl|rfl|rfl|rfl|rfl|rfl:k=0∨k=1∨k=2∨k=3∨k=4∨k=5:=by omega
      all_goals decide
     have HP:=Xh (And.intro hn1 (And.intro hb1 hp));clear hn1 hb1 hp
     gi_wp2
     obtain⟨⟨n0,n1⟩,⟨d0,d1⟩,hp⟩:=HP.out;refine⟨⟨k+1,Om,?_,rfl,trivial⟩,by simp [intOf];omega⟩;rw [hN1.out,show wrap64 (n*256)=n*256 by simp only [wrap64];omega,show wrap64 d=d by simp only [wrap64];omega,QAi n0 Om d0 d1]
  case done=>
   rintro W hI hv hK;obtain⟨P,q,va,a1,a2,a3,a4,a5⟩:=hI;have a5:OIi W (w1.heap.size+2) va (YN bs 8):=a5;rw [Qvu]at a5;obtain⟨gb,cw,rfl,hgb,hgl,hcl⟩:=a5.at (by show 0<8;omega);have E:=Mv.ext_of g2 hv (fun k h=>by rcases h with h|h|h;exact h.elim;omega;omega);have rz:=r2'.mv hv (by rintro(h|h|h);exact h.elim;omega;omega);have k0:W.cell? ⟨gb,0,none⟩=some (.int .i64 (bt bs 0)):=hcl 0 (by show 0<8;omega);have k1:W.cell? ⟨gb,1,none⟩=some (.int .i64 (bt bs 1)):=hcl 1 (by show 1<8;omega);have k2:W.cell? ⟨gb,2,none⟩=some (.int .i64 (bt bs 2)):=hcl 2 (by show 2<8;omega);have k3:W.cell? ⟨gb,3,none⟩=some (.int .i64 (bt bs 3)):=hcl 3 (by show 3<8;omega);have k4:W.cell? ⟨gb,4,none⟩=some (.int .i64 (nd (bt bs 4))):=hcl 4 (by show 4<8;omega);have k5:W.cell? ⟨gb,5,none⟩=some (.int .i64 (nd (bt bs 5))):=hcl 5 (by show 5<8;omega);have k6:W.cell? ⟨gb,6,none⟩=some (.int .i64 (nbe ((bs.drop 6).take 4))):=hcl 6 (by show 6<8;omega);have k7:W.cell? ⟨gb,7,none⟩=some (.int .i64 (nbe ((bs.drop 10).take 6))):=hcl 7 (by show 7<8;omega);have hbt: ∀k,k<16→0≤bt bs k∧bt bs k<256:=fun k hk=>QaI HR.out k;have hb2:bt bs 2 % 256=bt bs 2:=by have:=hbt 2 Om;omega
   have hb3:bt bs 3 % 256=bt bs 3:=by have:=hbt 3 Om;omega
   have HO:=Xh (fun z4 z5 z6 z7 W=>Qb6 ⟨bt bs 2,bt bs 3,z4,z5,z6,z7⟩ W (hbt 2 Om) (hbt 3 Om));obtain⟨z4,e4⟩: ∃z,nd (bt bs 4)=z:=⟨_,rfl⟩;rw [e4]at k4;obtain⟨z5,e5⟩: ∃z,nd (bt bs 5)=z:=⟨_,rfl⟩;rw [e5]at k5;obtain⟨z6,e6⟩: ∃z,nbe ((bs.drop 6).take 4)=z:=⟨_,rfl⟩;rw [e6]at k6;obtain⟨z7,e7⟩: ∃z,nbe ((bs.drop 10).take 6)=z:=⟨_,rfl⟩;rw [e7]at k7;have HT:=Xh (show Qpi bs=⟨bt bs 2,bt bs 3,z4,z5,z6,z7⟩by unfold Qpi;rw [e4,e5,e6,e7]);have hk1:=hK;have hkl:=(Array.getElem?_eq_some_iff.1 hK).1;clear a1 a2 a3 a5 hcl hv hK e4 e5 e6 e7 hbt r2' s1 bx1' bx3' cv sv g2 g1 g0
   go_upto_region 17 with(fail)
   refine QO (fun k=>k=B2) Kr ?_;obtain⟨WA,hW⟩: ∃Wdr,World.drew W=Wdr:=⟨_,rfl⟩;have gD:Ext W WA:=by rw [←hW];exact Ext.dr (Ext.rf _)
   rw [hW];clear hW;have E:=E.tr gD;have rz:=rz.ext gD;have a4:=Qj (C:=fun _=>False) a4 (Mv.of_ext gD) (fun h=>h);have k0:=(gD.cell (p:=⟨gb,0,none⟩) hgl).trans k0;have k1:=(gD.cell (p:=⟨gb,1,none⟩) hgl).trans k1;have k2:=(gD.cell (p:=⟨gb,2,none⟩) hgl).trans k2;have k3:=(gD.cell (p:=⟨gb,3,none⟩) hgl).trans k3;have k4:=(gD.cell (p:=⟨gb,4,none⟩) hgl).trans k4;have k5:=(gD.cell (p:=⟨gb,5,none⟩) hgl).trans k5;have k6:=(gD.cell (p:=⟨gb,6,none⟩) hgl).trans k6;have k7:=(gD.cell (p:=⟨gb,7,none⟩) hgl).trans k7;have hgl:=Xl hgl gD.size;have hk1:=(gD.block _ hkl).trans hk1;have hkl:=Xl hkl gD.size;refine QaH (N:=22) (R:=QlN) (E:=((Tryz.f94.body.bind (Qh 17)).getD #[])) Kr Qio Kr fun hS=> ?_;have hT:=hS.2.1;refine tM 1 (.slice (some ⟨gb,0,none⟩) 8 cw) hS.1 hT rfl (Jk a4.cell a4.lt Om Kr) fun hT=>tM 3 (.pointer (some ⟨gb,2,none⟩)) hS.1 hT rfl (fun w' _=>J5 (m:=8) (c:=cw) 2 Om Kr Kr w') fun hT=>tM 7 (.int .i64 (bt bs 2)) hS.1 hT rfl (QaY k2 hgl Om Kr) fun hT=>tM 15 (.int .u8 (bt bs 2)) hS.1 hT rfl (fun w' _=>QdK hb2 Kr w') fun hT=>tM 31 (.slice (some ⟨gb,0,none⟩) 8 cw) hS.1 hT rfl (Jk a4.cell a4.lt Om Kr) fun hT=>tM 63 (.pointer (some ⟨gb,3,none⟩)) hS.1 hT rfl (fun w' _=>J5 (m:=8) (c:=cw) 3 Om Kr Kr w') fun hT=>tM 127 (.int .i64 (bt bs 3)) hS.1 hT rfl (QaY k3 hgl Om Kr) fun hT=>tM 255 (.int .u8 (bt bs 3)) hS.1 hT rfl (fun w' _=>QdK hb3 Kr w') fun hT=>tM 511 (.slice (some ⟨gb,0,none⟩) 8 cw) hS.1 hT rfl (Jk a4.cell a4.lt Om Kr) fun hT=>tM 1023 (.pointer (some ⟨gb,4,none⟩)) hS.1 hT rfl (fun w' _=>J5 (m:=8) (c:=cw) 4 Om Kr Kr w') fun hT=>tM 2047 (.int .i64 (z4)) hS.1 hT rfl (QaY k4 hgl Om Kr) fun hT=>tM 4095 (.slice (some ⟨gb,0,none⟩) 8 cw) hS.1 hT rfl (Jk a4.cell a4.lt Om Kr) fun hT=>tM 8191 (.pointer (some ⟨gb,5,none⟩)) hS.1 hT rfl (fun w' _=>J5 (m:=8) (c:=cw) 5 Om Kr Kr w') fun hT=>tM 16383 (.int .i64 (z5)) hS.1 hT rfl (QaY k5 hgl Om Kr) fun hT=> ?_;have hT:=hS.2.2.1;refine tM 32767 (.slice (some ⟨gb,0,none⟩) 8 cw) hS.1 hT rfl (Jk a4.cell a4.lt Om Kr) fun hT=>tM 65535 (.pointer (some ⟨gb,6,none⟩)) hS.1 hT rfl (fun w' _=>J5 (m:=8) (c:=cw) 6 Om Kr Kr w') fun hT=>tM 131071 (.int .i64 (z6)) hS.1 hT rfl (QaY k6 hgl Om Kr) fun hT=>tM 262143 (.slice (some ⟨gb,0,none⟩) 8 cw) hS.1 hT rfl (Jk a4.cell a4.lt Om Kr) fun hT=>tM 524287 (.pointer (some ⟨gb,7,none⟩)) hS.1 hT rfl (fun w' _=>J5 (m:=8) (c:=cw) 7 Om Kr Kr w') fun hT=>tM 1048575 (.int .i64 (z7)) hS.1 hT rfl (QaY k7 hgl Om Kr) fun hT=>tMk 2097151 (.agg #[.int .u8 (bt bs 2),.int .u8 (bt bs 3),.int .i64 z4,.int .i64 z5,.int .i64 z6,.int .i64 z7]) hS.1 hT rfl fun hT=> ?_;refine QaO hS.2.2.2.1 (Qan (m':=4194303) rfl rfl Kr (Qpa (B:=B2) (cs:=#[.int .u8 (bt bs 2),.int .u8 (bt bs 3),.int .i64 z4,.int .i64 z5,.int .i64 z6,.int .i64 z7]) (by rw [rz.r];rfl) rz.z rfl (by simp [go_sem]) Kr Kr) (Mv.sa _ rfl (Mv.refl _ _)) ?_);obtain⟨WB1,hWB1⟩: ∃WB1,Qe WA B2 0 #[.int .u8 (bt bs 2),.int .u8 (bt bs 3),.int .i64 z4,.int .i64 z5,.int .i64 z6,.int .i64 z7]=WB1:=⟨_,rfl⟩;have gS:Mv (fun k=>k=B2) WA WB1:=by rw [←hWB1];exact Mv.sa _ rfl (Mv.refl _ _)
   have E:=Mv.ext_of E gS (fun k e=>by omega);have a4:=Qj a4 gS Om;have rz:RowZ WB1 B2 #[.int .u8 (bt bs 2),.int .u8 (bt bs 3),.int .i64 z4,.int .i64 z5,.int .i64 z6,.int .i64 z7]:=by rw [←hWB1];exact rz.all _ rfl
   rw [hWB1];clear hWB1;refine doneK hS.2.2.2.2 ?_;clear hS hT;go_simp;have k0:WB1.cell? ⟨gb,0,none⟩=some (.int .i64 (bt bs 0)):=by rw [Qa,Qf (gS.same gb hgl Om),←Qa];exact k0
   have k1:WB1.cell? ⟨gb,1,none⟩=some (.int .i64 (bt bs 1)):=by rw [Qa,Qf (gS.same gb hgl Om),←Qa];exact k1
   have hk1:=(gS.same w1.heap.size hkl Om).trans hk1;have hkl:=Xl hkl gS.size;have a4:Boxed WB1 B3 206 (.slice (some ⟨gb,0,none⟩) 8 cw):=a4;have cl:=a4.cell;have HO:=Xh (HO.out z4 z5 z6 z7);have rz:RowZ WB1 B2 (opv ⟨bt bs 2,bt bs 3,z4,z5,z6,z7⟩):=rz;have HT:=HT;obtain⟨T,hT⟩: ∃T:Opt,(⟨bt bs 2,bt bs 3,z4,z5,z6,z7⟩:Opt)=T:=⟨_,rfl⟩;rw [hT]at rz HO HT;obtain⟨t0,ht0⟩: ∃t,bt bs 0=t:=⟨_,rfl⟩;obtain⟨t1,ht1⟩: ∃t,bt bs 1=t:=⟨_,rfl⟩;have HK:=Xh (show Qc7 bs=(t0==158&&t1==16&&ZO T)by unfold Qc7;rw [HT.out,ht0,ht1]);rw [ht0]at k0;rw [ht1]at k1;have hR2:=rz.r;have hZ2:=rz.z;have hL2:=rz.l;have HX:=Xh (And.intro E (And.intro rz (And.intro hk1 hkl)));clear ht0 ht1 hT E rz hk1 hkl a4 gS gD k2 k3 k4 k5 k6 k7 hb2 hb3 hgl
   cases h0:(t0==158)
   ·go_wp2;go_step3;go_wp2;simp only [Exit.jump];obtain⟨E,rz,hk1,hkl⟩:=HX.out;have hbad:=HK.out;rw [h0]at hbad;have mS:Mv (fun k=>k=B2) WB1 (Qe WB1 B2 0 (opv QV)):=Mv.sa _ rfl (Mv.refl _ _);have hk2:=(mS.same w1.heap.size hkl Om).trans hk1;refine⟨by simp,.inl ⟨_,_,rfl,run_takeDeferred hk2,?_⟩⟩;have m3:Mv (fun k=>k=w1.heap.size) (Qe WB1 B2 0 (opv QV)) ((Qe WB1 B2 0 (opv QV)).putObj w1.heap.size (.deferred none)):=Mv.put _ _ _ rfl;exact⟨_,Qbq rfl ((rz.all (opv QV) rfl).mv m3 Om).r rfl,by rw [show Yh bs=QV from if_neg (fun e=>by rw [hbad]at e;cases e.2),show takeE bs=60 from((if_neg Om).trans (if_neg Om)).trans (if_neg (by rw [hbad];simp))];rfl,Mv.ext_of (Mv.ext_of E mS (fun k e=>by omega)) m3 (fun k e=>by omega)⟩
   ·cases h1:(t1==16)
    ·go_wp2;go_step3;go_wp2;simp only [Exit.jump];obtain⟨E,rz,hk1,hkl⟩:=HX.out;have hbad:=HK.out;rw [h0,h1]at hbad;have mS:Mv (fun k=>k=B2) WB1 (Qe WB1 B2 0 (opv QV)):=Mv.sa _ rfl (Mv.refl _ _);have hk2:=(mS.same w1.heap.size hkl Om).trans hk1;refine⟨by simp,.inl ⟨_,_,rfl,run_takeDeferred hk2,?_⟩⟩;have m3:Mv (fun k=>k=w1.heap.size) (Qe WB1 B2 0 (opv QV)) ((Qe WB1 B2 0 (opv QV)).putObj w1.heap.size (.deferred none)):=Mv.put _ _ _ rfl;exact⟨_,Qbq rfl ((rz.all (opv QV) rfl).mv m3 Om).r rfl,by rw [show Yh bs=QV from if_neg (fun e=>by rw [hbad]at e;cases e.2),show takeE bs=60 from((if_neg Om).trans (if_neg Om)).trans (if_neg (by rw [hbad];simp))];rfl,Mv.ext_of (Mv.ext_of E mS (fun k e=>by omega)) m3 (fun k e=>by omega)⟩
    ·cases h2:ZO T
     ·rw [h2]at HO
      go_wp2_with (go_at_call 169;(refine(HO.out _).mono ?_);rintro e w4 ⟨rfl,g4⟩;have hR4:=(HX.out.2.1.ext g4).r;have hZ4:=(HX.out.2.1.ext g4).z)
      go_step3;go_wp2;simp only [Exit.jump];obtain⟨E,rz,hk1,hkl⟩:=HX.out;have E:=E.tr g4;have rz:=rz.ext g4;have hk1:=(g4.block _ hkl).trans hk1;have hkl:=Xl hkl g4.size;have hbad:=HK.out;rw [h0,h1,h2]at hbad;have mS:Mv (fun k=>k=B2) w4 (Qe w4 B2 0 (opv QV)):=Mv.sa _ rfl (Mv.refl _ _);have hk2:=(mS.same w1.heap.size hkl Om).trans hk1;refine⟨by simp,.inl ⟨_,_,rfl,run_takeDeferred hk2,?_⟩⟩;have m3:Mv (fun k=>k=w1.heap.size) (Qe w4 B2 0 (opv QV)) ((Qe w4 B2 0 (opv QV)).putObj w1.heap.size (.deferred none)):=Mv.put _ _ _ rfl;exact⟨_,Qbq rfl ((rz.all (opv QV) rfl).mv m3 Om).r rfl,by rw [show Yh bs=QV from if_neg (fun e=>by rw [hbad]at e;cases e.2),show takeE bs=60 from((if_neg Om).trans (if_neg Om)).trans (if_neg (by rw [hbad];simp))];rfl,Mv.ext_of (Mv.ext_of E mS (fun k e=>by omega)) m3 (fun k e=>by omega)⟩
     ·rw [h2]at HO
      go_wp2_with (go_at_call 169;(refine(HO.out _).mono ?_);rintro e w4 ⟨rfl,g4⟩;have hR4:=(HX.out.2.1.ext g4).r;have hZ4:=(HX.out.2.1.ext g4).z)
      simp only [Exit.jump];obtain⟨E,rz,hk1,hkl⟩:=HX.out;have E:=E.tr g4;have rz:=rz.ext g4;have hk1:=(g4.block _ hkl).trans hk1;have hkl:=Xl hkl g4.size;have hgood:=HK.out;rw [h0,h1,h2]at hgood;have mS:Mv (fun k=>k=B2) w4 (Qe w4 B2 0 (opv T)):=Mv.sa _ rfl (Mv.refl _ _);have hk2:=(mS.same w1.heap.size hkl Om).trans hk1;refine⟨by simp,.inl ⟨_,_,rfl,run_takeDeferred hk2,?_⟩⟩;have m3:Mv (fun k=>k=w1.heap.size) (Qe w4 B2 0 (opv T)) ((Qe w4 B2 0 (opv T)).putObj w1.heap.size (.deferred none)):=Mv.put _ _ _ rfl;exact⟨_,Qbq rfl ((rz.all (opv T) rfl).mv m3 Om).r rfl,by rw [show Yh bs=T from(if_pos ⟨h16,hgood⟩).trans HT.out,show takeE bs=0 from((if_neg Om).trans (if_neg Om)).trans (if_pos hgood)];rfl,Mv.ext_of (Mv.ext_of E mS (fun k e=>by omega)) m3 (fun k e=>by omega)⟩
  case stop=>intro _ _ h;exact h.elim
 ·have hc:decide (((bs.length:Nat):Int)<16)=false:=decide_eq_false Om;have hc2:decide ((16:Int)<((bs.length:Nat):Int))=true:=decide_eq_true Om;go_wp2;go_step3;refine⟨rfl,?_⟩;go_wp2;rw [Exit.noGoto_ret];obtain⟨bx1,bx3,r2,s0,g0,hsz⟩:=HX.out;exact⟨_,Qbq rfl (r2.all (opv QV) rfl).r rfl,by rw [show Yh bs=QV from if_neg Om,show takeE bs=60 from(if_neg Om).trans (if_pos h16)];rfl,Mv.ext_of g0 (Mv.sa (C:=fun k=>k=B2) _ rfl (Mv.refl _ _)) (fun k e=>by omega)⟩
@[go_sem] theorem QwX(w:World):(Instr.index 264 (.agg #[.int .u8 1,.int .i64 3,.int .u8 2,.int .i64 6,.int .u8 3,.int .i64 1]) (.int .i64 0)).run Tryz.prog w= .ok (.agg #[.int .u8 1,.int .i64 3]) w:=Kr
@[go_sem] theorem QwY(w:World):(Instr.index 264 (.agg #[.int .u8 1,.int .i64 3,.int .u8 2,.int .i64 6,.int .u8 3,.int .i64 1]) (.int .i64 1)).run Tryz.prog w= .ok (.agg #[.int .u8 2,.int .i64 6]) w:=Kr
@[go_sem] theorem QwZ(w:World):(Instr.index 264 (.agg #[.int .u8 1,.int .i64 3,.int .u8 2,.int .i64 6,.int .u8 3,.int .i64 1]) (.int .i64 2)).run Tryz.prog w= .ok (.agg #[.int .u8 3,.int .i64 1]) w:=Kr
def Qx:List (Int×Int):= [(1,0),(1,1),(1,2),(2,0),(2,1),(2,2),(2,3),(2,4),(2,5),(3,0)]
def noV(x:Int×Int):Value:= .agg #[.int .u8 x.1,.int .i64 x.2]
theorem Qg1: ∀args w,(callFunc 234 args).run Tryz.prog w= .ok (.enter 234 args) w:=enters_of Tryz.func234 Kr rfl
theorem QmZ(w:World):Calls Tryz.prog 213 #[] w fun e w'=>e= .returned (.func (.func 234) #[] #[])∧w=w':=by
 go_enter Tryz.func213,Tryz.ntmps213
 go_wp2;go_ret;exact⟨rfl,rfl⟩
def Qvv(k:Nat):Nat:=if k=0 then 0 else if k=1 then 3 else if k=2 then 9 else 10
theorem QjP(n:Nat)(w:World)(U:Nat→Prop)(hU: ∀k,U k→k<w.heap.size):
  QlJ Fence.wide n Tryz.prog 234 #[] (fun x:Int×Int=>#[noV x]) (fun _=>False) U (fun _=>True) Qx w:=by
 intro y J Jx W hW hW2 hJ hJx hY hJ0;have HJ:=Xh hJ;have HJx:=Xh hJx;clear hJ hJx;obtain⟨yfn,ytm,yas,ybo,hY⟩:=hY;have HY:=Xh hY;clear hY;have HLU:=Xh (show ∀k,w.heap.size+2≤k→ ¬(U k∨k=w.heap.size∨k=w.heap.size+1)from fun k hk=>by rintro(h|h|h);(have:=hU _ h;omega);omega;omega);obtain⟨lo,hlo⟩: ∃lo,w.heap.size+2=lo:=⟨_,rfl⟩;rw [hlo]at HLU hW2;clear hlo hU hW;refine callsIn_of_wp Tryz.func234 rfl trivial ?_ rfl;simp only [Tryz.ntmps234,List.size_toArray,List.length_cons,List.length_nil,Nat.reduceAdd,Nat.reduceSub,Array.replicate_succ,Array.replicate_zero,List.push_toArray,List.append_toArray,List.nil_append,List.cons_append];refine wpIn_wide.2 ?_;go_wp2
 go_loopw [9] (fun a wr=> ∃k:Nat,k≤3∧a= .int .i64 k∧J (Qvv k) wr∧lo≤wr.heap.size) (fun a _=>3- (intOf a).toNat)
 case atStart=>exact⟨0,Om,rfl,hJ0,hW2⟩
 case round=>
  clear hJ0 hW2;obtain⟨k,hk,rfl,hJi,hz⟩:=hrel;have HJI:=Xh hJi;clear hJi;obtain rfl|rfl|rfl|rfl:k=0∨k=1∨k=2∨k=3:=by omega
  ·rw [show(((0:Nat)):Int)=0 from rfl]
   go_upto_region 3 with(fail)
   obtain⟨W1,hW1⟩: ∃W1,wr.alloc (.cells #[.int .u8 1,.int .i64 3] 263)=W1:=⟨_,rfl⟩;have g1:Ext wr W1:=by rw [←hW1];exact Ea
   have r1:RowZ W1 wr.heap.size #[.int .u8 1,.int .i64 3]:=by rw [←hW1];exact RowZ.new _ _ _
   rw [hW1];clear hW1;have hJ1:=HJ.out _ _ _ HJI.out (Mv.of_ext g1);have hz1:=Xt hz g1.size;obtain⟨Bk,hBk⟩: ∃B,wr.heap.size=B:=⟨_,rfl⟩;rw [hBk]at r1 hz⊢;clear hBk g1;have d1:=r1.cell 1 (by show 1<2;omega);have HR1:=Xh r1;have HJ1:=Xh hJ1;clear r1 hJ1 HJI;go_wp2
   go_loopw [4,14] (fun _ j wr2=> ∃i:Nat,i≤3∧j= .int .i64 i∧J (0+i) wr2∧RowZ wr2 Bk #[.int .u8 1,.int .i64 3]∧lo≤wr2.heap.size) (fun _ j _=>3- (intOf j).toNat)
   case atStart=>exact⟨0,Om,rfl,HJ1.out,HR1.out,hz1⟩
   case round=>
    obtain⟨i,hi,rfl,hJi,hR,hz2⟩:=hrel;clear d1 HR1 HJ1 hz1
    by_cases hlt:i<3
    ·have hlt':(i:Int)<3:=by omega
     have d0:=hR.cell 0 (by show 0<2;omega);have l0:=hR.l
     have HX:=Xh (show Qx[0+i]?=some (1,(i:Int))by
      obtain rfl|rfl|rfl:i=0∨i=1∨i=2:=by omega
      all_goals rfl)
     have HRR:=Xh hR;have hrun:(Instr.yield y #[.agg #[.int .u8 1,.int .i64 (i:Nat)]]).run Tryz.prog wr= .ok (.round y yfn (ytm #[.agg #[.int .u8 1,.int .i64 (i:Nat)]]) yas ybo) wr:=(HY.out (0+i) (1,(i:Int)) wr hJi HX.out).1;have HRD:=Xh (HY.out (0+i) (1,(i:Int)) wr hJi HX.out).2;clear hR hJi;refine(wpIn_wide (n:=n)).1 ?_
     gi_wp2
     refine⟨(fun h=>by cases h),(HRD.out).mono ?_⟩;rintro e w6 ⟨bb,rfl,hP⟩;clear hrun HRD d0 l0;obtain⟨rfl,hJ6,hm6⟩|⟨rfl,hx6⟩:=hP
     ·have hR6:=HRR.out.mv hm6 (HLU.out Bk hz);have hz6:=Xt hz2 hm6.size;clear hm6
      gi_wp2
      go_wp2
      go_roundw
      case rel=>exact⟨i+1,Om,by go_num,hJ6,hR6,hz6⟩
      case measure=>simp [intOf];omega
     ·gi_wp2
      go_wp2;exact bodyPost_ret (results_none rfl _ _ _) rfl ⟨⟨_,rfl⟩,.inr hx6⟩
    ·obtain rfl:i=3:=by omega
     have HJ2:=Xh hJi;clear hJi hR;go_wp2
     go_roundw
     case rel=>exact⟨1,Om,by go_num,HJ2.out,hz2⟩
     case measure=>simp [intOf]
  ·rw [show(((1:Nat)):Int)=1 from rfl]
   go_upto_region 3 with(fail)
   obtain⟨W1,hW1⟩: ∃W1,wr.alloc (.cells #[.int .u8 2,.int .i64 6] 263)=W1:=⟨_,rfl⟩;have g1:Ext wr W1:=by rw [←hW1];exact Ea
   have r1:RowZ W1 wr.heap.size #[.int .u8 2,.int .i64 6]:=by rw [←hW1];exact RowZ.new _ _ _
   rw [hW1];clear hW1;have hJ1:=HJ.out _ _ _ HJI.out (Mv.of_ext g1);have hz1:=Xt hz g1.size;obtain⟨Bk,hBk⟩: ∃B,wr.heap.size=B:=⟨_,rfl⟩;rw [hBk]at r1 hz⊢;clear hBk g1;have d1:=r1.cell 1 (by show 1<2;omega);have HR1:=Xh r1;have HJ1:=Xh hJ1;clear r1 hJ1 HJI;go_wp2
   go_loopw [4,14] (fun _ j wr2=> ∃i:Nat,i≤6∧j= .int .i64 i∧J (3+i) wr2∧RowZ wr2 Bk #[.int .u8 2,.int .i64 6]∧lo≤wr2.heap.size) (fun _ j _=>6- (intOf j).toNat)
   case atStart=>exact⟨0,Om,rfl,HJ1.out,HR1.out,hz1⟩
   case round=>
    obtain⟨i,hi,rfl,hJi,hR,hz2⟩:=hrel;clear d1 HR1 HJ1 hz1
    by_cases hlt:i<6
    ·have hlt':(i:Int)<6:=by omega
     have d0:=hR.cell 0 (by show 0<2;omega);have l0:=hR.l
     have HX:=Xh (show Qx[3+i]?=some (2,(i:Int))by
      obtain rfl|rfl|rfl|rfl|rfl|rfl:i=0∨i=1∨i=2∨i=3∨i=4∨i=5:=by omega
      all_goals rfl)
     have HRR:=Xh hR;have hrun:(Instr.yield y #[.agg #[.int .u8 2,.int .i64 (i:Nat)]]).run Tryz.prog wr= .ok (.round y yfn (ytm #[.agg #[.int .u8 2,.int .i64 (i:Nat)]]) yas ybo) wr:=(HY.out (3+i) (2,(i:Int)) wr hJi HX.out).1;have HRD:=Xh (HY.out (3+i) (2,(i:Int)) wr hJi HX.out).2;clear hR hJi;refine(wpIn_wide (n:=n)).1 ?_
     gi_wp2
     refine⟨(fun h=>by cases h),(HRD.out).mono ?_⟩;rintro e w6 ⟨bb,rfl,hP⟩;clear hrun HRD d0 l0;obtain⟨rfl,hJ6,hm6⟩|⟨rfl,hx6⟩:=hP
     ·have hR6:=HRR.out.mv hm6 (HLU.out Bk hz);have hz6:=Xt hz2 hm6.size;clear hm6
      gi_wp2
      go_wp2
      go_roundw
      case rel=>exact⟨i+1,Om,by go_num,hJ6,hR6,hz6⟩
      case measure=>simp [intOf];omega
     ·gi_wp2
      go_wp2;exact bodyPost_ret (results_none rfl _ _ _) rfl ⟨⟨_,rfl⟩,.inr hx6⟩
    ·obtain rfl:i=6:=by omega
     have HJ2:=Xh hJi;clear hJi hR;go_wp2
     go_roundw
     case rel=>exact⟨2,Om,by go_num,HJ2.out,hz2⟩
     case measure=>simp [intOf]
  ·rw [show(((2:Nat)):Int)=2 from rfl]
   go_upto_region 3 with(fail)
   obtain⟨W1,hW1⟩: ∃W1,wr.alloc (.cells #[.int .u8 3,.int .i64 1] 263)=W1:=⟨_,rfl⟩;have g1:Ext wr W1:=by rw [←hW1];exact Ea
   have r1:RowZ W1 wr.heap.size #[.int .u8 3,.int .i64 1]:=by rw [←hW1];exact RowZ.new _ _ _
   rw [hW1];clear hW1;have hJ1:=HJ.out _ _ _ HJI.out (Mv.of_ext g1);have hz1:=Xt hz g1.size;obtain⟨Bk,hBk⟩: ∃B,wr.heap.size=B:=⟨_,rfl⟩;rw [hBk]at r1 hz⊢;clear hBk g1;have d1:=r1.cell 1 (by show 1<2;omega);have HR1:=Xh r1;have HJ1:=Xh hJ1;clear r1 hJ1 HJI;go_wp2
   go_loopw [4,14] (fun _ j wr2=> ∃i:Nat,i≤1∧j= .int .i64 i∧J (9+i) wr2∧RowZ wr2 Bk #[.int .u8 3,.int .i64 1]∧lo≤wr2.heap.size) (fun _ j _=>1- (intOf j).toNat)
   case atStart=>exact⟨0,Om,rfl,HJ1.out,HR1.out,hz1⟩
   case round=>
    obtain⟨i,hi,rfl,hJi,hR,hz2⟩:=hrel;clear d1 HR1 HJ1 hz1
    by_cases hlt:i<1
    ·have hlt':(i:Int)<1:=by omega
     have d0:=hR.cell 0 (by show 0<2;omega);have l0:=hR.l
     have HX:=Xh (show Qx[9+i]?=some (3,(i:Int))by
      obtain rfl:i=0:=by omega
      all_goals rfl)
     have HRR:=Xh hR;have hrun:(Instr.yield y #[.agg #[.int .u8 3,.int .i64 (i:Nat)]]).run Tryz.prog wr= .ok (.round y yfn (ytm #[.agg #[.int .u8 3,.int .i64 (i:Nat)]]) yas ybo) wr:=(HY.out (9+i) (3,(i:Int)) wr hJi HX.out).1;have HRD:=Xh (HY.out (9+i) (3,(i:Int)) wr hJi HX.out).2;clear hR hJi;refine(wpIn_wide (n:=n)).1 ?_
     gi_wp2
     refine⟨(fun h=>by cases h),(HRD.out).mono ?_⟩;rintro e w6 ⟨bb,rfl,hP⟩;clear hrun HRD d0 l0;obtain⟨rfl,hJ6,hm6⟩|⟨rfl,hx6⟩:=hP
     ·have hR6:=HRR.out.mv hm6 (HLU.out Bk hz);have hz6:=Xt hz2 hm6.size;clear hm6
      gi_wp2
      go_wp2
      go_roundw
      case rel=>exact⟨i+1,Om,by go_num,hJ6,hR6,hz6⟩
      case measure=>simp [intOf];omega
     ·gi_wp2
      go_wp2;exact bodyPost_ret (results_none rfl _ _ _) rfl ⟨⟨_,rfl⟩,.inr hx6⟩
    ·obtain rfl:i=1:=by omega
     have HJ2:=Xh hJi;clear hJi hR;go_wp2
     go_roundw
     case rel=>exact⟨3,Om,by go_num,HJ2.out,hz2⟩
     case measure=>simp [intOf]
  ·go_wp2
   go_end0
   exact⟨⟨_,rfl⟩,.inl ⟨HJI.out,trivial⟩⟩
section
open Ru
def Qfr(x:Value):Prop:= ∃p:Int×Int,x=noV p
theorem Qpr(a c a' c':Int)(w:World):(Op.equal 73 (noV (a,c)) (noV (a',c'))).run Tryz.prog w= .ok (a==a'&&c==c') w:=by
 unfold Op.equal Op.maxDepth noV;go_simp
 by_cases h1:a=a'<;>by_cases h3:c=c'<;>simp [*]
theorem Qd5{p q:Int×Int}(h:noV p=noV q):p=q:=by
 obtain⟨a,c⟩:=p;obtain⟨a',c'⟩:=q;simp [noV]at h;rw [h.1,h.2]
theorem Qps:Qfp Tryz.prog 73 Qfr where
 check:=by
  rintro w em x ⟨⟨a,c⟩,rfl⟩
  cases em<;>kernel_rfl
 find:=by
  rintro w x ⟨⟨a,c⟩,rfl⟩ es hes;have key: ∀(es:List MapEntry) (i:Nat),(∀e∈es,Qfr e.key)→
    ((Instr.findAsking 73 (noV (a,c)) es i).run Tryz.prog w= .ok none w∧ ∀e∈es,e.key≠noV (a,c))∨ ∃j e,(Instr.findAsking 73 (noV (a,c)) es i).run Tryz.prog w= .ok (some (i+j,e.val)) w∧es[j]?=some e∧e.key=noV (a,c):=by
   intro es
   induction es with
   |nil=>intro i _;exact .inl ⟨rfl,by simp⟩
   |cons e es ih=>
    intro i h;obtain⟨⟨a',c'⟩,he⟩:=h e (by simp)
    by_cases hn:a=a'∧c=c'
    ·obtain⟨rfl,rfl⟩:=hn;refine .inr ⟨0,e,?_,rfl,he⟩;simp only [Instr.findAsking,Sem.run_bind,he,Qpr,Result.andThen];simp
    ·have hb:(a==a'&&c==c')=false:=by
      by_cases h1:a=a'<;>by_cases h3:c=c'<;>simp_all
     have hk:e.key≠noV (a,c):=by
      rw [he];intro h;have:=Qd5 h;simp at this;exact hn ⟨this.1.symm,this.2.symm⟩
     rcases ih (i+1) (fun e' h'=>h e' (by simp [h']))with⟨h1,h2⟩|⟨j,e',h1,h2,h3⟩
     ·refine .inl ⟨?_,?_⟩
      ·simp only [Instr.findAsking,Sem.run_bind,he,Qpr,Result.andThen,hb];simpa using h1
      ·intro e' h';rcases List.mem_cons.1 h' with rfl|h'
       ·exact hk
       ·exact h2 e' h'
     ·refine .inr ⟨j+1,e',?_,by simpa using h2,h3⟩;simp only [Instr.findAsking,Sem.run_bind,he,Qpr,Result.andThen,hb];have e1:i+(j+1)=i+1+j:=by omega
      rw [e1];simpa using h1
  have hu:Tryz.prog.underlying 73=some (.struct (Tryz.prog.fieldsOf 73)):=Kr
  cases es with
  |nil=>exact .inl ⟨by simp [Instr.findKey,run_underlying hu,Instr.findNow,Result.andThen],by simp⟩
  |cons e es=>
   have hn:Instr.findNow (.struct (Tryz.prog.fieldsOf 73)) (noV (a,c)) (e::es) 0=none:=by
    obtain⟨⟨a',c'⟩,he⟩:=hes e (by simp);simp [Instr.findNow,Instr.sameNow,noV]
   have hf:(Instr.findKey 73 (noV (a,c)) (e::es)).run Tryz.prog w=(Instr.findAsking 73 (noV (a,c)) (e::es)).run Tryz.prog w:=by
    simp [Instr.findKey,run_underlying hu,hn,Result.andThen]
   rw [hf];rcases key (e::es) 0 hes with h|⟨j,e',h1,h2⟩
   ·exact .inl h
   ·exact .inr ⟨j,e',by simpa using h1,h2⟩
def QbD(K:Value→Prop)(w:World)(B:Nat)(f:Value→Option Value):Prop:=
 ∃(es:Array MapEntry) (clk:Nat),w.heap[B]?=some (.map es clk)∧(∀e∈es.toList,K e.key∧f e.key=some e.val)∧(∀x v,f x=some v→ ∃e∈es.toList,e.key=x)∧es.toList.map (·.born)=List.range clk
theorem QbD.is{K:Value→Prop}{f:Value→Option Value}(h:QbD K w B f):ZE K w B f:=by
 obtain⟨es,clk,h1,h2,h3,-⟩:=h;exact⟨es,clk,h1,h2,h3⟩
theorem QbD.new{K:Value→Prop}(w:World):QbD K (w.alloc (.map #[] 0)) w.heap.size (fun _=>none):=
 ⟨#[],0,by show(w.heap.push _)[w.heap.size]?=_;simp,by simp,by simp,by simp⟩
theorem QbD.keep{K:Value→Prop}{w':World}{f:Value→Option Value}(h:QbD K w B f)(hb:w'.heap[B]?=w.heap[B]?):QbD K w' B f:=by
 obtain⟨es,clk,h1,h2,h3,h4⟩:=h;exact⟨es,clk,hb.trans h1,h2,h3,h4⟩
theorem QbD.store{P:Program}{t kt et:TypeId}{K:Value→Prop}(L:Qfp P kt K)(ht:P.underlying t=some (.map kt et)){f:Value→Option Value}(h:QbD K w B f){x:Value}(hx:K x)(hn:f x=none)(v:Value):
  ∃w':World,(Instr.mapUpdate t (.map (some B)) x v).run P w= .ok () w'∧QbD K w' B (fun y=>open Classical in if y=x then some v else f y)∧
   w'.os=w.os∧w'.tape=w.tape∧w'.output=w.output∧w'.heap.size=w.heap.size∧ ∀k,k≠B→w'.heap[k]?=w.heap[k]?:=by
 obtain⟨es,clk,h1,h2,h3,h5⟩:=h;have hlt:B<w.heap.size:=by
  rcases Nat.lt_or_ge B w.heap.size with h|h
  ·exact h
  ·rw [Array.getElem?_eq_none h]at h1;cases h1
 rcases L.find w hx es.toList (fun e he=>(h2 e he).1)with⟨g1,g2⟩|⟨j,e,g1,g2,g3⟩
 ·refine⟨{w with heap:=w.heap.setIfInBounds B (.map (es.push {key:=x,val:=v,born:=clk}) (clk+1))},?_,⟨es.push {key:=x,val:=v,born:=clk},clk+1,?_,?_,?_,by simp [h5,List.range_succ]⟩,rfl,rfl,rfl,?_,?_⟩
  ·simp [Instr.mapUpdate,run_underlying ht,MapKept.run_getObj_map h1,L.check w _ hx,g1,MapKept.run_setObj_map _ h1,Result.andThen]
  ·simp [hlt]
  ·intro e he;simp only [Array.toList_push,List.mem_append,List.mem_singleton]at he;rcases he with he|rfl
   ·refine⟨(h2 e he).1,?_⟩;simp only [if_neg (g2 e he)];exact(h2 e he).2
   ·exact⟨hx,by simp⟩
  ·intro y u hy
   by_cases hyx:y=x
   ·exact⟨{key:=x,val:=v,born:=clk},by simp,hyx.symm⟩
   ·simp only [if_neg hyx]at hy;obtain⟨e,he,hk⟩:=h3 y u hy;exact⟨e,by simp [he],hk⟩
  ·simp
  ·intro k hk;simp [Ne.symm hk]
 ·have he:e∈es.toList:=List.mem_of_getElem? g2;have:=(h2 e he).2;rw [g3,hn]at this
  cases this
def QD(p:Int×Int):Int:=167772160+p.1*256+p.2
open Classical in
noncomputable def YG(i:Nat)(x:Value):Option Value:=if h: ∃p∈Qx.take i,x=noV p then some (.int .u32 (QD h.choose))else none
theorem Qaa{p:Int×Int}(h:p∈Qx.take i):YG i (noV p)=some (.int .u32 (QD p)):=by
 have hx: ∃q∈Qx.take i,noV p=noV q:=⟨p,h,rfl⟩;unfold YG;rw [dif_pos hx,←Qd5 hx.choose_spec.2]
theorem JD{x:Value}(h: ∀p∈Qx.take i,x≠noV p):YG i x=none:=by
 unfold YG;rw [dif_neg (fun e=>by obtain⟨p,hp,e⟩:=e;exact h p hp e)]
theorem QjV{x v:Value}(h:YG i x=some v): ∃p∈Qx.take i,x=noV p∧v= .int .u32 (QD p):=by
 unfold YG at h
 split at h
 ·rename_i hx
  exact⟨hx.choose,hx.choose_spec.1,hx.choose_spec.2,(Option.some.inj h).symm⟩
 ·cases h
open Classical in
theorem QjW{p:Int×Int}(h:Qx[i]?=some p):(fun y=>if y=noV p then some (Value.int .u32 (QD p))else YG i y)=YG (i+1):=by
 have ht:Qx.take (i+1)=Qx.take i++ [p]:=by rw [List.take_add_one,h];rfl
 funext y
 by_cases hy:y=noV p
 ·subst hy;rw [if_pos rfl,Qaa (by rw [ht];simp)]
 ·rw [if_neg hy]
  by_cases hx: ∃q∈Qx.take i,y=noV q
  ·obtain⟨q,hq,rfl⟩:=hx;rw [Qaa hq,Qaa (by rw [ht];simp [hq])]
  ·rw [JD (fun q hq e=>hx ⟨q,hq,e⟩),JD (fun q hq e=>by
    rw [ht]at hq;rcases List.mem_append.1 hq with hq|hq
    ·exact hx ⟨q,hq,e⟩
    ·rw [List.mem_singleton.1 hq]at e;exact hy e)]
theorem Qg4:Qx.Nodup:=by decide
theorem Qm3{p:Int×Int}(h:Qx[i]?=some p):YG i (noV p)=none:=by
 refine JD fun q hq e=> ?_;obtain rfl:=Qd5 e;obtain⟨hi,hp⟩:=List.getElem?_eq_some_iff.1 h;obtain⟨j,hj,hq⟩:=List.mem_iff_getElem.1 hq;rw [List.getElem_take]at hq;rw [List.length_take]at hj;exact List.pairwise_iff_getElem.1 Qg4 j i Om hi Om (hq.trans hp.symm)
@[go_sem] theorem Qw9(w:World):(Instr.makeMap 211 none).run Tryz.prog w= .ok (.map (some w.heap.size)) (w.alloc (.map #[] 0)):=by
 have hu:Tryz.prog.underlying 211=some (.map 73 61):=Kr
 simp [Instr.makeMap,run_underlying hu,Result.andThen]
theorem Qpt{x:Int×Int}(h:Qx[i]?=some x):bits BinOp.or IntKind.u32 (bits BinOp.or IntKind.u32 167772160 (x.1 % 4294967296*256 % 4294967296)) (x.2 % 4294967296)=QD x:=by
 have hi:i<10:=(List.getElem?_eq_some_iff.1 h).1;obtain rfl|rfl|rfl|rfl|rfl|rfl|rfl|rfl|rfl|rfl:i=0∨i=1∨i=2∨i=3∨i=4∨i=5∨i=6∨i=7∨i=8∨i=9:=by omega
 all_goals(obtain rfl:=Option.some.inj h;decide)
@[go_sem ↓ high] theorem Qof{t:TypeId}{m k v:Operand}{tq:TypeId}:Oper.semAt l ρ ⟨dst,.mapUpdate t m k v,tq,pos,after,g⟩=execOp ρ ⟨dst,.mapUpdate t m k v,tq,pos,after,g⟩:=Oper.semAt_eq _ _ _ (fun c h=>by cases h)
theorem QeN:Tryz.prog.underlying 211=some (.map 73 61):=Kr
structure Qpu(B1 Bm i:Nat)(W:World):Prop where
 b:Boxed W B1 211 (.map (some Bm))
 m:QbD Qfr W Bm (YG i)
theorem ZE.lt{K:Value→Prop}{f:Value→Option Value}(h:ZE K w B f):Lt B w:=by
 obtain⟨es,clk,h1,-⟩:=h;exact(Array.getElem?_eq_some_iff.1 h1).1
theorem Qpu.mv{B1 Bm:Nat}{A':World}{C:Nat→Prop}(h:Qpu B1 Bm i A)(hm:Mv C A A')(hb: ¬C B1)(hc: ¬C Bm):Qpu B1 Bm i A':=
 ⟨Qj h.b hm hb,h.m.keep (hm.same Bm (ZE.lt h.m.is) hc)⟩
theorem QfZ(w:World):Calls Tryz.prog 170 #[] w fun e w'=> ∃B,e= .returned (.map (some B))∧Ext w w'∧w.heap.size≤B∧QbD Qfr w' B (YG 10):=by
 refine(callsIn_wide (n:=5)).1 ?_;refine callsIn_of_wp_marks Tryz.func170 rfl trivial ?_ rfl;simp only [Tryz.ntmps170,List.size_toArray,List.length_cons,List.length_nil,Nat.reduceAdd,Nat.reduceSub,Array.replicate_succ,Array.replicate_zero,List.push_toArray,List.append_toArray,List.nil_append,List.cons_append];refine wpIn_wide.2 ?_
 go_upto_region 2 with(fail)
 obtain⟨W0,hW⟩: ∃W0,(w.alloc (.map #[] 0)).alloc (.cells #[.map (some w.heap.size)] 211)=W0:=⟨_,rfl⟩;have g0:Ext w W0:=by rw [←hW];exact Ext.al Ea _
 have bx:Boxed W0 (w.heap.size+1) 211 (.map (some w.heap.size)):=by
  rw [←hW];have:=Boxed.new (w.alloc (.map #[] 0)) 211 (.map (some w.heap.size));simpa using this
 have mx:QbD Qfr W0 w.heap.size (YG 0):=by
  rw [←hW];have h0:YG 0=fun _=>none:=by funext x;exact JD (fun p hp=>by simp at hp)
  rw [h0];exact(QbD.new (K:=Qfr) w).keep (Below.heap_alloc _ _ _ (by simp))
 have hsz:W0.heap.size=w.heap.size+2:=by rw [←hW];simp
 rw [hW];clear hW
 go_wp2_with (go_at_call 213;(refine(QmZ _).mono ?_);rintro e w1 ⟨rfl,rfl⟩)
 refine(wpIn_wide (n:=5)).1 ?_;refine QaZ rfl Om (gf:=234) (lb:=#[]) rfl trivial Qg1 (QjP _ W0 (fun k=>k=w.heap.size) (fun k e=>by omega))
  (fun A B hS hm=>trivial)
  (fun k e=>e.elim) (fun k e=>by omega) (fun _=>rfl)
  (fun i W=>Qpu (w.heap.size+1) w.heap.size i W) (fun _ _=>False)
  (fun i A B h hm=>h.mv hm (by rintro(h|h|h);exact h.elim;omega;omega) (by rintro(h|h|h);exact h.elim;omega;omega))
  (fun cc A B h hm=>h) ⟨bx,mx⟩
  (fun x a' W=> ∃Bx,W0.heap.size+2≤Bx∧RowZ W Bx #[.int .u8 x.1,.int .i64 x.2]∧a'={tmps:=#[.map none,.pointer (some ⟨w.heap.size+1,0,none⟩),.pointer (some ⟨Bx,0,none⟩),.map (some w.heap.size),.func (.func 234) #[] #[],.agg #[.int .u8 x.1,.int .i64 x.2],undef,undef,undef,undef,undef,undef,undef,undef,undef,undef,undef,undef],defers:= []})
  (fun x a' A B h hm=>by
   obtain⟨Bx,q0,q1,q2⟩:=h
   exact⟨Bx,q0,q1.mv hm Om,q2⟩) ?assign ?body ?done ?stop
 case assign=>
  rintro y i x W K hsz' hv hI hx hK;unfold noV
  gi_wp2
  exact hK _ _ (Mv.al _ (Mv.refl _ _)) (hI.mv (C:=fun _=>False) (Mv.al _ (Mv.refl _ _)) (fun h=>h) (fun h=>h)) ⟨W.heap.size,Om,RowZ.new _ _ _,rfl⟩
 case body=>
  rintro y i x a' W hyl ⟨rr,hr⟩ hsz' hv hI hx ⟨Bx,q0,q1,rfl⟩;have cb:=hI.b.cell;have d0:=q1.cell 0 (by show 0<2;omega);have d1:=q1.cell 1 (by show 1<2;omega);have hlm:Lt w.heap.size W:=ZE.lt hI.m.is;obtain⟨w2,hrun,hm2,ho1,ho2,ho3,ho4,ho5⟩:=QbD.store Qps QeN hI.m ⟨x,rfl⟩ (Qm3 hx) (.int .u32 (QD x));rw [QjW hx]at hm2;rw [←Qpt hx]at hrun;have mU:Mv (fun k=>k=w.heap.size) W w2:=⟨ho1,ho2,ho3,Om,fun k _ hk=>ho5 k hk⟩;have HF:=Xh (show Qpu (w.heap.size+1) w.heap.size (i+1) w2 from⟨Qj hI.b mU Om,hm2⟩);have HU:=Xh mU;unfold noV at hrun;clear hI hx hv ho1 ho2 ho3 ho4 ho5 hm2 mU hr hlm
  gi_wp2
  exact⟨HU.out,HF.out⟩
 case done=>
  rintro W- hI hv hK;have cb:=hI.b.cell;have HI:=Xh hI.m;have HE:=Xh (Mv.ext_of g0 hv (fun k h=>by rcases h with h|h;exact h.elim;omega));have HK:=Xh hK;clear hI hv hK bx mx g0;go_wp2;refine⟨by simp,.inl ⟨_,_,rfl,run_takeDeferred HK.out,?_⟩⟩;have m3:Mv (fun k=>k=W0.heap.size) W (W.putObj W0.heap.size (.deferred none)):=Mv.put _ _ _ rfl;exact⟨_,results_tmp rfl _ _ _,w.heap.size,rfl,Mv.ext_of HE.out m3 (fun k e=>by omega),Nat.le_refl _,HI.out.keep (m3.same _ (ZE.lt HI.out.is) Om)⟩
 case stop=>intro _ _ h;exact h.elim
end
section
open Ru
@[go_sem] theorem Qyl{m:Nat}:Fits o m #[a0,a1]=(o+m≤2):=by unfold Fits;rfl
@[go_sem] theorem Qvy:Qn #[a0,a1] 2=True:=by unfold Qn;exact eq_true rfl
@[go_sem] theorem Qym:QK #[a0,a1]=(a0.oneCell'=true∧a1.oneCell'=true):=by
 unfold QK;simp [and_assoc]
@[go_sem ↓ high] theorem Qxa:(Value.agg #[a0,a1]).cells=#[a0,a1]:=QF _
@[go_sem] theorem Qyn:QB #[a0,a1] 0 2=#[a0,a1]:=rfl
theorem Qg5:(Tryz.prog.info? 73).map (·.size)=some 2:=Kr
theorem Qm4{b:Nat}(h:o+2≤(Qc w b).size):(Instr.loadAt 73 (.pointer (some ⟨b,o,none⟩))).run Tryz.prog w= .ok (.agg ((Qc w b).extract o (o+2))) w:=by
 have:=run_loadAt_mid w b o 73 ((Qc w b).extract o (o+2)).toList _ (QC w b o (o+2)) Tryz.underlying73 rfl (by rw [Qg5];simp;omega)
 rwa [Array.toArray_toList]at this
theorem QeO{b:Nat}(h:o+2≤(Qc w b).size):(loadVar 73 ⟨b,o,none⟩).run Tryz.prog w= .ok (.agg ((Qc w b).extract o (o+2))) w:=by
 have:=run_loadVar_mid w b o 73 ((Qc w b).extract o (o+2)).toList _ (QC w b o (o+2)) Tryz.underlying73 rfl (by rw [Qg5];simp;omega)
 rwa [Array.toArray_toList]at this
@[go_sem ↓ high] theorem Qcx(ρ:Operand→Value)(dst:Option Tmp)(x:Operand)(ty:TypeId)(pos:String)(after:Array Edge)(g:Option (Nat×Bool))(w:World)
  (hx:ρ x= .pointer (some ⟨Qb (ρ x),Qd (ρ x),none⟩))(h:Fits (Qd (ρ x)) 2 (Qc w (Qb (ρ x)))):
  (execOp ρ ⟨dst,.load 73 x,ty,pos,after,g⟩).run Tryz.prog w= .ok (.value (.agg (QB (Qc w (Qb (ρ x))) (Qd (ρ x)) 2))) w:=by
 unfold Fits at h;generalize hB:Qb (ρ x)=B at*;generalize hO:Qd (ρ x)=O at*;simp only [execOp,hx,Sem.run_bind,Qm4 h,Result.andThen_ok,Sem.run_pure,QB]
@[go_sem ↓ high] theorem Quj{ty:TypeId}(w:World)
  (hx:ρ x= .pointer (some ⟨Qb (ρ x),Qd (ρ x),none⟩))(h:Fits (Qd (ρ x)) 2 (Qc w (Qb (ρ x)))):
  (Oper.semAt l ρ ⟨dst,.load 73 x,ty,pos,after,g⟩).run Tryz.prog w= .ok (.value (.agg (QB (Qc w (Qb (ρ x))) (Qd (ρ x)) 2))) w:=by rw [Oper.semAt_eq _ _ _ (fun c h=>by cases h)];exact Qcx ρ dst x ty pos after g w hx h
@[go_sem ↓ high] theorem Qfs(ρ:Operand→Value)(dst:Option Tmp)(x y:Operand)(ty:TypeId)(pos:String)(after:Array Edge)(g:Option (Nat×Bool))(w:World)
  (hx:ρ x= .pointer (some ⟨Qb (ρ x),Qd (ρ x),none⟩))(hy:ρ y= .agg (ρ y).cells)(hs:Qn (ρ y).cells 2)(h:Fits (Qd (ρ x)) 2 (Qc w (Qb (ρ x))))(hz:Qs w (Qb (ρ x))=(0,0))(h1:QK (ρ y).cells):
  (execOp ρ ⟨dst,.store 73 x y,ty,pos,after,g⟩).run Tryz.prog w= .ok .skip (Qe w (Qb (ρ x)) (Qd (ρ x)) (ρ y).cells):=by
 unfold Fits at h;unfold Qn at hs;generalize hB:Qb (ρ x)=B at*;generalize hO:Qd (ρ x)=O at*;generalize hC:(ρ y).cells=C at*;have hst:(Instr.storeAt 73 (.pointer (some ⟨B,O,none⟩)) (.agg C)).run Tryz.prog w= .ok () (Qe w B O C):=
  run_storeAt_mid w B O 73 C (fun j hj=>⟨by rw [Qa,Array.getElem?_eq_getElem Om];rfl,Ql hz _⟩) (by rw [Qg5,hs]) h1
 simp only [execOp,hx,hy,Sem.run_bind,hst,Result.andThen_ok,Sem.run_pure]
@[go_sem ↓ high] theorem Qsw{ty:TypeId}(w:World)
  (hx:ρ x= .pointer (some ⟨Qb (ρ x),Qd (ρ x),none⟩))(hy:ρ y= .agg (ρ y).cells)(hs:Qn (ρ y).cells 2)(h:Fits (Qd (ρ x)) 2 (Qc w (Qb (ρ x))))(hz:Qs w (Qb (ρ x))=(0,0))(h1:QK (ρ y).cells):
  (Oper.semAt l ρ ⟨dst,.store 73 x y,ty,pos,after,g⟩).run Tryz.prog w= .ok .skip (Qe w (Qb (ρ x)) (Qd (ρ x)) (ρ y).cells):=by rw [Oper.semAt_eq _ _ _ (fun c h=>by cases h)];exact Qfs ρ dst x y ty pos after g w hx hy hs h hz h1
def isN(p:Int×Int):Bool:=decide (p∈Qx)
def adO(p:Int×Int):Int:=if p∈Qx then QD p else 0
theorem Qpv{C:Nat→Prop}{cs:Array Value}(h0:RowZ w B cs)(h6:cs.size=2)(hC: ¬C B){q:Operand}{ty:TypeId}
  (hx:ρ q= .pointer (some ⟨B,0,none⟩)): ∀w',Mv C w w'→(execOp ρ ⟨dst,.load 73 q,ty,pos,after,g⟩).run Tryz.prog w'= .ok (.value (.agg cs)) w':=by
 intro w' hE;have h1:=h0.mv hE hC;have e:=Qcx ρ dst q ty pos after g w' (by rw [hx];rfl) (by rw [hx];show Fits 0 2 (Qc w' B);rw [h1.r];unfold Fits;omega);rw [e,hx];show Result.ok (Next.value (Value.agg (QB (Qc w' B) 0 2))) w'=_;rw [h1.r,Q9 cs 2 h6]
theorem Qm5(w:World):Calls Tryz.prog 170 #[] w fun e w'=> ∃v,e= .returned v∧(∃B,v= .map (some B)∧ZE Qfr w' B (YG 10))∧Ext w w':=
 (QfZ w).mono fun e w' ⟨B,h1,h2,_,h4⟩=>⟨_,h1,⟨B,rfl,h4.is⟩,h2⟩
theorem ZE.look2{P:Program}{t kt et:TypeId}{K:Value→Prop}(L:Qfp P kt K)(ht:P.underlying t=some (.map kt et)){f:Value→Option Value}(h:ZE K w B f){x:Value}(hx:K x)(z:Value)(hz:(zeroValue et).run P w= .ok z w):
  (Instr.lookup t (.map (some B)) x true).run P w= .ok (.tuple #[(f x).getD z,.bool (f x).isSome]) w:=by
 obtain⟨es,clk,h1,h2,h3⟩:=h;rcases L.find w hx es.toList (fun e he=>(h2 e he).1)with⟨g1,g2⟩|⟨j,e,g1,g2,g3⟩
 ·have hn:f x=none:=by
   cases hf:f x with
   |none=>rfl
   |some v=>obtain⟨e,he,hk⟩:=h3 x v hf;exact absurd hk (g2 e he)
  simp [Instr.lookup,run_underlying ht,MapKept.run_getObj_map h1,L.check w _ hx,g1,hz,hn,Result.andThen]
 ·have he:e∈es.toList:=List.mem_of_getElem? g2;have hv:f x=some e.val:=by rw [←g3];exact(h2 e he).2
  simp [Instr.lookup,run_underlying ht,MapKept.run_getObj_map h1,L.check w _ hx,g1,hv,Result.andThen]
theorem QeP(p:Int×Int):(YG 10 (noV p)).getD (.int .u32 0)= .int .u32 (adO p)∧(YG 10 (noV p)).isSome=isN p:=by
 unfold adO isN
 by_cases h:p∈Qx
 ·rw [Qaa (i:=10) (show p∈Qx.take 10 from h),if_pos h];simp [h]
 ·rw [JD (i:=10) (fun q hq e=>h (by rw [Qd5 e];exact hq)),if_neg h];simp [h]
theorem Qvz{C:Nat→Prop}{a c:Int}(h:ZE Qfr w B (YG 10))(hC: ¬C B){m q:Operand}{ty:TypeId}
  (hm:ρ m= .map (some B))(hq:ρ q= .agg #[.int .u8 a,.int .i64 c]): ∀w',Mv C w w'→(execOp ρ ⟨dst,.lookup 211 m q true,ty,pos,after,g⟩).run Tryz.prog w'= .ok (.value (.tuple #[.int .u32 (adO (a,c)),.bool (isN (a,c))])) w':=by
 intro w' hE;have h1:=h.keep (hE.same B (ZE.lt h) hC);have e:=ZE.look2 Qps QeN h1 (x:=noV (a,c)) ⟨_,rfl⟩ (.int .u32 0) Kr;rw [(QeP _).1,(QeP _).2]at e;simp only [execOp,hm,hq];show(Sem.run Tryz.prog _ _)=_;have e':(Instr.lookup 211 (.map (some B)) (.agg #[.int .u8 a,.int .i64 c]) true).run Tryz.prog w'= .ok (.tuple #[.int .u32 (adO (a,c)),.bool (isN (a,c))]) w':=e;simp only [Sem.run_bind,e',Result.andThen_ok,Sem.run_pure]
def Qpw(ops:Array Oper):Prop:=Region.noSelect ops=true∧Qv ops 8 [1] 0=true∧Rd ops 8 2 [0]∧Qv ops 8 [2,3,4,5,6,7] 3=true∧Rd ops 8 255 []
theorem QjX:Qpw ((Tryz.f172.body.bind (Qh 1)).getD #[]):=⟨Kr,Kr,Rk,Kr,Rk⟩
theorem Qis(p:Int×Int)(w:World):Cr 172 #[noV p] w (.tuple #[.int .u32 (adO p),.bool (isN p)]):=by
 obtain⟨a,c⟩:=p;unfold noV;dsimp only
 go_enter Tryz.func172,Tryz.ntmps172
 go_upto_region 1 with(fail)
 obtain⟨W0,hW⟩: ∃W0,w.alloc (.cells #[.int .u8 a,.int .i64 c] 73)=W0:=⟨_,rfl⟩;have E:Ext w W0:=by rw [←hW];exact Ea
 have rz:RowZ W0 w.heap.size #[.int .u8 a,.int .i64 c]:=by rw [←hW];exact RowZ.new _ _ _
 rw [hW];clear hW;refine QO (fun _=>False) Kr ?_;obtain⟨WA,hW⟩: ∃Wdr,World.drew W0=Wdr:=⟨_,rfl⟩;have gD:Ext W0 WA:=by rw [←hW];exact Ext.dr (Ext.rf _)
 rw [hW];clear hW;have E:=E.tr gD;have rz:=rz.ext gD;refine QaH (N:=8) (R:=Qpw) (E:=((Tryz.f172.body.bind (Qh 1)).getD #[])) Kr QjX Kr fun hS=> ?_;have hT:=hS.2.1;refine tM 2 (.agg #[.int .u8 a,.int .i64 c]) hS.1 hT rfl (Qpv rz rfl (fun h=>h) Kr) fun hT=> ?_;refine sM 3 (fun v w'=> ∃B,v= .map (some B)∧ZE Qfr w' B (YG 10)) hS.2.2.1 rfl (Qm5 WA) ?_;rintro vm WB1 gWB1 ⟨Bm,rfl,hm⟩;have E:=E.tr gWB1;have rz:=rz.ext gWB1;have hT:=hS.2.2.2.1;refine tM 7 (.tuple #[.int .u32 (adO (a,c)),.bool (isN (a,c))]) hS.1 hT rfl (Qvz hm (fun h=>h) Kr Kr) fun hT=>tMk 15 (.tuple #[.int .u32 (adO (a,c)),.bool (isN (a,c))]) hS.1 hT rfl fun hT=>tMk 31 (.int .u32 (adO (a,c))) hS.1 hT rfl fun hT=>tMk 63 (.bool (isN (a,c))) hS.1 hT rfl fun hT=>tMk 127 (.int .u32 (adO (a,c))) hS.1 hT rfl fun hT=>tMk 255 (.bool (isN (a,c))) hS.1 hT rfl fun hT=> ?_;refine doneK hS.2.2.2.2 ?_;clear hS hT;go_simp;go_wp2;exact bodyPost_ret (results_tmp2 rfl _ _ _) rfl ⟨rfl,E⟩
end
section
open Ru
theorem QlR{tmps:Array Value}{g:Nat}{cs:Array Value}(hp:tmps.getD 2 undef= .pointer (some ⟨g,0,none⟩))(hr:Qc w g=cs)(hc:cs.size=2):
  (results Tryz.f95 tmps).run Tryz.prog w= .ok (.tuple #[.agg cs,tmps.getD 3 undef]) w:=
 QL rfl tmps w g hp (by
  rw [QeO (by rw [hr,hc];omega),hr]
  rw [show cs.extract 0 (0+2)=cs by rw [Nat.zero_add,←hc];simp])
def Yi(x:Int):Option (Int×Int):=Qx.find? (fun p=>QD p==x)
def noC(p:Int×Int):Array Value:=#[.int .u8 p.1,.int .i64 p.2]
theorem Qpx: ∀p∈Qx,∀q∈Qx,QD p=QD q→p=q:=by decide
theorem Qb7{x:Int}{p:Int×Int}(hp:p∈Qx)(h:QD p=x):Yi x=some p:=by
 unfold Yi
 cases hf:Qx.find? (fun p=>QD p==x)with
 |none=>have:=List.find?_eq_none.1 hf p hp;simp [h]at this
 |some q=>
  have h1:=List.find?_some hf;have h2:=List.mem_of_find?_eq_some hf;rw [Qpx q h2 p hp (by rw [h];simpa using h1)]
theorem QjY{x:Int}(h: ∀p∈Qx,QD p≠x):Yi x=none:=by
 unfold Yi;rw [List.find?_eq_none];intro p hp;simp [h p hp]
structure Qyo(es:Array MapEntry)(clk Bm r B2:Nat)(x:Int)(W:World)(seen:Array Nat):Prop where
 it: ∃c0,W.heap[r]?=some (.mapIter (some Bm) clk seen c0)∧clk≤c0
 m:W.heap[Bm]?=some (.map es clk)
 rz:RowZ W B2 #[.int .u8 0,.int .i64 0]
 no: ∀e∈es.toList,seen.contains e.born=true→e.val≠ .int .u32 x
theorem QjZ(h:QbD Qfr w B (YG 10)): ∃(es:Array MapEntry) (clk:Nat),w.heap[B]?=some (.map es clk)∧(∀e∈es.toList,∃p∈Qx,e.key=noV p∧e.val= .int .u32 (QD p))∧(∀p∈Qx,∃e∈es.toList,e.val= .int .u32 (QD p))∧(∀e∈es.toList,e.born<clk)∧(es.toList.map (·.born)).Nodup:=by
 obtain⟨es,clk,h1,h2,h3,h4⟩:=h;refine⟨es,clk,h1,fun e he=> ?_,fun p hp=> ?_,fun e he=> ?_,by rw [h4];exact List.nodup_range⟩
 ·obtain⟨p,hp,e1,e2⟩:=QjV (h2 e he).2;exact⟨p,hp,e1,e2⟩
 ·obtain⟨e,he,hk⟩:=h3 (noV p) _ (Qaa (i:=10) (show p∈Qx.take 10 from hp));refine⟨e,he,?_⟩;have:=(h2 e he).2;rw [hk,Qaa (i:=10) (show p∈Qx.take 10 from hp)]at this;exact(Option.some.inj this).symm
 ·have:e.born∈es.toList.map (·.born):=List.mem_map.2 ⟨e,he,rfl⟩;rw [h4]at this;exact List.mem_range.1 this
theorem J6(x:Int)(w:World):Cr 95 #[.int .u32 x] w (.tuple #[.agg (noC ((Yi x).getD (0,0))),.bool (Yi x).isSome]):=by
 go_enter Tryz.func95,Tryz.ntmps95
 go_upto_region 1 with(fail)
 obtain⟨W0,hW⟩: ∃W0,w.alloc (.cells #[.int .u8 0,.int .i64 0] 73)=W0:=⟨_,rfl⟩;have E:Ext w W0:=by rw [←hW];exact Ea
 have rz:RowZ W0 w.heap.size #[.int .u8 0,.int .i64 0]:=by rw [←hW];exact RowZ.new _ _ _
 rw [hW];clear hW
 go_wp2_with (go_at_call 170;(refine(QfZ _).mono ?_);rintro e w1 ⟨Bm,rfl,g1,lo1,hm⟩;obtain⟨es,clk,hb,hk,hall,hold,hnd⟩:=QjZ hm;have hrg:=run_range_map (P:=Tryz.prog) w1 211 73 61 Bm es clk QeN hb;have HB:=Xh hb;have HKK:=Xh hk;have HALL:=Xh hall;have HOLD:=Xh hold;have HND:=Xh hnd;clear hb hk hall hold hnd)
 have hbl:=(Array.getElem?_eq_some_iff.1 HB.out).1;have hsz1:=g1.size;have rz1:=rz.ext g1;have hl0:=rz1.l;unfold Lt at hl0;obtain⟨r,hr⟩: ∃r,w1.heap.size=r:=⟨_,rfl⟩;obtain⟨W1,hW⟩: ∃W1,w1.alloc (.mapIter (some Bm) clk #[] clk)=W1:=⟨_,rfl⟩;have e1:W1.heap[r]?=some (.mapIter (some Bm) clk #[] clk):=by rw [←hW,←hr];exact World.alloc_heap_new _ _
 have gE:Ext w1 W1:=by rw [←hW];exact Ea
 have hit:Qyo es clk Bm r w.heap.size x W1 #[]:=⟨⟨clk,e1,Nat.le_refl _⟩,(gE.block _ hbl).trans HB.out,rz1.ext gE,fun e he h=>by simp at h⟩;have hE1:=(E.tr g1).tr gE;have hwr:w.heap.size<r:=by omega
 have hmr:Bm<r:=by omega
 rw [hr,hW];have HIT:=Xh hit;have HE1:=Xh hE1;clear hW hr hrg hit hE1 e1 gE rz1 rz E g1 hm lo1 hbl hl0 hsz1;go_wp2
 go_loopw [4,5] (fun _ _ wr=> ∃seen,Qyo es clk Bm r w.heap.size x wr seen∧Ext w wr) (fun _ _ wr=>(leftOf es (wr.iterSeen r)).size)
 case atStart=>exact⟨_,HIT.out,HE1.out⟩
 case round=>
  obtain⟨seen,⟨⟨c0,i1,i2⟩,im,irz,ino⟩,hE⟩:=hrel;have HE:=Xh hE;have HI1:=Xh i1;have HRZ:=Xh irz;have HNO:=Xh ino;rcases run_next_at (P:=Tryz.prog) wr 0 r Bm clk c0 seen es clk i1 im HOLD.out i2 with⟨h0,hrun⟩|⟨e,he,wd,hwd,hrun⟩
  ·have hn:Yi x=none:=by
    refine QjY fun p hp hpx=> ?_;obtain⟨e,he,hv⟩:=HALL.out p hp;refine HNO.out e he ?_ (by rw [hv,hpx])
    cases hs:seen.contains e.born with
    |true=>rfl
    |false=>
     have hin:e∈leftOf es seen:=by unfold leftOf;exact Array.mem_filter.2 ⟨by simpa using he,by rw [hs];rfl⟩
     obtain⟨i,hi,-⟩:=Array.mem_iff_getElem.1 hin;omega
   have HN:=Xh hn;have hR:=irz.r;have hZ:=irz.z;clear h0 hE i1 irz ino im hn i2;go_wp2;exact bodyPost_ret (QlR rfl ((HRZ.out.all #[.int .u8 0,.int .i64 0] rfl).r) rfl) rfl ⟨by rw [HN.out];rfl,Mv.ext_of HE.out (Mv.sa (C:=fun k=>k=w.heap.size) _ rfl (Mv.refl _ _)) (fun k e=>by omega)⟩
  ·obtain⟨he1,he2⟩:=mem_left he;have hsh:=left_shrinks es seen e he;obtain⟨⟨pa,pc⟩,hp,ek,ev⟩:=HKK.out e he1;obtain⟨W2,hW⟩: ∃W2,ChangeMaps.setBlock wd r (.mapIter (some Bm) clk (seen.push e.born) clk)=W2:=⟨_,rfl⟩;have gd:Ext wr wd:=by rcases hwd with rfl|rfl;exact Ext.rf _;exact Ext.dr (Ext.rf _)
   have hrl:r<wd.heap.size:=Xl (Array.getElem?_eq_some_iff.1 i1).1 gd.size;have mv:Mv (fun k=>k=r) wr W2:=by
    refine(Mv.of_ext gd).trans ?_;rw [←hW];exact⟨rfl,rfl,rfl,by simp [ChangeMaps.setBlock],fun k _ hk=>by simp [ChangeMaps.setBlock,Array.getElem?_setIfInBounds,Ne.symm hk]⟩
   have n1:W2.heap[r]?=some (.mapIter (some Bm) clk (seen.push e.born) clk):=by rw [←hW];simp [ChangeMaps.setBlock,hrl]
   have nm:W2.heap[Bm]?=some (.map es clk):=(mv.same Bm (Array.getElem?_eq_some_iff.1 im).1 Om).trans im;have nz:=irz.mv mv Om;have hen:=run_entry_at (P:=Tryz.prog) W2 r Bm clk seen es clk e n1 nm he1 HND.out;rw [ek,ev]at hen hrun;unfold noV at hen hrun;rw [hW]at hrun;have HS:=Xh (show(leftOf es (seen.push e.born)).size<(leftOf es (wr.iterSeen r)).size by rw [show wr.iterSeen r=seen from by unfold World.iterSeen;rw [HI1.out]];exact hsh);have HZ:=Xh nz;have HF:=Xh (And.intro n1 (And.intro nm (And.intro hp (And.intro he1 ev))));have HM:=Xh (Mv.ext_of hE mv (fun k e=>by omega));have hR:=nz.r;have hZ:=nz.z;have hL:=nz.l;clear i1 i2 im irz ino hE he hsh hW gd hrl mv n1 nm nz hp ek ev he1 hwd
   cases hq:(QD (pa,pc)==x)
   ·go_wp2;obtain⟨n1,nm,hp,he1,ev⟩:=HF.out
    go_roundw
    case rel=>
     have gA:Ext W2 (Qe (W2.alloc (.cells #[.int .u8 0,.int .i64 0] 73)) W2.heap.size 0 #[.int .u8 pa,.int .i64 pc]):=Mv.ext_of (Ext.al (Ext.rf W2) _) (Mv.sa (C:=fun k=>k=W2.heap.size) _ rfl (Mv.refl _ _)) (fun k e=>by omega);refine⟨seen.push e.born,⟨⟨clk,(gA.block _ (Array.getElem?_eq_some_iff.1 n1).1).trans n1,Nat.le_refl _⟩,(gA.block _ (Array.getElem?_eq_some_iff.1 nm).1).trans nm,HZ.out.ext gA,fun e2 he2 hs=> ?_⟩,HM.out.tr gA⟩;rw [contains_push,Bool.or_eq_true]at hs;rcases hs with hs|hs
     ·exact HNO.out e2 he2 hs
     ·have:e2=e:=by
       have h1:=find_born e es.toList HND.out he1;have h2:=find_born e2 es.toList HND.out he2;rw [beq_iff_eq.1 hs,h1]at h2;exact(Option.some.inj h2).symm
      rw [this,ev];intro h;have:=(Value.int.inj h).2;rw [this]at hq;simp at hq
    case measure=>
     have gA:Ext W2 (Qe (W2.alloc (.cells #[.int .u8 0,.int .i64 0] 73)) W2.heap.size 0 #[.int .u8 pa,.int .i64 pc]):=Mv.ext_of (Ext.al (Ext.rf W2) _) (Mv.sa (C:=fun k=>k=W2.heap.size) _ rfl (Mv.refl _ _)) (fun k e=>by omega);have e1:(Qe (W2.alloc (.cells #[.int .u8 0,.int .i64 0] 73)) W2.heap.size 0 #[.int .u8 pa,.int .i64 pc]).iterSeen r=seen.push e.born:=by
      unfold World.iterSeen;rw [gA.block _ (Array.getElem?_eq_some_iff.1 n1).1,n1]
     rw [e1];exact HS.out
   ·go_upto_region 5 with(fail)
    obtain⟨W4,hW⟩: ∃W4,(Qe (W2.alloc (.cells #[.int .u8 0,.int .i64 0] 73)) W2.heap.size 0 #[.int .u8 pa,.int .i64 pc])=W4:=⟨_,rfl⟩;have gA:Ext W2 W4:=by rw [←hW];exact Mv.ext_of (Ext.al (Ext.rf W2) _) (Mv.sa (C:=fun k=>k=W2.heap.size) _ rfl (Mv.refl _ _)) (fun k e=>by omega)
    have q4:RowZ W4 W2.heap.size #[.int .u8 pa,.int .i64 pc]:=by rw [←hW];exact(RowZ.new W2 #[.int .u8 0,.int .i64 0] 73).all _ rfl
    rw [hW];clear hW hR hZ hL hen hrun;have z4:=HZ.out.ext gA;have hRa:=q4.r;have hRb:=z4.r;have hZb:=z4.z;have HQ:=Xh (And.intro z4 gA);clear q4 z4 gA;obtain⟨n1,nm,hp,he1,ev⟩:=HF.out;have hn:Yi x=some (pa,pc):=Qb7 hp (by simpa using hq);have HN:=Xh hn;clear n1 nm hp he1 ev hn;go_wp2;obtain⟨z4,gA⟩:=HQ.out;exact bodyPost_ret (QlR rfl ((z4.all (noC (pa,pc)) rfl).r) rfl) rfl ⟨by rw [HN.out];rfl,Mv.ext_of (HM.out.tr gA) (Mv.sa (C:=fun k=>k=w.heap.size) _ rfl (Mv.refl _ _)) (fun k e=>by omega)⟩
end
theorem QeQ(sr ds:Int)(po pp:Option Addr)(co cp N:Nat)(w:World)(hN:N≤60000):Cr 214 #[.agg #[.int .u8 0,.int .u16 0,.int .u16 0,.int .u8 64,.int .u8 4,.int .u32 sr,.int .u32 ds,.slice po 16 co,.slice pp N cp]] w (.bool true):=by
 have hd:decide ((36:Int)+(N:Int)≤65535)=true:=decide_eq_true Om
 go_enter Tryz.func214,Tryz.ntmps214
 go_wp2;go_ret;exact⟨rfl,Ext.al (Ext.rf _) _⟩
theorem Qf0(sr ds:Int)(po pp:Option Addr)(co cp N:Nat)(w:World)(hN:N≤60000):Cr 215 #[.agg #[.int .u8 0,.int .u16 0,.int .u16 0,.int .u8 64,.int .u8 4,.int .u32 sr,.int .u32 ds,.slice po 16 co,.slice pp N cp]] w (.int .i64 (36+(N:Int))):=by
 have HR:=Xh (fun W=>QeQ sr ds po pp co cp N W hN);have HN:=Xh hN;clear hN
 go_enter Tryz.func215,Tryz.ntmps215
 go_upto_region 1 with(fail)
 obtain⟨W0,hW⟩: ∃W0,w.alloc (.cells #[.int .u8 0,.int .u16 0,.int .u16 0,.int .u8 64,.int .u8 4,.int .u32 sr,.int .u32 ds,.slice po 16 co,.slice pp N cp] 132)=W0:=⟨_,rfl⟩;have g0:Ext w W0:=by rw [←hW];exact Ea
 have rz:RowZ W0 w.heap.size #[.int .u8 0,.int .u16 0,.int .u16 0,.int .u8 64,.int .u8 4,.int .u32 sr,.int .u32 ds,.slice po 16 co,.slice pp N cp]:=by rw [←hW];exact RowZ.new _ _ _
 rw [hW];clear hW;have hR:=rz.r;have HZ:=Xh rz;clear rz
 go_wp2_with (go_at_call 214;(refine(HR.out _).mono ?_);rintro e w2 ⟨rfl,g2⟩;have c7:=(HZ.out.ext g2).cell 7 (by show 7<9;omega);have c8:=(HZ.out.ext g2).cell 8 (by show 8<9;omega))
 go_ret;exact⟨by have:=HN.out;rw [show wrap64 (36+(N:Int))=36+(N:Int)by simp only [wrap64];omega];rfl,g0.tr g2⟩
theorem QvA{C:Nat→Prop}{cs:Array Value}(h0:RowZ w B cs)(h6:cs.size=9)(hC: ¬C B){q:Operand}{ty:TypeId}
  (hx:ρ q= .pointer (some ⟨B,0,none⟩)): ∀w',Mv C w w'→(execOp ρ ⟨dst,.load 132 q,ty,pos,after,g⟩).run Tryz.prog w'= .ok (.value (.agg cs)) w':=by
 intro w' hE;have h1:=h0.mv hE hC;have e:=Qcs ρ dst q ty pos after g w' (by rw [hx];rfl) (by rw [hx];show Fits 0 9 (Qc w' B);rw [h1.r];unfold Fits;omega);rw [e,hx];show Result.ok (Next.value (Value.agg (QB (Qc w' B) 0 9))) w'=_;rw [h1.r,Q9 cs 9 h6]
theorem Qm6{n:Int}(h:0≤n∧n<65536){ty:TypeId}(hx:ρ x= .int .i64 n)(w:World):
  (execOp ρ ⟨dst,.convert 3 62 x,ty,pos,after,g⟩).run Tryz.prog w= .ok (.value (.int .u16 n)) w:=by
 simp only [execOp,hx];go_simp;rw [show IntKind.u16.wrap n=n by rw [IntKind.wrap_u16];omega]
theorem Qb8{n:Int}(ρ:Operand→Value)(dst:Option Tmp)(x:Operand)(ty:TypeId)(pos:String)(after:Array Edge)(g:Option (Nat×Bool))(hx:ρ x= .int .u32 n)(w:World):
  (execOp ρ ⟨dst,.convert 61 62 x,ty,pos,after,g⟩).run Tryz.prog w= .ok (.value (.int .u16 (n % 65536))) w:=by
 simp only [execOp,hx];go_simp;rw [IntKind.wrap_u16]
theorem Qf1{n:Int}(h:0≤n∧n<65536){ty:TypeId}(hx:ρ x= .int .u32 n)(w:World):
  (execOp ρ ⟨dst,.convert 61 62 x,ty,pos,after,g⟩).run Tryz.prog w= .ok (.value (.int .u16 n)) w:=by
 have:=Qb8 ρ dst x ty pos after g hx w
 rwa [show n % 65536=n by omega]at this
theorem QdL{n:Int}(h:0≤n∧n<4294967296){r ty:TypeId}(hx:ρ x= .int .u32 n)(hy:ρ y= .int .u64 16)(w:World):
  (execOp ρ ⟨dst,.binOp .shr 61 x y r,ty,pos,after,g⟩).run Tryz.prog w= .ok (.value (.int .u32 (n/65536))) w:=by
 simp only [execOp,hx,hy];go_simp
def Qpy(ops:Array Oper):Prop:=Region.noSelect ops=true∧Qv ops 32 [0,1,4,5,6,7,8,9,10,11,12,13,14,15] 0=true∧Qv ops 32 [16,17,18,19,20,21,22,23,24,25,26,27,28,29] 65523=true∧Qv ops 32 [31] 1073741811=true∧Rd ops 32 3221225459 [2]∧Qv ops 32 [3,30] 3221225463=true∧Rd ops 32 4294967295 []
theorem Qj0:Qpy ((Tryz.f235.body.bind (Qh 1)).getD #[]):=⟨Kr,Kr,Kr,Kr,Rk,Kr,Rk⟩
theorem Qft: ∀args w,(callFunc 235 args).run Tryz.prog w= .ok (.enter 235 args) w:=enters_of Tryz.func235 Kr rfl
theorem Qm7(sr ds:Int)(po pp:Option Addr)(co cp N:Nat)(w:World):Calls Tryz.prog 216 #[.agg #[.int .u8 0,.int .u16 0,.int .u16 0,.int .u8 64,.int .u8 4,.int .u32 sr,.int .u32 ds,.slice po 16 co,.slice pp N cp]] w fun e w'=> ∃Bh,e= .returned (.func (.func 235) #[] #[.pointer (some ⟨Bh,0,none⟩)])∧Ext w w'∧w.heap.size≤Bh∧RowZ w' Bh #[.int .u8 0,.int .u16 0,.int .u16 0,.int .u8 64,.int .u8 4,.int .u32 sr,.int .u32 ds,.slice po 16 co,.slice pp N cp]:=by
 go_enter Tryz.func216,Tryz.ntmps216
 go_wp2;go_ret;exact⟨w.heap.size,rfl,Ext.al (Ext.rf _) _,Nat.le_refl _,RowZ.new _ _ _⟩
def YO(sr ds:Int)(N:Nat):List Int:= [18688,36+(N:Int),0,0,16388,0,sr/65536,sr % 65536,ds/65536,ds % 65536]
theorem Qpz(x0 x1 x2 x3 x4 x5 x6 x7 x8 x9:Int)(w:World):(Instr.index 265 (.agg #[.int .u16 x0,.int .u16 x1,.int .u16 x2,.int .u16 x3,.int .u16 x4,.int .u16 x5,.int .u16 x6,.int .u16 x7,.int .u16 x8,.int .u16 x9]) (.int .i64 0)).run Tryz.prog w= .ok (.int .u16 x0) w:=Kr
theorem QpA(x0 x1 x2 x3 x4 x5 x6 x7 x8 x9:Int)(w:World):(Instr.index 265 (.agg #[.int .u16 x0,.int .u16 x1,.int .u16 x2,.int .u16 x3,.int .u16 x4,.int .u16 x5,.int .u16 x6,.int .u16 x7,.int .u16 x8,.int .u16 x9]) (.int .i64 1)).run Tryz.prog w= .ok (.int .u16 x1) w:=Kr
theorem QpB(x0 x1 x2 x3 x4 x5 x6 x7 x8 x9:Int)(w:World):(Instr.index 265 (.agg #[.int .u16 x0,.int .u16 x1,.int .u16 x2,.int .u16 x3,.int .u16 x4,.int .u16 x5,.int .u16 x6,.int .u16 x7,.int .u16 x8,.int .u16 x9]) (.int .i64 2)).run Tryz.prog w= .ok (.int .u16 x2) w:=Kr
theorem QpC(x0 x1 x2 x3 x4 x5 x6 x7 x8 x9:Int)(w:World):(Instr.index 265 (.agg #[.int .u16 x0,.int .u16 x1,.int .u16 x2,.int .u16 x3,.int .u16 x4,.int .u16 x5,.int .u16 x6,.int .u16 x7,.int .u16 x8,.int .u16 x9]) (.int .i64 3)).run Tryz.prog w= .ok (.int .u16 x3) w:=Kr
theorem QpD(x0 x1 x2 x3 x4 x5 x6 x7 x8 x9:Int)(w:World):(Instr.index 265 (.agg #[.int .u16 x0,.int .u16 x1,.int .u16 x2,.int .u16 x3,.int .u16 x4,.int .u16 x5,.int .u16 x6,.int .u16 x7,.int .u16 x8,.int .u16 x9]) (.int .i64 4)).run Tryz.prog w= .ok (.int .u16 x4) w:=Kr
theorem QpE(x0 x1 x2 x3 x4 x5 x6 x7 x8 x9:Int)(w:World):(Instr.index 265 (.agg #[.int .u16 x0,.int .u16 x1,.int .u16 x2,.int .u16 x3,.int .u16 x4,.int .u16 x5,.int .u16 x6,.int .u16 x7,.int .u16 x8,.int .u16 x9]) (.int .i64 5)).run Tryz.prog w= .ok (.int .u16 x5) w:=Kr
theorem QpF(x0 x1 x2 x3 x4 x5 x6 x7 x8 x9:Int)(w:World):(Instr.index 265 (.agg #[.int .u16 x0,.int .u16 x1,.int .u16 x2,.int .u16 x3,.int .u16 x4,.int .u16 x5,.int .u16 x6,.int .u16 x7,.int .u16 x8,.int .u16 x9]) (.int .i64 6)).run Tryz.prog w= .ok (.int .u16 x6) w:=Kr
theorem QpG(x0 x1 x2 x3 x4 x5 x6 x7 x8 x9:Int)(w:World):(Instr.index 265 (.agg #[.int .u16 x0,.int .u16 x1,.int .u16 x2,.int .u16 x3,.int .u16 x4,.int .u16 x5,.int .u16 x6,.int .u16 x7,.int .u16 x8,.int .u16 x9]) (.int .i64 7)).run Tryz.prog w= .ok (.int .u16 x7) w:=Kr
theorem QpH(x0 x1 x2 x3 x4 x5 x6 x7 x8 x9:Int)(w:World):(Instr.index 265 (.agg #[.int .u16 x0,.int .u16 x1,.int .u16 x2,.int .u16 x3,.int .u16 x4,.int .u16 x5,.int .u16 x6,.int .u16 x7,.int .u16 x8,.int .u16 x9]) (.int .i64 8)).run Tryz.prog w= .ok (.int .u16 x8) w:=Kr
theorem QpI(x0 x1 x2 x3 x4 x5 x6 x7 x8 x9:Int)(w:World):(Instr.index 265 (.agg #[.int .u16 x0,.int .u16 x1,.int .u16 x2,.int .u16 x3,.int .u16 x4,.int .u16 x5,.int .u16 x6,.int .u16 x7,.int .u16 x8,.int .u16 x9]) (.int .i64 9)).run Tryz.prog w= .ok (.int .u16 x9) w:=Kr
theorem QpJ{sr ds:Int}{N k:Nat}{z:Int}(h:(YO sr ds N)[k]?=some z)(w:World):(Instr.index 265 (.agg #[.int .u16 (18688),.int .u16 (36+(N:Int)),.int .u16 (0),.int .u16 (0),.int .u16 (16388),.int .u16 (0),.int .u16 (sr/65536),.int .u16 (sr % 65536),.int .u16 (ds/65536),.int .u16 (ds % 65536)]) (.int .i64 ((k:Nat):Int))).run Tryz.prog w= .ok (.int .u16 z) w:=by
 have hk:k<10:=(List.getElem?_eq_some_iff.1 h).1;obtain rfl|rfl|rfl|rfl|rfl|rfl|rfl|rfl|rfl|rfl:k=0∨k=1∨k=2∨k=3∨k=4∨k=5∨k=6∨k=7∨k=8∨k=9:=by omega
 ·obtain rfl:=Option.some.inj h;exact Qpz _ _ _ _ _ _ _ _ _ _ w
 ·obtain rfl:=Option.some.inj h;exact QpA _ _ _ _ _ _ _ _ _ _ w
 ·obtain rfl:=Option.some.inj h;exact QpB _ _ _ _ _ _ _ _ _ _ w
 ·obtain rfl:=Option.some.inj h;exact QpC _ _ _ _ _ _ _ _ _ _ w
 ·obtain rfl:=Option.some.inj h;exact QpD _ _ _ _ _ _ _ _ _ _ w
 ·obtain rfl:=Option.some.inj h;exact QpE _ _ _ _ _ _ _ _ _ _ w
 ·obtain rfl:=Option.some.inj h;exact QpF _ _ _ _ _ _ _ _ _ _ w
 ·obtain rfl:=Option.some.inj h;exact QpG _ _ _ _ _ _ _ _ _ _ w
 ·obtain rfl:=Option.some.inj h;exact QpH _ _ _ _ _ _ _ _ _ _ w
 ·obtain rfl:=Option.some.inj h;exact QpI _ _ _ _ _ _ _ _ _ _ w
theorem Qit(n:Nat)(sr ds:Int)(po pp:Option Addr)(co cp N:Nat)(w:World)(Bh:Nat)(U:Nat→Prop)(hz:RowZ w Bh #[.int .u8 0,.int .u16 0,.int .u16 0,.int .u8 64,.int .u8 4,.int .u32 sr,.int .u32 ds,.slice po 16 co,.slice pp N cp])(hsr:0≤sr∧sr<4294967296)(hds:0≤ds∧ds<4294967296)(hN:N≤60000):
  QcT Fence.wide n Tryz.prog 235 #[.pointer (some ⟨Bh,0,none⟩)] (fun x:Int=>#[.int .u16 x]) (fun _=>False) U (YO sr ds N) w:=by
 intro y J Jx W hW hJ hJx hY hJ0;have HJ:=Xh hJ;have HJx:=Xh hJx;have HN:=Xh hN;have HIX:=Xh (fun k z h W=>QpJ (sr:=sr) (ds:=ds) (N:=N) (k:=k) (z:=z) h W);clear hJ hJx;obtain⟨yfn,ytm,yas,ybo,hY⟩:=hY;have HY:=Xh hY;clear hY;have rz:=hz.ext hW;have hR:=rz.r;have c7:=rz.cell 7 (by show 7<9;omega);have c0:=rz.cell 0 (by show 0<9;omega);have HZ:=Xh rz;have HSD:=Xh (And.intro hsr (And.intro hds hN));clear hz hW rz hsr hds hN;refine callsIn_of_wp Tryz.func235 rfl trivial ?_ rfl;simp only [Tryz.ntmps235,List.size_toArray,List.length_cons,List.length_nil,Nat.reduceAdd,Nat.reduceSub,Array.replicate_succ,Array.replicate_zero,List.push_toArray,List.append_toArray,List.nil_append,List.cons_append];refine wpIn_wide.2 ?_
 go_upto_region 1 with(fail)
 have sr':=HSD.out;obtain⟨hsr,hds,hN⟩:=sr';have rz:=HZ.out;have gJ:=Ext.rf W;refine QO (fun _=>False) Kr ?_;obtain⟨WA,hW⟩: ∃Wdr,World.drew W=Wdr:=⟨_,rfl⟩;have gD:Ext W WA:=by rw [←hW];exact Ext.dr (Ext.rf _)
 rw [hW];clear hW;have gJ:Ext W WA:=gD;have rz:=rz.ext gD;refine QaH (N:=32) (R:=Qpy) (E:=((Tryz.f235.body.bind (Qh 1)).getD #[])) Kr Qj0 Kr fun hS=> ?_;have hT:=hS.2.1;refine tMk 1 (.int .u16 18688) hS.1 hT rfl fun hT=>tM 3 (.agg #[.int .u8 0,.int .u16 0,.int .u16 0,.int .u8 64,.int .u8 4,.int .u32 sr,.int .u32 ds,.slice po 16 co,.slice pp N cp]) hS.1 hT rfl (QvA rz rfl (fun h=>h) Kr) fun hT=>tMk 19 (.pointer (some ⟨Bh,1,none⟩)) hS.1 hT rfl fun hT=>tM 51 (.int .u16 0) hS.1 hT rfl (Qa1 (rz.cell 1 (by show 1<9;omega)) rz.l (fun h=>h) Kr) fun hT=>tMk 115 (.pointer (some ⟨Bh,2,none⟩)) hS.1 hT rfl fun hT=>tM 243 (.int .u16 0) hS.1 hT rfl (Qa1 (rz.cell 2 (by show 2<9;omega)) rz.l (fun h=>h) Kr) fun hT=>tMk 499 (.pointer (some ⟨Bh,3,none⟩)) hS.1 hT rfl fun hT=>tM 1011 (.int .u8 64) hS.1 hT rfl (Yv (rz.cell 3 (by show 3<9;omega)) rz.l (fun h=>h) Kr) fun hT=>tMk 2035 (.int .u16 64) hS.1 hT rfl fun hT=>tMk 4083 (.int .u16 16384) hS.1 hT rfl fun hT=>tMk 8179 (.pointer (some ⟨Bh,4,none⟩)) hS.1 hT rfl fun hT=>tM 16371 (.int .u8 4) hS.1 hT rfl (Yv (rz.cell 4 (by show 4<9;omega)) rz.l (fun h=>h) Kr) fun hT=>tMk 32755 (.int .u16 4) hS.1 hT rfl fun hT=>tMk 65523 (.int .u16 16388) hS.1 hT rfl fun hT=> ?_;have hT:=hS.2.2.1;refine tMk 131059 (.pointer (some ⟨Bh,5,none⟩)) hS.1 hT rfl fun hT=>tM 262131 (.int .u32 sr) hS.1 hT rfl (Qa0 (rz.cell 5 (by show 5<9;omega)) rz.l (fun h=>h) Kr) fun hT=>tM 524275 (.int .u32 (sr/65536)) hS.1 hT rfl (fun w' _=>QdL hsr Kr Kr w') fun hT=>tM 1048563 (.int .u16 (sr/65536)) hS.1 hT rfl (fun w' _=>Qf1 Om Kr w') fun hT=>tMk 2097139 (.pointer (some ⟨Bh,5,none⟩)) hS.1 hT rfl fun hT=>tM 4194291 (.int .u32 sr) hS.1 hT rfl (Qa0 (rz.cell 5 (by show 5<9;omega)) rz.l (fun h=>h) Kr) fun hT=>tM 8388595 (.int .u16 (sr % 65536)) hS.1 hT rfl (fun w' _=>Qb8 _ _ _ _ _ _ _ Kr w') fun hT=>tMk 16777203 (.pointer (some ⟨Bh,6,none⟩)) hS.1 hT rfl fun hT=>tM 33554419 (.int .u32 ds) hS.1 hT rfl (Qa0 (rz.cell 6 (by show 6<9;omega)) rz.l (fun h=>h) Kr) fun hT=>tM 67108851 (.int .u32 (ds/65536)) hS.1 hT rfl (fun w' _=>QdL hds Kr Kr w') fun hT=>tM 134217715 (.int .u16 (ds/65536)) hS.1 hT rfl (fun w' _=>Qf1 Om Kr w') fun hT=>tMk 268435443 (.pointer (some ⟨Bh,6,none⟩)) hS.1 hT rfl fun hT=>tM 536870899 (.int .u32 ds) hS.1 hT rfl (Qa0 (rz.cell 6 (by show 6<9;omega)) rz.l (fun h=>h) Kr) fun hT=>tM 1073741811 (.int .u16 (ds % 65536)) hS.1 hT rfl (fun w' _=>Qb8 _ _ _ _ _ _ _ Kr w') fun hT=> ?_;have hT:=hS.2.2.2.1;refine tMk 3221225459 (.int .i64 0) hS.1 hT rfl fun hT=> ?_;refine sM 3221225463 (fun v _=>v= .int .i64 (36+(N:Int))) hS.2.2.2.2.1 rfl (ZC (Qf0 sr ds po pp co cp N WA HN.out)) ?_;rintro _ WB1 gWB1 rfl;have gJ:=gJ.tr gWB1;have rz:=rz.ext gWB1;have hT:=hS.2.2.2.2.2.1;refine tM 3221225471 (.int .u16 (36+(N:Int))) hS.1 hT rfl (fun w' _=>Qm6 Om Kr w') fun hT=>tMk 4294967295 (.agg #[.int .u16 (18688),.int .u16 (36+(N:Int)),.int .u16 (0),.int .u16 (0),.int .u16 (16388),.int .u16 (0),.int .u16 (sr/65536),.int .u16 (sr % 65536),.int .u16 (ds/65536),.int .u16 (ds % 65536)]) hS.1 hT rfl fun hT=> ?_;refine doneK hS.2.2.2.2.2.2 ?_;clear hS hT;have hJ0:=HJ.out _ _ _ hJ0 (Mv.of_ext gJ);have HJ0:=Xh hJ0;clear hJ0 gJ rz hR c7 c0 gD hsr hds hN;go_simp;go_wp2
 go_loopw [5,49] (fun _ j wr=> ∃k:Nat,k≤10∧j= .int .i64 k∧J k wr) (fun _ j _=>10- (intOf j).toNat)
 case atStart=>exact⟨0,Om,rfl,HJ0.out⟩
 case round=>
  obtain⟨k,hk,rfl,hJi⟩:=hrel
  by_cases hlt:k<10
  ·have hlt':decide ((k:Int)<10)=true:=decide_eq_true Om;obtain⟨z,hz⟩: ∃z,(YO sr ds N)[k]?=some z:=⟨_,List.getElem?_eq_getElem (by show k<10;omega)⟩;have hix:=HIX.out k z hz;have hrun:(Instr.yield y #[.int .u16 z]).run Tryz.prog wr= .ok (.round y yfn (ytm #[.int .u16 z]) yas ybo) wr:=(HY.out k z wr hJi hz).1;have HRD:=Xh (HY.out k z wr hJi hz).2;clear hJi hz;refine(wpIn_wide (n:=n)).1 ?_
   gi_wp2
   refine⟨(fun h=>by cases h),(HRD.out).mono ?_⟩;rintro e w6 ⟨bb,rfl,hP⟩;clear hrun HRD hix;obtain⟨rfl,hJ6,-⟩|⟨rfl,hx6⟩:=hP
   ·gi_wp2
    go_wp2
    go_roundw
    case rel=>exact⟨k+1,Om,by go_num,hJ6⟩
    case measure=>simp [intOf];omega
   ·gi_wp2
    go_wp2;exact bodyPost_ret (results_none rfl _ _ _) rfl ⟨⟨_,rfl⟩,.inr hx6⟩
  ·obtain rfl:k=10:=by omega
   go_wp2
   go_end0
   exact⟨⟨_,rfl⟩,.inl hJi⟩
def ipA(sr ds:Int)(N:Nat)(op:List Int):List Int:=Yz (YO sr ds N)++op
def ipB(sr ds:Int)(op pl:List Int):List Int:=
 (((ipA sr ds pl.length op).set 10 (Z5 (ipA sr ds pl.length op)/256 % 256)).set 11 (Z5 (ipA sr ds pl.length op) % 256))++pl
theorem QeR{B:World}{v:Value}{C:Nat→Prop}(h:OB A base v bs)(hm:Mv C A B)(hc: ∀g,v.ownBlock=some g→ ¬C g):OB B base v bs:=by
 refine⟨h.1,?_⟩;rcases h.2 with h1|⟨g,cap,cur,rfl,hg,hgb,h1,h2,h3,h4⟩
 ·exact .inl h1
 ·exact .inr ⟨g,cap,cur,rfl,hg,(hm.same g (Array.getElem?_eq_some_iff.1 hgb).1 (hc g rfl)).trans hgb,h1,h2,h3,h4⟩
theorem Qfu(w:World)(a b:Value)(t:TypeId): ∀j u,[a,b][j]?=some u→(w.alloc (.cells #[a,b] t)).cell? ((⟨w.heap.size,0,none⟩:Addr).add j)=some u:=by
 intro j u hu;have e:(⟨w.heap.size,0,none⟩:Addr).add j=⟨w.heap.size,j,none⟩:=by unfold Addr.add;split<;>simp_all
 rw [e,Qa,Zn];simpa using hu
theorem Qsx{g n c:Nat}(h:OB w base (.slice (some ⟨g,0,none⟩) n c) bs):SlB w (some ⟨g,0,none⟩) bs:=by
 obtain⟨p,c',h1,-,h3⟩:=h.slb
 injection h1 with e1 e2 e3
 rw [e1];exact h3
def QpK(ops:Array Oper):Prop:=Region.noSelect ops=true∧Qv ops 5 [0,1,2] 0=true∧Rd ops 5 7 [3]∧Rd ops 5 15 [4]∧Rd ops 5 31 []
theorem Qj1:QpK ((Tryz.f173.body.bind (Qh 8)).getD #[]):=⟨Kr,Kr,Rk,Rk,Rk⟩
theorem SlB.mvg{B:World}{C:Nat→Prop}(h:SlB A p bs)(m:Mv C A B)(hb: ∀b off,p=some ⟨b,off,none⟩→ ¬C b):SlB B p bs:=fun k hk=>by
 obtain⟨b,off,rfl,h1,h2⟩:=h k hk;exact((show SlB A (some ⟨b,off,none⟩) bs from h).mv m (hb b off rfl)) k hk
structure Qiu(B X lo:Nat)(xs:List Int)(W:World):Prop where
 at_: ∃v,Boxed W B 28 v∧OB W X v xs∧ ∀g,v.ownBlock=some g→g=X∨lo≤g
theorem Qiu.mv{X lo:Nat}{xs:List Int}{A':World}{C:Nat→Prop}(h:Qiu B X lo xs A)(hm:Mv C A A')(h1: ¬C B)(h2: ¬C X)(h3: ∀k,lo≤k→ ¬C k):Qiu B X lo xs A':=by
 obtain⟨v,a1,a2,a3⟩:=h;exact⟨v,Qj a1 hm h1,QeR a2 hm (fun g hg=>by rcases a3 g hg with e|e;(rw [e];exact h2);exact h3 g e),a3⟩
theorem Qm8(xs:List Int)(z:Int):Yz (xs++ [z])=Yz xs++ [z/256 % 256,z % 256]:=by
 induction xs with
 |nil=>rfl
 |cons x xs ih=>show _::_::Yz (xs++ [z])=_;rw [ih];rfl
theorem QpL(sr ds:Int)(po pp:Option Addr)(co cp N:Nat)(op pl:List Int)(w:World)(hsr:0≤sr∧sr<4294967296)(hds:0≤ds∧ds<4294967296)(hN:N≤1000)(hpl:pl.length=N)(hop:op.length=16)(so:SlB w po op)(sp:SlB w pp pl)(ro:ByR op)(rp:ByR pl)(hpn:(pp=none∧pl= [])∨ ∃b off,pp=some ⟨b,off,none⟩)(hco:16≤co)(hcp:N≤cp)
  (hpo: ∀b off,po=some ⟨b,off,none⟩→b<w.heap.size)(hpp: ∀b off,pp=some ⟨b,off,none⟩→b<w.heap.size):
  Calls Tryz.prog 173 #[.agg #[.int .u8 0,.int .u16 0,.int .u16 0,.int .u8 64,.int .u8 4,.int .u32 sr,.int .u32 ds,.slice po 16 co,.slice pp N cp]] w fun e w'=> ∃v,e= .returned (.tuple #[v,.bool true])∧Z8 w w' v (ipB sr ds op pl):=by
 have HR:=Xh (fun W=>QeQ sr ds po pp co cp N W Om);have HS:=Xh (fun W=>Qf0 sr ds po pp co cp N W Om);have HH:=Xh (fun W=>Qm7 sr ds po pp co cp N W);have HX:=Xh (And.intro hsr (And.intro hds (And.intro hN (And.intro hpl (And.intro hop (And.intro so (And.intro sp (And.intro ro (And.intro rp (And.intro hpo hpp))))))))));clear hsr hds hN hpl hop so sp ro rp hpo hpp;obtain⟨i0,hi,hz0,hz1,hz2⟩:=info_parts YB;refine(callsIn_wide (n:=5)).1 ?_;refine callsIn_of_wp_marks Tryz.func173 rfl trivial ?_ rfl;simp only [Tryz.ntmps173,List.size_toArray,List.length_cons,List.length_nil,Nat.reduceAdd,Nat.reduceSub,Array.replicate_succ,Array.replicate_zero,List.push_toArray,List.append_toArray,List.nil_append,List.cons_append];refine wpIn_wide.2 ?_
 go_upto_region 1 with(fail)
 obtain⟨W0,hW⟩: ∃W0,w.alloc (.cells #[.int .u8 0,.int .u16 0,.int .u16 0,.int .u8 64,.int .u8 4,.int .u32 sr,.int .u32 ds,.slice po 16 co,.slice pp N cp] 132)=W0:=⟨_,rfl⟩;have g0:Ext w W0:=by rw [←hW];exact Ea
 have rz:RowZ W0 w.heap.size #[.int .u8 0,.int .u16 0,.int .u16 0,.int .u8 64,.int .u8 4,.int .u32 sr,.int .u32 ds,.slice po 16 co,.slice pp N cp]:=by rw [←hW];exact RowZ.new _ _ _
 rw [hW];clear hW;have hR:=rz.r;have HZ:=Xh rz;clear rz
 go_upto_region 4 with(first|(go_at_call 214;(with_reducible refine(HR.out _).mono ?_);rintro e w2 ⟨rfl,g2⟩;have hR2:=(HZ.out.ext g2).r)|(go_at_call 215;(with_reducible refine(HS.out _).mono ?_);rintro e w3 ⟨rfl,g3⟩;obtain⟨w4,hmk,how,hgr⟩:=run_makeSlice_owned (P:=Tryz.prog) w3 w3.heap.size 28 5 i0 (.int .u8 0) 1 Tryz.underlying28 hi hz0 hz1 .i64 .i64 (36+N) (by have:=HX.out.2.2.1;omega) (by have:=HX.out.2.2.1;rw [hz2];omega) (by have:=HX.out.2.2.1;unfold maxLen;omega) (Nat.le_refl _);rw [show(((36+N:Nat)):Int)=36+(N:Int)by omega]at hmk;have HOW:=Xh how;have HGR:=Xh hgr;clear how hgr))
 have g4:Ext w3 w4:=(Mv.of_grown (C:=fun _=>False) HGR.out (fun r e=>by cases e)).ext (fun _ _ h=>h);obtain⟨X,hX⟩: ∃X,w3.heap.size=X:=⟨_,rfl⟩;obtain⟨B4,hB4⟩: ∃B,w4.heap.size=B:=⟨_,rfl⟩;obtain⟨W5,hW⟩: ∃W5,w4.alloc (.cells #[.slice (some ⟨w3.heap.size,0,none⟩) 0 (36+N)] 28)=W5:=⟨_,rfl⟩;have g5:Ext w4 W5:=by rw [←hW];exact Ea
 have bx:Boxed W5 B4 28 (.slice (some ⟨X,0,none⟩) 0 (36+N)):=by rw [←hW,←hB4,←hX];exact Boxed.new _ _ _
 have ob:OB W5 X (.slice (some ⟨X,0,none⟩) 0 (36+N)) []:=OB.ext (by rw [←hX];exact HOW.out) g5;have gA:=(((g0.tr g2).tr g3).tr g4).tr g5;have rz:=HZ.out.ext (((g2.tr g3).tr g4).tr g5);have hXlt:X<B4:=by
  obtain⟨-,h⟩:=HOW.out;rcases h with⟨h,-⟩|⟨g,cap,cur,h,-,hgb,-⟩
  ·cases h
  ·have e1:w3.heap.size=g:=by injection h with h1;injection h1 with h2;injection h2
   rw [←e1]at hgb;have:=(Array.getElem?_eq_some_iff.1 hgb).1;omega
 have hs5:W5.heap.size=B4+1:=by rw [←hW,←hB4];simp
 rw [hW];rw [hB4];have hwX:w.heap.size<X:=by
  have h1:=HZ.out.l;unfold Lt at h1;have h2:=g2.size;have h3:=g3.size;omega
 clear hW;have hR5:=rz.r;have HB:=Xh (And.intro bx (And.intro ob (And.intro gA rz)));clear bx ob gA rz g5 g4 g0 hmk HOW HGR HZ HR HS
 go_wp2_with (go_at_call 216;(refine(HH.out _).mono ?_);rintro e w6 ⟨Bh,rfl,g6,lo6,rh⟩)
 have hz6:B4<w6.heap.size:=by have:=g6.size;omega
 have bx6:Boxed w6 B4 28 (.slice (some ⟨X,0,none⟩) 0 (36+N)):=Qj (C:=fun _=>False) HB.out.1 (Mv.of_ext g6) (fun h=>h);have ob6:=OB.ext HB.out.2.1 g6;have gA:=HB.out.2.2.1.tr g6;have rz6:=HB.out.2.2.2.ext g6;refine(wpIn_wide (n:=5)).1 ?_;refine ZI rfl Om (gf:=235) (lb:=#[.pointer (some ⟨Bh,0,none⟩)]) rfl trivial Qft
  (Qit _ sr ds po pp co cp N w6 Bh (fun k=>k=B4∨k=X) rh HX.out.1 HX.out.2.1 (by have:=HX.out.2.2.1;omega))
  (fun k h=>h.elim) (fun k h=>by omega) (fun _=>rfl)
  (fun i W=>Qiu B4 X (w6.heap.size+2) (Yz ((YO sr ds N).take i)) W) (fun _ _=>False)
  (fun i A B h hm=>h.mv hm (by rintro(h|h|h);exact h.elim;omega;omega) (by rintro(h|h|h);exact h.elim;omega;omega) (fun k hk h=>by rcases h with h|h|h;exact h.elim;omega;omega))
  (fun _ _ _ h _=>h) ⟨⟨_,bx6,ob6,fun g hg=> .inl (by simpa [Value.ownBlock]using hg.symm)⟩⟩
  (fun x a' W=>a'={tmps:=#[.agg #[.int .u8 0,.int .u16 0,.int .u16 0,.int .u8 64,.int .u8 4,.int .u32 sr,.int .u32 ds,.slice po 16 co,.slice pp N cp],.pointer (some ⟨w.heap.size,0,none⟩),.slice none 0 0,.bool false,.pointer (some ⟨B4,0,none⟩),.int .u16 x,.agg #[.int .u8 0,.int .u16 0,.int .u16 0,.int .u8 64,.int .u8 4,.int .u32 sr,.int .u32 ds,.slice po 16 co,.slice pp N cp],.bool true,.bool false,.agg #[.int .u8 0,.int .u16 0,.int .u16 0,.int .u8 64,.int .u8 4,.int .u32 sr,.int .u32 ds,.slice po 16 co,.slice pp N cp],.int .i64 (36+(N:Int)),.slice (some ⟨X,0,none⟩) 0 (36+N),.agg #[.int .u8 0,.int .u16 0,.int .u16 0,.int .u8 64,.int .u8 4,.int .u32 sr,.int .u32 ds,.slice po 16 co,.slice pp N cp],.func (.func 235) #[] #[.pointer (some ⟨Bh,0,none⟩)],.int .u16 x,undef,undef,undef,undef,undef,undef,undef,undef,undef,undef,undef,undef,undef,undef,undef,undef,undef,undef,undef,undef,undef],defers:= []})
  (fun x a' A B h hm=>h)
  ?assign ?body ?done ?stop
 case assign=>
  intro y i x W K hsz hv hI hx hK
  gi_wp2
  exact hK _ _ (Mv.refl _ _) hI rfl
 case body=>
  rintro y i x a' W hyl ⟨rr,hr⟩ hsz' hv ⟨v,a1,a2,a3⟩ hx rfl;have hil:i<10:=(List.getElem?_eq_some_iff.1 hx).1;have HT:=Xh (show Yz ((YO sr ds N).take (i+1))=Yz ((YO sr ds N).take i)++ [x/256 % 256,x % 256]by rw [List.take_add_one,hx];exact Qm8 _ _);have HLN:=Xh (show(Yz ((YO sr ds N).take i)).length≤20 by rw [Jc,List.length_take];have:(YO sr ds N).length=10:=rfl;omega);obtain⟨L,hL⟩: ∃L,Yz ((YO sr ds N).take i)=L:=⟨_,rfl⟩;rw [hL]at a2 HT HLN;have cb:=a1.cell;have HA:=Xh (And.intro a1 (And.intro a2 a3));have HV:=Xh hv;clear a1 a2 a3 hx hv hL hr hyl
  gi_wp2_with (gi_at_builtin;refine wpListIn_append_own_at _ rfl _ _ 28 rfl X 5 i0 (.int .u8 0) 1 1 Tryz.underlying28 hi hz0 hz1 hz2 rfl Dc _ _ _ rfl (show World.ownsRow _ X 5 1 v L.length (L.map (Value.int .u8))from OB.ext HA.out.2.1 Ea) ⟨W.heap.size,0,none⟩ 2 2 [.int .u8 (x/256 % 256),.int .u8 (x % 256)] rfl rfl (Qfu _ _ _ _) (by simp [Value.oneCell']) (by have:=HLN.out;unfold maxLen;omega) (by have:=HLN.out;omega) (by simp;omega) ?_;intro v' w2 hown' hgrow _ hat';have hm2:Mv (fun k=>v.ownBlock=some k) W w2:=(Mv.al _ (Mv.refl _ _)).trans (Mv.of_grown hgrow fun r e=> .inl e);have b2:=Qj HA.out.1 hm2 (fun e=>by rcases HA.out.2.2 _ e with h|h;omega;omega);have HOW:=Xh (show OB w2 X v' (L++ [x/256 % 256,x % 256])by unfold OB;rw [List.length_append,List.map_append];exact hown');have HAT:=Xh hat';obtain⟨pa,na,ca,rfl⟩:=Qa3 HOW.out;have hc2:=b2.cell;have hf2:=b2.frozen;have HM:=Xh hm2;have HB2:=Xh b2;clear hown' hat' hm2 b2 hgrow)
  have mS:Mv (fun k=>k=B4) w2 (w2.setCell ⟨B4,0,none⟩ (.slice pa na ca)):=Mv.st _ (.inl rfl) (Mv.refl _ _);refine⟨(HM.out.mono (D:=fun k=>(k=B4∨k=X)∨w6.heap.size+2≤k) (fun k _ e=>by rcases HA.out.2.2 _ e with h|h;(exact .inl (.inr h));exact .inr h)).trans (mS.mono (fun k _ e=> .inl (.inl e))),?_⟩;show Qiu B4 X _ (Yz ((YO sr ds N).take (i+1))) _;rw [HT.out];have hoX: ∀g,(Value.slice pa na ca).ownBlock=some g→g=X∨w6.heap.size+2≤g:=fun g hg=>by
   rcases HAT.out with h|h
   ·exact HA.out.2.2 g (h.symm.trans hg)
   ·rw [hg]at h;have:=Option.some.inj h;rw [World.size_alloc]at this
    right;omega
  exact⟨⟨_,HB2.out.set _,QeR HOW.out mS (fun g hg e=>by rcases hoX g hg with h|h;omega;omega),hoX⟩⟩
 case done=>
  rintro W ⟨v,a1,a2,a3⟩ hv hK;obtain⟨hsr,hds,hN,hpl,hop,so,sp,ro,rp,hpo,hpp⟩:=HX.out;obtain⟨bo,oo,rfl,-,-⟩:=so 0 Om;have hbo:=hpo bo oo rfl;have soW:=(so.ext gA).mv hv (by rintro(h|h|h);exact h;omega;omega);have spW:=(sp.ext gA).mvg hv (fun b off e=>by have:=hpp b off e;rintro(h|h|h);exact h;omega;omega);have rzW:=rz6.mv hv (by rintro(h|h|h);exact h;omega;omega);have E:=Mv.ext_of gA hv (fun k h=>by rcases h with h|h|h;exact h.elim;omega;omega);have hkl:=(Array.getElem?_eq_some_iff.1 hK).1;have a2:OB W X v (Yz (YO sr ds N)):=a2;have hA:ipA sr ds N op=Yz (YO sr ds N)++op:=rfl;have hAr:ByR (Yz (YO sr ds N)):=QgP _;have hAl:(Yz (YO sr ds N)).length=20:=Jc _;obtain⟨L,hL⟩: ∃L,Yz (YO sr ds N)=L:=⟨_,rfl⟩;rw [hL]at a2 hA hAr hAl;have hXW:X≤W.heap.size:=by have:=hv.size;omega
  have cb:=a1.cell;have c7:W.cell? ⟨w.heap.size,7,none⟩=some (.slice (some ⟨bo,oo,none⟩) 16 co):=rzW.cell 7 (by show 7<9;omega);have HA:=Xh (And.intro a1 (And.intro a2 (And.intro a3 (And.intro soW (And.intro spW (And.intro rzW (And.intro E (And.intro hK hkl))))))));have HF:=Xh (And.intro hN (And.intro hpl (And.intro hop (And.intro ro (And.intro rp (And.intro hA (And.intro hAr (And.intro hAl hL))))))));clear a1 a2 a3 soW spW rzW E hK hkl hv so sp hpo bx6 ob6 rz6 hL rh g6 gA hA hAr hAl hN hpl hop ro rp hsr hds hR5 HB
  go_upto_region 8 with(at_builtin;refine wpList_append_own_at _ rfl _ _ 28 rfl X 5 i0 (.int .u8 0) 1 1 Tryz.underlying28 hi hz0 hz1 hz2 rfl Dc _ _ _ rfl (show World.ownsRow _ X 5 1 v L.length (L.map (Value.int .u8))from HA.out.2.1) ⟨bo,oo,none⟩ 16 co (op.map (Value.int .u8)) rfl (by rw [List.length_map,HF.out.2.2.1]) (HA.out.2.2.2.1.news (Ext.rf _)) (oneB _) (by have:=HF.out.2.2.2.2.2.2.2.1;unfold maxLen;omega) (by have:=HF.out.2.2.2.2.2.2.2.1;omega) hXW ?_;intro v' w2 hown' hgrow _ hat';have hm2:Mv (fun k=>v.ownBlock=some k) W w2:=(Mv.of_grown hgrow fun r e=> .inl e);have b2:=Qj HA.out.1 hm2 (fun e=>by rcases HA.out.2.2.1 _ e with h|h;omega;omega);have HOW:=Xh (show OB w2 X v' (L++op)by unfold OB;rw [List.length_append,List.map_append,HF.out.2.2.1];exact hown');have HAT:=Xh hat';obtain⟨pa,na,ca,rfl⟩:=Qa3 HOW.out;have hc2:=b2.cell;have hf2:=b2.frozen;have HM:=Xh hm2;have HB2:=Xh b2;clear hown' hat' hm2 b2 hgrow)
  obtain⟨W7,hW⟩: ∃W7,w2.setCell ⟨B4,0,none⟩ (.slice pa na ca)=W7:=⟨_,rfl⟩;have mS:Mv (fun k=>k=B4) w2 W7:=by rw [←hW];exact Mv.st _ (.inl rfl) (Mv.refl _ _)
  have bx:Boxed W7 B4 28 (.slice pa na ca):=by rw [←hW];exact HB2.out.set _
  rw [hW];clear hW;obtain⟨a1,a2,a3,soW,spW,rzW,E,hK,hkl⟩:=HA.out;obtain⟨hN,hpl,hop,ro,rp,hA,hAr,hAl,hL⟩:=HF.out;have hne: ∀k,v.ownBlock=some k→k=X∨w6.heap.size<k:=fun k e=>by rcases a3 k e with h|h;exact .inl h;right;omega
  have hnf: ∀k,(Value.slice pa na ca).ownBlock=some k→k=X∨w6.heap.size<k:=fun k e=>by
   rcases HAT.out with h|h
   ·exact hne k (h.symm.trans e)
   ·rw [e]at h;have:=Option.some.inj h;right;omega
  have E:=Mv.ext_of (Mv.ext_of E HM.out (fun k e=>by rcases hne k e with h|h<;>omega)) mS (fun k e=>by omega);have rz:=(rzW.mv HM.out (fun e=>by rcases hne _ e with h|h<;>omega)).mv mS Om;have sp:=(spW.mvg HM.out (fun b off e=>fun e2=>by have:=hpp b off e;rcases hne _ e2 with h|h<;>omega)).mvg mS (fun b off e=>by have:=hpp b off e;omega);have hk1:=(mS.same w6.heap.size (Xl hkl HM.out.size) Om).trans ((HM.out.same w6.heap.size hkl (fun e=>by rcases hne _ e with h|h<;>omega)).trans hK);have ob:OB W7 X (.slice pa na ca) (ipA sr ds N op):=by rw [hA];exact QeR HOW.out mS (fun g hg e=>by rcases hnf g hg with h|h<;>omega)
  have hAR:ByR (ipA sr ds N op):=by rw [hA];intro z hz;rcases List.mem_append.1 hz with h|h;exact hAr z h;exact ro z h
  have hAL:(ipA sr ds N op).length=36:=by rw [hA,List.length_append,hAl,hop]
  have HBB:=Xh (show ipB sr ds op pl=(((ipA sr ds N op).set 10 (Z5 (ipA sr ds N op)/256 % 256)).set 11 (Z5 (ipA sr ds N op) % 256))++pl by unfold ipB;rw [hpl]);obtain⟨A,hAA⟩: ∃A,ipA sr ds N op=A:=⟨_,rfl⟩;rw [hAA]at ob hAR hAL HBB;obtain⟨gb,cc,hvv,hcc,hgX,hgl,fz,-⟩:=ob.at Om
  injection hvv with e1 e2 e3
  subst e1 e2 e3;have hgn:=hnf gb rfl;have hkl:=(Array.getElem?_eq_some_iff.1 hk1).1;have hCB: ¬(fun k=>k=gb) B4:=fun e=>by rcases hgn with h|h<;>omega
  have hX7:X≤W7.heap.size:=by omega
  clear a1 a2 a3 soW spW rzW hK HA HF HB2 HOW HAT HM hne hnf mS hA hAr hAl hL hAA ro hop;refine QO (fun k=>k=gb) Kr ?_;obtain⟨WA,hW⟩: ∃Wdr,World.drew W7=Wdr:=⟨_,rfl⟩;have gD:Ext W7 WA:=by rw [←hW];exact Ext.dr (Ext.rf _)
  rw [hW];clear hW;have E:=E.tr gD;have rz:=rz.ext gD;have sp:=sp.ext gD;have bx:=Qj (C:=fun _=>False) bx (Mv.of_ext gD) (fun h=>h);have ob:=OB.ext ob gD;have hk1:=(gD.block _ hkl).trans hk1;have hkl:=Xl hkl gD.size;have fz:=Qao gD hgl fz;have hgl:=Xl hgl gD.size;have hX7:=Xt hX7 gD.size;refine QaH (N:=5) (R:=QpK) (E:=((Tryz.f173.body.bind (Qh 8)).getD #[])) Kr Qj1 Kr fun hS=> ?_;have hT:=hS.2.1;refine tM 1 (.slice (some ⟨gb,0,none⟩) A.length ca) hS.1 hT rfl (JY bx.cell bx.lt hCB Kr) fun hT=>tM 3 (.slice (some ⟨gb,0+10,none⟩) (A.length- 10) (ca- 10)) hS.1 hT rfl (fun w' _=>JM (m:=A.length) (c:=ca) 10 Om hcc Kr Kr w') fun hT=>tM 7 (.slice (some ⟨gb,0,none⟩) A.length ca) hS.1 hT rfl (JY bx.cell bx.lt hCB Kr) fun hT=> ?_;refine sM 15 (fun v _=>v= .int .u16 (Z5 A)) hS.2.2.1 rfl (ZC (Qc5 A (some ⟨gb,0,none⟩) ca WA (Qsx ob) hAR Om hcc)) ?_;rintro _ WB1 gWB1 rfl;have E:=E.tr gWB1;have rz:=rz.ext gWB1;have sp:=sp.ext gWB1;have bx:=Qj (C:=fun _=>False) bx (Mv.of_ext gWB1) (fun h=>h);have ob:=OB.ext ob gWB1;have hk1:=(gWB1.block _ hkl).trans hk1;have hkl:=Xl hkl gWB1.size;have fz:=Qao gWB1 hgl fz;have hgl:=Xl hgl gWB1.size;have hX7:=Xt hX7 gWB1.size;refine QaO hS.2.2.2.1 (QuX (m':=31) (R:=fun _ w'=>w'=(WB1.setCell ⟨gb,0+10,none⟩ (.int .u8 (Z5 A/256 % 256))).setCell ⟨gb,0+10+1,none⟩ (.int .u8 (Z5 A % 256))) rfl rfl Kr Kr ((Qlt (n:=A.length- 10) (c:=ca- 10) (v:=Z5 A) WB1 ((Qsx ob).bt 10 Om).1 ((Qsx ob).bt 11 Om).1 (Ql fz _) (Ql fz _) Om).mono fun e w' ⟨⟨r,h⟩,h2⟩=>⟨r,h,h2,by rw [h2];exact Mv.st _ (.inl rfl) (Mv.st _ (.inl rfl) (Mv.refl _ _))⟩) ?_);rintro vl WB2 gL hWL;refine doneK hS.2.2.2.2 ?_;clear hS hT;have ob9:OB WB2 X (.slice (some ⟨gb,0,none⟩) A.length ca) ((A.set 10 (Z5 A/256 % 256)).set 11 (Z5 A % 256)):=by rw [hWL];exact YD (YD ob 10 _ rfl) 11 _ (by simp)
  have hgw:gb≠w.heap.size∧gb≠w6.heap.size∧gb≠B4:=by rcases hgn with h|h<;>omega
  have E:=Mv.ext_of E gL (fun k e=>by rcases hgn with h|h<;>omega);have rz:=rz.mv gL (fun e=>hgw.1 e.symm);have sp:=sp.mvg gL (fun b off e=>fun e2=>by have:=hpp b off e;rcases hgn with h|h<;>omega);have bx:=Qj bx gL hCB;have hk1:=(gL.same w6.heap.size hkl (fun e=>hgw.2.1 e.symm)).trans hk1;have hkl:=Xl hkl gL.size;have hX9:=Xt hX7 gL.size;have hlen:((A.set 10 (Z5 A/256 % 256)).set 11 (Z5 A % 256)).length=A.length:=by simp
  obtain⟨A2,hA2⟩: ∃A2,(A.set 10 (Z5 A/256 % 256)).set 11 (Z5 A % 256)=A2:=⟨_,rfl⟩;rw [hA2]at ob9 HBB hlen;have cb:=bx.cell;have c8:WB2.cell? ⟨w.heap.size,8,none⟩=some (.slice pp N cp):=rz.cell 8 (by show 8<9;omega);have HQ:=Xh (And.intro ob9 (And.intro E (And.intro sp (And.intro hk1 (And.intro hkl (And.intro hlen (And.intro hAL (And.intro hpl (And.intro hgn hN)))))))));clear ob ob9 E rz sp bx hk1 hkl hX7 hWL gL hA2 hlen hgw hgn hCB fz hgl hAR hAL hpl gD rp hN hgX;rcases hpn with⟨hp0,hl0⟩|⟨bp,oq,hp0⟩
  ·subst hp0 hl0;obtain rfl:N=0:=by have:=HQ.out.2.2.2.2.2.2.2.1;simpa using this.symm
   go_simp;go_wp2;obtain⟨ob9,E,-,hk1,hkl,-,-,-,hgn,-⟩:=HQ.out;refine⟨by simp,.inl ⟨_,_,rfl,run_takeDeferred hk1,?_⟩⟩;have m3:Mv (fun k=>k=w6.heap.size) WB2 (WB2.putObj w6.heap.size (.deferred none)):=Mv.put _ _ _ rfl;refine⟨_,results_tmp2 rfl _ _ _,_,rfl,?_,Mv.ext_of E m3 (fun k e=>by omega)⟩;rw [HBB.out,List.append_nil];refine OB.le (QeR ob9 m3 (fun g hg e=>by have:=Option.some.inj (hg.symm.trans (show _=some gb from rfl));rcases hgn with h|h<;>omega)) Om
  ·subst hp0;have t1:=Xh (show World.ownsRow WB2 X 5 1 (.slice (some ⟨gb,0,none⟩) A.length ca) A2.length (A2.map (Value.int .u8))from HQ.out.1);have t2:=Xh (show(pl.map (Value.int .u8)).length=N*1 by rw [List.length_map,HQ.out.2.2.2.2.2.2.2.1];omega);have t3:=Xh (show ∀j u,(pl.map (Value.int .u8))[j]?=some u→WB2.cell? ((⟨bp,oq,none⟩:Addr).add j)=some u from HQ.out.2.2.1.news (Ext.rf _));have t4:=Xh (show A2.length+N≤maxLen by obtain⟨-,-,-,-,-,h1,h2,h3,-,h4⟩:=HQ.out;unfold maxLen;omega);have t5:=Xh (show(A2.length+N)*1≤140737488355328 by obtain⟨-,-,-,-,-,h1,h2,h3,-,h4⟩:=HQ.out;omega);go_simp
   go_wp2_with (at_builtin;refine wpList_append_own_at _ rfl _ _ 28 rfl X 5 i0 (.int .u8 0) 1 1 Tryz.underlying28 hi hz0 hz1 hz2 rfl Dc _ _ _ rfl t1.out ⟨bp,oq,none⟩ N cp (pl.map (Value.int .u8)) rfl t2.out t3.out (oneB _) t4.out t5.out hX9 ?_;intro v' w8 hown' hgrow _ hat';have HAT:=Xh hat';clear hat';have hm2:Mv (fun k=>k=gb) WB2 w8:=(Mv.of_grown hgrow fun r e=> .inl (Option.some.inj (e.symm.trans rfl)));have HOW:=Xh (show OB w8 X v' (A2++pl)by unfold OB;rw [List.length_append,List.map_append,HQ.out.2.2.2.2.2.2.2.1];exact hown');have HM:=Xh hm2;clear hown' hm2 hgrow)
   obtain⟨-,E,-,hk1,hkl,-,-,-,hgn,-⟩:=HQ.out;have hk8:=(HM.out.same w6.heap.size hkl (fun e=>by rcases hgn with h|h<;>omega)).trans hk1;refine⟨by simp,.inl ⟨_,_,rfl,run_takeDeferred hk8,?_⟩⟩;have m3:Mv (fun k=>k=w6.heap.size) w8 (w8.putObj w6.heap.size (.deferred none)):=Mv.put _ _ _ rfl;refine⟨_,results_tmp2 rfl _ _ _,v',rfl,?_,Mv.ext_of (Mv.ext_of E HM.out (fun k e=>by rcases hgn with h|h<;>omega)) m3 (fun k e=>by omega)⟩;rw [HBB.out];refine OB.le (QeR HOW.out m3 (fun g hg e=> ?_)) Om;rcases HAT.out with h|h
   ·have:=Option.some.inj (hg.symm.trans (h.trans (show _=some gb from rfl)));rcases hgn with h|h<;>omega
   ·have:=Option.some.inj (hg.symm.trans h);omega
 case stop=>intro _ _ h;exact h.elim
@[go_sem] theorem Qyp{m:Nat}:Fits o m #[a0,a1,a2,a3,a4,a5,a6,a7,a8,a9,a10]=(o+m≤11):=by unfold Fits;rfl
@[go_sem] theorem QvB:Qn #[a0,a1,a2,a3,a4,a5,a6,a7,a8,a9,a10] 11=True:=by unfold Qn;exact eq_true rfl
@[go_sem] theorem Qyq:QK #[a0,a1,a2,a3,a4,a5,a6,a7,a8,a9,a10]=(a0.oneCell'=true∧a1.oneCell'=true∧a2.oneCell'=true∧a3.oneCell'=true∧a4.oneCell'=true∧a5.oneCell'=true∧a6.oneCell'=true∧a7.oneCell'=true∧a8.oneCell'=true∧a9.oneCell'=true∧a10.oneCell'=true):=by
 unfold QK;simp [and_assoc]
@[go_sem ↓ high] theorem Qxb:(Value.agg #[a0,a1,a2,a3,a4,a5,a6,a7,a8,a9,a10]).cells=#[a0,a1,a2,a3,a4,a5,a6,a7,a8,a9,a10]:=QF _
@[go_sem] theorem Qyr:QB #[a0,a1,a2,a3,a4,a5,a6,a7,a8,a9,a10] 0 11=#[a0,a1,a2,a3,a4,a5,a6,a7,a8,a9,a10]:=rfl
theorem Qg6:(Tryz.prog.info? 77).map (·.size)=some 11:=Kr
theorem Qm9{b:Nat}(h:o+11≤(Qc w b).size):(Instr.loadAt 77 (.pointer (some ⟨b,o,none⟩))).run Tryz.prog w= .ok (.agg ((Qc w b).extract o (o+11))) w:=by
 have:=run_loadAt_mid w b o 77 ((Qc w b).extract o (o+11)).toList _ (QC w b o (o+11)) Tryz.underlying77 rfl (by rw [Qg6];simp;omega)
 rwa [Array.toArray_toList]at this
theorem Qj2{b:Nat}(h:o+11≤(Qc w b).size):(loadVar 77 ⟨b,o,none⟩).run Tryz.prog w= .ok (.agg ((Qc w b).extract o (o+11))) w:=by
 have:=run_loadVar_mid w b o 77 ((Qc w b).extract o (o+11)).toList _ (QC w b o (o+11)) Tryz.underlying77 rfl (by rw [Qg6];simp;omega)
 rwa [Array.toArray_toList]at this
@[go_sem ↓ high] theorem Qg7(ρ:Operand→Value)(dst:Option Tmp)(x:Operand)(ty:TypeId)(pos:String)(after:Array Edge)(g:Option (Nat×Bool))(w:World)
  (hx:ρ x= .pointer (some ⟨Qb (ρ x),Qd (ρ x),none⟩))(h:Fits (Qd (ρ x)) 11 (Qc w (Qb (ρ x)))):
  (execOp ρ ⟨dst,.load 77 x,ty,pos,after,g⟩).run Tryz.prog w= .ok (.value (.agg (QB (Qc w (Qb (ρ x))) (Qd (ρ x)) 11))) w:=by
 unfold Fits at h;generalize hB:Qb (ρ x)=B at*;generalize hO:Qd (ρ x)=O at*;simp only [execOp,hx,Sem.run_bind,Qm9 h,Result.andThen_ok,Sem.run_pure,QB]
@[go_sem ↓ high] theorem Quk{ty:TypeId}(w:World)
  (hx:ρ x= .pointer (some ⟨Qb (ρ x),Qd (ρ x),none⟩))(h:Fits (Qd (ρ x)) 11 (Qc w (Qb (ρ x)))):
  (Oper.semAt l ρ ⟨dst,.load 77 x,ty,pos,after,g⟩).run Tryz.prog w= .ok (.value (.agg (QB (Qc w (Qb (ρ x))) (Qd (ρ x)) 11))) w:=by rw [Oper.semAt_eq _ _ _ (fun c h=>by cases h)];exact Qg7 ρ dst x ty pos after g w hx h
@[go_sem ↓ high] theorem QbK(ρ:Operand→Value)(dst:Option Tmp)(x y:Operand)(ty:TypeId)(pos:String)(after:Array Edge)(g:Option (Nat×Bool))(w:World)
  (hx:ρ x= .pointer (some ⟨Qb (ρ x),Qd (ρ x),none⟩))(hy:ρ y= .agg (ρ y).cells)(hs:Qn (ρ y).cells 11)(h:Fits (Qd (ρ x)) 11 (Qc w (Qb (ρ x))))(hz:Qs w (Qb (ρ x))=(0,0))(h1:QK (ρ y).cells):
  (execOp ρ ⟨dst,.store 77 x y,ty,pos,after,g⟩).run Tryz.prog w= .ok .skip (Qe w (Qb (ρ x)) (Qd (ρ x)) (ρ y).cells):=by
 unfold Fits at h;unfold Qn at hs;generalize hB:Qb (ρ x)=B at*;generalize hO:Qd (ρ x)=O at*;generalize hC:(ρ y).cells=C at*;have hst:(Instr.storeAt 77 (.pointer (some ⟨B,O,none⟩)) (.agg C)).run Tryz.prog w= .ok () (Qe w B O C):=
  run_storeAt_mid w B O 77 C (fun j hj=>⟨by rw [Qa,Array.getElem?_eq_getElem Om];rfl,Ql hz _⟩) (by rw [Qg6,hs]) h1
 simp only [execOp,hx,hy,Sem.run_bind,hst,Result.andThen_ok,Sem.run_pure]
@[go_sem ↓ high] theorem Qsy{ty:TypeId}(w:World)
  (hx:ρ x= .pointer (some ⟨Qb (ρ x),Qd (ρ x),none⟩))(hy:ρ y= .agg (ρ y).cells)(hs:Qn (ρ y).cells 11)(h:Fits (Qd (ρ x)) 11 (Qc w (Qb (ρ x))))(hz:Qs w (Qb (ρ x))=(0,0))(h1:QK (ρ y).cells):
  (Oper.semAt l ρ ⟨dst,.store 77 x y,ty,pos,after,g⟩).run Tryz.prog w= .ok .skip (Qe w (Qb (ρ x)) (Qd (ρ x)) (ρ y).cells):=by rw [Oper.semAt_eq _ _ _ (fun c h=>by cases h)];exact QbK ρ dst x y ty pos after g w hx hy hs h hz h1
@[go_sem] theorem QzY:QB #[a0,a1,a2,a3,a4,a5,a6,a7,a8,a9,a10] 0 2=#[a0,a1]:=rfl
@[go_sem] theorem QzZ:QB #[a0,a1,a2,a3,a4,a5,a6,a7,a8,a9,a10] 2 2=#[a2,a3]:=rfl
@[go_sem] theorem Qz0:QB #[a0,a1,a2,a3,a4,a5,a6,a7,a8,a9,a10] 4 6=#[a4,a5,a6,a7,a8,a9]:=rfl
theorem QlS: ∀p∈Qx,0≤QD p∧QD p<4294967296:=by decide
theorem QlT(n:Int): ∀m:Nat,ByR (byN n m)
 |0=>ByR.nil
 |m+1=>ByR.cons Om (QlT n m)
theorem QpM(o:Opt):ByR (Ym o):=by
 intro z hz;obtain⟨x,-,hx⟩:=List.mem_flatMap.1 hz;exact QlT _ _ z hx
def wrV(fr tn:Int×Int)(o:Opt)(vp:Value):Array Value:=#[.int .u8 fr.1,.int .i64 fr.2,.int .u8 tn.1,.int .i64 tn.2,.int .u8 o.ki,.int .u8 o.bu,.int .i64 o.cu,.int .i64 o.pv,.int .i64 o.ge,.int .i64 o.ti,vp]
theorem Qb9(fr tn:Int×Int)(o:Opt)(pl:List Int)(pp:Option Addr)(N cp:Nat)(w:World)(hfr:fr∈Qx)(hto:tn∈Qx)(h0:0≤o.ki∧o.ki<256)(h1:0≤o.bu∧o.bu<256)(hok:ZO o=true)
  (hN:N≤1000)(hN0:(pp=none∧pl= [])∨ ∃b off,pp=some ⟨b,off,none⟩)(hpl:pl.length=N)(hcp:N≤cp)(sp:SlB w pp pl)(rp:ByR pl)(hpp: ∀b off,pp=some ⟨b,off,none⟩→b<w.heap.size):
  Calls Tryz.prog 96 #[.agg (wrV fr tn o (.slice pp N cp))] w fun e w'=> ∃v,e= .returned (.tuple #[v,.int .u8 0])∧Z8 w w' v (ipB (QD fr) (QD tn) (Ym o) pl):=by
 have HP:=Xh (show ∀W,Calls Tryz.prog 171 #[.agg #[.int .u8 o.ki,.int .u8 o.bu,.int .i64 o.cu,.int .i64 o.pv,.int .i64 o.ge,.int .i64 o.ti]] W fun e w'=> ∃v,e= .returned (.tuple #[v,.int .i64 0])∧Z8 W w' v (Ym o)from fun W=>Qpg o W h0 h1 hok)
 have HF:=Xh (show ∀W,Calls Tryz.prog 172 #[.agg #[.int .u8 fr.1,.int .i64 fr.2]] W fun e w'=>e= .returned (.tuple #[.int .u32 (QD fr),.bool true])∧Ext W w' from fun W=>by
  have:=Qis fr W
  rwa [show adO fr=QD fr from if_pos hfr,show isN fr=true from decide_eq_true hfr]at this)
 have HT:=Xh (show ∀W,Calls Tryz.prog 172 #[.agg #[.int .u8 tn.1,.int .i64 tn.2]] W fun e w'=>e= .returned (.tuple #[.int .u32 (QD tn),.bool true])∧Ext W w' from fun W=>by
  have:=Qis tn W
  rwa [show adO tn=QD tn from if_pos hto,show isN tn=true from decide_eq_true hto]at this)
 have HX:=Xh (And.intro hN (And.intro hN0 (And.intro hpl (And.intro hcp (And.intro sp (And.intro rp (And.intro hpp (And.intro hfr hto))))))));clear h0 h1 hok hN hN0 hpl hcp sp rp hpp hfr hto;unfold wrV
 go_enter Tryz.func96,Tryz.ntmps96
 go_wp2;refine Qp 0 rfl ?_;obtain⟨W0,hW⟩: ∃W0,w.alloc (.cells #[.int .u8 fr.1,.int .i64 fr.2,.int .u8 tn.1,.int .i64 tn.2,.int .u8 o.ki,.int .u8 o.bu,.int .i64 o.cu,.int .i64 o.pv,.int .i64 o.ge,.int .i64 o.ti,.slice pp N cp] 77)=W0:=⟨_,rfl⟩;have g0:Ext w W0:=by rw [←hW];exact Ea
 have rw0:RowZ W0 w.heap.size #[.int .u8 fr.1,.int .i64 fr.2,.int .u8 tn.1,.int .i64 tn.2,.int .u8 o.ki,.int .u8 o.bu,.int .i64 o.cu,.int .i64 o.pv,.int .i64 o.ge,.int .i64 o.ti,.slice pp N cp]:=by rw [←hW];exact RowZ.new _ _ _
 rw [hW];clear hW;obtain⟨B1,e1⟩: ∃B,w.heap.size=B:=⟨_,rfl⟩;rw [e1]at rw0⊢;have c10:=rw0.cell 10 (by show 10<11;omega)
 go_upto_region 3 with(fail)
 obtain⟨W1,hW⟩: ∃W1,Qe (W0.alloc (.cells #[.int .u8 0,.int .u16 0,.int .u16 0,.int .u8 0,.int .u8 0,.int .u32 0,.int .u32 0,.slice none 0 0,.slice none 0 0] 132)) W0.heap.size 0 #[.int .u8 0,.int .u16 0,.int .u16 0,.int .u8 64,.int .u8 4,.int .u32 0,.int .u32 0,.slice none 0 0,.slice pp N cp]=W1:=⟨_,rfl⟩;have g1:Ext W0 W1:=by rw [←hW];exact Mv.ext_of Ea (Mv.sa (C:=fun k=>k=W0.heap.size) _ rfl (Mv.refl _ _)) (fun k e=>by omega)
 have rh:RowZ W1 W0.heap.size #[.int .u8 0,.int .u16 0,.int .u16 0,.int .u8 64,.int .u8 4,.int .u32 0,.int .u32 0,.slice none 0 0,.slice pp N cp]:=by rw [←hW];exact(RowZ.new _ _ _).all _ rfl
 rw [hW];clear hW c10;obtain⟨B6,e6⟩: ∃B,W0.heap.size=B:=⟨_,rfl⟩;rw [e6]at rh⊢;have hb16:B1<B6:=by have:=rw0.l;unfold Lt at this;omega
 have r1:=rw0.ext g1;have E:=g0.tr g1;have hR1:=r1.r;have hW1:B6<W1.heap.size:=rh.l;clear rw0
 go_upto_region 4 with(go_at_call 171;(refine(HP.out _).mono ?_);rintro e w2 ⟨vo,rfl,⟨hob,g2⟩⟩)
 have E:=E.tr g2;have r1:=r1.ext g2;have rh:=rh.ext g2;have hR1:=r1.r;obtain⟨gO,co,rfl,hco,hgo,hgl,-,-⟩:=hob.at (by show 0<16;decide);have sl:=Qsx hob;have hlo:(Ym o).length=16:=rfl;rw [hlo]at hco;have hgb:B6<gO:=by omega
 rw [hlo]
 go_upto_region 5 with(go_at_call 172;(refine(HF.out _).mono ?_);rintro e w3 ⟨rfl,g3⟩;have cX:=(rh.ext g3).cell 5 (by show 5<9;omega);have fX:=(rh.ext g3).frz 5)
 obtain⟨W4,hW⟩: ∃W,World.setCell w3 ⟨B6,5,none⟩ (.int .u32 (QD fr))=W:=⟨_,rfl⟩;have mS:Mv (fun k=>k=B6) w3 W4:=by rw [←hW];exact Mv.st _ (.inl rfl) (Mv.refl _ _)
 have E:=Mv.ext_of (E.tr g3) mS (fun k e=>by omega);have r1:=(r1.ext g3).mv mS Om;have sl:=(sl.ext g3).mv mS Om;have rh:=(rh.ext g3);have rh:RowZ W4 B6 #[.int .u8 0,.int .u16 0,.int .u16 0,.int .u8 64,.int .u8 4,.int .u32 (QD fr),.int .u32 0,.slice none 0 0,.slice pp N cp]:=by rw [←hW];exact rh.set 5 _
 rw [hW];clear hW cX fX mS g3;have hR1:=r1.r
 go_upto_region 6 with(go_at_call 172;(refine(HT.out _).mono ?_);rintro e w5 ⟨rfl,g3⟩;have cX:=(rh.ext g3).cell 6 (by show 6<9;omega);have fX:=(rh.ext g3).frz 6)
 obtain⟨W6,hW⟩: ∃W,World.setCell w5 ⟨B6,6,none⟩ (.int .u32 (QD tn))=W:=⟨_,rfl⟩;have mS:Mv (fun k=>k=B6) w5 W6:=by rw [←hW];exact Mv.st _ (.inl rfl) (Mv.refl _ _)
 have E:=Mv.ext_of (E.tr g3) mS (fun k e=>by omega);have r1:=(r1.ext g3).mv mS Om;have sl:=(sl.ext g3).mv mS Om;have rh:=(rh.ext g3);have rh:RowZ W6 B6 #[.int .u8 0,.int .u16 0,.int .u16 0,.int .u8 64,.int .u8 4,.int .u32 (QD fr),.int .u32 (QD tn),.slice none 0 0,.slice pp N cp]:=by rw [←hW];exact rh.set 6 _
 rw [hW];clear hW cX fX mS g3;have hR1:=r1.r;have c7:=rh.cell 7 (by show 7<9;omega);have f7:=rh.frz 7
 go_upto_region 9 with(fail)
 obtain⟨W7,hW⟩: ∃W,World.setCell W6 ⟨B6,7,none⟩ (.slice (some ⟨gO,0,none⟩) 16 co)=W:=⟨_,rfl⟩;have mS:Mv (fun k=>k=B6) W6 W7:=by rw [←hW];exact Mv.st _ (.inl rfl) (Mv.refl _ _)
 have E:=Mv.ext_of E mS (fun k e=>by omega);have sl:=sl.mv mS Om;have rh:RowZ W7 B6 #[.int .u8 0,.int .u16 0,.int .u16 0,.int .u8 64,.int .u8 4,.int .u32 (QD fr),.int .u32 (QD tn),.slice (some ⟨gO,0,none⟩) 16 co,.slice pp N cp]:=by rw [←hW];exact rh.set 7 _
 rw [hW];clear hW c7 f7 mS hR1 r1;have hR6:=rh.r
 have HO:=Xh (show Calls Tryz.prog 173 #[.agg #[.int .u8 0,.int .u16 0,.int .u16 0,.int .u8 64,.int .u8 4,.int .u32 (QD fr),.int .u32 (QD tn),.slice (some ⟨gO,0,none⟩) 16 co,.slice pp N cp]] W7 fun e w'=> ∃v,e= .returned (.tuple #[v,.bool true])∧Z8 W7 w' v (ipB (QD fr) (QD tn) (Ym o) pl)from by
  obtain⟨hN,hN0,hpl,hcp,sp,rp,hpp,hfr,hto⟩:=HX.out;have hgl7:gO<W7.heap.size:=(sl 0 (by rw [hlo];omega)).elim fun b h=>h.elim fun off h=>by have h1:=h.1;injection h1 with h1;injection h1 with h1;rw [h1];exact h.2.1
  exact QpL (QD fr) (QD tn) (some ⟨gO,0,none⟩) pp co cp N (Ym o) pl W7 (QlS fr hfr) (QlS tn hto) hN hpl hlo sl (sp.ext E) (QpM o) rp hN0 hco hcp (fun b off e=>by injection e with e;injection e with e1 e2;rw [←e1];exact hgl7) (fun b off e=>Xl (hpp b off e) E.size))
 clear sl rh hob hco hgo hgl hlo
 go_wp2_with (go_at_call 173;(refine HO.out.mono ?_);rintro e w8 ⟨v8,rfl,⟨ho8,g8⟩⟩)
 simp only [Exit.jump];exact bodyPost_ret (results_tmp2 rfl _ _ _) rfl ⟨v8,rfl,ho8.le (by have:=E.size;omega),E.tr g8⟩
def u8L(xs:List Int):List UInt8:=xs.map fun z=>UInt8.ofNat z.toNat
theorem QlU(xs:List Int):(u8L xs).length=xs.length:=by unfold u8L;rw [List.length_map]
theorem Qcy{xs:List Int}{c:Nat}(hs:SlB w p xs)(hx:ByR xs)(h0:0<xs.length):(convert 28 9 (.slice p xs.length c)).run Tryz.prog w= .ok (.string ⟨(u8L xs).toArray⟩) w:=by
 obtain⟨b,off,rfl,-,-⟩:=hs 0 h0
 have:=run_convert_bytes_back (P:=Tryz.prog) w 28 9 5 ⟨b,off,none⟩ c (u8L xs) Tryz.underlying28 Kr Kr (fun j hj=>by
  have hj':j<xs.length:=by rw [←QlU];exact hj
  obtain⟨b',off',h,-,hc⟩:=hs j hj'
  cases h
  have e:(⟨b,off,none⟩:Addr).add j=⟨b,off+j,none⟩:=by unfold Addr.add;split<;>simp_all
  rw [e,hc];have hb:=hx _ (List.getElem_mem hj');have:(u8L xs)[j]=UInt8.ofNat xs[j].toNat:=by simp [u8L]
  rw [this]
  congr 2
  rw [UInt8.toNat_ofNat']
  omega)
 rw [QlU]at this;exact this
theorem Qiv(p q:Option Addr)(xs:List Int)(c d:Nat)(w:World)(hs:SlB w p xs)(ht:SlB w q xs)(hx:ByR xs)(h0:0<xs.length):
  Cr 97 #[.slice p xs.length c,.slice q xs.length d] w (.bool true):=by
 have k1:=Qcy (c:=c) hs hx h0;have k2:=Qcy (c:=d) ht hx h0;have HX:=Xh hs;clear hs ht hx h0
 go_enter Tryz.func97,Tryz.ntmps97
 go_wp2;go_ret;exact⟨rfl,Ext.rf _⟩
theorem Qsz{xs ys:List Int}(hx:ByR xs)(hy:ByR ys)(h:u8L xs=u8L ys):xs=ys:=by
 unfold u8L at h;have hl:xs.length=ys.length:=by have:=congrArg List.length h;simpa using this
 refine List.ext_getElem hl fun i h1 h2=> ?_;have e:(xs.map fun z=>UInt8.ofNat z.toNat)[i]'(by simpa using h1)=(ys.map fun z=>UInt8.ofNat z.toNat)[i]'(by simpa using h2):=by simp only [h]
 rw [List.getElem_map,List.getElem_map]at e;have e:=congrArg UInt8.toNat e;rw [UInt8.toNat_ofNat',UInt8.toNat_ofNat']at e;have b1:=hx _ (List.getElem_mem h1);have b2:=hy _ (List.getElem_mem h2);omega
theorem Qj3(p q:Option Addr)(xs ys:List Int)(c d:Nat)(w:World)(hs:SlB w p xs)(ht:SlB w q ys)(hx:ByR xs)(hy:ByR ys)(h0:0<xs.length)(h1:0<ys.length):
  Cr 97 #[.slice p xs.length c,.slice q ys.length d] w (.bool (decide (xs=ys))):=by
 have k1:=Qcy (c:=c) hs hx h0;have k2:=Qcy (c:=d) ht hy h1;have HI:=Xh (show u8L xs=u8L ys→xs=ys from Qsz hx hy);clear hs ht hx hy h0 h1
 go_enter Tryz.func97,Tryz.ntmps97
 go_wp2;have hd:(u8L xs==u8L ys)=decide (xs=ys):=by
  by_cases h:xs=ys
  ·subst h;simp
  ·have h2:u8L xs≠u8L ys:=fun e=>h (HI.out e);simp [h,h2]
 rw [hd];go_ret;exact⟨rfl,Ext.rf _⟩
theorem Qbt{tmps:Array Value}{g:Nat}{cs:Array Value}(hp:tmps.getD 2 undef= .pointer (some ⟨g,0,none⟩))(hr:Qc w g=cs)(hc:cs.size=11):
  (results Tryz.f40 tmps).run Tryz.prog w= .ok (.tuple #[.agg cs,tmps.getD 3 undef]) w:=
 QL rfl tmps w g hp (by
  rw [Qj2 (by rw [hr,hc];omega),hr]
  rw [show cs.extract 0 (0+11)=cs by rw [Nat.zero_add,←hc];simp])
theorem Qda(w:World)(b o:Nat)(x y:Value):Qe w b o #[x,y]=(w.setCell ⟨b,o,none⟩ x).setCell ⟨b,o+1,none⟩ y:=rfl
theorem Qg8(w:World)(b o:Nat)(a0 a1 a2 a3 a4 a5:Value):Qe w b o #[a0,a1,a2,a3,a4,a5]=(((((w.setCell ⟨b,o,none⟩ a0).setCell ⟨b,o+1,none⟩ a1).setCell ⟨b,o+2,none⟩ a2).setCell ⟨b,o+3,none⟩ a3).setCell ⟨b,o+4,none⟩ a4).setCell ⟨b,o+5,none⟩ a5:=rfl
theorem QlV{v:Value}(h:OB w base v bs): ∀g,v.ownBlock=some g→g<w.heap.size:=by
 intro g hg;rcases h.2 with⟨rfl,h1⟩|⟨g',cap,cur,rfl,-,hgb,-⟩
 ·cases hg
 ·have:g'=g:=by simpa [Value.ownBlock]using hg
  subst this;exact(Array.getElem?_eq_some_iff.1 hgb).1
theorem QlW{n c:Nat}(h:OB w base (.slice p n c) bs):(p=none∧bs= [])∨ ∃b off,p=some ⟨b,off,none⟩:=by
 rcases h.2 with⟨h1,h2⟩|⟨g,cap,cur,h1,-⟩
 ·injection h1 with e1 e2 e3
  exact .inl ⟨e1,List.length_eq_zero_iff.1 h2⟩
 ·injection h1 with e1 e2 e3
  exact .inr ⟨g,0,e1⟩
theorem Qiw(fr tn:Int×Int)(o:Opt)(pl bs:List Int)(p:Option Addr)(c:Nat)(w:World)(hs:SlB w p bs)(hr:ByR bs)(hl:bs.length≤1000)(hlc:bs.length≤c)
  (hw:Zd bs=0)(hsr:(ipH bs).sr=QD fr)(hds:(ipH bs).ds=QD tn)(hop:(ipH bs).op.length=16)(hor:ByR (ipH bs).op)(hte:takeE (ipH bs).op=0)(hto:Yh (ipH bs).op=o)(hpl:(ipH bs).pl=pl)(hpr:ByR pl)(hp1:pl.length≤1000)
  (hfr:fr∈Qx)(htn:tn∈Qx)(h0:0≤o.ki∧o.ki<256)(h1:0≤o.bu∧o.bu<256)(hok:ZO o=true)(hbs:ipB (QD fr) (QD tn) (Ym o) pl=bs):
  Calls Tryz.prog 40 #[.slice p bs.length c] w fun e w'=> ∃vp,e= .returned (.tuple #[.agg (wrV fr tn o vp),.int .u8 0])∧Ext w w'∧SlV w' w.heap.size vp pl:=by
 have HS:=Xh hs;have HX:=Xh (And.intro hr (And.intro hl (And.intro hlc (And.intro hw (And.intro hsr (And.intro hds (And.intro hop (And.intro hor (And.intro hte (And.intro hto (And.intro hpl (And.intro hpr (And.intro hp1 hbs)))))))))))));have HN:=Xh (And.intro hfr (And.intro htn (And.intro h0 (And.intro h1 hok))))
 have HPA:=Xh (show ∀W,SlB W p bs→Calls Tryz.prog 93 #[.slice p bs.length c] W fun e w'=> ∃vo vp,e= .returned (.tuple #[.agg #[.int .u8 (ipH bs).sv,.int .u16 (ipH bs).nu,.int .u16 (ipH bs).fl,.int .u8 (ipH bs).ho,.int .u8 (ipH bs).pr,.int .u32 (QD fr),.int .u32 (QD tn),vo,vp],.int .u8 0])∧Ext W w'∧OB w' W.heap.size vo (ipH bs).op∧OB w' W.heap.size vp pl from fun W s=>(Yu p bs c W s hr hl hlc).mono fun e w' h=>by
  cases h with
  |no h _=>exact absurd hw h
  |yes h e ho hp=>rw [hpl]at hp;exact⟨_,_,by rw [←hsr,←hds];rfl,e,ho,hp⟩)
 obtain⟨H,hH⟩: ∃H,ipH bs=H:=⟨_,rfl⟩;rw [hH]at HPA HX;clear hs hr hl hlc hw hsr hds hop hor hte hto hpl hpr hp1 hbs hfr htn h0 h1 hok hH
 go_enter Tryz.func40,Tryz.ntmps40
 go_wp2;refine Qp 0 rfl ?_;obtain⟨W0,hW⟩: ∃W0,w.alloc (.cells #[.int .u8 0,.int .i64 0,.int .u8 0,.int .i64 0,.int .u8 0,.int .u8 0,.int .i64 0,.int .i64 0,.int .i64 0,.int .i64 0,.slice none 0 0] 77)=W0:=⟨_,rfl⟩;have E:Ext w W0:=by rw [←hW];exact Ea
 have r2:RowZ W0 w.heap.size #[.int .u8 0,.int .i64 0,.int .u8 0,.int .i64 0,.int .u8 0,.int .u8 0,.int .i64 0,.int .i64 0,.int .i64 0,.int .i64 0,.slice none 0 0]:=by rw [←hW];exact RowZ.new _ _ _
 rw [hW];clear hW;obtain⟨B2,e2⟩: ∃B,w.heap.size=B:=⟨_,rfl⟩;rw [e2]at r2⊢;have s0:=HS.out.ext E;have HPW:=Xh (HPA.out _ s0)
 go_upto_region 5 with(go_at_call 93;(refine HPW.out.mono ?_);rintro e w2 ⟨vo,vp,rfl,g2,ho,hp⟩;obtain⟨po,co,rfl,hco,so⟩:=ho.slb;obtain⟨pp,cp,rfl,hcp,sp⟩:=hp.slb)
 have hz:W0.heap.size≤w2.heap.size:=g2.size;obtain⟨W3,hW⟩: ∃W3,Qe (w2.alloc (.cells #[.int .u8 0,.int .u16 0,.int .u16 0,.int .u8 0,.int .u8 0,.int .u32 0,.int .u32 0,.slice none 0 0,.slice none 0 0] 132)) w2.heap.size 0 #[.int .u8 H.sv,.int .u16 H.nu,.int .u16 H.fl,.int .u8 H.ho,.int .u8 H.pr,.int .u32 (QD fr),.int .u32 (QD tn),.slice po H.op.length co,.slice pp pl.length cp]=W3:=⟨_,rfl⟩;have g3:Ext w2 W3:=by rw [←hW];exact Mv.ext_of Ea (Mv.sa (C:=fun k=>k=w2.heap.size) _ rfl (Mv.refl _ _)) (fun k e=>by omega)
 have r8:RowZ W3 w2.heap.size #[.int .u8 H.sv,.int .u16 H.nu,.int .u16 H.fl,.int .u8 H.ho,.int .u8 H.pr,.int .u32 (QD fr),.int .u32 (QD tn),.slice po H.op.length co,.slice pp pl.length cp]:=by rw [←hW];exact(RowZ.new _ _ _).all _ rfl
 rw [hW];clear hW;obtain⟨B8,e8⟩: ∃B,w2.heap.size=B:=⟨_,rfl⟩;rw [e8]at r8⊢;have hb28:B2<B8:=by have:=r2.l;unfold Lt at this;omega
 have hmo: ∀b off,po=some ⟨b,off,none⟩→W0.heap.size≤b:=fun b off e=>by subst e;exact Qi ho b rfl
 have hmp: ∀b off,pp=some ⟨b,off,none⟩→W0.heap.size≤b∧b<B8:=fun b off e=>by
  subst e;refine⟨Qi hp b rfl,?_⟩;have:=QlV hp b rfl;omega
 have hpn:=QlW hp;have hB2:B2<W0.heap.size:=r2.l;have E:=(E.tr g2).tr g3;have r2:=(r2.ext g2).ext g3;have so:=so.ext g3;have sp:=sp.ext g3
 have HTK:=Xh (show Calls Tryz.prog 94 #[.slice po H.op.length co] W3 fun e w'=>e= .returned (.tuple #[.agg #[.int .u8 o.ki,.int .u8 o.bu,.int .i64 o.cu,.int .i64 o.pv,.int .i64 o.ge,.int .i64 o.ti],.int .i64 0])∧Ext W3 w' from by
  obtain⟨hr,hl,hlc,hw,hsr,hds,hop,hor,hte,hto,hpl,hpr,hp1,hbs⟩:=HX.out
  have:=Qbr po H.op co W3 so hor Om hco (fun b off e=>by
   subst e;obtain⟨b',off',h,hb,-⟩:=so 0 Om
   cases h
   exact hb)
  rw [hte,hto,Qcu]at this
  exact this)
 have HNA:=Xh (fun(q:Int×Int) (hq:q∈Qx)=>(show ∀W,Calls Tryz.prog 95 #[.int .u32 (QD q)] W fun e w'=>e= .returned (.tuple #[.agg #[.int .u8 q.1,.int .i64 q.2],.bool true])∧Ext W w' from fun W=>by
  have:=J6 (QD q) W;rw [Qb7 hq rfl]at this
  exact this))
 have HNF:=Xh (HNA.out fr HN.out.1);have HNT:=Xh (HNA.out tn HN.out.2.1);have c7:=r8.cell 7 (by show 7<9;omega);clear HNA ho hp HPW s0 g2 g3 so hmo
 go_upto_region 7 with(go_at_call 94;(refine HTK.out.mono ?_);rintro e w4 ⟨rfl,g4⟩;have hR2:=(r2.ext g4).r;have hZ2:=(r2.ext g4).z)
 obtain⟨W5,hW⟩: ∃W,Qe w4 B2 4 #[.int .u8 o.ki,.int .u8 o.bu,.int .i64 o.cu,.int .i64 o.pv,.int .i64 o.ge,.int .i64 o.ti]=W:=⟨_,rfl⟩;have mS:Mv (fun k=>k=B2) w4 W5:=by rw [←hW];exact Mv.sa _ rfl (Mv.refl _ _)
 have E:=Mv.ext_of (E.tr g4) mS (fun k e=>by omega);have r8:=(r8.ext g4).mv mS Om;have sp:=(sp.ext g4).mvn mS (fun b off e=>by have:=hmp b off e;omega);have r2:=r2.ext g4;have r2:RowZ W5 B2 #[.int .u8 0,.int .i64 0,.int .u8 0,.int .i64 0,.int .u8 o.ki,.int .u8 o.bu,.int .i64 o.cu,.int .i64 o.pv,.int .i64 o.ge,.int .i64 o.ti,.slice none 0 0]:=by rw [←hW,Qg8];exact((((((r2.set 4 _).set 5 _).set 6 _).set 7 _).set 8 _).set 9 _)
 rw [hW];clear hW mS g4 hR2 hZ2 c7 HTK;have cX:=r8.cell 5 (by show 5<9;omega)
 go_upto_region 9 with(go_at_call 95;(refine(HNF.out _).mono ?_);rintro e w6 ⟨rfl,g4⟩;have hR2:=(r2.ext g4).r;have hZ2:=(r2.ext g4).z)
 obtain⟨W7,hW⟩: ∃W,Qe w6 B2 0 #[.int .u8 fr.1,.int .i64 fr.2]=W:=⟨_,rfl⟩;have mS:Mv (fun k=>k=B2) w6 W7:=by rw [←hW];exact Mv.sa _ rfl (Mv.refl _ _)
 have E:=Mv.ext_of (E.tr g4) mS (fun k e=>by omega);have r8:=(r8.ext g4).mv mS Om;have sp:=(sp.ext g4).mvn mS (fun b off e=>by have:=hmp b off e;omega);have r2:=r2.ext g4;have r2:RowZ W7 B2 #[.int .u8 fr.1,.int .i64 fr.2,.int .u8 0,.int .i64 0,.int .u8 o.ki,.int .u8 o.bu,.int .i64 o.cu,.int .i64 o.pv,.int .i64 o.ge,.int .i64 o.ti,.slice none 0 0]:=by rw [←hW,Qda];exact((r2.set 0 _).set 1 _)
 rw [hW];clear hW mS g4 hR2 hZ2 cX;have cX:=r8.cell 6 (by show 6<9;omega)
 go_upto_region 10 with(go_at_call 95;(refine(HNT.out _).mono ?_);rintro e w8 ⟨rfl,g4⟩;have hR2:=(r2.ext g4).r;have hZ2:=(r2.ext g4).z)
 obtain⟨W9,hW⟩: ∃W,Qe w8 B2 2 #[.int .u8 tn.1,.int .i64 tn.2]=W:=⟨_,rfl⟩;have mS:Mv (fun k=>k=B2) w8 W9:=by rw [←hW];exact Mv.sa _ rfl (Mv.refl _ _)
 have E:=Mv.ext_of (E.tr g4) mS (fun k e=>by omega);have r8:=(r8.ext g4).mv mS Om;have sp:=(sp.ext g4).mvn mS (fun b off e=>by have:=hmp b off e;omega);have r2:=r2.ext g4;have r2:RowZ W9 B2 #[.int .u8 fr.1,.int .i64 fr.2,.int .u8 tn.1,.int .i64 tn.2,.int .u8 o.ki,.int .u8 o.bu,.int .i64 o.cu,.int .i64 o.pv,.int .i64 o.ge,.int .i64 o.ti,.slice none 0 0]:=by rw [←hW,Qda];exact((r2.set 2 _).set 3 _)
 rw [hW];clear hW mS g4 hR2 hZ2 cX;have c8:=r8.cell 8 (by show 8<9;omega);have c10:=r2.cell 10 (by show 10<11;omega);have f10:=r2.frz 10
 go_upto_region 12 with(fail)
 obtain⟨WA,hW⟩: ∃W,World.setCell W9 ⟨B2,10,none⟩ (.slice pp pl.length cp)=W:=⟨_,rfl⟩;have mS:Mv (fun k=>k=B2) W9 WA:=by rw [←hW];exact Mv.st _ (.inl rfl) (Mv.refl _ _)
 have E:=Mv.ext_of E mS (fun k e=>by omega);have sp:=sp.mvn mS (fun b off e=>by have:=hmp b off e;omega);have r2:RowZ WA B2 #[.int .u8 fr.1,.int .i64 fr.2,.int .u8 tn.1,.int .i64 tn.2,.int .u8 o.ki,.int .u8 o.bu,.int .i64 o.cu,.int .i64 o.pv,.int .i64 o.ge,.int .i64 o.ti,.slice pp pl.length cp]:=by rw [←hW];exact r2.set 10 _
 have hl8:B8<WA.heap.size:=Xl r8.l mS.size;rw [hW];clear hW mS c8 c10 f10 r8;have hR2:=r2.r
 have HEP:=Xh (show Calls Tryz.prog 96 #[.agg #[.int .u8 fr.1,.int .i64 fr.2,.int .u8 tn.1,.int .i64 tn.2,.int .u8 o.ki,.int .u8 o.bu,.int .i64 o.cu,.int .i64 o.pv,.int .i64 o.ge,.int .i64 o.ti,.slice pp pl.length cp]] WA fun e w'=> ∃v,e= .returned (.tuple #[v,.int .u8 0])∧Z8 WA w' v bs from by
  obtain⟨hr,hl,hlc,hw,hsr,hds,hop,hor,hte,hto,hpl,hpr,hp1,hbs⟩:=HX.out;obtain⟨hfr,htn,h0,h1,hok⟩:=HN.out;have:=Qb9 fr tn o pl pp pl.length cp WA hfr htn h0 h1 hok hp1 hpn rfl hcp sp hpr (fun b off e=>by have:=hmp b off e;omega);rw [hbs]at this
  exact this)
 have hbp:0<bs.length:=by
  have hw:=HX.out.2.2.2.1;unfold Zd at hw
  split at hw
  ·cases hw
  ·omega
 go_upto_region 13 with(go_at_call 96;(refine HEP.out.mono ?_);rintro e wB ⟨v8,rfl,⟨ho8,g8⟩⟩)
 obtain⟨p8,q8,rfl,-,s8⟩:=ho8.slb;have E:=E.tr g8;have r2:=r2.ext g8;have sp:=sp.ext g8;have HEQ:=Xh (Qiv p8 p bs q8 c wB s8 (HS.out.ext E) HX.out.1 hbp);have HEE:=Xh (And.intro E (And.intro r2 sp));have hwz:w.heap.size≤W0.heap.size:=by omega
 clear E r2 sp s8 ho8 HEP hR2
 go_wp2_with (go_at_call 97;(refine HEQ.out.mono ?_);rintro e wC ⟨rfl,gC⟩;have hRC:=(HEE.out.2.1.ext gC).r;have hZC:=(HEE.out.2.1.ext gC).z;have hLC:=(HEE.out.2.1.ext gC).l)
 simp only [Exit.jump];obtain⟨E,r2,sp⟩:=HEE.out;have mS:Mv (fun k=>k=B2) wC (Qe wC B2 0 #[.int .u8 fr.1,.int .i64 fr.2,.int .u8 tn.1,.int .i64 tn.2,.int .u8 o.ki,.int .u8 o.bu,.int .i64 o.cu,.int .i64 o.pv,.int .i64 o.ge,.int .i64 o.ti,.slice pp pl.length cp]):=Mv.sa _ rfl (Mv.refl _ _);exact bodyPost_ret (Qbt rfl (((r2.ext gC).all _ rfl).r) rfl) rfl ⟨.slice pp pl.length cp,rfl,Mv.ext_of (E.tr gC) mS (fun k e=>by omega),pp,cp,rfl,hcp,(sp.ext gC).mvn mS (fun b off e=>by have:=hmp b off e;omega),fun b off e=>by have:=hmp b off e;have:=g8.size;have:=gC.size;have:=mS.size;omega⟩
theorem Qj4(bs:List Int)(p:Option Addr)(c:Nat)(w:World)(hs:SlB w p bs)(hr:ByR bs)(hl:bs.length≤1000)(hlc:bs.length≤c)(hw:Zd bs≠0):
  Cr 40 #[.slice p bs.length c] w (.tuple #[.agg #[.int .u8 0,.int .i64 0,.int .u8 0,.int .i64 0,.int .u8 0,.int .u8 0,.int .i64 0,.int .i64 0,.int .i64 0,.int .i64 0,.slice none 0 0],.int .u8 13]):=by
 have HS:=Xh hs
 have HPA:=Xh (show ∀W,SlB W p bs→Calls Tryz.prog 93 #[.slice p bs.length c] W fun e w'=>e= .returned (.tuple #[.agg #[.int .u8 0,.int .u16 0,.int .u16 0,.int .u8 0,.int .u8 0,.int .u32 0,.int .u32 0,.slice none 0 0,.slice none 0 0],.int .u8 (Zd bs)])∧Ext W w' from fun W s=>(Yu p bs c W s hr hl hlc).mono fun e w' h=>by
  cases h with
  |no h e=>exact⟨rfl,e⟩
  |yes h e ho hp=>exact absurd h hw)
 obtain⟨y,hy⟩: ∃y,Zd bs=y:=⟨_,rfl⟩;rw [hy]at HPA hw;have hb:(y !=0)=true:=by simp [hw]
 clear hs hr hl hlc hw hy
 go_enter Tryz.func40,Tryz.ntmps40
 go_wp2;refine Qp 0 rfl ?_;obtain⟨W0,hW⟩: ∃W0,w.alloc (.cells #[.int .u8 0,.int .i64 0,.int .u8 0,.int .i64 0,.int .u8 0,.int .u8 0,.int .i64 0,.int .i64 0,.int .i64 0,.int .i64 0,.slice none 0 0] 77)=W0:=⟨_,rfl⟩;have E:Ext w W0:=by rw [←hW];exact Ea
 have r2:RowZ W0 w.heap.size #[.int .u8 0,.int .i64 0,.int .u8 0,.int .i64 0,.int .u8 0,.int .u8 0,.int .i64 0,.int .i64 0,.int .i64 0,.int .i64 0,.slice none 0 0]:=by rw [←hW];exact RowZ.new _ _ _
 rw [hW];clear hW;have HPW:=Xh (HPA.out _ (HS.out.ext E))
 go_upto_region 5 with(go_at_call 93;(refine HPW.out.mono ?_);rintro e w2 ⟨rfl,g2⟩)
 obtain⟨W3,hW⟩: ∃W3,Qe (w2.alloc (.cells #[.int .u8 0,.int .u16 0,.int .u16 0,.int .u8 0,.int .u8 0,.int .u32 0,.int .u32 0,.slice none 0 0,.slice none 0 0] 132)) w2.heap.size 0 #[.int .u8 0,.int .u16 0,.int .u16 0,.int .u8 0,.int .u8 0,.int .u32 0,.int .u32 0,.slice none 0 0,.slice none 0 0]=W3:=⟨_,rfl⟩;have g3:Ext w2 W3:=by rw [←hW];exact Mv.ext_of Ea (Mv.sa (C:=fun k=>k=w2.heap.size) _ rfl (Mv.refl _ _)) (fun k e=>by omega)
 rw [hW];clear hW;have E:=(E.tr g2).tr g3;have r2:=(r2.ext g2).ext g3;have hR2:=r2.r;have hZ2:=r2.z;have HE:=Xh (And.intro E r2);clear E r2 g2 g3;go_wp2;go_step3;refine⟨rfl,?_⟩;go_wp2;rw [Exit.noGoto_ret];obtain⟨E,r2⟩:=HE.out;exact bodyPost_ret (Qbt rfl ((r2.all #[.int .u8 0,.int .i64 0,.int .u8 0,.int .i64 0,.int .u8 0,.int .u8 0,.int .i64 0,.int .i64 0,.int .i64 0,.int .i64 0,.slice none 0 0] rfl).r) rfl) rfl ⟨rfl,Mv.ext_of E (Mv.sa (C:=fun k=>k=w.heap.size) _ rfl (Mv.refl _ _)) (fun k e=>by omega)⟩
theorem Yo(hr:ByR bs):ByR (ipH bs).op∧ByR (ipH bs).pl:=⟨fun z hz=>hr z (List.mem_of_mem_take (List.mem_of_mem_drop hz)),fun z hz=>hr z (List.mem_of_mem_drop hz)⟩
theorem Qcz:(ipH bs).op.length≤bs.length∧(ipH bs).pl.length≤bs.length:=by
 constructor
 ·show((bs.take (ipN bs)).drop 20).length≤_;rw [List.length_drop,List.length_take];omega
 ·show(bs.drop (ipN bs)).length≤_;rw [List.length_drop];omega
theorem Qna(h:takeE bs≠0):Yh bs=QV:=by
 unfold Yh;refine if_neg fun e=>h ?_;unfold takeE;rw [if_neg Om,if_neg Om,if_pos e.2]
theorem Qix(bs:List Int)(p:Option Addr)(c:Nat)(w:World)(hs:SlB w p bs)(hr:ByR bs)(hl:bs.length≤1000)(hlc:bs.length≤c)(hw:Zd bs=0)(ht:takeE (ipH bs).op≠0):
  Cr 40 #[.slice p bs.length c] w (.tuple #[.agg #[.int .u8 0,.int .i64 0,.int .u8 0,.int .i64 0,.int .u8 0,.int .u8 0,.int .i64 0,.int .i64 0,.int .i64 0,.int .i64 0,.slice none 0 0],.int .u8 13]):=by
 have HS:=Xh hs
 have HPA:=Xh (show ∀W,SlB W p bs→Calls Tryz.prog 93 #[.slice p bs.length c] W fun e w'=> ∃vo vp,e= .returned (.tuple #[.agg #[.int .u8 (ipH bs).sv,.int .u16 (ipH bs).nu,.int .u16 (ipH bs).fl,.int .u8 (ipH bs).ho,.int .u8 (ipH bs).pr,.int .u32 (ipH bs).sr,.int .u32 (ipH bs).ds,vo,vp],.int .u8 0])∧Ext W w'∧OB w' W.heap.size vo (ipH bs).op∧OB w' W.heap.size vp (ipH bs).pl from fun W s=>(Yu p bs c W s hr hl hlc).mono fun e w' h=>by
  cases h with
  |no h _=>exact absurd hw h
  |yes h e ho hp=>exact⟨_,_,rfl,e,ho,hp⟩)
 have HO:=Xh (fun po co W (s:SlB W po (ipH bs).op) (hco:(ipH bs).op.length≤co) (hbw: ∀b off,po=some ⟨b,off,none⟩→b<W.heap.size)=>by
  have:=Qbr po (ipH bs).op co W s (Yo hr).1 (Xt Qcz.1 hl) hco hbw;rw [Qna ht,Qcu]at this
  exact this)
 obtain⟨H,hH⟩: ∃H,ipH bs=H:=⟨_,rfl⟩;rw [hH]at HPA HO ht;obtain⟨y,hy⟩: ∃y,takeE H.op=y:=⟨_,rfl⟩;rw [hy]at HO ht;have hb:(y !=0)=true:=by simp [ht]
 clear hs hr hl hlc hw hy ht hH
 go_enter Tryz.func40,Tryz.ntmps40
 go_wp2;refine Qp 0 rfl ?_;obtain⟨W0,hW⟩: ∃W0,w.alloc (.cells #[.int .u8 0,.int .i64 0,.int .u8 0,.int .i64 0,.int .u8 0,.int .u8 0,.int .i64 0,.int .i64 0,.int .i64 0,.int .i64 0,.slice none 0 0] 77)=W0:=⟨_,rfl⟩;have E:Ext w W0:=by rw [←hW];exact Ea
 have r2:RowZ W0 w.heap.size #[.int .u8 0,.int .i64 0,.int .u8 0,.int .i64 0,.int .u8 0,.int .u8 0,.int .i64 0,.int .i64 0,.int .i64 0,.int .i64 0,.slice none 0 0]:=by rw [←hW];exact RowZ.new _ _ _
 rw [hW];clear hW;have HPW:=Xh (HPA.out _ (HS.out.ext E))
 go_upto_region 5 with(go_at_call 93;(refine HPW.out.mono ?_);rintro e w2 ⟨vo,vp,rfl,g2,ho,hp⟩;obtain⟨po,co,rfl,hco,so⟩:=ho.slb;obtain⟨pp,cp,rfl,hcp,sp⟩:=hp.slb)
 obtain⟨W3,hW⟩: ∃W3,Qe (w2.alloc (.cells #[.int .u8 0,.int .u16 0,.int .u16 0,.int .u8 0,.int .u8 0,.int .u32 0,.int .u32 0,.slice none 0 0,.slice none 0 0] 132)) w2.heap.size 0 #[.int .u8 H.sv,.int .u16 H.nu,.int .u16 H.fl,.int .u8 H.ho,.int .u8 H.pr,.int .u32 H.sr,.int .u32 H.ds,.slice po H.op.length co,.slice pp H.pl.length cp]=W3:=⟨_,rfl⟩;have g3:Ext w2 W3:=by rw [←hW];exact Mv.ext_of Ea (Mv.sa (C:=fun k=>k=w2.heap.size) _ rfl (Mv.refl _ _)) (fun k e=>by omega)
 have r8:RowZ W3 w2.heap.size #[.int .u8 H.sv,.int .u16 H.nu,.int .u16 H.fl,.int .u8 H.ho,.int .u8 H.pr,.int .u32 H.sr,.int .u32 H.ds,.slice po H.op.length co,.slice pp H.pl.length cp]:=by rw [←hW];exact(RowZ.new _ _ _).all _ rfl
 rw [hW];clear hW;have E:=(E.tr g2).tr g3;have r2:=(r2.ext g2).ext g3;have HTK:=Xh (HO.out po co W3 (so.ext g3) hco (fun b off e=>by subst e;exact Xl (QlV ho b rfl) g3.size));have c7:=r8.cell 7 (by show 7<9;omega);clear HPW g2 g3 ho hp so sp r8 HO HPA
 go_upto_region 7 with(go_at_call 94;(refine HTK.out.mono ?_);rintro e w4 ⟨rfl,g4⟩;have hR2:=(r2.ext g4).r;have hZ2:=(r2.ext g4).z)
 obtain⟨W5,hW⟩: ∃W,Qe w4 w.heap.size 4 #[.int .u8 QV.ki,.int .u8 QV.bu,.int .i64 QV.cu,.int .i64 QV.pv,.int .i64 QV.ge,.int .i64 QV.ti]=W:=⟨_,rfl⟩;have mS:Mv (fun k=>k=w.heap.size) w4 W5:=by rw [←hW];exact Mv.sa _ rfl (Mv.refl _ _)
 have E:=Mv.ext_of (E.tr g4) mS (fun k e=>by omega);have r2:=r2.ext g4;have r2:RowZ W5 w.heap.size #[.int .u8 0,.int .i64 0,.int .u8 0,.int .i64 0,.int .u8 0,.int .u8 0,.int .i64 0,.int .i64 0,.int .i64 0,.int .i64 0,.slice none 0 0]:=by rw [←hW,Qg8];exact((((((r2.set 4 _).set 5 _).set 6 _).set 7 _).set 8 _).set 9 _)
 rw [hW];clear hW mS g4 hR2 hZ2 c7 HTK;have hR2:=r2.r;have hZ2:=r2.z;have HE:=Xh (And.intro E r2);clear E r2;go_wp2;go_step3;refine⟨rfl,?_⟩;go_wp2;rw [Exit.noGoto_ret];obtain⟨E,r2⟩:=HE.out;exact bodyPost_ret (Qbt rfl ((r2.all #[.int .u8 0,.int .i64 0,.int .u8 0,.int .i64 0,.int .u8 0,.int .u8 0,.int .i64 0,.int .i64 0,.int .i64 0,.int .i64 0,.slice none 0 0] rfl).r) rfl) rfl ⟨rfl,Mv.ext_of E (Mv.sa (C:=fun k=>k=w.heap.size) _ rfl (Mv.refl _ _)) (fun k e=>by omega)⟩
theorem Qg9(bs:List Int)(p:Option Addr)(c:Nat)(w:World)(hs:SlB w p bs)(hr:ByR bs)(hl:bs.length≤1000)(hlc:bs.length≤c)(hw:Zd bs=0)(ht:takeE (ipH bs).op=0)(hn: ¬((Yi (ipH bs).sr).isSome=true∧(Yi (ipH bs).ds).isSome=true)):
  Cr 40 #[.slice p bs.length c] w (.tuple #[.agg #[.int .u8 0,.int .i64 0,.int .u8 0,.int .i64 0,.int .u8 0,.int .u8 0,.int .i64 0,.int .i64 0,.int .i64 0,.int .i64 0,.slice none 0 0],.int .u8 13]):=by
 have HS:=Xh hs
 have HPA:=Xh (show ∀W,SlB W p bs→Calls Tryz.prog 93 #[.slice p bs.length c] W fun e w'=> ∃vo vp,e= .returned (.tuple #[.agg #[.int .u8 (ipH bs).sv,.int .u16 (ipH bs).nu,.int .u16 (ipH bs).fl,.int .u8 (ipH bs).ho,.int .u8 (ipH bs).pr,.int .u32 (ipH bs).sr,.int .u32 (ipH bs).ds,vo,vp],.int .u8 0])∧Ext W w'∧OB w' W.heap.size vo (ipH bs).op∧OB w' W.heap.size vp (ipH bs).pl from fun W s=>(Yu p bs c W s hr hl hlc).mono fun e w' h=>by
  cases h with
  |no h _=>exact absurd hw h
  |yes h e ho hp=>exact⟨_,_,rfl,e,ho,hp⟩)
 have HO:=Xh (fun po co W (s:SlB W po (ipH bs).op) (hco:(ipH bs).op.length≤co) (hbw: ∀b off,po=some ⟨b,off,none⟩→b<W.heap.size)=>by
  have:=Qbr po (ipH bs).op co W s (Yo hr).1 (Xt Qcz.1 hl) hco hbw;rw [ht,Qcu]at this
  exact this)
 obtain⟨H,hH⟩: ∃H,ipH bs=H:=⟨_,rfl⟩;rw [hH]at HPA HO hn;obtain⟨o,ho'⟩: ∃o,Yh H.op=o:=⟨_,rfl⟩;rw [ho']at HO;obtain⟨fr,hq1⟩: ∃q,(Yi H.sr).getD (0,0)=q:=⟨_,rfl⟩;obtain⟨tn,hq2⟩: ∃q,(Yi H.ds).getD (0,0)=q:=⟨_,rfl⟩;have HNF:=Xh (fun W=>J6 H.sr W);have HNT:=Xh (fun W=>J6 H.ds W);rw [hq1]at HNF;rw [hq2]at HNT;obtain⟨k1,hk1⟩: ∃k,(Yi H.sr).isSome=k:=⟨_,rfl⟩;obtain⟨k2,hk2⟩: ∃k,(Yi H.ds).isSome=k:=⟨_,rfl⟩;rw [hk1]at HNF hn;rw [hk2]at HNT hn;have HK:=Xh hn;unfold noC at HNF HNT;clear hs hr hl hlc hw ht hH ho' hq1 hq2 hk1 hk2 hn
 go_enter Tryz.func40,Tryz.ntmps40
 go_wp2;refine Qp 0 rfl ?_;obtain⟨W0,hW⟩: ∃W0,w.alloc (.cells #[.int .u8 0,.int .i64 0,.int .u8 0,.int .i64 0,.int .u8 0,.int .u8 0,.int .i64 0,.int .i64 0,.int .i64 0,.int .i64 0,.slice none 0 0] 77)=W0:=⟨_,rfl⟩;have E:Ext w W0:=by rw [←hW];exact Ea
 have r2:RowZ W0 w.heap.size #[.int .u8 0,.int .i64 0,.int .u8 0,.int .i64 0,.int .u8 0,.int .u8 0,.int .i64 0,.int .i64 0,.int .i64 0,.int .i64 0,.slice none 0 0]:=by rw [←hW];exact RowZ.new _ _ _
 rw [hW];clear hW;have HPW:=Xh (HPA.out _ (HS.out.ext E))
 go_upto_region 5 with(go_at_call 93;(refine HPW.out.mono ?_);rintro e w2 ⟨vo,vp,rfl,g2,ho,hp⟩;obtain⟨po,co,rfl,hco,so⟩:=ho.slb;obtain⟨pp,cp,rfl,hcp,sp⟩:=hp.slb)
 obtain⟨W3,hW⟩: ∃W3,Qe (w2.alloc (.cells #[.int .u8 0,.int .u16 0,.int .u16 0,.int .u8 0,.int .u8 0,.int .u32 0,.int .u32 0,.slice none 0 0,.slice none 0 0] 132)) w2.heap.size 0 #[.int .u8 H.sv,.int .u16 H.nu,.int .u16 H.fl,.int .u8 H.ho,.int .u8 H.pr,.int .u32 H.sr,.int .u32 H.ds,.slice po H.op.length co,.slice pp H.pl.length cp]=W3:=⟨_,rfl⟩;have g3:Ext w2 W3:=by rw [←hW];exact Mv.ext_of Ea (Mv.sa (C:=fun k=>k=w2.heap.size) _ rfl (Mv.refl _ _)) (fun k e=>by omega)
 have r8:RowZ W3 w2.heap.size #[.int .u8 H.sv,.int .u16 H.nu,.int .u16 H.fl,.int .u8 H.ho,.int .u8 H.pr,.int .u32 H.sr,.int .u32 H.ds,.slice po H.op.length co,.slice pp H.pl.length cp]:=by rw [←hW];exact(RowZ.new _ _ _).all _ rfl
 rw [hW];clear hW;have hl0:=r2.l;have hz02:=g2.size;have E:=(E.tr g2).tr g3;have r2:=(r2.ext g2).ext g3;have HTK:=Xh (HO.out po co W3 (so.ext g3) hco (fun b off e=>by subst e;exact Xl (QlV ho b rfl) g3.size));have c7:=r8.cell 7 (by show 7<9;omega);have hlt8:w.heap.size<w2.heap.size:=Xl (show w.heap.size<W0.heap.size from hl0) hz02;clear HPW g2 g3 ho hp so sp HO HPA
 go_upto_region 7 with(go_at_call 94;(refine HTK.out.mono ?_);rintro e w4 ⟨rfl,g4⟩;have hR2:=(r2.ext g4).r;have hZ2:=(r2.ext g4).z)
 obtain⟨W5,hW⟩: ∃W,Qe w4 w.heap.size 4 #[.int .u8 o.ki,.int .u8 o.bu,.int .i64 o.cu,.int .i64 o.pv,.int .i64 o.ge,.int .i64 o.ti]=W:=⟨_,rfl⟩;have mS:Mv (fun k=>k=w.heap.size) w4 W5:=by rw [←hW];exact Mv.sa _ rfl (Mv.refl _ _)
 have E:=Mv.ext_of (E.tr g4) mS (fun k e=>by omega);have r8:=(r8.ext g4).mv mS Om;have r2:=r2.ext g4;have r2:RowZ W5 w.heap.size #[.int .u8 0,.int .i64 0,.int .u8 0,.int .i64 0,.int .u8 o.ki,.int .u8 o.bu,.int .i64 o.cu,.int .i64 o.pv,.int .i64 o.ge,.int .i64 o.ti,.slice none 0 0]:=by rw [←hW,Qg8];exact((((((r2.set 4 _).set 5 _).set 6 _).set 7 _).set 8 _).set 9 _)
 rw [hW];clear hW mS g4 hR2 hZ2 c7 HTK;have cX:=r8.cell 5 (by show 5<9;omega)
 go_upto_region 9 with(go_at_call 95;(refine(HNF.out _).mono ?_);rintro e w6 ⟨rfl,g4⟩;have hR2:=(r2.ext g4).r;have hZ2:=(r2.ext g4).z)
 obtain⟨W7,hW⟩: ∃W,Qe w6 w.heap.size 0 #[.int .u8 fr.1,.int .i64 fr.2]=W:=⟨_,rfl⟩;have mS:Mv (fun k=>k=w.heap.size) w6 W7:=by rw [←hW];exact Mv.sa _ rfl (Mv.refl _ _)
 have E:=Mv.ext_of (E.tr g4) mS (fun k e=>by omega);have r8:=(r8.ext g4).mv mS Om;have r2:=r2.ext g4;have r2:RowZ W7 w.heap.size #[.int .u8 fr.1,.int .i64 fr.2,.int .u8 0,.int .i64 0,.int .u8 o.ki,.int .u8 o.bu,.int .i64 o.cu,.int .i64 o.pv,.int .i64 o.ge,.int .i64 o.ti,.slice none 0 0]:=by rw [←hW,Qda];exact((r2.set 0 _).set 1 _)
 rw [hW];clear hW mS g4 hR2 hZ2 cX;have cX:=r8.cell 6 (by show 6<9;omega)
 go_upto_region 10 with(go_at_call 95;(refine(HNT.out _).mono ?_);rintro e w8 ⟨rfl,g4⟩;have hR2:=(r2.ext g4).r;have hZ2:=(r2.ext g4).z)
 obtain⟨W9,hW⟩: ∃W,Qe w8 w.heap.size 2 #[.int .u8 tn.1,.int .i64 tn.2]=W:=⟨_,rfl⟩;have mS:Mv (fun k=>k=w.heap.size) w8 W9:=by rw [←hW];exact Mv.sa _ rfl (Mv.refl _ _)
 have E:=Mv.ext_of (E.tr g4) mS (fun k e=>by omega);have r8:=(r8.ext g4).mv mS Om;have r2:=r2.ext g4;have r2:RowZ W9 w.heap.size #[.int .u8 fr.1,.int .i64 fr.2,.int .u8 tn.1,.int .i64 tn.2,.int .u8 o.ki,.int .u8 o.bu,.int .i64 o.cu,.int .i64 o.pv,.int .i64 o.ge,.int .i64 o.ti,.slice none 0 0]:=by rw [←hW,Qda];exact((r2.set 2 _).set 3 _)
 rw [hW];clear hW mS g4 hR2 hZ2 cX;have hR2:=r2.r;have hZ2:=r2.z;have HE:=Xh (And.intro E r2);clear E r2 r8;have fin:k1=false∨(k1=true∧k2=false):=by have:=HK.out;cases k1<;>cases k2<;>simp_all
 rcases fin with rfl|⟨rfl,rfl⟩
 ·go_wp2;go_step3;refine⟨rfl,?_⟩;go_wp2;rw [Exit.noGoto_ret];obtain⟨E,r2⟩:=HE.out;exact bodyPost_ret (Qbt rfl ((r2.all #[.int .u8 0,.int .i64 0,.int .u8 0,.int .i64 0,.int .u8 0,.int .u8 0,.int .i64 0,.int .i64 0,.int .i64 0,.int .i64 0,.slice none 0 0] rfl).r) rfl) rfl ⟨rfl,Mv.ext_of E (Mv.sa (C:=fun k=>k=w.heap.size) _ rfl (Mv.refl _ _)) (fun k e=>by omega)⟩
 ·go_wp2;go_step3;refine⟨rfl,?_⟩;go_wp2;rw [Exit.noGoto_ret];obtain⟨E,r2⟩:=HE.out;exact bodyPost_ret (Qbt rfl ((r2.all #[.int .u8 0,.int .i64 0,.int .u8 0,.int .i64 0,.int .u8 0,.int .u8 0,.int .i64 0,.int .i64 0,.int .i64 0,.int .i64 0,.slice none 0 0] rfl).r) rfl) rfl ⟨rfl,Mv.ext_of E (Mv.sa (C:=fun k=>k=w.heap.size) _ rfl (Mv.refl _ _)) (fun k e=>by omega)⟩
theorem Qys{sr ds:Int}{op pl:List Int}(h1:ByR op)(h2:ByR pl):ByR (ipB sr ds op pl):=by
 have hA:ByR (ipA sr ds pl.length op):=fun z hz=>by
  rcases List.mem_append.1 hz with h|h
  ·exact QgP _ z h
  ·exact h1 z h
 intro z hz;rcases List.mem_append.1 hz with h|h
 ·exact((hA.set 10 _ Om).set 11 _ Om) z h
 ·exact h2 z h
theorem Qj5(fr tn:Int×Int)(o:Opt)(pl bs:List Int)(p:Option Addr)(c:Nat)(w:World)(hs:SlB w p bs)(hr:ByR bs)(hl:bs.length≤1000)(hlc:bs.length≤c)
  (hw:Zd bs=0)(hsr:(ipH bs).sr=QD fr)(hds:(ipH bs).ds=QD tn)(hop:(ipH bs).op.length=16)(hor:ByR (ipH bs).op)(hte:takeE (ipH bs).op=0)(hto:Yh (ipH bs).op=o)(hpl:(ipH bs).pl=pl)(hpr:ByR pl)(hp1:pl.length≤1000)
  (hfr:fr∈Qx)(htn:tn∈Qx)(h0:0≤o.ki∧o.ki<256)(h1:0≤o.bu∧o.bu<256)(hok:ZO o=true)(hbs:ipB (QD fr) (QD tn) (Ym o) pl≠bs):
  Cr 40 #[.slice p bs.length c] w (.tuple #[.agg #[.int .u8 0,.int .i64 0,.int .u8 0,.int .i64 0,.int .u8 0,.int .u8 0,.int .i64 0,.int .i64 0,.int .i64 0,.int .i64 0,.slice none 0 0],.int .u8 13]):=by
 have HS:=Xh hs;have HX:=Xh (And.intro hr (And.intro hl (And.intro hlc (And.intro hw (And.intro hsr (And.intro hds (And.intro hop (And.intro hor (And.intro hte (And.intro hto (And.intro hpl (And.intro hpr (And.intro hp1 hbs)))))))))))));have HN:=Xh (And.intro hfr (And.intro htn (And.intro h0 (And.intro h1 hok))))
 have HPA:=Xh (show ∀W,SlB W p bs→Calls Tryz.prog 93 #[.slice p bs.length c] W fun e w'=> ∃vo vp,e= .returned (.tuple #[.agg #[.int .u8 (ipH bs).sv,.int .u16 (ipH bs).nu,.int .u16 (ipH bs).fl,.int .u8 (ipH bs).ho,.int .u8 (ipH bs).pr,.int .u32 (QD fr),.int .u32 (QD tn),vo,vp],.int .u8 0])∧Ext W w'∧OB w' W.heap.size vo (ipH bs).op∧OB w' W.heap.size vp pl from fun W s=>(Yu p bs c W s hr hl hlc).mono fun e w' h=>by
  cases h with
  |no h _=>exact absurd hw h
  |yes h e ho hp=>rw [hpl]at hp;exact⟨_,_,by rw [←hsr,←hds];rfl,e,ho,hp⟩)
 obtain⟨H,hH⟩: ∃H,ipH bs=H:=⟨_,rfl⟩;rw [hH]at HPA HX;clear hs hr hl hlc hw hsr hds hop hor hte hto hpl hpr hp1 hbs hfr htn h0 h1 hok hH
 go_enter Tryz.func40,Tryz.ntmps40
 go_wp2;refine Qp 0 rfl ?_;obtain⟨W0,hW⟩: ∃W0,w.alloc (.cells #[.int .u8 0,.int .i64 0,.int .u8 0,.int .i64 0,.int .u8 0,.int .u8 0,.int .i64 0,.int .i64 0,.int .i64 0,.int .i64 0,.slice none 0 0] 77)=W0:=⟨_,rfl⟩;have E:Ext w W0:=by rw [←hW];exact Ea
 have r2:RowZ W0 w.heap.size #[.int .u8 0,.int .i64 0,.int .u8 0,.int .i64 0,.int .u8 0,.int .u8 0,.int .i64 0,.int .i64 0,.int .i64 0,.int .i64 0,.slice none 0 0]:=by rw [←hW];exact RowZ.new _ _ _
 rw [hW];clear hW;obtain⟨B2,e2⟩: ∃B,w.heap.size=B:=⟨_,rfl⟩;rw [e2]at r2⊢;have s0:=HS.out.ext E;have HPW:=Xh (HPA.out _ s0)
 go_upto_region 5 with(go_at_call 93;(refine HPW.out.mono ?_);rintro e w2 ⟨vo,vp,rfl,g2,ho,hp⟩;obtain⟨po,co,rfl,hco,so⟩:=ho.slb;obtain⟨pp,cp,rfl,hcp,sp⟩:=hp.slb)
 have hz:W0.heap.size≤w2.heap.size:=g2.size;obtain⟨W3,hW⟩: ∃W3,Qe (w2.alloc (.cells #[.int .u8 0,.int .u16 0,.int .u16 0,.int .u8 0,.int .u8 0,.int .u32 0,.int .u32 0,.slice none 0 0,.slice none 0 0] 132)) w2.heap.size 0 #[.int .u8 H.sv,.int .u16 H.nu,.int .u16 H.fl,.int .u8 H.ho,.int .u8 H.pr,.int .u32 (QD fr),.int .u32 (QD tn),.slice po H.op.length co,.slice pp pl.length cp]=W3:=⟨_,rfl⟩;have g3:Ext w2 W3:=by rw [←hW];exact Mv.ext_of Ea (Mv.sa (C:=fun k=>k=w2.heap.size) _ rfl (Mv.refl _ _)) (fun k e=>by omega)
 have r8:RowZ W3 w2.heap.size #[.int .u8 H.sv,.int .u16 H.nu,.int .u16 H.fl,.int .u8 H.ho,.int .u8 H.pr,.int .u32 (QD fr),.int .u32 (QD tn),.slice po H.op.length co,.slice pp pl.length cp]:=by rw [←hW];exact(RowZ.new _ _ _).all _ rfl
 rw [hW];clear hW;obtain⟨B8,e8⟩: ∃B,w2.heap.size=B:=⟨_,rfl⟩;rw [e8]at r8⊢;have hb28:B2<B8:=by have:=r2.l;unfold Lt at this;omega
 have hmo: ∀b off,po=some ⟨b,off,none⟩→W0.heap.size≤b:=fun b off e=>by subst e;exact Qi ho b rfl
 have hmp: ∀b off,pp=some ⟨b,off,none⟩→W0.heap.size≤b∧b<B8:=fun b off e=>by
  subst e;refine⟨Qi hp b rfl,?_⟩;have:=QlV hp b rfl;omega
 have hpn:=QlW hp;have hB2:B2<W0.heap.size:=r2.l;have E:=(E.tr g2).tr g3;have r2:=(r2.ext g2).ext g3;have so:=so.ext g3;have sp:=sp.ext g3
 have HTK:=Xh (show Calls Tryz.prog 94 #[.slice po H.op.length co] W3 fun e w'=>e= .returned (.tuple #[.agg #[.int .u8 o.ki,.int .u8 o.bu,.int .i64 o.cu,.int .i64 o.pv,.int .i64 o.ge,.int .i64 o.ti],.int .i64 0])∧Ext W3 w' from by
  obtain⟨hr,hl,hlc,hw,hsr,hds,hop,hor,hte,hto,hpl,hpr,hp1,hbs⟩:=HX.out
  have:=Qbr po H.op co W3 so hor Om hco (fun b off e=>by
   subst e;obtain⟨b',off',h,hb,-⟩:=so 0 Om
   cases h
   exact hb)
  rw [hte,hto,Qcu]at this
  exact this)
 have HNA:=Xh (fun(q:Int×Int) (hq:q∈Qx)=>(show ∀W,Calls Tryz.prog 95 #[.int .u32 (QD q)] W fun e w'=>e= .returned (.tuple #[.agg #[.int .u8 q.1,.int .i64 q.2],.bool true])∧Ext W w' from fun W=>by
  have:=J6 (QD q) W;rw [Qb7 hq rfl]at this
  exact this))
 have HNF:=Xh (HNA.out fr HN.out.1);have HNT:=Xh (HNA.out tn HN.out.2.1);have c7:=r8.cell 7 (by show 7<9;omega);clear HNA ho hp HPW s0 g2 g3 so hmo
 go_upto_region 7 with(go_at_call 94;(refine HTK.out.mono ?_);rintro e w4 ⟨rfl,g4⟩;have hR2:=(r2.ext g4).r;have hZ2:=(r2.ext g4).z)
 obtain⟨W5,hW⟩: ∃W,Qe w4 B2 4 #[.int .u8 o.ki,.int .u8 o.bu,.int .i64 o.cu,.int .i64 o.pv,.int .i64 o.ge,.int .i64 o.ti]=W:=⟨_,rfl⟩;have mS:Mv (fun k=>k=B2) w4 W5:=by rw [←hW];exact Mv.sa _ rfl (Mv.refl _ _)
 have E:=Mv.ext_of (E.tr g4) mS (fun k e=>by omega);have r8:=(r8.ext g4).mv mS Om;have sp:=(sp.ext g4).mvn mS (fun b off e=>by have:=hmp b off e;omega);have r2:=r2.ext g4;have r2:RowZ W5 B2 #[.int .u8 0,.int .i64 0,.int .u8 0,.int .i64 0,.int .u8 o.ki,.int .u8 o.bu,.int .i64 o.cu,.int .i64 o.pv,.int .i64 o.ge,.int .i64 o.ti,.slice none 0 0]:=by rw [←hW,Qg8];exact((((((r2.set 4 _).set 5 _).set 6 _).set 7 _).set 8 _).set 9 _)
 rw [hW];clear hW mS g4 hR2 hZ2 c7 HTK;have cX:=r8.cell 5 (by show 5<9;omega)
 go_upto_region 9 with(go_at_call 95;(refine(HNF.out _).mono ?_);rintro e w6 ⟨rfl,g4⟩;have hR2:=(r2.ext g4).r;have hZ2:=(r2.ext g4).z)
 obtain⟨W7,hW⟩: ∃W,Qe w6 B2 0 #[.int .u8 fr.1,.int .i64 fr.2]=W:=⟨_,rfl⟩;have mS:Mv (fun k=>k=B2) w6 W7:=by rw [←hW];exact Mv.sa _ rfl (Mv.refl _ _)
 have E:=Mv.ext_of (E.tr g4) mS (fun k e=>by omega);have r8:=(r8.ext g4).mv mS Om;have sp:=(sp.ext g4).mvn mS (fun b off e=>by have:=hmp b off e;omega);have r2:=r2.ext g4;have r2:RowZ W7 B2 #[.int .u8 fr.1,.int .i64 fr.2,.int .u8 0,.int .i64 0,.int .u8 o.ki,.int .u8 o.bu,.int .i64 o.cu,.int .i64 o.pv,.int .i64 o.ge,.int .i64 o.ti,.slice none 0 0]:=by rw [←hW,Qda];exact((r2.set 0 _).set 1 _)
 rw [hW];clear hW mS g4 hR2 hZ2 cX;have cX:=r8.cell 6 (by show 6<9;omega)
 go_upto_region 10 with(go_at_call 95;(refine(HNT.out _).mono ?_);rintro e w8 ⟨rfl,g4⟩;have hR2:=(r2.ext g4).r;have hZ2:=(r2.ext g4).z)
 obtain⟨W9,hW⟩: ∃W,Qe w8 B2 2 #[.int .u8 tn.1,.int .i64 tn.2]=W:=⟨_,rfl⟩;have mS:Mv (fun k=>k=B2) w8 W9:=by rw [←hW];exact Mv.sa _ rfl (Mv.refl _ _)
 have E:=Mv.ext_of (E.tr g4) mS (fun k e=>by omega);have r8:=(r8.ext g4).mv mS Om;have sp:=(sp.ext g4).mvn mS (fun b off e=>by have:=hmp b off e;omega);have r2:=r2.ext g4;have r2:RowZ W9 B2 #[.int .u8 fr.1,.int .i64 fr.2,.int .u8 tn.1,.int .i64 tn.2,.int .u8 o.ki,.int .u8 o.bu,.int .i64 o.cu,.int .i64 o.pv,.int .i64 o.ge,.int .i64 o.ti,.slice none 0 0]:=by rw [←hW,Qda];exact((r2.set 2 _).set 3 _)
 rw [hW];clear hW mS g4 hR2 hZ2 cX;have c8:=r8.cell 8 (by show 8<9;omega);have c10:=r2.cell 10 (by show 10<11;omega);have f10:=r2.frz 10
 go_upto_region 12 with(fail)
 obtain⟨WA,hW⟩: ∃W,World.setCell W9 ⟨B2,10,none⟩ (.slice pp pl.length cp)=W:=⟨_,rfl⟩;have mS:Mv (fun k=>k=B2) W9 WA:=by rw [←hW];exact Mv.st _ (.inl rfl) (Mv.refl _ _)
 have E:=Mv.ext_of E mS (fun k e=>by omega);have sp:=sp.mvn mS (fun b off e=>by have:=hmp b off e;omega);have r2:RowZ WA B2 #[.int .u8 fr.1,.int .i64 fr.2,.int .u8 tn.1,.int .i64 tn.2,.int .u8 o.ki,.int .u8 o.bu,.int .i64 o.cu,.int .i64 o.pv,.int .i64 o.ge,.int .i64 o.ti,.slice pp pl.length cp]:=by rw [←hW];exact r2.set 10 _
 have hl8:B8<WA.heap.size:=Xl r8.l mS.size;rw [hW];clear hW mS c8 c10 f10 r8;have hR2:=r2.r
 have HEP:=Xh (show Calls Tryz.prog 96 #[.agg #[.int .u8 fr.1,.int .i64 fr.2,.int .u8 tn.1,.int .i64 tn.2,.int .u8 o.ki,.int .u8 o.bu,.int .i64 o.cu,.int .i64 o.pv,.int .i64 o.ge,.int .i64 o.ti,.slice pp pl.length cp]] WA fun e w'=> ∃v,e= .returned (.tuple #[v,.int .u8 0])∧Z8 WA w' v (ipB (QD fr) (QD tn) (Ym o) pl)from by
  obtain⟨hr,hl,hlc,hw,hsr,hds,hop,hor,hte,hto,hpl,hpr,hp1,hbs⟩:=HX.out;obtain⟨hfr,htn,h0,h1,hok⟩:=HN.out;have:=Qb9 fr tn o pl pp pl.length cp WA hfr htn h0 h1 hok hp1 hpn rfl hcp sp hpr (fun b off e=>by have:=hmp b off e;omega)
  exact this)
 have hbp:0<bs.length:=by
  have hw:=HX.out.2.2.2.1;unfold Zd at hw
  split at hw
  ·cases hw
  ·omega
 go_upto_region 13 with(go_at_call 96;(refine HEP.out.mono ?_);rintro e wB ⟨v8,rfl,⟨ho8,g8⟩⟩)
 have hAr:ByR (ipB (QD fr) (QD tn) (Ym o) pl):=Qys (QpM o) HX.out.2.2.2.2.2.2.2.2.2.2.2.1;have hA0:0<(ipB (QD fr) (QD tn) (Ym o) pl).length:=by unfold ipB ipA;simp [Jc];rw [show(YO (QD fr) (QD tn) pl.length).length=10 from rfl];omega
 have hne:ipB (QD fr) (QD tn) (Ym o) pl≠bs:=HX.out.2.2.2.2.2.2.2.2.2.2.2.2.2;obtain⟨A,hA⟩: ∃A,ipB (QD fr) (QD tn) (Ym o) pl=A:=⟨_,rfl⟩;rw [hA]at ho8 hAr hA0 hne;obtain⟨p8,q8,rfl,-,s8⟩:=ho8.slb;have E:=E.tr g8;have r2:=r2.ext g8
 have HEQ:=Xh (by
  have:=Qj3 p8 p A bs q8 c wB s8 (HS.out.ext E) hAr HX.out.1 hA0 hbp;rw [decide_eq_false hne]at this
  exact this)
 have HEE:=Xh (And.intro E r2);clear E r2 sp s8 ho8 HEP hR2 hAr hA0 hne hA
 go_wp2_with (go_at_call 97;(refine HEQ.out.mono ?_);rintro e wC ⟨rfl,gC⟩;have hRC:=(HEE.out.2.ext gC).r;have hZC:=(HEE.out.2.ext gC).z;have hLC:=(HEE.out.2.ext gC).l)
 go_step3;go_wp2;simp only [Exit.jump];obtain⟨E,r2⟩:=HEE.out;exact bodyPost_ret (Qbt rfl (((r2.ext gC).all #[.int .u8 0,.int .i64 0,.int .u8 0,.int .i64 0,.int .u8 0,.int .u8 0,.int .i64 0,.int .i64 0,.int .i64 0,.int .i64 0,.slice none 0 0] rfl).r) rfl) rfl ⟨rfl,Mv.ext_of (E.tr gC) (Mv.sa (C:=fun k=>k=B2) _ rfl (Mv.refl _ _)) (fun k e=>by omega)⟩
theorem Qiy(h:takeE bs=0):bs.length=16∧Qc7 bs=true:=by
 unfold takeE at h
 split at h
 ·cases h
 ·split at h
  ·cases h
  ·split at h
   ·rename_i h1 h2 h3
    exact⟨Om,h3⟩
   ·cases h
theorem Qiz(hr:ByR bs)(h:takeE bs=0):(0≤(Yh bs).ki∧(Yh bs).ki<256)∧(0≤(Yh bs).bu∧(Yh bs).bu<256)∧ZO (Yh bs)=true:=by
 have h1:=Qiy h;have e:Yh bs=Qpi bs:=if_pos h1;rw [e];refine⟨QaI hr 2,QaI hr 3,?_⟩;have h2:=h1.2;unfold Qc7 at h2;simp only [Bool.and_eq_true]at h2;exact h2.2
theorem Qf2{x:Int}{p:Int×Int}(h:Yi x=some p):p∈Qx∧QD p=x:=by
 unfold Yi at h;exact⟨List.mem_of_find?_eq_some h,by simpa using List.find?_some h⟩
def Qdb(bs:List Int):Option ((Int×Int)×(Int×Int)×Opt×List Int):=
 if Zd bs=0∧takeE (ipH bs).op=0 then
  match Yi (ipH bs).sr,Yi (ipH bs).ds with
  |some fr,some tn=>if ipB (QD fr) (QD tn) (Ym (Yh (ipH bs).op)) (ipH bs).pl=bs then some (fr,tn,Yh (ipH bs).op,(ipH bs).pl)else none
  |_,_=>none
 else none
theorem QiA(bs:List Int)(p:Option Addr)(c:Nat)(w:World)(hs:SlB w p bs)(hr:ByR bs)(hl:bs.length≤1000)(hlc:bs.length≤c):
  Calls Tryz.prog 40 #[.slice p bs.length c] w fun e w'=>(Qdb bs=none∧e= .returned (.tuple #[.agg #[.int .u8 0,.int .i64 0,.int .u8 0,.int .i64 0,.int .u8 0,.int .u8 0,.int .i64 0,.int .i64 0,.int .i64 0,.int .i64 0,.slice none 0 0],.int .u8 13])∧Ext w w')∨
   ∃fr tn o pl vp,Qdb bs=some (fr,tn,o,pl)∧e= .returned (.tuple #[.agg (wrV fr tn o vp),.int .u8 0])∧Ext w w'∧SlV w' w.heap.size vp pl:=by
 by_cases h1:Zd bs=0
 ·by_cases h2:takeE (ipH bs).op=0
  ·have h3:=Qiy h2;have h4:=Qiz (Yo hr).1 h2;have hpl:=Xt (Qcz (bs:=bs)).2 hl
   by_cases h5:(Yi (ipH bs).sr).isSome=true∧(Yi (ipH bs).ds).isSome=true
   ·obtain⟨fr,hfr⟩:=Option.isSome_iff_exists.1 h5.1;obtain⟨tn,htn⟩:=Option.isSome_iff_exists.1 h5.2;obtain⟨f1,f2⟩:=Qf2 hfr;obtain⟨t1,t2⟩:=Qf2 htn
    by_cases h6:ipB (QD fr) (QD tn) (Ym (Yh (ipH bs).op)) (ipH bs).pl=bs
    ·have he:Qdb bs=some (fr,tn,Yh (ipH bs).op,(ipH bs).pl):=by unfold Qdb;rw [if_pos ⟨h1,h2⟩,hfr,htn];exact if_pos h6
     refine(Qiw fr tn _ _ bs p c w hs hr hl hlc h1 f2.symm t2.symm h3.1 (Yo hr).1 h2 rfl rfl (Yo hr).2 hpl f1 t1 h4.1 h4.2.1 h4.2.2 h6).mono ?_;rintro e w' ⟨vp,a1,a2,a3⟩;exact .inr ⟨fr,tn,_,_,vp,he,a1,a2,a3⟩
    ·have he:Qdb bs=none:=by unfold Qdb;rw [if_pos ⟨h1,h2⟩,hfr,htn];exact if_neg h6
     refine(Qj5 fr tn _ _ bs p c w hs hr hl hlc h1 f2.symm t2.symm h3.1 (Yo hr).1 h2 rfl rfl (Yo hr).2 hpl f1 t1 h4.1 h4.2.1 h4.2.2 h6).mono ?_;rintro e w' ⟨a1,a2⟩;exact .inl ⟨he,a1,a2⟩
   ·have he:Qdb bs=none:=by
     unfold Qdb;rw [if_pos ⟨h1,h2⟩]
     cases hx:Yi (ipH bs).sr with
     |none=>rfl
     |some q=>cases hy:Yi (ipH bs).ds with
      |none=>rfl
      |some q2=>exact absurd ⟨by rw [hx];rfl,by rw [hy];rfl⟩ h5
    refine(Qg9 bs p c w hs hr hl hlc h1 h2 h5).mono ?_;rintro e w' ⟨a1,a2⟩;exact .inl ⟨he,a1,a2⟩
  ·refine(Qix bs p c w hs hr hl hlc h1 h2).mono ?_;rintro e w' ⟨a1,a2⟩;exact .inl ⟨if_neg (fun e=>h2 e.2),a1,a2⟩
 ·refine(Qj4 bs p c w hs hr hl hlc h1).mono ?_;rintro e w' ⟨a1,a2⟩;exact .inl ⟨if_neg (fun e=>h1 e.1),a1,a2⟩
theorem QpN{cs:Array Value}(h:RowZ w B cs)(h6:cs.size=2):(loadVar 73 ⟨B,0,none⟩).run Tryz.prog w= .ok (.agg cs) w:=by
 rw [QeO (by rw [h.r,h6];omega),h.r];rw [show cs.extract 0 (0+2)=cs by rw [Nat.zero_add,←h6];simp]
theorem Qdc(x:Int)(w:World):Cr 41 #[.int .i64 x] w (.agg #[.int .u8 2,.int .i64 x]):=by
 go_enter Tryz.func41,Tryz.ntmps41
 go_wp2;have rz:RowZ (w.alloc (.cells #[.int .u8 0,.int .i64 0] 73)) w.heap.size #[.int .u8 0,.int .i64 0]:=RowZ.new _ _ _;exact bodyPost_ret (Zv rfl _ _ w.heap.size rfl (QpN (rz.all #[.int .u8 2,.int .i64 x] rfl) rfl)) rfl ⟨rfl,Mv.ext_of Ea (Mv.sa (C:=fun k=>k=w.heap.size) _ rfl (Mv.refl _ _)) (fun k e=>by omega)⟩
theorem QpO(id:Int)(v:Value)(w:World)(hv: ∃a m c,v= .slice a m c):Calls Tryz.prog 60 #[.int .i64 id,v] w fun e w'=>e= .returned (.func (.func 138) #[] #[.pointer (some ⟨w.heap.size+1,0,none⟩),.pointer (some ⟨w.heap.size,0,none⟩)])∧w'=(w.alloc (.cells #[.int .i64 id] 3)).alloc (.cells #[v] 25):=by
 obtain⟨a,m,c,rfl⟩:=hv
 go_enter Tryz.func60,Tryz.ntmps60
 go_wp2;go_ret;exact⟨rfl,rfl⟩
structure Ev where
 k:Int
 a:Int
 t:Tu
 deriving DecidableEq
abbrev Ev.v(x:Ev):Value:= .agg #[.int .u8 x.k,.int .i64 x.a,.int .u32 x.t.a,.int .u32 x.t.b,.int .u16 x.t.c,.int .u16 x.t.d]
def SlE(w:World)(p:Option Addr)(xs:List Ev):Prop:= ∀k,(h:k<xs.length)→ ∃b off,p=some ⟨b,off,none⟩∧b<w.heap.size∧w.cell? ⟨b,off+k*6,none⟩=some (.int .u8 xs[k].k)∧w.cell? ⟨b,off+k*6+1,none⟩=some (.int .i64 xs[k].a)∧w.cell? ⟨b,off+k*6+2,none⟩=some (.int .u32 xs[k].t.a)∧w.cell? ⟨b,off+k*6+3,none⟩=some (.int .u32 xs[k].t.b)∧w.cell? ⟨b,off+k*6+4,none⟩=some (.int .u16 xs[k].t.c)∧w.cell? ⟨b,off+k*6+5,none⟩=some (.int .u16 xs[k].t.d)
theorem SlE.ext{w':World}{xs:List Ev}(h:SlE w p xs)(e:Ext w w'):SlE w' p xs:=fun k hk=>by
 obtain⟨b,off,hp,hb,c0,c1,c2,c3,c4,c5⟩:=h k hk;exact⟨b,off,hp,Xl hb e.size,(e.cell (p:=⟨b,off+k*6,none⟩) hb).trans c0,(e.cell (p:=⟨b,off+k*6+1,none⟩) hb).trans c1,(e.cell (p:=⟨b,off+k*6+2,none⟩) hb).trans c2,(e.cell (p:=⟨b,off+k*6+3,none⟩) hb).trans c3,(e.cell (p:=⟨b,off+k*6+4,none⟩) hb).trans c4,(e.cell (p:=⟨b,off+k*6+5,none⟩) hb).trans c5⟩
theorem SlE.nil(w:World)(p:Option Addr):SlE w p []:=fun k hk=>by simp at hk
def Ev.cl(x:Ev):List Value:= [.int .u8 x.k,.int .i64 x.a,.int .u32 x.t.a,.int .u32 x.t.b,.int .u16 x.t.c,.int .u16 x.t.d]
def flE(xs:List Ev):List Value:=xs.flatMap Ev.cl
theorem QlX: ∀xs:List Ev,(flE xs).length=xs.length*6
 | []=>rfl
 |x::xs=>by
  show(Ev.cl x++flE xs).length=_;rw [List.length_append,QlX xs,List.length_cons];show 6+_=_;omega
theorem QlY: ∀(xs:List Ev) (k j:Nat) (hk:k<xs.length),j<6→(flE xs)[k*6+j]?=(xs[k]).cl[j]?
 |x::xs,0,j,_,hj=>by
  show(Ev.cl x++flE xs)[0*6+j]?=_;rw [Nat.zero_mul,Nat.zero_add,List.getElem?_append_left (by show j<6;exact hj)];rfl
 |x::xs,k+1,j,hk,hj=>by
  show(Ev.cl x++flE xs)[(k+1)*6+j]?=_;have hc:(Ev.cl x).length=6:=rfl;rw [List.getElem?_append_right Om,hc,show(k+1)*6+j- 6=k*6+j by omega];exact QlY xs k j (by simpa using hk) hj
theorem QiB(xs:List Ev)(x:Ev):flE (xs++ [x])=flE xs++x.cl:=by unfold flE;simp
theorem QpP:(Tryz.prog.info? 68).map (fun i=>(i.zero,i.size,i.bytes))=some (some (.agg #[.int .u8 0,.int .i64 0,.int .u32 0,.int .u32 0,.int .u16 0,.int .u16 0]),6,32):=Kr
theorem SlE.own{v:Value}{xs:List Ev}(h:w.ownsRow base 68 6 v xs.length (flE xs)): ∃p c,v= .slice p xs.length c∧xs.length≤c∧SlE w p xs:=by
 rcases h.2 with⟨rfl,h0⟩|⟨g,cap,cur,rfl,hg,hgb,h1,h2,h3,h4⟩
 ·have:xs= []:=List.length_eq_zero_iff.1 h0;subst this;exact⟨none,0,rfl,Nat.le_refl _,SlE.nil _ _⟩
 ·refine⟨some ⟨g,0,none⟩,cap,rfl,h1,fun k hk=> ?_⟩;have key: ∀j,j<6→w.cell? ⟨g,0+k*6+j,none⟩=(xs[k]).cl[j]?:=fun j hj=>by
   rw [←QlY xs k j hk hj,←h4,List.getElem?_take_of_lt (by have:=QlX xs;omega)];simp only [World.cell?,hgb];simp
  exact⟨g,0,rfl,(Array.getElem?_eq_some_iff.1 hgb).1,key 0 Om,key 1 Om,key 2 Om,key 3 Om,key 4 Om,key 5 Om⟩
theorem QiC(W:World)(x:Ev)(t:TypeId): ∀j u,x.cl[j]?=some u→(W.alloc (.cells #[.int .u8 x.k,.int .i64 x.a,.int .u32 x.t.a,.int .u32 x.t.b,.int .u16 x.t.c,.int .u16 x.t.d] t)).cell? ((⟨W.heap.size,0,none⟩:Addr).add j)=some u:=by
 intro j u hu;have hj:j<6:=(List.getElem?_eq_some_iff.1 hu).1;have e:(⟨W.heap.size,0,none⟩:Addr).add j=⟨W.heap.size,j,none⟩:=by unfold Addr.add;split<;>simp_all
 rw [e,Qa,Zn,←hu];obtain rfl|rfl|rfl|rfl|rfl|rfl:j=0∨j=1∨j=2∨j=3∨j=4∨j=5:=by omega
 all_goals rfl
theorem QpQ(x:Ev): ∀u∈x.cl,u.oneCell'=true:=by
 intro u hu;unfold Ev.cl at hu;simp only [List.mem_cons,List.not_mem_nil,or_false]at hu;rcases hu with rfl|rfl|rfl|rfl|rfl|rfl<;>rfl
structure QpR(w w':World)(v:Value)(xs:List Ev):Prop where
 own:w'.ownsRow w.heap.size 68 6 v xs.length (flE xs)
 ext:Ext w w'
def QiD(B base:Nat)(xs:List Ev)(i:Nat)(W:World):Prop:= ∃v,Boxed W B 39 v∧W.ownsRow base 68 6 v i (flE (xs.take i))
theorem QiD.mv{xs:List Ev}{A':World}{C:Nat→Prop}(h:QiD B base xs i A)(hm:Mv C A A')(hb: ¬C B)(hc: ∀k,base≤k→ ¬C k):QiD B base xs i A':=by
 obtain⟨v,h1,h2⟩:=h;exact⟨v,Qj h1 hm hb,Qw h2 hm hc⟩
theorem QeS(g:Nat)(lb:Array Value)(eg: ∀args w,(callFunc g args).run Tryz.prog w= .ok (.enter g args) w)(xs:List Ev)(w:World)(hlen:xs.length≤1000)
  (hseq: ∀(n:Nat) (U:Nat→Prop) w',Ext w w'→(∀k,U k→w.heap.size≤k)→QcT Fence.wide n Tryz.prog g lb (fun s:Ev=>#[s.v]) (fun _=>False) U xs w'):
  Calls Tryz.prog 137 #[.slice none 0 0,.func (.func g) #[] lb] w fun e W'=> ∃v,e= .returned v∧QpR w W' v xs:=by
 obtain⟨i0,hi,hz0,hz1,hz2⟩:=info_parts QpP;have HSQ:=Xh hseq;have HEG:=Xh eg;clear hseq eg;refine(callsIn_wide (n:=5)).1 ?_;refine callsIn_of_wp_marks Tryz.func137 rfl trivial ?_ rfl;simp only [Tryz.ntmps137,List.size_toArray,List.length_cons,List.length_nil,Nat.reduceAdd,Nat.reduceSub,Array.replicate_succ,Array.replicate_zero,List.push_toArray,List.append_toArray,List.nil_append,List.cons_append]
 gi_wp2
 have bO:=Boxed.new w 39 (.slice none 0 0);obtain⟨w1,hw1⟩: ∃w1,w.alloc (.cells #[.slice none 0 0] 39)=w1:=⟨_,rfl⟩;have hs1:w1.heap.size=w.heap.size+1:=by rw [←hw1];simp
 have hE1:Ext w w1:=by rw [←hw1];exact Ea
 rw [hw1]at bO⊢;clear hw1;refine ZI rfl Om (gf:=g) (lb:=lb) rfl trivial HEG.out (HSQ.out _ (fun k=>k=w.heap.size) w1 hE1 (fun k e=>by omega))
  (fun k h=>h.elim) (fun k h=>by omega) (fun _=>rfl)
  (fun i W=>QiD w.heap.size (w1.heap.size+2) xs i W) (fun _ _=>False)
  (fun i A B h hm=>h.mv hm (fun hh=>by rcases hh with hh|hh|hh;exact hh.elim;omega;omega) (fun k hk hh=>by rcases hh with hh|hh|hh;exact hh.elim;omega;omega))
  (fun _ _ _ h _=>h) ⟨_,bO,World.ownsRow_nil _ _ _ _⟩
  (fun s a' W=> ∃Bx,w1.heap.size+2≤Bx∧RowZ W Bx s.cl.toArray∧a'={tmps:=#[.slice none 0 0,.func (.func g) #[] lb,.pointer (some ⟨w.heap.size,0,none⟩),undef,.slice none 0 0,.pointer (some ⟨Bx,0,none⟩),.func (.func g) #[] lb,s.v,undef,undef,undef,undef,undef],defers:= []})
  (fun s a' A B h hm=>by obtain⟨Bx,h1,h2,h3⟩:=h;exact⟨Bx,h1,h2.mv hm Om,h3⟩)
  ?assign ?body ?done ?stop
 case assign=>
  intro l i s W K hsz hv hI hx hK
  gi_wp2
  refine hK _ _ (Mv.of_ext Ea) (QiD.mv (C:=fun _=>False) hI (Mv.of_ext Ea) (fun h=>h) (fun _ _ h=>h)) ⟨W.heap.size,hsz,RowZ.new _ _ _,rfl⟩
 case body=>
  rintro l i s a' W hl ⟨r,hr⟩ hsz hv ⟨v,hb,hrow⟩ hx ⟨Bx,hBx,hRx,rfl⟩;have x0:W.cell? ⟨Bx,0,none⟩=some (.int .u8 s.k):=by rw [Qa,hRx.r];rfl
  have x1:W.cell? ⟨Bx,1,none⟩=some (.int .i64 s.a):=by rw [Qa,hRx.r];rfl
  have x2:W.cell? ⟨Bx,2,none⟩=some (.int .u32 s.t.a):=by rw [Qa,hRx.r];rfl
  have x3:W.cell? ⟨Bx,3,none⟩=some (.int .u32 s.t.b):=by rw [Qa,hRx.r];rfl
  have x4:W.cell? ⟨Bx,4,none⟩=some (.int .u16 s.t.c):=by rw [Qa,hRx.r];rfl
  have x5:W.cell? ⟨Bx,5,none⟩=some (.int .u16 s.t.d):=by rw [Qa,hRx.r];rfl
  have xl:=hRx.l;clear hRx;have hil:i<xs.length:=(List.getElem?_eq_some_iff.1 hx).1;have hxi:xs[i]=s:=(List.getElem?_eq_some_iff.1 hx).2;have hc:=hb.cell;have HX:=Xh hxi;have HR:=Xh hrow;have HV:=Xh hv;clear hxi hv hx hr;have htk:xs.take (i+1)=xs.take i++ [s]:=by rw [List.take_succ_eq_append_getElem hil,HX.out]
  have HT2:=Xh htk;clear htk;have hnB: ∀r,v.ownBlock=some r→w1.heap.size+2≤r:=Qi HR.out;have HNB:=Xh hnB;clear hnB
  gi_wp2_with (gi_at_builtin;refine wpListIn_append_own _ rfl _ _ 39 rfl (w1.heap.size+2) 68 i0 (.agg #[.int .u8 0,.int .i64 0,.int .u32 0,.int .u32 0,.int .u16 0,.int .u16 0]) 6 32 Tryz.underlying39 hi hz0 hz1 hz2 rfl Dc _ _ _ rfl (HR.out.alloc _) ⟨W.heap.size,0,none⟩ 1 1 s.cl rfl rfl (QiC _ _ _) (QpQ s) (by unfold maxLen;omega) Om (by simp;omega) ?_;intro v' w2 hown' hgrow _;have HOW:=Xh hown';obtain⟨g',cap',rfl⟩:=ownsRow_succ hown';have hb2:Boxed w2 w.heap.size 39 v:=(hb.alloc _).kept hgrow (fun e=>by have:=HNB.out _ e.symm;omega);have hc2:=hb2.cell;have hf2:=hb2.frozen;clear hown')
  have hm2:Mv (fun k=>k=w.heap.size∨w1.heap.size+2≤k) W w2:=(Mv.al _ (Mv.refl _ _)).trans (Mv.of_grown hgrow fun r e=> .inl (.inr (HNB.out r e)));refine⟨Mv.st _ (.inl (.inl rfl)) hm2,_,hb2.set _,?_⟩;rw [HT2.out,QiB];exact Qw (C:=fun k=>k=w.heap.size) HOW.out (Mv.st _ (.inl rfl) (Mv.refl _ _)) (fun k hk e=>by omega)
 case done=>
  rintro W ⟨v,hb,hrow⟩ hv hK;have hc:=hb.cell;have HV:=Xh hv;clear hv
  gi_wp2
  refine⟨by simp,.inl ⟨_,_,rfl,run_takeDeferred hK,?_⟩⟩;refine⟨_,results_tmp rfl _ _ _,v,rfl,?_,?_⟩
  ·have:=Qw (C:=fun k=>k=w1.heap.size) hrow (Mv.put W w1.heap.size (.deferred none) rfl) (fun k hk e=>by omega);rw [List.take_length]at this;exact QA this Om
  ·have hE2:Ext w W:=Mv.ext_of hE1 HV.out (fun k h=>by rcases h with h|h;exact h.elim;omega);exact Mv.ext_of hE2 (Mv.put (C:=fun k=>k=w1.heap.size) _ _ _ rfl) (fun k h=>by omega)
 case stop=>intro _ _ h;exact h.elim
theorem Qha(g:Nat)(lb:Array Value)(eg: ∀args w,(callFunc g args).run Tryz.prog w= .ok (.enter g args) w)(xs:List Ev)(w:World)(hlen:xs.length≤1000)
  (hseq: ∀(n:Nat) (U:Nat→Prop) w',Ext w w'→(∀k,U k→w.heap.size≤k)→QcT Fence.wide n Tryz.prog g lb (fun s:Ev=>#[s.v]) (fun _=>False) U xs w'):
  Calls Tryz.prog 59 #[.func (.func g) #[] lb] w fun e W'=> ∃v,e= .returned v∧QpR w W' v xs:=by
 have HC:=Xh (QeS g lb eg xs w hlen hseq);clear hseq eg
 go_enter Tryz.func59,Tryz.ntmps59
 go_wp2_with (go_at_call 137;(refine(HC.out).mono ?_);rintro e w2 ⟨v,rfl,h⟩)
 go_ret;exact⟨v,rfl,h⟩
def ZN(id:Int)(xs:List Co):List Ev:=xs.map fun c=>⟨4,id,c.t⟩
theorem Qhb: ∀args w,(callFunc 138 args).run Tryz.prog w= .ok (.enter 138 args) w:=enters_of Tryz.func138 Kr rfl
theorem Qj6(n:Nat)(id:Int)(xs:List Co)(p:Option Addr)(c:Nat)(w0 w:World)(Bl Bi:Nat)(U:Nat→Prop)(h0:Ext w0 w)(hs:SlC w0 p xs)(hl:xs.length≤1000)(hc:w.cell? ⟨Bl,0,none⟩=some (.slice p xs.length c))(lb:Lt Bl w)(hi:w.cell? ⟨Bi,0,none⟩=some (.int .i64 id))(li:Lt Bi w)(hU: ∀k,U k→w0.heap.size≤k∧k≠Bl∧k≠Bi):
  QcT Fence.wide n Tryz.prog 138 #[.pointer (some ⟨Bl,0,none⟩),.pointer (some ⟨Bi,0,none⟩)] (fun x:Ev=>#[x.v]) (fun _=>False) U (ZN id xs) w:=by
 intro y J Jx W hW hJ hJx hY hJ0;have HJ:=Xh hJ;have HJx:=Xh hJx;have HU:=Xh hU;have HS:=Xh hs;clear hJ hJx hU hs;obtain⟨yfn,ytm,yas,ybo,hY⟩:=hY;have HY:=Xh hY;clear hY;have hcW:W.cell? ⟨Bl,0,none⟩=some (.slice p xs.length c):=(hW.cell (p:=⟨Bl,0,none⟩) lb).trans hc;have hiW:W.cell? ⟨Bi,0,none⟩=some (.int .i64 id):=(hW.cell (p:=⟨Bi,0,none⟩) li).trans hi;have lbW:Lt Bl W:=Xl lb hW.size;have liW:Lt Bi W:=Xl li hW.size;have h0W:=h0.tr hW;refine callsIn_of_wp Tryz.func138 rfl trivial ?_ rfl;simp only [Tryz.ntmps138,List.size_toArray,List.length_cons,List.length_nil,Nat.reduceAdd,Nat.reduceSub,Array.replicate_succ,Array.replicate_zero,List.push_toArray,List.append_toArray,List.nil_append,List.cons_append];refine wpIn_wide.2 ?_;go_wp2
 go_loopw [5,8] (fun _ a wr=> ∃i:Nat,i≤xs.length∧a= .int .i64 i∧J i wr∧Ext w0 wr∧wr.cell? ⟨Bi,0,none⟩=some (.int .i64 id)∧Lt Bi wr) (fun _ a _=>xs.length- (intOf a).toNat)
 case atStart=>exact⟨0,Nat.zero_le _,rfl,hJ0,h0W,hiW,liW⟩
 case round=>
  clear hcW lbW h0W hJ0 hiW liW;obtain⟨i,hi',rfl,hJi,hE,hid,lid⟩:=hrel
  by_cases hlt:i<xs.length
  ·have hlt':(i:Int)<xs.length:=by omega
   obtain⟨b,off,rfl,hb,c0,c1,c2,c3,c4,c5⟩:=(HS.out.ext hE) i hlt;obtain⟨x,hx⟩: ∃x,xs[i]=x:=⟨_,rfl⟩;rw [hx]at c0 c1 c2 c3 c4 c5;have lbb:Lt b wr:=hb;have HX:=Xh (show(ZN id xs)[i]?=some ⟨4,id,x.t⟩by unfold ZN;rw [List.getElem?_map,List.getElem?_eq_getElem hlt,hx];rfl);have HE:=Xh hE;have HJI:=Xh hJi;clear hx hJi hE
   go_upto_region 3 with(fail)
   obtain⟨W1,hW1⟩: ∃W1,wr.alloc (.cells #[.int .u32 x.t.a,.int .u32 x.t.b,.int .u16 x.t.c,.int .u16 x.t.d,.int .i64 x.s,.int .i64 x.l] 66)=W1:=⟨_,rfl⟩;have g1:Ext wr W1:=by rw [←hW1];exact Ea
   have r1:RowZ W1 wr.heap.size #[.int .u32 x.t.a,.int .u32 x.t.b,.int .u16 x.t.c,.int .u16 x.t.d,.int .i64 x.s,.int .i64 x.l]:=by rw [←hW1];exact RowZ.new _ _ _
   rw [hW1];clear hW1 c0 c1 c2 c3 c4 c5;have d0:=r1.cell 0 (by show 0<6;omega);have d1:=r1.cell 1 (by show 1<6;omega);have d2:=r1.cell 2 (by show 2<6;omega);have d3:=r1.cell 3 (by show 3<6;omega);have l1:=r1.l;have hid1:W1.cell? ⟨Bi,0,none⟩=some (.int .i64 id):=(g1.cell (p:=⟨Bi,0,none⟩) lid).trans hid;have lid1:Lt Bi W1:=Xl lid g1.size;have hJ1:=HJ.out _ _ _ HJI.out (Mv.of_ext g1);have hrun:(Instr.yield y #[.agg #[.int .u8 4,.int .i64 id,.int .u32 x.t.a,.int .u32 x.t.b,.int .u16 x.t.c,.int .u16 x.t.d]]).run Tryz.prog W1= .ok (.round y yfn (ytm #[.agg #[.int .u8 4,.int .i64 id,.int .u32 x.t.a,.int .u32 x.t.b,.int .u16 x.t.c,.int .u16 x.t.d]]) yas ybo) W1:=(HY.out i _ W1 hJ1 HX.out).1;have HRD:=Xh (HY.out i _ W1 hJ1 HX.out).2;have HE1:=Xh (HE.out.tr g1);clear g1 r1 hJ1 hid lid;refine(wpIn_wide (n:=n)).1 ?_
   gi_wp2
   refine⟨(fun h=>by cases h),(HRD.out).mono ?_⟩;rintro e w6 ⟨bb,rfl,hP⟩;clear hrun HRD d0 d1 d2 d3;obtain⟨rfl,hJ6,hm6⟩|⟨rfl,hx6⟩:=hP
   ·have hE6:Ext w0 w6:=Mv.ext_of HE1.out hm6 (fun k h=>by rcases h with h|h;exact(HU.out _ h).1;exact Xt h0.size h);have hid6:w6.cell? ⟨Bi,0,none⟩=some (.int .i64 id):=by rw [Qa,Qf (hm6.same Bi lid1 (fun h=>by rcases h with h|h;exact(HU.out _ h).2.2 rfl;exact absurd h (by unfold Lt at li;omega))),←Qa];exact hid1
    have lid6:Lt Bi w6:=Xl lid1 hm6.size;clear hm6 hid1 lid1
    gi_wp2
    go_wp2
    go_roundw
    case rel=>exact⟨i+1,Om,by go_num,hJ6,hE6,hid6,lid6⟩
    case measure=>simp [intOf];omega
   ·gi_wp2
    go_wp2;exact bodyPost_ret (results_none rfl _ _ _) rfl ⟨⟨_,rfl⟩,.inr hx6⟩
  ·obtain rfl:i=xs.length:=by omega
   have HLN:=Xh (show(ZN id xs).length=xs.length by unfold ZN;rw [List.length_map]);go_wp2
   go_end0
   exact⟨⟨_,rfl⟩,.inl (by rw [HLN.out];exact hJi)⟩
theorem QpS(id:Int)(p:Option Addr)(xs:List Co)(c B:Nat)(w:World)(hs:SlC w p xs)(hl:xs.length≤1000)(hc:w.cell? ⟨B+1,0,none⟩=some (.slice p xs.length c))(hi:w.cell? ⟨B,0,none⟩=some (.int .i64 id))(l1:Lt (B+1) w):
  Calls Tryz.prog 59 #[.func (.func 138) #[] #[.pointer (some ⟨B+1,0,none⟩),.pointer (some ⟨B,0,none⟩)]] w fun e w'=> ∃v,e= .returned v∧QpR w w' v (ZN id xs):=by
 have l0:Lt B w:=by unfold Lt at*;omega
 refine Qha 138 #[.pointer (some ⟨B+1,0,none⟩),.pointer (some ⟨B,0,none⟩)] Qhb (ZN id xs) w (by unfold ZN;rw [List.length_map];exact hl) (fun n U w' hE hU=>Qj6 n id xs p c w w' (B+1) B U hE hs hl ((hE.cell (p:=⟨B+1,0,none⟩) l1).trans hc) (Xl l1 hE.size) ((hE.cell (p:=⟨B,0,none⟩) l0).trans hi) (Xl l0 hE.size) (fun k hk=>⟨hU k hk,fun e=>by have:=hU k hk;unfold Lt at l1;omega,fun e=>by have:=hU k hk;unfold Lt at l0;omega⟩))
theorem Qhc:(Tryz.prog.info? 27).map (·.size)=some 67:=Kr
theorem Qnb{b:Nat}(h:o+67≤(Qc w b).size):(Instr.loadAt 27 (.pointer (some ⟨b,o,none⟩))).run Tryz.prog w= .ok (.agg ((Qc w b).extract o (o+67))) w:=by
 have:=run_loadAt_mid w b o 27 ((Qc w b).extract o (o+67)).toList _ (QC w b o (o+67)) Tryz.underlying27 rfl (by rw [Qhc];simp;omega)
 rwa [Array.toArray_toList]at this
theorem Qj7{b:Nat}(h:o+67≤(Qc w b).size):(loadVar 27 ⟨b,o,none⟩).run Tryz.prog w= .ok (.agg ((Qc w b).extract o (o+67))) w:=by
 have:=run_loadVar_mid w b o 27 ((Qc w b).extract o (o+67)).toList _ (QC w b o (o+67)) Tryz.underlying27 rfl (by rw [Qhc];simp;omega)
 rwa [Array.toArray_toList]at this
@[go_sem ↓ high] theorem QcA(ρ:Operand→Value)(dst:Option Tmp)(x:Operand)(ty:TypeId)(pos:String)(after:Array Edge)(g:Option (Nat×Bool))(w:World)
  (hx:ρ x= .pointer (some ⟨Qb (ρ x),Qd (ρ x),none⟩))(h:Fits (Qd (ρ x)) 67 (Qc w (Qb (ρ x)))):
  (execOp ρ ⟨dst,.load 27 x,ty,pos,after,g⟩).run Tryz.prog w= .ok (.value (.agg (QB (Qc w (Qb (ρ x))) (Qd (ρ x)) 67))) w:=by
 unfold Fits at h;generalize hB:Qb (ρ x)=B at*;generalize hO:Qd (ρ x)=O at*;simp only [execOp,hx,Sem.run_bind,Qnb h,Result.andThen_ok,Sem.run_pure,QB]
@[go_sem ↓ high] theorem Qul{ty:TypeId}(w:World)
  (hx:ρ x= .pointer (some ⟨Qb (ρ x),Qd (ρ x),none⟩))(h:Fits (Qd (ρ x)) 67 (Qc w (Qb (ρ x)))):
  (Oper.semAt l ρ ⟨dst,.load 27 x,ty,pos,after,g⟩).run Tryz.prog w= .ok (.value (.agg (QB (Qc w (Qb (ρ x))) (Qd (ρ x)) 67))) w:=by rw [Oper.semAt_eq _ _ _ (fun c h=>by cases h)];exact QcA ρ dst x ty pos after g w hx h
@[go_sem ↓ high] theorem QbL(ρ:Operand→Value)(dst:Option Tmp)(x y:Operand)(ty:TypeId)(pos:String)(after:Array Edge)(g:Option (Nat×Bool))(w:World)
  (hx:ρ x= .pointer (some ⟨Qb (ρ x),Qd (ρ x),none⟩))(hy:ρ y= .agg (ρ y).cells)(hs:Qn (ρ y).cells 67)(h:Fits (Qd (ρ x)) 67 (Qc w (Qb (ρ x))))(hz:Qs w (Qb (ρ x))=(0,0))(h1:QK (ρ y).cells):
  (execOp ρ ⟨dst,.store 27 x y,ty,pos,after,g⟩).run Tryz.prog w= .ok .skip (Qe w (Qb (ρ x)) (Qd (ρ x)) (ρ y).cells):=by
 unfold Fits at h;unfold Qn at hs;generalize hB:Qb (ρ x)=B at*;generalize hO:Qd (ρ x)=O at*;generalize hC:(ρ y).cells=C at*;have hst:(Instr.storeAt 27 (.pointer (some ⟨B,O,none⟩)) (.agg C)).run Tryz.prog w= .ok () (Qe w B O C):=
  run_storeAt_mid w B O 27 C (fun j hj=>⟨by rw [Qa,Array.getElem?_eq_getElem Om];rfl,Ql hz _⟩) (by rw [Qhc,hs]) h1
 simp only [execOp,hx,hy,Sem.run_bind,hst,Result.andThen_ok,Sem.run_pure]
@[go_sem ↓ high] theorem QsA{ty:TypeId}(w:World)
  (hx:ρ x= .pointer (some ⟨Qb (ρ x),Qd (ρ x),none⟩))(hy:ρ y= .agg (ρ y).cells)(hs:Qn (ρ y).cells 67)(h:Fits (Qd (ρ x)) 67 (Qc w (Qb (ρ x))))(hz:Qs w (Qb (ρ x))=(0,0))(h1:QK (ρ y).cells):
  (Oper.semAt l ρ ⟨dst,.store 27 x y,ty,pos,after,g⟩).run Tryz.prog w= .ok .skip (Qe w (Qb (ρ x)) (Qd (ρ x)) (ρ y).cells):=by rw [Oper.semAt_eq _ _ _ (fun c h=>by cases h)];exact QbL ρ dst x y ty pos after g w hx hy hs h hz h1
theorem QlZ:(Tryz.prog.info? 23).map (·.size)=some 4:=Kr
theorem Qnc{b:Nat}(h:o+4≤(Qc w b).size):(Instr.loadAt 23 (.pointer (some ⟨b,o,none⟩))).run Tryz.prog w= .ok (.agg ((Qc w b).extract o (o+4))) w:=by
 have:=run_loadAt_mid w b o 23 ((Qc w b).extract o (o+4)).toList _ (QC w b o (o+4)) Tryz.underlying23 rfl (by rw [QlZ];simp;omega)
 rwa [Array.toArray_toList]at this
@[go_sem ↓ high] theorem QcB(ρ:Operand→Value)(dst:Option Tmp)(x:Operand)(ty:TypeId)(pos:String)(after:Array Edge)(g:Option (Nat×Bool))(w:World)
  (hx:ρ x= .pointer (some ⟨Qb (ρ x),Qd (ρ x),none⟩))(h:Fits (Qd (ρ x)) 4 (Qc w (Qb (ρ x)))):
  (execOp ρ ⟨dst,.load 23 x,ty,pos,after,g⟩).run Tryz.prog w= .ok (.value (.agg (QB (Qc w (Qb (ρ x))) (Qd (ρ x)) 4))) w:=by
 unfold Fits at h;generalize hB:Qb (ρ x)=B at*;generalize hO:Qd (ρ x)=O at*;simp only [execOp,hx,Sem.run_bind,Qnc h,Result.andThen_ok,Sem.run_pure,QB]
@[go_sem ↓ high] theorem Qum{ty:TypeId}(w:World)
  (hx:ρ x= .pointer (some ⟨Qb (ρ x),Qd (ρ x),none⟩))(h:Fits (Qd (ρ x)) 4 (Qc w (Qb (ρ x)))):
  (Oper.semAt l ρ ⟨dst,.load 23 x,ty,pos,after,g⟩).run Tryz.prog w= .ok (.value (.agg (QB (Qc w (Qb (ρ x))) (Qd (ρ x)) 4))) w:=by rw [Oper.semAt_eq _ _ _ (fun c h=>by cases h)];exact QcB ρ dst x ty pos after g w hx h
@[go_sem ↓ high] theorem QbM(ρ:Operand→Value)(dst:Option Tmp)(x y:Operand)(ty:TypeId)(pos:String)(after:Array Edge)(g:Option (Nat×Bool))(w:World)
  (hx:ρ x= .pointer (some ⟨Qb (ρ x),Qd (ρ x),none⟩))(hy:ρ y= .agg (ρ y).cells)(hs:Qn (ρ y).cells 4)(h:Fits (Qd (ρ x)) 4 (Qc w (Qb (ρ x))))(hz:Qs w (Qb (ρ x))=(0,0))(h1:QK (ρ y).cells):
  (execOp ρ ⟨dst,.store 23 x y,ty,pos,after,g⟩).run Tryz.prog w= .ok .skip (Qe w (Qb (ρ x)) (Qd (ρ x)) (ρ y).cells):=by
 unfold Fits at h;unfold Qn at hs;generalize hB:Qb (ρ x)=B at*;generalize hO:Qd (ρ x)=O at*;generalize hC:(ρ y).cells=C at*;have hst:(Instr.storeAt 23 (.pointer (some ⟨B,O,none⟩)) (.agg C)).run Tryz.prog w= .ok () (Qe w B O C):=
  run_storeAt_mid w B O 23 C (fun j hj=>⟨by rw [Qa,Array.getElem?_eq_getElem Om];rfl,Ql hz _⟩) (by rw [QlZ,hs]) h1
 simp only [execOp,hx,hy,Sem.run_bind,hst,Result.andThen_ok,Sem.run_pure]
@[go_sem ↓ high] theorem QsB{ty:TypeId}(w:World)
  (hx:ρ x= .pointer (some ⟨Qb (ρ x),Qd (ρ x),none⟩))(hy:ρ y= .agg (ρ y).cells)(hs:Qn (ρ y).cells 4)(h:Fits (Qd (ρ x)) 4 (Qc w (Qb (ρ x))))(hz:Qs w (Qb (ρ x))=(0,0))(h1:QK (ρ y).cells):
  (Oper.semAt l ρ ⟨dst,.store 23 x y,ty,pos,after,g⟩).run Tryz.prog w= .ok .skip (Qe w (Qb (ρ x)) (Qd (ρ x)) (ρ y).cells):=by rw [Oper.semAt_eq _ _ _ (fun c h=>by cases h)];exact QbM ρ dst x y ty pos after g w hx hy hs h hz h1
theorem QiE:(Tryz.prog.info? 24).map (·.size)=some 64:=Kr
theorem Qj8{b:Nat}(h:o+64≤(Qc w b).size):(Instr.loadAt 24 (.pointer (some ⟨b,o,none⟩))).run Tryz.prog w= .ok (.agg ((Qc w b).extract o (o+64))) w:=by
 have:=run_loadAt_mid w b o 24 ((Qc w b).extract o (o+64)).toList _ (QC w b o (o+64)) Tryz.underlying24 rfl (by rw [QiE];simp;omega)
 rwa [Array.toArray_toList]at this
@[go_sem ↓ high] theorem Qfv(ρ:Operand→Value)(dst:Option Tmp)(x:Operand)(ty:TypeId)(pos:String)(after:Array Edge)(g:Option (Nat×Bool))(w:World)
  (hx:ρ x= .pointer (some ⟨Qb (ρ x),Qd (ρ x),none⟩))(h:Fits (Qd (ρ x)) 64 (Qc w (Qb (ρ x)))):
  (execOp ρ ⟨dst,.load 24 x,ty,pos,after,g⟩).run Tryz.prog w= .ok (.value (.agg (QB (Qc w (Qb (ρ x))) (Qd (ρ x)) 64))) w:=by
 unfold Fits at h;generalize hB:Qb (ρ x)=B at*;generalize hO:Qd (ρ x)=O at*;simp only [execOp,hx,Sem.run_bind,Qj8 h,Result.andThen_ok,Sem.run_pure,QB]
@[go_sem ↓ high] theorem QsC{ty:TypeId}(w:World)
  (hx:ρ x= .pointer (some ⟨Qb (ρ x),Qd (ρ x),none⟩))(h:Fits (Qd (ρ x)) 64 (Qc w (Qb (ρ x)))):
  (Oper.semAt l ρ ⟨dst,.load 24 x,ty,pos,after,g⟩).run Tryz.prog w= .ok (.value (.agg (QB (Qc w (Qb (ρ x))) (Qd (ρ x)) 64))) w:=by rw [Oper.semAt_eq _ _ _ (fun c h=>by cases h)];exact Qfv ρ dst x ty pos after g w hx h
@[go_sem ↓ high] theorem QeT(ρ:Operand→Value)(dst:Option Tmp)(x y:Operand)(ty:TypeId)(pos:String)(after:Array Edge)(g:Option (Nat×Bool))(w:World)
  (hx:ρ x= .pointer (some ⟨Qb (ρ x),Qd (ρ x),none⟩))(hy:ρ y= .agg (ρ y).cells)(hs:Qn (ρ y).cells 64)(h:Fits (Qd (ρ x)) 64 (Qc w (Qb (ρ x))))(hz:Qs w (Qb (ρ x))=(0,0))(h1:QK (ρ y).cells):
  (execOp ρ ⟨dst,.store 24 x y,ty,pos,after,g⟩).run Tryz.prog w= .ok .skip (Qe w (Qb (ρ x)) (Qd (ρ x)) (ρ y).cells):=by
 unfold Fits at h;unfold Qn at hs;generalize hB:Qb (ρ x)=B at*;generalize hO:Qd (ρ x)=O at*;generalize hC:(ρ y).cells=C at*;have hst:(Instr.storeAt 24 (.pointer (some ⟨B,O,none⟩)) (.agg C)).run Tryz.prog w= .ok () (Qe w B O C):=
  run_storeAt_mid w B O 24 C (fun j hj=>⟨by rw [Qa,Array.getElem?_eq_getElem Om];rfl,Ql hz _⟩) (by rw [QiE,hs]) h1
 simp only [execOp,hx,hy,Sem.run_bind,hst,Result.andThen_ok,Sem.run_pure]
@[go_sem ↓ high] theorem QrL{ty:TypeId}(w:World)
  (hx:ρ x= .pointer (some ⟨Qb (ρ x),Qd (ρ x),none⟩))(hy:ρ y= .agg (ρ y).cells)(hs:Qn (ρ y).cells 64)(h:Fits (Qd (ρ x)) 64 (Qc w (Qb (ρ x))))(hz:Qs w (Qb (ρ x))=(0,0))(h1:QK (ρ y).cells):
  (Oper.semAt l ρ ⟨dst,.store 24 x y,ty,pos,after,g⟩).run Tryz.prog w= .ok .skip (Qe w (Qb (ρ x)) (Qd (ρ x)) (ρ y).cells):=by rw [Oper.semAt_eq _ _ _ (fun c h=>by cases h)];exact QeT ρ dst x y ty pos after g w hx hy hs h hz h1
def mdz:Md:=⟨0,0,0,false⟩
def md0:Md:=⟨0,-1,0,false⟩
def agz:Ag:=⟨0,0,fun _=>mdz,none,[],0⟩
theorem QsD:Tryz.zeroCells27=agv agz:=Kr
theorem Qz(ρ:Operand→Value)(dst:Option Tmp)(ty:TypeId)(pos:String)(after:Array Edge)(g:Option (Nat×Bool))(w:World):
  (execOp ρ ⟨dst,.alloc 27,ty,pos,after,g⟩).run Tryz.prog w= .ok (.value (.pointer (some ⟨w.heap.size,0,none⟩))) (w.alloc (.cells (agv agz) 27)):=by
 have h:(execOp ρ ⟨dst,.alloc 27,ty,pos,after,g⟩).run Tryz.prog w= .ok (.value (.pointer (some ⟨w.heap.size,0,none⟩))) (w.alloc (.cells Tryz.zeroCells27 27)):=Kr
 rw [h,QsD]
theorem Z1{ty:TypeId}(w:World):
  (Oper.semAt l ρ ⟨dst,.alloc 27,ty,pos,after,g⟩).run Tryz.prog w= .ok (.value (.pointer (some ⟨w.heap.size,0,none⟩))) (w.alloc (.cells (agv agz) 27)):=by rw [Oper.semAt_eq _ _ _ (fun c h=>by cases h)];exact Qz ρ dst ty pos after g w
theorem Yp{b:Nat}{x}(h:Qc w b=agv x):(loadVar 27 ⟨b,0,none⟩).run Tryz.prog w= .ok (.agg (agv x)) w:=by
 have e:=Qj7 (w:=w) (b:=b) (o:=0) (by rw [h,Qg];exact Nat.le_refl _);have c:= @QdJ x;unfold QB at c;rw [h,c]at e;exact e
theorem QiF(off n:Nat)(f:Nat→Value)(v:Value):(#[v]:Array Value).zipIdx.foldl (fun cs (x:Value×Nat)=>cs.setIfInBounds (off+x.2) x.1) (rowv n f)=rowv n (upd f off v):=by
 show(rowv n f).setIfInBounds (off+0) v=_;rw [Nat.add_zero,QhA]
theorem Qav(k:IntKind)(n:Int):(Value.int k n).cells=#[.int k n]:=rfl
theorem QcC{P:Program}{T:TypeId}{fields:Array Go.Field}{zc cells:Array Value}(places:Array (Nat×Nat)){parts:Array (Nat×Value)}(hz:(zeroValue T).run P w= .ok (.agg zc) w)(hu:P.underlying T=some (.struct fields))
  (hm:(fields.mapM fun(f:Go.Field)=>do pure (f.offset,←sizeOf f.type)).run P w= .ok places w)(hf:Instr.fill (places[·]?) zc parts.toList=some cells):(Instr.build T parts).run P w= .ok (.agg cells) w:=by
 have hu':=run_underlying hu w;unfold Instr.build;simp only [Sem.run_bind,hz,Result.andThen_ok,hu',hm,QF,hf,Sem.run_pure]
@[go_sem] theorem Qxc(k:IntKind)(n:Int):intOf (.int k n)=n:=rfl
def Qj9(a b:Int):Ag:={agz with id:=a,idle:=b}
theorem QsE(a b:Int)(place:Nat→Option (Nat×Nat))(h0:place 0=some (0,1))(h1:place 1=some (1,1)):
  Instr.fill place (agv agz) [(0,.int .i64 a),(1,.int .i64 b)]=some (agv (Qj9 a b)):=by
 have e1:((Value.int .i64 a).cells.zipIdx.foldl (fun cs (x:Value×Nat)=>cs.setIfInBounds (0+x.2) x.1) (agv agz))=rowv 67 (upd (Ag.at agz) 0 (.int .i64 a)):=by
  rw [Qav];exact QiF 0 67 _ _
 have e2:((Value.int .i64 b).cells.zipIdx.foldl (fun cs (x:Value×Nat)=>cs.setIfInBounds (1+x.2) x.1) (rowv 67 (upd (Ag.at agz) 0 (.int .i64 a))))=agv (Qj9 a b):=by
  unfold Qj9;rw [Qav,QiF];refine QH _ _ _ fun j hj=> ?_;unfold upd Ag.at
  by_cases h1:j=1
  ·subst h1;rfl
  ·rw [if_neg h1]
   by_cases h2:j=0
   ·subst h2;rfl
   ·rw [if_neg h2,if_neg h2,if_neg h1,if_neg h2,if_neg h1]
 have c1: ¬((Value.int .i64 a).cells.size≠1||0+(Value.int .i64 a).cells.size>(agv agz).size)=true:=by rw [Qav,Qg];simp
 have c2: ¬((Value.int .i64 b).cells.size≠1||1+(Value.int .i64 b).cells.size>(rowv 67 (upd (Ag.at agz) 0 (.int .i64 a))).size)=true:=by rw [Qav,QY];simp
 unfold Instr.fill;simp only [h0];rw [if_neg c1];unfold Instr.fill;simp only [h1];rw [e1,if_neg c2];unfold Instr.fill;rw [e2]
theorem Qnd(a b:Int)(w:World):(Instr.build 27 #[(0,.int .i64 a),(1,.int .i64 b)]).run Tryz.prog w= .ok (.agg (agv (Qj9 a b))) w:=by
 refine QcC #[(0,1),(1,1),(2,64),(66,1)] (Tryz.zeroValue27 w) Tryz.underlying27 Kr ?_;rw [QsD];exact QsE a b _ Kr Kr
theorem QeU{a b:Operand}{ty:TypeId}(w:World)(ha:ρ a= .int .i64 (intOf (ρ a)))(hb:ρ b= .int .i64 (intOf (ρ b))):
  (execOp ρ ⟨dst,.build 27 #[(0,a),(1,b)],ty,pos,after,g⟩).run Tryz.prog w= .ok (.value (.agg (agv (Qj9 (intOf (ρ a)) (intOf (ρ b)))))) w:=by
 generalize intOf (ρ a)=m at*;generalize intOf (ρ b)=n at*;have h:=Qnd m n w;simp only [execOp,List.map_toArray,List.map_cons,List.map_nil,ha,hb,Sem.run_bind,h,Result.andThen_ok,Sem.run_pure]
attribute [go_sem ↓ high] QeU
theorem QiG{W:World}{b k:Nat}{a:Ag}(e:Md)(hr:Qc W b=agv a)(hk:k<16):Qc (Qe W b (2+k*4) (mdv e)) b=agv {a with md:=fun i=>if i=k then e else a.md i}:=by
 unfold agv at*;unfold mdv;rw [QdV _ _ _ _ _ _ _ hr Om];refine QH _ _ _ fun j hj=> ?_;unfold ovl Ag.at;dsimp only
 by_cases h0:j<2
 ·obtain rfl|rfl:j=0∨j=1:=by omega
  ·rw [if_neg Om];rfl
  ·rw [if_neg Om];rfl
 ·have n0: ¬j=0:=by omega
  have n1: ¬j=1:=by omega
  by_cases h1:2+k*4≤j∧j<2+k*4+4
  ·rw [if_pos h1,if_neg n0,if_neg n1,if_pos (show j<66 by omega),if_pos (show(j- 2)/4=k by omega),show(j- 2) % 4=j- (2+k*4)by omega]
  ·rw [if_neg h1,if_neg n0,if_neg n0,if_neg n1,if_neg n1]
   by_cases h2:j<66
   ·rw [if_pos h2,if_pos h2,if_neg (show ¬(j- 2)/4=k by omega)]
   ·rw [if_neg h2,if_neg h2]
def agN(id idle:Int):Ag:={agz with id:=id,idle:=idle,md:=fun _=>md0}
theorem Qf3{s u:Ag}(h1:s.id=u.id)(h2:s.idle=u.idle)(h3: ∀i,i<16→s.md i=u.md i)(h7:s.p=u.p)(h8:s.xs=u.xs)(h9:s.c=u.c):agv s=agv u:=by
 unfold agv;refine QH _ _ _ fun j hj=> ?_;unfold Ag.at;rw [h1,h2,h7,h8,h9]
 by_cases a1:j=0
 ·rw [if_pos a1,if_pos a1]
 rw [if_neg a1,if_neg a1]
 by_cases a2:j=1
 ·rw [if_pos a2,if_pos a2]
 rw [if_neg a2,if_neg a2]
 by_cases a3:j<66
 ·rw [if_pos a3,if_pos a3,h3 _ Om]
 ·rw [if_neg a3,if_neg a3]
theorem Qab{W:World}{b:Nat}{a:Ag}(p:Option Addr)(xs:List Co)(c:Nat)(hr:Qc W b=agv a):Qc (W.setCell ⟨b,66,none⟩ (.slice p xs.length c)) b=agv {a with p:=p,xs:=xs,c:=c}:=by
 rw [YA,if_pos rfl,hr];unfold agv;rw [QhA];refine QH _ _ _ fun j hj=> ?_;unfold upd Ag.at;dsimp only
 by_cases h:j=66
 ·subst h;rfl
 ·rw [if_neg h]
  by_cases h0:j=0
  ·rw [if_pos h0,if_pos h0]
  ·rw [if_neg h0,if_neg h0]
   by_cases h1:j=1
   ·rw [if_pos h1,if_pos h1]
   ·rw [if_neg h1,if_neg h1,if_pos (show j<66 by omega),if_pos (show j<66 by omega)]
def toR(m:Md):Ru.Md:=⟨m.kind,m.peer,m.gen,m.ret⟩
def mdR(m:Md):Bool:=(toR m).right
theorem YH(m:Md):mdv m=#[.int .u8 m.kind,.int .i64 m.peer,.int .i64 m.gen,.bool m.ret]:=by unfold mdv;rfl
theorem Qaw(m:Md):Value.agg (mdv m)=(toR m).v:=by rw [YH];rfl
theorem Qka(m:Md)(w:World)(h0:0≤m.kind):Cr 73 #[.agg (mdv m)] w (.bool (mdR m)):=by
 rw [Qaw];exact Ru.Qa5 (toR m) w h0
theorem QeV(m:Md)(w:World)(h0:0≤m.kind):Cr 35 #[.agg (mdv m)] w (.bool (mdR m)):=by
 rw [Qaw];exact Ru.Qw2 (toR m) w h0
theorem QpT(w:World):Cr 38 #[] w (.agg (mdv md0)):=by
 rw [Qaw];exact Ru.Qsu w
def Yj(a:Ag):Bool:=decide (0≤a.id)&&decide (a.id<6)&&decide (0≤a.idle)&&decide (a.idle≤1099511627776)&&QJ a.xs
def Qdd(a:Ag)(k:Nat):Bool:=mdR (a.md k)&&(a.md k).peer !=a.id
def cnA(a:Ag)(c:Co):Bool:=(a.md (ofT c.t).toNat).kind !=0&&!(a.md (ofT c.t).toNat).ret
def agR(a:Ag):Bool:=Yj a&&((List.range 16).all fun k=>Qdd a k)&&a.xs.all fun c=>cnA a c
theorem Ya{a:Ag}(h:Yj a=false):agR a=false:=by unfold agR;rw [h];rfl
theorem QpU{a:Ag}(k:Nat)(hk:k<16)(h:Qdd a k=false):agR a=false:=by
 unfold agR;rw [show((List.range 16).all fun k=>Qdd a k)=false from List.all_eq_false.2 ⟨k,List.mem_range.2 hk,by simp [h]⟩];simp
theorem QpV{a:Ag}(c:Co)(hc:c∈a.xs)(h:cnA a c=false):agR a=false:=by
 unfold agR;rw [show(a.xs.all fun c=>cnA a c)=false from List.all_eq_false.2 ⟨c,hc,by simp [h]⟩];simp
theorem QvC{a:Ag}(h:Yj a=true)(h2: ∀k,k<16→Qdd a k=true)(h3: ∀c∈a.xs,cnA a c=true):agR a=true:=by
 unfold agR;rw [h,List.all_eq_true.2 fun k hk=>h2 k (List.mem_range.1 hk),List.all_eq_true.2 h3];rfl
section
theorem QsF(p q:Option Addr)(xs ys:List Co)(c c':Nat)(w:World)(hs:SlC w p xs)(ht:SlC w q ys)(hl:xs.length≤1000)(hm:ys.length≤1000):
  Cr 78 #[.slice p xs.length c,.slice q ys.length c'] w (.bool (decide (xs=ys))):=by
 by_cases hle:xs.length=ys.length
 ·have hlb:((xs.length:Int) !=ys.length)=false:=by simp [hle]
  have HLE:=Xh hle;rw [hle]at hlb⊢;clear hle
  go_enter Tryz.func78,Tryz.ntmps78
  go_wp2
  go_loopw [5,13] (fun _ a wr=> ∃k:Nat,k≤xs.length∧a= .int .i64 k∧xs.take k=ys.take k∧Ext w wr) (fun _ a _=>ys.length- (intOf a).toNat)
  case atStart=>exact⟨0,Nat.zero_le _,rfl,rfl,Ext.rf _⟩
  case round=>
   obtain⟨k,hk,rfl,hT,hE⟩:=hrel;have hle:=HLE.out
   by_cases hlt:k<ys.length
   ·have hil:(k:Int)<ys.length:=by omega
    obtain⟨b1,o1,rfl,lb1,c0,c1,c2,c3,c4,c5⟩:=(hs.ext hE) k Om;obtain⟨b2,o2,rfl,lb2,d0,d1,d2,d3,d4,d5⟩:=(ht.ext hE) k hlt;have L1:Lt b1 wr:=lb1;have L2:Lt b2 wr:=lb2;have HH:=Xh hs;have HT:=Xh ht;have hx1:k<xs.length:=by omega
    obtain⟨x,hx⟩: ∃x,xs[k]=x:=⟨_,rfl⟩;obtain⟨y,hy⟩: ∃y,ys[k]=y:=⟨_,rfl⟩;have hT1:xs.take (k+1)=xs.take k++ [x]:=by rw [List.take_succ_eq_append_getElem hx1,hx]
    have hT2:ys.take (k+1)=ys.take k++ [y]:=by rw [List.take_succ_eq_append_getElem hlt,hy]
    rw [hx]at c0 c1 c2 c3 c4 c5;rw [hy]at d0 d1 d2 d3 d4 d5;clear hs ht hle lb1 lb2
    by_cases hxy:x=y
    ·subst hxy;have HN:=Xh (show xs.take (k+1)=ys.take (k+1)by rw [hT1,hT2,hT]);clear hT hT1 hT2 hx hy
     go_upto_region 6 with(fail)
     refine Qk Kr Kr ?_;(repeat(go_big_quiet_step (fail)));refine wpQuiet_nil ?_;intro d
     have hd:=Qt d;go_wp2
     go_roundw
     case rel=>exact⟨k+1,Om,by go_num,HN.out,hE.tr hd⟩
     case measure=>simp [intOf];omega
    ·have HXY:=Xh hxy
     have HR:=Xh (show decide (xs=ys)=false by
      refine decide_eq_false fun e=>hxy ?_;subst e
      rw [←hx,←hy])
     clear hT hT1 hT2 hx hy hxy
     go_upto_region 6 with(fail)
     refine Qk Kr Kr ?_;(repeat(go_big_quiet_step (fail)))
     refine QdG (v:= .bool true) Kr (QxD HXY.out Kr Kr) ?_;refine wpQuiet_nil ?_;intro d
     have hd:=Qt d;go_simp;go_wp2;exact bodyPost_ret (v:= .bool false) (by simp [results,Tryz.results78,go_sem]) rfl ⟨by rw [HR.out],hE.tr hd⟩
   ·have hil: ¬((k:Int)<ys.length):=by omega
    have HR:=Xh (show decide (xs=ys)=true by
     refine decide_eq_true ?_
     rwa [List.take_of_length_le Om,List.take_of_length_le Om]at hT)
    clear hT;go_wp2;exact bodyPost_ret (v:= .bool true) (by simp [results,Tryz.results78,go_sem]) rfl ⟨by rw [HR.out],hE⟩
 ·have hlb:((xs.length:Int) !=ys.length)=true:=by simp;omega
  have HR:=Xh (show decide (xs=ys)=false from decide_eq_false fun e=>hle (by rw [e]));clear hle
  go_enter Tryz.func78,Tryz.ntmps78
  go_wp2;exact bodyPost_ret (v:= .bool false) (by simp [results,Tryz.results78,go_sem]) rfl ⟨by rw [HR.out],Ext.rf _⟩
def Qde(a b:Md):Bool:=a.kind==b.kind&&a.peer==b.peer&&a.gen==b.gen&&a.ret==b.ret
def Qne(a b:Nat→Md):Bool:=(List.range 16).all fun i=>Qde (a i) (b i)
abbrev md4(a b c:Int)(d:Bool):Value:= .agg #[.int .u8 a,.int .i64 b,.int .i64 c,.bool d]
theorem QpW(a b c:Int)(d:Bool)(a' b' c':Int)(d':Bool)(w:World):
  (Op.equalIn 9999 23 (md4 a b c d) (md4 a' b' c' d')).run Tryz.prog w= .ok (a==a'&&b==b'&&c==c'&&d==d') w:=by
 go_simp
 by_cases h1:a=a'<;>by_cases h2:b=b'<;>by_cases h3:c=c'<;>by_cases h4:d=d'<;>simp [*]
theorem QsG(a b:Md)(w:World):(Op.equalIn 9999 23 (.agg (mdv a)) (.agg (mdv b))).run Tryz.prog w= .ok (Qde a b) w:=by
 rw [YH,YH];exact QpW _ _ _ _ _ _ _ _ w
theorem QpX: ∃i,Tryz.prog.info? 23=some i:=Option.isSome_iff_exists.1 Kr
theorem Qnf:Tryz.prog.cellsOf 23=4:=Kr
theorem QpY(w:World):(isAgg 23).run Tryz.prog w= .ok true w:=Kr
theorem QpZ(w:World):(sizeOf 23).run Tryz.prog w= .ok 4 w:=Kr
theorem QsH(l:Nat→Md)(i:Nat)(hi:i<16):(mdL l).extract (i*4) (i*4+4)=mdv (l i):=by
 show QB (mdL l) (i*4) 4=_;unfold mdL mdv;rw [Q5 _ _ _ _ Om];refine QH _ _ _ fun j hj=> ?_;rw [show(i*4+j)/4=i by omega,show(i*4+j) % 4=j by omega]
theorem QeW(a b:Nat→Md)(w:World): ∀(is:List Nat),(∀i∈is,i<16)→(Op.eqItems 9999 23 4 (mdL a) (mdL b) is).run Tryz.prog w= .ok (is.all fun i=>Qde (a i) (b i)) w
 | [],_=>by simp [Op.eqItems]
 |i::is,h=>by
  have h16:=h i (by simp);have px: ∀l:Nat→Md,(part 23 (mdL l) (i*4)).run Tryz.prog w= .ok (.agg (mdv (l i))) w:=fun l=>by
   have hx:=QsH l i h16;simp [part,Sem.run_bind,QpY,QpZ,hx]
  have pe:=QsG (a i) (b i) w;simp only [Op.eqItems,Sem.run_bind,px,pe,Result.andThen_ok,List.all_cons]
  cases hb:Qde (a i) (b i)
  ·simp
  ·simp only [Bool.not_true,Bool.false_eq_true,if_false,Bool.true_and];exact QeW a b w is fun j hj=>h j (by simp [hj])
theorem QiH(a b:Nat→Md)(w:World):(Op.equalIn 10000 24 (.agg (mdL a)) (.agg (mdL b))).run Tryz.prog w= .ok (Qne a b) w:=by
 obtain⟨i,hi⟩:=QpX;rw [show(10000:Nat)=9999+1 from rfl];have e:(Op.equalIn (9999+1) 24 (.agg (mdL a)) (.agg (mdL b))).run Tryz.prog w= .ok (Qne a b) w:=by
  rw [run_equalIn_array (w:=w) 9999 (n:=16) (e:=23) (mdL a) (mdL b) Tryz.underlying24 hi,Qnf,QeW a b w _ (fun i hi=>by simpa using hi)];rfl
 exact e
@[go_sem ↓ high] theorem Qz1(a b:Nat→Md)(w:World):(binOp .eql 24 (.agg (mdL a)) (.agg (mdL b))).run Tryz.prog w= .ok (.bool (Qne a b)) w:=by
 rw [run_eql_struct,QiH];rfl
@[go_sem ↓ high] theorem Qz2(a b:Nat→Md)(w:World):(binOp .neq 24 (.agg (mdL a)) (.agg (mdL b))).run Tryz.prog w= .ok (.bool (!Qne a b)) w:=by
 rw [run_neq_struct,QiH];rfl
structure QvD(w w':World)(p:Option Addr)(c:Nat)(xs:List Co):Prop where
 own:w'.ownsRow w.heap.size 66 6 (.slice p xs.length c) xs.length (flC xs)
 ext:Ext w w'
theorem QvD.sl{w':World}{c:Nat}{xs:List Co}(h:QvD w w' p c xs):SlC w' p xs:=by
 obtain⟨p',c',e,-,h2⟩:=SlC.own h.own
 cases e;exact h2
attribute [local go_sem ↓ high] Qz Z1
theorem QcD(a:Ag)(w:World)(hs:SlC w a.p a.xs)(hl:a.xs.length≤1000):
  Calls Tryz.prog 25 #[.agg (agv a)] w fun e w'=> ∃p c,e= .returned (.agg (agv {a with p:=p,c:=c}))∧QvD w w' p c a.xs:=by
 have HS:=Xh hs;clear hs
 go_enter Tryz.func25,Tryz.ntmps25
 go_upto_region 1 with(fail)
 obtain⟨W0,hW⟩: ∃W0,(w.alloc (.cells (agv a) 27)).alloc (.cells (agv agz) 27)=W0:=⟨_,rfl⟩;have g0:Ext w W0:=by rw [←hW];exact Ext.al Ea _
 have ra:RowZ W0 w.heap.size (agv a):=by rw [←hW];exact⟨by simp [go_sem],by simp [go_sem],by simp [go_sem,Lt]⟩
 have rz:RowZ W0 (w.heap.size+1) (agv agz):=by rw [←hW];exact⟨by simp [go_sem],by simp [go_sem],by simp [go_sem,Lt]⟩
 rw [hW];clear hW;have c66:W0.cell? ⟨w.heap.size,66,none⟩=some (.slice a.p a.xs.length a.c):=by rw [Qa,ra.r,Qu]
 have l0:=ra.l;have HRA:=Xh ra;have HRZ:=Xh rz;clear ra rz
 go_upto_region 2 with(go_at_call 79;(refine(Qgr a.p a.xs a.c _ (HS.out.ext g0) hl).mono ?_);rintro e w1 ⟨v,rfl,h1,g1⟩;obtain⟨p',c',rfl,hc',s1⟩:=SlC.own h1;have HO:=Xh h1;have ra:=HRA.out.ext g1;have rz:=HRZ.out.ext g1;have d66:w1.cell? ⟨w.heap.size,66,none⟩=some (.slice a.p a.xs.length a.c):=(by rw [Qa,ra.r,Qu]);have f66:=ra.frz 66;have l1:=ra.l;clear h1 s1)
 obtain⟨W2,hW⟩: ∃W2,w1.setCell ⟨w.heap.size,66,none⟩ (.slice p' a.xs.length c')=W2:=⟨_,rfl⟩;have m2:Mv (fun k=>k=w.heap.size) w1 W2:=by rw [←hW];exact Mv.st _ (.inl rfl) (Mv.refl _ _)
 have r2:Qc W2 w.heap.size=agv {a with p:=p',c:=c'}:=by rw [←hW];exact Qab p' a.xs c' ra.r
 have z2:=rz.mv m2 Om;rw [hW];clear hW ra d66 f66 rz;have hz1:=z2.r;have hz2:=z2.z;have HM:=Xh m2;have HZ:=Xh z2;clear m2 z2;go_wp2;have hr:Qc (Qe W2 (w.heap.size+1) 0 (agv {a with p:=p',c:=c'})) (w.heap.size+1)=agv {a with p:=p',c:=c'}:=Qq _ _ _ (by rw [HZ.out.r,Qg,Qg]);have m3:Mv (fun k=>k=w.heap.size∨k=w.heap.size+1) w1 (Qe W2 (w.heap.size+1) 0 (agv {a with p:=p',c:=c'})):=(HM.out.mono (fun k _ h=> .inl h)).trans (Mv.sa _ (.inr rfl) (Mv.refl _ _));have hw0:=g0.size;refine bodyPost_ret (Zv rfl _ _ (w.heap.size+1) rfl (Yp hr)) rfl ⟨p',c',rfl,?_,Mv.ext_of (g0.tr g1) m3 (fun k h=>by omega)⟩;have hs0:w.heap.size+2≤W0.heap.size:=by have:=HRZ.out.l;unfold Lt at this;omega
 exact QA (Qw (C:=fun k=>k=w.heap.size∨k=w.heap.size+1) HO.out m3 (fun k hk e=>by omega)) Om
def Jl(a b:Ag):Bool:=a.id==b.id&&a.idle==b.idle&&Qne a.md b.md&&decide (a.xs=b.xs)
theorem Qdf(a b:Ag)(w:World)(hs:SlC w a.p a.xs)(ht:SlC w b.p b.xs)(hl:a.xs.length≤1000)(hm:b.xs.length≤1000):
  Cr 24 #[.agg (agv a),.agg (agv b)] w (.bool (Jl a b)):=by
 have HQ:=Xh (fun W (hE:Ext w W)=>QsF a.p b.p a.xs b.xs a.c b.c W (hs.ext hE) (ht.ext hE) hl hm);clear hs ht
 go_enter Tryz.func24,Tryz.ntmps24
 go_upto_region 1 with(fail)
 obtain⟨W0,hW⟩: ∃W0,(w.alloc (.cells (agv a) 27)).alloc (.cells (agv b) 27)=W0:=⟨_,rfl⟩;have g0:Ext w W0:=by rw [←hW];exact Ext.al Ea _
 have ra:Qc W0 w.heap.size=agv a:=by rw [←hW];simp [go_sem]
 have rb:Qc W0 (w.heap.size+1)=agv b:=by rw [←hW];simp [go_sem]
 have l1:Lt (w.heap.size+1) W0:=by rw [←hW];simp [go_sem,Lt]
 have l0:Lt w.heap.size W0:=by rw [←hW];simp [go_sem,Lt]
 rw [hW];clear hW;have c0:W0.cell? ⟨w.heap.size,0,none⟩=some (.int .i64 a.id):=by rw [Qa,ra,Jw]
 have c1:W0.cell? ⟨w.heap.size,1,none⟩=some (.int .i64 a.idle):=by rw [Qa,ra,Jb]
 have d0:W0.cell? ⟨w.heap.size+1,0,none⟩=some (.int .i64 b.id):=by rw [Qa,rb,Jw]
 have d1:W0.cell? ⟨w.heap.size+1,1,none⟩=some (.int .i64 b.idle):=by rw [Qa,rb,Jb]
 have c66:W0.cell? ⟨w.heap.size,66,none⟩=some (.slice a.p a.xs.length a.c):=by rw [Qa,ra,Qu]
 have d66:W0.cell? ⟨w.heap.size+1,66,none⟩=some (.slice b.p b.xs.length b.c):=by rw [Qa,rb,Qu]
 cases h1:(a.id==b.id)
 ·have HN:=Xh (show Jl a b=false by unfold Jl;rw [h1];rfl);go_wp2;go_ret;exact⟨Qm HN.out.symm,g0⟩
 cases h2:(a.idle==b.idle)
 ·have HN:=Xh (show Jl a b=false by unfold Jl;rw [h2];simp);go_wp2;go_ret;exact⟨Qm HN.out.symm,g0⟩
 cases h3:Qne a.md b.md
 ·have HN:=Xh (show Jl a b=false by unfold Jl;rw [h3];simp);go_wp2;go_ret;exact⟨Qm HN.out.symm,g0⟩
 have HN:=Xh (show Jl a b=decide (a.xs=b.xs)by unfold Jl;rw [h1,h2,h3];rfl)
 go_wp2_with (go_at_call 78;(refine(HQ.out _ g0).mono ?_);rintro e w1 ⟨rfl,g1⟩)
 go_ret;exact⟨Qm HN.out.symm,g0.tr g1⟩
end
@[go_sem] theorem Qxd{a b c d:Value}{m:Nat}:Fits o m #[a,b,c,d]=(o+m≤4):=by unfold Fits;rfl
@[go_sem] theorem Qun{x}:QB (mdv x) 0 4=mdv x:=Q9 _ _ J2
def SlM(w:World)(p:Option Addr)(xs:List Md):Prop:= ∀k,(h:k<xs.length)→ ∃b off,p=some ⟨b,off,none⟩∧b<w.heap.size∧w.cell? ⟨b,off+k*4,none⟩=some (.int .u8 xs[k].kind)∧w.cell? ⟨b,off+k*4+1,none⟩=some (.int .i64 xs[k].peer)∧w.cell? ⟨b,off+k*4+2,none⟩=some (.int .i64 xs[k].gen)∧w.cell? ⟨b,off+k*4+3,none⟩=some (.bool xs[k].ret)
theorem SlM.ext{w':World}{xs:List Md}(h:SlM w p xs)(e:Ext w w'):SlM w' p xs:=fun k hk=>by
 obtain⟨b,off,hp,hb,c0,c1,c2,c3⟩:=h k hk;exact⟨b,off,hp,Xl hb e.size,(e.cell (p:=⟨b,off+k*4,none⟩) hb).trans c0,(e.cell (p:=⟨b,off+k*4+1,none⟩) hb).trans c1,(e.cell (p:=⟨b,off+k*4+2,none⟩) hb).trans c2,(e.cell (p:=⟨b,off+k*4+3,none⟩) hb).trans c3⟩
theorem SlM.nil(w:World)(p:Option Addr):SlM w p []:=fun k hk=>by simp at hk
theorem QiI(g:Nat)(lb:Array Value)(eg: ∀args w,(callFunc g args).run Tryz.prog w= .ok (.enter g args) w)(pr:Md→Bool)(p:Option Addr)(xs:List Md)(c:Nat)(w:World)
  (hs:SlM w p xs)(hl:xs.length≤1000)(hf: ∀x W,x∈xs→Ext w W→Cr g (#[.agg #[.int .u8 x.kind,.int .i64 x.peer,.int .i64 x.gen,.bool x.ret]]++lb) W (.bool (pr x))):
  Cr 144 #[.slice p xs.length c,.func (.func g) #[] lb] w (.int .i64 (idx pr xs)):=by
 have HF:=Xh hf;clear hf
 go_enter Tryz.func144,Tryz.ntmps144
 go_wp2
 go_loopw [5,8] (fun _ i wr=> ∃k:Nat,k≤xs.length∧i= .int .i64 k∧(∀j,j<k→ ∀(hj:j<xs.length),pr xs[j]=false)∧Ext w wr) (fun _ i _=>xs.length- (intOf i).toNat)
 case atStart=>exact⟨0,Nat.zero_le _,rfl,fun j hj=>by omega,Ext.rf _⟩
 case round=>
  obtain⟨k,hk,rfl,hno,hE⟩:=hrel;have HN:=Xh hno;clear hno
  by_cases hlt:k<xs.length
  ·have hil:(k:Int)<xs.length:=by omega
   obtain⟨b,off,rfl,hb,c0,c1,c2,c3⟩:=(hs.ext hE) k hlt;have lbb:Lt b wr:=hb;have HC:=HF.out xs[k] wr (List.getElem_mem hlt) hE;obtain⟨x,hx⟩: ∃x,xs[k]=x:=⟨_,rfl⟩;rw [hx]at c0 c1 c2 c3 HC;have HX:=Xh hx;clear hx
   cases hp:pr x
   ·rw [hp]at HC;have HP:=Xh hp;clear hp;have HCC:=Xh HC;clear HC
    go_wp2_with ((with_reducible refine(HCC.out).mono ?_);rintro e w' ⟨rfl,hb'⟩)
    go_roundw
    case rel=>exact⟨k+1,Om,by go_num,fun j hj hj'=>by
     rcases Nat.lt_or_ge j k with h|h
     ·exact HN.out j h hj'
     ·obtain rfl:j=k:=by omega
      rw [HX.out,HP.out],hE.tr hb'⟩
    case measure=>simp [intOf];omega
   ·rw [hp]at HC;have HP:=Xh hp;clear hp;have HCC:=Xh HC;clear HC
    go_wp2_with ((with_reducible refine(HCC.out).mono ?_);rintro e w' ⟨rfl,hb'⟩)
    go_ret;exact⟨by rw [QhH pr xs k hlt (fun j hj=>HN.out j hj _) (by rw [HX.out,HP.out])];rfl,hE.tr hb'⟩
  ·obtain rfl:k=xs.length:=by omega
   go_wp2;go_ret;exact⟨by rw [QhG pr xs (fun j hj=>HN.out j hj hj)];rfl,hE⟩
theorem QeX(g:Nat)(lb:Array Value)(eg: ∀args w,(callFunc g args).run Tryz.prog w= .ok (.enter g args) w)(pr:Md→Bool)(p:Option Addr)(xs:List Md)(c:Nat)(w:World)
  (hs:SlM w p xs)(hl:xs.length≤1000)(hf: ∀x W,x∈xs→Ext w W→Cr g (#[.agg #[.int .u8 x.kind,.int .i64 x.peer,.int .i64 x.gen,.bool x.ret]]++lb) W (.bool (pr x))):
  Cr 74 #[.slice p xs.length c,.func (.func g) #[] lb] w (.bool (xs.any pr)):=by
 have HF:=Xh hf;have HE:=Xh eg;clear hf eg
 go_enter Tryz.func74,Tryz.ntmps74
 go_wp2_with (go_at_call 144;(refine(QiI g lb HE.out pr p xs c _ hs hl HF.out).mono ?_);rintro e w' ⟨rfl,hb⟩)
 go_ret;exact⟨Qm (Qoh _ _),hb⟩
def YI(a:Ag):List Md:=(List.range 16).map a.md
theorem Qca(a:Ag):(YI a).length=16:=by simp [YI]
theorem Qkb(a:Ag)(k:Nat)(h:k<(YI a).length):(YI a)[k]=a.md k:=by simp [YI]
theorem SlM.ag{a:Ag}(hr:Qc w B=agv a)(hl:Lt B w):SlM w (some ⟨B,2,none⟩) (YI a):=fun k hk=>by
 rw [Qkb];rw [Qca]at hk;have key: ∀j,j<4→w.cell? ⟨B,2+k*4+j,none⟩=some ((a.md k).at j):=fun j hj=>by
  rw [Qa,hr];unfold agv;rw [QM,if_pos Om];unfold Ag.at
  rw [if_neg Om,if_neg Om,if_pos Om,show(2+k*4+j- 2)/4=k by omega,show(2+k*4+j- 2) % 4=j by omega]
 exact⟨B,2,rfl,hl,key 0 Om,key 1 Om,key 2 Om,key 3 Om⟩
def Jm(id:Int)(m:Md):Bool:=!mdR m||m.peer==id
def QbN(a:Ag)(c:Co):Bool:=(a.md (ofT c.t).toNat).kind==0||(a.md (ofT c.t).toNat).ret
theorem Qfw: ∀args w,(callFunc 72 args).run Tryz.prog w= .ok (.enter 72 args) w:=enters_of Tryz.func72 Kr rfl
theorem Qhd: ∀args w,(callFunc 71 args).run Tryz.prog w= .ok (.enter 71 args) w:=enters_of Tryz.func71 Kr rfl
theorem Qkc(m:Md)(id:Int)(B:Nat)(w:World)(hB:w.cell? ⟨B,0,none⟩=some (.int .i64 id))(lB:Lt B w)(h0:0≤m.kind):
  Cr 72 #[.agg (mdv m),.pointer (some ⟨B,0,none⟩)] w (.bool (Jm id m)):=by
 have HM:=Xh (fun W=>Qka m W h0)
 go_enter Tryz.func72,Tryz.ntmps72
 go_upto_region 1 with(fail)
 obtain⟨W0,hW⟩: ∃W0,w.alloc (.cells (mdv m) 23)=W0:=⟨_,rfl⟩;have g0:Ext w W0:=by rw [←hW];exact Ea
 have rx:Qc W0 w.heap.size=mdv m:=by rw [←hW];simp [go_sem]
 have lx:Lt w.heap.size W0:=by rw [←hW];simp [go_sem]
 have hB0:W0.cell? ⟨B,0,none⟩=some (.int .i64 id):=(g0.cell (p:=⟨B,0,none⟩) lB).trans hB;have lB0:Lt B W0:=Xl lB g0.size;rw [hW];clear hW hB lB;have c1:W0.cell? ⟨w.heap.size,1,none⟩=some (.int .i64 m.peer):=by rw [Qa,rx,Qsg]
 generalize w.heap.size=X at*
 cases h1:mdR m
 ·have HN:=Xh (show Jm id m=true by unfold Jm;rw [h1];rfl);rw [h1]at HM
  go_wp2_with (go_at_call 73;(refine(HM.out _).mono ?_);rintro e w1 ⟨rfl,g1⟩)
  go_ret;exact⟨Qm HN.out.symm,g0.tr g1⟩
 ·have HN:=Xh (show Jm id m=(m.peer==id)by unfold Jm;rw [h1];rfl);rw [h1]at HM
  go_wp2_with (go_at_call 73;(refine(HM.out _).mono ?_);rintro e w1 ⟨rfl,g1⟩;have e1:w1.cell? ⟨X,1,none⟩=some (.int .i64 m.peer):=(g1.cell (p:=⟨X,1,none⟩) lx).trans c1;have e2:w1.cell? ⟨B,0,none⟩=some (.int .i64 id):=(g1.cell (p:=⟨B,0,none⟩) lB0).trans hB0;have e3:Lt X w1:=Xl lx g1.size;have e4:Lt B w1:=Xl lB0 g1.size)
  go_ret;exact⟨Qm HN.out.symm,g0.tr g1⟩
theorem Qng(a:Ag)(x:Co)(hx:TuR x.t)(B:Nat)(w:World)(hB:Qc w B=agv a)(lB:Lt B w):
  Cr 71 #[.agg #[.int .u32 x.t.a,.int .u32 x.t.b,.int .u16 x.t.c,.int .u16 x.t.d,.int .i64 x.s,.int .i64 x.l],.pointer (some ⟨B,0,none⟩)] w (.bool (QbN a x)):=by
 obtain⟨o,ho⟩: ∃o:Nat,ofT x.t=o:=⟨(ofT x.t).toNat,by have:=(QbY x.t).1;omega⟩;have ho16:o<16:=by have:=(QbY x.t).2;omega
 have HO:=Xh (fun W=>ho▸QgC x.t hx W);have HCN:=Xh (show QbN a x=((a.md o).kind==0||(a.md o).ret)by unfold QbN;rw [ho];rfl);clear ho hx
 go_enter Tryz.func71,Tryz.ntmps71
 go_upto_region 1 with(fail)
 obtain⟨W0,hW⟩: ∃W0,w.alloc (.cells #[.int .u32 x.t.a,.int .u32 x.t.b,.int .u16 x.t.c,.int .u16 x.t.d,.int .i64 x.s,.int .i64 x.l] 66)=W0:=⟨_,rfl⟩;have g0:Ext w W0:=by rw [←hW];exact Ea
 have r0:RowZ W0 w.heap.size #[.int .u32 x.t.a,.int .u32 x.t.b,.int .u16 x.t.c,.int .u16 x.t.d,.int .i64 x.s,.int .i64 x.l]:=by rw [←hW];exact RowZ.new _ _ _
 have hB0:Qc W0 B=agv a:=Zc g0 lB hB;have lB0:Lt B W0:=Xl lB g0.size;rw [hW];clear hW hB lB;have c0:=r0.cell 0 (by show 0<6;omega);have c1:=r0.cell 1 (by show 1<6;omega);have c2:=r0.cell 2 (by show 2<6;omega);have c3:=r0.cell 3 (by show 3<6;omega);have l0:=r0.l;clear r0;generalize w.heap.size=X at*;have hfit:2+o*4+4≤67:=by omega
 have ho':(o:Int)<16:=by omega
 go_upto_region 2 with(go_at_call 43;(refine(HO.out _).mono ?_);rintro e w4 ⟨rfl,g4⟩;have hR4:=Zc g4 lB0 hB0;have hL4:Lt B w4:=Xl lB0 g4.size)
 obtain⟨W5,hW⟩: ∃W5,Qe (w4.alloc (.cells #[.int .u8 0,.int .i64 0,.int .i64 0,.bool false] 23)) w4.heap.size 0 (mdv (a.md o))=W5:=⟨_,rfl⟩;have g5:Ext w4 W5:=by rw [←hW];exact Ext.sa _ (Nat.le_refl _) Ea
 have r5:Qc W5 w4.heap.size=mdv (a.md o):=by rw [←hW];exact Qq _ _ _ (by rw [Zn,J2];rfl)
 have d0:W5.cell? ⟨w4.heap.size,0,none⟩=some (.int .u8 (a.md o).kind):=by rw [Qa,r5,Qlw]
 have d3:W5.cell? ⟨w4.heap.size,3,none⟩=some (.bool (a.md o).ret):=by rw [Qa,r5,Qlx]
 have HE6:=Xh (g0.tr (g4.tr g5));rw [hW];clear hW g4 g5 r5 hR4 hL4 hB0 lB0 c0 c1 c2 c3 l0;generalize w4.heap.size=M at*
 cases e0:((a.md o).kind==0)
 ·have HN:=Xh (show QbN a x=(a.md o).ret by rw [HCN.out,e0];rfl);go_wp2;go_ret;exact⟨Qm HN.out.symm,HE6.out⟩
 ·have HN:=Xh (show QbN a x=true by rw [HCN.out,e0];rfl);go_wp2;go_ret;exact⟨Qm HN.out.symm,HE6.out⟩
theorem QvE(a:Ag)(h:Yj a=true):agR a=(!((YI a).any (Jm a.id))&&!(a.xs.any (QbN a))):=by
 have e1:((List.range 16).all fun k=>Qdd a k)=!((YI a).any (Jm a.id)):=by
  unfold YI;rw [List.any_map,List.not_any_eq_all_not]
  congr 1
  funext k
  unfold Qdd;show _=!(Jm a.id (a.md k));unfold Jm;rw [Bool.not_or,Bool.not_not];rfl
 have e2:(a.xs.all fun c=>cnA a c)=!(a.xs.any (QbN a)):=by
  rw [List.not_any_eq_all_not]
  congr 1
  funext c
  unfold cnA QbN;rw [Bool.not_or];rfl
 unfold agR;rw [h,e1,e2];rfl
theorem YX(a:Ag)(w:World)(hs:SlC w a.p a.xs)(hl:a.xs.length≤1000)(hr: ∀x∈a.xs,TuR x.t)(hk: ∀k,k<16→0≤(a.md k).kind):
  Cr 22 #[.agg (agv a)] w (.bool (agR a)):=by
 have HS:=Xh hs;have HR:=Xh hr;have HK:=Xh (fun m (hm:m∈YI a)=>show 0≤m.kind by unfold YI at hm;obtain⟨k,hk',rfl⟩:=List.mem_map.1 hm;exact hk k (by simpa using hk'));clear hs hr hk
 go_enter Tryz.func22,Tryz.ntmps22
 go_upto_region 3 with(fail)
 obtain⟨W0,hW⟩: ∃W0,w.alloc (.cells (agv a) 27)=W0:=⟨_,rfl⟩;have g0:Ext w W0:=by rw [←hW];exact Ea
 have rx0:Qc W0 w.heap.size=agv a:=by rw [←hW];simp [go_sem]
 have lx0:Lt w.heap.size W0:=by rw [←hW];simp [go_sem]
 rw [hW];clear hW;have c0:W0.cell? ⟨w.heap.size,0,none⟩=some (.int .i64 a.id):=by rw [Qa,rx0,Jw]
 have c1:W0.cell? ⟨w.heap.size,1,none⟩=some (.int .i64 a.idle):=by rw [Qa,rx0,Jb]
 cases h1:decide (0≤a.id)
 ·have h1':=of_decide_eq_false h1;have HN:=Xh (Ya (a:=a) (by unfold Yj;rw [h1];rfl));go_wp2;go_ret;exact⟨Qm HN.out.symm,g0⟩
 have h1':=of_decide_eq_true h1
 cases h2:decide (a.id<6)
 ·have h2':=of_decide_eq_false h2;have HN:=Xh (Ya (a:=a) (by unfold Yj;rw [h2];simp));go_wp2;go_ret;exact⟨Qm HN.out.symm,g0⟩
 have h2':=of_decide_eq_true h2
 cases h3:decide (0≤a.idle)
 ·have h3':=of_decide_eq_false h3;have HN:=Xh (Ya (a:=a) (by unfold Yj;rw [h3];simp));go_wp2;go_ret;exact⟨Qm HN.out.symm,g0⟩
 have h3':=of_decide_eq_true h3
 cases h4:decide (a.idle≤1099511627776)
 ·have h4':=of_decide_eq_false h4;have HN:=Xh (Ya (a:=a) (by unfold Yj;rw [h4];simp));go_wp2;go_ret;exact⟨Qm HN.out.symm,g0⟩
 have h4':=of_decide_eq_true h4;have c66:W0.cell? ⟨w.heap.size,66,none⟩=some (.slice a.p a.xs.length a.c):=by rw [Qa,rx0,Qu]
 have HLN:=Xh (Qca a)
 have HMO:=Xh (QeX 72 #[.pointer (some ⟨w.heap.size,0,none⟩)] Qfw (Jm a.id) (some ⟨w.heap.size,2,none⟩) (YI a) 16 W0 (SlM.ag rx0 lx0) (by rw [Qca];omega) (fun m W hm hE=>by
  rw [←YH]
  exact Qkc m a.id w.heap.size W ((hE.cell (p:=⟨w.heap.size,0,none⟩) lx0).trans c0) (Xl lx0 hE.size) (HK.out m hm)))
 rw [HLN.out]at HMO;have HCR:=Xh (fun W (hE:Ext W0 W)=>ZG a.p a.xs a.c W (HS.out.ext (g0.tr hE)) hl);have HCC:=Xh (fun W (hE:Ext W0 W)=>QaK 71 #[.pointer (some ⟨w.heap.size,0,none⟩)] Qhd (QbN a) a.p a.xs a.c W (HS.out.ext (g0.tr hE)) hl (fun x W' hm hE'=>Qng a x (HR.out x hm) w.heap.size W' (Zc (hE.tr hE') lx0 rx0) (Xl lx0 (hE.tr hE').size)));clear HS HR HK
 cases h5:QJ a.xs
 ·have HN:=Xh (Ya (a:=a) (by unfold Yj;rw [h5];simp));rw [h5]at HCR
  cases h6:(YI a).any (Jm a.id)
  ·rw [h6]at HMO
   go_wp2_with (first|(go_at_call 74;(with_reducible refine(HMO.out).mono ?_);rintro e w1 ⟨rfl,g1⟩;have d66:w1.cell? ⟨w.heap.size,66,none⟩=some (.slice a.p a.xs.length a.c):=(g1.cell (p:=⟨w.heap.size,66,none⟩) lx0).trans c66;have l1:Lt w.heap.size w1:=Xl lx0 g1.size)|(go_at_call 75;(with_reducible refine(HCR.out _ g1).mono ?_);rintro e w2 ⟨rfl,g2⟩))
   go_ret;exact⟨Qm HN.out.symm,g0.tr (g1.tr g2)⟩
  ·rw [h6]at HMO
   go_wp2_with (go_at_call 74;(refine(HMO.out).mono ?_);rintro e w1 ⟨rfl,g1⟩)
   go_ret;exact⟨Qm HN.out.symm,g0.tr g1⟩
 have HH:=Xh (QvE a (show Yj a=true by unfold Yj;rw [h1,h2,h3,h4,h5];rfl));rw [h5]at HCR
 cases h6:(YI a).any (Jm a.id)
 ·have HN:=Xh (show agR a=!(a.xs.any (QbN a))by rw [HH.out,h6];rfl);rw [h6]at HMO
  go_wp2_with (first|(go_at_call 74;(with_reducible refine(HMO.out).mono ?_);rintro e w1 ⟨rfl,g1⟩;have d66:w1.cell? ⟨w.heap.size,66,none⟩=some (.slice a.p a.xs.length a.c):=(g1.cell (p:=⟨w.heap.size,66,none⟩) lx0).trans c66;have l1:Lt w.heap.size w1:=Xl lx0 g1.size)|(go_at_call 75;(with_reducible refine(HCR.out _ g1).mono ?_);rintro e w2 ⟨rfl,g2⟩;have e66:w2.cell? ⟨w.heap.size,66,none⟩=some (.slice a.p a.xs.length a.c):=(g2.cell (p:=⟨w.heap.size,66,none⟩) l1).trans d66;have l2:Lt w.heap.size w2:=Xl l1 g2.size)|(go_at_call 76;(with_reducible refine(HCC.out _ (g1.tr g2)).mono ?_);rintro e w3 ⟨rfl,g3⟩))
  go_ret;exact⟨Qm HN.out.symm,g0.tr (g1.tr (g2.tr g3))⟩
 ·have HN:=Xh (show agR a=false by rw [HH.out,h6];rfl);rw [h6]at HMO
  go_wp2_with (go_at_call 74;(refine(HMO.out).mono ?_);rintro e w1 ⟨rfl,g1⟩)
  go_ret;exact⟨Qm HN.out.symm,g0.tr g1⟩
section
theorem Ze{cs:Array Value}(hs:(Qc w B).size=67)(hz:Qs w B=(0,0))(hcs:cs.size=67)(ho:QK cs){ty:TypeId}
  (hx:ρ x= .pointer (some ⟨B,0,none⟩))(hy:ρ y= .agg cs):(execOp ρ ⟨dst,.store 27 x y,ty,pos,after,g⟩).run Tryz.prog w= .ok .skip (Qe w B 0 cs):=by
 have e:=QbL ρ dst x y ty pos after g w (by rw [hx];rfl) (by rw [hy];rfl) (by rw [hy];exact hcs) (by rw [hx];show Fits 0 67 (Qc w B);unfold Fits;omega) (by rw [hx];exact hz) (by rw [hy];exact ho);rw [e,hx,hy];rfl
theorem Qnh(w:World):(Instr.build 27 #[]).run Tryz.prog w= .ok (.agg (agv agz)) w:=by
 refine QcC #[(0,1),(1,1),(2,64),(66,1)] (Tryz.zeroValue27 w) Tryz.underlying27 Kr ?_;rw [QsD];rfl
theorem QeY{ty:TypeId}(w:World):
  (execOp ρ ⟨dst,.build 27 #[],ty,pos,after,g⟩).run Tryz.prog w= .ok (.value (.agg (agv agz))) w:=by
 have h:=Qnh w;simp only [execOp,List.map_toArray,List.map_nil,Sem.run_bind,h,Result.andThen_ok,Sem.run_pure]
attribute [go_sem ↓ high] QeY
attribute [local go_sem ↓ high] Qz Z1
def QeZ(id idle:Int):Ag:=if agR (agN id idle)then agN id idle else agz
def Qcb(id idle:Int):Int:=if agR (agN id idle)then 0 else 2
theorem QiJ(id idle:Int)(w:World):Cr 10 #[.int .i64 id,.int .i64 idle] w (.tuple #[.agg (agv (QeZ id idle)),.int .i64 (Qcb id idle)]):=by
 have HR:=Xh (fun W=>YX (agN id idle) W (SlC.nil _ _) (by show 0≤1000;omega) (fun x hx=>by cases hx) (fun k hk=>by show 0≤(0:Int);omega))
 go_enter Tryz.func10,Tryz.ntmps10
 go_wp2;obtain⟨W3,hW⟩: ∃W3,Qe ((w.alloc (.cells (agv agz) 27)).alloc (.cells (agv agz) 27)) (w.heap.size+1) 0 (agv (Qj9 id idle))=W3:=⟨_,rfl⟩;have g3:Ext w W3:=by rw [←hW];exact Ext.sa _ Om (Ext.al Ea _)
 have r3:Qc W3 (w.heap.size+1)=agv (Qj9 id idle):=by rw [←hW];exact Qq _ _ _ (by rw [show w.heap.size+1=(w.alloc (.cells (agv agz) 27)).heap.size by simp,Zn,Qg,Qg])
 have z3:Qs W3 (w.heap.size+1)=(0,0):=by rw [←hW,ZV];simp [go_sem]
 have r30:Qc W3 w.heap.size=agv agz:=by rw [←hW,ZP _ _ _ _ _ Om];simp [go_sem]
 have z30:Qs W3 w.heap.size=(0,0):=by rw [←hW,ZV];simp [go_sem]
 have l3:Lt (w.heap.size+1) W3:=by rw [←hW];simp [go_sem]
 try rw [QsD]
 rw [hW];clear hW
 go_loopw [7,11] (fun _ a wr=> ∃k:Nat,k≤16∧a= .int .i64 k∧Qc wr (w.heap.size+1)=agv {agz with id:=id,idle:=idle,md:=fun i=>if i<k then md0 else mdz}∧Qs wr (w.heap.size+1)=(0,0)∧Qc wr w.heap.size=agv agz∧Qs wr w.heap.size=(0,0)∧Lt (w.heap.size+1) wr∧Ext w wr) (fun _ a _=>16- (intOf a).toNat)
 case atStart=>exact⟨0,Nat.zero_le _,rfl,r3,z3,r30,z30,l3,g3⟩
 case round=>
  obtain⟨k,hk,rfl,hR,hZ,hR0,hZ0,hL,hE⟩:=hrel;have hL0:Lt w.heap.size wr:=by unfold Lt at*;omega
  clear r3 z3 r30 z30 l3 g3
  by_cases hlt:k<16
  ·have hlt':(k:Int)<16:=by omega
   have HRR:=Xh hR;have HZ:=Xh hZ;have HR0:=Xh hR0;have HZ0:=Xh hZ0;clear hR hZ hR0 hZ0;have hfit:2+k*4+4≤67:=by omega
   go_wp2_with (go_at_call 38;(refine(QpT _).mono ?_);rintro e W4 ⟨rfl,g4⟩;have hR4:=Zc g4 hL HRR.out;have hZ4:Qs W4 (w.heap.size+1)=(0,0):=(by unfold Qs;rw [g4.block _ hL];exact HZ.out))
   go_roundw
   case rel=>
    refine⟨k+1,Om,by go_num,(QiG md0 hR4 hlt).trans (Qf3 rfl rfl (fun i hi=> ?_) rfl rfl rfl),by rw [ZV];exact hZ4,by rw [ZP _ _ _ _ _ Om];exact Zc g4 hL0 HR0.out,by rw [ZV];unfold Qs;rw [g4.block _ hL0];exact HZ0.out,by rw [QaS];exact Xl hL g4.size,Ext.sa _ Om (hE.tr g4)⟩;dsimp only
    by_cases h:i=k
    ·rw [if_pos h,if_pos Om]
    ·rw [if_neg h]
     by_cases h2:i<k
     ·rw [if_pos h2,if_pos Om]
     ·rw [if_neg h2,if_neg Om]
   case measure=>simp [intOf];omega
  ·obtain rfl:k=16:=by omega
   have hR3:Qc wr (w.heap.size+1)=agv (agN id idle):=hR.trans (Qf3 rfl rfl (fun i hi=>by dsimp only;rw [if_pos hi];rfl) rfl rfl rfl);have HE:=Xh hE;clear hR hE
   cases hb:agR (agN id idle)
   ·have H1:=Xh (show QeZ id idle=agz∧Qcb id idle=2 by unfold QeZ Qcb;rw [hb];exact⟨rfl,rfl⟩);rw [hb]at HR
    go_wp2_with (go_at_call 22;(refine(HR.out _).mono ?_);rintro e W4 ⟨rfl,g4⟩;have hR4:=Zc g4 hL hR3;have hR5:=Zc g4 hL0 hR0;have hZ5:Qs W4 w.heap.size=(0,0):=(by unfold Qs;rw [g4.block _ hL0];exact hZ0))
    have hr:Qc (Qe W4 w.heap.size 0 (agv agz)) w.heap.size=agv agz:=Qq _ _ _ (by rw [hR5]);refine bodyPost_ret (QL rfl _ _ w.heap.size rfl (Yp hr)) rfl ⟨by rw [H1.out.1,H1.out.2];rfl,Ext.sa _ (Nat.le_refl _) (HE.out.tr g4)⟩
   ·have H1:=Xh (show QeZ id idle=agN id idle∧Qcb id idle=0 by unfold QeZ Qcb;rw [hb];exact⟨rfl,rfl⟩);rw [hb]at HR
    go_wp2_with (go_at_call 22;(refine(HR.out _).mono ?_);rintro e W4 ⟨rfl,g4⟩;have hR4:=Zc g4 hL hR3;have hR5:=Zc g4 hL0 hR0;have hZ5:Qs W4 w.heap.size=(0,0):=(by unfold Qs;rw [g4.block _ hL0];exact hZ0))
    have hr:Qc (Qe W4 w.heap.size 0 (agv (agN id idle))) w.heap.size=agv (agN id idle):=Qq _ _ _ (by rw [hR5,Qg,Qg]);refine bodyPost_ret (QL rfl _ _ w.heap.size rfl (Yp hr)) rfl ⟨by rw [H1.out.1,H1.out.2];rfl,Ext.sa _ (Nat.le_refl _) (HE.out.tr g4)⟩
theorem Zx{C:Nat→Prop}{a:Ag}(h0:RowZ w B (agv a))(hC: ¬C B){q:Operand}{ty:TypeId}
  (hx:ρ q= .pointer (some ⟨B,0,none⟩)): ∀w',Mv C w w'→(execOp ρ ⟨dst,.load 27 q,ty,pos,after,g⟩).run Tryz.prog w'= .ok (.value (.agg (agv a))) w':=by
 intro w' hE;have h1:=h0.mv hE hC;have e:=QcA ρ dst q ty pos after g w' (by rw [hx];rfl) (by rw [hx];show Fits 0 67 (Qc w' B);rw [h1.r];unfold Fits;rw [Qg];omega);rw [e,hx];show Result.ok (Next.value (Value.agg (QB (Qc w' B) 0 67))) w'=_;rw [h1.r,QdJ]
theorem Q0{C:Nat→Prop}{v:Int}(h0:w.cell? ⟨B,i,none⟩=some (.int .i64 v))(hl:Lt B w)(hC: ¬C B){q:Operand}{ty:TypeId}
  (hx:ρ q= .pointer (some ⟨B,i,none⟩)): ∀w',Mv C w w'→(execOp ρ ⟨dst,.load 3 q,ty,pos,after,g⟩).run Tryz.prog w'= .ok (.value (.int .i64 v)) w':=by
 intro w' hE;have h1:w'.cell? ⟨B,i,none⟩=some (.int .i64 v):=by rw [Qa,Qf (hE.same B hl hC),←Qa];exact h0
 simp only [execOp,hx];go_simp
theorem ZQ{a:Ag}(h:Qc w B=agv a):w.cell? ⟨B,0,none⟩=some (.int .i64 a.id):=by rw [Qa,h,Jw]
def QvF(id:Int)(p:Option Addr)(n c:Nat)(v:Value)(w':World):Prop:= ∃B,v= .func (.func 138) #[] #[.pointer (some ⟨B+1,0,none⟩),.pointer (some ⟨B,0,none⟩)]∧w'.cell? ⟨B+1,0,none⟩=some (.slice p n c)∧w'.cell? ⟨B,0,none⟩=some (.int .i64 id)∧Lt (B+1) w'
theorem Qp0(id:Int)(p:Option Addr)(n c:Nat)(w:World):Calls Tryz.prog 60 #[.int .i64 id,.slice p n c] w fun e w'=> ∃v,e= .returned v∧QvF id p n c v w'∧Ext w w':=
 (QpO id (.slice p n c) w ⟨_,_,_,rfl⟩).mono fun e w' ⟨h1,h2⟩=>⟨_,h1,⟨w.heap.size,rfl,by rw [h2];simp [go_sem],by rw [h2];simp [go_sem],by rw [h2];simp [go_sem,Lt]⟩,by rw [h2];exact Ext.al Ea _⟩
theorem SlE.mvo{B:World}{n:Nat}{xs:List Ev}(h:SlE A p xs)(m:Mv (fun k=>k=n) A B)(hb: ∀b off,p=some ⟨b,off,none⟩→b≠n):SlE B p xs:=fun k hk=>by
 obtain⟨b,off,h1,h2,c0,c1,c2,c3,c4,c5⟩:=h k hk;have e:=Qf (m.same b h2 (hb b off h1));simp only [Qa]at c0 c1 c2 c3 c4 c5⊢;exact⟨b,off,h1,Xl h2 m.size,by rw [e];exact c0,by rw [e];exact c1,by rw [e];exact c2,by rw [e];exact c3,by rw [e];exact c4,by rw [e];exact c5⟩
def QsI(lo:Nat)(xs:List Ev)(v:Value)(w':World):Prop:= ∃q d,v= .slice q xs.length d∧SlE w' q xs∧ ∀b off,q=some ⟨b,off,none⟩→lo≤b
theorem QpR.at{w':World}{v:Value}{xs:List Ev}(h:QpR w w' v xs):QsI w.heap.size xs v w':=by
 obtain⟨p,c,e,-,s⟩:=SlE.own h.own;exact⟨p,c,e,s,fun b off e2=>Qi h.own b (by rw [e,e2];rfl)⟩
theorem Ql0(id:Int)(p:Option Addr)(xs:List Co)(c B lo:Nat)(w:World)(hs:SlC w p xs)(hl:xs.length≤1000)(hc:w.cell? ⟨B+1,0,none⟩=some (.slice p xs.length c))(hi:w.cell? ⟨B,0,none⟩=some (.int .i64 id))(l1:Lt (B+1) w)(hlo:lo≤w.heap.size):
  Calls Tryz.prog 59 #[.func (.func 138) #[] #[.pointer (some ⟨B+1,0,none⟩),.pointer (some ⟨B,0,none⟩)]] w fun e w'=> ∃v,e= .returned v∧QsI lo (ZN id xs) v w'∧Ext w w':=
 (QpS id p xs c B w hs hl hc hi l1).mono fun e w' ⟨v,h1,h2⟩=>⟨v,h1,(by obtain⟨q,d,e,s,h⟩:=h2.at;exact⟨q,d,e,s,fun b off e=>Xt hlo (h b off e)⟩),h2.ext⟩
theorem SlC.mvo{B:World}{n:Nat}{xs:List Co}(h:SlC A p xs)(m:Mv (fun k=>k=n) A B)(hb: ∀b off,p=some ⟨b,off,none⟩→b≠n):SlC B p xs:=fun k hk=>by
 obtain⟨b,off,h1,h2,c0,c1,c2,c3,c4,c5⟩:=h k hk;have e:=Qf (m.same b h2 (hb b off h1));simp only [Qa]at c0 c1 c2 c3 c4 c5⊢;exact⟨b,off,h1,Xl h2 m.size,by rw [e];exact c0,by rw [e];exact c1,by rw [e];exact c2,by rw [e];exact c3,by rw [e];exact c4,by rw [e];exact c5⟩
theorem QvG{a:Ag}(h:agR a=true):Yj a=true:=by
 cases hh:Yj a
 ·rw [Ya hh]at h;cases h
 ·rfl
theorem QiK{a:Ag}(h:agR a=true):0≤a.idle∧a.idle≤1099511627776∧0≤a.id∧a.id<6∧QJ a.xs=true:=by
 have:=QvG h;unfold Yj at this;simp only [Bool.and_eq_true,decide_eq_true_eq]at this;obtain⟨⟨⟨⟨h1,h2⟩,h3⟩,h4⟩,h5⟩:=this;exact⟨h3,h4,h1,h2,h5⟩
def JN(a:Ag)(now:Int):List Co:=if agR a then a.xs.filter (fun x=>!idleB a.idle now x)else a.xs
def Qa6(a:Ag)(now:Int):List Ev:=if agR a then ZN a.id (a.xs.filter (idleB a.idle now))else []
def QAj(w:World)(a:Ag)(xs:List Co)(es:List Ev)(e:Ending)(w':World):Prop:= ∃p c q d,e= .returned (.tuple #[.agg (agv {a with p:=p,xs:=xs,c:=c}),.slice q es.length d])∧SlC w' p xs∧SlE w' q es∧Ext w w'
end
section
attribute [local go_sem ↓ high] Qz Z1
def Qp1(ops:Array Oper):Prop:=Region.noSelect ops=true∧Qo ops 8 [0,1,2,3] 0=true∧Rd ops 8 15 [4]∧Rd ops 8 31 [5]∧Rd ops 8 63 [6]∧Qo ops 8 [7] 127=true∧Rd ops 8 255 []∧lateB .any ops 6 0=true
theorem Qkd:Qp1 ((Tryz.f20.body.bind (Qh 6)).getD #[]):=⟨Kr,Kr,Rk,Rk,Rk,Kr,Rk,Kr⟩
theorem Qdg(a:Ag)(now:Int)(w:World)(hs:SlC w a.p a.xs)(hl:a.xs.length≤1000)(hr: ∀x∈a.xs,TuR x.t)(hk: ∀k,k<16→0≤(a.md k).kind):
  Calls Tryz.prog 20 #[.agg (agv a),.int .i64 now] w (QAj w a (JN a now) (Qa6 a now)):=by
 have HRT:=Xh (fun W (hE:Ext w W)=>YX a W (hs.ext hE) hl hr hk);have HOW:=Xh (fun W (hE:Ext w W)=>QcD a W (hs.ext hE) hl);have HS:=Xh hs;clear hs hr hk
 go_enter Tryz.func20,Tryz.ntmps20
 go_upto_region 1 with(fail)
 obtain⟨W0,hW⟩: ∃W0,(w.alloc (.cells (agv a) 27)).alloc (.cells (agv agz) 27)=W0:=⟨_,rfl⟩;have g0:Ext w W0:=by rw [←hW];exact Ext.al Ea _
 have ra:RowZ W0 w.heap.size (agv a):=by rw [←hW];exact⟨by simp [go_sem],by simp [go_sem],by simp [go_sem,Lt]⟩
 have rz:RowZ W0 (w.heap.size+1) (agv agz):=by rw [←hW];exact⟨by simp [go_sem],by simp [go_sem],by simp [go_sem,Lt]⟩
 rw [hW];clear hW;have hr0:=ra.r;have HRA:=Xh ra;have HRZ:=Xh rz;clear ra rz
 go_upto_region 2 with(go_at_call 25;(refine(HOW.out _ g0).mono ?_);rintro e w1 ⟨p',c',rfl,o1⟩;have s1:=o1.own;have g1:=o1.ext;clear o1;have hrz:=(HRZ.out.ext g1).r;have hzz:=(HRZ.out.ext g1).z)
 obtain⟨W2,hW⟩: ∃W2,Qe w1 (w.heap.size+1) 0 (agv {a with p:=p',c:=c'})=W2:=⟨_,rfl⟩;have m2:Mv (fun k=>k=w.heap.size+1) w1 W2:=by rw [←hW];exact Mv.sa _ rfl (Mv.refl _ _)
 have g2:Ext w W2:=Mv.ext_of (g0.tr g1) m2 (fun k h=>by omega);have ra2:RowZ W2 w.heap.size (agv a):=(HRA.out.ext g1).mv m2 Om;have ro2:RowZ W2 (w.heap.size+1) (agv {a with p:=p',c:=c'}):=by rw [←hW];exact(HRZ.out.ext g1).all _ (by rw [Qg,Qg])
 have hs0:w.heap.size+2≤W0.heap.size:=by have:=HRZ.out.l;unfold Lt at this;omega
 have s2:SlC W2 p' a.xs:=by
  obtain⟨p,c,e,-,s⟩:=SlC.own (Qw s1 m2 (fun k hk e=>by omega))
  cases e;exact s
 have hp2: ∀b off,p'=some ⟨b,off,none⟩→b≠w.heap.size+1:=fun b off e=>by
  have:=Qi s1 b (by rw [e];rfl);omega
 rw [hW];clear hW s1 m2 hrz hzz hr0 g1 g0;have hr2:=ra2.r
 cases hb:agR a
 ·have HN:=Xh (show JN a now=a.xs∧Qa6 a now= []by unfold JN Qa6;rw [hb];exact⟨rfl,rfl⟩);rw [hb]at HRT;have ho2:=ro2.r;have hz2:=ro2.z
  go_wp2_with (go_at_call 22;(refine(HRT.out _ g2).mono ?_);rintro e w3 ⟨rfl,g3⟩;have ro3:=ro2.ext g3;have ho3:=ro3.r;have hz3:=ro3.z)
  have m4:Mv (fun k=>k=w.heap.size+1) w3 (Qe w3 (w.heap.size+1) 0 (agv {a with p:=p',c:=c'})):=Mv.sa _ rfl (Mv.refl _ _);have hr:Qc (Qe w3 (w.heap.size+1) 0 (agv {a with p:=p',c:=c'})) (w.heap.size+1)=agv {a with p:=p',c:=c'}:=Qq _ _ _ (by rw [ho3]);refine bodyPost_ret (QL rfl _ _ (w.heap.size+1) rfl (Yp hr)) rfl ⟨p',c',none,0,by rw [HN.out.1,HN.out.2];rfl,?_,by rw [HN.out.2];exact SlE.nil _ _,Mv.ext_of (g2.tr g3) m4 (fun k e=>by omega)⟩;rw [HN.out.1];exact(s2.ext g3).mvo m4 hp2
 have HN:=Xh (show JN a now=a.xs.filter (fun x=>!idleB a.idle now x)∧Qa6 a now=ZN a.id (a.xs.filter (idleB a.idle now))by unfold JN Qa6;rw [hb];exact⟨rfl,rfl⟩);rw [hb]at HRT;have hid:a.idle≤9223372036854775807:=by have:=QiK hb;omega
 obtain⟨xs,hxs⟩: ∃xs,a.xs=xs:=⟨_,rfl⟩;have HID:=Xh (fun W (hE:Ext w W)=>Qoq a.p a.xs a.c a.idle now W (HS.out.ext hE) hl hid _ _ _ rfl rfl rfl);have hf:(xs.filter (idleB a.idle now)).length≤1000:=Xt (List.length_filter_le _ _) (by rw [←hxs];exact hl);have hff:(xs.filter (fun x=>!idleB a.idle now x)).length≤1000:=Xt (List.length_filter_le _ _) (by rw [←hxs];exact hl);rw [hxs]at HN HID;have HXS:=Xh hxs;have c66:W2.cell? ⟨w.heap.size,66,none⟩=some (.slice a.p a.xs.length a.c):=by rw [Qa,hr2,Qu]
 have c1:W2.cell? ⟨w.heap.size,1,none⟩=some (.int .i64 a.idle):=by rw [Qa,hr2,Jb]
 rw [hxs]at c66;have HRO:=Xh ro2;have HRX:=Xh ra2;have lx:=ra2.l;clear ro2 s2 hp2 hl hxs ra2
 go_upto_region 5 with(first|(go_at_call 22;(with_reducible refine(HRT.out _ g2).mono ?_);rintro e w3 ⟨rfl,g3⟩;have rX3:=HRX.out.ext g3;have lX3:=rX3.l;have d66:w3.cell? ⟨w.heap.size,66,none⟩=some (.slice a.p xs.length a.c):=(g3.cell (p:=⟨w.heap.size,66,none⟩) lx).trans c66;have d1:w3.cell? ⟨w.heap.size,1,none⟩=some (.int .i64 a.idle):=(g3.cell (p:=⟨w.heap.size,1,none⟩) lx).trans c1;have rO3:=HRO.out.ext g3)|(go_at_call 69;(with_reducible refine(HID.out _ (g2.tr g3)).mono ?_);rintro e w4 ⟨v1,v2,rfl,⟨o1,o2,-⟩,g4⟩;obtain⟨p6,c6,rfl,-,s6⟩:=SlC.own o1;obtain⟨p7,c7,rfl,-,s7⟩:=SlC.own o2;have b6:=Qi o1;have b7:=Qi o2;have HRX4:=Xh (rX3.ext g4);have HRO4:=Xh (rO3.ext g4);have z3:=rO3.l;clear o1 o2))
 have rX:=HRX4.out;have rO:=HRO4.out;have z2:w.heap.size+1<w3.heap.size:=z3;have e6: ∀b off,p6=some ⟨b,off,none⟩→b≠w.heap.size+1:=fun b off e=>by have:=b6 b (by rw [e];rfl);omega
 have e7: ∀b off,p7=some ⟨b,off,none⟩→b≠w.heap.size+1:=fun b off e=>by have:=b7 b (by rw [e];rfl);omega
 have c67:w4.cell? ⟨w.heap.size+1,66,none⟩=some (.slice p' a.xs.length c'):=by rw [Qa,rO.r,Qu]
 have f67:=rO.frz 66;have lO:=rO.l;have E6:=Xh e6;have E7:=Xh e7;have S6:=Xh s6;have S7:=Xh s7;have HF:=Xh hf;clear b6 b7 z3 d66 d1 rX3 rO3 lX3 rX rO e6 e7 s6 s7 hf hff hid c66 c1 hr2 lx hs0
 go_upto_region 6 with(fail)
 obtain⟨A2,hA2⟩: ∃A2:Ag,A2={a with p:=p7,xs:=xs.filter (fun x=>!idleB a.idle now x),c:=c7}:=⟨_,rfl⟩;obtain⟨W5,hW⟩: ∃W5,w4.setCell ⟨w.heap.size+1,66,none⟩ (.slice p7 (xs.filter (fun x=>!idleB a.idle now x)).length c7)=W5:=⟨_,rfl⟩;have m5:Mv (fun k=>k=w.heap.size+1) w4 W5:=by rw [←hW];exact Mv.st _ (.inl rfl) (Mv.refl _ _)
 have rO:RowZ W5 (w.heap.size+1) (agv A2):=by
  have h:=HRO4.out;rw [←hW,hA2];exact⟨(Qab (a:={a with p:=p',c:=c'}) p7 (xs.filter (fun x=>!idleB a.idle now x)) c7 h.r),(by rw [QR];exact h.z),(by rw [Zk];exact h.l)⟩
 have rXX:=HRX4.out.mv m5 Om;have E:Ext w W5:=Mv.ext_of (g2.tr (g3.tr g4)) m5 (fun k e=>by omega);have s6:=S6.out.mvo m5 E6.out;have s7:=S7.out.mvo m5 E7.out;have hf:=HF.out;rw [hW];clear hW m5 c67 f67;have HA2:=Xh hA2;clear hA2;refine Qy (fun _=>False) (fun k=>k=w.heap.size+1) 6 Kr ?_;obtain⟨WA,hW⟩: ∃Wdr,World.drew W5=Wdr:=⟨_,rfl⟩;have gD:Ext W5 WA:=by rw [←hW];exact Ext.dr (Ext.rf _)
 rw [hW];clear hW;have E:=E.tr gD;have rO:=rO.ext gD;have s6:=s6.ext gD;have s7:=s7.ext gD;have rXX:=rXX.ext gD;have rX:=rXX.r;have lX:=rXX.l;refine Zi (N:=8) (R:=Qp1) (E:=((Tryz.f20.body.bind (Qh 6)).getD #[])) Kr Qkd Kr fun hS=> ?_;have hT:=hS.2.1;refine ZD (N:=8) (k:=0) (m':=1) (v:= .agg (agv A2)) hS.1 hT hS.2.2.2.2.2.2.2 rfl rfl Kr (Zx rO (fun h=>h) Kr) fun hT=>tWk 3 (.pointer (some ⟨w.heap.size,0,none⟩)) hS.1 hT rfl fun hT=>tW 7 (.int .i64 a.id) hS.1 hT rfl (Q0 (ZQ rX) lX Om Kr) fun hT=>tWk 15 (.slice p6 (xs.filter (idleB a.idle now)).length c6) hS.1 hT rfl fun hT=> ?_;refine sV 31 (QvF a.id p6 (xs.filter (idleB a.idle now)).length c6) hS.2.2.1 rfl (Qp0 a.id p6 _ c6 WA) ?_;rintro _ WB1 gWB1 ⟨BO,rfl,o1,o2,o3⟩;have E:=E.tr gWB1;have rO:=rO.ext gWB1;have s6:=s6.ext gWB1;have s7:=s7.ext gWB1;refine sV 63 (QsI (w.heap.size+2) (ZN a.id (xs.filter (idleB a.idle now)))) hS.2.2.2.1 rfl (Ql0 a.id p6 (xs.filter (idleB a.idle now)) c6 BO _ WB1 s6 hf o1 o2 o3 (by have:=rO.l;unfold Lt at this;omega)) ?_;rintro _ WB2 gWB2 ⟨q5,d5,rfl,s5,n5⟩;have E:=E.tr gWB2;have rO:=rO.ext gWB2;have s6:=s6.ext gWB2;have s7:=s7.ext gWB2;refine Qr hS.2.2.2.2.1 (QE (m':=127) rfl rfl Kr (Ze (cs:=agv A2) (by rw [rO.r];exact Qg) rO.z Qg Zr Kr Kr) ⟨.inl Dc,(Mv.sa _ rfl (Mv.refl _ _))⟩ ?_);obtain⟨WB3,hWB3⟩: ∃WB3,Qe WB2 (w.heap.size+1) 0 (agv A2)=WB3:=⟨_,rfl⟩;have gS:Mv (fun k=>k=w.heap.size+1) WB2 WB3:=by rw [←hWB3];exact Mv.sa _ rfl (Mv.refl _ _)
 have rO:RowZ WB3 (w.heap.size+1) (agv A2):=by rw [←hWB3];exact rO.all _ rfl
 have E:=Mv.ext_of E gS (fun k e=>by omega);have s5:=s5.mvo gS (fun b off e=>by have:=n5 b off e;omega);have s7:=s7.mvo gS E7.out;rw [hWB3];clear hWB3;have hT:=hS.2.2.2.2.2.1;refine tWk 255 (.slice q5 (ZN a.id (xs.filter (idleB a.idle now))).length d5) hS.1 hT rfl fun hT=> ?_;refine QZ hS.2.2.2.2.2.2.1 ?_;clear hS hT;go_simp;have HE:=Xh E;have HS5:=Xh s5;have HS7:=Xh s7;have HRO5:=Xh rO;clear E s5 s7 s6 rO rX lX rXX hf;go_wp2;have hr:Qc WB3 (w.heap.size+1)=agv A2:=HRO5.out.r;refine bodyPost_ret (QL rfl _ _ (w.heap.size+1) rfl (Yp hr)) rfl ⟨p7,c7,q5,d5,?_,?_,?_,HE.out⟩
 ·rw [HN.out.1,HN.out.2,HA2.out];rfl
 ·rw [HN.out.1];exact HS7.out
 ·rw [HN.out.2];exact HS5.out
end
end Go.Proofs.YtpeonbaodnmlnaaGreat
namespace Go.Proofs.YtpeonbaodnmlnaaGreat.Ru
open Go.RowKit
variable{after:Array Edge}{bs:List Int}{B base i o:Nat}{x y:Operand}{ρ:Operand→Value}{g:Option (Nat×Bool)}{p:Option Addr}{l:Option Nat}{dst:Option Tmp}{pos:String}{a0 a1 a10 a2 a3 a4 a5 a6 a7 a8 a9:Value}{A w:World}
structure QcE(P:Program)where
 t:TypeId
 kt:TypeId
 et:TypeId
 K:Value→Prop
 im:Nat
 dm:Nat
 D:List (Nat×Nat×J7)
 C:List (Nat×Nat×Nat)
 I:List (Nat×Value×J7)
namespace QcE
open Qfq (getD_put getD_set wpOp_some ready_spec exec_make exec_copy exec_insert lists listed_old)
variable{after:Array Edge}{bs:List Int}{B base i o:Nat}{x y:Operand}{ρ:Operand→Value}{g:Option (Nat×Bool)}{p:Option Addr}{l:Option Nat}{dst:Option Tmp}{pos:String}{a0 a1 a10 a2 a3 a4 a5 a6 a7 a8 a9:Value}{A w:World}
variable {P:Program}
def Free(L:QcE P)(s:Nat):Prop:=(∀x∈L.D,x.2.1≠s)∧(∀x∈L.C,x.2.1≠s)∧s≠L.dm
def Map(L:QcE P)(w0:World)(listed:Array Bool)(a:Act)(w:World):Prop:=
 ∃B f,a.tmps.getD L.dm undef= .map (some B)∧w0.heap.size≤B∧ZE L.K w B f∧
  (∀x∈L.I,listed.getD x.1 false=true→ ∃v,f x.2.1=some v∧x.2.2 w v)∧
  (∀k v,f k=some v→ ∃x∈L.I,listed.getD x.1 false=true∧x.2.1=k)
structure Inv(L:QcE P)(a0:Act)(w0:World)(listed:Array Bool)(a:Act)(w:World):Prop where
 defers:a.defers=a0.defers
 size:a.tmps.size=a0.tmps.size
 ext:Below w0.heap.size w0 w
 free: ∀s,L.Free s→a.tmps.getD s undef=a0.tmps.getD s undef
 vals: ∀x∈L.D,listed.getD x.1 false=true→x.2.2 w (a.tmps.getD x.2.1 undef)
 cops: ∀x∈L.C,listed.getD x.1 false=true→a.tmps.getD x.2.1 undef=a.tmps.getD L.dm undef
 map:listed.getD L.im false=true→L.Map w0 listed a w
 later:(∀x∈L.C,listed.getD x.1 false=true→listed.getD L.im false=true)∧ ∀x∈L.I,listed.getD x.1 false=true→listed.getD L.im false=true
structure Fits(L:QcE P)(ops:Array Oper)(Q:Exit→Act→World→Prop)(a0:Act)(w0:World):Prop where
 law:Qfp P L.kt L.K
 ty:P.underlying L.t=some (.map L.kt L.et)
 cover: ∀i,i<ops.size→i=L.im∨(∃x∈L.D,x.1=i)∨(∃x∈L.C,x.1=i)∨(∃x∈L.I,x.1=i)
 acyclic: ∀(i:Nat) (o:Oper),ops[i]?=some o→ ∀e∈o.after,e.on<i
 slots:(∀x∈L.D,x.2.1<a0.tmps.size∧x.2.1≠L.dm∧ ∀y∈L.C,y.2.1≠x.2.1)∧(∀x∈L.C,x.2.1<a0.tmps.size∧x.2.1≠L.dm)∧L.dm<a0.tmps.size
 dd: ∀x∈L.D,∀y∈L.D,x.2.1=y.2.1→x.1=y.1∧x.2.2=y.2.2
 cc: ∀x∈L.C,∀y∈L.C,x.2.1=y.2.1→x.1=y.1
 ii: ∀x∈L.I,∀y∈L.I,x.2.1=y.2.1→x.1=y.1
 i2: ∀x∈L.I,∀y∈L.I,x.1=y.1→x=y
 apart:(∀x∈L.D,x.1≠L.im∧(∀y∈L.C,y.1≠x.1)∧(∀y∈L.I,y.1≠x.1))∧(∀x∈L.C,x.1≠L.im∧(∀y∈L.I,y.1≠x.1))∧(∀x∈L.I,x.1≠L.im)
 d1: ∀x∈L.D,∀y∈L.D,x.1=y.1→x=y
 c1: ∀x∈L.C,∀y∈L.C,x.1=y.1→x=y
 stable:(∀x∈L.D,Qc9 x.2.2)∧(∀x∈L.I,Qc9 x.2.2)
 hmk: ∃o,ops[L.im]?=some o∧o.dst=some L.dm∧o.guard=none∧o.op= .makeMap L.t none
 hD: ∀x∈L.D,∃o,ops[x.1]?=some o∧o.guard=none∧ ∀(a:Act) (w:World) (Kk:Act→World→Prop),(∀y∈L.D,(∃e∈o.after,e.on=y.1∧Region.binds .any e=true)→y.2.2 w (a.tmps.getD y.2.1 undef))→(∀s,L.Free s→a.tmps.getD s undef=a0.tmps.getD s undef)→Below w0.heap.size w0 w→
  (∀v w',Below w.heap.size w w'→x.2.2 w' v→Kk (a.put (some x.2.1) v) w')→o.wp P a w Kk Q
 hC: ∀x∈L.C,∃o,ops[x.1]?=some o∧o.dst=some x.2.1∧o.guard=none∧(o.op= .move (.tmp x.2.2)∨o.op= .assign (.tmp x.2.2))∧
  ((x.2.2=L.dm∧ ∃e∈o.after,e.on=L.im∧Region.binds .any e=true)∨ ∃y∈L.C,y.2.1=x.2.2∧ ∃e∈o.after,e.on=y.1∧Region.binds .any e=true)
 hI: ∀x∈L.I,∃o k v,ops[x.1]?=some o∧o.dst=none∧o.guard=none∧o.op= .insert L.t (.tmp L.dm) k v∧L.K x.2.1∧(∃e∈o.after,e.on=L.im∧Region.binds .any e=true)∧
  (∀(a:Act) (w:World),(∀y∈L.D,(∃e∈o.after,e.on=y.1∧Region.binds .any e=true)→y.2.2 w (a.tmps.getD y.2.1 undef))→(∀s,L.Free s→a.tmps.getD s undef=a0.tmps.getD s undef)→Below w0.heap.size w0 w→a.eval k=x.2.1∧x.2.2 w (a.eval v))
section
variable {L:QcE P} {ops:Array Oper} {Q:Exit→Act→World→Prop} {a0:Act} {w0:World}
theorem Map.mono{listed:Array Bool}{a a':Act}{w':World}(F:L.Fits ops Q a0 w0)(h:L.Map w0 listed a w)(hw:Below w.heap.size w w')(ha:a'.tmps.getD L.dm undef=a.tmps.getD L.dm undef):L.Map w0 listed a' w':=by
 obtain⟨B,f,h1,h2,h3,h4,h5⟩:=h;have hB:B<w.heap.size:=by
  obtain⟨es,clk,h,_⟩:=h3;rcases Nat.lt_or_ge B w.heap.size with h'|h'
  ·exact h'
  ·rw [Array.getElem?_eq_none h']at h;cases h
 refine⟨B,f,ha.trans h1,h2,h3.keep (hw.block B hB),fun x hx hl=> ?_,h5⟩;obtain⟨v,e1,e2⟩:=h4 x hx hl;exact⟨v,e1,F.stable.2 x hx _ _ _ (Qat.of hw) e2⟩
theorem step_make(F:L.Fits ops Q a0 w0){listed:Array Bool}{a:Act}(hs:listed.size=ops.size)(h:L.Inv a0 w0 listed a w)(hlt:L.im<ops.size)(hfr:listed.getD L.im false=false):
  wpOp P ops Q L.im (L.Inv a0 w0 (listed.setIfInBounds L.im true)) a w:=by
 obtain⟨o,ho,hd,hg,hop⟩:=F.hmk;refine wpOp_some ho hg ?_;unfold Oper.wp;rw [exec_make hop,Oper.upon_value,hd];have hb:Below w.heap.size w (w.alloc (.map #[] 0)):=(Below.refl _ _).alloc (Nat.le_refl _) _;have hset:(listed.setIfInBounds L.im true).getD L.im false=true:=by rw [getD_set,if_pos ⟨rfl,Om⟩]
 refine⟨h.defers,by simpa [Act.put]using h.size,h.ext.trans (hb.mono h.ext.size),fun s hf=> ?_,fun x hx hl=> ?_,fun x hx hl=> ?_,fun _=> ?_,fun _ _ _=>hset,fun _ _ _=>hset⟩
 ·rw [getD_put,if_neg (fun e=>hf.2.2 e.1.symm)];exact h.free s hf
 ·rw [getD_put,if_neg (fun e=>(F.slots.1 x hx).2.1 e.1.symm)];rcases lists _ hl with he|hl
  ·exact absurd he (F.apart.1 x hx).1
  ·exact F.stable.1 x hx _ _ _ (Qat.of hb) (h.vals x hx hl)
 ·exfalso;rcases lists _ hl with he|hl
  ·exact(F.apart.2.1 x hx).1 he
  ·rw [h.later.1 x hx hl]at hfr;cases hfr
 ·refine⟨w.heap.size,fun _=>none,?_,h.ext.size,ZE.new w,fun x hx hl=> ?_,fun k v hk=>by cases hk⟩
  ·rw [getD_put,if_pos ⟨rfl,by rw [h.size];exact F.slots.2.2⟩]
  ·exfalso;rcases lists _ hl with he|hl
   ·exact F.apart.2.2 x hx he
   ·rw [h.later.2 x hx hl]at hfr;cases hfr
theorem step_value(F:L.Fits ops Q a0 w0){listed:Array Bool}{a:Act}(h:L.Inv a0 w0 listed a w){x:Nat×Nat×J7}(hx:x∈L.D)(hr:x.1∈Region.ready .any ops listed):
  wpOp P ops Q x.1 (L.Inv a0 w0 (listed.setIfInBounds x.1 true)) a w:=by
 obtain⟨o,ho,hg,hrun⟩:=F.hD x hx;refine wpOp_some ho hg (hrun a w _ (fun y hy ⟨e,he,hey,hb⟩=>h.vals y hy (hey▸(ready_spec hr ho).2.2 e he hb)) h.free h.ext ?_);intro v w' hb hp;have hdm:(a.put (some x.2.1) v).tmps.getD L.dm undef=a.tmps.getD L.dm undef:=by
  rw [getD_put,if_neg (fun e=>(F.slots.1 x hx).2.1 e.1)]
 have hne:L.im≠x.1:=fun e=>(F.apart.1 x hx).1 e.symm;have hmk:(listed.setIfInBounds x.1 true).getD L.im false=listed.getD L.im false:=by
  rw [getD_set,if_neg (fun e=>hne e.1.symm)]
 refine⟨h.defers,by simpa [Act.put]using h.size,h.ext.trans (hb.mono h.ext.size),fun s hf=> ?_,fun y hy hl=> ?_,fun y hy hl=> ?_,fun hl=> ?_,fun y hy hl=> ?_,fun y hy hl=> ?_⟩
 ·rw [getD_put,if_neg (fun e=>hf.1 x hx e.1)];exact h.free s hf
 ·rw [getD_put]
  split
  ·rename_i e
   have:=F.dd x hx y hy e.1;rw [←this.2];exact hp
  ·rename_i e
   rcases lists _ hl with he|hl
   ·have:=F.d1 y hy x hx he;subst this;exact absurd ⟨rfl,by rw [h.size];exact(F.slots.1 y hy).1⟩ e
   ·exact F.stable.1 y hy _ _ _ (Qat.of hb) (h.vals y hy hl)
 ·rw [hdm,getD_put,if_neg (fun e=>(F.slots.1 x hx).2.2 y hy e.1.symm)];rcases lists _ hl with he|hl
  ·exact absurd he ((F.apart.1 x hx).2.1 y hy)
  ·exact h.cops y hy hl
 ·rw [hmk]at hl;obtain⟨B,f,h1,h2,h3,h4,h5⟩:=Map.mono F (h.map hl) hb hdm;refine⟨B,f,h1,h2,h3,fun y hy hl=> ?_,fun k v hk=> ?_⟩
  ·rcases lists _ hl with he|hl
   ·exact absurd he ((F.apart.1 x hx).2.2 y hy)
   ·exact h4 y hy hl
  ·obtain⟨y,hy,hl,e⟩:=h5 k v hk;exact⟨y,hy,listed_old _ hl,e⟩
 ·rw [hmk];rcases lists _ hl with he|hl
  ·exact absurd he ((F.apart.1 x hx).2.1 y hy)
  ·exact h.later.1 y hy hl
 ·rw [hmk];rcases lists _ hl with he|hl
  ·exact absurd he ((F.apart.1 x hx).2.2 y hy)
  ·exact h.later.2 y hy hl
theorem step_copy(F:L.Fits ops Q a0 w0){listed:Array Bool}{a:Act}(h:L.Inv a0 w0 listed a w){x:Nat×Nat×Nat}(hx:x∈L.C)(hr:x.1∈Region.ready .any ops listed):
  wpOp P ops Q x.1 (L.Inv a0 w0 (listed.setIfInBounds x.1 true)) a w:=by
 obtain⟨o,ho,hd,hg,hop,hsrc⟩:=F.hC x hx;have hedge:=(ready_spec hr ho).2.2;have hv:a.tmps.getD x.2.2 undef=a.tmps.getD L.dm undef∧listed.getD L.im false=true:=by
  rcases hsrc with⟨e,ed,h1,h2,h3⟩|⟨y,hy,e,ed,h1,h2,h3⟩
  ·rw [e];exact⟨rfl,by rw [←h2];exact hedge ed h1 h3⟩
  ·have hl:listed.getD y.1 false=true:=by rw [←h2];exact hedge ed h1 h3
   rw [←e];exact⟨h.cops y hy hl,h.later.1 y hy hl⟩
 refine wpOp_some ho hg ?_;unfold Oper.wp;rw [exec_copy hop,Oper.upon_value,hd,hv.1];have hdm:(a.put (some x.2.1) (a.tmps.getD L.dm undef)).tmps.getD L.dm undef=a.tmps.getD L.dm undef:=by
  rw [getD_put,if_neg (fun e=>(F.slots.2.1 x hx).2 e.1)]
 have hne:L.im≠x.1:=fun e=>(F.apart.2.1 x hx).1 e.symm;have hmk:(listed.setIfInBounds x.1 true).getD L.im false=listed.getD L.im false:=by
  rw [getD_set,if_neg (fun e=>hne e.1.symm)]
 refine⟨h.defers,by simpa [Act.put]using h.size,h.ext,fun s hf=> ?_,fun y hy hl=> ?_,fun y hy hl=> ?_,fun hl=> ?_,fun y hy hl=> ?_,fun y hy hl=> ?_⟩
 ·rw [getD_put,if_neg (fun e=>hf.2.1 x hx e.1)];exact h.free s hf
 ·rw [getD_put,if_neg (fun e=>(F.slots.1 y hy).2.2 x hx e.1)];rcases lists _ hl with he|hl
  ·exact absurd he.symm ((F.apart.1 y hy).2.1 x hx)
  ·exact h.vals y hy hl
 ·rw [hdm,getD_put]
  split
  ·rfl
  ·rename_i e
   rcases lists _ hl with he|hl
   ·have:=F.c1 y hy x hx he;subst this;exact absurd ⟨rfl,by rw [h.size];exact(F.slots.2.1 y hy).1⟩ e
   ·exact h.cops y hy hl
 ·obtain⟨B,f,h1,h2,h3,h4,h5⟩:=h.map hv.2;refine⟨B,f,hdm.trans h1,h2,h3,fun y hy hl=> ?_,fun k v hk=> ?_⟩
  ·rcases lists _ hl with he|hl
   ·exact absurd he ((F.apart.2.1 x hx).2 y hy)
   ·exact h4 y hy hl
  ·obtain⟨y,hy,hl,e⟩:=h5 k v hk;exact⟨y,hy,listed_old _ hl,e⟩
 ·rw [hmk];exact hv.2
 ·rw [hmk];exact hv.2
theorem step_insert(F:L.Fits ops Q a0 w0){listed:Array Bool}{a:Act}(h:L.Inv a0 w0 listed a w){x:Nat×Value×J7}(hx:x∈L.I)(hr:x.1∈Region.ready .any ops listed):
  wpOp P ops Q x.1 (L.Inv a0 w0 (listed.setIfInBounds x.1 true)) a w:=by
 obtain⟨o,k,v,ho,hd,hg,hop,hK,⟨ed,e1,e2,e3⟩,hval⟩:=F.hI x hx;have hrs:=ready_spec hr ho;have hedge:=hrs.2.2;have him:listed.getD L.im false=true:=by rw [←e2];exact hedge ed e1 e3
 obtain⟨hk,hp⟩:=hval a w (fun y hy ⟨e,h1,h2,h3⟩=>h.vals y hy (by rw [←h2];exact hedge e h1 h3)) h.free h.ext;obtain⟨B,f,h1,h2,h3,h4,h5⟩:=h.map him;have hfr:listed.getD x.1 false=false:=by
  have:=hrs.2.1;simp only [Array.getD_eq_getD_getElem?]at this⊢
  cases hq:listed[x.1]? with
  |none=>rw [hq]at this;cases this
  |some b=>rw [hq]at this;simpa using this
 have hxl:x.1<listed.size:=by
  have:=hrs.2.1;simp only [Array.getD_eq_getD_getElem?]at this;rcases Nat.lt_or_ge x.1 listed.size with h|h
  ·exact h
  ·rw [Array.getElem?_eq_none h]at this;cases this
 have hn:f x.2.1=none:=by
  cases hf:f x.2.1 with
  |none=>rfl
  |some u=>
   obtain⟨y,hy,hl,e⟩:=h5 _ _ hf;rw [F.ii y hy x hx e,hfr]at hl
   cases hl
 obtain⟨w',hrun,hm,ho1,ho2,ho3,ho4,ho5⟩:=ZE.store F.law F.ty h3 hK hn (a.eval v);have hB: ∃es clk,w.heap[B]?=some (.map es clk):=by
  obtain⟨es,clk,h,_⟩:=h3;exact⟨es,clk,h⟩
 have hmono:Qat w w':=by
  refine⟨fun b o u hc=> ?_,by rw [ho4];exact Nat.le_refl _⟩
  by_cases hb:b=B
  ·subst hb;obtain⟨es,clk,h⟩:=hB;unfold World.cell? at hc;simp only [h]at hc
   cases hc
  ·exact(World.cell?_of_block (w:=w) (a:=⟨b,o,none⟩) (ho5 b hb)).trans hc
 have hext:Below w0.heap.size w0 w':=by
  refine⟨ho1.trans h.ext.os,ho2.trans h.ext.tape,ho3.trans h.ext.output,by rw [ho4];exact h.ext.size,fun i hi=> ?_⟩;rw [ho5 i Om];exact h.ext.block i hi
 refine wpOp_some ho hg ?_;unfold Oper.wp;rw [exec_insert (P:=P) hop (w':=w') (by rw [hk];show(Instr.mapUpdate L.t (a.tmps.getD L.dm undef) x.2.1 (a.eval v)).run P w=_;rw [h1];exact hrun),Oper.upon_skip,hd];show L.Inv a0 w0 _ a w';have hne:L.im≠x.1:=fun e=>F.apart.2.2 x hx e.symm;have hmk:(listed.setIfInBounds x.1 true).getD L.im false=listed.getD L.im false:=by
  rw [getD_set,if_neg (fun e=>hne e.1.symm)]
 refine⟨h.defers,h.size,hext,h.free,fun y hy hl=> ?_,fun y hy hl=> ?_,fun _=> ?_,fun y hy hl=> ?_,fun y hy hl=> ?_⟩
 ·rcases lists _ hl with he|hl
  ·exact absurd he.symm ((F.apart.1 y hy).2.2 x hx)
  ·exact F.stable.1 y hy _ _ _ hmono (h.vals y hy hl)
 ·rcases lists _ hl with he|hl
  ·exact absurd he.symm ((F.apart.2.1 y hy).2 x hx)
  ·exact h.cops y hy hl
 ·refine⟨B,_,h1,h2,hm,fun y hy hl=> ?_,fun c u hc=> ?_⟩
  ·rcases lists _ hl with he|hl
   ·have:=F.i2 y hy x hx he;subst this;exact⟨a.eval v,by simp,F.stable.2 y hy _ _ _ hmono hp⟩
   ·have hyx:y.2.1≠x.2.1:=by
     intro e;rw [F.ii y hy x hx e,hfr]at hl
     cases hl
    obtain⟨u,g1,g2⟩:=h4 y hy hl;exact⟨u,by simp only [if_neg hyx];exact g1,F.stable.2 y hy _ _ _ hmono g2⟩
  ·by_cases hcx:c=x.2.1
   ·exact⟨x,hx,by rw [getD_set,if_pos ⟨rfl,hxl⟩],hcx.symm⟩
   ·simp only [if_neg hcx]at hc;obtain⟨y,hy,hl,e⟩:=h5 c u hc;exact⟨y,hy,listed_old _ hl,e⟩
 ·rw [hmk];exact him
 ·rw [hmk];exact him
theorem all_listed(F:L.Fits ops Q a0 w0){listed:Array Bool}(hs:listed.size=ops.size)(hr:Region.ready .any ops listed= []): ∀i,i<ops.size→listed.getD i false=true:=by
 intro i
 induction i using Nat.strongRecOn with
 |_ i ih=>
  intro hi
  cases hl:listed.getD i false with
  |true=>rfl
  |false=>
   exfalso;have hm:i∈Region.ready .any ops listed:=by
    unfold Region.ready;simp only [List.mem_filter,List.mem_range,Bool.and_eq_true,Bool.not_eq_true'];refine⟨hi,?_,?_⟩
    ·simpa [Array.getD,hs,hi]using hl
    ·have ho:ops[i]?=some ops[i]:=Array.getElem?_eq_getElem hi;rw [ho];simp only [Option.map_some,Option.getD_some,Array.all_eq_true_iff_forall_mem];intro e he;have hlt:=F.acyclic i _ ho e he;rw [ih e.on hlt Om];simp
   rw [hr]at hm
   cases hm
theorem wp(F:L.Fits ops Q a0 w0.drew){id:Nat}(hm:P.follows .mixedOrders=true)
  (done: ∀(listed:Array Bool) (a:Act) (w:World),(∀i,i<ops.size→listed.getD i false=true)→L.Inv a0 w0.drew listed a w→Q .normal a w):
  (Code.region id ops true).wp P Q a0 w0:=by
 refine QbJ hm (L.Inv a0 w0.drew) ?_ ?_ ?_
 ·have h0: ∀j,(Array.replicate ops.size false).getD j false=false:=by
   intro j;simp only [Array.getD_eq_getD_getElem?,Array.getElem?_replicate]
   split<;>rfl
  refine⟨rfl,rfl,Below.refl _ _,fun _ _=>rfl,fun x _ hl=> ?_,fun x _ hl=> ?_,fun hl=> ?_,fun x _ hl=> ?_,fun x _ hl=> ?_⟩<;>(rw [h0]at hl;cases hl)
 ·intro listed a w i hs h hi;have hi':=hi;unfold Region.ready at hi';simp only [List.mem_filter,List.mem_range,Bool.and_eq_true,Bool.not_eq_true']at hi';rcases F.cover i hi'.1 with rfl|⟨x,hx,rfl⟩|⟨x,hx,rfl⟩|⟨x,hx,rfl⟩
  ·exact step_make F hs h hi'.1 (by have:=hi'.2.1;simpa [Array.getD,hs,hi'.1]using this)
  ·exact step_value F h hx hi
  ·exact step_copy F h hx hi
  ·exact step_insert F h hx hi
 ·intro listed a w hs h hr;exact done listed a w (all_listed F hs hr) h
end
end QcE
end Go.Proofs.YtpeonbaodnmlnaaGreat.Ru
