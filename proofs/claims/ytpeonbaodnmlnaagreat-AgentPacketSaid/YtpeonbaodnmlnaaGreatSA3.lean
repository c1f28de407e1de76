/- Lemmas of this claim, put together out of: GN, ZA, NA, GO, GP, GQ, GR, GS, GT, GU, GV, GW, GX2, GY, GZ, HA, HB, HC, HD, HE, HF, HG. -/
import Derived.Test.YtpeonbaodnmlnaaGreatSA2
import Derived.Test.YtpeonbaodnmlnaaGreatSU
import Derived.Maps.RangeRun
import Derived.Maps.OwnIn
import Derived.Laws.IdiomStrings
set_option linter.unusedSimpArgs false
set_option linter.unusedVariables false
set_option maxRecDepth 100000
set_option maxHeartbeats 16000000
namespace Go.Proofs.YtpeonbaodnmlnaaGreat
open Go.RowKit
variable{after:Array Edge}{cs:Array Value}{bs:List Int}{B base i o:Nat}{C:Nat→Prop}{x y:Operand}{ρ:Operand→Value}{g:Option (Nat×Bool)}{p:Option Addr}{l:Option Nat}{dst:Option Tmp}{pos:String}{ty:TypeId}{a0 a1 a10 a2 a3 a4 a5 a6 a7 a8 a9:Value}{A w:World}
def nd(c:Int):Int:=if c=255 then-1 else c
def nbe(bs:List Int):Int:=bs.foldl (fun n c=>n*256+c) 0
theorem Qil(bs:List Int)(c:Int):nbe (bs++ [c])=nbe bs*256+c:=by unfold nbe;rw [List.foldl_append];rfl
theorem Qph: ∀(k:Nat) (bs:List Int),bs.length=k→ByR bs→0≤nbe bs∧nbe bs<256^k
 |0,bs,h,_=>by
  obtain rfl:=List.length_eq_zero_iff.1 h;exact⟨Int.le_refl _,Dc⟩
 |k+1,bs,h,hr=>by
  obtain⟨a,c,rfl⟩: ∃l c,bs=l++ [c]:=⟨bs.dropLast,bs.getLast (by intro e;rw [e]at h;cases h),(List.dropLast_concat_getLast _).symm⟩;have d:a.length=k:=by rw [List.length_append]at h;simp at h;exact h
  have f:=Qph k a d (fun b hb=>hr b (List.mem_append_left _ hb));have g:=hr c (List.mem_append_right _ (List.mem_singleton.2 rfl));rw [Qil,Int.pow_succ];omega
def Qpi(bs:List Int):Opt:=⟨bt bs 2,bt bs 3,nd (bt bs 4),nd (bt bs 5),nbe ((bs.drop 6).take 4),nbe ((bs.drop 10).take 6)⟩
def Qc7(bs:List Int):Bool:=bt bs 0==158&&bt bs 1==16&&ZO (Qpi bs)
def takeE(bs:List Int):Int:=if bs.length<16 then 61 else if 16<bs.length then 60 else if Qc7 bs then 0 else 60
def Yh(bs:List Int):Opt:=if bs.length=16∧Qc7 bs=true then Qpi bs else QV
def offN(i:Nat):Nat:=if i<6 then i else if i=6 then 6 else if i=7 then 10 else 16
def Qvs(bs:List Int)(i:Nat):Int:=if i=4∨i=5 then nd (bt bs i)else if i<6 then bt bs i else if i=6 then nbe ((bs.drop 6).take 4)else nbe ((bs.drop 10).take 6)
def YN(bs:List Int)(i:Nat):List Int:=(List.range i).map (Qvs bs)
theorem Qst{x:Nm}(h:(J4 QV)[i]?=some x)(bs:List Int)(hb:bs.length=16)(hr:ByR bs):i<8∧ ∃m:Nat,x.by_=m∧1≤m∧m≤6∧offN (i+1)=offN i+m∧Qvs bs i=(if x.lo<0∧nbe ((bs.drop (offN i)).take m)=255 then-1 else nbe ((bs.drop (offN i)).take m))∧(x.lo<0∨0≤x.lo):=by
 have c:i<8:=(List.getElem?_eq_some_iff.1 h).1;refine⟨c,?_⟩;have b: ∀k,k<16→nbe ((bs.drop k).take 1)=bt bs k:=fun k hk=>by
  unfold bt;rw [List.getD_eq_getElem?_getD,List.getElem?_eq_getElem Om]
  rw [show(bs.drop k).take 1= [bs[k]]by
   refine List.ext_getElem? fun j=> ?_;rw [List.getElem?_take];rcases j with _|j
   ·simp [List.getElem?_eq_getElem (show k<bs.length by omega)]
   ·simp]
  simp [nbe]
 obtain rfl|rfl|rfl|rfl|rfl|rfl|rfl|rfl:i=0∨i=1∨i=2∨i=3∨i=4∨i=5∨i=6∨i=7:=by omega
 ·obtain rfl:=Option.some.inj h;exact⟨1,rfl,Om,Om,rfl,by rw [if_neg (by rintro⟨a,-⟩;revert a;decide),show offN 0=0 from rfl,b 0 Om];rfl,by right;decide⟩
 ·obtain rfl:=Option.some.inj h;exact⟨1,rfl,Om,Om,rfl,by rw [if_neg (by rintro⟨a,-⟩;revert a;decide),show offN 1=1 from rfl,b 1 Om];rfl,by right;decide⟩
 ·obtain rfl:=Option.some.inj h;exact⟨1,rfl,Om,Om,rfl,by rw [if_neg (by rintro⟨a,-⟩;revert a;decide),show offN 2=2 from rfl,b 2 Om];rfl,by right;decide⟩
 ·obtain rfl:=Option.some.inj h;exact⟨1,rfl,Om,Om,rfl,by rw [if_neg (by rintro⟨a,-⟩;revert a;decide),show offN 3=3 from rfl,b 3 Om];rfl,by right;decide⟩
 ·obtain rfl:=Option.some.inj h;refine⟨1,rfl,Om,Om,rfl,?_,by left;decide⟩;rw [show offN 4=4 from rfl,b 4 Om];show nd (bt bs 4)=_;unfold nd
  by_cases h:bt bs 4=255
  ·rw [if_pos h,if_pos ⟨Dc,h⟩]
  ·rw [if_neg h,if_neg (fun e=>h e.2)]
 ·obtain rfl:=Option.some.inj h;refine⟨1,rfl,Om,Om,rfl,?_,by left;decide⟩;rw [show offN 5=5 from rfl,b 5 Om];show nd (bt bs 5)=_;unfold nd
  by_cases h:bt bs 5=255
  ·rw [if_pos h,if_pos ⟨Dc,h⟩]
  ·rw [if_neg h,if_neg (fun e=>h e.2)]
 ·obtain rfl:=Option.some.inj h;exact⟨4,rfl,Om,Om,rfl,by rw [if_neg (by rintro⟨a,-⟩;revert a;decide)];rfl,by right;decide⟩
 ·obtain rfl:=Option.some.inj h;exact⟨6,rfl,Om,Om,rfl,by rw [if_neg (by rintro⟨a,-⟩;revert a;decide)];rfl,by right;decide⟩
theorem QAi{n c:Int}(h0:0≤n)(h1:n<1099511627776)(c0:0≤c)(c1:c<256):bits BinOp.or IntKind.i64 (n*256) c=n*256+c:=by
 obtain⟨a,rfl⟩:=Int.eq_ofNat_of_zero_le h0;obtain⟨b,rfl⟩:=Int.eq_ofNat_of_zero_le c0;rw [show(a:Int)*256=((a*2^8:Nat):Int)by omega,QaP _ _ _ (by show a*2^8<2^64;omega) (by show b<2^64;omega),Qjw _ _ _ Om,IntKind.wrap_i64];omega
def OIi(w:World)(base:Nat)(v:Value)(vs:List Int):Prop:=w.ownsRow base 3 1 v vs.length (vs.map (Value.int .i64))
theorem OIi.at{v:Value}{vs:List Int}(h:OIi w base v vs)(hn:0<vs.length): ∃g c,v= .slice (some ⟨g,0,none⟩) vs.length c∧base≤g∧Lt g w∧ ∀k (hk:k<vs.length),w.cell? ⟨g,k,none⟩=some (.int .i64 vs[k]):=by
 rcases h.2 with⟨rfl,h1⟩|⟨g,cap,cur,rfl,hg,hgb,h1,h2,h3,h4⟩
 ·omega
 ·refine⟨g,cap,rfl,hg,(Array.getElem?_eq_some_iff.1 hgb).1,fun k hk=> ?_⟩;have a:(List.take (vs.length*1) cur.toList)[k]?=(vs.map (Value.int .i64))[k]?:=by rw [h4]
  rw [List.getElem?_take,if_pos Om,Array.getElem?_toList,List.getElem?_map,List.getElem?_eq_getElem hk]at a;simp only [World.cell?,hgb];exact a
theorem YE{v:Value}{vs:List Int}(h:OIi w base v vs): ∃a m c,v= .slice a m c:=Qfi h
theorem OIi.zero(w:World)(base:Nat):OIi w base (.slice none 0 0) []:=World.ownsRow_nil _ _ _ _
theorem Qvt:(Tryz.prog.info? 3).map (fun i=>(i.zero,i.size,i.bytes))=some (some (.int .i64 0),1,8):=Kr
theorem Qc8{ops:Array Oper}{D:Nat→Prop}{r:Nat}{Q:Act→World→Prop}{N k m m':Nat}{fuel:Nat}{a:Act}{A:Nat}{v1:Value}{b1:List Int}{x1:Int}
  (hm:m|||(1<<<k)=m')(hi:ops[k]?=some ⟨dst,.call {callee:= .builtin .append,args:=#[x,y],argTypes:=#[206,206]},ty,pos,after,none⟩)(hx:a.eval x=v1)(hy:a.eval y= .slice (some ⟨A,0,none⟩) 1 1)(h1:OIi w base v1 b1)(hA:w.cell? ⟨A,0,none⟩=some (.int .i64 x1))(hl:b1.length≤1000)(hC: ∀r,v1.ownBlock=some r→C r)(hCD: ∀k,C k→D k)(hb:base≤w.heap.size)
  (H: ∀v' w',OIi w' base v' (b1++ [x1])→w.grownBy w' v1.ownBlock→Mv (fun k=>v1.ownBlock=some k) w w'→QP C D r Tryz.prog .any ops Q fuel (msk N m') (a.put dst v') w'):QaX C D r Tryz.prog ops Q fuel N k m a w:=by
 obtain⟨g,i,l,n,o⟩:=info_parts Qvt
 obtain⟨v',w',p,q,f,-,-⟩:=run_append_own_at (P:=Tryz.prog) w base 206 ty 3 g (.int .i64 0) 1 8 Tryz.underlying206 i l n o rfl Dc v1 b1.length _ h1 ⟨A,0,none⟩ 1 1 [.int .i64 x1] rfl (fun j u b=>by
  match j,b with
  |0,h=>cases h;exact hA) (by intro u b;simp at b;subst b;rfl) (by unfold maxLen;omega) Om hb
 have c:Mv (fun k=>v1.ownBlock=some k) w w':=Mv.of_grown f fun r e=> .inl e;have d:Mv C w w':=c.mono fun k _ e=>hC k e;refine Zq (v:=v') hm hi rfl ?_ ⟨.inr d,d.mono fun k _ h=>hCD k h⟩ (H v' w' ?_ f c)
 ·simp [execOp,resolve,invoke,builtin,hx,hy,p,Result.andThen]
 ·unfold OIi;rw [List.length_append,List.map_append];exact q
theorem Jk{a:Option Addr}{m c:Nat}(h0:w.cell? ⟨B,i,none⟩=some (.slice a m c))(hl:Lt B w)(hC: ¬C B){q:Operand}
  (hx:ρ q= .pointer (some ⟨B,i,none⟩)): ∀w',Mv C w w'→(execOp ρ ⟨dst,.load 206 q,ty,pos,after,g⟩).run Tryz.prog w'= .ok (.value (.slice a m c)) w':=by
 intro w' b;have d:w'.cell? ⟨B,i,none⟩=some (.slice a m c):=by rw [Qa,Qf (b.same B hl hC),←Qa];exact h0
 simp only [execOp,hx];go_simp
theorem YU{v:Int}(hx:ρ x= .int .i64 v)(w:World):
  (execOp ρ ⟨dst,.buildSlice 206 1 #[(0,x)],ty,pos,after,g⟩).run Tryz.prog w= .ok (.value (.slice (some ⟨w.heap.size,0,none⟩) 1 1)) (w.alloc (.cells #[.int .i64 v] 3)):=by
 simp only [execOp];go_simp
theorem YV{v u:Value}(hc:w.cell? ⟨B,0,none⟩=some u)(hf:w.frozen? ⟨B,0,none⟩=false)(hv: ∃a m c,v= .slice a m c)
  (hx:ρ x= .pointer (some ⟨B,0,none⟩))(hy:ρ y=v):(execOp ρ ⟨dst,.store 206 x y,ty,pos,after,g⟩).run Tryz.prog w= .ok .skip (w.setCell ⟨B,0,none⟩ v):=by
 obtain⟨a,m,c,rfl⟩:=hv;simp only [execOp,hx,hy];go_simp
structure Qfo(bs:List Int)(b off B1 B3 base i:Nat)(W:World):Prop where
 at_: ∃P q va,Boxed W B1 28 (.slice P (16- offN i) q)∧16- offN i≤q∧(offN i<16→P=some ⟨b,off+offN i,none⟩)∧Boxed W B3 206 va∧OIi W base va (YN bs i)
theorem Qfo.mv{b off B1 B3:Nat}{A':World}(h:Qfo bs b off B1 B3 base i A)(hm:Mv C A A')(h1: ¬C B1)(h3: ¬C B3)(hc: ∀k,base≤k→ ¬C k):Qfo bs b off B1 B3 base i A':=by
 obtain⟨P,q,a,c,d,e,f,g⟩:=h;exact⟨P,q,a,Qj c hm h1,d,e,Qj f hm h3,Qw g hm hc⟩
theorem J5{m c:Nat}(i:Nat)(hi:i<m)
  (hx:ρ x= .slice (some ⟨B,0,none⟩) m c)(hy:ρ y= .int .i64 (i:Nat))(w:World):(execOp ρ ⟨dst,.indexAddr 206 x y,ty,pos,after,g⟩).run Tryz.prog w= .ok (.value (.pointer (some ⟨B,i,none⟩))) w:=by
 have a:(i:Int)<m:=by omega
 simp only [execOp,hx,hy];go_simp
theorem QdK{n:Int}(h:n % 256=n)(hx:ρ x= .int .i64 n)(w:World):
  (execOp ρ ⟨dst,.convert 3 5 x,ty,pos,after,g⟩).run Tryz.prog w= .ok (.value (.int .u8 n)) w:=by
 have:=QeH ρ dst x ty pos after g hx w
 rwa [h]at this
theorem Qvu(bs:List Int):YN bs 8= [bt bs 0,bt bs 1,bt bs 2,bt bs 3,nd (bt bs 4),nd (bt bs 5),nbe ((bs.drop 6).take 4),nbe ((bs.drop 10).take 6)]:=rfl
theorem YW(bs:List Int)(i:Nat):YN bs (i+1)=YN bs i++ [Qvs bs i]:=by unfold YN;rw [List.range_succ,List.map_append];rfl
theorem Qbq{tmps:Array Value}{g:Nat}(hp:tmps.getD 2 undef= .pointer (some ⟨g,0,none⟩))(hr:Qc w g=cs)(hc:cs.size=6):
  (results Tryz.f94 tmps).run Tryz.prog w= .ok (.tuple #[.agg cs,tmps.getD 3 undef]) w:=
 QL rfl tmps w g hp (by
  rw [Qar (by rw [hr,hc];omega),hr]
  rw [show cs.extract 0 (0+6)=cs by rw [Nat.zero_add,←hc];simp])
theorem OIi.ext{w':World}{v:Value}{vs:List Int}(h:OIi w base v vs)(e:Ext w w'):OIi w' base v vs:=Qw (C:=fun _=>False) h (Mv.of_ext e) (fun _ _ h=>h)
theorem OIi.lt{v:Value}{vs:List Int}(h:OIi w base v vs): ∀g,v.ownBlock=some g→g<w.heap.size:=by
 intro g a;rcases h.2 with⟨rfl,h1⟩|⟨g',cap,cur,rfl,-,hgb,-⟩
 ·cases a
 ·have:g'=g:=by simpa [Value.ownBlock]using a
  subst this;exact(Array.getElem?_eq_some_iff.1 hgb).1
def Qim(ops:Array Oper):Prop:=Region.noSelect ops=true∧Qo ops 10 [1,4,5,6,7] 0=true∧Rd ops 10 242 [0,2]∧Rd ops 10 243 [2]∧Rd ops 10 247 [3]∧Rd ops 10 255 [8]∧Rd ops 10 511 [9]∧Rd ops 10 1023 []∧lateB .any ops 9 4=true∧lateB .any ops 9 5=true∧lateB .any ops 9 6=true∧lateB .any ops 9 7=true
theorem QgZ:Qim ((Tryz.f94.body.bind (Qh 16)).getD #[]):=⟨Kr,Kr,Rk,Rk,Rk,Rk,Rk,Rk,Kr,Kr,Kr,Kr⟩
def Qin(ops:Array Oper):Prop:=Region.noSelect ops=true∧Qo ops 10 [1,4,5,6,7] 0=true∧Rd ops 10 242 [0,2]∧Rd ops 10 246 [0]∧Rd ops 10 247 [3]∧Rd ops 10 255 [8]∧Rd ops 10 511 [9]∧Rd ops 10 1023 []∧lateB .any ops 9 4=true∧lateB .any ops 9 5=true∧lateB .any ops 9 6=true∧lateB .any ops 9 7=true
theorem Qg0:Qin ((Tryz.f94.body.bind (Qh 16)).getD #[]):=⟨Kr,Kr,Rk,Rk,Rk,Rk,Rk,Rk,Kr,Kr,Kr,Kr⟩
def Qd3(ops:Array Oper):Prop:=Qim ops∧Qin ops
theorem Qa4:Qd3 ((Tryz.f94.body.bind (Qh 16)).getD #[]):=⟨QgZ,Qg0⟩
def QlN(ops:Array Oper):Prop:=Region.noSelect ops=true∧Qv ops 22 [0,1,2,3,4,5,6,7,8,9,10,11,12,13] 0=true∧Qv ops 22 [14,15,16,17,18,19,20] 16383=true∧Rd ops 22 2097151 [21]∧Rd ops 22 4194303 []
theorem Qio:QlN ((Tryz.f94.body.bind (Qh 17)).getD #[]):=⟨Kr,Kr,Kr,Rk,Rk⟩
theorem Qbr(p:Option Addr)(bs:List Int)(c:Nat)(w:World)(hs:SlB w p bs)(hr:ByR bs)(hl:bs.length≤1000)(hlc:bs.length≤c)(hpb: ∀b off,p=some ⟨b,off,none⟩→b<w.heap.size):
  Cr 94 #[.slice p bs.length c] w (.tuple #[.agg (opv (Yh bs)),.int .i64 (takeE bs)]):=by
 have HS:=Xh hs;have HR:=Xh hr;have h8:=Xh hpb;clear hs hr hpb;refine(callsIn_wide (n:=5)).1 ?_;refine callsIn_of_wp_marks Tryz.func94 rfl trivial ?_ rfl;simp only [Tryz.ntmps94,List.size_toArray,List.length_cons,List.length_nil,Nat.reduceAdd,Nat.reduceSub,Array.replicate_succ,Array.replicate_zero,List.push_toArray,List.append_toArray,List.nil_append,List.cons_append];refine wpIn_wide.2 ?_;go_wp2;refine Qp 0 rfl ?_
 go_upto_region 2 with(fail)
 obtain⟨W0,hW⟩: ∃W0,(((w.alloc (.cells #[.slice p bs.length c] 28)).alloc (.cells #[.int .u8 0,.int .u8 0,.int .i64 0,.int .i64 0,.int .i64 0,.int .i64 0] 75)).alloc (.cells #[.slice none 0 0] 206))=W0:=⟨_,rfl⟩;have g0:Ext w W0:=by rw [←hW];exact Ext.al (Ext.al Ea _) _
 have r2:RowZ W0 (w.heap.size+1) (opv QV):=by rw [←hW];exact⟨by simp [go_sem];rfl,by simp [go_sem],by simp [go_sem,Lt]⟩
 have b4:Boxed W0 w.heap.size 28 (.slice p bs.length c):=by
  rw [←hW];exact Qj (C:=fun _=>False) (Boxed.new w 28 (.slice p bs.length c)) (Mv.of_ext (Ext.al Ea _)) (fun h=>h)
 have b3:Boxed W0 (w.heap.size+1+1) 206 (.slice none 0 0):=by
  rw [←hW];have:=Boxed.new ((w.alloc (.cells #[.slice p bs.length c] 28)).alloc (.cells #[.int .u8 0,.int .u8 0,.int .i64 0,.int .i64 0,.int .i64 0,.int .i64 0] 75)) 206 (.slice none 0 0);simpa using this
 have b9:W0.heap.size=w.heap.size+3:=by rw [←hW];simp
 have s0:=HS.out.ext g0;rw [hW];clear hW;obtain⟨O,e1⟩: ∃B,w.heap.size=B:=⟨_,rfl⟩;rw [e1]at b4 b3 r2 b9⊢;obtain⟨S,e2⟩: ∃B,O+1=B:=⟨_,rfl⟩;rw [e2]at r2 b3⊢;obtain⟨M,e3⟩: ∃B,S+1=B:=⟨_,rfl⟩;rw [e3]at b3⊢;have c1:=b4.cell;have g5:=r2.r;have g6:=r2.z;have HX:=Xh (And.intro b4 (And.intro b3 (And.intro r2 (And.intro s0 (And.intro g0 b9)))));clear b4 b3 r2 s0 g0 b9;rcases Nat.lt_trichotomy bs.length 16 with h16|h16|h16
 ·have hc:decide (((bs.length:Nat):Int)<16)=true:=decide_eq_true Om;go_wp2;go_step3;refine⟨rfl,?_⟩;go_wp2;rw [Exit.noGoto_ret];obtain⟨b4,b3,r2,s0,g0,b9⟩:=HX.out;exact⟨_,Qbq rfl (r2.all (opv QV) rfl).r rfl,by rw [show Yh bs=QV from if_neg Om,show takeE bs=61 from if_pos h16];rfl,Mv.ext_of g0 (Mv.sa (C:=fun k=>k=S) _ rfl (Mv.refl _ _)) (fun k e=>by omega)⟩
 ·obtain⟨b,off,rfl,-,-⟩:=HS.out 0 Om;rw [h16]at c1;have hc:decide ((16:Int)<16)=false:=by decide
  go_wp2_with (go_at_call 168;(refine(Qa2 QV _ Dc Dc).mono ?_);rintro e I ⟨Bv,rfl,⟨g1,l5,⟨br,cv,sv,l6,i8⟩,lv⟩⟩)
  obtain⟨b4,b3,r2,s0,g0,b9⟩:=HX.out;have g2:=g0.tr g1;have d6:=Qj (C:=fun _=>False) b4 (Mv.of_ext g1) (fun h=>h);rw [h16]at d6;have e0:=Qj (C:=fun _=>False) b3 (Mv.of_ext g1) (fun h=>h);have e8:=r2.ext g1;have s1:=s0.ext g1;have j8:O+3≤I.heap.size:=by have:=g1.size;omega
  have j9:b<O:=by have:=h8.out b off rfl;omega
  clear b4 b3 r2 s0 HX g5 g6 c1;refine(wpIn_wide (n:=5)).1 ?_;refine ZI rfl Om (gf:=212) (lb:=#[.pointer (some ⟨Bv,0,none⟩)]) rfl trivial JB
   (Qas _ (J4 QV) (some ⟨br,0,none⟩) 8 I Bv (fun k=>k=O∨k=M) sv (fun b off e=>by cases e;exact Nat.lt_trans i8 lv) (by show 8≤1000;omega) cv lv (fun k e=>⟨Om,fun b off e=>by cases e;omega⟩))
   (fun k h=>h.elim) (fun k h=>by omega) (fun _=>rfl)
   (fun i W=>Qfo bs b off O M (I.heap.size+2) i W) (fun _ _=>False)
   (fun i A B h hm=>h.mv hm (by rintro(h|h|h);exact h.elim;omega;omega) (by rintro(h|h|h);exact h.elim;omega;omega) (fun k hk h=>by rcases h with h|h|h;exact h.elim;omega;omega))
   (fun _ _ _ h _=>h) ⟨⟨_,_,_,d6,by show 16- 0≤c;omega,fun _=>rfl,e0,OIi.zero _ _⟩⟩
   (fun x a' W=> ∃Bx va,I.heap.size+2≤Bx∧RowZ W Bx #[.int .i64 x.n,.int .i64 x.lo,.int .i64 x.hi,.int .i64 x.by_]∧Boxed W M 206 va∧(∀g,va.ownBlock=some g→g≠Bx)∧a'={tmps:=#[.slice (some ⟨b,off,none⟩) 16 c,.pointer (some ⟨O,0,none⟩),.pointer (some ⟨S,0,none⟩),.int .i64 60,.pointer (some ⟨M,0,none⟩),.pointer (some ⟨Bx,0,none⟩),undef,undef,undef,.slice (some ⟨b,off,none⟩) 16 c,.int .i64 16,.bool false,.slice (some ⟨b,off,none⟩) 16 c,.int .i64 16,.bool false,.agg (opv QV),.func (.func 212) #[] #[.pointer (some ⟨Bv,0,none⟩)],.agg #[.int .i64 x.n,.int .i64 x.lo,.int .i64 x.hi,.int .i64 x.by_],undef,undef,undef,undef,undef,undef,undef,undef,undef,undef,undef,undef,undef,undef,undef,undef,undef,undef,undef,undef,undef,undef,undef,undef,undef,undef,undef,undef,undef,undef,undef,undef,undef,undef,undef,undef,undef,undef,undef,undef,undef,undef,undef,undef,undef,undef,undef,undef,undef,undef,undef,undef,undef,undef,undef,undef,undef,undef,undef,undef,undef,undef,undef,undef,undef,undef,undef,undef],defers:= []})
   (fun x a' A B h hm=>by
    obtain⟨Bx,va,q1,q2,q3,q4,q5⟩:=h
    exact⟨Bx,va,q1,q2.mv hm Om,Qj q3 hm Om,q4,q5⟩)
   ?assign ?body ?done ?stop
  case assign=>
   intro y i x W K b9 hv hI hx hK;unfold nmv
   gi_wp2
   have h9:=hI.mv (C:=fun _=>False) (Mv.al (.cells #[.int .i64 x.n,.int .i64 x.lo,.int .i64 x.hi,.int .i64 x.by_] 210) (Mv.refl _ _)) (fun h=>h) (fun h=>h) (fun _ _ h=>h);have HI:=hI;obtain⟨P,q,va,-,-,-,s,-⟩:=h9;obtain⟨P',q',i9,-,-,-,j0,j1⟩:=HI;have i0:=Qj (C:=fun _=>False) j0 (Mv.al (.cells #[.int .i64 x.n,.int .i64 x.lo,.int .i64 x.hi,.int .i64 x.by_] 210) (Mv.refl _ _)) (fun h=>h);refine hK _ _ (Mv.al _ (Mv.refl _ _)) (hI.mv (C:=fun _=>False) (Mv.al _ (Mv.refl _ _)) (fun h=>h) (fun h=>h) (fun _ _ h=>h)) ⟨W.heap.size,i9,b9,RowZ.new _ _ _,i0,fun g hg e=>by have:=j1.lt g hg;omega,rfl⟩
  case body=>
   rintro y i x a' W j2 ⟨rr,hr⟩ j3 hv hI hx ⟨Bx,j4,q1,q2,q3,q4,rfl⟩;obtain⟨l7,m,hm,m1,m6,ho,a8,j5⟩:=Qst hx bs h16 HR.out;obtain⟨P,q,va,G,a2,a3,s,H⟩:=hI;have k8:=show offN (i+1)≤16 by unfold offN;split;omega;split;omega;split;omega;omega
   obtain rfl:=a3 Om;have sW:=s1.mv hv (by rintro(h|h|h);exact h;omega;omega);obtain⟨X,j6⟩: ∃z,offN i=z:=⟨_,rfl⟩;rw [j6]at ho a8 G a2;obtain⟨N,hN⟩: ∃N,16- X=N:=⟨_,rfl⟩;rw [hN]at G a2;have c9:((bs.drop X).take m).length=m:=by rw [List.length_take,List.length_drop];omega
   have c2: ∀k (hk:k<m),((bs.drop X).take m)[k]?=some (bt bs (X+k)):=fun k hk=>by
    rw [List.getElem?_take,if_pos hk,List.getElem?_drop];unfold bt;rw [List.getD_eq_getElem?_getD,List.getElem?_eq_getElem Om];rfl
   have c3:ByR ((bs.drop X).take m):=fun z hz=>HR.out z (List.mem_of_mem_drop (List.mem_of_mem_take hz));obtain⟨L,hL⟩: ∃L,(bs.drop X).take m=L:=⟨_,rfl⟩;rw [hL]at a8 c9 c2 c3;have cb:=G.cell;have d3:W.cell? ⟨Bx,3,none⟩=some (.int .i64 (m:Nat)):=by rw [←hm];exact q2.cell 3 (by show 3<4;omega)
   have d1:W.cell? ⟨Bx,1,none⟩=some (.int .i64 x.lo):=q2.cell 1 (by show 1<4;omega);have k9:(0:Int)≤(m:Nat):=by omega
   have l0:((m:Nat):Int)≤(q:Nat):=by omega
   obtain rfl:va=j4:=Option.some.inj (s.cell.symm.trans q3.cell);have HA:=Xh (And.intro G (And.intro s (And.intro H (And.intro q2 (And.intro sW (And.intro a8 (And.intro q4 (And.intro hm ho))))))));have HL:=Xh (And.intro c9 (And.intro c2 c3));clear G s H q2 sW a8 c9 c2 c3 hv hx j5 hm hr q3 q4 ho j2 a3 hL s1 d6 e0 e8 cv sv
   gi_wp2
   gi_loopw [6,8,23] (fun a _ j wr=> ∃k:Nat,k≤m∧a= .int .i64 (nbe (L.take k))∧j= .int .i64 (k:Nat)∧wr=W) (fun _ _ j _=>m- (intOf j).toNat)
   case atStart=>exact⟨0,Om,rfl,rfl,rfl⟩
   case round=>
    obtain⟨k,hk,rfl,rfl,rfl⟩:=hrel
    by_cases f7:k=m
    ·have l1:decide ((k:Int)<(m:Int))=false:=decide_eq_false Om;have a8:=HA.out.2.2.2.2.2.1;rw [f7,List.take_of_length_le (by rw [HL.out.1];omega)];obtain⟨V,hV⟩: ∃V,nbe L=V:=⟨_,rfl⟩;rw [hV]at a8⊢;have HV:=Xh a8;have HK:=Xh f7;clear a8 hV f7;obtain⟨U,hU⟩: ∃U,(if x.lo<0∧V=255 then-1 else V)=U:=⟨_,rfl⟩;have i1:=Xh (HV.out.trans hU);have h3:(decide (x.lo<0)=true∧(V==255)=true∧(-1:Int)=U)∨(decide (x.lo<0)=true∧(V==255)=false∧V=U)∨(decide (x.lo<0)=false∧True∧V=U):=by
      by_cases h1:x.lo<0<;>by_cases h2:V=255<;>simp [h1,h2]at hU⊢ <;>first|exact hU|(subst h2;exact hU)
     clear hU;obtain⟨h6,h7,hU⟩|⟨h6,h7,hU⟩|⟨h6,h7,hU⟩:=h3
     all_goals gi_wp2
     all_goals rw [hU]
     all_goals
      clear hU;obtain⟨G,s,H,q2,sW,-,q4,hm,ho⟩:=HA.out;obtain⟨pa,na,ca,rfl⟩:=YE H;have a8:=i1.out;have d7:=Qi H;have e9: ¬(Value.slice pa na ca).ownBlock=some O:=fun e=>by have:=d7 _ e;omega
      have g7: ¬(Value.slice pa na ca).ownBlock=some M:=fun e=>by have:=d7 _ e;omega
      have f0: ¬(Value.slice pa na ca).ownBlock=some Bx:=fun e=>q4 _ e rfl;have i2: ¬(fun k=>(Value.slice pa na ca).ownBlock=some k∨k=M) O:=by rintro(e|e);exact e9 e;omega
      have i3: ¬(fun k=>(Value.slice pa na ca).ownBlock=some k∨k=M) Bx:=by rintro(e|e);exact f0 e;omega
      have i4:m≤N:=by omega
      have g8:(YN bs i).length≤1000:=by unfold YN;rw [List.length_map,List.length_range];omega
      refine ZW (fun k=>(Value.slice pa na ca).ownBlock=some k∨k=M) (fun k=>(Value.slice pa na ca).ownBlock=some k∨k=M∨k=O) 9 (fun _=>trivial) (fun h=>by cases h) (fun f args w R h=>CallsIn.inRound y (callsIn_wide.2 h)) Kr Kr ?_;obtain⟨WA,hW⟩: ∃Wdr,World.drew wr=Wdr:=⟨_,rfl⟩;have Y:Ext wr WA:=by rw [←hW];exact Ext.dr (Ext.rf _)
      rw [hW];clear hW;have G:=Qj (C:=fun _=>False) G (Mv.of_ext Y) (fun h=>h);have s:=Qj (C:=fun _=>False) s (Mv.of_ext Y) (fun h=>h);have H:=OIi.ext H Y;have q2:=q2.ext Y;have d3:WA.cell? ⟨Bx,3,none⟩=some (.int .i64 (m:Nat)):=by rw [←hm];exact q2.cell 3 (by show 3<4;omega)
      have c6:I.heap.size+2≤WA.heap.size:=Xt j3 Y.size;refine Zi (N:=10) (R:=Qd3) (E:=((Tryz.f94.body.bind (Qh 16)).getD #[])) Kr Qa4 Kr fun F=> ?_;obtain⟨F,c5⟩:=F;have o:=F.2.1;refine tWk 2 (.int .i64 U) F.1 o rfl fun o=> ?_;refine ZD (N:=10) (k:=4) (m':=18) (v:= .slice (some ⟨b,off+X,none⟩) N q) F.1 o F.2.2.2.2.2.2.2.2.1 rfl rfl Kr (JY G.cell G.lt i2 Kr) fun o=> ?_;refine ZD (N:=10) (k:=5) (m':=50) (v:= .pointer (some ⟨Bx,3,none⟩)) F.1 o F.2.2.2.2.2.2.2.2.2.1 rfl rfl Kr (fun _ _=>by kernel_rfl) fun o=> ?_;refine ZD (N:=10) (k:=6) (m':=114) (v:= .int .i64 (m:Nat)) F.1 o F.2.2.2.2.2.2.2.2.2.2.1 rfl rfl Kr (QaY d3 q2.l i3 Kr) fun o=> ?_;refine ZD (N:=10) (k:=7) (m':=242) (v:= .slice (ZF b (off+X) q m) (N- m) (q- m)) F.1 o F.2.2.2.2.2.2.2.2.2.2.2 rfl rfl Kr (fun w' _=>QaV (lo:=m) (m:=N) i4 a2 _ _ _ _ _ _ _ _ Kr Kr w') fun o=> ?_;refine QmS F.2.2.1 ?_ ?_
      ·refine(Zq (m':=243) (v:= .slice pa na ca) rfl rfl Kr ((Jk (C:=fun _=>False) s.cell s.lt (fun h=>h) Kr) _ (Mv.refl (fun _=>False) _)) ⟨.inr (Mv.refl _ _),(Mv.refl _ _)⟩ ?_);refine Qr F.2.2.2.1 (Zq (m':=247) rfl rfl Kr (YU (v:=U) Kr WA) ⟨.inr (Mv.of_ext Ea),(Mv.of_ext Ea)⟩ ?_);obtain⟨d9,f8⟩: ∃d9,WA.alloc (.cells #[.int .i64 U] 3)=d9:=⟨_,rfl⟩;have d2:=World.alloc_heap_new WA (.cells #[.int .i64 U] 3);have c7:Ext WA d9:=by rw [←f8];exact Ea
       rw [f8]at d2⊢;clear f8;have G:=Qj (C:=fun _=>False) G (Mv.of_ext c7) (fun h=>h);have s:=Qj (C:=fun _=>False) s (Mv.of_ext c7) (fun h=>h);have H:=OIi.ext H c7;have q2:=q2.ext c7;have f1:d9.cell? ⟨WA.heap.size,0,none⟩=some (.int .i64 U):=by simp only [World.cell?,d2];rfl
       have c6:=Xt c6 c7.size;have f2:=Mv.of_ext (C:=fun k=>(k=O∨k=M)∨I.heap.size+2≤k) c7;refine Qr F.2.2.2.2.1 (Qc8 (m':=255) (base:=I.heap.size+2) (v1:= .slice pa na ca) (b1:=YN bs i) (x1:=U) rfl rfl Kr Kr H f1 g8 (fun r e=> .inl e) (fun k h=>h.elim .inl (fun h=> .inr (.inl h))) c6 ?_);intro v' d5 H j7 b5;have G:=Qj G b5 e9;have s:=Qj s b5 g7;have q2:=q2.mv b5 f0;have f3:=b5.mono (D:=fun k=>(k=O∨k=M)∨I.heap.size+2≤k) (fun k _ e=> .inr (d7 k e));refine Qr F.2.2.2.2.2.1 (QE (m':=511) rfl rfl Kr (YV (B:=M) (v:=v') (u:= .slice pa na ca) s.cell s.frozen (YE H) Kr Kr) ⟨.inr (Mv.st _ (.inl (by first|exact .inr rfl|exact .inr (.inl rfl))) (Mv.refl _ _)),(Mv.st _ (.inl (by first|exact .inr rfl|exact .inr (.inl rfl))) (Mv.refl _ _))⟩ ?_);obtain⟨a9,b6⟩: ∃a9,World.setCell d5 ⟨M,0,none⟩ v'=a9:=⟨_,rfl⟩;have s:Boxed a9 M 206 v':=by rw [←b6];exact s.set _
       have gS:Mv (fun k=>k=M) d5 a9:=by rw [←b6];exact Mv.st _ (.inl rfl) (Mv.refl _ _)
       have G:=Qj G gS Om;have H:=Qw H gS (fun k hk e=>by omega);rw [b6];clear b6;refine Qr F.2.2.2.2.2.2.1 (QE (m':=1023) rfl rfl Kr (Yt (B:=O) (v:= .slice (ZF b (off+X) q m) (N- m) (q- m)) (u:= .slice (some ⟨b,off+X,none⟩) N q) G.cell G.frozen ⟨_,_,_,rfl⟩ Kr Kr) ⟨.inl Dc,(Mv.st _ (.inl (.inr (.inr rfl))) (Mv.refl _ _))⟩ ?_);obtain⟨b0,b7⟩: ∃b0,World.setCell a9 ⟨O,0,none⟩ (.slice (ZF b (off+X) q m) (N- m) (q- m))=b0:=⟨_,rfl⟩;have G:Boxed b0 O 28 (.slice (ZF b (off+X) q m) (N- m) (q- m)):=by rw [←b7];exact G.set _
       have gT:Mv (fun k=>k=O) a9 b0:=by rw [←b7];exact Mv.st _ (.inl rfl) (Mv.refl _ _)
       have s:=Qj s gT Om;have H:=Qw H gT (fun k hk e=>by omega);rw [b7];clear b7;refine QZ F.2.2.2.2.2.2.2.1 ?_;clear F c5 o;have HF:Qfo bs b off O M (I.heap.size+2) (i+1) b0:=⟨⟨ZF b (off+X) q m,q- m,v',by rw [ho,show 16- (X+m)=N- m by omega];exact G,Om,fun h=>by unfold ZF;rw [if_neg Om,ho,Nat.add_assoc],s,by rw [YW,a8];exact H⟩⟩;have HM:Mv (fun k=>(k=O∨k=M)∨I.heap.size+2≤k) wr b0:=((((Mv.of_ext Y).trans f2).trans f3).trans (gS.mono (D:=fun k=>(k=O∨k=M)∨I.heap.size+2≤k) (fun k _ e=> .inl (.inr e)))).trans (gT.mono (D:=fun k=>(k=O∨k=M)∨I.heap.size+2≤k) (fun k _ e=> .inl (.inl e)));go_simp;exact⟨HM,HF⟩
      ·refine(Zq (m':=246) rfl rfl Kr (YU (v:=U) Kr WA) ⟨.inr (Mv.of_ext Ea),(Mv.of_ext Ea)⟩ ?_);obtain⟨a0,c0⟩: ∃a0,WA.alloc (.cells #[.int .i64 U] 3)=a0:=⟨_,rfl⟩;have d2:=World.alloc_heap_new WA (.cells #[.int .i64 U] 3);have c8:Ext WA a0:=by rw [←c0];exact Ea
       rw [c0]at d2⊢;clear c0;have G:=Qj (C:=fun _=>False) G (Mv.of_ext c8) (fun h=>h);have s:=Qj (C:=fun _=>False) s (Mv.of_ext c8) (fun h=>h);have H:=OIi.ext H c8;have q2:=q2.ext c8;have f1:a0.cell? ⟨WA.heap.size,0,none⟩=some (.int .i64 U):=by simp only [World.cell?,d2];rfl
       have c6:=Xt c6 c8.size;have f2:=Mv.of_ext (C:=fun k=>(k=O∨k=M)∨I.heap.size+2≤k) c8;refine Qr c5.2.2.2.1 (Zq (m':=247) (v:= .slice pa na ca) rfl rfl Kr ((Jk (C:=fun _=>False) s.cell s.lt (fun h=>h) Kr) _ (Mv.refl (fun _=>False) _)) ⟨.inr (Mv.refl _ _),(Mv.refl _ _)⟩ ?_);refine Qr c5.2.2.2.2.1 (Qc8 (m':=255) (base:=I.heap.size+2) (v1:= .slice pa na ca) (b1:=YN bs i) (x1:=U) rfl rfl Kr Kr H f1 g8 (fun r e=> .inl e) (fun k h=>h.elim .inl (fun h=> .inr (.inl h))) c6 ?_);intro v' d5 H j7 b5;have G:=Qj G b5 e9;have s:=Qj s b5 g7;have q2:=q2.mv b5 f0;have f3:=b5.mono (D:=fun k=>(k=O∨k=M)∨I.heap.size+2≤k) (fun k _ e=> .inr (d7 k e));refine Qr c5.2.2.2.2.2.1 (QE (m':=511) rfl rfl Kr (YV (B:=M) (v:=v') (u:= .slice pa na ca) s.cell s.frozen (YE H) Kr Kr) ⟨.inr (Mv.st _ (.inl (by first|exact .inr rfl|exact .inr (.inl rfl))) (Mv.refl _ _)),(Mv.st _ (.inl (by first|exact .inr rfl|exact .inr (.inl rfl))) (Mv.refl _ _))⟩ ?_);obtain⟨a9,b6⟩: ∃a9,World.setCell d5 ⟨M,0,none⟩ v'=a9:=⟨_,rfl⟩;have s:Boxed a9 M 206 v':=by rw [←b6];exact s.set _
       have gS:Mv (fun k=>k=M) d5 a9:=by rw [←b6];exact Mv.st _ (.inl rfl) (Mv.refl _ _)
       have G:=Qj G gS Om;have H:=Qw H gS (fun k hk e=>by omega);rw [b6];clear b6;refine Qr c5.2.2.2.2.2.2.1 (QE (m':=1023) rfl rfl Kr (Yt (B:=O) (v:= .slice (ZF b (off+X) q m) (N- m) (q- m)) (u:= .slice (some ⟨b,off+X,none⟩) N q) G.cell G.frozen ⟨_,_,_,rfl⟩ Kr Kr) ⟨.inl Dc,(Mv.st _ (.inl (.inr (.inr rfl))) (Mv.refl _ _))⟩ ?_);obtain⟨b0,b7⟩: ∃b0,World.setCell a9 ⟨O,0,none⟩ (.slice (ZF b (off+X) q m) (N- m) (q- m))=b0:=⟨_,rfl⟩;have G:Boxed b0 O 28 (.slice (ZF b (off+X) q m) (N- m) (q- m)):=by rw [←b7];exact G.set _
       have gT:Mv (fun k=>k=O) a9 b0:=by rw [←b7];exact Mv.st _ (.inl rfl) (Mv.refl _ _)
       have s:=Qj s gT Om;have H:=Qw H gT (fun k hk e=>by omega);rw [b7];clear b7;refine QZ c5.2.2.2.2.2.2.2.1 ?_;clear F c5 o;have HF:Qfo bs b off O M (I.heap.size+2) (i+1) b0:=⟨⟨ZF b (off+X) q m,q- m,v',by rw [ho,show 16- (X+m)=N- m by omega];exact G,Om,fun h=>by unfold ZF;rw [if_neg Om,ho,Nat.add_assoc],s,by rw [YW,a8];exact H⟩⟩;have HM:Mv (fun k=>(k=O∨k=M)∨I.heap.size+2≤k) wr b0:=((((Mv.of_ext Y).trans f2).trans f3).trans (gS.mono (D:=fun k=>(k=O∨k=M)∨I.heap.size+2≤k) (fun k _ e=> .inl (.inr e)))).trans (gT.mono (D:=fun k=>(k=O∨k=M)∨I.heap.size+2≤k) (fun k _ e=> .inl (.inl e)));go_simp;exact⟨HM,HF⟩
    ·have l2:decide ((k:Int)<(m:Int))=true:=decide_eq_true Om;obtain⟨G,s,H,q2,sW,a8,q4,hm,ho⟩:=HA.out;obtain⟨c9,c2,c3⟩:=HL.out;have i5:wr.cell? ⟨b,off+X+k,none⟩=some (.int .u8 (bt bs (X+k))):=by
      rw [Nat.add_assoc];exact(sW.bt (X+k) Om).1
     have g9:L.take (k+1)=L.take k++ [bt bs (X+k)]:=by rw [List.take_add_one,c2 k Om];rfl
     have f4:=Qph k (L.take k) (by rw [List.length_take];omega) (fun z hz=>c3 z (List.mem_of_mem_take hz));have f5:=c3 _ (List.mem_iff_getElem?.2 ⟨k,c2 k Om⟩);have d8:=Xh (congrArg nbe g9);rw [Qil]at d8;obtain⟨n,hn⟩: ∃n,nbe (L.take k)=n:=⟨_,rfl⟩;obtain⟨d,hd⟩: ∃d,bt bs (X+k)=d:=⟨_,rfl⟩;rw [hn]at d8 f4⊢;rw [hd]at d8 f5 i5;clear G s H q2 sW a8 c9 c2 c3 g9 q4 hm ho;have hp:(256:Int)^k≤1099511627776:=by
      obtain rfl|rfl|rfl|rfl|rfl|rfl:k=0∨k=1∨k=2∨k=3∨k=4∨k=5:=by omega
      all_goals decide
     have HP:=Xh (And.intro f4 (And.intro f5 hp));clear f4 f5 hp
     gi_wp2
     obtain⟨⟨n0,n1⟩,⟨d0,d1⟩,hp⟩:=HP.out;refine⟨⟨k+1,Om,?_,rfl,trivial⟩,by simp [intOf];omega⟩;rw [d8.out,show wrap64 (n*256)=n*256 by simp only [wrap64];omega,show wrap64 d=d by simp only [wrap64];omega,QAi n0 Om d0 d1]
  case done=>
   rintro W hI hv hK;obtain⟨P,q,va,G,a2,a3,s,H⟩:=hI;have H:OIi W (I.heap.size+2) va (YN bs 8):=H;rw [Qvu]at H;obtain⟨J,cw,rfl,l8,a6,b8⟩:=H.at (by show 0<8;omega);have E:=Mv.ext_of g2 hv (fun k h=>by rcases h with h|h|h;exact h.elim;omega;omega);have Q:=e8.mv hv (by rintro(h|h|h);exact h.elim;omega;omega);have k0:W.cell? ⟨J,0,none⟩=some (.int .i64 (bt bs 0)):=b8 0 (by show 0<8;omega);have k1:W.cell? ⟨J,1,none⟩=some (.int .i64 (bt bs 1)):=b8 1 (by show 1<8;omega);have k2:W.cell? ⟨J,2,none⟩=some (.int .i64 (bt bs 2)):=b8 2 (by show 2<8;omega);have k3:W.cell? ⟨J,3,none⟩=some (.int .i64 (bt bs 3)):=b8 3 (by show 3<8;omega);have k4:W.cell? ⟨J,4,none⟩=some (.int .i64 (nd (bt bs 4))):=b8 4 (by show 4<8;omega);have k5:W.cell? ⟨J,5,none⟩=some (.int .i64 (nd (bt bs 5))):=b8 5 (by show 5<8;omega);have k6:W.cell? ⟨J,6,none⟩=some (.int .i64 (nbe ((bs.drop 6).take 4))):=b8 6 (by show 6<8;omega);have k7:W.cell? ⟨J,7,none⟩=some (.int .i64 (nbe ((bs.drop 10).take 6))):=b8 7 (by show 7<8;omega);have d4: ∀k,k<16→0≤bt bs k∧bt bs k<256:=fun k hk=>QaI HR.out k;have h4:bt bs 2 % 256=bt bs 2:=by have:=d4 2 Om;omega
   have h5:bt bs 3 % 256=bt bs 3:=by have:=d4 3 Om;omega
   have HO:=Xh (fun z4 z5 z6 z7 W=>Qb6 ⟨bt bs 2,bt bs 3,z4,z5,z6,z7⟩ W (d4 2 Om) (d4 3 Om));obtain⟨z4,e4⟩: ∃z,nd (bt bs 4)=z:=⟨_,rfl⟩;rw [e4]at k4;obtain⟨z5,e5⟩: ∃z,nd (bt bs 5)=z:=⟨_,rfl⟩;rw [e5]at k5;obtain⟨z6,e6⟩: ∃z,nbe ((bs.drop 6).take 4)=z:=⟨_,rfl⟩;rw [e6]at k6;obtain⟨z7,e7⟩: ∃z,nbe ((bs.drop 10).take 6)=z:=⟨_,rfl⟩;rw [e7]at k7;have HT:=Xh (show Qpi bs=⟨bt bs 2,bt bs 3,z4,z5,z6,z7⟩by unfold Qpi;rw [e4,e5,e6,e7]);have a7:=hK;have Z:=(Array.getElem?_eq_some_iff.1 hK).1;clear G a2 a3 H b8 hv hK e4 e5 e6 e7 d4 e8 s1 d6 e0 cv sv g2 g1 g0
   go_upto_region 17 with(fail)
   refine QO (fun k=>k=S) Kr ?_;obtain⟨WA,hW⟩: ∃Wdr,World.drew W=Wdr:=⟨_,rfl⟩;have Y:Ext W WA:=by rw [←hW];exact Ext.dr (Ext.rf _)
   rw [hW];clear hW;have E:=E.tr Y;have Q:=Q.ext Y;have s:=Qj (C:=fun _=>False) s (Mv.of_ext Y) (fun h=>h);have k0:=(Y.cell (p:=⟨J,0,none⟩) a6).trans k0;have k1:=(Y.cell (p:=⟨J,1,none⟩) a6).trans k1;have k2:=(Y.cell (p:=⟨J,2,none⟩) a6).trans k2;have k3:=(Y.cell (p:=⟨J,3,none⟩) a6).trans k3;have k4:=(Y.cell (p:=⟨J,4,none⟩) a6).trans k4;have k5:=(Y.cell (p:=⟨J,5,none⟩) a6).trans k5;have k6:=(Y.cell (p:=⟨J,6,none⟩) a6).trans k6;have k7:=(Y.cell (p:=⟨J,7,none⟩) a6).trans k7;have a6:=Xl a6 Y.size;have a7:=(Y.block _ Z).trans a7;have Z:=Xl Z Y.size;refine QaH (N:=22) (R:=QlN) (E:=((Tryz.f94.body.bind (Qh 17)).getD #[])) Kr Qio Kr fun F=> ?_;have o:=F.2.1;refine tM 1 (.slice (some ⟨J,0,none⟩) 8 cw) F.1 o rfl (Jk s.cell s.lt Om Kr) fun o=>tM 3 (.pointer (some ⟨J,2,none⟩)) F.1 o rfl (fun w' _=>J5 (m:=8) (c:=cw) 2 Om Kr Kr w') fun o=>tM 7 (.int .i64 (bt bs 2)) F.1 o rfl (QaY k2 a6 Om Kr) fun o=>tM 15 (.int .u8 (bt bs 2)) F.1 o rfl (fun w' _=>QdK h4 Kr w') fun o=>tM 31 (.slice (some ⟨J,0,none⟩) 8 cw) F.1 o rfl (Jk s.cell s.lt Om Kr) fun o=>tM 63 (.pointer (some ⟨J,3,none⟩)) F.1 o rfl (fun w' _=>J5 (m:=8) (c:=cw) 3 Om Kr Kr w') fun o=>tM 127 (.int .i64 (bt bs 3)) F.1 o rfl (QaY k3 a6 Om Kr) fun o=>tM 255 (.int .u8 (bt bs 3)) F.1 o rfl (fun w' _=>QdK h5 Kr w') fun o=>tM 511 (.slice (some ⟨J,0,none⟩) 8 cw) F.1 o rfl (Jk s.cell s.lt Om Kr) fun o=>tM 1023 (.pointer (some ⟨J,4,none⟩)) F.1 o rfl (fun w' _=>J5 (m:=8) (c:=cw) 4 Om Kr Kr w') fun o=>tM 2047 (.int .i64 (z4)) F.1 o rfl (QaY k4 a6 Om Kr) fun o=>tM 4095 (.slice (some ⟨J,0,none⟩) 8 cw) F.1 o rfl (Jk s.cell s.lt Om Kr) fun o=>tM 8191 (.pointer (some ⟨J,5,none⟩)) F.1 o rfl (fun w' _=>J5 (m:=8) (c:=cw) 5 Om Kr Kr w') fun o=>tM 16383 (.int .i64 (z5)) F.1 o rfl (QaY k5 a6 Om Kr) fun o=> ?_;have o:=F.2.2.1;refine tM 32767 (.slice (some ⟨J,0,none⟩) 8 cw) F.1 o rfl (Jk s.cell s.lt Om Kr) fun o=>tM 65535 (.pointer (some ⟨J,6,none⟩)) F.1 o rfl (fun w' _=>J5 (m:=8) (c:=cw) 6 Om Kr Kr w') fun o=>tM 131071 (.int .i64 (z6)) F.1 o rfl (QaY k6 a6 Om Kr) fun o=>tM 262143 (.slice (some ⟨J,0,none⟩) 8 cw) F.1 o rfl (Jk s.cell s.lt Om Kr) fun o=>tM 524287 (.pointer (some ⟨J,7,none⟩)) F.1 o rfl (fun w' _=>J5 (m:=8) (c:=cw) 7 Om Kr Kr w') fun o=>tM 1048575 (.int .i64 (z7)) F.1 o rfl (QaY k7 a6 Om Kr) fun o=>tMk 2097151 (.agg #[.int .u8 (bt bs 2),.int .u8 (bt bs 3),.int .i64 z4,.int .i64 z5,.int .i64 z6,.int .i64 z7]) F.1 o rfl fun o=> ?_;refine QaO F.2.2.2.1 (Qan (m':=4194303) rfl rfl Kr (Qpa (B:=S) (cs:=#[.int .u8 (bt bs 2),.int .u8 (bt bs 3),.int .i64 z4,.int .i64 z5,.int .i64 z6,.int .i64 z7]) (by rw [Q.r];rfl) Q.z rfl (by simp [go_sem]) Kr Kr) (Mv.sa _ rfl (Mv.refl _ _)) ?_);obtain⟨a0,c0⟩: ∃a0,Qe WA S 0 #[.int .u8 (bt bs 2),.int .u8 (bt bs 3),.int .i64 z4,.int .i64 z5,.int .i64 z6,.int .i64 z7]=a0:=⟨_,rfl⟩;have gS:Mv (fun k=>k=S) WA a0:=by rw [←c0];exact Mv.sa _ rfl (Mv.refl _ _)
   have E:=Mv.ext_of E gS (fun k e=>by omega);have s:=Qj s gS Om;have Q:RowZ a0 S #[.int .u8 (bt bs 2),.int .u8 (bt bs 3),.int .i64 z4,.int .i64 z5,.int .i64 z6,.int .i64 z7]:=by rw [←c0];exact Q.all _ rfl
   rw [c0];clear c0;refine doneK F.2.2.2.2 ?_;clear F o;go_simp;have k0:a0.cell? ⟨J,0,none⟩=some (.int .i64 (bt bs 0)):=by rw [Qa,Qf (gS.same J a6 Om),←Qa];exact k0
   have k1:a0.cell? ⟨J,1,none⟩=some (.int .i64 (bt bs 1)):=by rw [Qa,Qf (gS.same J a6 Om),←Qa];exact k1
   have a7:=(gS.same I.heap.size Z Om).trans a7;have Z:=Xl Z gS.size;have s:Boxed a0 M 206 (.slice (some ⟨J,0,none⟩) 8 cw):=s;have cl:=s.cell;have HO:=Xh (HO.out z4 z5 z6 z7);have Q:RowZ a0 S (opv ⟨bt bs 2,bt bs 3,z4,z5,z6,z7⟩):=Q;have HT:=HT;obtain⟨T,o⟩: ∃T:Opt,(⟨bt bs 2,bt bs 3,z4,z5,z6,z7⟩:Opt)=T:=⟨_,rfl⟩;rw [o]at Q HO HT;obtain⟨t0,f9⟩: ∃t,bt bs 0=t:=⟨_,rfl⟩;obtain⟨t1,g3⟩: ∃t,bt bs 1=t:=⟨_,rfl⟩;have HK:=Xh (show Qc7 bs=(t0==158&&t1==16&&ZO T)by unfold Qc7;rw [HT.out,f9,g3]);rw [f9]at k0;rw [g3]at k1;have g5:=Q.r;have g6:=Q.z;have l3:=Q.l;have HX:=Xh (And.intro E (And.intro Q (And.intro a7 Z)));clear f9 g3 o E Q a7 Z s gS Y k2 k3 k4 k5 k6 k7 h4 h5 a6
   cases h0:(t0==158)
   ·go_wp2;go_step3;go_wp2;simp only [Exit.jump];obtain⟨E,Q,a7,Z⟩:=HX.out;have b2:=HK.out;rw [h0]at b2;have mS:Mv (fun k=>k=S) a0 (Qe a0 S 0 (opv QV)):=Mv.sa _ rfl (Mv.refl _ _);have c4:=(mS.same I.heap.size Z Om).trans a7;refine⟨by simp,.inl ⟨_,_,rfl,run_takeDeferred c4,?_⟩⟩;have m3:Mv (fun k=>k=I.heap.size) (Qe a0 S 0 (opv QV)) ((Qe a0 S 0 (opv QV)).putObj I.heap.size (.deferred none)):=Mv.put _ _ _ rfl;exact⟨_,Qbq rfl ((Q.all (opv QV) rfl).mv m3 Om).r rfl,by rw [show Yh bs=QV from if_neg (fun e=>by rw [b2]at e;cases e.2),show takeE bs=60 from((if_neg Om).trans (if_neg Om)).trans (if_neg (by rw [b2];simp))];rfl,Mv.ext_of (Mv.ext_of E mS (fun k e=>by omega)) m3 (fun k e=>by omega)⟩
   ·cases h1:(t1==16)
    ·go_wp2;go_step3;go_wp2;simp only [Exit.jump];obtain⟨E,Q,a7,Z⟩:=HX.out;have b2:=HK.out;rw [h0,h1]at b2;have mS:Mv (fun k=>k=S) a0 (Qe a0 S 0 (opv QV)):=Mv.sa _ rfl (Mv.refl _ _);have c4:=(mS.same I.heap.size Z Om).trans a7;refine⟨by simp,.inl ⟨_,_,rfl,run_takeDeferred c4,?_⟩⟩;have m3:Mv (fun k=>k=I.heap.size) (Qe a0 S 0 (opv QV)) ((Qe a0 S 0 (opv QV)).putObj I.heap.size (.deferred none)):=Mv.put _ _ _ rfl;exact⟨_,Qbq rfl ((Q.all (opv QV) rfl).mv m3 Om).r rfl,by rw [show Yh bs=QV from if_neg (fun e=>by rw [b2]at e;cases e.2),show takeE bs=60 from((if_neg Om).trans (if_neg Om)).trans (if_neg (by rw [b2];simp))];rfl,Mv.ext_of (Mv.ext_of E mS (fun k e=>by omega)) m3 (fun k e=>by omega)⟩
    ·cases h2:ZO T
     ·rw [h2]at HO
      go_wp2_with (go_at_call 169;(refine(HO.out _).mono ?_);rintro e w4 ⟨rfl,g4⟩;have i6:=(HX.out.2.1.ext g4).r;have i7:=(HX.out.2.1.ext g4).z)
      go_step3;go_wp2;simp only [Exit.jump];obtain⟨E,Q,a7,Z⟩:=HX.out;have E:=E.tr g4;have Q:=Q.ext g4;have a7:=(g4.block _ Z).trans a7;have Z:=Xl Z g4.size;have b2:=HK.out;rw [h0,h1,h2]at b2;have mS:Mv (fun k=>k=S) w4 (Qe w4 S 0 (opv QV)):=Mv.sa _ rfl (Mv.refl _ _);have c4:=(mS.same I.heap.size Z Om).trans a7;refine⟨by simp,.inl ⟨_,_,rfl,run_takeDeferred c4,?_⟩⟩;have m3:Mv (fun k=>k=I.heap.size) (Qe w4 S 0 (opv QV)) ((Qe w4 S 0 (opv QV)).putObj I.heap.size (.deferred none)):=Mv.put _ _ _ rfl;exact⟨_,Qbq rfl ((Q.all (opv QV) rfl).mv m3 Om).r rfl,by rw [show Yh bs=QV from if_neg (fun e=>by rw [b2]at e;cases e.2),show takeE bs=60 from((if_neg Om).trans (if_neg Om)).trans (if_neg (by rw [b2];simp))];rfl,Mv.ext_of (Mv.ext_of E mS (fun k e=>by omega)) m3 (fun k e=>by omega)⟩
     ·rw [h2]at HO
      go_wp2_with (go_at_call 169;(refine(HO.out _).mono ?_);rintro e w4 ⟨rfl,g4⟩;have i6:=(HX.out.2.1.ext g4).r;have i7:=(HX.out.2.1.ext g4).z)
      simp only [Exit.jump];obtain⟨E,Q,a7,Z⟩:=HX.out;have E:=E.tr g4;have Q:=Q.ext g4;have a7:=(g4.block _ Z).trans a7;have Z:=Xl Z g4.size;have f6:=HK.out;rw [h0,h1,h2]at f6;have mS:Mv (fun k=>k=S) w4 (Qe w4 S 0 (opv T)):=Mv.sa _ rfl (Mv.refl _ _);have c4:=(mS.same I.heap.size Z Om).trans a7;refine⟨by simp,.inl ⟨_,_,rfl,run_takeDeferred c4,?_⟩⟩;have m3:Mv (fun k=>k=I.heap.size) (Qe w4 S 0 (opv T)) ((Qe w4 S 0 (opv T)).putObj I.heap.size (.deferred none)):=Mv.put _ _ _ rfl;exact⟨_,Qbq rfl ((Q.all (opv T) rfl).mv m3 Om).r rfl,by rw [show Yh bs=T from(if_pos ⟨h16,f6⟩).trans HT.out,show takeE bs=0 from((if_neg Om).trans (if_neg Om)).trans (if_pos f6)];rfl,Mv.ext_of (Mv.ext_of E mS (fun k e=>by omega)) m3 (fun k e=>by omega)⟩
  case stop=>intro _ _ h;exact h.elim
 ·have hc:decide (((bs.length:Nat):Int)<16)=false:=decide_eq_false Om;have l4:decide ((16:Int)<((bs.length:Nat):Int))=true:=decide_eq_true Om;go_wp2;go_step3;refine⟨rfl,?_⟩;go_wp2;rw [Exit.noGoto_ret];obtain⟨b4,b3,r2,s0,g0,b9⟩:=HX.out;exact⟨_,Qbq rfl (r2.all (opv QV) rfl).r rfl,by rw [show Yh bs=QV from if_neg Om,show takeE bs=60 from(if_neg Om).trans (if_pos h16)];rfl,Mv.ext_of g0 (Mv.sa (C:=fun k=>k=S) _ rfl (Mv.refl _ _)) (fun k e=>by omega)⟩
theorem pw5: ∀k:Nat,k<6→(256:Int)^k≤1099511627776:=by decide
theorem QAO(k:Nat)(hk:k+2≤bs.length):nbe ((bs.drop k).take 2)=w16 bs k:=by
 have e:(bs.drop k).take 2= [bs.getD k 0,bs.getD (k+1) 0]:=by
  refine List.ext_getElem (by simp;omega) fun i h1 h2=> ?_;simp at h2;obtain rfl|rfl:i=0∨i=1:=by omega
  all_goals(simp;rw [List.getElem?_eq_getElem Om];rfl)
 rw [e];unfold nbe w16 bt;simp
theorem QBt(k:Nat)(hk:k+4≤bs.length):nbe ((bs.drop k).take 4)=w16 bs k*65536+w16 bs (k+2):=by
 have e:(bs.drop k).take 4=(bs.drop k).take 2++(bs.drop (k+2)).take 2:=by
  rw [show 4=2+2 from rfl,List.take_add,List.drop_drop]
 have b: ∀a x y:Int,[x,y].foldl (fun n c=>n*256+c) a=a*65536+ [x,y].foldl (fun n c=>n*256+c) 0:=fun a x y=>by simp;omega
 have d:(bs.drop (k+2)).take 2= [bs.getD (k+2) 0,bs.getD (k+3) 0]:=by
  refine List.ext_getElem (by simp;omega) fun i h1 h2=> ?_;simp at h2;obtain rfl|rfl:i=0∨i=1:=by omega
  all_goals(simp;rw [List.getElem?_eq_getElem Om];rfl)
 rw [e,←QAO k Om,←QAO (k+2) Om,d];show((bs.drop k).take 2++_).foldl _ 0=_;rw [List.foldl_append,b];rfl
theorem QBu(bs:List Int)(p:Option Addr)(c:Nat)(w:World)(hb:SlB w p bs)(hr:ByR bs)(hl:bs.length≤6):Calls Tryz.prog 147 #[.slice p bs.length c] w fun e w'=>e= .returned (.int .i64 (nbe bs))∧w'=w:=by
 have h:=Xh hr;have m:=Xh hb;clear hr hb
 go_enter Tryz.func147,Tryz.ntmps147
 go_wp2
 go_loopw [3,4] (fun n a wr=> ∃k:Nat,k≤bs.length∧a= .int .i64 k∧n= .int .i64 (nbe (bs.take k))∧wr=w) (fun _ a _=>bs.length- (intOf a).toNat)
 case atStart=>exact⟨0,Nat.zero_le _,rfl,rfl,rfl⟩
 case round=>
  obtain⟨k,z,rfl,rfl,rfl⟩:=hrel
  by_cases g:k<bs.length
  ·have o:(k:Int)<bs.length:=by omega
   obtain⟨b,A,rfl,s,t⟩:=m.out k g;have q:=h.out _ (List.getElem_mem g);have f:=Xh (show nbe (bs.take (k+1))=nbe (bs.take k)*256+bs[k]by rw [List.take_add_one,List.getElem?_eq_getElem g];exact Qil _ _);obtain⟨x,j⟩: ∃x,bs[k]=x:=⟨_,rfl⟩;rw [j]at t q f;have d:=Qph k (bs.take k) (by rw [List.length_take];omega) (h.out.take k);have i:=pw5 k Om;obtain⟨n,l⟩: ∃n,nbe (bs.take k)=n:=⟨_,rfl⟩;rw [l]at d f⊢;have d:0≤n∧n<1099511627776:=⟨d.1,Int.lt_of_lt_of_le d.2 i⟩;have u:IntKind.i64.wrap (256*n)=n*256:=by rw [IntKind.wrap_i64];omega
   have v:IntKind.i64.wrap (n*256+x)=n*256+x:=by rw [IntKind.wrap_i64];omega
   have y:Lt b wr:=s;clear j l i;go_wp2
   go_roundw
   case rel=>exact⟨k+1,Om,by go_num,by rw [f.out],by first|rfl|trivial⟩
   case measure=>simp [intOf];omega
  ·have o: ¬((k:Int)<bs.length):=by omega
   have r:=Xh (show bs.take k=bs by rw [List.take_of_length_le Om]);rw [r.out];go_wp2;go_ret;exact⟨rfl,rfl⟩
theorem QBv(bs:List Int)(p:Option Addr)(c:Nat)(w:World)(hb:SlB w p bs)(hr:ByR bs)(hl:bs.length≤6):Calls Tryz.prog 150 #[.slice p bs.length c] w fun e w'=>e= .returned (.int .i64 (nbe bs))∧w'=w:=by
 have h:=Xh hr;have m:=Xh hb;clear hr hb
 go_enter Tryz.func150,Tryz.ntmps150
 go_wp2
 go_loopw [3,4] (fun n a wr=> ∃k:Nat,k≤bs.length∧a= .int .i64 k∧n= .int .i64 (nbe (bs.take k))∧wr=w) (fun _ a _=>bs.length- (intOf a).toNat)
 case atStart=>exact⟨0,Nat.zero_le _,rfl,rfl,rfl⟩
 case round=>
  obtain⟨k,z,rfl,rfl,rfl⟩:=hrel
  by_cases g:k<bs.length
  ·have o:(k:Int)<bs.length:=by omega
   obtain⟨b,A,rfl,s,t⟩:=m.out k g;have q:=h.out _ (List.getElem_mem g);have f:=Xh (show nbe (bs.take (k+1))=nbe (bs.take k)*256+bs[k]by rw [List.take_add_one,List.getElem?_eq_getElem g];exact Qil _ _);obtain⟨x,j⟩: ∃x,bs[k]=x:=⟨_,rfl⟩;rw [j]at t q f;have d:=Qph k (bs.take k) (by rw [List.length_take];omega) (h.out.take k);have i:=pw5 k Om;obtain⟨n,l⟩: ∃n,nbe (bs.take k)=n:=⟨_,rfl⟩;rw [l]at d f⊢;have d:0≤n∧n<1099511627776:=⟨d.1,Int.lt_of_lt_of_le d.2 i⟩;have u:IntKind.i64.wrap (256*n)=n*256:=by rw [IntKind.wrap_i64];omega
   have v:IntKind.i64.wrap (n*256+x)=n*256+x:=by rw [IntKind.wrap_i64];omega
   have y:Lt b wr:=s;clear j l i;go_wp2
   go_roundw
   case rel=>exact⟨k+1,Om,by go_num,by rw [f.out],by first|rfl|trivial⟩
   case measure=>simp [intOf];omega
  ·have o: ¬((k:Int)<bs.length):=by omega
   have r:=Xh (show bs.take k=bs by rw [List.take_of_length_le Om]);rw [r.out];go_wp2;go_ret;exact⟨rfl,rfl⟩
theorem QBN{b off:Nat}(hs:SlB w (some ⟨b,off,none⟩) bs)(hr:ByR bs)(k m c:Nat)(hk:k+m≤bs.length)(hm:m≤6):Cr 147 #[.slice (some ⟨b,off+k,none⟩) m c] w (.int .i64 (nbe ((bs.drop k).take m))):=by
 have e:((bs.drop k).take m).length=m:=by rw [List.length_take,List.length_drop];omega
 have h:=QBu ((bs.drop k).take m) (some ⟨b,off+k,none⟩) c w (fun i hi=>by
  rw [e]at hi;obtain⟨g,j,a,d,f⟩:=hs (k+i) Om
  cases a
  refine⟨b,off+k,rfl,d,?_⟩;rw [Nat.add_assoc,f]
  simp) (hr.drop k|>.take m) Om
 rw [e]at h;exact h.mono fun e w' ⟨a,d⟩=>⟨a,d▸Ext.rf _⟩
theorem QBO{b off:Nat}(hs:SlB w (some ⟨b,off,none⟩) bs)(hr:ByR bs)(k m c:Nat)(hk:k+m≤bs.length)(hm:m≤6):Cr 150 #[.slice (some ⟨b,off+k,none⟩) m c] w (.int .i64 (nbe ((bs.drop k).take m))):=by
 have e:((bs.drop k).take m).length=m:=by rw [List.length_take,List.length_drop];omega
 have h:=QBv ((bs.drop k).take m) (some ⟨b,off+k,none⟩) c w (fun i hi=>by
  rw [e]at hi;obtain⟨g,j,a,d,f⟩:=hs (k+i) Om
  cases a
  refine⟨b,off+k,rfl,d,?_⟩;rw [Nat.add_assoc,f]
  simp) (hr.drop k|>.take m) Om
 rw [e]at h;exact h.mono fun e w' ⟨a,d⟩=>⟨a,d▸Ext.rf _⟩
theorem Qqp:(Tryz.prog.info? 62).map (fun i=>(i.zero,i.size,i.bytes))=some (some (.int .u16 0),1,2):=Kr
def OWw(w:World)(base:Nat)(v:Value)(ns:List Int):Prop:=w.ownsRow base 62 1 v ns.length (ns.map (Value.int .u16))
theorem OWw.slw{v:Value}{ns:List Int}(h:OWw w base v ns): ∃p c,v= .slice p ns.length c∧SlW w p ns:=by
 rcases h.2 with⟨rfl,h1⟩|⟨g,cap,cur,rfl,hg,hgb,h1,h2,h3,h4⟩
 ·exact⟨none,0,by rw [h1],fun k hk=>by omega⟩
 ·refine⟨_,cap,rfl,fun k hk=>⟨g,0,rfl,(Array.getElem?_eq_some_iff.1 hgb).1,?_⟩⟩;have a:(List.take (ns.length*1) cur.toList)[k]?=(ns.map (Value.int .u16))[k]?:=by rw [h4]
  rw [List.getElem?_take,if_pos Om,Array.getElem?_toList,List.getElem?_map,List.getElem?_eq_getElem hk]at a;simp only [World.cell?,hgb,Nat.zero_add];exact a
theorem Qky(bs:List Int)(p:Option Addr)(c:Nat)(w:World)(hb:SlB w p bs)(hr:ByR bs)(hl:bs.length≤100000):
  Calls Tryz.prog 250 #[.slice p bs.length c] w fun e w'=> ∃v,e= .returned v∧OWw w' w.heap.size v (Zb bs)∧Ext w w':=by
 obtain⟨I,J,K,L,M⟩:=info_parts Qqp;have E:=Xh hb;have F:=Xh hr;clear hb hr
 go_enter Tryz.func250,Tryz.ntmps250
 go_wp2
 go_loopw [3,4] (fun v a wr=> ∃q m:Nat,Hid (2*q=m)∧q≤(bs.length+1)/2∧a= .int .i64 (m:Int)∧wr.ownsRow w.heap.size 62 1 v q (((Zb bs).take q).map (Value.int .u16))∧Ext w wr) (fun _ a _=>(bs.length+1- intOf a).toNat)
 case atStart=>exact⟨0,0,Xh rfl,Nat.zero_le _,rfl,World.ownsRow_nil _ _ _ _,Ext.rf _⟩
 case round=>
  obtain⟨q,m,f,hq,rfl,N,g⟩:=hrel;have i:=Xh N;clear N
  by_cases H:m<bs.length
  ·have P:(m:Int)<bs.length:=by omega
   have a1:(0:Int)≤(m:Int):=by omega
   obtain⟨b,Y,rfl,Z,c0⟩:=(E.out.ext g) m H;have Q:=F.out.get m H;obtain⟨x,l⟩: ∃x,bs[m]=x:=⟨_,rfl⟩;rw [l]at c0 Q;have a2:Lt b wr:=Z;have R:IntKind.i64.wrap (256*x)=256*x:=by rw [IntKind.wrap_i64];omega
   have S:IntKind.i64.wrap ((m:Int)+1)=(m:Int)+1:=by rw [IntKind.wrap_i64];omega
   have T:IntKind.i64.wrap ((m:Int)+2)=((m+2:Nat):Int):=by rw [IntKind.wrap_i64];omega
   by_cases t:m+1<bs.length
   ·have U:(m:Int)+1<bs.length:=by omega
    obtain⟨b2,a4,a0,-,D⟩:=(E.out.ext g) (m+1) t
    cases a0
    have V:=F.out.get (m+1) t;have d:=Xh (show(Zb bs)[q]?=some (bs[m]*256+bs[m+1])by have y:=f.out;subst y;exact Qb1 bs q t);rw [l]at d;obtain⟨z,O⟩: ∃z,bs[m+1]=z:=⟨_,rfl⟩;rw [O]at D V d;have W:IntKind.i64.wrap (256*x+z)=x*256+z:=by rw [IntKind.wrap_i64];omega
    have G:IntKind.u16.wrap (x*256+z)=x*256+z:=by rw [Q4];omega
    have j:=Xh (show(Zb bs).take (q+1)=(Zb bs).take q++ [x*256+z]by rw [List.take_add_one,d.out];rfl);have a3:wr.cell? ⟨b,Y+(m+1),none⟩=some (.int .u8 z):=D;clear l O d D t
    go_wp2_with (at_builtin;go_must (refine wpList_append_own _ rfl _ _ 270 rfl w.heap.size 62 I (.int .u16 0) 1 2 Tryz.underlying270 J K L M rfl Dc _ _ _ rfl (i.out.alloc _) ⟨wr.heap.size,0,none⟩ 1 1 [.int .u16 (x*256+z)] rfl rfl (Q1 _ _ _) (by intro u n;simp at n;subst n;rfl) (by unfold maxLen;omega) Om (by have:=g.size;simp;omega) ?_);intro v' w3 o s _;have A:=Xh o;have B:=Xh s;clear o s)
    clear R S T W G
    go_roundw
    case rel=>
     refine⟨q+1,m+2,Xh (by have:=f.out;omega),by have:=f.out;omega,by go_num,?_,Mv.ext_of (Ext.al g _) (Mv.of_grown (C:=fun k=>w.heap.size≤k) B.out fun r e=> .inl (Qi i.out r e)) (fun k h=>h)⟩;have h:=A.out
     first|rw [j.out,List.map_append]|rw [←List.map_take,j.out,List.map_append]
     exact h
    case measure=>first|(simp [intOf];done)|(simp [intOf];omega)
   ·have U: ¬(m:Int)+1<bs.length:=by omega
    have d:=Xh (show(Zb bs)[q]?=some (bs[m]*256)by have y:=f.out;subst y;exact QaR bs q Om);rw [l]at d;have G:IntKind.u16.wrap (256*x)=x*256:=by rw [Q4];omega
    have j:=Xh (show(Zb bs).take (q+1)=(Zb bs).take q++ [x*256]by rw [List.take_add_one,d.out];rfl);clear l d
    go_wp2_with (at_builtin;go_must (refine wpList_append_own _ rfl _ _ 270 rfl w.heap.size 62 I (.int .u16 0) 1 2 Tryz.underlying270 J K L M rfl Dc _ _ _ rfl (i.out.alloc _) ⟨wr.heap.size,0,none⟩ 1 1 [.int .u16 (x*256)] rfl rfl (Q1 _ _ _) (by intro u n;simp at n;subst n;rfl) (by unfold maxLen;omega) Om (by have:=g.size;simp;omega) ?_);intro v' w3 o s _;have A:=Xh o;have B:=Xh s;clear o s)
    go_roundw
    case rel=>
     refine⟨q+1,m+2,Xh (by have:=f.out;omega),by have:=f.out;omega,by go_num,?_,Mv.ext_of (Ext.al g _) (Mv.of_grown (C:=fun k=>w.heap.size≤k) B.out fun r e=> .inl (Qi i.out r e)) (fun k h=>h)⟩;have h:=A.out
     first|rw [j.out,List.map_append]|rw [←List.map_take,j.out,List.map_append]
     exact h
    case measure=>first|(simp [intOf];done)|(simp [intOf];omega)
  ·have P: ¬(m:Int)<bs.length:=by omega
   go_wp2;refine bodyPost_ret (v:=u3) (by simp [results,Tryz.results250,go_sem]) rfl ⟨_,rfl,?_,g⟩;have:=i.out;unfold OWw;have X:(Zb bs).length=q:=by have:=f.out;rw [Ys];omega
   rw [X]
   rwa [List.take_of_length_le Om]at this
theorem QsR{s x:Int}(hs:0≤s)(hx:0≤x∧x<65536):c16 (s+x)=if c16 s+x>65535 then c16 s+x- 65535 else c16 s+x:=by
 unfold c16
 by_cases a:s=0
 ·subst a;simp only [Int.zero_add,if_true];rw [if_neg (show ¬x>65535 by omega)]
  split<;>omega
 ·rw [if_neg Om,if_neg a]
  split<;>omega
theorem Qnt(ns:List Int)(p:Option Addr)(c:Nat)(w:World)(hb:SlW w p ns)(hr: ∀x∈ns,0≤x∧x<65536)(hl:ns.length≤100000):
  Calls Tryz.prog 249 #[.slice p ns.length c] w fun e w'=>e= .returned (.int .u16 (c16 (QaT ns)))∧w'=w:=by
 have l:=Xh hr;have s:=Xh hb;clear hr hb
 go_enter Tryz.func249,Tryz.ntmps249
 go_wp2
 go_loopw [3,4] (fun n a wr=> ∃k:Nat,k≤ns.length∧a= .int .i64 k∧n= .int .i64 (c16 (QaT (ns.take k)))∧wr=w) (fun _ a _=>ns.length- (intOf a).toNat)
 case atStart=>exact⟨0,Nat.zero_le _,rfl,rfl,rfl⟩
 case round=>
  obtain⟨k,C,rfl,rfl,rfl⟩:=hrel
  by_cases j:k<ns.length
  ·have t:(k:Int)<ns.length:=by omega
   obtain⟨b,D,rfl,y,z⟩:=s.out k j;have g:ns[k]?=some ns[k]:=List.getElem?_eq_getElem j;have m:=l.out _ (List.getElem_mem j);obtain⟨x,r⟩: ∃x,ns[k]=x:=⟨_,rfl⟩;rw [r]at z g m;have o:=Qc4 ns k x g;have hb:=(Qd2 ns l.out k).1;have d:=Xh (QsR hb m);rw [←o]at d;have h:=QjA (n:=QaT (ns.take k));obtain⟨n,f⟩: ∃n,c16 (QaT (ns.take k))=n:=⟨_,rfl⟩;rw [f]at d h⊢;have A:IntKind.i64.wrap (n+x)=n+x:=by rw [IntKind.wrap_i64];omega
   have B:Lt b wr:=y;clear r g o hb f
   by_cases q:65535<n+x
   ·have u:IntKind.i64.wrap (n+x- 65535)=n+x- 65535:=by rw [IntKind.wrap_i64];omega
    have i:=Xh (d.out.trans (if_pos q));clear d;go_wp2
    go_roundw
    case rel=>exact⟨k+1,Om,by go_num,by rw [i.out],by first|rfl|trivial⟩
    case measure=>simp [intOf];omega
   ·have i:=Xh (d.out.trans (if_neg q));clear d;go_wp2
    go_roundw
    case rel=>exact⟨k+1,Om,by go_num,by rw [i.out],by first|rfl|trivial⟩
    case measure=>simp [intOf];omega
  ·have t: ¬((k:Int)<ns.length):=by omega
   have v:=Xh (show ns.take k=ns by rw [List.take_of_length_le Om]);have h:=QjA (n:=QaT ns);rw [v.out];obtain⟨n,f⟩: ∃n,c16 (QaT ns)=n:=⟨_,rfl⟩;rw [f]at h⊢;have u:IntKind.u16.wrap n=n:=by rw [Q4];omega
   go_wp2;go_ret;exact⟨rfl,by first|rfl|trivial⟩
theorem Qnu(bs:List Int)(p:Option Addr)(c:Nat)(w:World)(hb:SlB w p bs)(hr:ByR bs)(hl:bs.length≤100000):
  Cr 230 #[.slice p bs.length c] w (.int .u16 (Qb4 bs)):=by
 have f:=Xh (Qky bs p c w hb hr hl);have g:=Xh (fun W q d (hs:SlW W q (Zb bs))=>Qnt (Zb bs) q d W hs (J3 bs hr) (by rw [Ys];omega));clear hb hr hl
 go_enter Tryz.func230,Tryz.ntmps230
 go_wp2_with (first|(go_at_call 250;(with_reducible refine(f.out).mono ?_);rintro e j ⟨v,rfl,a,i⟩;obtain⟨q,d,rfl,b⟩:=a.slw;have h:=Xh (g.out _ _ d b);clear a b)|(go_at_call 249;(with_reducible refine(h.out).mono ?_);rintro e k ⟨rfl,rfl⟩))
 go_ret;exact⟨rfl,i⟩
theorem Qe5(bs:List Int)(p:Option Addr)(c:Nat)(w:World)(hb:SlB w p bs)(hr:ByR bs)(hl:bs.length≤100000):
  Cr 199 #[.slice p bs.length c] w (.int .u16 (Z5 bs)):=by
 have a:=Xh (Qnu bs p c w hb hr hl);have f:=QgJ bs;have b:=Xh (show Z5 bs=65535- Qb4 bs from rfl);obtain⟨S,d⟩: ∃S,Qb4 bs=S:=⟨_,rfl⟩;rw [d]at a f b;have h:IntKind.u16.wrap (65535- S)=65535- S:=by rw [Q4];omega
 clear d hb hr hl
 go_enter Tryz.func199,Tryz.ntmps199
 go_wp2_with (go_at_call 230;(refine(a.out).mono ?_);rintro e i ⟨rfl,g⟩)
 go_ret;exact⟨by show Ending.returned (Value.int .u16 (65535- S))=_;rw [b.out],g⟩
theorem QAV(bs:List Int)(p:Option Addr)(c:Nat)(w:World)(hb:SlB w p bs)(hr:ByR bs)(hl:bs.length≤100000):
  Cr 205 #[.slice p bs.length c] w (.bool (Qb4 bs==65535)):=by
 have a:=Xh (Qnu bs p c w hb hr hl);clear hb hr hl
 go_enter Tryz.func205,Tryz.ntmps205
 go_wp2_with (go_at_call 230;(refine(a.out).mono ?_);rintro e d ⟨rfl,b⟩)
 go_ret;exact⟨rfl,b⟩
@[go_sem] theorem QwX(w:World):(Instr.index 264 (.agg #[.int .u8 1,.int .i64 3,.int .u8 2,.int .i64 6,.int .u8 3,.int .i64 1]) (.int .i64 0)).run Tryz.prog w= .ok (.agg #[.int .u8 1,.int .i64 3]) w:=Kr
@[go_sem] theorem QwY(w:World):(Instr.index 264 (.agg #[.int .u8 1,.int .i64 3,.int .u8 2,.int .i64 6,.int .u8 3,.int .i64 1]) (.int .i64 1)).run Tryz.prog w= .ok (.agg #[.int .u8 2,.int .i64 6]) w:=Kr
@[go_sem] theorem QwZ(w:World):(Instr.index 264 (.agg #[.int .u8 1,.int .i64 3,.int .u8 2,.int .i64 6,.int .u8 3,.int .i64 1]) (.int .i64 2)).run Tryz.prog w= .ok (.agg #[.int .u8 3,.int .i64 1]) w:=Kr
def Qx:List (Int×Int):= [(1,0),(1,1),(1,2),(2,0),(2,1),(2,2),(2,3),(2,4),(2,5),(3,0)]
def noV(x:Int×Int):Value:= .agg #[.int .u8 x.1,.int .i64 x.2]
theorem Qg1: ∀args w,(callFunc 234 args).run Tryz.prog w= .ok (.enter 234 args) w:=enters_of Tryz.func234 Kr rfl
theorem QmZ(w:World):Calls Tryz.prog 213 #[] w fun e w'=>e= .returned (.func (.func 234) #[] #[])∧w=w':=by
 go_enter Tryz.func213,Tryz.ntmps213
 go_wp2;go_ret;exact⟨rfl,rfl⟩
def Qvv(k:Nat):Nat:=if k=0 then 0 else if k=1 then 3 else if k=2 then 9 else 10
theorem QjP(n:Nat)(w:World)(U:Nat→Prop)(hU: ∀k,U k→k<w.heap.size):
  QlJ Fence.wide n Tryz.prog 234 #[] (fun x:Int×Int=>#[noV x]) (fun _=>False) U (fun _=>True) Qx w:=by
 intro y J Jx W hW X hJ a4 T a5;have V:=Xh hJ;have a7:=Xh a4;clear hJ a4;obtain⟨Y,Z,a0,a1,T⟩:=T;have E:=Xh T;clear T;have S:=Xh (show ∀k,w.heap.size+2≤k→ ¬(U k∨k=w.heap.size∨k=w.heap.size+1)from fun k hk=>by rintro(h|h|h);(have:=hU _ h;omega);omega;omega);obtain⟨F,a6⟩: ∃F,w.heap.size+2=F:=⟨_,rfl⟩;rw [a6]at S X;clear a6 hU hW;refine callsIn_of_wp Tryz.func234 rfl trivial ?_ rfl;simp only [Tryz.ntmps234,List.size_toArray,List.length_cons,List.length_nil,Nat.reduceAdd,Nat.reduceSub,Array.replicate_succ,Array.replicate_zero,List.push_toArray,List.append_toArray,List.nil_append,List.cons_append];refine wpIn_wide.2 ?_;go_wp2
 go_loopw [9] (fun a wr=> ∃k:Nat,k≤3∧a= .int .i64 k∧J (Qvv k) wr∧F≤wr.heap.size) (fun a _=>3- (intOf a).toNat)
 case atStart=>exact⟨0,Om,rfl,a5,X⟩
 case round=>
  clear a5 X;obtain⟨k,hk,rfl,b,p⟩:=hrel;have D:=Xh b;clear b;obtain rfl|rfl|rfl|rfl:k=0∨k=1∨k=2∨k=3:=by omega
  ·rw [show(((0:Nat)):Int)=0 from rfl]
   go_upto_region 3 with(fail)
   obtain⟨f,g⟩: ∃f,wr.alloc (.cells #[.int .u8 1,.int .i64 3] 263)=f:=⟨_,rfl⟩;have m:Ext wr f:=by rw [←g];exact Ea
   have d:RowZ f wr.heap.size #[.int .u8 1,.int .i64 3]:=by rw [←g];exact RowZ.new _ _ _
   rw [g];clear g;have q:=V.out _ _ _ D.out (Mv.of_ext m);have r:=Xt p m.size;obtain⟨z,A⟩: ∃B,wr.heap.size=B:=⟨_,rfl⟩;rw [A]at d p⊢;clear A m;have G:=d.cell 1 (by show 1<2;omega);have s:=Xh d;have t:=Xh q;clear d q D;go_wp2
   go_loopw [4,14] (fun _ j wr2=> ∃i:Nat,i≤3∧j= .int .i64 i∧J (0+i) wr2∧RowZ wr2 z #[.int .u8 1,.int .i64 3]∧F≤wr2.heap.size) (fun _ j _=>3- (intOf j).toNat)
   case atStart=>exact⟨0,Om,rfl,t.out,s.out,r⟩
   case round=>
    obtain⟨i,hi,rfl,b,c,C⟩:=hrel;clear G s t r
    by_cases a3:i<3
    ·have a2:(i:Int)<3:=by omega
     have H:=c.cell 0 (by show 0<2;omega);have I:=c.l
     have u:=Xh (show Qx[0+i]?=some (1,(i:Int))by
      obtain rfl|rfl|rfl:i=0∨i=1∨i=2:=by omega
      all_goals rfl)
     have K:=Xh c;have L:(Instr.yield y #[.agg #[.int .u8 1,.int .i64 (i:Nat)]]).run Tryz.prog wr= .ok (.round y Y (Z #[.agg #[.int .u8 1,.int .i64 (i:Nat)]]) a0 a1) wr:=(E.out (0+i) (1,(i:Int)) wr b u.out).1;have v:=Xh (E.out (0+i) (1,(i:Int)) wr b u.out).2;clear c b;refine(wpIn_wide (n:=n)).1 ?_
     gi_wp2
     refine⟨(fun h=>by cases h),(v.out).mono ?_⟩;rintro e w6 ⟨bb,rfl,P⟩;clear L v H I;obtain⟨rfl,Q,o⟩|⟨rfl,R⟩:=P
     ·have M:=K.out.mv o (S.out z p);have N:=Xt C o.size;clear o
      gi_wp2
      go_wp2
      go_roundw
      case rel=>exact⟨i+1,Om,by go_num,Q,M,N⟩
      case measure=>simp [intOf];omega
     ·gi_wp2
      go_wp2;exact bodyPost_ret (results_none rfl _ _ _) rfl ⟨⟨_,rfl⟩,.inr R⟩
    ·obtain rfl:i=3:=by omega
     have O:=Xh b;clear b c;go_wp2
     go_roundw
     case rel=>exact⟨1,Om,by go_num,O.out,C⟩
     case measure=>simp [intOf]
  ·rw [show(((1:Nat)):Int)=1 from rfl]
   go_upto_region 3 with(fail)
   obtain⟨f,g⟩: ∃f,wr.alloc (.cells #[.int .u8 2,.int .i64 6] 263)=f:=⟨_,rfl⟩;have m:Ext wr f:=by rw [←g];exact Ea
   have d:RowZ f wr.heap.size #[.int .u8 2,.int .i64 6]:=by rw [←g];exact RowZ.new _ _ _
   rw [g];clear g;have q:=V.out _ _ _ D.out (Mv.of_ext m);have r:=Xt p m.size;obtain⟨z,A⟩: ∃B,wr.heap.size=B:=⟨_,rfl⟩;rw [A]at d p⊢;clear A m;have G:=d.cell 1 (by show 1<2;omega);have s:=Xh d;have t:=Xh q;clear d q D;go_wp2
   go_loopw [4,14] (fun _ j wr2=> ∃i:Nat,i≤6∧j= .int .i64 i∧J (3+i) wr2∧RowZ wr2 z #[.int .u8 2,.int .i64 6]∧F≤wr2.heap.size) (fun _ j _=>6- (intOf j).toNat)
   case atStart=>exact⟨0,Om,rfl,t.out,s.out,r⟩
   case round=>
    obtain⟨i,hi,rfl,b,c,C⟩:=hrel;clear G s t r
    by_cases a3:i<6
    ·have a2:(i:Int)<6:=by omega
     have H:=c.cell 0 (by show 0<2;omega);have I:=c.l
     have u:=Xh (show Qx[3+i]?=some (2,(i:Int))by
      obtain rfl|rfl|rfl|rfl|rfl|rfl:i=0∨i=1∨i=2∨i=3∨i=4∨i=5:=by omega
      all_goals rfl)
     have K:=Xh c;have L:(Instr.yield y #[.agg #[.int .u8 2,.int .i64 (i:Nat)]]).run Tryz.prog wr= .ok (.round y Y (Z #[.agg #[.int .u8 2,.int .i64 (i:Nat)]]) a0 a1) wr:=(E.out (3+i) (2,(i:Int)) wr b u.out).1;have v:=Xh (E.out (3+i) (2,(i:Int)) wr b u.out).2;clear c b;refine(wpIn_wide (n:=n)).1 ?_
     gi_wp2
     refine⟨(fun h=>by cases h),(v.out).mono ?_⟩;rintro e w6 ⟨bb,rfl,P⟩;clear L v H I;obtain⟨rfl,Q,o⟩|⟨rfl,R⟩:=P
     ·have M:=K.out.mv o (S.out z p);have N:=Xt C o.size;clear o
      gi_wp2
      go_wp2
      go_roundw
      case rel=>exact⟨i+1,Om,by go_num,Q,M,N⟩
      case measure=>simp [intOf];omega
     ·gi_wp2
      go_wp2;exact bodyPost_ret (results_none rfl _ _ _) rfl ⟨⟨_,rfl⟩,.inr R⟩
    ·obtain rfl:i=6:=by omega
     have O:=Xh b;clear b c;go_wp2
     go_roundw
     case rel=>exact⟨2,Om,by go_num,O.out,C⟩
     case measure=>simp [intOf]
  ·rw [show(((2:Nat)):Int)=2 from rfl]
   go_upto_region 3 with(fail)
   obtain⟨f,g⟩: ∃f,wr.alloc (.cells #[.int .u8 3,.int .i64 1] 263)=f:=⟨_,rfl⟩;have m:Ext wr f:=by rw [←g];exact Ea
   have d:RowZ f wr.heap.size #[.int .u8 3,.int .i64 1]:=by rw [←g];exact RowZ.new _ _ _
   rw [g];clear g;have q:=V.out _ _ _ D.out (Mv.of_ext m);have r:=Xt p m.size;obtain⟨z,A⟩: ∃B,wr.heap.size=B:=⟨_,rfl⟩;rw [A]at d p⊢;clear A m;have G:=d.cell 1 (by show 1<2;omega);have s:=Xh d;have t:=Xh q;clear d q D;go_wp2
   go_loopw [4,14] (fun _ j wr2=> ∃i:Nat,i≤1∧j= .int .i64 i∧J (9+i) wr2∧RowZ wr2 z #[.int .u8 3,.int .i64 1]∧F≤wr2.heap.size) (fun _ j _=>1- (intOf j).toNat)
   case atStart=>exact⟨0,Om,rfl,t.out,s.out,r⟩
   case round=>
    obtain⟨i,hi,rfl,b,c,C⟩:=hrel;clear G s t r
    by_cases a3:i<1
    ·have a2:(i:Int)<1:=by omega
     have H:=c.cell 0 (by show 0<2;omega);have I:=c.l
     have u:=Xh (show Qx[9+i]?=some (3,(i:Int))by
      obtain rfl:i=0:=by omega
      all_goals rfl)
     have K:=Xh c;have L:(Instr.yield y #[.agg #[.int .u8 3,.int .i64 (i:Nat)]]).run Tryz.prog wr= .ok (.round y Y (Z #[.agg #[.int .u8 3,.int .i64 (i:Nat)]]) a0 a1) wr:=(E.out (9+i) (3,(i:Int)) wr b u.out).1;have v:=Xh (E.out (9+i) (3,(i:Int)) wr b u.out).2;clear c b;refine(wpIn_wide (n:=n)).1 ?_
     gi_wp2
     refine⟨(fun h=>by cases h),(v.out).mono ?_⟩;rintro e w6 ⟨bb,rfl,P⟩;clear L v H I;obtain⟨rfl,Q,o⟩|⟨rfl,R⟩:=P
     ·have M:=K.out.mv o (S.out z p);have N:=Xt C o.size;clear o
      gi_wp2
      go_wp2
      go_roundw
      case rel=>exact⟨i+1,Om,by go_num,Q,M,N⟩
      case measure=>simp [intOf];omega
     ·gi_wp2
      go_wp2;exact bodyPost_ret (results_none rfl _ _ _) rfl ⟨⟨_,rfl⟩,.inr R⟩
    ·obtain rfl:i=1:=by omega
     have O:=Xh b;clear b c;go_wp2
     go_roundw
     case rel=>exact⟨3,Om,by go_num,O.out,C⟩
     case measure=>simp [intOf]
  ·go_wp2
   go_end0
   exact⟨⟨_,rfl⟩,.inl ⟨D.out,trivial⟩⟩
section
open Ru
def Qfr(x:Value):Prop:= ∃p:Int×Int,x=noV p
theorem Qpr(a c a' c':Int)(w:World):(Op.equal 73 (noV (a,c)) (noV (a',c'))).run Tryz.prog w= .ok (a==a'&&c==c') w:=by
 unfold Op.equal Op.maxDepth noV;go_simp
 by_cases b:a=a'<;>by_cases d:c=c'<;>simp [*]
theorem Qd5{p q:Int×Int}(h:noV p=noV q):p=q:=by
 obtain⟨a,c⟩:=p;obtain⟨b,d⟩:=q;simp [noV]at h;rw [h.1,h.2]
theorem Qps:Qfp Tryz.prog 73 Qfr where
 check:=by
  rintro w y x ⟨⟨a,c⟩,rfl⟩
  cases y<;>kernel_rfl
 find:=by
  rintro w x ⟨⟨a,c⟩,rfl⟩ b r;have s: ∀(b:List MapEntry) (i:Nat),(∀e∈b,Qfr e.key)→
    ((Instr.findAsking 73 (noV (a,c)) b i).run Tryz.prog w= .ok none w∧ ∀e∈b,e.key≠noV (a,c))∨ ∃j e,(Instr.findAsking 73 (noV (a,c)) b i).run Tryz.prog w= .ok (some (i+j,e.val)) w∧b[j]?=some e∧e.key=noV (a,c):=by
   intro b
   induction b with
   |nil=>intro i _;exact .inl ⟨rfl,by simp⟩
   |cons e b ih=>
    intro i h;obtain⟨⟨m,n⟩,g⟩:=h e (by simp)
    by_cases l:a=m∧c=n
    ·obtain⟨rfl,rfl⟩:=l;refine .inr ⟨0,e,?_,rfl,g⟩;simp only [Instr.findAsking,Sem.run_bind,g,Qpr,Result.andThen];simp
    ·have o:(a==m&&c==n)=false:=by
      by_cases f:a=m<;>by_cases q:c=n<;>simp_all
     have t:e.key≠noV (a,c):=by
      rw [g];intro h;have:=Qd5 h;simp at this;exact l ⟨this.1.symm,this.2.symm⟩
     rcases ih (i+1) (fun d k=>h d (by simp [k]))with⟨f,h2⟩|⟨j,d,f,h2,q⟩
     ·refine .inl ⟨?_,?_⟩
      ·simp only [Instr.findAsking,Sem.run_bind,g,Qpr,Result.andThen,o];simpa using f
      ·intro d k;rcases List.mem_cons.1 k with rfl|k
       ·exact t
       ·exact h2 d k
     ·refine .inr ⟨j+1,d,?_,by simpa using h2,q⟩;simp only [Instr.findAsking,Sem.run_bind,g,Qpr,Result.andThen,o];have u:i+(j+1)=i+1+j:=by omega
      rw [u];simpa using f
  have p:Tryz.prog.underlying 73=some (.struct (Tryz.prog.fieldsOf 73)):=Kr
  cases b with
  |nil=>exact .inl ⟨by simp [Instr.findKey,run_underlying p,Instr.findNow,Result.andThen],by simp⟩
  |cons e b=>
   have l:Instr.findNow (.struct (Tryz.prog.fieldsOf 73)) (noV (a,c)) (e::b) 0=none:=by
    obtain⟨⟨m,n⟩,g⟩:=r e (by simp);simp [Instr.findNow,Instr.sameNow,noV]
   have v:(Instr.findKey 73 (noV (a,c)) (e::b)).run Tryz.prog w=(Instr.findAsking 73 (noV (a,c)) (e::b)).run Tryz.prog w:=by
    simp [Instr.findKey,run_underlying p,l,Result.andThen]
   rw [v];rcases s (e::b) 0 r with h|⟨j,d,f,h2⟩
   ·exact .inl h
   ·exact .inr ⟨j,d,by simpa using f,h2⟩
def QbD(K:Value→Prop)(w:World)(B:Nat)(f:Value→Option Value):Prop:=
 ∃(es:Array MapEntry) (clk:Nat),w.heap[B]?=some (.map es clk)∧(∀e∈es.toList,K e.key∧f e.key=some e.val)∧(∀x v,f x=some v→ ∃e∈es.toList,e.key=x)∧es.toList.map (·.born)=List.range clk
theorem QbD.is{K:Value→Prop}{f:Value→Option Value}(h:QbD K w B f):ZE K w B f:=by
 obtain⟨a,b,c,d,e,-⟩:=h;exact⟨a,b,c,d,e⟩
theorem QbD.new{K:Value→Prop}(w:World):QbD K (w.alloc (.map #[] 0)) w.heap.size (fun _=>none):=
 ⟨#[],0,by show(w.heap.push _)[w.heap.size]?=_;simp,by simp,by simp,by simp⟩
theorem QbD.keep{K:Value→Prop}{w':World}{f:Value→Option Value}(h:QbD K w B f)(hb:w'.heap[B]?=w.heap[B]?):QbD K w' B f:=by
 obtain⟨a,b,c,d,e,g⟩:=h;exact⟨a,b,hb.trans c,d,e,g⟩
theorem QbD.store{P:Program}{t kt et:TypeId}{K:Value→Prop}(L:Qfp P kt K)(ht:P.underlying t=some (.map kt et)){f:Value→Option Value}(h:QbD K w B f){x:Value}(hx:K x)(hn:f x=none)(v:Value):
  ∃w':World,(Instr.mapUpdate t (.map (some B)) x v).run P w= .ok () w'∧QbD K w' B (fun y=>open Classical in if y=x then some v else f y)∧
   w'.os=w.os∧w'.tape=w.tape∧w'.output=w.output∧w'.heap.size=w.heap.size∧ ∀k,k≠B→w'.heap[k]?=w.heap[k]?:=by
 obtain⟨c,b,d,g,o,p⟩:=h;have n:B<w.heap.size:=by
  rcases Nat.lt_or_ge B w.heap.size with h|h
  ·exact h
  ·rw [Array.getElem?_eq_none h]at d;cases d
 rcases L.find w hx c.toList (fun e a=>(g e a).1)with⟨g1,g2⟩|⟨j,e,g1,g2,g3⟩
 ·refine⟨{w with heap:=w.heap.setIfInBounds B (.map (c.push {key:=x,val:=v,born:=b}) (b+1))},?_,⟨c.push {key:=x,val:=v,born:=b},b+1,?_,?_,?_,by simp [p,List.range_succ]⟩,rfl,rfl,rfl,?_,?_⟩
  ·simp [Instr.mapUpdate,run_underlying ht,MapKept.run_getObj_map d,L.check w _ hx,g1,MapKept.run_setObj_map _ d,Result.andThen]
  ·simp [n]
  ·intro e a;simp only [Array.toList_push,List.mem_append,List.mem_singleton]at a;rcases a with a|rfl
   ·refine⟨(g e a).1,?_⟩;simp only [if_neg (g2 e a)];exact(g e a).2
   ·exact⟨hx,by simp⟩
  ·intro y u m
   by_cases l:y=x
   ·exact⟨{key:=x,val:=v,born:=b},by simp,l.symm⟩
   ·simp only [if_neg l]at m;obtain⟨e,a,i⟩:=o y u m;exact⟨e,by simp [a],i⟩
  ·simp
  ·intro k i;simp [Ne.symm i]
 ·have a:e∈c.toList:=List.mem_of_getElem? g2;have:=(g e a).2;rw [g3,hn]at this
  cases this
def QD(p:Int×Int):Int:=167772160+p.1*256+p.2
open Classical in
noncomputable def YG(i:Nat)(x:Value):Option Value:=if h: ∃p∈Qx.take i,x=noV p then some (.int .u32 (QD h.choose))else none
theorem Qaa{p:Int×Int}(h:p∈Qx.take i):YG i (noV p)=some (.int .u32 (QD p)):=by
 have a: ∃q∈Qx.take i,noV p=noV q:=⟨p,h,rfl⟩;unfold YG;rw [dif_pos a,←Qd5 a.choose_spec.2]
theorem JD{x:Value}(h: ∀p∈Qx.take i,x≠noV p):YG i x=none:=by
 unfold YG;rw [dif_neg (fun e=>by obtain⟨p,a,e⟩:=e;exact h p a e)]
theorem QjV{x v:Value}(h:YG i x=some v): ∃p∈Qx.take i,x=noV p∧v= .int .u32 (QD p):=by
 unfold YG at h
 split at h
 ·rename_i hx
  exact⟨hx.choose,hx.choose_spec.1,hx.choose_spec.2,(Option.some.inj h).symm⟩
 ·cases h
open Classical in
theorem QjW{p:Int×Int}(h:Qx[i]?=some p):(fun y=>if y=noV p then some (Value.int .u32 (QD p))else YG i y)=YG (i+1):=by
 have b:Qx.take (i+1)=Qx.take i++ [p]:=by rw [List.take_add_one,h];rfl
 funext y
 by_cases c:y=noV p
 ·subst c;rw [if_pos rfl,Qaa (by rw [b];simp)]
 ·rw [if_neg c]
  by_cases d: ∃q∈Qx.take i,y=noV q
  ·obtain⟨q,a,rfl⟩:=d;rw [Qaa a,Qaa (by rw [b];simp [a])]
  ·rw [JD (fun q a e=>d ⟨q,a,e⟩),JD (fun q a e=>by
    rw [b]at a;rcases List.mem_append.1 a with a|a
    ·exact d ⟨q,a,e⟩
    ·rw [List.mem_singleton.1 a]at e;exact c e)]
theorem Qg4:Qx.Nodup:=by decide
theorem Qm3{p:Int×Int}(h:Qx[i]?=some p):YG i (noV p)=none:=by
 refine JD fun q a e=> ?_;obtain rfl:=Qd5 e;obtain⟨b,c⟩:=List.getElem?_eq_some_iff.1 h;obtain⟨j,d,a⟩:=List.mem_iff_getElem.1 a;rw [List.getElem_take]at a;rw [List.length_take]at d;exact List.pairwise_iff_getElem.1 Qg4 j i Om b Om (a.trans c.symm)
@[go_sem] theorem Qw9(w:World):(Instr.makeMap 211 none).run Tryz.prog w= .ok (.map (some w.heap.size)) (w.alloc (.map #[] 0)):=by
 have a:Tryz.prog.underlying 211=some (.map 73 61):=Kr
 simp [Instr.makeMap,run_underlying a,Result.andThen]
theorem Qpt{x:Int×Int}(h:Qx[i]?=some x):bits BinOp.or IntKind.u32 (bits BinOp.or IntKind.u32 167772160 (x.1 % 4294967296*256 % 4294967296)) (x.2 % 4294967296)=QD x:=by
 have a:i<10:=(List.getElem?_eq_some_iff.1 h).1;obtain rfl|rfl|rfl|rfl|rfl|rfl|rfl|rfl|rfl|rfl:i=0∨i=1∨i=2∨i=3∨i=4∨i=5∨i=6∨i=7∨i=8∨i=9:=by omega
 all_goals(obtain rfl:=Option.some.inj h;decide)
@[go_sem ↓ high] theorem Qof{t:TypeId}{m k v:Operand}{tq:TypeId}:Oper.semAt l ρ ⟨dst,.mapUpdate t m k v,tq,pos,after,g⟩=execOp ρ ⟨dst,.mapUpdate t m k v,tq,pos,after,g⟩:=Oper.semAt_eq _ _ _ (fun c h=>by cases h)
theorem QeN:Tryz.prog.underlying 211=some (.map 73 61):=Kr
structure Qpu(B1 Bm i:Nat)(W:World):Prop where
 b:Boxed W B1 211 (.map (some Bm))
 m:QbD Qfr W Bm (YG i)
theorem ZE.lt{K:Value→Prop}{f:Value→Option Value}(h:ZE K w B f):Lt B w:=by
 obtain⟨b,c,a,-⟩:=h;exact(Array.getElem?_eq_some_iff.1 a).1
theorem Qpu.mv{B1 Bm:Nat}{A':World}(h:Qpu B1 Bm i A)(hm:Mv C A A')(hb: ¬C B1)(hc: ¬C Bm):Qpu B1 Bm i A':=
 ⟨Qj h.b hm hb,h.m.keep (hm.same Bm (ZE.lt h.m.is) hc)⟩
theorem QfZ(w:World):Calls Tryz.prog 170 #[] w fun e w'=> ∃B,e= .returned (.map (some B))∧Ext w w'∧w.heap.size≤B∧QbD Qfr w' B (YG 10):=by
 refine(callsIn_wide (n:=5)).1 ?_;refine callsIn_of_wp_marks Tryz.func170 rfl trivial ?_ rfl;simp only [Tryz.ntmps170,List.size_toArray,List.length_cons,List.length_nil,Nat.reduceAdd,Nat.reduceSub,Array.replicate_succ,Array.replicate_zero,List.push_toArray,List.append_toArray,List.nil_append,List.cons_append];refine wpIn_wide.2 ?_
 go_upto_region 2 with(fail)
 obtain⟨c,d⟩: ∃c,(w.alloc (.map #[] 0)).alloc (.cells #[.map (some w.heap.size)] 211)=c:=⟨_,rfl⟩;have t:Ext w c:=by rw [←d];exact Ext.al Ea _
 have u:Boxed c (w.heap.size+1) 211 (.map (some w.heap.size)):=by
  rw [←d];have:=Boxed.new (w.alloc (.map #[] 0)) 211 (.map (some w.heap.size));simpa using this
 have v:QbD Qfr c w.heap.size (YG 0):=by
  rw [←d];have M:YG 0=fun _=>none:=by funext x;exact JD (fun p hp=>by simp at hp)
  rw [M];exact(QbD.new (K:=Qfr) w).keep (Below.heap_alloc _ _ _ (by simp))
 have Y:c.heap.size=w.heap.size+2:=by rw [←d];simp
 rw [d];clear d
 go_wp2_with (go_at_call 213;(refine(QmZ _).mono ?_);rintro e w1 ⟨rfl,rfl⟩)
 refine(wpIn_wide (n:=5)).1 ?_;refine QaZ rfl Om (gf:=234) (lb:=#[]) rfl trivial Qg1 (QjP _ c (fun k=>k=w.heap.size) (fun k e=>by omega))
  (fun A B hS hm=>trivial)
  (fun k e=>e.elim) (fun k e=>by omega) (fun _=>rfl)
  (fun i W=>Qpu (w.heap.size+1) w.heap.size i W) (fun _ _=>False)
  (fun i A B h hm=>h.mv hm (by rintro(h|h|h);exact h.elim;omega;omega) (by rintro(h|h|h);exact h.elim;omega;omega))
  (fun cc A B h hm=>h) ⟨u,v⟩
  (fun x r W=> ∃f,c.heap.size+2≤f∧RowZ W f #[.int .u8 x.1,.int .i64 x.2]∧r={tmps:=#[.map none,.pointer (some ⟨w.heap.size+1,0,none⟩),.pointer (some ⟨f,0,none⟩),.map (some w.heap.size),.func (.func 234) #[] #[],.agg #[.int .u8 x.1,.int .i64 x.2],undef,undef,undef,undef,undef,undef,undef,undef,undef,undef,undef,undef],defers:= []})
  (fun x r A B h hm=>by
   obtain⟨f,E,l,T⟩:=h
   exact⟨f,E,l.mv hm Om,T⟩) ?assign ?body ?done ?stop
 case assign=>
  rintro y i x W K U g a j o;unfold noV
  gi_wp2
  exact o _ _ (Mv.al _ (Mv.refl _ _)) (a.mv (C:=fun _=>False) (Mv.al _ (Mv.refl _ _)) (fun h=>h) (fun h=>h)) ⟨W.heap.size,Om,RowZ.new _ _ _,rfl⟩
 case body=>
  rintro y i x r W a0 ⟨rr,V⟩ U g a j ⟨f,E,l,rfl⟩;have N:=a.b.cell;have Z:=l.cell 0 (by show 0<2;omega);have d1:=l.cell 1 (by show 1<2;omega);have O:Lt w.heap.size W:=ZE.lt a.m.is;obtain⟨F,G,s,H,I,J,X,L⟩:=QbD.store Qps QeN a.m ⟨x,rfl⟩ (Qm3 j) (.int .u32 (QD x));rw [QjW j]at s;rw [←Qpt j]at G;have q:Mv (fun k=>k=w.heap.size) W F:=⟨H,I,J,Om,fun k _ hk=>L k hk⟩;have P:=Xh (show Qpu (w.heap.size+1) w.heap.size (i+1) F from⟨Qj a.b q Om,s⟩);have Q:=Xh q;unfold noV at G;clear a j g H I J X L s q V O
  gi_wp2
  exact⟨Q.out,P.out⟩
 case done=>
  rintro W- a g o;have N:=a.b.cell;have z:=Xh a.m;have R:=Xh (Mv.ext_of t g (fun k h=>by rcases h with h|h;exact h.elim;omega));have S:=Xh o;clear a g o u v t;go_wp2;refine⟨by simp,.inl ⟨_,_,rfl,run_takeDeferred S.out,?_⟩⟩;have D:Mv (fun k=>k=c.heap.size) W (W.putObj c.heap.size (.deferred none)):=Mv.put _ _ _ rfl;exact⟨_,results_tmp rfl _ _ _,w.heap.size,rfl,Mv.ext_of R.out D (fun k e=>by omega),Nat.le_refl _,z.out.keep (D.same _ (ZE.lt z.out.is) Om)⟩
 case stop=>intro _ _ h;exact h.elim
end
section
open Ru
@[go_sem] theorem Qyl{m:Nat}:Fits o m #[a0,a1]=(o+m≤2):=by unfold Fits;rfl
@[go_sem] theorem Qvy:Qn #[a0,a1] 2=True:=by unfold Qn;exact eq_true rfl
@[go_sem] theorem Qym:QK #[a0,a1]=(a0.oneCell'=true∧a1.oneCell'=true):=by
 unfold QK;simp [and_assoc]
@[go_sem ↓ high] theorem Qxa:(Value.agg #[a0,a1]).cells=#[a0,a1]:=QF _
@[go_sem] theorem Qyn:QB #[a0,a1] 0 2=#[a0,a1]:=rfl
theorem Qg5:(Tryz.prog.info? 73).map (·.size)=some 2:=Kr
theorem Qm4{b:Nat}(h:o+2≤(Qc w b).size):(Instr.loadAt 73 (.pointer (some ⟨b,o,none⟩))).run Tryz.prog w= .ok (.agg ((Qc w b).extract o (o+2))) w:=by
 have:=run_loadAt_mid w b o 73 ((Qc w b).extract o (o+2)).toList _ (QC w b o (o+2)) Tryz.underlying73 rfl (by rw [Qg5];simp;omega)
 rwa [Array.toArray_toList]at this
theorem QeO{b:Nat}(h:o+2≤(Qc w b).size):(loadVar 73 ⟨b,o,none⟩).run Tryz.prog w= .ok (.agg ((Qc w b).extract o (o+2))) w:=by
 have:=run_loadVar_mid w b o 73 ((Qc w b).extract o (o+2)).toList _ (QC w b o (o+2)) Tryz.underlying73 rfl (by rw [Qg5];simp;omega)
 rwa [Array.toArray_toList]at this
@[go_sem ↓ high] theorem Qcx(ρ:Operand→Value)(dst:Option Tmp)(x:Operand)(ty:TypeId)(pos:String)(after:Array Edge)(g:Option (Nat×Bool))(w:World)
  (hx:ρ x= .pointer (some ⟨Qb (ρ x),Qd (ρ x),none⟩))(h:Fits (Qd (ρ x)) 2 (Qc w (Qb (ρ x)))):
  (execOp ρ ⟨dst,.load 73 x,ty,pos,after,g⟩).run Tryz.prog w= .ok (.value (.agg (QB (Qc w (Qb (ρ x))) (Qd (ρ x)) 2))) w:=by
 unfold Fits at h;generalize a:Qb (ρ x)=B at*;generalize b:Qd (ρ x)=O at*;simp only [execOp,hx,Sem.run_bind,Qm4 h,Result.andThen_ok,Sem.run_pure,QB]
@[go_sem ↓ high] theorem Quj(w:World)
  (hx:ρ x= .pointer (some ⟨Qb (ρ x),Qd (ρ x),none⟩))(h:Fits (Qd (ρ x)) 2 (Qc w (Qb (ρ x)))):
  (Oper.semAt l ρ ⟨dst,.load 73 x,ty,pos,after,g⟩).run Tryz.prog w= .ok (.value (.agg (QB (Qc w (Qb (ρ x))) (Qd (ρ x)) 2))) w:=by rw [Oper.semAt_eq _ _ _ (fun c h=>by cases h)];exact Qcx ρ dst x ty pos after g w hx h
@[go_sem ↓ high] theorem Qfs(ρ:Operand→Value)(dst:Option Tmp)(x y:Operand)(ty:TypeId)(pos:String)(after:Array Edge)(g:Option (Nat×Bool))(w:World)
  (hx:ρ x= .pointer (some ⟨Qb (ρ x),Qd (ρ x),none⟩))(hy:ρ y= .agg (ρ y).cells)(hs:Qn (ρ y).cells 2)(h:Fits (Qd (ρ x)) 2 (Qc w (Qb (ρ x))))(hz:Qs w (Qb (ρ x))=(0,0))(h1:QK (ρ y).cells):
  (execOp ρ ⟨dst,.store 73 x y,ty,pos,after,g⟩).run Tryz.prog w= .ok .skip (Qe w (Qb (ρ x)) (Qd (ρ x)) (ρ y).cells):=by
 unfold Fits at h;unfold Qn at hs;generalize b:Qb (ρ x)=B at*;generalize c:Qd (ρ x)=O at*;generalize d:(ρ y).cells=C at*;have a:(Instr.storeAt 73 (.pointer (some ⟨B,O,none⟩)) (.agg C)).run Tryz.prog w= .ok () (Qe w B O C):=
  run_storeAt_mid w B O 73 C (fun j hj=>⟨by rw [Qa,Array.getElem?_eq_getElem Om];rfl,Ql hz _⟩) (by rw [Qg5,hs]) h1
 simp only [execOp,hx,hy,Sem.run_bind,a,Result.andThen_ok,Sem.run_pure]
@[go_sem ↓ high] theorem Qsw(w:World)
  (hx:ρ x= .pointer (some ⟨Qb (ρ x),Qd (ρ x),none⟩))(hy:ρ y= .agg (ρ y).cells)(hs:Qn (ρ y).cells 2)(h:Fits (Qd (ρ x)) 2 (Qc w (Qb (ρ x))))(hz:Qs w (Qb (ρ x))=(0,0))(h1:QK (ρ y).cells):
  (Oper.semAt l ρ ⟨dst,.store 73 x y,ty,pos,after,g⟩).run Tryz.prog w= .ok .skip (Qe w (Qb (ρ x)) (Qd (ρ x)) (ρ y).cells):=by rw [Oper.semAt_eq _ _ _ (fun c h=>by cases h)];exact Qfs ρ dst x y ty pos after g w hx hy hs h hz h1
theorem QBw(hs:(Qc w B).size=2)(hz:Qs w B=(0,0))(hcs:cs.size=2)(ho:QK cs)
  (hx:ρ x= .pointer (some ⟨B,0,none⟩))(hy:ρ y= .agg cs):(execOp ρ ⟨dst,.store 73 x y,ty,pos,after,g⟩).run Tryz.prog w= .ok .skip (Qe w B 0 cs):=by
 have e:=Qfs ρ dst x y ty pos after g w (by rw [hx];rfl) (by rw [hy];rfl) (by rw [hy];exact hcs) (by rw [hx];show Fits 0 2 (Qc w B);unfold Fits;omega) (by rw [hx];exact hz) (by rw [hy];exact ho);rw [e,hx,hy];rfl
def isN(p:Int×Int):Bool:=decide (p∈Qx)
def adO(p:Int×Int):Int:=if p∈Qx then QD p else 0
theorem Qpv(h0:RowZ w B cs)(h6:cs.size=2)(hC: ¬C B){q:Operand}
  (hx:ρ q= .pointer (some ⟨B,0,none⟩)): ∀w',Mv C w w'→(execOp ρ ⟨dst,.load 73 q,ty,pos,after,g⟩).run Tryz.prog w'= .ok (.value (.agg cs)) w':=by
 intro w' b;have a:=h0.mv b hC;have e:=Qcx ρ dst q ty pos after g w' (by rw [hx];rfl) (by rw [hx];show Fits 0 2 (Qc w' B);rw [a.r];unfold Fits;omega);rw [e,hx];show Result.ok (Next.value (Value.agg (QB (Qc w' B) 0 2))) w'=_;rw [a.r,Q9 cs 2 h6]
theorem Qm5(w:World):Calls Tryz.prog 170 #[] w fun e w'=> ∃v,e= .returned v∧(∃B,v= .map (some B)∧ZE Qfr w' B (YG 10))∧Ext w w':=
 (QfZ w).mono fun e w' ⟨B,h1,h2,_,h4⟩=>⟨_,h1,⟨B,rfl,h4.is⟩,h2⟩
theorem ZE.look2{P:Program}{t kt et:TypeId}{K:Value→Prop}(L:Qfp P kt K)(ht:P.underlying t=some (.map kt et)){f:Value→Option Value}(h:ZE K w B f){x:Value}(hx:K x)(z:Value)(hz:(zeroValue et).run P w= .ok z w):
  (Instr.lookup t (.map (some B)) x true).run P w= .ok (.tuple #[(f x).getD z,.bool (f x).isSome]) w:=by
 obtain⟨b,n,c,d,l⟩:=h;rcases L.find w hx b.toList (fun e a=>(d e a).1)with⟨g1,g2⟩|⟨j,e,g1,g2,g3⟩
 ·have g:f x=none:=by
   cases k:f x with
   |none=>rfl
   |some v=>obtain⟨e,a,m⟩:=l x v k;exact absurd m (g2 e a)
  simp [Instr.lookup,run_underlying ht,MapKept.run_getObj_map c,L.check w _ hx,g1,hz,g,Result.andThen]
 ·have a:e∈b.toList:=List.mem_of_getElem? g2;have i:f x=some e.val:=by rw [←g3];exact(d e a).2
  simp [Instr.lookup,run_underlying ht,MapKept.run_getObj_map c,L.check w _ hx,g1,i,Result.andThen]
theorem QeP(p:Int×Int):(YG 10 (noV p)).getD (.int .u32 0)= .int .u32 (adO p)∧(YG 10 (noV p)).isSome=isN p:=by
 unfold adO isN
 by_cases h:p∈Qx
 ·rw [Qaa (i:=10) (show p∈Qx.take 10 from h),if_pos h];simp [h]
 ·rw [JD (i:=10) (fun q hq e=>h (by rw [Qd5 e];exact hq)),if_neg h];simp [h]
theorem Qvz{a c:Int}(h:ZE Qfr w B (YG 10))(hC: ¬C B){m q:Operand}
  (hm:ρ m= .map (some B))(hq:ρ q= .agg #[.int .u8 a,.int .i64 c]): ∀w',Mv C w w'→(execOp ρ ⟨dst,.lookup 211 m q true,ty,pos,after,g⟩).run Tryz.prog w'= .ok (.value (.tuple #[.int .u32 (adO (a,c)),.bool (isN (a,c))])) w':=by
 intro w' f;have b:=h.keep (f.same B (ZE.lt h) hC);have e:=ZE.look2 Qps QeN b (x:=noV (a,c)) ⟨_,rfl⟩ (.int .u32 0) Kr;rw [(QeP _).1,(QeP _).2]at e;simp only [execOp,hm,hq];show(Sem.run Tryz.prog _ _)=_;have d:(Instr.lookup 211 (.map (some B)) (.agg #[.int .u8 a,.int .i64 c]) true).run Tryz.prog w'= .ok (.tuple #[.int .u32 (adO (a,c)),.bool (isN (a,c))]) w':=e;simp only [Sem.run_bind,d,Result.andThen_ok,Sem.run_pure]
def Qpw(ops:Array Oper):Prop:=Region.noSelect ops=true∧Qv ops 8 [1] 0=true∧Rd ops 8 2 [0]∧Qv ops 8 [2,3,4,5,6,7] 3=true∧Rd ops 8 255 []
theorem QjX:Qpw ((Tryz.f172.body.bind (Qh 1)).getD #[]):=⟨Kr,Kr,Rk,Kr,Rk⟩
theorem Qis(p:Int×Int)(w:World):Cr 172 #[noV p] w (.tuple #[.int .u32 (adO p),.bool (isN p)]):=by
 obtain⟨a,c⟩:=p;unfold noV;dsimp only
 go_enter Tryz.func172,Tryz.ntmps172
 go_upto_region 1 with(fail)
 obtain⟨e,d⟩: ∃e,w.alloc (.cells #[.int .u8 a,.int .i64 c] 73)=e:=⟨_,rfl⟩;have E:Ext w e:=by rw [←d];exact Ea
 have f:RowZ e w.heap.size #[.int .u8 a,.int .i64 c]:=by rw [←d];exact RowZ.new _ _ _
 rw [d];clear d;refine QO (fun _=>False) Kr ?_;obtain⟨i,d⟩: ∃Wdr,World.drew e=Wdr:=⟨_,rfl⟩;have g:Ext e i:=by rw [←d];exact Ext.dr (Ext.rf _)
 rw [d];clear d;have E:=E.tr g;have f:=f.ext g;refine QaH (N:=8) (R:=Qpw) (E:=((Tryz.f172.body.bind (Qh 1)).getD #[])) Kr QjX Kr fun hS=> ?_;have b:=hS.2.1;refine tM 2 (.agg #[.int .u8 a,.int .i64 c]) hS.1 b rfl (Qpv f rfl (fun h=>h) Kr) fun b=> ?_;refine sM 3 (fun v w'=> ∃B,v= .map (some B)∧ZE Qfr w' B (YG 10)) hS.2.2.1 rfl (Qm5 i) ?_;rintro l m j ⟨n,rfl,k⟩;have E:=E.tr j;have f:=f.ext j;have b:=hS.2.2.2.1;refine tM 7 (.tuple #[.int .u32 (adO (a,c)),.bool (isN (a,c))]) hS.1 b rfl (Qvz k (fun h=>h) Kr Kr) fun b=>tMk 15 (.tuple #[.int .u32 (adO (a,c)),.bool (isN (a,c))]) hS.1 b rfl fun b=>tMk 31 (.int .u32 (adO (a,c))) hS.1 b rfl fun b=>tMk 63 (.bool (isN (a,c))) hS.1 b rfl fun b=>tMk 127 (.int .u32 (adO (a,c))) hS.1 b rfl fun b=>tMk 255 (.bool (isN (a,c))) hS.1 b rfl fun b=> ?_;refine doneK hS.2.2.2.2 ?_;clear hS b;go_simp;go_wp2;exact bodyPost_ret (results_tmp2 rfl _ _ _) rfl ⟨rfl,E⟩
end
section
open Ru
theorem QlR{tmps:Array Value}{g:Nat}(hp:tmps.getD 2 undef= .pointer (some ⟨g,0,none⟩))(hr:Qc w g=cs)(hc:cs.size=2):
  (results Tryz.f95 tmps).run Tryz.prog w= .ok (.tuple #[.agg cs,tmps.getD 3 undef]) w:=
 QL rfl tmps w g hp (by
  rw [QeO (by rw [hr,hc];omega),hr]
  rw [show cs.extract 0 (0+2)=cs by rw [Nat.zero_add,←hc];simp])
def Yi(x:Int):Option (Int×Int):=Qx.find? (fun p=>QD p==x)
def noC(p:Int×Int):Array Value:=#[.int .u8 p.1,.int .i64 p.2]
theorem Qpx: ∀p∈Qx,∀q∈Qx,QD p=QD q→p=q:=by decide
theorem Qb7{x:Int}{p:Int×Int}(hp:p∈Qx)(h:QD p=x):Yi x=some p:=by
 unfold Yi
 cases a:Qx.find? (fun p=>QD p==x)with
 |none=>have:=List.find?_eq_none.1 a p hp;simp [h]at this
 |some q=>
  have b:=List.find?_some a;have c:=List.mem_of_find?_eq_some a;rw [Qpx q c p hp (by rw [h];simpa using b)]
theorem QjY{x:Int}(h: ∀p∈Qx,QD p≠x):Yi x=none:=by
 unfold Yi;rw [List.find?_eq_none];intro p a;simp [h p a]
structure Qyo(es:Array MapEntry)(clk Bm r B2:Nat)(x:Int)(W:World)(seen:Array Nat):Prop where
 it: ∃c0,W.heap[r]?=some (.mapIter (some Bm) clk seen c0)∧clk≤c0
 m:W.heap[Bm]?=some (.map es clk)
 rz:RowZ W B2 #[.int .u8 0,.int .i64 0]
 no: ∀e∈es.toList,seen.contains e.born=true→e.val≠ .int .u32 x
theorem QjZ(h:QbD Qfr w B (YG 10)): ∃(es:Array MapEntry) (clk:Nat),w.heap[B]?=some (.map es clk)∧(∀e∈es.toList,∃p∈Qx,e.key=noV p∧e.val= .int .u32 (QD p))∧(∀p∈Qx,∃e∈es.toList,e.val= .int .u32 (QD p))∧(∀e∈es.toList,e.born<clk)∧(es.toList.map (·.born)).Nodup:=by
 obtain⟨es,clk,f,c,g,d⟩:=h;refine⟨es,clk,f,fun e a=> ?_,fun p b=> ?_,fun e a=> ?_,by rw [d];exact List.nodup_range⟩
 ·obtain⟨p,b,j,k⟩:=QjV (c e a).2;exact⟨p,b,j,k⟩
 ·obtain⟨e,a,l⟩:=g (noV p) _ (Qaa (i:=10) (show p∈Qx.take 10 from b));refine⟨e,a,?_⟩;have:=(c e a).2;rw [l,Qaa (i:=10) (show p∈Qx.take 10 from b)]at this;exact(Option.some.inj this).symm
 ·have:e.born∈es.toList.map (·.born):=List.mem_map.2 ⟨e,a,rfl⟩;rw [d]at this;exact List.mem_range.1 this
theorem J6(x:Int)(w:World):Cr 95 #[.int .u32 x] w (.tuple #[.agg (noC ((Yi x).getD (0,0))),.bool (Yi x).isSome]):=by
 go_enter Tryz.func95,Tryz.ntmps95
 go_upto_region 1 with(fail)
 obtain⟨M,b⟩: ∃M,w.alloc (.cells #[.int .u8 0,.int .i64 0] 73)=M:=⟨_,rfl⟩;have E:Ext w M:=by rw [←b];exact Ea
 have rz:RowZ M w.heap.size #[.int .u8 0,.int .i64 0]:=by rw [←b];exact RowZ.new _ _ _
 rw [b];clear b
 go_wp2_with (go_at_call 170;(refine(QfZ _).mono ?_);rintro e N ⟨j,rfl,O,c2,hm⟩;obtain⟨d,c,Z,Q,hall,a9,b0⟩:=QjZ hm;have b1:=run_range_map (P:=Tryz.prog) N 211 73 61 j d c QeN Z;have HB:=Xh Z;have b2:=Xh Q;have b3:=Xh hall;have b4:=Xh a9;have T:=Xh b0;clear Z Q hall a9 b0)
 have a2:=(Array.getElem?_eq_some_iff.1 HB.out).1;have b5:=O.size;have U:=rz.ext O;have a3:=U.l;unfold Lt at a3;obtain⟨r,hr⟩: ∃r,N.heap.size=r:=⟨_,rfl⟩;obtain⟨G,b⟩: ∃G,N.alloc (.mapIter (some j) c #[] c)=G:=⟨_,rfl⟩;have J:G.heap[r]?=some (.mapIter (some j) c #[] c):=by rw [←b,←hr];exact World.alloc_heap_new _ _
 have K:Ext N G:=by rw [←b];exact Ea
 have a4:Qyo d c j r w.heap.size x G #[]:=⟨⟨c,J,Nat.le_refl _⟩,(K.block _ a2).trans HB.out,U.ext K,fun e v h=>by simp at h⟩;have a5:=(E.tr O).tr K;have c3:w.heap.size<r:=by omega
 have c4:j<r:=by omega
 rw [hr,b];have b6:=Xh a4;have b7:=Xh a5;clear b hr b1 a4 a5 J K U rz E O hm c2 a2 a3 b5;go_wp2
 go_loopw [4,5] (fun _ _ wr=> ∃f,Qyo d c j r w.heap.size x wr f∧Ext w wr) (fun _ _ wr=>(leftOf d (wr.iterSeen r)).size)
 case atStart=>exact⟨_,b6.out,b7.out⟩
 case round=>
  obtain⟨f,⟨⟨c0,H,i2⟩,I,B,a0⟩,R⟩:=hrel;have HE:=Xh R;have b8:=Xh H;have b9:=Xh B;have a6:=Xh a0;rcases run_next_at (P:=Tryz.prog) wr 0 r j c c0 f d c H I b4.out i2 with⟨h0,hrun⟩|⟨e,v,wd,hwd,hrun⟩
  ·have D:Yi x=none:=by
    refine QjY fun p u hpx=> ?_;obtain⟨e,v,hv⟩:=b3.out p u;refine a6.out e v ?_ (by rw [hv,hpx])
    cases o:f.contains e.born with
    |true=>rfl
    |false=>
     have c1:e∈leftOf d f:=by unfold leftOf;exact Array.mem_filter.2 ⟨by simpa using v,by rw [o];rfl⟩
     obtain⟨i,hi,-⟩:=Array.mem_iff_getElem.1 c1;omega
   have V:=Xh D;have hR:=B.r;have hZ:=B.z;clear h0 R H B a0 I D i2;go_wp2;exact bodyPost_ret (QlR rfl ((b9.out.all #[.int .u8 0,.int .i64 0] rfl).r) rfl) rfl ⟨by rw [V.out];rfl,Mv.ext_of HE.out (Mv.sa (C:=fun k=>k=w.heap.size) _ rfl (Mv.refl _ _)) (fun k e=>by omega)⟩
  ·obtain⟨q,a1⟩:=mem_left v;have a7:=left_shrinks d f e v;obtain⟨⟨s,t⟩,u,ek,y⟩:=b2.out e q;obtain⟨a,b⟩: ∃a,ChangeMaps.setBlock wd r (.mapIter (some j) c (f.push e.born) c)=a:=⟨_,rfl⟩;have W:Ext wr wd:=by rcases hwd with rfl|rfl;exact Ext.rf _;exact Ext.dr (Ext.rf _)
   have a8:r<wd.heap.size:=Xl (Array.getElem?_eq_some_iff.1 H).1 W.size;have L:Mv (fun k=>k=r) wr a:=by
    refine(Mv.of_ext W).trans ?_;rw [←b];exact⟨rfl,rfl,rfl,by simp [ChangeMaps.setBlock],fun k _ Q=>by simp [ChangeMaps.setBlock,Array.getElem?_setIfInBounds,Ne.symm Q]⟩
   have m:a.heap[r]?=some (.mapIter (some j) c (f.push e.born) c):=by rw [←b];simp [ChangeMaps.setBlock,a8]
   have n:a.heap[j]?=some (.map d c):=(L.same j (Array.getElem?_eq_some_iff.1 I).1 Om).trans I;have F:=B.mv L Om;have X:=run_entry_at (P:=Tryz.prog) a r j c f d c e m n q T.out;rw [ek,y]at X hrun;unfold noV at X hrun;rw [b]at hrun;have HS:=Xh (show(leftOf d (f.push e.born)).size<(leftOf d (wr.iterSeen r)).size by rw [show wr.iterSeen r=f from by unfold World.iterSeen;rw [b8.out]];exact a7);have HZ:=Xh F;have HF:=Xh (And.intro m (And.intro n (And.intro u (And.intro q y))));have HM:=Xh (Mv.ext_of R L (fun k e=>by omega));have hR:=F.r;have hZ:=F.z;have hL:=F.l;clear H i2 I B a0 R v a7 b W a8 L m n F u ek y q hwd
   cases Y:(QD (s,t)==x)
   ·go_wp2;obtain⟨m,n,u,q,y⟩:=HF.out
    go_roundw
    case rel=>
     have g:Ext a (Qe (a.alloc (.cells #[.int .u8 0,.int .i64 0] 73)) a.heap.size 0 #[.int .u8 s,.int .i64 t]):=Mv.ext_of (Ext.al (Ext.rf a) _) (Mv.sa (C:=fun k=>k=a.heap.size) _ rfl (Mv.refl _ _)) (fun k e=>by omega);refine⟨f.push e.born,⟨⟨c,(g.block _ (Array.getElem?_eq_some_iff.1 m).1).trans m,Nat.le_refl _⟩,(g.block _ (Array.getElem?_eq_some_iff.1 n).1).trans n,HZ.out.ext g,fun e2 a1 o=> ?_⟩,HM.out.tr g⟩;rw [contains_push,Bool.or_eq_true]at o;rcases o with o|o
     ·exact a6.out e2 a1 o
     ·have:e2=e:=by
       have h1:=find_born e d.toList T.out q;have h2:=find_born e2 d.toList T.out a1;rw [beq_iff_eq.1 o,h1]at h2;exact(Option.some.inj h2).symm
      rw [this,y];intro h;have:=(Value.int.inj h).2;rw [this]at Y;simp at Y
    case measure=>
     have g:Ext a (Qe (a.alloc (.cells #[.int .u8 0,.int .i64 0] 73)) a.heap.size 0 #[.int .u8 s,.int .i64 t]):=Mv.ext_of (Ext.al (Ext.rf a) _) (Mv.sa (C:=fun k=>k=a.heap.size) _ rfl (Mv.refl _ _)) (fun k e=>by omega);have J:(Qe (a.alloc (.cells #[.int .u8 0,.int .i64 0] 73)) a.heap.size 0 #[.int .u8 s,.int .i64 t]).iterSeen r=f.push e.born:=by
      unfold World.iterSeen;rw [g.block _ (Array.getElem?_eq_some_iff.1 m).1,m]
     rw [J];exact HS.out
   ·go_upto_region 5 with(fail)
    obtain⟨S,b⟩: ∃S,(Qe (a.alloc (.cells #[.int .u8 0,.int .i64 0] 73)) a.heap.size 0 #[.int .u8 s,.int .i64 t])=S:=⟨_,rfl⟩;have g:Ext a S:=by rw [←b];exact Mv.ext_of (Ext.al (Ext.rf a) _) (Mv.sa (C:=fun k=>k=a.heap.size) _ rfl (Mv.refl _ _)) (fun k e=>by omega)
    have q4:RowZ S a.heap.size #[.int .u8 s,.int .i64 t]:=by rw [←b];exact(RowZ.new a #[.int .u8 0,.int .i64 0] 73).all _ rfl
    rw [b];clear b hR hZ hL X hrun;have A:=HZ.out.ext g;have c5:=q4.r;have c6:=A.r;have c7:=A.z;have HQ:=Xh (And.intro A g);clear q4 A g;obtain⟨m,n,u,q,y⟩:=HF.out;have D:Yi x=some (s,t):=Qb7 u (by simpa using Y);have V:=Xh D;clear m n u q y D;go_wp2;obtain⟨A,g⟩:=HQ.out;exact bodyPost_ret (QlR rfl ((A.all (noC (s,t)) rfl).r) rfl) rfl ⟨by rw [V.out];rfl,Mv.ext_of (HM.out.tr g) (Mv.sa (C:=fun k=>k=w.heap.size) _ rfl (Mv.refl _ _)) (fun k e=>by omega)⟩
end
theorem QeQ(sr ds:Int)(po pp:Option Addr)(co cp N:Nat)(w:World)(hN:N≤60000):Cr 214 #[.agg #[.int .u8 0,.int .u16 0,.int .u16 0,.int .u8 64,.int .u8 4,.int .u32 sr,.int .u32 ds,.slice po 16 co,.slice pp N cp]] w (.bool true):=by
 have a:decide ((36:Int)+(N:Int)≤65535)=true:=decide_eq_true Om
 go_enter Tryz.func214,Tryz.ntmps214
 go_wp2;go_ret;exact⟨rfl,Ext.al (Ext.rf _) _⟩
theorem Qf0(sr ds:Int)(po pp:Option Addr)(co cp N:Nat)(w:World)(hN:N≤60000):Cr 215 #[.agg #[.int .u8 0,.int .u16 0,.int .u16 0,.int .u8 64,.int .u8 4,.int .u32 sr,.int .u32 ds,.slice po 16 co,.slice pp N cp]] w (.int .i64 (36+(N:Int))):=by
 have g:=Xh (fun W=>QeQ sr ds po pp co cp N W hN);have h:=Xh hN;clear hN
 go_enter Tryz.func215,Tryz.ntmps215
 go_upto_region 1 with(fail)
 obtain⟨a,b⟩: ∃a,w.alloc (.cells #[.int .u8 0,.int .u16 0,.int .u16 0,.int .u8 64,.int .u8 4,.int .u32 sr,.int .u32 ds,.slice po 16 co,.slice pp N cp] 132)=a:=⟨_,rfl⟩;have i:Ext w a:=by rw [←b];exact Ea
 have c:RowZ a w.heap.size #[.int .u8 0,.int .u16 0,.int .u16 0,.int .u8 64,.int .u8 4,.int .u32 sr,.int .u32 ds,.slice po 16 co,.slice pp N cp]:=by rw [←b];exact RowZ.new _ _ _
 rw [b];clear b;have j:=c.r;have f:=Xh c;clear c
 go_wp2_with (go_at_call 214;(refine(g.out _).mono ?_);rintro e m ⟨rfl,d⟩;have k:=(f.out.ext d).cell 7 (by show 7<9;omega);have l:=(f.out.ext d).cell 8 (by show 8<9;omega))
 go_ret;exact⟨by have:=h.out;rw [show wrap64 (36+(N:Int))=36+(N:Int)by simp only [wrap64];omega];rfl,i.tr d⟩
theorem QvA(h0:RowZ w B cs)(h6:cs.size=9)(hC: ¬C B){q:Operand}
  (hx:ρ q= .pointer (some ⟨B,0,none⟩)): ∀w',Mv C w w'→(execOp ρ ⟨dst,.load 132 q,ty,pos,after,g⟩).run Tryz.prog w'= .ok (.value (.agg cs)) w':=by
 intro w' b;have a:=h0.mv b hC;have e:=Qcs ρ dst q ty pos after g w' (by rw [hx];rfl) (by rw [hx];show Fits 0 9 (Qc w' B);rw [a.r];unfold Fits;omega);rw [e,hx];show Result.ok (Next.value (Value.agg (QB (Qc w' B) 0 9))) w'=_;rw [a.r,Q9 cs 9 h6]
theorem Qm6{n:Int}(h:0≤n∧n<65536)(hx:ρ x= .int .i64 n)(w:World):
  (execOp ρ ⟨dst,.convert 3 62 x,ty,pos,after,g⟩).run Tryz.prog w= .ok (.value (.int .u16 n)) w:=by
 simp only [execOp,hx];go_simp;rw [show IntKind.u16.wrap n=n by rw [IntKind.wrap_u16];omega]
theorem Qb8{n:Int}(ρ:Operand→Value)(dst:Option Tmp)(x:Operand)(ty:TypeId)(pos:String)(after:Array Edge)(g:Option (Nat×Bool))(hx:ρ x= .int .u32 n)(w:World):
  (execOp ρ ⟨dst,.convert 61 62 x,ty,pos,after,g⟩).run Tryz.prog w= .ok (.value (.int .u16 (n % 65536))) w:=by
 simp only [execOp,hx];go_simp;rw [IntKind.wrap_u16]
theorem Qf1{n:Int}(h:0≤n∧n<65536)(hx:ρ x= .int .u32 n)(w:World):
  (execOp ρ ⟨dst,.convert 61 62 x,ty,pos,after,g⟩).run Tryz.prog w= .ok (.value (.int .u16 n)) w:=by
 have:=Qb8 ρ dst x ty pos after g hx w
 rwa [show n % 65536=n by omega]at this
theorem QdL{n:Int}(h:0≤n∧n<4294967296){r:TypeId}(hx:ρ x= .int .u32 n)(hy:ρ y= .int .u64 16)(w:World):
  (execOp ρ ⟨dst,.binOp .shr 61 x y r,ty,pos,after,g⟩).run Tryz.prog w= .ok (.value (.int .u32 (n/65536))) w:=by
 simp only [execOp,hx,hy];go_simp
def Qpy(ops:Array Oper):Prop:=Region.noSelect ops=true∧Qv ops 32 [0,1,4,5,6,7,8,9,10,11,12,13,14,15] 0=true∧Qv ops 32 [16,17,18,19,20,21,22,23,24,25,26,27,28,29] 65523=true∧Qv ops 32 [31] 1073741811=true∧Rd ops 32 3221225459 [2]∧Qv ops 32 [3,30] 3221225463=true∧Rd ops 32 4294967295 []
theorem Qj0:Qpy ((Tryz.f235.body.bind (Qh 1)).getD #[]):=⟨Kr,Kr,Kr,Kr,Rk,Kr,Rk⟩
theorem Qft: ∀args w,(callFunc 235 args).run Tryz.prog w= .ok (.enter 235 args) w:=enters_of Tryz.func235 Kr rfl
theorem Qm7(sr ds:Int)(po pp:Option Addr)(co cp N:Nat)(w:World):Calls Tryz.prog 216 #[.agg #[.int .u8 0,.int .u16 0,.int .u16 0,.int .u8 64,.int .u8 4,.int .u32 sr,.int .u32 ds,.slice po 16 co,.slice pp N cp]] w fun e w'=> ∃Bh,e= .returned (.func (.func 235) #[] #[.pointer (some ⟨Bh,0,none⟩)])∧Ext w w'∧w.heap.size≤Bh∧RowZ w' Bh #[.int .u8 0,.int .u16 0,.int .u16 0,.int .u8 64,.int .u8 4,.int .u32 sr,.int .u32 ds,.slice po 16 co,.slice pp N cp]:=by
 go_enter Tryz.func216,Tryz.ntmps216
 go_wp2;go_ret;exact⟨w.heap.size,rfl,Ext.al (Ext.rf _) _,Nat.le_refl _,RowZ.new _ _ _⟩
def YO(sr ds:Int)(N:Nat):List Int:= [18688,36+(N:Int),0,0,16388,0,sr/65536,sr % 65536,ds/65536,ds % 65536]
theorem Qpz(x0 x1 x2 x3 x4 x5 x6 x7 x8 x9:Int)(w:World):(Instr.index 265 (.agg #[.int .u16 x0,.int .u16 x1,.int .u16 x2,.int .u16 x3,.int .u16 x4,.int .u16 x5,.int .u16 x6,.int .u16 x7,.int .u16 x8,.int .u16 x9]) (.int .i64 0)).run Tryz.prog w= .ok (.int .u16 x0) w:=Kr
theorem QpA(x0 x1 x2 x3 x4 x5 x6 x7 x8 x9:Int)(w:World):(Instr.index 265 (.agg #[.int .u16 x0,.int .u16 x1,.int .u16 x2,.int .u16 x3,.int .u16 x4,.int .u16 x5,.int .u16 x6,.int .u16 x7,.int .u16 x8,.int .u16 x9]) (.int .i64 1)).run Tryz.prog w= .ok (.int .u16 x1) w:=Kr
theorem QpB(x0 x1 x2 x3 x4 x5 x6 x7 x8 x9:Int)(w:World):(Instr.index 265 (.agg #[.int .u16 x0,.int .u16 x1,.int .u16 x2,.int .u16 x3,.int .u16 x4,.int .u16 x5,.int .u16 x6,.int .u16 x7,.int .u16 x8,.int .u16 x9]) (.int .i64 2)).run Tryz.prog w= .ok (.int .u16 x2) w:=Kr
theorem QpC(x0 x1 x2 x3 x4 x5 x6 x7 x8 x9:Int)(w:World):(Instr.index 265 (.agg #[.int .u16 x0,.int .u16 x1,.int .u16 x2,.int .u16 x3,.int .u16 x4,.int .u16 x5,.int .u16 x6,.int .u16 x7,.int .u16 x8,.int .u16 x9]) (.int .i64 3)).run Tryz.prog w= .ok (.int .u16 x3) w:=Kr
theorem QpD(x0 x1 x2 x3 x4 x5 x6 x7 x8 x9:Int)(w:World):(Instr.index 265 (.agg #[.int .u16 x0,.int .u16 x1,.int .u16 x2,.int .u16 x3,.int .u16 x4,.int .u16 x5,.int .u16 x6,.int .u16 x7,.int .u16 x8,.int .u16 x9]) (.int .i64 4)).run Tryz.prog w= .ok (.int .u16 x4) w:=Kr
theorem QpE(x0 x1 x2 x3 x4 x5 x6 x7 x8 x9:Int)(w:World):(Instr.index 265 (.agg #[.int .u16 x0,.int .u16 x1,.int .u16 x2,.int .u16 x3,.int .u16 x4,.int .u16 x5,.int .u16 x6,.int .u16 x7,.int .u16 x8,.int .u16 x9]) (.int .i64 5)).run Tryz.prog w= .ok (.int .u16 x5) w:=Kr
theorem QpF(x0 x1 x2 x3 x4 x5 x6 x7 x8 x9:Int)(w:World):(Instr.index 265 (.agg #[.int .u16 x0,.int .u16 x1,.int .u16 x2,.int .u16 x3,.int .u16 x4,.int .u16 x5,.int .u16 x6,.int .u16 x7,.int .u16 x8,.int .u16 x9]) (.int .i64 6)).run Tryz.prog w= .ok (.int .u16 x6) w:=Kr
theorem QpG(x0 x1 x2 x3 x4 x5 x6 x7 x8 x9:Int)(w:World):(Instr.index 265 (.agg #[.int .u16 x0,.int .u16 x1,.int .u16 x2,.int .u16 x3,.int .u16 x4,.int .u16 x5,.int .u16 x6,.int .u16 x7,.int .u16 x8,.int .u16 x9]) (.int .i64 7)).run Tryz.prog w= .ok (.int .u16 x7) w:=Kr
theorem QpH(x0 x1 x2 x3 x4 x5 x6 x7 x8 x9:Int)(w:World):(Instr.index 265 (.agg #[.int .u16 x0,.int .u16 x1,.int .u16 x2,.int .u16 x3,.int .u16 x4,.int .u16 x5,.int .u16 x6,.int .u16 x7,.int .u16 x8,.int .u16 x9]) (.int .i64 8)).run Tryz.prog w= .ok (.int .u16 x8) w:=Kr
theorem QpI(x0 x1 x2 x3 x4 x5 x6 x7 x8 x9:Int)(w:World):(Instr.index 265 (.agg #[.int .u16 x0,.int .u16 x1,.int .u16 x2,.int .u16 x3,.int .u16 x4,.int .u16 x5,.int .u16 x6,.int .u16 x7,.int .u16 x8,.int .u16 x9]) (.int .i64 9)).run Tryz.prog w= .ok (.int .u16 x9) w:=Kr
theorem QpJ{sr ds:Int}{N k:Nat}{z:Int}(h:(YO sr ds N)[k]?=some z)(w:World):(Instr.index 265 (.agg #[.int .u16 (18688),.int .u16 (36+(N:Int)),.int .u16 (0),.int .u16 (0),.int .u16 (16388),.int .u16 (0),.int .u16 (sr/65536),.int .u16 (sr % 65536),.int .u16 (ds/65536),.int .u16 (ds % 65536)]) (.int .i64 ((k:Nat):Int))).run Tryz.prog w= .ok (.int .u16 z) w:=by
 have a:k<10:=(List.getElem?_eq_some_iff.1 h).1;obtain rfl|rfl|rfl|rfl|rfl|rfl|rfl|rfl|rfl|rfl:k=0∨k=1∨k=2∨k=3∨k=4∨k=5∨k=6∨k=7∨k=8∨k=9:=by omega
 ·obtain rfl:=Option.some.inj h;exact Qpz _ _ _ _ _ _ _ _ _ _ w
 ·obtain rfl:=Option.some.inj h;exact QpA _ _ _ _ _ _ _ _ _ _ w
 ·obtain rfl:=Option.some.inj h;exact QpB _ _ _ _ _ _ _ _ _ _ w
 ·obtain rfl:=Option.some.inj h;exact QpC _ _ _ _ _ _ _ _ _ _ w
 ·obtain rfl:=Option.some.inj h;exact QpD _ _ _ _ _ _ _ _ _ _ w
 ·obtain rfl:=Option.some.inj h;exact QpE _ _ _ _ _ _ _ _ _ _ w
 ·obtain rfl:=Option.some.inj h;exact QpF _ _ _ _ _ _ _ _ _ _ w
 ·obtain rfl:=Option.some.inj h;exact QpG _ _ _ _ _ _ _ _ _ _ w
 ·obtain rfl:=Option.some.inj h;exact QpH _ _ _ _ _ _ _ _ _ _ w
 ·obtain rfl:=Option.some.inj h;exact QpI _ _ _ _ _ _ _ _ _ _ w
theorem Qit(n:Nat)(sr ds:Int)(po pp:Option Addr)(co cp N:Nat)(w:World)(Bh:Nat)(U:Nat→Prop)(hz:RowZ w Bh #[.int .u8 0,.int .u16 0,.int .u16 0,.int .u8 64,.int .u8 4,.int .u32 sr,.int .u32 ds,.slice po 16 co,.slice pp N cp])(hsr:0≤sr∧sr<4294967296)(hds:0≤ds∧ds<4294967296)(hN:N≤60000):
  QcT Fence.wide n Tryz.prog 235 #[.pointer (some ⟨Bh,0,none⟩)] (fun x:Int=>#[.int .u16 x]) (fun _=>False) U (YO sr ds N) w:=by
 intro y J Jx W c s t g f;have A:=Xh s;have Z:=Xh t;have B:=Xh hN;have C:=Xh (fun k z h W=>QpJ (sr:=sr) (ds:=ds) (N:=N) (k:=k) (z:=z) h W);clear s t;obtain⟨P,Q,S,T,g⟩:=g;have p:=Xh g;clear g;have b:=hz.ext c;have D:=b.r;have F:=b.cell 7 (by show 7<9;omega);have G:=b.cell 0 (by show 0<9;omega);have H:=Xh b;have I:=Xh (And.intro hsr (And.intro hds hN));clear hz c b hsr hds hN;refine callsIn_of_wp Tryz.func235 rfl trivial ?_ rfl;simp only [Tryz.ntmps235,List.size_toArray,List.length_cons,List.length_nil,Nat.reduceAdd,Nat.reduceSub,Array.replicate_succ,Array.replicate_zero,List.push_toArray,List.append_toArray,List.nil_append,List.cons_append];refine wpIn_wide.2 ?_
 go_upto_region 1 with(fail)
 have K:=I.out;obtain⟨hsr,hds,hN⟩:=K;have b:=H.out;have d:=Ext.rf W;refine QO (fun _=>False) Kr ?_;obtain⟨o,c⟩: ∃Wdr,World.drew W=Wdr:=⟨_,rfl⟩;have m:Ext W o:=by rw [←c];exact Ext.dr (Ext.rf _)
 rw [c];clear c;have d:Ext W o:=m;have b:=b.ext m;refine QaH (N:=32) (R:=Qpy) (E:=((Tryz.f235.body.bind (Qh 1)).getD #[])) Kr Qj0 Kr fun hS=> ?_;have a:=hS.2.1;refine tMk 1 (.int .u16 18688) hS.1 a rfl fun a=>tM 3 (.agg #[.int .u8 0,.int .u16 0,.int .u16 0,.int .u8 64,.int .u8 4,.int .u32 sr,.int .u32 ds,.slice po 16 co,.slice pp N cp]) hS.1 a rfl (QvA b rfl (fun h=>h) Kr) fun a=>tMk 19 (.pointer (some ⟨Bh,1,none⟩)) hS.1 a rfl fun a=>tM 51 (.int .u16 0) hS.1 a rfl (Qa1 (b.cell 1 (by show 1<9;omega)) b.l (fun h=>h) Kr) fun a=>tMk 115 (.pointer (some ⟨Bh,2,none⟩)) hS.1 a rfl fun a=>tM 243 (.int .u16 0) hS.1 a rfl (Qa1 (b.cell 2 (by show 2<9;omega)) b.l (fun h=>h) Kr) fun a=>tMk 499 (.pointer (some ⟨Bh,3,none⟩)) hS.1 a rfl fun a=>tM 1011 (.int .u8 64) hS.1 a rfl (Yv (b.cell 3 (by show 3<9;omega)) b.l (fun h=>h) Kr) fun a=>tMk 2035 (.int .u16 64) hS.1 a rfl fun a=>tMk 4083 (.int .u16 16384) hS.1 a rfl fun a=>tMk 8179 (.pointer (some ⟨Bh,4,none⟩)) hS.1 a rfl fun a=>tM 16371 (.int .u8 4) hS.1 a rfl (Yv (b.cell 4 (by show 4<9;omega)) b.l (fun h=>h) Kr) fun a=>tMk 32755 (.int .u16 4) hS.1 a rfl fun a=>tMk 65523 (.int .u16 16388) hS.1 a rfl fun a=> ?_;have a:=hS.2.2.1;refine tMk 131059 (.pointer (some ⟨Bh,5,none⟩)) hS.1 a rfl fun a=>tM 262131 (.int .u32 sr) hS.1 a rfl (Qa0 (b.cell 5 (by show 5<9;omega)) b.l (fun h=>h) Kr) fun a=>tM 524275 (.int .u32 (sr/65536)) hS.1 a rfl (fun w' _=>QdL hsr Kr Kr w') fun a=>tM 1048563 (.int .u16 (sr/65536)) hS.1 a rfl (fun w' _=>Qf1 Om Kr w') fun a=>tMk 2097139 (.pointer (some ⟨Bh,5,none⟩)) hS.1 a rfl fun a=>tM 4194291 (.int .u32 sr) hS.1 a rfl (Qa0 (b.cell 5 (by show 5<9;omega)) b.l (fun h=>h) Kr) fun a=>tM 8388595 (.int .u16 (sr % 65536)) hS.1 a rfl (fun w' _=>Qb8 _ _ _ _ _ _ _ Kr w') fun a=>tMk 16777203 (.pointer (some ⟨Bh,6,none⟩)) hS.1 a rfl fun a=>tM 33554419 (.int .u32 ds) hS.1 a rfl (Qa0 (b.cell 6 (by show 6<9;omega)) b.l (fun h=>h) Kr) fun a=>tM 67108851 (.int .u32 (ds/65536)) hS.1 a rfl (fun w' _=>QdL hds Kr Kr w') fun a=>tM 134217715 (.int .u16 (ds/65536)) hS.1 a rfl (fun w' _=>Qf1 Om Kr w') fun a=>tMk 268435443 (.pointer (some ⟨Bh,6,none⟩)) hS.1 a rfl fun a=>tM 536870899 (.int .u32 ds) hS.1 a rfl (Qa0 (b.cell 6 (by show 6<9;omega)) b.l (fun h=>h) Kr) fun a=>tM 1073741811 (.int .u16 (ds % 65536)) hS.1 a rfl (fun w' _=>Qb8 _ _ _ _ _ _ _ Kr w') fun a=> ?_;have a:=hS.2.2.2.1;refine tMk 3221225459 (.int .i64 0) hS.1 a rfl fun a=> ?_;refine sM 3221225463 (fun v _=>v= .int .i64 (36+(N:Int))) hS.2.2.2.2.1 rfl (ZC (Qf0 sr ds po pp co cp N o B.out)) ?_;rintro _ a2 u rfl;have d:=d.tr u;have b:=b.ext u;have a:=hS.2.2.2.2.2.1;refine tM 3221225471 (.int .u16 (36+(N:Int))) hS.1 a rfl (fun w' _=>Qm6 Om Kr w') fun a=>tMk 4294967295 (.agg #[.int .u16 (18688),.int .u16 (36+(N:Int)),.int .u16 (0),.int .u16 (0),.int .u16 (16388),.int .u16 (0),.int .u16 (sr/65536),.int .u16 (sr % 65536),.int .u16 (ds/65536),.int .u16 (ds % 65536)]) hS.1 a rfl fun a=> ?_;refine doneK hS.2.2.2.2.2.2 ?_;clear hS a;have f:=A.out _ _ _ f (Mv.of_ext d);have L:=Xh f;clear f d b D F G m hsr hds hN;go_simp;go_wp2
 go_loopw [5,49] (fun _ j wr=> ∃k:Nat,k≤10∧j= .int .i64 k∧J k wr) (fun _ j _=>10- (intOf j).toNat)
 case atStart=>exact⟨0,Om,rfl,L.out⟩
 case round=>
  obtain⟨k,hk,rfl,i⟩:=hrel
  by_cases a1:k<10
  ·have a0:decide ((k:Int)<10)=true:=decide_eq_true Om;obtain⟨z,hz⟩: ∃z,(YO sr ds N)[k]?=some z:=⟨_,List.getElem?_eq_getElem (by show k<10;omega)⟩;have M:=C.out k z hz;have O:(Instr.yield y #[.int .u16 z]).run Tryz.prog wr= .ok (.round y P (Q #[.int .u16 z]) S T) wr:=(p.out k z wr i hz).1;have q:=Xh (p.out k z wr i hz).2;clear i hz;refine(wpIn_wide (n:=n)).1 ?_
   gi_wp2
   refine⟨(fun h=>by cases h),(q.out).mono ?_⟩;rintro e w6 ⟨bb,rfl,V⟩;clear O q M;obtain⟨rfl,X,-⟩|⟨rfl,Y⟩:=V
   ·gi_wp2
    go_wp2
    go_roundw
    case rel=>exact⟨k+1,Om,by go_num,X⟩
    case measure=>simp [intOf];omega
   ·gi_wp2
    go_wp2;exact bodyPost_ret (results_none rfl _ _ _) rfl ⟨⟨_,rfl⟩,.inr Y⟩
  ·obtain rfl:k=10:=by omega
   go_wp2
   go_end0
   exact⟨⟨_,rfl⟩,.inl i⟩
def ipA(sr ds:Int)(N:Nat)(op:List Int):List Int:=Yz (YO sr ds N)++op
def ipB(sr ds:Int)(op pl:List Int):List Int:=
 (((ipA sr ds pl.length op).set 10 (Z5 (ipA sr ds pl.length op)/256 % 256)).set 11 (Z5 (ipA sr ds pl.length op) % 256))++pl
theorem QeR{B:World}{v:Value}(h:OB A base v bs)(hm:Mv C A B)(hc: ∀g,v.ownBlock=some g→ ¬C g):OB B base v bs:=by
 refine⟨h.1,?_⟩;rcases h.2 with h1|⟨g,cap,cur,rfl,hg,hgb,h1,h2,h3,h4⟩
 ·exact .inl h1
 ·exact .inr ⟨g,cap,cur,rfl,hg,(hm.same g (Array.getElem?_eq_some_iff.1 hgb).1 (hc g rfl)).trans hgb,h1,h2,h3,h4⟩
theorem Qfu(w:World)(a b:Value)(t:TypeId): ∀j u,[a,b][j]?=some u→(w.alloc (.cells #[a,b] t)).cell? ((⟨w.heap.size,0,none⟩:Addr).add j)=some u:=by
 intro j u c;have e:(⟨w.heap.size,0,none⟩:Addr).add j=⟨w.heap.size,j,none⟩:=by unfold Addr.add;split<;>simp_all
 rw [e,Qa,Zn];simpa using c
theorem Qsx{g n c:Nat}(h:OB w base (.slice (some ⟨g,0,none⟩) n c) bs):SlB w (some ⟨g,0,none⟩) bs:=by
 obtain⟨p,d,a,-,b⟩:=h.slb
 injection a with e1 e2 e3
 rw [e1];exact b
def QpK(ops:Array Oper):Prop:=Region.noSelect ops=true∧Qv ops 5 [0,1,2] 0=true∧Rd ops 5 7 [3]∧Rd ops 5 15 [4]∧Rd ops 5 31 []
theorem Qj1:QpK ((Tryz.f173.body.bind (Qh 8)).getD #[]):=⟨Kr,Kr,Rk,Rk,Rk⟩
theorem SlB.mvg{B:World}(h:SlB A p bs)(m:Mv C A B)(hb: ∀b off,p=some ⟨b,off,none⟩→ ¬C b):SlB B p bs:=fun k hk=>by
 obtain⟨b,off,rfl,a,c⟩:=h k hk;exact((show SlB A (some ⟨b,off,none⟩) bs from h).mv m (hb b off rfl)) k hk
structure Qiu(B X lo:Nat)(xs:List Int)(W:World):Prop where
 at_: ∃v,Boxed W B 28 v∧OB W X v xs∧ ∀g,v.ownBlock=some g→g=X∨lo≤g
theorem Qiu.mv{X lo:Nat}{xs:List Int}{A':World}(h:Qiu B X lo xs A)(hm:Mv C A A')(h1: ¬C B)(h2: ¬C X)(h3: ∀k,lo≤k→ ¬C k):Qiu B X lo xs A':=by
 obtain⟨v,b,c,a⟩:=h;exact⟨v,Qj b hm h1,QeR c hm (fun g hg=>by rcases a g hg with e|e;(rw [e];exact h2);exact h3 g e),a⟩
theorem Qm8(xs:List Int)(z:Int):Yz (xs++ [z])=Yz xs++ [z/256 % 256,z % 256]:=by
 induction xs with
 |nil=>rfl
 |cons x xs ih=>show _::_::Yz (xs++ [z])=_;rw [ih];rfl
theorem QpL(sr ds:Int)(po pp:Option Addr)(co cp N:Nat)(op pl:List Int)(w:World)(hsr:0≤sr∧sr<4294967296)(hds:0≤ds∧ds<4294967296)(hN:N≤1000)(hpl:pl.length=N)(hop:op.length=16)(so:SlB w po op)(sp:SlB w pp pl)(ro:ByR op)(rp:ByR pl)(hpn:(pp=none∧pl= [])∨ ∃b off,pp=some ⟨b,off,none⟩)(hco:16≤co)(hcp:N≤cp)
  (hpo: ∀b off,po=some ⟨b,off,none⟩→b<w.heap.size)(hpp: ∀b off,pp=some ⟨b,off,none⟩→b<w.heap.size):
  Calls Tryz.prog 173 #[.agg #[.int .u8 0,.int .u16 0,.int .u16 0,.int .u8 64,.int .u8 4,.int .u32 sr,.int .u32 ds,.slice po 16 co,.slice pp N cp]] w fun e w'=> ∃v,e= .returned (.tuple #[v,.bool true])∧Z8 w w' v (ipB sr ds op pl):=by
 have HR:=Xh (fun W=>QeQ sr ds po pp co cp N W Om);have HS:=Xh (fun W=>Qf0 sr ds po pp co cp N W Om);have HH:=Xh (fun W=>Qm7 sr ds po pp co cp N W);have HX:=Xh (And.intro hsr (And.intro hds (And.intro hN (And.intro hpl (And.intro hop (And.intro so (And.intro sp (And.intro ro (And.intro rp (And.intro hpo hpp))))))))));clear hsr hds hN hpl hop so sp ro rp hpo hpp;obtain⟨i0,hi,c1,c2,c3⟩:=info_parts YB;refine(callsIn_wide (n:=5)).1 ?_;refine callsIn_of_wp_marks Tryz.func173 rfl trivial ?_ rfl;simp only [Tryz.ntmps173,List.size_toArray,List.length_cons,List.length_nil,Nat.reduceAdd,Nat.reduceSub,Array.replicate_succ,Array.replicate_zero,List.push_toArray,List.append_toArray,List.nil_append,List.cons_append];refine wpIn_wide.2 ?_
 go_upto_region 1 with(fail)
 obtain⟨W0,d⟩: ∃W0,w.alloc (.cells #[.int .u8 0,.int .u16 0,.int .u16 0,.int .u8 64,.int .u8 4,.int .u32 sr,.int .u32 ds,.slice po 16 co,.slice pp N cp] 132)=W0:=⟨_,rfl⟩;have g0:Ext w W0:=by rw [←d];exact Ea
 have q:RowZ W0 w.heap.size #[.int .u8 0,.int .u16 0,.int .u16 0,.int .u8 64,.int .u8 4,.int .u32 sr,.int .u32 ds,.slice po 16 co,.slice pp N cp]:=by rw [←d];exact RowZ.new _ _ _
 rw [d];clear d;have hR:=q.r;have HZ:=Xh q;clear q
 go_upto_region 4 with(first|(go_at_call 214;(with_reducible refine(HR.out _).mono ?_);rintro e T ⟨rfl,g2⟩;have f8:=(HZ.out.ext g2).r)|(go_at_call 215;(with_reducible refine(HS.out _).mono ?_);rintro e w3 ⟨rfl,g3⟩;obtain⟨w4,d8,d9,e0⟩:=run_makeSlice_owned (P:=Tryz.prog) w3 w3.heap.size 28 5 i0 (.int .u8 0) 1 Tryz.underlying28 hi c1 c2 .i64 .i64 (36+N) (by have:=HX.out.2.2.1;omega) (by have:=HX.out.2.2.1;rw [c3];omega) (by have:=HX.out.2.2.1;unfold maxLen;omega) (Nat.le_refl _);rw [show(((36+N:Nat)):Int)=36+(N:Int)by omega]at d8;have H:=Xh d9;have d3:=Xh e0;clear d9 e0))
 have g4:Ext w3 w4:=(Mv.of_grown (C:=fun _=>False) d3.out (fun r e=>by cases e)).ext (fun _ _ h=>h);obtain⟨X,hX⟩: ∃X,w3.heap.size=X:=⟨_,rfl⟩;obtain⟨f,d2⟩: ∃B,w4.heap.size=B:=⟨_,rfl⟩;obtain⟨W5,d⟩: ∃W5,w4.alloc (.cells #[.slice (some ⟨w3.heap.size,0,none⟩) 0 (36+N)] 28)=W5:=⟨_,rfl⟩;have g5:Ext w4 W5:=by rw [←d];exact Ea
 have s:Boxed W5 f 28 (.slice (some ⟨X,0,none⟩) 0 (36+N)):=by rw [←d,←d2,←hX];exact Boxed.new _ _ _
 have F:OB W5 X (.slice (some ⟨X,0,none⟩) 0 (36+N)) []:=OB.ext (by rw [←hX];exact H.out) g5;have gA:=(((g0.tr g2).tr g3).tr g4).tr g5;have q:=HZ.out.ext (((g2.tr g3).tr g4).tr g5);have f9:X<f:=by
  obtain⟨-,h⟩:=H.out;rcases h with⟨h,-⟩|⟨g,cap,cur,h,-,hgb,-⟩
  ·cases h
  ·have e1:w3.heap.size=g:=by injection h with h1;injection h1 with h2;injection h2
   rw [←e1]at hgb;have:=(Array.getElem?_eq_some_iff.1 hgb).1;omega
 have g1:W5.heap.size=f+1:=by rw [←d,←d2];simp
 rw [d];rw [d2];have g7:w.heap.size<X:=by
  have h1:=HZ.out.l;unfold Lt at h1;have h2:=g2.size;have h3:=g3.size;omega
 clear d;have e9:=q.r;have HB:=Xh (And.intro s (And.intro F (And.intro gA q)));clear s F gA q g5 g4 g0 d8 H d3 HZ HR HS
 go_wp2_with (go_at_call 216;(refine(HH.out _).mono ?_);rintro e o ⟨Bh,rfl,g6,h5,rh⟩)
 have g8:f<o.heap.size:=by have:=g6.size;omega
 have d4:Boxed o f 28 (.slice (some ⟨X,0,none⟩) 0 (36+N)):=Qj (C:=fun _=>False) HB.out.1 (Mv.of_ext g6) (fun h=>h);have d5:=OB.ext HB.out.2.1 g6;have gA:=HB.out.2.2.1.tr g6;have d6:=HB.out.2.2.2.ext g6;refine(wpIn_wide (n:=5)).1 ?_;refine ZI rfl Om (gf:=235) (lb:=#[.pointer (some ⟨Bh,0,none⟩)]) rfl trivial Qft
  (Qit _ sr ds po pp co cp N o Bh (fun k=>k=f∨k=X) rh HX.out.1 HX.out.2.1 (by have:=HX.out.2.2.1;omega))
  (fun k h=>h.elim) (fun k h=>by omega) (fun _=>rfl)
  (fun i W=>Qiu f X (o.heap.size+2) (Yz ((YO sr ds N).take i)) W) (fun _ _=>False)
  (fun i A B h hm=>h.mv hm (by rintro(h|h|h);exact h.elim;omega;omega) (by rintro(h|h|h);exact h.elim;omega;omega) (fun k hk h=>by rcases h with h|h|h;exact h.elim;omega;omega))
  (fun _ _ _ h _=>h) ⟨⟨_,d4,d5,fun g hg=> .inl (by simpa [Value.ownBlock]using hg.symm)⟩⟩
  (fun x a' W=>a'={tmps:=#[.agg #[.int .u8 0,.int .u16 0,.int .u16 0,.int .u8 64,.int .u8 4,.int .u32 sr,.int .u32 ds,.slice po 16 co,.slice pp N cp],.pointer (some ⟨w.heap.size,0,none⟩),.slice none 0 0,.bool false,.pointer (some ⟨f,0,none⟩),.int .u16 x,.agg #[.int .u8 0,.int .u16 0,.int .u16 0,.int .u8 64,.int .u8 4,.int .u32 sr,.int .u32 ds,.slice po 16 co,.slice pp N cp],.bool true,.bool false,.agg #[.int .u8 0,.int .u16 0,.int .u16 0,.int .u8 64,.int .u8 4,.int .u32 sr,.int .u32 ds,.slice po 16 co,.slice pp N cp],.int .i64 (36+(N:Int)),.slice (some ⟨X,0,none⟩) 0 (36+N),.agg #[.int .u8 0,.int .u16 0,.int .u16 0,.int .u8 64,.int .u8 4,.int .u32 sr,.int .u32 ds,.slice po 16 co,.slice pp N cp],.func (.func 235) #[] #[.pointer (some ⟨Bh,0,none⟩)],.int .u16 x,undef,undef,undef,undef,undef,undef,undef,undef,undef,undef,undef,undef,undef,undef,undef,undef,undef,undef,undef,undef,undef],defers:= []})
  (fun x a' A B h hm=>h)
  ?assign ?body ?done ?stop
 case assign=>
  intro y i x W K h6 U hI hx hK
  gi_wp2
  exact hK _ _ (Mv.refl _ _) hI rfl
 case body=>
  rintro y i x a' W f5 ⟨rr,hr⟩ h7 U ⟨v,a1,O,a3⟩ hx rfl;have g9:i<10:=(List.getElem?_eq_some_iff.1 hx).1;have HT:=Xh (show Yz ((YO sr ds N).take (i+1))=Yz ((YO sr ds N).take i)++ [x/256 % 256,x % 256]by rw [List.take_add_one,hx];exact Qm8 _ _);have c4:=Xh (show(Yz ((YO sr ds N).take i)).length≤20 by rw [Jc,List.length_take];have:(YO sr ds N).length=10:=rfl;omega);obtain⟨L,hL⟩: ∃L,Yz ((YO sr ds N).take i)=L:=⟨_,rfl⟩;rw [hL]at O HT c4;have cb:=a1.cell;have I:=Xh (And.intro a1 (And.intro O a3));have HV:=Xh U;clear a1 O a3 hx U hL hr f5
  gi_wp2_with (gi_at_builtin;refine wpListIn_append_own_at _ rfl _ _ 28 rfl X 5 i0 (.int .u8 0) 1 1 Tryz.underlying28 hi c1 c2 c3 rfl Dc _ _ _ rfl (show World.ownsRow _ X 5 1 v L.length (L.map (Value.int .u8))from OB.ext I.out.2.1 Ea) ⟨W.heap.size,0,none⟩ 2 2 [.int .u8 (x/256 % 256),.int .u8 (x % 256)] rfl rfl (Qfu _ _ _ _) (by simp [Value.oneCell']) (by have:=c4.out;unfold maxLen;omega) (by have:=c4.out;omega) (by simp;omega) ?_;intro v' T a0 a4 _ a5;have S:Mv (fun k=>v.ownBlock=some k) W T:=(Mv.al _ (Mv.refl _ _)).trans (Mv.of_grown a4 fun r e=> .inl e);have Y:=Qj I.out.1 S (fun e=>by rcases I.out.2.2 _ e with h|h;omega;omega);have H:=Xh (show OB T X v' (L++ [x/256 % 256,x % 256])by unfold OB;rw [List.length_append,List.map_append];exact a0);have a8:=Xh a5;obtain⟨pa,na,t,rfl⟩:=Qa3 H.out;have f0:=Y.cell;have f1:=Y.frozen;have M:=Xh S;have b7:=Xh Y;clear a0 a5 S Y a4)
  have Z:Mv (fun k=>k=f) T (T.setCell ⟨f,0,none⟩ (.slice pa na t)):=Mv.st _ (.inl rfl) (Mv.refl _ _);refine⟨(M.out.mono (D:=fun k=>(k=f∨k=X)∨o.heap.size+2≤k) (fun k _ e=>by rcases I.out.2.2 _ e with h|h;(exact .inl (.inr h));exact .inr h)).trans (Z.mono (fun k _ e=> .inl (.inl e))),?_⟩;show Qiu f X _ (Yz ((YO sr ds N).take (i+1))) _;rw [HT.out];have d7: ∀g,(Value.slice pa na t).ownBlock=some g→g=X∨o.heap.size+2≤g:=fun g hg=>by
   rcases a8.out with h|h
   ·exact I.out.2.2 g (h.symm.trans hg)
   ·rw [hg]at h;have:=Option.some.inj h;rw [World.size_alloc]at this
    right;omega
  exact⟨⟨_,b7.out.set _,QeR H.out Z (fun g hg e=>by rcases d7 g hg with h|h;omega;omega),d7⟩⟩
 case done=>
  rintro W ⟨v,a1,O,a3⟩ U hK;obtain⟨hsr,hds,hN,hpl,hop,so,sp,ro,rp,hpo,hpp⟩:=HX.out;obtain⟨bo,oo,rfl,-,-⟩:=so 0 Om;have h0:=hpo bo oo rfl;have b8:=(so.ext gA).mv U (by rintro(h|h|h);exact h;omega;omega);have b5:=(sp.ext gA).mvg U (fun b off e=>by have:=hpp b off e;rintro(h|h|h);exact h;omega;omega);have a9:=d6.mv U (by rintro(h|h|h);exact h;omega;omega);have E:=Mv.ext_of gA U (fun k h=>by rcases h with h|h|h;exact h.elim;omega;omega);have a:=(Array.getElem?_eq_some_iff.1 hK).1;have O:OB W X v (Yz (YO sr ds N)):=O;have hA:ipA sr ds N op=Yz (YO sr ds N)++op:=rfl;have b0:ByR (Yz (YO sr ds N)):=QgP _;have b1:(Yz (YO sr ds N)).length=20:=Jc _;obtain⟨L,hL⟩: ∃L,Yz (YO sr ds N)=L:=⟨_,rfl⟩;rw [hL]at O hA b0 b1;have f2:X≤W.heap.size:=by have:=U.size;omega
  have cb:=a1.cell;have c7:W.cell? ⟨w.heap.size,7,none⟩=some (.slice (some ⟨bo,oo,none⟩) 16 co):=a9.cell 7 (by show 7<9;omega);have I:=Xh (And.intro a1 (And.intro O (And.intro a3 (And.intro b8 (And.intro b5 (And.intro a9 (And.intro E (And.intro hK a))))))));have HF:=Xh (And.intro hN (And.intro hpl (And.intro hop (And.intro ro (And.intro rp (And.intro hA (And.intro b0 (And.intro b1 hL))))))));clear a1 O a3 b8 b5 a9 E hK a U so sp hpo d4 d5 d6 hL rh g6 gA hA b0 b1 hN hpl hop ro rp hsr hds e9 HB
  go_upto_region 8 with(at_builtin;refine wpList_append_own_at _ rfl _ _ 28 rfl X 5 i0 (.int .u8 0) 1 1 Tryz.underlying28 hi c1 c2 c3 rfl Dc _ _ _ rfl (show World.ownsRow _ X 5 1 v L.length (L.map (Value.int .u8))from I.out.2.1) ⟨bo,oo,none⟩ 16 co (op.map (Value.int .u8)) rfl (by rw [List.length_map,HF.out.2.2.1]) (I.out.2.2.2.1.news (Ext.rf _)) (oneB _) (by have:=HF.out.2.2.2.2.2.2.2.1;unfold maxLen;omega) (by have:=HF.out.2.2.2.2.2.2.2.1;omega) f2 ?_;intro v' T a0 a4 _ a5;have S:Mv (fun k=>v.ownBlock=some k) W T:=(Mv.of_grown a4 fun r e=> .inl e);have Y:=Qj I.out.1 S (fun e=>by rcases I.out.2.2.1 _ e with h|h;omega;omega);have H:=Xh (show OB T X v' (L++op)by unfold OB;rw [List.length_append,List.map_append,HF.out.2.2.1];exact a0);have a8:=Xh a5;obtain⟨pa,na,t,rfl⟩:=Qa3 H.out;have f0:=Y.cell;have f1:=Y.frozen;have M:=Xh S;have b7:=Xh Y;clear a0 a5 S Y a4)
  obtain⟨W7,d⟩: ∃W7,T.setCell ⟨f,0,none⟩ (.slice pa na t)=W7:=⟨_,rfl⟩;have Z:Mv (fun k=>k=f) T W7:=by rw [←d];exact Mv.st _ (.inl rfl) (Mv.refl _ _)
  have s:Boxed W7 f 28 (.slice pa na t):=by rw [←d];exact b7.out.set _
  rw [d];clear d;obtain⟨a1,O,a3,b8,b5,a9,E,hK,a⟩:=I.out;obtain⟨hN,hpl,hop,ro,rp,hA,b0,b1,hL⟩:=HF.out;have b3: ∀k,v.ownBlock=some k→k=X∨o.heap.size<k:=fun k e=>by rcases a3 k e with h|h;exact .inl h;right;omega
  have c5: ∀k,(Value.slice pa na t).ownBlock=some k→k=X∨o.heap.size<k:=fun k e=>by
   rcases a8.out with h|h
   ·exact b3 k (h.symm.trans e)
   ·rw [e]at h;have:=Option.some.inj h;right;omega
  have E:=Mv.ext_of (Mv.ext_of E M.out (fun k e=>by rcases b3 k e with h|h<;>omega)) Z (fun k e=>by omega);have q:=(a9.mv M.out (fun e=>by rcases b3 _ e with h|h<;>omega)).mv Z Om;have sp:=(b5.mvg M.out (fun b off e=>fun e2=>by have:=hpp b off e;rcases b3 _ e2 with h|h<;>omega)).mvg Z (fun b off e=>by have:=hpp b off e;omega);have G:=(Z.same o.heap.size (Xl a M.out.size) Om).trans ((M.out.same o.heap.size a (fun e=>by rcases b3 _ e with h|h<;>omega)).trans hK);have F:OB W7 X (.slice pa na t) (ipA sr ds N op):=by rw [hA];exact QeR H.out Z (fun g hg e=>by rcases c5 g hg with h|h<;>omega)
  have c6:ByR (ipA sr ds N op):=by rw [hA];intro z hz;rcases List.mem_append.1 hz with h|h;exact b0 z h;exact ro z h
  have c9:(ipA sr ds N op).length=36:=by rw [hA,List.length_append,b1,hop]
  have b9:=Xh (show ipB sr ds op pl=(((ipA sr ds N op).set 10 (Z5 (ipA sr ds N op)/256 % 256)).set 11 (Z5 (ipA sr ds N op) % 256))++pl by unfold ipB;rw [hpl]);obtain⟨A,e4⟩: ∃A,ipA sr ds N op=A:=⟨_,rfl⟩;rw [e4]at F c6 c9 b9;obtain⟨p,cc,f6,e5,f7,a6,fz,-⟩:=F.at Om
  injection f6 with e1 e2 e3
  subst e1 e2 e3;have J:=c5 p rfl;have a:=(Array.getElem?_eq_some_iff.1 G).1;have c0: ¬(fun k=>k=p) f:=fun e=>by rcases J with h|h<;>omega
  have b4:X≤W7.heap.size:=by omega
  clear a1 O a3 b8 b5 a9 hK I HF b7 H a8 M b3 c5 Z hA b0 b1 hL e4 ro hop;refine QO (fun k=>k=p) Kr ?_;obtain⟨WA,d⟩: ∃Wdr,World.drew W7=Wdr:=⟨_,rfl⟩;have Q:Ext W7 WA:=by rw [←d];exact Ext.dr (Ext.rf _)
  rw [d];clear d;have E:=E.tr Q;have q:=q.ext Q;have sp:=sp.ext Q;have s:=Qj (C:=fun _=>False) s (Mv.of_ext Q) (fun h=>h);have F:=OB.ext F Q;have G:=(Q.block _ a).trans G;have a:=Xl a Q.size;have fz:=Qao Q a6 fz;have a6:=Xl a6 Q.size;have b4:=Xt b4 Q.size;refine QaH (N:=5) (R:=QpK) (E:=((Tryz.f173.body.bind (Qh 8)).getD #[])) Kr Qj1 Kr fun hS=> ?_;have hT:=hS.2.1;refine tM 1 (.slice (some ⟨p,0,none⟩) A.length t) hS.1 hT rfl (JY s.cell s.lt c0 Kr) fun hT=>tM 3 (.slice (some ⟨p,0+10,none⟩) (A.length- 10) (t- 10)) hS.1 hT rfl (fun w' _=>JM (m:=A.length) (c:=t) 10 Om e5 Kr Kr w') fun hT=>tM 7 (.slice (some ⟨p,0,none⟩) A.length t) hS.1 hT rfl (JY s.cell s.lt c0 Kr) fun hT=> ?_;refine sM 15 (fun v _=>v= .int .u16 (Z5 A)) hS.2.2.1 rfl (ZC (Qc5 A (some ⟨p,0,none⟩) t WA (Qsx F) c6 Om e5)) ?_;rintro _ e6 V rfl;have E:=E.tr V;have q:=q.ext V;have sp:=sp.ext V;have s:=Qj (C:=fun _=>False) s (Mv.of_ext V) (fun h=>h);have F:=OB.ext F V;have G:=(V.block _ a).trans G;have a:=Xl a V.size;have fz:=Qao V a6 fz;have a6:=Xl a6 V.size;have b4:=Xt b4 V.size;refine QaO hS.2.2.2.1 (QuX (m':=31) (R:=fun _ w'=>w'=(e6.setCell ⟨p,0+10,none⟩ (.int .u8 (Z5 A/256 % 256))).setCell ⟨p,0+10+1,none⟩ (.int .u8 (Z5 A % 256))) rfl rfl Kr Kr ((Qlt (n:=A.length- 10) (c:=t- 10) (v:=Z5 A) e6 ((Qsx F).bt 10 Om).1 ((Qsx F).bt 11 Om).1 (Ql fz _) (Ql fz _) Om).mono fun e w' ⟨⟨r,h⟩,h2⟩=>⟨r,h,h2,by rw [h2];exact Mv.st _ (.inl rfl) (Mv.st _ (.inl rfl) (Mv.refl _ _))⟩) ?_);rintro vl a7 gL e7;refine doneK hS.2.2.2.2 ?_;clear hS hT;have b6:OB a7 X (.slice (some ⟨p,0,none⟩) A.length t) ((A.set 10 (Z5 A/256 % 256)).set 11 (Z5 A % 256)):=by rw [e7];exact YD (YD F 10 _ rfl) 11 _ (by simp)
  have d0:p≠w.heap.size∧p≠o.heap.size∧p≠f:=by rcases J with h|h<;>omega
  have E:=Mv.ext_of E gL (fun k e=>by rcases J with h|h<;>omega);have q:=q.mv gL (fun e=>d0.1 e.symm);have sp:=sp.mvg gL (fun b off e=>fun e2=>by have:=hpp b off e;rcases J with h|h<;>omega);have s:=Qj s gL c0;have G:=(gL.same o.heap.size a (fun e=>d0.2.1 e.symm)).trans G;have a:=Xl a gL.size;have f3:=Xt b4 gL.size;have d1:((A.set 10 (Z5 A/256 % 256)).set 11 (Z5 A % 256)).length=A.length:=by simp
  obtain⟨A2,e8⟩: ∃A2,(A.set 10 (Z5 A/256 % 256)).set 11 (Z5 A % 256)=A2:=⟨_,rfl⟩;rw [e8]at b6 b9 d1;have cb:=s.cell;have c8:a7.cell? ⟨w.heap.size,8,none⟩=some (.slice pp N cp):=q.cell 8 (by show 8<9;omega);have HQ:=Xh (And.intro b6 (And.intro E (And.intro sp (And.intro G (And.intro a (And.intro d1 (And.intro c9 (And.intro hpl (And.intro J hN)))))))));clear F b6 E q sp s G a b4 e7 gL e8 d1 d0 J c0 fz a6 c6 c9 hpl Q rp hN f7;rcases hpn with⟨hp0,hl0⟩|⟨bp,oq,hp0⟩
  ·subst hp0 hl0;obtain rfl:N=0:=by have:=HQ.out.2.2.2.2.2.2.2.1;simpa using this.symm
   go_simp;go_wp2;obtain⟨b6,E,-,G,a,-,-,-,J,-⟩:=HQ.out;refine⟨by simp,.inl ⟨_,_,rfl,run_takeDeferred G,?_⟩⟩;have m3:Mv (fun k=>k=o.heap.size) a7 (a7.putObj o.heap.size (.deferred none)):=Mv.put _ _ _ rfl;refine⟨_,results_tmp2 rfl _ _ _,_,rfl,?_,Mv.ext_of E m3 (fun k e=>by omega)⟩;rw [b9.out,List.append_nil];refine OB.le (QeR b6 m3 (fun g hg e=>by have:=Option.some.inj (hg.symm.trans (show _=some p from rfl));rcases J with h|h<;>omega)) Om
  ·subst hp0;have t1:=Xh (show World.ownsRow a7 X 5 1 (.slice (some ⟨p,0,none⟩) A.length t) A2.length (A2.map (Value.int .u8))from HQ.out.1);have t2:=Xh (show(pl.map (Value.int .u8)).length=N*1 by rw [List.length_map,HQ.out.2.2.2.2.2.2.2.1];omega);have t3:=Xh (show ∀j u,(pl.map (Value.int .u8))[j]?=some u→a7.cell? ((⟨bp,oq,none⟩:Addr).add j)=some u from HQ.out.2.2.1.news (Ext.rf _));have t4:=Xh (show A2.length+N≤maxLen by obtain⟨-,-,-,-,-,h1,h2,h3,-,h4⟩:=HQ.out;unfold maxLen;omega);have t5:=Xh (show(A2.length+N)*1≤140737488355328 by obtain⟨-,-,-,-,-,h1,h2,h3,-,h4⟩:=HQ.out;omega);go_simp
   go_wp2_with (at_builtin;refine wpList_append_own_at _ rfl _ _ 28 rfl X 5 i0 (.int .u8 0) 1 1 Tryz.underlying28 hi c1 c2 c3 rfl Dc _ _ _ rfl t1.out ⟨bp,oq,none⟩ N cp (pl.map (Value.int .u8)) rfl t2.out t3.out (oneB _) t4.out t5.out f3 ?_;intro v' w8 a0 a4 _ a5;have a8:=Xh a5;clear a5;have S:Mv (fun k=>k=p) a7 w8:=(Mv.of_grown a4 fun r e=> .inl (Option.some.inj (e.symm.trans rfl)));have H:=Xh (show OB w8 X v' (A2++pl)by unfold OB;rw [List.length_append,List.map_append,HQ.out.2.2.2.2.2.2.2.1];exact a0);have M:=Xh S;clear a0 S a4)
   obtain⟨-,E,-,G,a,-,-,-,J,-⟩:=HQ.out;have f4:=(M.out.same o.heap.size a (fun e=>by rcases J with h|h<;>omega)).trans G;refine⟨by simp,.inl ⟨_,_,rfl,run_takeDeferred f4,?_⟩⟩;have m3:Mv (fun k=>k=o.heap.size) w8 (w8.putObj o.heap.size (.deferred none)):=Mv.put _ _ _ rfl;refine⟨_,results_tmp2 rfl _ _ _,v',rfl,?_,Mv.ext_of (Mv.ext_of E M.out (fun k e=>by rcases J with h|h<;>omega)) m3 (fun k e=>by omega)⟩;rw [b9.out];refine OB.le (QeR H.out m3 (fun g hg e=> ?_)) Om;rcases a8.out with h|h
   ·have:=Option.some.inj (hg.symm.trans (h.trans (show _=some p from rfl)));rcases J with h|h<;>omega
   ·have:=Option.some.inj (hg.symm.trans h);omega
 case stop=>intro _ _ h;exact h.elim
@[go_sem] theorem Qyp{m:Nat}:Fits o m #[a0,a1,a2,a3,a4,a5,a6,a7,a8,a9,a10]=(o+m≤11):=by unfold Fits;rfl
@[go_sem] theorem QvB:Qn #[a0,a1,a2,a3,a4,a5,a6,a7,a8,a9,a10] 11=True:=by unfold Qn;exact eq_true rfl
@[go_sem] theorem Qyq:QK #[a0,a1,a2,a3,a4,a5,a6,a7,a8,a9,a10]=(a0.oneCell'=true∧a1.oneCell'=true∧a2.oneCell'=true∧a3.oneCell'=true∧a4.oneCell'=true∧a5.oneCell'=true∧a6.oneCell'=true∧a7.oneCell'=true∧a8.oneCell'=true∧a9.oneCell'=true∧a10.oneCell'=true):=by
 unfold QK;simp [and_assoc]
@[go_sem ↓ high] theorem Qxb:(Value.agg #[a0,a1,a2,a3,a4,a5,a6,a7,a8,a9,a10]).cells=#[a0,a1,a2,a3,a4,a5,a6,a7,a8,a9,a10]:=QF _
@[go_sem] theorem Qyr:QB #[a0,a1,a2,a3,a4,a5,a6,a7,a8,a9,a10] 0 11=#[a0,a1,a2,a3,a4,a5,a6,a7,a8,a9,a10]:=rfl
theorem Qg6:(Tryz.prog.info? 77).map (·.size)=some 11:=Kr
theorem Qm9{b:Nat}(h:o+11≤(Qc w b).size):(Instr.loadAt 77 (.pointer (some ⟨b,o,none⟩))).run Tryz.prog w= .ok (.agg ((Qc w b).extract o (o+11))) w:=by
 have:=run_loadAt_mid w b o 77 ((Qc w b).extract o (o+11)).toList _ (QC w b o (o+11)) Tryz.underlying77 rfl (by rw [Qg6];simp;omega)
 rwa [Array.toArray_toList]at this
theorem Qj2{b:Nat}(h:o+11≤(Qc w b).size):(loadVar 77 ⟨b,o,none⟩).run Tryz.prog w= .ok (.agg ((Qc w b).extract o (o+11))) w:=by
 have:=run_loadVar_mid w b o 77 ((Qc w b).extract o (o+11)).toList _ (QC w b o (o+11)) Tryz.underlying77 rfl (by rw [Qg6];simp;omega)
 rwa [Array.toArray_toList]at this
@[go_sem ↓ high] theorem Qg7(ρ:Operand→Value)(dst:Option Tmp)(x:Operand)(ty:TypeId)(pos:String)(after:Array Edge)(g:Option (Nat×Bool))(w:World)
  (hx:ρ x= .pointer (some ⟨Qb (ρ x),Qd (ρ x),none⟩))(h:Fits (Qd (ρ x)) 11 (Qc w (Qb (ρ x)))):
  (execOp ρ ⟨dst,.load 77 x,ty,pos,after,g⟩).run Tryz.prog w= .ok (.value (.agg (QB (Qc w (Qb (ρ x))) (Qd (ρ x)) 11))) w:=by
 unfold Fits at h;generalize a:Qb (ρ x)=B at*;generalize b:Qd (ρ x)=O at*;simp only [execOp,hx,Sem.run_bind,Qm9 h,Result.andThen_ok,Sem.run_pure,QB]
@[go_sem ↓ high] theorem Quk(w:World)
  (hx:ρ x= .pointer (some ⟨Qb (ρ x),Qd (ρ x),none⟩))(h:Fits (Qd (ρ x)) 11 (Qc w (Qb (ρ x)))):
  (Oper.semAt l ρ ⟨dst,.load 77 x,ty,pos,after,g⟩).run Tryz.prog w= .ok (.value (.agg (QB (Qc w (Qb (ρ x))) (Qd (ρ x)) 11))) w:=by rw [Oper.semAt_eq _ _ _ (fun c h=>by cases h)];exact Qg7 ρ dst x ty pos after g w hx h
@[go_sem ↓ high] theorem QbK(ρ:Operand→Value)(dst:Option Tmp)(x y:Operand)(ty:TypeId)(pos:String)(after:Array Edge)(g:Option (Nat×Bool))(w:World)
  (hx:ρ x= .pointer (some ⟨Qb (ρ x),Qd (ρ x),none⟩))(hy:ρ y= .agg (ρ y).cells)(hs:Qn (ρ y).cells 11)(h:Fits (Qd (ρ x)) 11 (Qc w (Qb (ρ x))))(hz:Qs w (Qb (ρ x))=(0,0))(h1:QK (ρ y).cells):
  (execOp ρ ⟨dst,.store 77 x y,ty,pos,after,g⟩).run Tryz.prog w= .ok .skip (Qe w (Qb (ρ x)) (Qd (ρ x)) (ρ y).cells):=by
 unfold Fits at h;unfold Qn at hs;generalize b:Qb (ρ x)=B at*;generalize c:Qd (ρ x)=O at*;generalize d:(ρ y).cells=C at*;have a:(Instr.storeAt 77 (.pointer (some ⟨B,O,none⟩)) (.agg C)).run Tryz.prog w= .ok () (Qe w B O C):=
  run_storeAt_mid w B O 77 C (fun j hj=>⟨by rw [Qa,Array.getElem?_eq_getElem Om];rfl,Ql hz _⟩) (by rw [Qg6,hs]) h1
 simp only [execOp,hx,hy,Sem.run_bind,a,Result.andThen_ok,Sem.run_pure]
@[go_sem ↓ high] theorem Qsy(w:World)
  (hx:ρ x= .pointer (some ⟨Qb (ρ x),Qd (ρ x),none⟩))(hy:ρ y= .agg (ρ y).cells)(hs:Qn (ρ y).cells 11)(h:Fits (Qd (ρ x)) 11 (Qc w (Qb (ρ x))))(hz:Qs w (Qb (ρ x))=(0,0))(h1:QK (ρ y).cells):
  (Oper.semAt l ρ ⟨dst,.store 77 x y,ty,pos,after,g⟩).run Tryz.prog w= .ok .skip (Qe w (Qb (ρ x)) (Qd (ρ x)) (ρ y).cells):=by rw [Oper.semAt_eq _ _ _ (fun c h=>by cases h)];exact QbK ρ dst x y ty pos after g w hx hy hs h hz h1
@[go_sem] theorem QzY:QB #[a0,a1,a2,a3,a4,a5,a6,a7,a8,a9,a10] 0 2=#[a0,a1]:=rfl
@[go_sem] theorem QzZ:QB #[a0,a1,a2,a3,a4,a5,a6,a7,a8,a9,a10] 2 2=#[a2,a3]:=rfl
@[go_sem] theorem Qz0:QB #[a0,a1,a2,a3,a4,a5,a6,a7,a8,a9,a10] 4 6=#[a4,a5,a6,a7,a8,a9]:=rfl
theorem QlS: ∀p∈Qx,0≤QD p∧QD p<4294967296:=by decide
theorem QlT(n:Int): ∀m:Nat,ByR (byN n m)
 |0=>ByR.nil
 |m+1=>ByR.cons Om (QlT n m)
theorem QpM(o:Opt):ByR (Ym o):=by
 intro z a;obtain⟨x,-,b⟩:=List.mem_flatMap.1 a;exact QlT _ _ z b
def wrV(fr tn:Int×Int)(o:Opt)(vp:Value):Array Value:=#[.int .u8 fr.1,.int .i64 fr.2,.int .u8 tn.1,.int .i64 tn.2,.int .u8 o.ki,.int .u8 o.bu,.int .i64 o.cu,.int .i64 o.pv,.int .i64 o.ge,.int .i64 o.ti,vp]
theorem Qb9(fr tn:Int×Int)(o:Opt)(pl:List Int)(pp:Option Addr)(N cp:Nat)(w:World)(hfr:fr∈Qx)(hto:tn∈Qx)(h0:0≤o.ki∧o.ki<256)(h1:0≤o.bu∧o.bu<256)(hok:ZO o=true)
  (hN:N≤1000)(hN0:(pp=none∧pl= [])∨ ∃b off,pp=some ⟨b,off,none⟩)(hpl:pl.length=N)(hcp:N≤cp)(sp:SlB w pp pl)(rp:ByR pl)(hpp: ∀b off,pp=some ⟨b,off,none⟩→b<w.heap.size):
  Calls Tryz.prog 96 #[.agg (wrV fr tn o (.slice pp N cp))] w fun e w'=> ∃v,e= .returned (.tuple #[v,.int .u8 0])∧Z8 w w' v (ipB (QD fr) (QD tn) (Ym o) pl):=by
 have M:=Xh (show ∀W,Calls Tryz.prog 171 #[.agg #[.int .u8 o.ki,.int .u8 o.bu,.int .i64 o.cu,.int .i64 o.pv,.int .i64 o.ge,.int .i64 o.ti]] W fun e w'=> ∃v,e= .returned (.tuple #[v,.int .i64 0])∧Z8 W w' v (Ym o)from fun W=>Qpg o W h0 h1 hok)
 have O:=Xh (show ∀W,Calls Tryz.prog 172 #[.agg #[.int .u8 fr.1,.int .i64 fr.2]] W fun e w'=>e= .returned (.tuple #[.int .u32 (QD fr),.bool true])∧Ext W w' from fun W=>by
  have:=Qis fr W
  rwa [show adO fr=QD fr from if_pos hfr,show isN fr=true from decide_eq_true hfr]at this)
 have P:=Xh (show ∀W,Calls Tryz.prog 172 #[.agg #[.int .u8 tn.1,.int .i64 tn.2]] W fun e w'=>e= .returned (.tuple #[.int .u32 (QD tn),.bool true])∧Ext W w' from fun W=>by
  have:=Qis tn W
  rwa [show adO tn=QD tn from if_pos hto,show isN tn=true from decide_eq_true hto]at this)
 have Q:=Xh (And.intro hN (And.intro hN0 (And.intro hpl (And.intro hcp (And.intro sp (And.intro rp (And.intro hpp (And.intro hfr hto))))))));clear h0 h1 hok hN hN0 hpl hcp sp rp hpp hfr hto;unfold wrV
 go_enter Tryz.func96,Tryz.ntmps96
 go_wp2;refine Qp 0 rfl ?_;obtain⟨j,a⟩: ∃j,w.alloc (.cells #[.int .u8 fr.1,.int .i64 fr.2,.int .u8 tn.1,.int .i64 tn.2,.int .u8 o.ki,.int .u8 o.bu,.int .i64 o.cu,.int .i64 o.pv,.int .i64 o.ge,.int .i64 o.ti,.slice pp N cp] 77)=j:=⟨_,rfl⟩;have R:Ext w j:=by rw [←a];exact Ea
 have q:RowZ j w.heap.size #[.int .u8 fr.1,.int .i64 fr.2,.int .u8 tn.1,.int .i64 tn.2,.int .u8 o.ki,.int .u8 o.bu,.int .i64 o.cu,.int .i64 o.pv,.int .i64 o.ge,.int .i64 o.ti,.slice pp N cp]:=by rw [←a];exact RowZ.new _ _ _
 rw [a];clear a;obtain⟨Y,D⟩: ∃B,w.heap.size=B:=⟨_,rfl⟩;rw [D]at q⊢;have S:=q.cell 10 (by show 10<11;omega)
 go_upto_region 3 with(fail)
 obtain⟨t,a⟩: ∃t,Qe (j.alloc (.cells #[.int .u8 0,.int .u16 0,.int .u16 0,.int .u8 0,.int .u8 0,.int .u32 0,.int .u32 0,.slice none 0 0,.slice none 0 0] 132)) j.heap.size 0 #[.int .u8 0,.int .u16 0,.int .u16 0,.int .u8 64,.int .u8 4,.int .u32 0,.int .u32 0,.slice none 0 0,.slice pp N cp]=t:=⟨_,rfl⟩;have I:Ext j t:=by rw [←a];exact Mv.ext_of Ea (Mv.sa (C:=fun k=>k=j.heap.size) _ rfl (Mv.refl _ _)) (fun k e=>by omega)
 have c:RowZ t j.heap.size #[.int .u8 0,.int .u16 0,.int .u16 0,.int .u8 64,.int .u8 4,.int .u32 0,.int .u32 0,.slice none 0 0,.slice pp N cp]:=by rw [←a];exact(RowZ.new _ _ _).all _ rfl
 rw [a];clear a S;obtain⟨g,Z⟩: ∃B,j.heap.size=B:=⟨_,rfl⟩;rw [Z]at c⊢;have a3:Y<g:=by have:=q.l;unfold Lt at this;omega
 have i:=q.ext I;have E:=R.tr I;have u:=i.r;have a4:g<t.heap.size:=c.l;clear q
 go_upto_region 4 with(go_at_call 171;(refine(M.out _).mono ?_);rintro e w2 ⟨vo,rfl,⟨F,G⟩⟩)
 have E:=E.tr G;have i:=i.ext G;have c:=c.ext G;have u:=i.r;obtain⟨n,x,rfl,H,a0,a1,-,-⟩:=F.at (by show 0<16;decide);have m:=Qsx F;have s:(Ym o).length=16:=rfl;rw [s]at H;have a5:g<n:=by omega
 rw [s]
 go_upto_region 5 with(go_at_call 172;(refine(O.out _).mono ?_);rintro e J ⟨rfl,d⟩;have z:=(c.ext d).cell 5 (by show 5<9;omega);have A:=(c.ext d).frz 5)
 obtain⟨K,a⟩: ∃W,World.setCell J ⟨g,5,none⟩ (.int .u32 (QD fr))=W:=⟨_,rfl⟩;have f:Mv (fun k=>k=g) J K:=by rw [←a];exact Mv.st _ (.inl rfl) (Mv.refl _ _)
 have E:=Mv.ext_of (E.tr d) f (fun k e=>by omega);have i:=(i.ext d).mv f Om;have m:=(m.ext d).mv f Om;have c:=(c.ext d);have c:RowZ K g #[.int .u8 0,.int .u16 0,.int .u16 0,.int .u8 64,.int .u8 4,.int .u32 (QD fr),.int .u32 0,.slice none 0 0,.slice pp N cp]:=by rw [←a];exact c.set 5 _
 rw [a];clear a z A f d;have u:=i.r
 go_upto_region 6 with(go_at_call 172;(refine(P.out _).mono ?_);rintro e L ⟨rfl,d⟩;have z:=(c.ext d).cell 6 (by show 6<9;omega);have A:=(c.ext d).frz 6)
 obtain⟨y,a⟩: ∃W,World.setCell L ⟨g,6,none⟩ (.int .u32 (QD tn))=W:=⟨_,rfl⟩;have f:Mv (fun k=>k=g) L y:=by rw [←a];exact Mv.st _ (.inl rfl) (Mv.refl _ _)
 have E:=Mv.ext_of (E.tr d) f (fun k e=>by omega);have i:=(i.ext d).mv f Om;have m:=(m.ext d).mv f Om;have c:=(c.ext d);have c:RowZ y g #[.int .u8 0,.int .u16 0,.int .u16 0,.int .u8 64,.int .u8 4,.int .u32 (QD fr),.int .u32 (QD tn),.slice none 0 0,.slice pp N cp]:=by rw [←a];exact c.set 6 _
 rw [a];clear a z A f d;have u:=i.r;have T:=c.cell 7 (by show 7<9;omega);have U:=c.frz 7
 go_upto_region 9 with(fail)
 obtain⟨p,a⟩: ∃W,World.setCell y ⟨g,7,none⟩ (.slice (some ⟨n,0,none⟩) 16 x)=W:=⟨_,rfl⟩;have f:Mv (fun k=>k=g) y p:=by rw [←a];exact Mv.st _ (.inl rfl) (Mv.refl _ _)
 have E:=Mv.ext_of E f (fun k e=>by omega);have m:=m.mv f Om;have c:RowZ p g #[.int .u8 0,.int .u16 0,.int .u16 0,.int .u8 64,.int .u8 4,.int .u32 (QD fr),.int .u32 (QD tn),.slice (some ⟨n,0,none⟩) 16 x,.slice pp N cp]:=by rw [←a];exact c.set 7 _
 rw [a];clear a T U f u i;have a6:=c.r
 have V:=Xh (show Calls Tryz.prog 173 #[.agg #[.int .u8 0,.int .u16 0,.int .u16 0,.int .u8 64,.int .u8 4,.int .u32 (QD fr),.int .u32 (QD tn),.slice (some ⟨n,0,none⟩) 16 x,.slice pp N cp]] p fun e w'=> ∃v,e= .returned (.tuple #[v,.bool true])∧Z8 p w' v (ipB (QD fr) (QD tn) (Ym o) pl)from by
  obtain⟨hN,hN0,hpl,hcp,sp,rp,hpp,hfr,hto⟩:=Q.out;have X:n<p.heap.size:=(m 0 (by rw [s];omega)).elim fun b h=>h.elim fun off h=>by have h1:=h.1;injection h1 with h1;injection h1 with h1;rw [h1];exact h.2.1
  exact QpL (QD fr) (QD tn) (some ⟨n,0,none⟩) pp x cp N (Ym o) pl p (QlS fr hfr) (QlS tn hto) hN hpl s m (sp.ext E) (QpM o) rp hN0 H hcp (fun b off e=>by injection e with e;injection e with D e2;rw [←D];exact X) (fun b off e=>Xl (hpp b off e) E.size))
 clear m c F H a0 a1 s
 go_wp2_with (go_at_call 173;(refine V.out.mono ?_);rintro e w8 ⟨v8,rfl,⟨a2,g8⟩⟩)
 simp only [Exit.jump];exact bodyPost_ret (results_tmp2 rfl _ _ _) rfl ⟨v8,rfl,a2.le (by have:=E.size;omega),E.tr g8⟩
def u8L(xs:List Int):List UInt8:=xs.map fun z=>UInt8.ofNat z.toNat
theorem QlU(xs:List Int):(u8L xs).length=xs.length:=by unfold u8L;rw [List.length_map]
theorem Qcy{xs:List Int}{c:Nat}(hs:SlB w p xs)(hx:ByR xs)(h0:0<xs.length):(convert 28 9 (.slice p xs.length c)).run Tryz.prog w= .ok (.string ⟨(u8L xs).toArray⟩) w:=by
 obtain⟨b,a,rfl,-,-⟩:=hs 0 h0
 have:=run_convert_bytes_back (P:=Tryz.prog) w 28 9 5 ⟨b,a,none⟩ c (u8L xs) Tryz.underlying28 Kr Kr (fun j hj=>by
  have d:j<xs.length:=by rw [←QlU];exact hj
  obtain⟨i,k,h,-,f⟩:=hs j d
  cases h
  have e:(⟨b,a,none⟩:Addr).add j=⟨b,a+j,none⟩:=by unfold Addr.add;split<;>simp_all
  rw [e,f];have g:=hx _ (List.getElem_mem d);have:(u8L xs)[j]=UInt8.ofNat xs[j].toNat:=by simp [u8L]
  rw [this]
  congr 2
  rw [UInt8.toNat_ofNat']
  omega)
 rw [QlU]at this;exact this
theorem Qiv(p q:Option Addr)(xs:List Int)(c d:Nat)(w:World)(hs:SlB w p xs)(ht:SlB w q xs)(hx:ByR xs)(h0:0<xs.length):
  Cr 97 #[.slice p xs.length c,.slice q xs.length d] w (.bool true):=by
 have a:=Qcy (c:=c) hs hx h0;have b:=Qcy (c:=d) ht hx h0;have e:=Xh hs;clear hs ht hx h0
 go_enter Tryz.func97,Tryz.ntmps97
 go_wp2;go_ret;exact⟨rfl,Ext.rf _⟩
theorem Qsz{xs ys:List Int}(hx:ByR xs)(hy:ByR ys)(h:u8L xs=u8L ys):xs=ys:=by
 unfold u8L at h;have a:xs.length=ys.length:=by have:=congrArg List.length h;simpa using this
 refine List.ext_getElem a fun i h1 h2=> ?_;have e:(xs.map fun z=>UInt8.ofNat z.toNat)[i]'(by simpa using h1)=(ys.map fun z=>UInt8.ofNat z.toNat)[i]'(by simpa using h2):=by simp only [h]
 rw [List.getElem_map,List.getElem_map]at e;have e:=congrArg UInt8.toNat e;rw [UInt8.toNat_ofNat',UInt8.toNat_ofNat']at e;have b:=hx _ (List.getElem_mem h1);have c:=hy _ (List.getElem_mem h2);omega
theorem Qj3(p q:Option Addr)(xs ys:List Int)(c d:Nat)(w:World)(hs:SlB w p xs)(ht:SlB w q ys)(hx:ByR xs)(hy:ByR ys)(h0:0<xs.length)(h1:0<ys.length):
  Cr 97 #[.slice p xs.length c,.slice q ys.length d] w (.bool (decide (xs=ys))):=by
 have g:=Qcy (c:=c) hs hx h0;have i:=Qcy (c:=d) ht hy h1;have a:=Xh (show u8L xs=u8L ys→xs=ys from Qsz hx hy);clear hs ht hx hy h0 h1
 go_enter Tryz.func97,Tryz.ntmps97
 go_wp2;have b:(u8L xs==u8L ys)=decide (xs=ys):=by
  by_cases h:xs=ys
  ·subst h;simp
  ·have f:u8L xs≠u8L ys:=fun e=>h (a.out e);simp [h,f]
 rw [b];go_ret;exact⟨rfl,Ext.rf _⟩
theorem Qbt{tmps:Array Value}{g:Nat}(hp:tmps.getD 2 undef= .pointer (some ⟨g,0,none⟩))(hr:Qc w g=cs)(hc:cs.size=11):
  (results Tryz.f40 tmps).run Tryz.prog w= .ok (.tuple #[.agg cs,tmps.getD 3 undef]) w:=
 QL rfl tmps w g hp (by
  rw [Qj2 (by rw [hr,hc];omega),hr]
  rw [show cs.extract 0 (0+11)=cs by rw [Nat.zero_add,←hc];simp])
theorem Qda(w:World)(b o:Nat)(x y:Value):Qe w b o #[x,y]=(w.setCell ⟨b,o,none⟩ x).setCell ⟨b,o+1,none⟩ y:=rfl
theorem Qg8(w:World)(b o:Nat)(a0 a1 a2 a3 a4 a5:Value):Qe w b o #[a0,a1,a2,a3,a4,a5]=(((((w.setCell ⟨b,o,none⟩ a0).setCell ⟨b,o+1,none⟩ a1).setCell ⟨b,o+2,none⟩ a2).setCell ⟨b,o+3,none⟩ a3).setCell ⟨b,o+4,none⟩ a4).setCell ⟨b,o+5,none⟩ a5:=rfl
theorem QlV{v:Value}(h:OB w base v bs): ∀g,v.ownBlock=some g→g<w.heap.size:=by
 intro g a;rcases h.2 with⟨rfl,h1⟩|⟨g',cap,cur,rfl,-,hgb,-⟩
 ·cases a
 ·have:g'=g:=by simpa [Value.ownBlock]using a
  subst this;exact(Array.getElem?_eq_some_iff.1 hgb).1
theorem QlW{n c:Nat}(h:OB w base (.slice p n c) bs):(p=none∧bs= [])∨ ∃b off,p=some ⟨b,off,none⟩:=by
 rcases h.2 with⟨h1,h2⟩|⟨g,cap,cur,h1,-⟩
 ·injection h1 with e1 e2 e3
  exact .inl ⟨e1,List.length_eq_zero_iff.1 h2⟩
 ·injection h1 with e1 e2 e3
  exact .inr ⟨g,0,e1⟩
theorem Qiw(fr tn:Int×Int)(o:Opt)(pl bs:List Int)(p:Option Addr)(c:Nat)(w:World)(hs:SlB w p bs)(hr:ByR bs)(hl:bs.length≤1000)(hlc:bs.length≤c)
  (hw:Zd bs=0)(hsr:(ipH bs).sr=QD fr)(hds:(ipH bs).ds=QD tn)(hop:(ipH bs).op.length=16)(hor:ByR (ipH bs).op)(hte:takeE (ipH bs).op=0)(hto:Yh (ipH bs).op=o)(hpl:(ipH bs).pl=pl)(hpr:ByR pl)(hp1:pl.length≤1000)
  (hfr:fr∈Qx)(htn:tn∈Qx)(h0:0≤o.ki∧o.ki<256)(h1:0≤o.bu∧o.bu<256)(hok:ZO o=true)(hbs:ipB (QD fr) (QD tn) (Ym o) pl=bs):
  Calls Tryz.prog 40 #[.slice p bs.length c] w fun e w'=> ∃vp,e= .returned (.tuple #[.agg (wrV fr tn o vp),.int .u8 0])∧Ext w w'∧SlV w' w.heap.size vp pl:=by
 have HS:=Xh hs;have J:=Xh (And.intro hr (And.intro hl (And.intro hlc (And.intro hw (And.intro hsr (And.intro hds (And.intro hop (And.intro hor (And.intro hte (And.intro hto (And.intro hpl (And.intro hpr (And.intro hp1 hbs)))))))))))));have U:=Xh (And.intro hfr (And.intro htn (And.intro h0 (And.intro h1 hok))))
 have a0:=Xh (show ∀W,SlB W p bs→Calls Tryz.prog 93 #[.slice p bs.length c] W fun e w'=> ∃Y vp,e= .returned (.tuple #[.agg #[.int .u8 (ipH bs).sv,.int .u16 (ipH bs).nu,.int .u16 (ipH bs).fl,.int .u8 (ipH bs).ho,.int .u8 (ipH bs).pr,.int .u32 (QD fr),.int .u32 (QD tn),Y,vp],.int .u8 0])∧Ext W w'∧OB w' W.heap.size Y (ipH bs).op∧OB w' W.heap.size vp pl from fun W s=>(Yu p bs c W s hr hl hlc).mono fun e w' h=>by
  cases h with
  |no h _=>exact absurd hw h
  |yes h e N x=>rw [hpl]at x;exact⟨_,_,by rw [←hsr,←hds];rfl,e,N,x⟩)
 obtain⟨H,hH⟩: ∃H,ipH bs=H:=⟨_,rfl⟩;rw [hH]at a0 J;clear hs hr hl hlc hw hsr hds hop hor hte hto hpl hpr hp1 hbs hfr htn h0 h1 hok hH
 go_enter Tryz.func40,Tryz.ntmps40
 go_wp2;refine Qp 0 rfl ?_;obtain⟨t,d⟩: ∃t,w.alloc (.cells #[.int .u8 0,.int .i64 0,.int .u8 0,.int .i64 0,.int .u8 0,.int .u8 0,.int .i64 0,.int .i64 0,.int .i64 0,.int .i64 0,.slice none 0 0] 77)=t:=⟨_,rfl⟩;have E:Ext w t:=by rw [←d];exact Ea
 have a:RowZ t w.heap.size #[.int .u8 0,.int .i64 0,.int .u8 0,.int .i64 0,.int .u8 0,.int .u8 0,.int .i64 0,.int .i64 0,.int .i64 0,.int .i64 0,.slice none 0 0]:=by rw [←d];exact RowZ.new _ _ _
 rw [d];clear d;obtain⟨j,e2⟩: ∃B,w.heap.size=B:=⟨_,rfl⟩;rw [e2]at a⊢;have s0:=HS.out.ext E;have a1:=Xh (a0.out _ s0)
 go_upto_region 5 with(go_at_call 93;(refine a1.out.mono ?_);rintro e D ⟨Y,vp,rfl,Q,N,x⟩;obtain⟨O,R,rfl,b4,L⟩:=N.slb;obtain⟨n,u,rfl,a4,i⟩:=x.slb)
 have hz:t.heap.size≤D.heap.size:=Q.size;obtain⟨F,d⟩: ∃F,Qe (D.alloc (.cells #[.int .u8 0,.int .u16 0,.int .u16 0,.int .u8 0,.int .u8 0,.int .u32 0,.int .u32 0,.slice none 0 0,.slice none 0 0] 132)) D.heap.size 0 #[.int .u8 H.sv,.int .u16 H.nu,.int .u16 H.fl,.int .u8 H.ho,.int .u8 H.pr,.int .u32 (QD fr),.int .u32 (QD tn),.slice O H.op.length R,.slice n pl.length u]=F:=⟨_,rfl⟩;have K:Ext D F:=by rw [←d];exact Mv.ext_of Ea (Mv.sa (C:=fun k=>k=D.heap.size) _ rfl (Mv.refl _ _)) (fun k e=>by omega)
 have m:RowZ F D.heap.size #[.int .u8 H.sv,.int .u16 H.nu,.int .u16 H.fl,.int .u8 H.ho,.int .u8 H.pr,.int .u32 (QD fr),.int .u32 (QD tn),.slice O H.op.length R,.slice n pl.length u]:=by rw [←d];exact(RowZ.new _ _ _).all _ rfl
 rw [d];clear d;obtain⟨Z,e8⟩: ∃B,D.heap.size=B:=⟨_,rfl⟩;rw [e8]at m⊢;have b5:j<Z:=by have:=a.l;unfold Lt at this;omega
 have a6: ∀b off,O=some ⟨b,off,none⟩→t.heap.size≤b:=fun b off e=>by subst e;exact Qi N b rfl
 have y: ∀b off,n=some ⟨b,off,none⟩→t.heap.size≤b∧b<Z:=fun b off e=>by
  subst e;refine⟨Qi x b rfl,?_⟩;have:=QlV x b rfl;omega
 have a7:=QlW x;have b6:j<t.heap.size:=a.l;have E:=(E.tr Q).tr K;have a:=(a.ext Q).ext K;have L:=L.ext K;have i:=i.ext K
 have a2:=Xh (show Calls Tryz.prog 94 #[.slice O H.op.length R] F fun e w'=>e= .returned (.tuple #[.agg #[.int .u8 o.ki,.int .u8 o.bu,.int .i64 o.cu,.int .i64 o.pv,.int .i64 o.ge,.int .i64 o.ti],.int .i64 0])∧Ext F w' from by
  obtain⟨hr,hl,hlc,hw,hsr,hds,hop,hor,hte,hto,hpl,hpr,hp1,hbs⟩:=J.out
  have:=Qbr O H.op R F L hor Om b4 (fun b off e=>by
   subst e;obtain⟨b',c2,h,hb,-⟩:=L 0 Om
   cases h
   exact hb)
  rw [hte,hto,Qcu]at this
  exact this)
 have V:=Xh (fun(q:Int×Int) (hq:q∈Qx)=>(show ∀W,Calls Tryz.prog 95 #[.int .u32 (QD q)] W fun e w'=>e= .returned (.tuple #[.agg #[.int .u8 q.1,.int .i64 q.2],.bool true])∧Ext W w' from fun W=>by
  have:=J6 (QD q) W;rw [Qb7 hq rfl]at this
  exact this))
 have a8:=Xh (V.out fr U.out.1);have a9:=Xh (V.out tn U.out.2.1);have c7:=m.cell 7 (by show 7<9;omega);clear V N x a1 s0 Q K L a6
 go_upto_region 7 with(go_at_call 94;(refine a2.out.mono ?_);rintro e w4 ⟨rfl,g⟩;have A:=(a.ext g).r;have M:=(a.ext g).z)
 obtain⟨W5,d⟩: ∃W,Qe w4 j 4 #[.int .u8 o.ki,.int .u8 o.bu,.int .i64 o.cu,.int .i64 o.pv,.int .i64 o.ge,.int .i64 o.ti]=W:=⟨_,rfl⟩;have f:Mv (fun k=>k=j) w4 W5:=by rw [←d];exact Mv.sa _ rfl (Mv.refl _ _)
 have E:=Mv.ext_of (E.tr g) f (fun k e=>by omega);have m:=(m.ext g).mv f Om;have i:=(i.ext g).mvn f (fun b off e=>by have:=y b off e;omega);have a:=a.ext g;have a:RowZ W5 j #[.int .u8 0,.int .i64 0,.int .u8 0,.int .i64 0,.int .u8 o.ki,.int .u8 o.bu,.int .i64 o.cu,.int .i64 o.pv,.int .i64 o.ge,.int .i64 o.ti,.slice none 0 0]:=by rw [←d,Qg8];exact((((((a.set 4 _).set 5 _).set 6 _).set 7 _).set 8 _).set 9 _)
 rw [d];clear d f g A M c7 a2;have X:=m.cell 5 (by show 5<9;omega)
 go_upto_region 9 with(go_at_call 95;(refine(a8.out _).mono ?_);rintro e w6 ⟨rfl,g⟩;have A:=(a.ext g).r;have M:=(a.ext g).z)
 obtain⟨W7,d⟩: ∃W,Qe w6 j 0 #[.int .u8 fr.1,.int .i64 fr.2]=W:=⟨_,rfl⟩;have f:Mv (fun k=>k=j) w6 W7:=by rw [←d];exact Mv.sa _ rfl (Mv.refl _ _)
 have E:=Mv.ext_of (E.tr g) f (fun k e=>by omega);have m:=(m.ext g).mv f Om;have i:=(i.ext g).mvn f (fun b off e=>by have:=y b off e;omega);have a:=a.ext g;have a:RowZ W7 j #[.int .u8 fr.1,.int .i64 fr.2,.int .u8 0,.int .i64 0,.int .u8 o.ki,.int .u8 o.bu,.int .i64 o.cu,.int .i64 o.pv,.int .i64 o.ge,.int .i64 o.ti,.slice none 0 0]:=by rw [←d,Qda];exact((a.set 0 _).set 1 _)
 rw [d];clear d f g A M X;have X:=m.cell 6 (by show 6<9;omega)
 go_upto_region 10 with(go_at_call 95;(refine(a9.out _).mono ?_);rintro e w8 ⟨rfl,g⟩;have A:=(a.ext g).r;have M:=(a.ext g).z)
 obtain⟨S,d⟩: ∃W,Qe w8 j 2 #[.int .u8 tn.1,.int .i64 tn.2]=W:=⟨_,rfl⟩;have f:Mv (fun k=>k=j) w8 S:=by rw [←d];exact Mv.sa _ rfl (Mv.refl _ _)
 have E:=Mv.ext_of (E.tr g) f (fun k e=>by omega);have m:=(m.ext g).mv f Om;have i:=(i.ext g).mvn f (fun b off e=>by have:=y b off e;omega);have a:=a.ext g;have a:RowZ S j #[.int .u8 fr.1,.int .i64 fr.2,.int .u8 tn.1,.int .i64 tn.2,.int .u8 o.ki,.int .u8 o.bu,.int .i64 o.cu,.int .i64 o.pv,.int .i64 o.ge,.int .i64 o.ti,.slice none 0 0]:=by rw [←d,Qda];exact((a.set 2 _).set 3 _)
 rw [d];clear d f g A M X;have c8:=m.cell 8 (by show 8<9;omega);have b0:=a.cell 10 (by show 10<11;omega);have b1:=a.frz 10
 go_upto_region 12 with(fail)
 obtain⟨I,d⟩: ∃W,World.setCell S ⟨j,10,none⟩ (.slice n pl.length u)=W:=⟨_,rfl⟩;have f:Mv (fun k=>k=j) S I:=by rw [←d];exact Mv.st _ (.inl rfl) (Mv.refl _ _)
 have E:=Mv.ext_of E f (fun k e=>by omega);have i:=i.mvn f (fun b off e=>by have:=y b off e;omega);have a:RowZ I j #[.int .u8 fr.1,.int .i64 fr.2,.int .u8 tn.1,.int .i64 tn.2,.int .u8 o.ki,.int .u8 o.bu,.int .i64 o.cu,.int .i64 o.pv,.int .i64 o.ge,.int .i64 o.ti,.slice n pl.length u]:=by rw [←d];exact a.set 10 _
 have b7:Z<I.heap.size:=Xl m.l f.size;rw [d];clear d f c8 b0 b1 m;have A:=a.r
 have a3:=Xh (show Calls Tryz.prog 96 #[.agg #[.int .u8 fr.1,.int .i64 fr.2,.int .u8 tn.1,.int .i64 tn.2,.int .u8 o.ki,.int .u8 o.bu,.int .i64 o.cu,.int .i64 o.pv,.int .i64 o.ge,.int .i64 o.ti,.slice n pl.length u]] I fun e w'=> ∃v,e= .returned (.tuple #[v,.int .u8 0])∧Z8 I w' v bs from by
  obtain⟨hr,hl,hlc,hw,hsr,hds,hop,hor,hte,hto,hpl,hpr,hp1,hbs⟩:=J.out;obtain⟨hfr,htn,h0,h1,hok⟩:=U.out;have:=Qb9 fr tn o pl n pl.length u I hfr htn h0 h1 hok hp1 a7 rfl a4 i hpr (fun b off e=>by have:=y b off e;omega);rw [hbs]at this
  exact this)
 have b2:0<bs.length:=by
  have hw:=J.out.2.2.2.1;unfold Zd at hw
  split at hw
  ·cases hw
  ·omega
 go_upto_region 13 with(go_at_call 96;(refine a3.out.mono ?_);rintro e wB ⟨v8,rfl,⟨a5,T⟩⟩)
 obtain⟨p8,q8,rfl,-,s8⟩:=a5.slb;have E:=E.tr T;have a:=a.ext T;have i:=i.ext T;have b3:=Xh (Qiv p8 p bs q8 c wB s8 (HS.out.ext E) J.out.1 b2);have P:=Xh (And.intro E (And.intro a i));have b8:w.heap.size≤t.heap.size:=by omega
 clear E a i s8 a5 a3 A
 go_wp2_with (go_at_call 97;(refine b3.out.mono ?_);rintro e wC ⟨rfl,G⟩;have b9:=(P.out.2.1.ext G).r;have c0:=(P.out.2.1.ext G).z;have c1:=(P.out.2.1.ext G).l)
 simp only [Exit.jump];obtain⟨E,a,i⟩:=P.out;have f:Mv (fun k=>k=j) wC (Qe wC j 0 #[.int .u8 fr.1,.int .i64 fr.2,.int .u8 tn.1,.int .i64 tn.2,.int .u8 o.ki,.int .u8 o.bu,.int .i64 o.cu,.int .i64 o.pv,.int .i64 o.ge,.int .i64 o.ti,.slice n pl.length u]):=Mv.sa _ rfl (Mv.refl _ _);exact bodyPost_ret (Qbt rfl (((a.ext G).all _ rfl).r) rfl) rfl ⟨.slice n pl.length u,rfl,Mv.ext_of (E.tr G) f (fun k e=>by omega),n,u,rfl,a4,(i.ext G).mvn f (fun b off e=>by have:=y b off e;omega),fun b off e=>by have:=y b off e;have:=T.size;have:=G.size;have:=f.size;omega⟩
theorem Qj4(bs:List Int)(p:Option Addr)(c:Nat)(w:World)(hs:SlB w p bs)(hr:ByR bs)(hl:bs.length≤1000)(hlc:bs.length≤c)(hw:Zd bs≠0):
  Cr 40 #[.slice p bs.length c] w (.tuple #[.agg #[.int .u8 0,.int .i64 0,.int .u8 0,.int .i64 0,.int .u8 0,.int .u8 0,.int .i64 0,.int .i64 0,.int .i64 0,.int .i64 0,.slice none 0 0],.int .u8 13]):=by
 have n:=Xh hs
 have l:=Xh (show ∀W,SlB W p bs→Calls Tryz.prog 93 #[.slice p bs.length c] W fun e w'=>e= .returned (.tuple #[.agg #[.int .u8 0,.int .u16 0,.int .u16 0,.int .u8 0,.int .u8 0,.int .u32 0,.int .u32 0,.slice none 0 0,.slice none 0 0],.int .u8 (Zd bs)])∧Ext W w' from fun W s=>(Yu p bs c W s hr hl hlc).mono fun e w' h=>by
  cases h with
  |no h e=>exact⟨rfl,e⟩
  |yes h e ho hp=>exact absurd h hw)
 obtain⟨y,m⟩: ∃y,Zd bs=y:=⟨_,rfl⟩;rw [m]at l hw;have t:(y !=0)=true:=by simp [hw]
 clear hs hr hl hlc hw m
 go_enter Tryz.func40,Tryz.ntmps40
 go_wp2;refine Qp 0 rfl ?_;obtain⟨d,b⟩: ∃d,w.alloc (.cells #[.int .u8 0,.int .i64 0,.int .u8 0,.int .i64 0,.int .u8 0,.int .u8 0,.int .i64 0,.int .i64 0,.int .i64 0,.int .i64 0,.slice none 0 0] 77)=d:=⟨_,rfl⟩;have E:Ext w d:=by rw [←b];exact Ea
 have a:RowZ d w.heap.size #[.int .u8 0,.int .i64 0,.int .u8 0,.int .i64 0,.int .u8 0,.int .u8 0,.int .i64 0,.int .i64 0,.int .i64 0,.int .i64 0,.slice none 0 0]:=by rw [←b];exact RowZ.new _ _ _
 rw [b];clear b;have o:=Xh (l.out _ (n.out.ext E))
 go_upto_region 5 with(go_at_call 93;(refine o.out.mono ?_);rintro e f ⟨rfl,i⟩)
 obtain⟨j,b⟩: ∃j,Qe (f.alloc (.cells #[.int .u8 0,.int .u16 0,.int .u16 0,.int .u8 0,.int .u8 0,.int .u32 0,.int .u32 0,.slice none 0 0,.slice none 0 0] 132)) f.heap.size 0 #[.int .u8 0,.int .u16 0,.int .u16 0,.int .u8 0,.int .u8 0,.int .u32 0,.int .u32 0,.slice none 0 0,.slice none 0 0]=j:=⟨_,rfl⟩;have g:Ext f j:=by rw [←b];exact Mv.ext_of Ea (Mv.sa (C:=fun k=>k=f.heap.size) _ rfl (Mv.refl _ _)) (fun k e=>by omega)
 rw [b];clear b;have E:=(E.tr i).tr g;have a:=(a.ext i).ext g;have u:=a.r;have v:=a.z;have q:=Xh (And.intro E a);clear E a i g;go_wp2;go_step3;refine⟨rfl,?_⟩;go_wp2;rw [Exit.noGoto_ret];obtain⟨E,a⟩:=q.out;exact bodyPost_ret (Qbt rfl ((a.all #[.int .u8 0,.int .i64 0,.int .u8 0,.int .i64 0,.int .u8 0,.int .u8 0,.int .i64 0,.int .i64 0,.int .i64 0,.int .i64 0,.slice none 0 0] rfl).r) rfl) rfl ⟨rfl,Mv.ext_of E (Mv.sa (C:=fun k=>k=w.heap.size) _ rfl (Mv.refl _ _)) (fun k e=>by omega)⟩
theorem Yo(hr:ByR bs):ByR (ipH bs).op∧ByR (ipH bs).pl:=⟨fun z hz=>hr z (List.mem_of_mem_take (List.mem_of_mem_drop hz)),fun z hz=>hr z (List.mem_of_mem_drop hz)⟩
theorem Qcz:(ipH bs).op.length≤bs.length∧(ipH bs).pl.length≤bs.length:=by
 constructor
 ·show((bs.take (ipN bs)).drop 20).length≤_;rw [List.length_drop,List.length_take];omega
 ·show(bs.drop (ipN bs)).length≤_;rw [List.length_drop];omega
theorem Qna(h:takeE bs≠0):Yh bs=QV:=by
 unfold Yh;refine if_neg fun e=>h ?_;unfold takeE;rw [if_neg Om,if_neg Om,if_pos e.2]
theorem Qix(bs:List Int)(p:Option Addr)(c:Nat)(w:World)(hs:SlB w p bs)(hr:ByR bs)(hl:bs.length≤1000)(hlc:bs.length≤c)(hw:Zd bs=0)(ht:takeE (ipH bs).op≠0):
  Cr 40 #[.slice p bs.length c] w (.tuple #[.agg #[.int .u8 0,.int .i64 0,.int .u8 0,.int .i64 0,.int .u8 0,.int .u8 0,.int .i64 0,.int .i64 0,.int .i64 0,.int .i64 0,.slice none 0 0],.int .u8 13]):=by
 have S:=Xh hs
 have u:=Xh (show ∀W,SlB W p bs→Calls Tryz.prog 93 #[.slice p bs.length c] W fun e w'=> ∃v x,e= .returned (.tuple #[.agg #[.int .u8 (ipH bs).sv,.int .u16 (ipH bs).nu,.int .u16 (ipH bs).fl,.int .u8 (ipH bs).ho,.int .u8 (ipH bs).pr,.int .u32 (ipH bs).sr,.int .u32 (ipH bs).ds,v,x],.int .u8 0])∧Ext W w'∧OB w' W.heap.size v (ipH bs).op∧OB w' W.heap.size x (ipH bs).pl from fun W s=>(Yu p bs c W s hr hl hlc).mono fun e w' h=>by
  cases h with
  |no h _=>exact absurd hw h
  |yes h e l t=>exact⟨_,_,rfl,e,l,t⟩)
 have o:=Xh (fun f g W (s:SlB W f (ipH bs).op) (B:(ipH bs).op.length≤g) (hbw: ∀b off,f=some ⟨b,off,none⟩→b<W.heap.size)=>by
  have:=Qbr f (ipH bs).op g W s (Yo hr).1 (Xt Qcz.1 hl) B hbw;rw [Qna ht,Qcu]at this
  exact this)
 obtain⟨H,L⟩: ∃H,ipH bs=H:=⟨_,rfl⟩;rw [L]at u o ht;obtain⟨y,M⟩: ∃y,takeE H.op=y:=⟨_,rfl⟩;rw [M]at o ht;have X:(y !=0)=true:=by simp [ht]
 clear hs hr hl hlc hw M ht L
 go_enter Tryz.func40,Tryz.ntmps40
 go_wp2;refine Qp 0 rfl ?_;obtain⟨q,d⟩: ∃q,w.alloc (.cells #[.int .u8 0,.int .i64 0,.int .u8 0,.int .i64 0,.int .u8 0,.int .u8 0,.int .i64 0,.int .i64 0,.int .i64 0,.int .i64 0,.slice none 0 0] 77)=q:=⟨_,rfl⟩;have E:Ext w q:=by rw [←d];exact Ea
 have a:RowZ q w.heap.size #[.int .u8 0,.int .i64 0,.int .u8 0,.int .i64 0,.int .u8 0,.int .u8 0,.int .i64 0,.int .i64 0,.int .i64 0,.int .i64 0,.slice none 0 0]:=by rw [←d];exact RowZ.new _ _ _
 rw [d];clear d;have D:=Xh (u.out _ (S.out.ext E))
 go_upto_region 5 with(go_at_call 93;(refine D.out.mono ?_);rintro e j ⟨v,x,rfl,A,l,t⟩;obtain⟨f,g,rfl,B,N⟩:=l.slb;obtain⟨O,P,rfl,Y,V⟩:=t.slb)
 obtain⟨m,d⟩: ∃m,Qe (j.alloc (.cells #[.int .u8 0,.int .u16 0,.int .u16 0,.int .u8 0,.int .u8 0,.int .u32 0,.int .u32 0,.slice none 0 0,.slice none 0 0] 132)) j.heap.size 0 #[.int .u8 H.sv,.int .u16 H.nu,.int .u16 H.fl,.int .u8 H.ho,.int .u8 H.pr,.int .u32 H.sr,.int .u32 H.ds,.slice f H.op.length g,.slice O H.pl.length P]=m:=⟨_,rfl⟩;have i:Ext j m:=by rw [←d];exact Mv.ext_of Ea (Mv.sa (C:=fun k=>k=j.heap.size) _ rfl (Mv.refl _ _)) (fun k e=>by omega)
 have F:RowZ m j.heap.size #[.int .u8 H.sv,.int .u16 H.nu,.int .u16 H.fl,.int .u8 H.ho,.int .u8 H.pr,.int .u32 H.sr,.int .u32 H.ds,.slice f H.op.length g,.slice O H.pl.length P]:=by rw [←d];exact(RowZ.new _ _ _).all _ rfl
 rw [d];clear d;have E:=(E.tr A).tr i;have a:=(a.ext A).ext i;have G:=Xh (o.out f g m (N.ext i) B (fun b off e=>by subst e;exact Xl (QlV l b rfl) i.size));have T:=F.cell 7 (by show 7<9;omega);clear D A i l t N V F o u
 go_upto_region 7 with(go_at_call 94;(refine G.out.mono ?_);rintro e Q ⟨rfl,n⟩;have I:=(a.ext n).r;have J:=(a.ext n).z)
 obtain⟨R,d⟩: ∃W,Qe Q w.heap.size 4 #[.int .u8 QV.ki,.int .u8 QV.bu,.int .i64 QV.cu,.int .i64 QV.pv,.int .i64 QV.ge,.int .i64 QV.ti]=W:=⟨_,rfl⟩;have K:Mv (fun k=>k=w.heap.size) Q R:=by rw [←d];exact Mv.sa _ rfl (Mv.refl _ _)
 have E:=Mv.ext_of (E.tr n) K (fun k e=>by omega);have a:=a.ext n;have a:RowZ R w.heap.size #[.int .u8 0,.int .i64 0,.int .u8 0,.int .i64 0,.int .u8 0,.int .u8 0,.int .i64 0,.int .i64 0,.int .i64 0,.int .i64 0,.slice none 0 0]:=by rw [←d,Qg8];exact((((((a.set 4 _).set 5 _).set 6 _).set 7 _).set 8 _).set 9 _)
 rw [d];clear d K n I J T G;have I:=a.r;have J:=a.z;have U:=Xh (And.intro E a);clear E a;go_wp2;go_step3;refine⟨rfl,?_⟩;go_wp2;rw [Exit.noGoto_ret];obtain⟨E,a⟩:=U.out;exact bodyPost_ret (Qbt rfl ((a.all #[.int .u8 0,.int .i64 0,.int .u8 0,.int .i64 0,.int .u8 0,.int .u8 0,.int .i64 0,.int .i64 0,.int .i64 0,.int .i64 0,.slice none 0 0] rfl).r) rfl) rfl ⟨rfl,Mv.ext_of E (Mv.sa (C:=fun k=>k=w.heap.size) _ rfl (Mv.refl _ _)) (fun k e=>by omega)⟩
theorem Qg9(bs:List Int)(p:Option Addr)(c:Nat)(w:World)(hs:SlB w p bs)(hr:ByR bs)(hl:bs.length≤1000)(hlc:bs.length≤c)(hw:Zd bs=0)(ht:takeE (ipH bs).op=0)(hn: ¬((Yi (ipH bs).sr).isSome=true∧(Yi (ipH bs).ds).isSome=true)):
  Cr 40 #[.slice p bs.length c] w (.tuple #[.agg #[.int .u8 0,.int .i64 0,.int .u8 0,.int .i64 0,.int .u8 0,.int .u8 0,.int .i64 0,.int .i64 0,.int .i64 0,.int .i64 0,.slice none 0 0],.int .u8 13]):=by
 have HS:=Xh hs
 have L:=Xh (show ∀W,SlB W p bs→Calls Tryz.prog 93 #[.slice p bs.length c] W fun e w'=> ∃O P,e= .returned (.tuple #[.agg #[.int .u8 (ipH bs).sv,.int .u16 (ipH bs).nu,.int .u16 (ipH bs).fl,.int .u8 (ipH bs).ho,.int .u8 (ipH bs).pr,.int .u32 (ipH bs).sr,.int .u32 (ipH bs).ds,O,P],.int .u8 0])∧Ext W w'∧OB w' W.heap.size O (ipH bs).op∧OB w' W.heap.size P (ipH bs).pl from fun W s=>(Yu p bs c W s hr hl hlc).mono fun e w' h=>by
  cases h with
  |no h _=>exact absurd hw h
  |yes h e A K=>exact⟨_,_,rfl,e,A,K⟩)
 have D:=Xh (fun j v W (s:SlB W j (ipH bs).op) (Q:(ipH bs).op.length≤v) (hbw: ∀b off,j=some ⟨b,off,none⟩→b<W.heap.size)=>by
  have:=Qbr j (ipH bs).op v W s (Yo hr).1 (Xt Qcz.1 hl) Q hbw;rw [ht,Qcu]at this
  exact this)
 obtain⟨H,U⟩: ∃H,ipH bs=H:=⟨_,rfl⟩;rw [U]at L D hn;obtain⟨o,V⟩: ∃o,Yh H.op=o:=⟨_,rfl⟩;rw [V]at D;obtain⟨t,X⟩: ∃q,(Yi H.sr).getD (0,0)=q:=⟨_,rfl⟩;obtain⟨I,Y⟩: ∃q,(Yi H.ds).getD (0,0)=q:=⟨_,rfl⟩;have F:=Xh (fun W=>J6 H.sr W);have G:=Xh (fun W=>J6 H.ds W);rw [X]at F;rw [Y]at G;obtain⟨N,Z⟩: ∃k,(Yi H.sr).isSome=k:=⟨_,rfl⟩;obtain⟨k2,a0⟩: ∃k,(Yi H.ds).isSome=k:=⟨_,rfl⟩;rw [Z]at F hn;rw [a0]at G hn;have HK:=Xh hn;unfold noC at F G;clear hs hr hl hlc hw ht U V X Y Z a0 hn
 go_enter Tryz.func40,Tryz.ntmps40
 go_wp2;refine Qp 0 rfl ?_;obtain⟨y,d⟩: ∃y,w.alloc (.cells #[.int .u8 0,.int .i64 0,.int .u8 0,.int .i64 0,.int .u8 0,.int .u8 0,.int .i64 0,.int .i64 0,.int .i64 0,.int .i64 0,.slice none 0 0] 77)=y:=⟨_,rfl⟩;have E:Ext w y:=by rw [←d];exact Ea
 have a:RowZ y w.heap.size #[.int .u8 0,.int .i64 0,.int .u8 0,.int .i64 0,.int .u8 0,.int .u8 0,.int .i64 0,.int .i64 0,.int .i64 0,.int .i64 0,.slice none 0 0]:=by rw [←d];exact RowZ.new _ _ _
 rw [d];clear d;have R:=Xh (L.out _ (HS.out.ext E))
 go_upto_region 5 with(go_at_call 93;(refine R.out.mono ?_);rintro e u ⟨O,P,rfl,J,A,K⟩;obtain⟨j,v,rfl,Q,so⟩:=A.slb;obtain⟨pp,cp,rfl,a5,sp⟩:=K.slb)
 obtain⟨B,d⟩: ∃B,Qe (u.alloc (.cells #[.int .u8 0,.int .u16 0,.int .u16 0,.int .u8 0,.int .u8 0,.int .u32 0,.int .u32 0,.slice none 0 0,.slice none 0 0] 132)) u.heap.size 0 #[.int .u8 H.sv,.int .u16 H.nu,.int .u16 H.fl,.int .u8 H.ho,.int .u8 H.pr,.int .u32 H.sr,.int .u32 H.ds,.slice j H.op.length v,.slice pp H.pl.length cp]=B:=⟨_,rfl⟩;have x:Ext u B:=by rw [←d];exact Mv.ext_of Ea (Mv.sa (C:=fun k=>k=u.heap.size) _ rfl (Mv.refl _ _)) (fun k e=>by omega)
 have i:RowZ B u.heap.size #[.int .u8 H.sv,.int .u16 H.nu,.int .u16 H.fl,.int .u8 H.ho,.int .u8 H.pr,.int .u32 H.sr,.int .u32 H.ds,.slice j H.op.length v,.slice pp H.pl.length cp]:=by rw [←d];exact(RowZ.new _ _ _).all _ rfl
 rw [d];clear d;have a1:=a.l;have a2:=J.size;have E:=(E.tr J).tr x;have a:=(a.ext J).ext x;have S:=Xh (D.out j v B (so.ext x) Q (fun b off e=>by subst e;exact Xl (QlV A b rfl) x.size));have c7:=i.cell 7 (by show 7<9;omega);have a4:w.heap.size<u.heap.size:=Xl (show w.heap.size<y.heap.size from a1) a2;clear R J x A K so sp D L
 go_upto_region 7 with(go_at_call 94;(refine S.out.mono ?_);rintro e w4 ⟨rfl,f⟩;have m:=(a.ext f).r;have n:=(a.ext f).z)
 obtain⟨W5,d⟩: ∃W,Qe w4 w.heap.size 4 #[.int .u8 o.ki,.int .u8 o.bu,.int .i64 o.cu,.int .i64 o.pv,.int .i64 o.ge,.int .i64 o.ti]=W:=⟨_,rfl⟩;have g:Mv (fun k=>k=w.heap.size) w4 W5:=by rw [←d];exact Mv.sa _ rfl (Mv.refl _ _)
 have E:=Mv.ext_of (E.tr f) g (fun k e=>by omega);have i:=(i.ext f).mv g Om;have a:=a.ext f;have a:RowZ W5 w.heap.size #[.int .u8 0,.int .i64 0,.int .u8 0,.int .i64 0,.int .u8 o.ki,.int .u8 o.bu,.int .i64 o.cu,.int .i64 o.pv,.int .i64 o.ge,.int .i64 o.ti,.slice none 0 0]:=by rw [←d,Qg8];exact((((((a.set 4 _).set 5 _).set 6 _).set 7 _).set 8 _).set 9 _)
 rw [d];clear d g f m n c7 S;have M:=i.cell 5 (by show 5<9;omega)
 go_upto_region 9 with(go_at_call 95;(refine(F.out _).mono ?_);rintro e w6 ⟨rfl,f⟩;have m:=(a.ext f).r;have n:=(a.ext f).z)
 obtain⟨W7,d⟩: ∃W,Qe w6 w.heap.size 0 #[.int .u8 t.1,.int .i64 t.2]=W:=⟨_,rfl⟩;have g:Mv (fun k=>k=w.heap.size) w6 W7:=by rw [←d];exact Mv.sa _ rfl (Mv.refl _ _)
 have E:=Mv.ext_of (E.tr f) g (fun k e=>by omega);have i:=(i.ext f).mv g Om;have a:=a.ext f;have a:RowZ W7 w.heap.size #[.int .u8 t.1,.int .i64 t.2,.int .u8 0,.int .i64 0,.int .u8 o.ki,.int .u8 o.bu,.int .i64 o.cu,.int .i64 o.pv,.int .i64 o.ge,.int .i64 o.ti,.slice none 0 0]:=by rw [←d,Qda];exact((a.set 0 _).set 1 _)
 rw [d];clear d g f m n M;have M:=i.cell 6 (by show 6<9;omega)
 go_upto_region 10 with(go_at_call 95;(refine(G.out _).mono ?_);rintro e w8 ⟨rfl,f⟩;have m:=(a.ext f).r;have n:=(a.ext f).z)
 obtain⟨W9,d⟩: ∃W,Qe w8 w.heap.size 2 #[.int .u8 I.1,.int .i64 I.2]=W:=⟨_,rfl⟩;have g:Mv (fun k=>k=w.heap.size) w8 W9:=by rw [←d];exact Mv.sa _ rfl (Mv.refl _ _)
 have E:=Mv.ext_of (E.tr f) g (fun k e=>by omega);have i:=(i.ext f).mv g Om;have a:=a.ext f;have a:RowZ W9 w.heap.size #[.int .u8 t.1,.int .i64 t.2,.int .u8 I.1,.int .i64 I.2,.int .u8 o.ki,.int .u8 o.bu,.int .i64 o.cu,.int .i64 o.pv,.int .i64 o.ge,.int .i64 o.ti,.slice none 0 0]:=by rw [←d,Qda];exact((a.set 2 _).set 3 _)
 rw [d];clear d g f m n M;have m:=a.r;have n:=a.z;have T:=Xh (And.intro E a);clear E a i;have a3:N=false∨(N=true∧k2=false):=by have:=HK.out;cases N<;>cases k2<;>simp_all
 rcases a3 with rfl|⟨rfl,rfl⟩
 ·go_wp2;go_step3;refine⟨rfl,?_⟩;go_wp2;rw [Exit.noGoto_ret];obtain⟨E,a⟩:=T.out;exact bodyPost_ret (Qbt rfl ((a.all #[.int .u8 0,.int .i64 0,.int .u8 0,.int .i64 0,.int .u8 0,.int .u8 0,.int .i64 0,.int .i64 0,.int .i64 0,.int .i64 0,.slice none 0 0] rfl).r) rfl) rfl ⟨rfl,Mv.ext_of E (Mv.sa (C:=fun k=>k=w.heap.size) _ rfl (Mv.refl _ _)) (fun k e=>by omega)⟩
 ·go_wp2;go_step3;refine⟨rfl,?_⟩;go_wp2;rw [Exit.noGoto_ret];obtain⟨E,a⟩:=T.out;exact bodyPost_ret (Qbt rfl ((a.all #[.int .u8 0,.int .i64 0,.int .u8 0,.int .i64 0,.int .u8 0,.int .u8 0,.int .i64 0,.int .i64 0,.int .i64 0,.int .i64 0,.slice none 0 0] rfl).r) rfl) rfl ⟨rfl,Mv.ext_of E (Mv.sa (C:=fun k=>k=w.heap.size) _ rfl (Mv.refl _ _)) (fun k e=>by omega)⟩
theorem Qys{sr ds:Int}{op pl:List Int}(h1:ByR op)(h2:ByR pl):ByR (ipB sr ds op pl):=by
 have b:ByR (ipA sr ds pl.length op):=fun z a=>by
  rcases List.mem_append.1 a with h|h
  ·exact QgP _ z h
  ·exact h1 z h
 intro z a;rcases List.mem_append.1 a with h|h
 ·exact((b.set 10 _ Om).set 11 _ Om) z h
 ·exact h2 z h
theorem Qj5(fr tn:Int×Int)(o:Opt)(pl bs:List Int)(p:Option Addr)(c:Nat)(w:World)(hs:SlB w p bs)(hr:ByR bs)(hl:bs.length≤1000)(hlc:bs.length≤c)
  (hw:Zd bs=0)(hsr:(ipH bs).sr=QD fr)(hds:(ipH bs).ds=QD tn)(hop:(ipH bs).op.length=16)(hor:ByR (ipH bs).op)(hte:takeE (ipH bs).op=0)(hto:Yh (ipH bs).op=o)(hpl:(ipH bs).pl=pl)(hpr:ByR pl)(hp1:pl.length≤1000)
  (hfr:fr∈Qx)(htn:tn∈Qx)(h0:0≤o.ki∧o.ki<256)(h1:0≤o.bu∧o.bu<256)(hok:ZO o=true)(hbs:ipB (QD fr) (QD tn) (Ym o) pl≠bs):
  Cr 40 #[.slice p bs.length c] w (.tuple #[.agg #[.int .u8 0,.int .i64 0,.int .u8 0,.int .i64 0,.int .u8 0,.int .u8 0,.int .i64 0,.int .i64 0,.int .i64 0,.int .i64 0,.slice none 0 0],.int .u8 13]):=by
 have HS:=Xh hs;have u:=Xh (And.intro hr (And.intro hl (And.intro hlc (And.intro hw (And.intro hsr (And.intro hds (And.intro hop (And.intro hor (And.intro hte (And.intro hto (And.intro hpl (And.intro hpr (And.intro hp1 hbs)))))))))))));have U:=Xh (And.intro hfr (And.intro htn (And.intro h0 (And.intro h1 hok))))
 have a2:=Xh (show ∀W,SlB W p bs→Calls Tryz.prog 93 #[.slice p bs.length c] W fun e w'=> ∃vo vp,e= .returned (.tuple #[.agg #[.int .u8 (ipH bs).sv,.int .u16 (ipH bs).nu,.int .u16 (ipH bs).fl,.int .u8 (ipH bs).ho,.int .u8 (ipH bs).pr,.int .u32 (QD fr),.int .u32 (QD tn),vo,vp],.int .u8 0])∧Ext W w'∧OB w' W.heap.size vo (ipH bs).op∧OB w' W.heap.size vp pl from fun W s=>(Yu p bs c W s hr hl hlc).mono fun e w' h=>by
  cases h with
  |no h _=>exact absurd hw h
  |yes h e N t=>rw [hpl]at t;exact⟨_,_,by rw [←hsr,←hds];rfl,e,N,t⟩)
 obtain⟨H,hH⟩: ∃H,ipH bs=H:=⟨_,rfl⟩;rw [hH]at a2 u;clear hs hr hl hlc hw hsr hds hop hor hte hto hpl hpr hp1 hbs hfr htn h0 h1 hok hH
 go_enter Tryz.func40,Tryz.ntmps40
 go_wp2;refine Qp 0 rfl ?_;obtain⟨n,d⟩: ∃n,w.alloc (.cells #[.int .u8 0,.int .i64 0,.int .u8 0,.int .i64 0,.int .u8 0,.int .u8 0,.int .i64 0,.int .i64 0,.int .i64 0,.int .i64 0,.slice none 0 0] 77)=n:=⟨_,rfl⟩;have E:Ext w n:=by rw [←d];exact Ea
 have a:RowZ n w.heap.size #[.int .u8 0,.int .i64 0,.int .u8 0,.int .i64 0,.int .u8 0,.int .u8 0,.int .i64 0,.int .i64 0,.int .i64 0,.int .i64 0,.slice none 0 0]:=by rw [←d];exact RowZ.new _ _ _
 rw [d];clear d;obtain⟨i,e2⟩: ∃B,w.heap.size=B:=⟨_,rfl⟩;rw [e2]at a⊢;have s0:=HS.out.ext E;have a3:=Xh (a2.out _ s0)
 go_upto_region 5 with(go_at_call 93;(refine a3.out.mono ?_);rintro e y ⟨vo,vp,rfl,R,N,t⟩;obtain⟨O,S,rfl,b4,L⟩:=N.slb;obtain⟨D,G,rfl,b5,m⟩:=t.slb)
 have hz:n.heap.size≤y.heap.size:=R.size;obtain⟨F,d⟩: ∃F,Qe (y.alloc (.cells #[.int .u8 0,.int .u16 0,.int .u16 0,.int .u8 0,.int .u8 0,.int .u32 0,.int .u32 0,.slice none 0 0,.slice none 0 0] 132)) y.heap.size 0 #[.int .u8 H.sv,.int .u16 H.nu,.int .u16 H.fl,.int .u8 H.ho,.int .u8 H.pr,.int .u32 (QD fr),.int .u32 (QD tn),.slice O H.op.length S,.slice D pl.length G]=F:=⟨_,rfl⟩;have J:Ext y F:=by rw [←d];exact Mv.ext_of Ea (Mv.sa (C:=fun k=>k=y.heap.size) _ rfl (Mv.refl _ _)) (fun k e=>by omega)
 have j:RowZ F y.heap.size #[.int .u8 H.sv,.int .u16 H.nu,.int .u16 H.fl,.int .u8 H.ho,.int .u8 H.pr,.int .u32 (QD fr),.int .u32 (QD tn),.slice O H.op.length S,.slice D pl.length G]:=by rw [←d];exact(RowZ.new _ _ _).all _ rfl
 rw [d];clear d;obtain⟨B8,e8⟩: ∃B,y.heap.size=B:=⟨_,rfl⟩;rw [e8]at j⊢;have b6:i<B8:=by have:=a.l;unfold Lt at this;omega
 have a6: ∀b off,O=some ⟨b,off,none⟩→n.heap.size≤b:=fun b off e=>by subst e;exact Qi N b rfl
 have K: ∀b off,D=some ⟨b,off,none⟩→n.heap.size≤b∧b<B8:=fun b off e=>by
  subst e;refine⟨Qi t b rfl,?_⟩;have:=QlV t b rfl;omega
 have a7:=QlW t;have b7:i<n.heap.size:=a.l;have E:=(E.tr R).tr J;have a:=(a.ext R).ext J;have L:=L.ext J;have m:=m.ext J
 have a4:=Xh (show Calls Tryz.prog 94 #[.slice O H.op.length S] F fun e w'=>e= .returned (.tuple #[.agg #[.int .u8 o.ki,.int .u8 o.bu,.int .i64 o.cu,.int .i64 o.pv,.int .i64 o.ge,.int .i64 o.ti],.int .i64 0])∧Ext F w' from by
  obtain⟨hr,hl,hlc,hw,hsr,hds,hop,hor,hte,hto,hpl,hpr,hp1,hbs⟩:=u.out
  have:=Qbr O H.op S F L hor Om b4 (fun b off e=>by
   subst e;obtain⟨b',c2,h,hb,-⟩:=L 0 Om
   cases h
   exact hb)
  rw [hte,hto,Qcu]at this
  exact this)
 have V:=Xh (fun(q:Int×Int) (hq:q∈Qx)=>(show ∀W,Calls Tryz.prog 95 #[.int .u32 (QD q)] W fun e w'=>e= .returned (.tuple #[.agg #[.int .u8 q.1,.int .i64 q.2],.bool true])∧Ext W w' from fun W=>by
  have:=J6 (QD q) W;rw [Qb7 hq rfl]at this
  exact this))
 have a8:=Xh (V.out fr U.out.1);have a9:=Xh (V.out tn U.out.2.1);have c7:=j.cell 7 (by show 7<9;omega);clear V N t a3 s0 R J L a6
 go_upto_region 7 with(go_at_call 94;(refine a4.out.mono ?_);rintro e w4 ⟨rfl,f⟩;have x:=(a.ext f).r;have M:=(a.ext f).z)
 obtain⟨W5,d⟩: ∃W,Qe w4 i 4 #[.int .u8 o.ki,.int .u8 o.bu,.int .i64 o.cu,.int .i64 o.pv,.int .i64 o.ge,.int .i64 o.ti]=W:=⟨_,rfl⟩;have g:Mv (fun k=>k=i) w4 W5:=by rw [←d];exact Mv.sa _ rfl (Mv.refl _ _)
 have E:=Mv.ext_of (E.tr f) g (fun k e=>by omega);have j:=(j.ext f).mv g Om;have m:=(m.ext f).mvn g (fun b off e=>by have:=K b off e;omega);have a:=a.ext f;have a:RowZ W5 i #[.int .u8 0,.int .i64 0,.int .u8 0,.int .i64 0,.int .u8 o.ki,.int .u8 o.bu,.int .i64 o.cu,.int .i64 o.pv,.int .i64 o.ge,.int .i64 o.ti,.slice none 0 0]:=by rw [←d,Qg8];exact((((((a.set 4 _).set 5 _).set 6 _).set 7 _).set 8 _).set 9 _)
 rw [d];clear d g f x M c7 a4;have X:=j.cell 5 (by show 5<9;omega)
 go_upto_region 9 with(go_at_call 95;(refine(a8.out _).mono ?_);rintro e w6 ⟨rfl,f⟩;have x:=(a.ext f).r;have M:=(a.ext f).z)
 obtain⟨W7,d⟩: ∃W,Qe w6 i 0 #[.int .u8 fr.1,.int .i64 fr.2]=W:=⟨_,rfl⟩;have g:Mv (fun k=>k=i) w6 W7:=by rw [←d];exact Mv.sa _ rfl (Mv.refl _ _)
 have E:=Mv.ext_of (E.tr f) g (fun k e=>by omega);have j:=(j.ext f).mv g Om;have m:=(m.ext f).mvn g (fun b off e=>by have:=K b off e;omega);have a:=a.ext f;have a:RowZ W7 i #[.int .u8 fr.1,.int .i64 fr.2,.int .u8 0,.int .i64 0,.int .u8 o.ki,.int .u8 o.bu,.int .i64 o.cu,.int .i64 o.pv,.int .i64 o.ge,.int .i64 o.ti,.slice none 0 0]:=by rw [←d,Qda];exact((a.set 0 _).set 1 _)
 rw [d];clear d g f x M X;have X:=j.cell 6 (by show 6<9;omega)
 go_upto_region 10 with(go_at_call 95;(refine(a9.out _).mono ?_);rintro e w8 ⟨rfl,f⟩;have x:=(a.ext f).r;have M:=(a.ext f).z)
 obtain⟨T,d⟩: ∃W,Qe w8 i 2 #[.int .u8 tn.1,.int .i64 tn.2]=W:=⟨_,rfl⟩;have g:Mv (fun k=>k=i) w8 T:=by rw [←d];exact Mv.sa _ rfl (Mv.refl _ _)
 have E:=Mv.ext_of (E.tr f) g (fun k e=>by omega);have j:=(j.ext f).mv g Om;have m:=(m.ext f).mvn g (fun b off e=>by have:=K b off e;omega);have a:=a.ext f;have a:RowZ T i #[.int .u8 fr.1,.int .i64 fr.2,.int .u8 tn.1,.int .i64 tn.2,.int .u8 o.ki,.int .u8 o.bu,.int .i64 o.cu,.int .i64 o.pv,.int .i64 o.ge,.int .i64 o.ti,.slice none 0 0]:=by rw [←d,Qda];exact((a.set 2 _).set 3 _)
 rw [d];clear d g f x M X;have c8:=j.cell 8 (by show 8<9;omega);have b0:=a.cell 10 (by show 10<11;omega);have b1:=a.frz 10
 go_upto_region 12 with(fail)
 obtain⟨I,d⟩: ∃W,World.setCell T ⟨i,10,none⟩ (.slice D pl.length G)=W:=⟨_,rfl⟩;have g:Mv (fun k=>k=i) T I:=by rw [←d];exact Mv.st _ (.inl rfl) (Mv.refl _ _)
 have E:=Mv.ext_of E g (fun k e=>by omega);have m:=m.mvn g (fun b off e=>by have:=K b off e;omega);have a:RowZ I i #[.int .u8 fr.1,.int .i64 fr.2,.int .u8 tn.1,.int .i64 tn.2,.int .u8 o.ki,.int .u8 o.bu,.int .i64 o.cu,.int .i64 o.pv,.int .i64 o.ge,.int .i64 o.ti,.slice D pl.length G]:=by rw [←d];exact a.set 10 _
 have b8:B8<I.heap.size:=Xl j.l g.size;rw [d];clear d g c8 b0 b1 j;have x:=a.r
 have a5:=Xh (show Calls Tryz.prog 96 #[.agg #[.int .u8 fr.1,.int .i64 fr.2,.int .u8 tn.1,.int .i64 tn.2,.int .u8 o.ki,.int .u8 o.bu,.int .i64 o.cu,.int .i64 o.pv,.int .i64 o.ge,.int .i64 o.ti,.slice D pl.length G]] I fun e w'=> ∃v,e= .returned (.tuple #[v,.int .u8 0])∧Z8 I w' v (ipB (QD fr) (QD tn) (Ym o) pl)from by
  obtain⟨hr,hl,hlc,hw,hsr,hds,hop,hor,hte,hto,hpl,hpr,hp1,hbs⟩:=u.out;obtain⟨hfr,htn,h0,h1,hok⟩:=U.out;have:=Qb9 fr tn o pl D pl.length G I hfr htn h0 h1 hok hp1 a7 rfl b5 m hpr (fun b off e=>by have:=K b off e;omega)
  exact this)
 have b2:0<bs.length:=by
  have hw:=u.out.2.2.2.1;unfold Zd at hw
  split at hw
  ·cases hw
  ·omega
 go_upto_region 13 with(go_at_call 96;(refine a5.out.mono ?_);rintro e wB ⟨v8,rfl,⟨a1,g8⟩⟩)
 have Y:ByR (ipB (QD fr) (QD tn) (Ym o) pl):=Qys (QpM o) u.out.2.2.2.2.2.2.2.2.2.2.2.1;have Z:0<(ipB (QD fr) (QD tn) (Ym o) pl).length:=by unfold ipB ipA;simp [Jc];rw [show(YO (QD fr) (QD tn) pl.length).length=10 from rfl];omega
 have a0:ipB (QD fr) (QD tn) (Ym o) pl≠bs:=u.out.2.2.2.2.2.2.2.2.2.2.2.2.2;obtain⟨A,hA⟩: ∃A,ipB (QD fr) (QD tn) (Ym o) pl=A:=⟨_,rfl⟩;rw [hA]at a1 Y Z a0;obtain⟨p8,q8,rfl,-,s8⟩:=a1.slb;have E:=E.tr g8;have a:=a.ext g8
 have b3:=Xh (by
  have:=Qj3 p8 p A bs q8 c wB s8 (HS.out.ext E) Y u.out.1 Z b2;rw [decide_eq_false a0]at this
  exact this)
 have Q:=Xh (And.intro E a);clear E a m s8 a1 a5 x Y Z a0 hA
 go_wp2_with (go_at_call 97;(refine b3.out.mono ?_);rintro e wC ⟨rfl,P⟩;have b9:=(Q.out.2.ext P).r;have c0:=(Q.out.2.ext P).z;have c1:=(Q.out.2.ext P).l)
 go_step3;go_wp2;simp only [Exit.jump];obtain⟨E,a⟩:=Q.out;exact bodyPost_ret (Qbt rfl (((a.ext P).all #[.int .u8 0,.int .i64 0,.int .u8 0,.int .i64 0,.int .u8 0,.int .u8 0,.int .i64 0,.int .i64 0,.int .i64 0,.int .i64 0,.slice none 0 0] rfl).r) rfl) rfl ⟨rfl,Mv.ext_of (E.tr P) (Mv.sa (C:=fun k=>k=i) _ rfl (Mv.refl _ _)) (fun k e=>by omega)⟩
theorem Qiy(h:takeE bs=0):bs.length=16∧Qc7 bs=true:=by
 unfold takeE at h
 split at h
 ·cases h
 ·split at h
  ·cases h
  ·split at h
   ·rename_i h1 h2 h3
    exact⟨Om,h3⟩
   ·cases h
theorem Qiz(hr:ByR bs)(h:takeE bs=0):(0≤(Yh bs).ki∧(Yh bs).ki<256)∧(0≤(Yh bs).bu∧(Yh bs).bu<256)∧ZO (Yh bs)=true:=by
 have b:=Qiy h;have e:Yh bs=Qpi bs:=if_pos b;rw [e];refine⟨QaI hr 2,QaI hr 3,?_⟩;have a:=b.2;unfold Qc7 at a;simp only [Bool.and_eq_true]at a;exact a.2
theorem Qf2{x:Int}{p:Int×Int}(h:Yi x=some p):p∈Qx∧QD p=x:=by
 unfold Yi at h;exact⟨List.mem_of_find?_eq_some h,by simpa using List.find?_some h⟩
def Qdb(bs:List Int):Option ((Int×Int)×(Int×Int)×Opt×List Int):=
 if Zd bs=0∧takeE (ipH bs).op=0 then
  match Yi (ipH bs).sr,Yi (ipH bs).ds with
  |some fr,some tn=>if ipB (QD fr) (QD tn) (Ym (Yh (ipH bs).op)) (ipH bs).pl=bs then some (fr,tn,Yh (ipH bs).op,(ipH bs).pl)else none
  |_,_=>none
 else none
theorem QiA(bs:List Int)(p:Option Addr)(c:Nat)(w:World)(hs:SlB w p bs)(hr:ByR bs)(hl:bs.length≤1000)(hlc:bs.length≤c):
  Calls Tryz.prog 40 #[.slice p bs.length c] w fun e w'=>(Qdb bs=none∧e= .returned (.tuple #[.agg #[.int .u8 0,.int .i64 0,.int .u8 0,.int .i64 0,.int .u8 0,.int .u8 0,.int .i64 0,.int .i64 0,.int .i64 0,.int .i64 0,.slice none 0 0],.int .u8 13])∧Ext w w')∨
   ∃fr tn o pl vp,Qdb bs=some (fr,tn,o,pl)∧e= .returned (.tuple #[.agg (wrV fr tn o vp),.int .u8 0])∧Ext w w'∧SlV w' w.heap.size vp pl:=by
 by_cases b:Zd bs=0
 ·by_cases a:takeE (ipH bs).op=0
  ·have m:=Qiy a;have g:=Qiz (Yo hr).1 a;have n:=Xt (Qcz (bs:=bs)).2 hl
   by_cases i:(Yi (ipH bs).sr).isSome=true∧(Yi (ipH bs).ds).isSome=true
   ·obtain⟨fr,k⟩:=Option.isSome_iff_exists.1 i.1;obtain⟨tn,l⟩:=Option.isSome_iff_exists.1 i.2;obtain⟨r,s⟩:=Qf2 k;obtain⟨t,u⟩:=Qf2 l
    by_cases j:ipB (QD fr) (QD tn) (Ym (Yh (ipH bs).op)) (ipH bs).pl=bs
    ·have h:Qdb bs=some (fr,tn,Yh (ipH bs).op,(ipH bs).pl):=by unfold Qdb;rw [if_pos ⟨b,a⟩,k,l];exact if_pos j
     refine(Qiw fr tn _ _ bs p c w hs hr hl hlc b s.symm u.symm m.1 (Yo hr).1 a rfl rfl (Yo hr).2 n r t g.1 g.2.1 g.2.2 j).mono ?_;rintro e w' ⟨vp,d,f,y⟩;exact .inr ⟨fr,tn,_,_,vp,h,d,f,y⟩
    ·have h:Qdb bs=none:=by unfold Qdb;rw [if_pos ⟨b,a⟩,k,l];exact if_neg j
     refine(Qj5 fr tn _ _ bs p c w hs hr hl hlc b s.symm u.symm m.1 (Yo hr).1 a rfl rfl (Yo hr).2 n r t g.1 g.2.1 g.2.2 j).mono ?_;rintro e w' ⟨d,f⟩;exact .inl ⟨h,d,f⟩
   ·have h:Qdb bs=none:=by
     unfold Qdb;rw [if_pos ⟨b,a⟩]
     cases v:Yi (ipH bs).sr with
     |none=>rfl
     |some q=>cases x:Yi (ipH bs).ds with
      |none=>rfl
      |some q2=>exact absurd ⟨by rw [v];rfl,by rw [x];rfl⟩ i
    refine(Qg9 bs p c w hs hr hl hlc b a i).mono ?_;rintro e w' ⟨d,f⟩;exact .inl ⟨h,d,f⟩
  ·refine(Qix bs p c w hs hr hl hlc b a).mono ?_;rintro e w' ⟨d,f⟩;exact .inl ⟨if_neg (fun e=>a e.2),d,f⟩
 ·refine(Qj4 bs p c w hs hr hl hlc b).mono ?_;rintro e w' ⟨d,f⟩;exact .inl ⟨if_neg (fun e=>b e.1),d,f⟩
theorem QpN(h:RowZ w B cs)(h6:cs.size=2):(loadVar 73 ⟨B,0,none⟩).run Tryz.prog w= .ok (.agg cs) w:=by
 rw [QeO (by rw [h.r,h6];omega),h.r];rw [show cs.extract 0 (0+2)=cs by rw [Nat.zero_add,←h6];simp]
theorem Qdc(x:Int)(w:World):Cr 41 #[.int .i64 x] w (.agg #[.int .u8 2,.int .i64 x]):=by
 go_enter Tryz.func41,Tryz.ntmps41
 go_wp2;have a:RowZ (w.alloc (.cells #[.int .u8 0,.int .i64 0] 73)) w.heap.size #[.int .u8 0,.int .i64 0]:=RowZ.new _ _ _;exact bodyPost_ret (Zv rfl _ _ w.heap.size rfl (QpN (a.all #[.int .u8 2,.int .i64 x] rfl) rfl)) rfl ⟨rfl,Mv.ext_of Ea (Mv.sa (C:=fun k=>k=w.heap.size) _ rfl (Mv.refl _ _)) (fun k e=>by omega)⟩
theorem QpO(id:Int)(v:Value)(w:World)(hv: ∃a m c,v= .slice a m c):Calls Tryz.prog 60 #[.int .i64 id,v] w fun e w'=>e= .returned (.func (.func 138) #[] #[.pointer (some ⟨w.heap.size+1,0,none⟩),.pointer (some ⟨w.heap.size,0,none⟩)])∧w'=(w.alloc (.cells #[.int .i64 id] 3)).alloc (.cells #[v] 25):=by
 obtain⟨a,m,c,rfl⟩:=hv
 go_enter Tryz.func60,Tryz.ntmps60
 go_wp2;go_ret;exact⟨rfl,rfl⟩
structure Ev where
 k:Int
 a:Int
 t:Tu
 deriving DecidableEq
abbrev Ev.v(x:Ev):Value:= .agg #[.int .u8 x.k,.int .i64 x.a,.int .u32 x.t.a,.int .u32 x.t.b,.int .u16 x.t.c,.int .u16 x.t.d]
def SlE(w:World)(p:Option Addr)(xs:List Ev):Prop:= ∀k,(h:k<xs.length)→ ∃b off,p=some ⟨b,off,none⟩∧b<w.heap.size∧w.cell? ⟨b,off+k*6,none⟩=some (.int .u8 xs[k].k)∧w.cell? ⟨b,off+k*6+1,none⟩=some (.int .i64 xs[k].a)∧w.cell? ⟨b,off+k*6+2,none⟩=some (.int .u32 xs[k].t.a)∧w.cell? ⟨b,off+k*6+3,none⟩=some (.int .u32 xs[k].t.b)∧w.cell? ⟨b,off+k*6+4,none⟩=some (.int .u16 xs[k].t.c)∧w.cell? ⟨b,off+k*6+5,none⟩=some (.int .u16 xs[k].t.d)
theorem SlE.ext{w':World}{xs:List Ev}(h:SlE w p xs)(e:Ext w w'):SlE w' p xs:=fun k hk=>by
 obtain⟨b,a,d,c,f,g,i,j,l,m⟩:=h k hk;exact⟨b,a,d,Xl c e.size,(e.cell (p:=⟨b,a+k*6,none⟩) c).trans f,(e.cell (p:=⟨b,a+k*6+1,none⟩) c).trans g,(e.cell (p:=⟨b,a+k*6+2,none⟩) c).trans i,(e.cell (p:=⟨b,a+k*6+3,none⟩) c).trans j,(e.cell (p:=⟨b,a+k*6+4,none⟩) c).trans l,(e.cell (p:=⟨b,a+k*6+5,none⟩) c).trans m⟩
theorem SlE.nil(w:World)(p:Option Addr):SlE w p []:=fun k hk=>by simp at hk
def Ev.cl(x:Ev):List Value:= [.int .u8 x.k,.int .i64 x.a,.int .u32 x.t.a,.int .u32 x.t.b,.int .u16 x.t.c,.int .u16 x.t.d]
def flE(xs:List Ev):List Value:=xs.flatMap Ev.cl
theorem QlX: ∀xs:List Ev,(flE xs).length=xs.length*6
 | []=>rfl
 |x::xs=>by
  show(Ev.cl x++flE xs).length=_;rw [List.length_append,QlX xs,List.length_cons];show 6+_=_;omega
theorem QlY: ∀(xs:List Ev) (k j:Nat) (hk:k<xs.length),j<6→(flE xs)[k*6+j]?=(xs[k]).cl[j]?
 |x::xs,0,j,_,hj=>by
  show(Ev.cl x++flE xs)[0*6+j]?=_;rw [Nat.zero_mul,Nat.zero_add,List.getElem?_append_left (by show j<6;exact hj)];rfl
 |x::xs,k+1,j,hk,hj=>by
  show(Ev.cl x++flE xs)[(k+1)*6+j]?=_;have a:(Ev.cl x).length=6:=rfl;rw [List.getElem?_append_right Om,a,show(k+1)*6+j- 6=k*6+j by omega];exact QlY xs k j (by simpa using hk) hj
theorem QiB(xs:List Ev)(x:Ev):flE (xs++ [x])=flE xs++x.cl:=by unfold flE;simp
theorem QpP:(Tryz.prog.info? 68).map (fun i=>(i.zero,i.size,i.bytes))=some (some (.agg #[.int .u8 0,.int .i64 0,.int .u32 0,.int .u32 0,.int .u16 0,.int .u16 0]),6,32):=Kr
theorem SlE.own{v:Value}{xs:List Ev}(h:w.ownsRow base 68 6 v xs.length (flE xs)): ∃p c,v= .slice p xs.length c∧xs.length≤c∧SlE w p xs:=by
 rcases h.2 with⟨rfl,h0⟩|⟨g,cap,cur,rfl,hg,hgb,h1,h2,h3,h4⟩
 ·have:xs= []:=List.length_eq_zero_iff.1 h0;subst this;exact⟨none,0,rfl,Nat.le_refl _,SlE.nil _ _⟩
 ·refine⟨some ⟨g,0,none⟩,cap,rfl,h1,fun k hk=> ?_⟩;have a: ∀j,j<6→w.cell? ⟨g,0+k*6+j,none⟩=(xs[k]).cl[j]?:=fun j hj=>by
   rw [←QlY xs k j hk hj,←h4,List.getElem?_take_of_lt (by have:=QlX xs;omega)];simp only [World.cell?,hgb];simp
  exact⟨g,0,rfl,(Array.getElem?_eq_some_iff.1 hgb).1,a 0 Om,a 1 Om,a 2 Om,a 3 Om,a 4 Om,a 5 Om⟩
theorem QiC(W:World)(x:Ev)(t:TypeId): ∀j u,x.cl[j]?=some u→(W.alloc (.cells #[.int .u8 x.k,.int .i64 x.a,.int .u32 x.t.a,.int .u32 x.t.b,.int .u16 x.t.c,.int .u16 x.t.d] t)).cell? ((⟨W.heap.size,0,none⟩:Addr).add j)=some u:=by
 intro j u f;have g:j<6:=(List.getElem?_eq_some_iff.1 f).1;have e:(⟨W.heap.size,0,none⟩:Addr).add j=⟨W.heap.size,j,none⟩:=by unfold Addr.add;split<;>simp_all
 rw [e,Qa,Zn,←f];obtain rfl|rfl|rfl|rfl|rfl|rfl:j=0∨j=1∨j=2∨j=3∨j=4∨j=5:=by omega
 all_goals rfl
theorem QpQ(x:Ev): ∀u∈x.cl,u.oneCell'=true:=by
 intro u a;unfold Ev.cl at a;simp only [List.mem_cons,List.not_mem_nil,or_false]at a;rcases a with rfl|rfl|rfl|rfl|rfl|rfl<;>rfl
structure QpR(w w':World)(v:Value)(xs:List Ev):Prop where
 own:w'.ownsRow w.heap.size 68 6 v xs.length (flE xs)
 ext:Ext w w'
def QiD(B base:Nat)(xs:List Ev)(i:Nat)(W:World):Prop:= ∃v,Boxed W B 39 v∧W.ownsRow base 68 6 v i (flE (xs.take i))
theorem QiD.mv{xs:List Ev}{A':World}(h:QiD B base xs i A)(hm:Mv C A A')(hb: ¬C B)(hc: ∀k,base≤k→ ¬C k):QiD B base xs i A':=by
 obtain⟨v,a,b⟩:=h;exact⟨v,Qj a hm hb,Qw b hm hc⟩
theorem QeS(g:Nat)(lb:Array Value)(eg: ∀args w,(callFunc g args).run Tryz.prog w= .ok (.enter g args) w)(xs:List Ev)(w:World)(hlen:xs.length≤1000)
  (hseq: ∀(n:Nat) (U:Nat→Prop) w',Ext w w'→(∀k,U k→w.heap.size≤k)→QcT Fence.wide n Tryz.prog g lb (fun s:Ev=>#[s.v]) (fun _=>False) U xs w'):
  Calls Tryz.prog 137 #[.slice none 0 0,.func (.func g) #[] lb] w fun e W'=> ∃v,e= .returned v∧QpR w W' v xs:=by
 obtain⟨i0,hi,a2,a3,a4⟩:=info_parts QpP;have R:=Xh hseq;have S:=Xh eg;clear hseq eg;refine(callsIn_wide (n:=5)).1 ?_;refine callsIn_of_wp_marks Tryz.func137 rfl trivial ?_ rfl;simp only [Tryz.ntmps137,List.size_toArray,List.length_cons,List.length_nil,Nat.reduceAdd,Nat.reduceSub,Array.replicate_succ,Array.replicate_zero,List.push_toArray,List.append_toArray,List.nil_append,List.cons_append]
 gi_wp2
 have F:=Boxed.new w 39 (.slice none 0 0);obtain⟨f,p⟩: ∃f,w.alloc (.cells #[.slice none 0 0] 39)=f:=⟨_,rfl⟩;have a5:f.heap.size=w.heap.size+1:=by rw [←p];simp
 have G:Ext w f:=by rw [←p];exact Ea
 rw [p]at F⊢;clear p;refine ZI rfl Om (gf:=g) (lb:=lb) rfl trivial S.out (R.out _ (fun k=>k=w.heap.size) f G (fun k e=>by omega))
  (fun k h=>h.elim) (fun k h=>by omega) (fun _=>rfl)
  (fun i W=>QiD w.heap.size (f.heap.size+2) xs i W) (fun _ _=>False)
  (fun i A B h hm=>h.mv hm (fun hh=>by rcases hh with hh|hh|hh;exact hh.elim;omega;omega) (fun k hk hh=>by rcases hh with hh|hh|hh;exact hh.elim;omega;omega))
  (fun _ _ _ h _=>h) ⟨_,F,World.ownsRow_nil _ _ _ _⟩
  (fun s z W=> ∃j,f.heap.size+2≤j∧RowZ W j s.cl.toArray∧z={tmps:=#[.slice none 0 0,.func (.func g) #[] lb,.pointer (some ⟨w.heap.size,0,none⟩),undef,.slice none 0 0,.pointer (some ⟨j,0,none⟩),.func (.func g) #[] lb,s.v,undef,undef,undef,undef,undef],defers:= []})
  (fun s z A B h hm=>by obtain⟨j,h1,h2,h3⟩:=h;exact⟨j,h1,h2.mv hm Om,h3⟩)
  ?assign ?body ?done ?stop
 case assign=>
  intro l i s W K O o hI q y
  gi_wp2
  refine y _ _ (Mv.of_ext Ea) (QiD.mv (C:=fun _=>False) hI (Mv.of_ext Ea) (fun h=>h) (fun _ _ h=>h)) ⟨W.heap.size,O,RowZ.new _ _ _,rfl⟩
 case body=>
  rintro l i s z W hl ⟨r,hr⟩ O o ⟨v,u,D⟩ q ⟨j,a8,m,rfl⟩;have x0:W.cell? ⟨j,0,none⟩=some (.int .u8 s.k):=by rw [Qa,m.r];rfl
  have x1:W.cell? ⟨j,1,none⟩=some (.int .i64 s.a):=by rw [Qa,m.r];rfl
  have x2:W.cell? ⟨j,2,none⟩=some (.int .u32 s.t.a):=by rw [Qa,m.r];rfl
  have x3:W.cell? ⟨j,3,none⟩=some (.int .u32 s.t.b):=by rw [Qa,m.r];rfl
  have x4:W.cell? ⟨j,4,none⟩=some (.int .u16 s.t.c):=by rw [Qa,m.r];rfl
  have x5:W.cell? ⟨j,5,none⟩=some (.int .u16 s.t.d):=by rw [Qa,m.r];rfl
  have xl:=m.l;clear m;have T:i<xs.length:=(List.getElem?_eq_some_iff.1 q).1;have H:xs[i]=s:=(List.getElem?_eq_some_iff.1 q).2;have V:=u.cell;have X:=Xh H;have I:=Xh D;have J:=Xh o;clear H o q hr;have L:xs.take (i+1)=xs.take i++ [s]:=by rw [List.take_succ_eq_append_getElem T,X.out]
  have Y:=Xh L;clear L;have M: ∀r,v.ownBlock=some r→f.heap.size+2≤r:=Qi I.out;have N:=Xh M;clear M
  gi_wp2_with (gi_at_builtin;refine wpListIn_append_own _ rfl _ _ 39 rfl (f.heap.size+2) 68 i0 (.agg #[.int .u8 0,.int .i64 0,.int .u32 0,.int .u32 0,.int .u16 0,.int .u16 0]) 6 32 Tryz.underlying39 hi a2 a3 a4 rfl Dc _ _ _ rfl (I.out.alloc _) ⟨W.heap.size,0,none⟩ 1 1 s.cl rfl rfl (QiC _ _ _) (QpQ s) (by unfold maxLen;omega) Om (by simp;omega) ?_;intro v' P E Q _;have Z:=Xh E;obtain⟨g',a9,rfl⟩:=ownsRow_succ E;have x:Boxed P w.heap.size 39 v:=(u.alloc _).kept Q (fun e=>by have:=N.out _ e.symm;omega);have a6:=x.cell;have a7:=x.frozen;clear E)
  have a0:Mv (fun k=>k=w.heap.size∨f.heap.size+2≤k) W P:=(Mv.al _ (Mv.refl _ _)).trans (Mv.of_grown Q fun r e=> .inl (.inr (N.out r e)));refine⟨Mv.st _ (.inl (.inl rfl)) a0,_,x.set _,?_⟩;rw [Y.out,QiB];exact Qw (C:=fun k=>k=w.heap.size) Z.out (Mv.st _ (.inl rfl) (Mv.refl _ _)) (fun k hk e=>by omega)
 case done=>
  rintro W ⟨v,u,D⟩ o y;have V:=u.cell;have J:=Xh o;clear o
  gi_wp2
  refine⟨by simp,.inl ⟨_,_,rfl,run_takeDeferred y,?_⟩⟩;refine⟨_,results_tmp rfl _ _ _,v,rfl,?_,?_⟩
  ·have:=Qw (C:=fun k=>k=f.heap.size) D (Mv.put W f.heap.size (.deferred none) rfl) (fun k hk e=>by omega);rw [List.take_length]at this;exact QA this Om
  ·have a1:Ext w W:=Mv.ext_of G J.out (fun k h=>by rcases h with h|h;exact h.elim;omega);exact Mv.ext_of a1 (Mv.put (C:=fun k=>k=f.heap.size) _ _ _ rfl) (fun k h=>by omega)
 case stop=>intro _ _ h;exact h.elim
theorem Qha(g:Nat)(lb:Array Value)(eg: ∀args w,(callFunc g args).run Tryz.prog w= .ok (.enter g args) w)(xs:List Ev)(w:World)(hlen:xs.length≤1000)
  (hseq: ∀(n:Nat) (U:Nat→Prop) w',Ext w w'→(∀k,U k→w.heap.size≤k)→QcT Fence.wide n Tryz.prog g lb (fun s:Ev=>#[s.v]) (fun _=>False) U xs w'):
  Calls Tryz.prog 59 #[.func (.func g) #[] lb] w fun e W'=> ∃v,e= .returned v∧QpR w W' v xs:=by
 have a:=Xh (QeS g lb eg xs w hlen hseq);clear hseq eg
 go_enter Tryz.func59,Tryz.ntmps59
 go_wp2_with (go_at_call 137;(refine(a.out).mono ?_);rintro e b ⟨v,rfl,h⟩)
 go_ret;exact⟨v,rfl,h⟩
def ZN(id:Int)(xs:List Co):List Ev:=xs.map fun c=>⟨4,id,c.t⟩
theorem Qhb: ∀args w,(callFunc 138 args).run Tryz.prog w= .ok (.enter 138 args) w:=enters_of Tryz.func138 Kr rfl
theorem Qj6(n:Nat)(id:Int)(xs:List Co)(p:Option Addr)(c:Nat)(w0 w:World)(Bl Bi:Nat)(U:Nat→Prop)(h0:Ext w0 w)(hs:SlC w0 p xs)(hl:xs.length≤1000)(hc:w.cell? ⟨Bl,0,none⟩=some (.slice p xs.length c))(lb:Lt Bl w)(hi:w.cell? ⟨Bi,0,none⟩=some (.int .i64 id))(li:Lt Bi w)(hU: ∀k,U k→w0.heap.size≤k∧k≠Bl∧k≠Bi):
  QcT Fence.wide n Tryz.prog 138 #[.pointer (some ⟨Bl,0,none⟩),.pointer (some ⟨Bi,0,none⟩)] (fun x:Ev=>#[x.v]) (fun _=>False) U (ZN id xs) w:=by
 intro y J Jx W m P Q o R;have HJ:=Xh P;have b5:=Xh Q;have F:=Xh hU;have HS:=Xh hs;clear P Q hU hs;obtain⟨a9,b0,b1,b2,o⟩:=o;have G:=Xh o;clear o;have a0:W.cell? ⟨Bl,0,none⟩=some (.slice p xs.length c):=(m.cell (p:=⟨Bl,0,none⟩) lb).trans hc;have H:W.cell? ⟨Bi,0,none⟩=some (.int .i64 id):=(m.cell (p:=⟨Bi,0,none⟩) li).trans hi;have a1:Lt Bl W:=Xl lb m.size;have I:Lt Bi W:=Xl li m.size;have K:=h0.tr m;refine callsIn_of_wp Tryz.func138 rfl trivial ?_ rfl;simp only [Tryz.ntmps138,List.size_toArray,List.length_cons,List.length_nil,Nat.reduceAdd,Nat.reduceSub,Array.replicate_succ,Array.replicate_zero,List.push_toArray,List.append_toArray,List.nil_append,List.cons_append];refine wpIn_wide.2 ?_;go_wp2
 go_loopw [5,8] (fun _ a wr=> ∃i:Nat,i≤xs.length∧a= .int .i64 i∧J i wr∧Ext w0 wr∧wr.cell? ⟨Bi,0,none⟩=some (.int .i64 id)∧Lt Bi wr) (fun _ a _=>xs.length- (intOf a).toNat)
 case atStart=>exact⟨0,Nat.zero_le _,rfl,R,K,H,I⟩
 case round=>
  clear a0 a1 K R H I;obtain⟨i,b8,rfl,A,B,S,C⟩:=hrel
  by_cases O:i<xs.length
  ·have b6:(i:Int)<xs.length:=by omega
   obtain⟨b,b9,rfl,hb,T,V,X,Y,Z,c5⟩:=(HS.out.ext B) i O;obtain⟨x,D⟩: ∃x,xs[i]=x:=⟨_,rfl⟩;rw [D]at T V X Y Z c5;have b7:Lt b wr:=hb;have L:=Xh (show(ZN id xs)[i]?=some ⟨4,id,x.t⟩by unfold ZN;rw [List.getElem?_map,List.getElem?_eq_getElem O,D];rfl);have HE:=Xh B;have a2:=Xh A;clear D A B
   go_upto_region 3 with(fail)
   obtain⟨f,q⟩: ∃f,wr.alloc (.cells #[.int .u32 x.t.a,.int .u32 x.t.b,.int .u16 x.t.c,.int .u16 x.t.d,.int .i64 x.s,.int .i64 x.l] 66)=f:=⟨_,rfl⟩;have j:Ext wr f:=by rw [←q];exact Ea
   have g:RowZ f wr.heap.size #[.int .u32 x.t.a,.int .u32 x.t.b,.int .u16 x.t.c,.int .u16 x.t.d,.int .i64 x.s,.int .i64 x.l]:=by rw [←q];exact RowZ.new _ _ _
   rw [q];clear q T V X Y Z c5;have d0:=g.cell 0 (by show 0<6;omega);have d1:=g.cell 1 (by show 1<6;omega);have d2:=g.cell 2 (by show 2<6;omega);have d3:=g.cell 3 (by show 3<6;omega);have l1:=g.l;have M:f.cell? ⟨Bi,0,none⟩=some (.int .i64 id):=(j.cell (p:=⟨Bi,0,none⟩) C).trans S;have u:Lt Bi f:=Xl C j.size;have z:=HJ.out _ _ _ a2.out (Mv.of_ext j);have a3:(Instr.yield y #[.agg #[.int .u8 4,.int .i64 id,.int .u32 x.t.a,.int .u32 x.t.b,.int .u16 x.t.c,.int .u16 x.t.d]]).run Tryz.prog f= .ok (.round y a9 (b0 #[.agg #[.int .u8 4,.int .i64 id,.int .u32 x.t.a,.int .u32 x.t.b,.int .u16 x.t.c,.int .u16 x.t.d]]) b1 b2) f:=(G.out i _ f z L.out).1;have N:=Xh (G.out i _ f z L.out).2;have a4:=Xh (HE.out.tr j);clear j g z S C;refine(wpIn_wide (n:=n)).1 ?_
   gi_wp2
   refine⟨(fun h=>by cases h),(N.out).mono ?_⟩;rintro e E ⟨bb,rfl,hP⟩;clear a3 N d0 d1 d2 d3;obtain⟨rfl,b3,r⟩|⟨rfl,b4⟩:=hP
   ·have a5:Ext w0 E:=Mv.ext_of a4.out r (fun k h=>by rcases h with h|h;exact(F.out _ h).1;exact Xt h0.size h);have a6:E.cell? ⟨Bi,0,none⟩=some (.int .i64 id):=by rw [Qa,Qf (r.same Bi u (fun h=>by rcases h with h|h;exact(F.out _ h).2.2 rfl;exact absurd h (by unfold Lt at li;omega))),←Qa];exact M
    have a7:Lt Bi E:=Xl u r.size;clear r M u
    gi_wp2
    go_wp2
    go_roundw
    case rel=>exact⟨i+1,Om,by go_num,b3,a5,a6,a7⟩
    case measure=>simp [intOf];omega
   ·gi_wp2
    go_wp2;exact bodyPost_ret (results_none rfl _ _ _) rfl ⟨⟨_,rfl⟩,.inr b4⟩
  ·obtain rfl:i=xs.length:=by omega
   have a8:=Xh (show(ZN id xs).length=xs.length by unfold ZN;rw [List.length_map]);go_wp2
   go_end0
   exact⟨⟨_,rfl⟩,.inl (by rw [a8.out];exact A)⟩
theorem QpS(id:Int)(p:Option Addr)(xs:List Co)(c B:Nat)(w:World)(hs:SlC w p xs)(hl:xs.length≤1000)(hc:w.cell? ⟨B+1,0,none⟩=some (.slice p xs.length c))(hi:w.cell? ⟨B,0,none⟩=some (.int .i64 id))(l1:Lt (B+1) w):
  Calls Tryz.prog 59 #[.func (.func 138) #[] #[.pointer (some ⟨B+1,0,none⟩),.pointer (some ⟨B,0,none⟩)]] w fun e w'=> ∃v,e= .returned v∧QpR w w' v (ZN id xs):=by
 have a:Lt B w:=by unfold Lt at*;omega
 refine Qha 138 #[.pointer (some ⟨B+1,0,none⟩),.pointer (some ⟨B,0,none⟩)] Qhb (ZN id xs) w (by unfold ZN;rw [List.length_map];exact hl) (fun n U w' hE hU=>Qj6 n id xs p c w w' (B+1) B U hE hs hl ((hE.cell (p:=⟨B+1,0,none⟩) l1).trans hc) (Xl l1 hE.size) ((hE.cell (p:=⟨B,0,none⟩) a).trans hi) (Xl a hE.size) (fun k hk=>⟨hU k hk,fun e=>by have:=hU k hk;unfold Lt at l1;omega,fun e=>by have:=hU k hk;unfold Lt at a;omega⟩))
theorem Qhc:(Tryz.prog.info? 27).map (·.size)=some 67:=Kr
theorem Qnb{b:Nat}(h:o+67≤(Qc w b).size):(Instr.loadAt 27 (.pointer (some ⟨b,o,none⟩))).run Tryz.prog w= .ok (.agg ((Qc w b).extract o (o+67))) w:=by
 have:=run_loadAt_mid w b o 27 ((Qc w b).extract o (o+67)).toList _ (QC w b o (o+67)) Tryz.underlying27 rfl (by rw [Qhc];simp;omega)
 rwa [Array.toArray_toList]at this
theorem Qj7{b:Nat}(h:o+67≤(Qc w b).size):(loadVar 27 ⟨b,o,none⟩).run Tryz.prog w= .ok (.agg ((Qc w b).extract o (o+67))) w:=by
 have:=run_loadVar_mid w b o 27 ((Qc w b).extract o (o+67)).toList _ (QC w b o (o+67)) Tryz.underlying27 rfl (by rw [Qhc];simp;omega)
 rwa [Array.toArray_toList]at this
@[go_sem ↓ high] theorem QcA(ρ:Operand→Value)(dst:Option Tmp)(x:Operand)(ty:TypeId)(pos:String)(after:Array Edge)(g:Option (Nat×Bool))(w:World)
  (hx:ρ x= .pointer (some ⟨Qb (ρ x),Qd (ρ x),none⟩))(h:Fits (Qd (ρ x)) 67 (Qc w (Qb (ρ x)))):
  (execOp ρ ⟨dst,.load 27 x,ty,pos,after,g⟩).run Tryz.prog w= .ok (.value (.agg (QB (Qc w (Qb (ρ x))) (Qd (ρ x)) 67))) w:=by
 unfold Fits at h;generalize a:Qb (ρ x)=B at*;generalize b:Qd (ρ x)=O at*;simp only [execOp,hx,Sem.run_bind,Qnb h,Result.andThen_ok,Sem.run_pure,QB]
@[go_sem ↓ high] theorem Qul(w:World)
  (hx:ρ x= .pointer (some ⟨Qb (ρ x),Qd (ρ x),none⟩))(h:Fits (Qd (ρ x)) 67 (Qc w (Qb (ρ x)))):
  (Oper.semAt l ρ ⟨dst,.load 27 x,ty,pos,after,g⟩).run Tryz.prog w= .ok (.value (.agg (QB (Qc w (Qb (ρ x))) (Qd (ρ x)) 67))) w:=by rw [Oper.semAt_eq _ _ _ (fun c h=>by cases h)];exact QcA ρ dst x ty pos after g w hx h
@[go_sem ↓ high] theorem QbL(ρ:Operand→Value)(dst:Option Tmp)(x y:Operand)(ty:TypeId)(pos:String)(after:Array Edge)(g:Option (Nat×Bool))(w:World)
  (hx:ρ x= .pointer (some ⟨Qb (ρ x),Qd (ρ x),none⟩))(hy:ρ y= .agg (ρ y).cells)(hs:Qn (ρ y).cells 67)(h:Fits (Qd (ρ x)) 67 (Qc w (Qb (ρ x))))(hz:Qs w (Qb (ρ x))=(0,0))(h1:QK (ρ y).cells):
  (execOp ρ ⟨dst,.store 27 x y,ty,pos,after,g⟩).run Tryz.prog w= .ok .skip (Qe w (Qb (ρ x)) (Qd (ρ x)) (ρ y).cells):=by
 unfold Fits at h;unfold Qn at hs;generalize b:Qb (ρ x)=B at*;generalize c:Qd (ρ x)=O at*;generalize d:(ρ y).cells=C at*;have a:(Instr.storeAt 27 (.pointer (some ⟨B,O,none⟩)) (.agg C)).run Tryz.prog w= .ok () (Qe w B O C):=
  run_storeAt_mid w B O 27 C (fun j hj=>⟨by rw [Qa,Array.getElem?_eq_getElem Om];rfl,Ql hz _⟩) (by rw [Qhc,hs]) h1
 simp only [execOp,hx,hy,Sem.run_bind,a,Result.andThen_ok,Sem.run_pure]
@[go_sem ↓ high] theorem QsA(w:World)
  (hx:ρ x= .pointer (some ⟨Qb (ρ x),Qd (ρ x),none⟩))(hy:ρ y= .agg (ρ y).cells)(hs:Qn (ρ y).cells 67)(h:Fits (Qd (ρ x)) 67 (Qc w (Qb (ρ x))))(hz:Qs w (Qb (ρ x))=(0,0))(h1:QK (ρ y).cells):
  (Oper.semAt l ρ ⟨dst,.store 27 x y,ty,pos,after,g⟩).run Tryz.prog w= .ok .skip (Qe w (Qb (ρ x)) (Qd (ρ x)) (ρ y).cells):=by rw [Oper.semAt_eq _ _ _ (fun c h=>by cases h)];exact QbL ρ dst x y ty pos after g w hx hy hs h hz h1
theorem QlZ:(Tryz.prog.info? 23).map (·.size)=some 4:=Kr
theorem Qnc{b:Nat}(h:o+4≤(Qc w b).size):(Instr.loadAt 23 (.pointer (some ⟨b,o,none⟩))).run Tryz.prog w= .ok (.agg ((Qc w b).extract o (o+4))) w:=by
 have:=run_loadAt_mid w b o 23 ((Qc w b).extract o (o+4)).toList _ (QC w b o (o+4)) Tryz.underlying23 rfl (by rw [QlZ];simp;omega)
 rwa [Array.toArray_toList]at this
@[go_sem ↓ high] theorem QcB(ρ:Operand→Value)(dst:Option Tmp)(x:Operand)(ty:TypeId)(pos:String)(after:Array Edge)(g:Option (Nat×Bool))(w:World)
  (hx:ρ x= .pointer (some ⟨Qb (ρ x),Qd (ρ x),none⟩))(h:Fits (Qd (ρ x)) 4 (Qc w (Qb (ρ x)))):
  (execOp ρ ⟨dst,.load 23 x,ty,pos,after,g⟩).run Tryz.prog w= .ok (.value (.agg (QB (Qc w (Qb (ρ x))) (Qd (ρ x)) 4))) w:=by
 unfold Fits at h;generalize a:Qb (ρ x)=B at*;generalize b:Qd (ρ x)=O at*;simp only [execOp,hx,Sem.run_bind,Qnc h,Result.andThen_ok,Sem.run_pure,QB]
@[go_sem ↓ high] theorem Qum(w:World)
  (hx:ρ x= .pointer (some ⟨Qb (ρ x),Qd (ρ x),none⟩))(h:Fits (Qd (ρ x)) 4 (Qc w (Qb (ρ x)))):
  (Oper.semAt l ρ ⟨dst,.load 23 x,ty,pos,after,g⟩).run Tryz.prog w= .ok (.value (.agg (QB (Qc w (Qb (ρ x))) (Qd (ρ x)) 4))) w:=by rw [Oper.semAt_eq _ _ _ (fun c h=>by cases h)];exact QcB ρ dst x ty pos after g w hx h
@[go_sem ↓ high] theorem QbM(ρ:Operand→Value)(dst:Option Tmp)(x y:Operand)(ty:TypeId)(pos:String)(after:Array Edge)(g:Option (Nat×Bool))(w:World)
  (hx:ρ x= .pointer (some ⟨Qb (ρ x),Qd (ρ x),none⟩))(hy:ρ y= .agg (ρ y).cells)(hs:Qn (ρ y).cells 4)(h:Fits (Qd (ρ x)) 4 (Qc w (Qb (ρ x))))(hz:Qs w (Qb (ρ x))=(0,0))(h1:QK (ρ y).cells):
  (execOp ρ ⟨dst,.store 23 x y,ty,pos,after,g⟩).run Tryz.prog w= .ok .skip (Qe w (Qb (ρ x)) (Qd (ρ x)) (ρ y).cells):=by
 unfold Fits at h;unfold Qn at hs;generalize b:Qb (ρ x)=B at*;generalize c:Qd (ρ x)=O at*;generalize d:(ρ y).cells=C at*;have a:(Instr.storeAt 23 (.pointer (some ⟨B,O,none⟩)) (.agg C)).run Tryz.prog w= .ok () (Qe w B O C):=
  run_storeAt_mid w B O 23 C (fun j hj=>⟨by rw [Qa,Array.getElem?_eq_getElem Om];rfl,Ql hz _⟩) (by rw [QlZ,hs]) h1
 simp only [execOp,hx,hy,Sem.run_bind,a,Result.andThen_ok,Sem.run_pure]
@[go_sem ↓ high] theorem QsB(w:World)
  (hx:ρ x= .pointer (some ⟨Qb (ρ x),Qd (ρ x),none⟩))(hy:ρ y= .agg (ρ y).cells)(hs:Qn (ρ y).cells 4)(h:Fits (Qd (ρ x)) 4 (Qc w (Qb (ρ x))))(hz:Qs w (Qb (ρ x))=(0,0))(h1:QK (ρ y).cells):
  (Oper.semAt l ρ ⟨dst,.store 23 x y,ty,pos,after,g⟩).run Tryz.prog w= .ok .skip (Qe w (Qb (ρ x)) (Qd (ρ x)) (ρ y).cells):=by rw [Oper.semAt_eq _ _ _ (fun c h=>by cases h)];exact QbM ρ dst x y ty pos after g w hx hy hs h hz h1
theorem QiE:(Tryz.prog.info? 24).map (·.size)=some 64:=Kr
theorem Qj8{b:Nat}(h:o+64≤(Qc w b).size):(Instr.loadAt 24 (.pointer (some ⟨b,o,none⟩))).run Tryz.prog w= .ok (.agg ((Qc w b).extract o (o+64))) w:=by
 have:=run_loadAt_mid w b o 24 ((Qc w b).extract o (o+64)).toList _ (QC w b o (o+64)) Tryz.underlying24 rfl (by rw [QiE];simp;omega)
 rwa [Array.toArray_toList]at this
@[go_sem ↓ high] theorem Qfv(ρ:Operand→Value)(dst:Option Tmp)(x:Operand)(ty:TypeId)(pos:String)(after:Array Edge)(g:Option (Nat×Bool))(w:World)
  (hx:ρ x= .pointer (some ⟨Qb (ρ x),Qd (ρ x),none⟩))(h:Fits (Qd (ρ x)) 64 (Qc w (Qb (ρ x)))):
  (execOp ρ ⟨dst,.load 24 x,ty,pos,after,g⟩).run Tryz.prog w= .ok (.value (.agg (QB (Qc w (Qb (ρ x))) (Qd (ρ x)) 64))) w:=by
 unfold Fits at h;generalize a:Qb (ρ x)=B at*;generalize b:Qd (ρ x)=O at*;simp only [execOp,hx,Sem.run_bind,Qj8 h,Result.andThen_ok,Sem.run_pure,QB]
@[go_sem ↓ high] theorem QsC(w:World)
  (hx:ρ x= .pointer (some ⟨Qb (ρ x),Qd (ρ x),none⟩))(h:Fits (Qd (ρ x)) 64 (Qc w (Qb (ρ x)))):
  (Oper.semAt l ρ ⟨dst,.load 24 x,ty,pos,after,g⟩).run Tryz.prog w= .ok (.value (.agg (QB (Qc w (Qb (ρ x))) (Qd (ρ x)) 64))) w:=by rw [Oper.semAt_eq _ _ _ (fun c h=>by cases h)];exact Qfv ρ dst x ty pos after g w hx h
@[go_sem ↓ high] theorem QeT(ρ:Operand→Value)(dst:Option Tmp)(x y:Operand)(ty:TypeId)(pos:String)(after:Array Edge)(g:Option (Nat×Bool))(w:World)
  (hx:ρ x= .pointer (some ⟨Qb (ρ x),Qd (ρ x),none⟩))(hy:ρ y= .agg (ρ y).cells)(hs:Qn (ρ y).cells 64)(h:Fits (Qd (ρ x)) 64 (Qc w (Qb (ρ x))))(hz:Qs w (Qb (ρ x))=(0,0))(h1:QK (ρ y).cells):
  (execOp ρ ⟨dst,.store 24 x y,ty,pos,after,g⟩).run Tryz.prog w= .ok .skip (Qe w (Qb (ρ x)) (Qd (ρ x)) (ρ y).cells):=by
 unfold Fits at h;unfold Qn at hs;generalize b:Qb (ρ x)=B at*;generalize c:Qd (ρ x)=O at*;generalize d:(ρ y).cells=C at*;have a:(Instr.storeAt 24 (.pointer (some ⟨B,O,none⟩)) (.agg C)).run Tryz.prog w= .ok () (Qe w B O C):=
  run_storeAt_mid w B O 24 C (fun j hj=>⟨by rw [Qa,Array.getElem?_eq_getElem Om];rfl,Ql hz _⟩) (by rw [QiE,hs]) h1
 simp only [execOp,hx,hy,Sem.run_bind,a,Result.andThen_ok,Sem.run_pure]
@[go_sem ↓ high] theorem QrL(w:World)
  (hx:ρ x= .pointer (some ⟨Qb (ρ x),Qd (ρ x),none⟩))(hy:ρ y= .agg (ρ y).cells)(hs:Qn (ρ y).cells 64)(h:Fits (Qd (ρ x)) 64 (Qc w (Qb (ρ x))))(hz:Qs w (Qb (ρ x))=(0,0))(h1:QK (ρ y).cells):
  (Oper.semAt l ρ ⟨dst,.store 24 x y,ty,pos,after,g⟩).run Tryz.prog w= .ok .skip (Qe w (Qb (ρ x)) (Qd (ρ x)) (ρ y).cells):=by rw [Oper.semAt_eq _ _ _ (fun c h=>by cases h)];exact QeT ρ dst x y ty pos after g w hx hy hs h hz h1
def mdz:Md:=⟨0,0,0,false⟩
def md0:Md:=⟨0,-1,0,false⟩
def agz:Ag:=⟨0,0,fun _=>mdz,none,[],0⟩
theorem QsD:Tryz.zeroCells27=agv agz:=Kr
theorem Qz(ρ:Operand→Value)(dst:Option Tmp)(ty:TypeId)(pos:String)(after:Array Edge)(g:Option (Nat×Bool))(w:World):
  (execOp ρ ⟨dst,.alloc 27,ty,pos,after,g⟩).run Tryz.prog w= .ok (.value (.pointer (some ⟨w.heap.size,0,none⟩))) (w.alloc (.cells (agv agz) 27)):=by
 have h:(execOp ρ ⟨dst,.alloc 27,ty,pos,after,g⟩).run Tryz.prog w= .ok (.value (.pointer (some ⟨w.heap.size,0,none⟩))) (w.alloc (.cells Tryz.zeroCells27 27)):=Kr
 rw [h,QsD]
theorem Z1(w:World):
  (Oper.semAt l ρ ⟨dst,.alloc 27,ty,pos,after,g⟩).run Tryz.prog w= .ok (.value (.pointer (some ⟨w.heap.size,0,none⟩))) (w.alloc (.cells (agv agz) 27)):=by rw [Oper.semAt_eq _ _ _ (fun c h=>by cases h)];exact Qz ρ dst ty pos after g w
theorem Yp{b:Nat}{x}(h:Qc w b=agv x):(loadVar 27 ⟨b,0,none⟩).run Tryz.prog w= .ok (.agg (agv x)) w:=by
 have e:=Qj7 (w:=w) (b:=b) (o:=0) (by rw [h,Qg];exact Nat.le_refl _);have c:= @QdJ x;unfold QB at c;rw [h,c]at e;exact e
theorem QiF(off n:Nat)(f:Nat→Value)(v:Value):(#[v]:Array Value).zipIdx.foldl (fun cs (x:Value×Nat)=>cs.setIfInBounds (off+x.2) x.1) (rowv n f)=rowv n (upd f off v):=by
 show(rowv n f).setIfInBounds (off+0) v=_;rw [Nat.add_zero,QhA]
theorem Qav(k:IntKind)(n:Int):(Value.int k n).cells=#[.int k n]:=rfl
theorem QcC{P:Program}{T:TypeId}{fields:Array Go.Field}{zc cells:Array Value}(places:Array (Nat×Nat)){parts:Array (Nat×Value)}(hz:(zeroValue T).run P w= .ok (.agg zc) w)(hu:P.underlying T=some (.struct fields))
  (hm:(fields.mapM fun(f:Go.Field)=>do pure (f.offset,←sizeOf f.type)).run P w= .ok places w)(hf:Instr.fill (places[·]?) zc parts.toList=some cells):(Instr.build T parts).run P w= .ok (.agg cells) w:=by
 have a:=run_underlying hu w;unfold Instr.build;simp only [Sem.run_bind,hz,Result.andThen_ok,a,hm,QF,hf,Sem.run_pure]
@[go_sem] theorem Qxc(k:IntKind)(n:Int):intOf (.int k n)=n:=rfl
def Qj9(a b:Int):Ag:={agz with id:=a,idle:=b}
theorem QsE(a b:Int)(place:Nat→Option (Nat×Nat))(h0:place 0=some (0,1))(h1:place 1=some (1,1)):
  Instr.fill place (agv agz) [(0,.int .i64 a),(1,.int .i64 b)]=some (agv (Qj9 a b)):=by
 have d:((Value.int .i64 a).cells.zipIdx.foldl (fun cs (x:Value×Nat)=>cs.setIfInBounds (0+x.2) x.1) (agv agz))=rowv 67 (upd (Ag.at agz) 0 (.int .i64 a)):=by
  rw [Qav];exact QiF 0 67 _ _
 have e:((Value.int .i64 b).cells.zipIdx.foldl (fun cs (x:Value×Nat)=>cs.setIfInBounds (1+x.2) x.1) (rowv 67 (upd (Ag.at agz) 0 (.int .i64 a))))=agv (Qj9 a b):=by
  unfold Qj9;rw [Qav,QiF];refine QH _ _ _ fun j hj=> ?_;unfold upd Ag.at
  by_cases h1:j=1
  ·subst h1;rfl
  ·rw [if_neg h1]
   by_cases c:j=0
   ·subst c;rfl
   ·rw [if_neg c,if_neg c,if_neg h1,if_neg c,if_neg h1]
 have f: ¬((Value.int .i64 a).cells.size≠1||0+(Value.int .i64 a).cells.size>(agv agz).size)=true:=by rw [Qav,Qg];simp
 have g: ¬((Value.int .i64 b).cells.size≠1||1+(Value.int .i64 b).cells.size>(rowv 67 (upd (Ag.at agz) 0 (.int .i64 a))).size)=true:=by rw [Qav,QY];simp
 unfold Instr.fill;simp only [h0];rw [if_neg f];unfold Instr.fill;simp only [h1];rw [d,if_neg g];unfold Instr.fill;rw [e]
theorem Qnd(a b:Int)(w:World):(Instr.build 27 #[(0,.int .i64 a),(1,.int .i64 b)]).run Tryz.prog w= .ok (.agg (agv (Qj9 a b))) w:=by
 refine QcC #[(0,1),(1,1),(2,64),(66,1)] (Tryz.zeroValue27 w) Tryz.underlying27 Kr ?_;rw [QsD];exact QsE a b _ Kr Kr
theorem QeU{a b:Operand}(w:World)(ha:ρ a= .int .i64 (intOf (ρ a)))(hb:ρ b= .int .i64 (intOf (ρ b))):
  (execOp ρ ⟨dst,.build 27 #[(0,a),(1,b)],ty,pos,after,g⟩).run Tryz.prog w= .ok (.value (.agg (agv (Qj9 (intOf (ρ a)) (intOf (ρ b)))))) w:=by
 generalize intOf (ρ a)=m at*;generalize intOf (ρ b)=n at*;have h:=Qnd m n w;simp only [execOp,List.map_toArray,List.map_cons,List.map_nil,ha,hb,Sem.run_bind,h,Result.andThen_ok,Sem.run_pure]
attribute [go_sem ↓ high] QeU
theorem QiG{W:World}{b k:Nat}{a:Ag}(e:Md)(hr:Qc W b=agv a)(hk:k<16):Qc (Qe W b (2+k*4) (mdv e)) b=agv {a with md:=fun i=>if i=k then e else a.md i}:=by
 unfold agv at*;unfold mdv;rw [QdV _ _ _ _ _ _ _ hr Om];refine QH _ _ _ fun j hj=> ?_;unfold ovl Ag.at;dsimp only
 by_cases h:j<2
 ·obtain rfl|rfl:j=0∨j=1:=by omega
  ·rw [if_neg Om];rfl
  ·rw [if_neg Om];rfl
 ·have d: ¬j=0:=by omega
  have f: ¬j=1:=by omega
  by_cases g:2+k*4≤j∧j<2+k*4+4
  ·rw [if_pos g,if_neg d,if_neg f,if_pos (show j<66 by omega),if_pos (show(j- 2)/4=k by omega),show(j- 2) % 4=j- (2+k*4)by omega]
  ·rw [if_neg g,if_neg d,if_neg d,if_neg f,if_neg f]
   by_cases c:j<66
   ·rw [if_pos c,if_pos c,if_neg (show ¬(j- 2)/4=k by omega)]
   ·rw [if_neg c,if_neg c]
def agN(id idle:Int):Ag:={agz with id:=id,idle:=idle,md:=fun _=>md0}
theorem Qf3{s u:Ag}(h1:s.id=u.id)(h2:s.idle=u.idle)(h3: ∀i,i<16→s.md i=u.md i)(h7:s.p=u.p)(h8:s.xs=u.xs)(h9:s.c=u.c):agv s=agv u:=by
 unfold agv;refine QH _ _ _ fun j hj=> ?_;unfold Ag.at;rw [h1,h2,h7,h8,h9]
 by_cases a:j=0
 ·rw [if_pos a,if_pos a]
 rw [if_neg a,if_neg a]
 by_cases b:j=1
 ·rw [if_pos b,if_pos b]
 rw [if_neg b,if_neg b]
 by_cases d:j<66
 ·rw [if_pos d,if_pos d,h3 _ Om]
 ·rw [if_neg d,if_neg d]
theorem Qab{W:World}{b:Nat}{a:Ag}(p:Option Addr)(xs:List Co)(c:Nat)(hr:Qc W b=agv a):Qc (W.setCell ⟨b,66,none⟩ (.slice p xs.length c)) b=agv {a with p:=p,xs:=xs,c:=c}:=by
 rw [YA,if_pos rfl,hr];unfold agv;rw [QhA];refine QH _ _ _ fun j hj=> ?_;unfold upd Ag.at;dsimp only
 by_cases h:j=66
 ·subst h;rfl
 ·rw [if_neg h]
  by_cases d:j=0
  ·rw [if_pos d,if_pos d]
  ·rw [if_neg d,if_neg d]
   by_cases e:j=1
   ·rw [if_pos e,if_pos e]
   ·rw [if_neg e,if_neg e,if_pos (show j<66 by omega),if_pos (show j<66 by omega)]
def toR(m:Md):Ru.Md:=⟨m.kind,m.peer,m.gen,m.ret⟩
def mdR(m:Md):Bool:=(toR m).right
theorem YH(m:Md):mdv m=#[.int .u8 m.kind,.int .i64 m.peer,.int .i64 m.gen,.bool m.ret]:=by unfold mdv;rfl
theorem Qaw(m:Md):Value.agg (mdv m)=(toR m).v:=by rw [YH];rfl
theorem Qka(m:Md)(w:World)(h0:0≤m.kind):Cr 73 #[.agg (mdv m)] w (.bool (mdR m)):=by
 rw [Qaw];exact Ru.Qa5 (toR m) w h0
theorem QeV(m:Md)(w:World)(h0:0≤m.kind):Cr 35 #[.agg (mdv m)] w (.bool (mdR m)):=by
 rw [Qaw];exact Ru.Qw2 (toR m) w h0
theorem QpT(w:World):Cr 38 #[] w (.agg (mdv md0)):=by
 rw [Qaw];exact Ru.Qsu w
def Yj(a:Ag):Bool:=decide (0≤a.id)&&decide (a.id<6)&&decide (0≤a.idle)&&decide (a.idle≤1099511627776)&&QJ a.xs
def Qdd(a:Ag)(k:Nat):Bool:=mdR (a.md k)&&(a.md k).peer !=a.id
def cnA(a:Ag)(c:Co):Bool:=(a.md (ofT c.t).toNat).kind !=0&&!(a.md (ofT c.t).toNat).ret
def agR(a:Ag):Bool:=Yj a&&((List.range 16).all fun k=>Qdd a k)&&a.xs.all fun c=>cnA a c
theorem Ya{a:Ag}(h:Yj a=false):agR a=false:=by unfold agR;rw [h];rfl
theorem QpU{a:Ag}(k:Nat)(hk:k<16)(h:Qdd a k=false):agR a=false:=by
 unfold agR;rw [show((List.range 16).all fun k=>Qdd a k)=false from List.all_eq_false.2 ⟨k,List.mem_range.2 hk,by simp [h]⟩];simp
theorem QpV{a:Ag}(c:Co)(hc:c∈a.xs)(h:cnA a c=false):agR a=false:=by
 unfold agR;rw [show(a.xs.all fun c=>cnA a c)=false from List.all_eq_false.2 ⟨c,hc,by simp [h]⟩];simp
theorem QvC{a:Ag}(h:Yj a=true)(h2: ∀k,k<16→Qdd a k=true)(h3: ∀c∈a.xs,cnA a c=true):agR a=true:=by
 unfold agR;rw [h,List.all_eq_true.2 fun k hk=>h2 k (List.mem_range.1 hk),List.all_eq_true.2 h3];rfl
section
theorem QsF(p q:Option Addr)(xs ys:List Co)(c c':Nat)(w:World)(hs:SlC w p xs)(ht:SlC w q ys)(hl:xs.length≤1000)(hm:ys.length≤1000):
  Cr 78 #[.slice p xs.length c,.slice q ys.length c'] w (.bool (decide (xs=ys))):=by
 by_cases b:xs.length=ys.length
 ·have r:((xs.length:Int) !=ys.length)=false:=by simp [b]
  have z:=Xh b;rw [b]at r⊢;clear b
  go_enter Tryz.func78,Tryz.ntmps78
  go_wp2
  go_loopw [5,13] (fun _ a wr=> ∃k:Nat,k≤xs.length∧a= .int .i64 k∧xs.take k=ys.take k∧Ext w wr) (fun _ a _=>ys.length- (intOf a).toNat)
  case atStart=>exact⟨0,Nat.zero_le _,rfl,rfl,Ext.rf _⟩
  case round=>
   obtain⟨k,W,rfl,g,h⟩:=hrel;have b:=z.out
   by_cases s:k<ys.length
   ·have A:(k:Int)<ys.length:=by omega
    obtain⟨E,X,rfl,t,F,G,H,I,J,K⟩:=(hs.ext h) k Om;obtain⟨L,Y,rfl,u,M,N,O,P,Q,R⟩:=(ht.ext h) k s;have S:Lt E wr:=t;have T:Lt L wr:=u;have U:=Xh hs;have V:=Xh ht;have B:k<xs.length:=by omega
    obtain⟨x,i⟩: ∃x,xs[k]=x:=⟨_,rfl⟩;obtain⟨y,j⟩: ∃y,ys[k]=y:=⟨_,rfl⟩;have m:xs.take (k+1)=xs.take k++ [x]:=by rw [List.take_succ_eq_append_getElem B,i]
    have n:ys.take (k+1)=ys.take k++ [y]:=by rw [List.take_succ_eq_append_getElem s,j]
    rw [i]at F G H I J K;rw [j]at M N O P Q R;clear hs ht b t u
    by_cases l:x=y
    ·subst l;have C:=Xh (show xs.take (k+1)=ys.take (k+1)by rw [m,n,g]);clear g m n i j
     go_upto_region 6 with(fail)
     refine Qk Kr Kr ?_;(repeat(go_big_quiet_step (fail)));refine wpQuiet_nil ?_;intro d
     have o:=Qt d;go_wp2
     go_roundw
     case rel=>exact⟨k+1,Om,by go_num,C.out,h.tr o⟩
     case measure=>simp [intOf];omega
    ·have D:=Xh l
     have f:=Xh (show decide (xs=ys)=false by
      refine decide_eq_false fun e=>l ?_;subst e
      rw [←i,←j])
     clear g m n i j l
     go_upto_region 6 with(fail)
     refine Qk Kr Kr ?_;(repeat(go_big_quiet_step (fail)))
     refine QdG (v:= .bool true) Kr (QxD D.out Kr Kr) ?_;refine wpQuiet_nil ?_;intro d
     have o:=Qt d;go_simp;go_wp2;exact bodyPost_ret (v:= .bool false) (by simp [results,Tryz.results78,go_sem]) rfl ⟨by rw [f.out],h.tr o⟩
   ·have A: ¬((k:Int)<ys.length):=by omega
    have f:=Xh (show decide (xs=ys)=true by
     refine decide_eq_true ?_
     rwa [List.take_of_length_le Om,List.take_of_length_le Om]at g)
    clear g;go_wp2;exact bodyPost_ret (v:= .bool true) (by simp [results,Tryz.results78,go_sem]) rfl ⟨by rw [f.out],h⟩
 ·have r:((xs.length:Int) !=ys.length)=true:=by simp;omega
  have f:=Xh (show decide (xs=ys)=false from decide_eq_false fun e=>b (by rw [e]));clear b
  go_enter Tryz.func78,Tryz.ntmps78
  go_wp2;exact bodyPost_ret (v:= .bool false) (by simp [results,Tryz.results78,go_sem]) rfl ⟨by rw [f.out],Ext.rf _⟩
def Qde(a b:Md):Bool:=a.kind==b.kind&&a.peer==b.peer&&a.gen==b.gen&&a.ret==b.ret
def Qne(a b:Nat→Md):Bool:=(List.range 16).all fun i=>Qde (a i) (b i)
abbrev md4(a b c:Int)(d:Bool):Value:= .agg #[.int .u8 a,.int .i64 b,.int .i64 c,.bool d]
theorem QpW(a b c:Int)(d:Bool)(a' b' c':Int)(d':Bool)(w:World):
  (Op.equalIn 9999 23 (md4 a b c d) (md4 a' b' c' d')).run Tryz.prog w= .ok (a==a'&&b==b'&&c==c'&&d==d') w:=by
 go_simp
 by_cases e:a=a'<;>by_cases f:b=b'<;>by_cases g:c=c'<;>by_cases h:d=d'<;>simp [*]
theorem QsG(a b:Md)(w:World):(Op.equalIn 9999 23 (.agg (mdv a)) (.agg (mdv b))).run Tryz.prog w= .ok (Qde a b) w:=by
 rw [YH,YH];exact QpW _ _ _ _ _ _ _ _ w
theorem QpX: ∃i,Tryz.prog.info? 23=some i:=Option.isSome_iff_exists.1 Kr
theorem Qnf:Tryz.prog.cellsOf 23=4:=Kr
theorem QpY(w:World):(isAgg 23).run Tryz.prog w= .ok true w:=Kr
theorem QpZ(w:World):(sizeOf 23).run Tryz.prog w= .ok 4 w:=Kr
theorem QsH(l:Nat→Md)(i:Nat)(hi:i<16):(mdL l).extract (i*4) (i*4+4)=mdv (l i):=by
 show QB (mdL l) (i*4) 4=_;unfold mdL mdv;rw [Q5 _ _ _ _ Om];refine QH _ _ _ fun j hj=> ?_;rw [show(i*4+j)/4=i by omega,show(i*4+j) % 4=j by omega]
theorem QeW(a b:Nat→Md)(w:World): ∀(is:List Nat),(∀i∈is,i<16)→(Op.eqItems 9999 23 4 (mdL a) (mdL b) is).run Tryz.prog w= .ok (is.all fun i=>Qde (a i) (b i)) w
 | [],_=>by simp [Op.eqItems]
 |i::is,h=>by
  have c:=h i (by simp);have d: ∀l:Nat→Md,(part 23 (mdL l) (i*4)).run Tryz.prog w= .ok (.agg (mdv (l i))) w:=fun l=>by
   have e:=QsH l i c;simp [part,Sem.run_bind,QpY,QpZ,e]
  have f:=QsG (a i) (b i) w;simp only [Op.eqItems,Sem.run_bind,d,f,Result.andThen_ok,List.all_cons]
  cases g:Qde (a i) (b i)
  ·simp
  ·simp only [Bool.not_true,Bool.false_eq_true,if_false,Bool.true_and];exact QeW a b w is fun j hj=>h j (by simp [hj])
theorem QiH(a b:Nat→Md)(w:World):(Op.equalIn 10000 24 (.agg (mdL a)) (.agg (mdL b))).run Tryz.prog w= .ok (Qne a b) w:=by
 obtain⟨i,c⟩:=QpX;rw [show(10000:Nat)=9999+1 from rfl];have e:(Op.equalIn (9999+1) 24 (.agg (mdL a)) (.agg (mdL b))).run Tryz.prog w= .ok (Qne a b) w:=by
  rw [run_equalIn_array (w:=w) 9999 (n:=16) (e:=23) (mdL a) (mdL b) Tryz.underlying24 c,Qnf,QeW a b w _ (fun i c=>by simpa using c)];rfl
 exact e
@[go_sem ↓ high] theorem Qz1(a b:Nat→Md)(w:World):(binOp .eql 24 (.agg (mdL a)) (.agg (mdL b))).run Tryz.prog w= .ok (.bool (Qne a b)) w:=by
 rw [run_eql_struct,QiH];rfl
@[go_sem ↓ high] theorem Qz2(a b:Nat→Md)(w:World):(binOp .neq 24 (.agg (mdL a)) (.agg (mdL b))).run Tryz.prog w= .ok (.bool (!Qne a b)) w:=by
 rw [run_neq_struct,QiH];rfl
structure QvD(w w':World)(p:Option Addr)(c:Nat)(xs:List Co):Prop where
 own:w'.ownsRow w.heap.size 66 6 (.slice p xs.length c) xs.length (flC xs)
 ext:Ext w w'
theorem QvD.sl{w':World}{c:Nat}{xs:List Co}(h:QvD w w' p c xs):SlC w' p xs:=by
 obtain⟨b,d,e,-,a⟩:=SlC.own h.own
 cases e;exact a
attribute [local go_sem ↓ high] Qz Z1
theorem QcD(a:Ag)(w:World)(hs:SlC w a.p a.xs)(hl:a.xs.length≤1000):
  Calls Tryz.prog 25 #[.agg (agv a)] w fun e w'=> ∃p c,e= .returned (.agg (agv {a with p:=p,c:=c}))∧QvD w w' p c a.xs:=by
 have A:=Xh hs;clear hs
 go_enter Tryz.func25,Tryz.ntmps25
 go_upto_region 1 with(fail)
 obtain⟨f,d⟩: ∃f,(w.alloc (.cells (agv a) 27)).alloc (.cells (agv agz) 27)=f:=⟨_,rfl⟩;have q:Ext w f:=by rw [←d];exact Ext.al Ea _
 have b:RowZ f w.heap.size (agv a):=by rw [←d];exact⟨by simp [go_sem],by simp [go_sem],by simp [go_sem,Lt]⟩
 have m:RowZ f (w.heap.size+1) (agv agz):=by rw [←d];exact⟨by simp [go_sem],by simp [go_sem],by simp [go_sem,Lt]⟩
 rw [d];clear d;have K:f.cell? ⟨w.heap.size,66,none⟩=some (.slice a.p a.xs.length a.c):=by rw [Qa,b.r,Qu]
 have L:=b.l;have B:=Xh b;have x:=Xh m;clear b m
 go_upto_region 2 with(go_at_call 79;(refine(Qgr a.p a.xs a.c _ (A.out.ext q) hl).mono ?_);rintro e o ⟨v,rfl,t,u⟩;obtain⟨g,i,rfl,S,J⟩:=SlC.own t;have D:=Xh t;have b:=B.out.ext u;have m:=x.out.ext u;have E:o.cell? ⟨w.heap.size,66,none⟩=some (.slice a.p a.xs.length a.c):=(by rw [Qa,b.r,Qu]);have F:=b.frz 66;have M:=b.l;clear t J)
 obtain⟨j,d⟩: ∃j,o.setCell ⟨w.heap.size,66,none⟩ (.slice g a.xs.length i)=j:=⟨_,rfl⟩;have s:Mv (fun k=>k=w.heap.size) o j:=by rw [←d];exact Mv.st _ (.inl rfl) (Mv.refl _ _)
 have N:Qc j w.heap.size=agv {a with p:=g,c:=i}:=by rw [←d];exact Qab g a.xs i b.r
 have n:=m.mv s Om;rw [d];clear d b E F m;have O:=n.r;have P:=n.z;have G:=Xh s;have H:=Xh n;clear s n;go_wp2;have I:Qc (Qe j (w.heap.size+1) 0 (agv {a with p:=g,c:=i})) (w.heap.size+1)=agv {a with p:=g,c:=i}:=Qq _ _ _ (by rw [H.out.r,Qg,Qg]);have y:Mv (fun k=>k=w.heap.size∨k=w.heap.size+1) o (Qe j (w.heap.size+1) 0 (agv {a with p:=g,c:=i})):=(G.out.mono (fun k _ h=> .inl h)).trans (Mv.sa _ (.inr rfl) (Mv.refl _ _));have Q:=q.size;refine bodyPost_ret (Zv rfl _ _ (w.heap.size+1) rfl (Yp I)) rfl ⟨g,i,rfl,?_,Mv.ext_of (q.tr u) y (fun k h=>by omega)⟩;have R:w.heap.size+2≤f.heap.size:=by have:=x.out.l;unfold Lt at this;omega
 exact QA (Qw (C:=fun k=>k=w.heap.size∨k=w.heap.size+1) D.out y (fun k hk e=>by omega)) Om
def Jl(a b:Ag):Bool:=a.id==b.id&&a.idle==b.idle&&Qne a.md b.md&&decide (a.xs=b.xs)
theorem Qdf(a b:Ag)(w:World)(hs:SlC w a.p a.xs)(ht:SlC w b.p b.xs)(hl:a.xs.length≤1000)(hm:b.xs.length≤1000):
  Cr 24 #[.agg (agv a),.agg (agv b)] w (.bool (Jl a b)):=by
 have n:=Xh (fun W (hE:Ext w W)=>QsF a.p b.p a.xs b.xs a.c b.c W (hs.ext hE) (ht.ext hE) hl hm);clear hs ht
 go_enter Tryz.func24,Tryz.ntmps24
 go_upto_region 1 with(fail)
 obtain⟨d,g⟩: ∃d,(w.alloc (.cells (agv a) 27)).alloc (.cells (agv b) 27)=d:=⟨_,rfl⟩;have h:Ext w d:=by rw [←g];exact Ext.al Ea _
 have i:Qc d w.heap.size=agv a:=by rw [←g];simp [go_sem]
 have j:Qc d (w.heap.size+1)=agv b:=by rw [←g];simp [go_sem]
 have q:Lt (w.heap.size+1) d:=by rw [←g];simp [go_sem,Lt]
 have r:Lt w.heap.size d:=by rw [←g];simp [go_sem,Lt]
 rw [g];clear g;have s:d.cell? ⟨w.heap.size,0,none⟩=some (.int .i64 a.id):=by rw [Qa,i,Jw]
 have t:d.cell? ⟨w.heap.size,1,none⟩=some (.int .i64 a.idle):=by rw [Qa,i,Jb]
 have u:d.cell? ⟨w.heap.size+1,0,none⟩=some (.int .i64 b.id):=by rw [Qa,j,Jw]
 have v:d.cell? ⟨w.heap.size+1,1,none⟩=some (.int .i64 b.idle):=by rw [Qa,j,Jb]
 have x:d.cell? ⟨w.heap.size,66,none⟩=some (.slice a.p a.xs.length a.c):=by rw [Qa,i,Qu]
 have y:d.cell? ⟨w.heap.size+1,66,none⟩=some (.slice b.p b.xs.length b.c):=by rw [Qa,j,Qu]
 cases k:(a.id==b.id)
 ·have f:=Xh (show Jl a b=false by unfold Jl;rw [k];rfl);go_wp2;go_ret;exact⟨Qm f.out.symm,h⟩
 cases l:(a.idle==b.idle)
 ·have f:=Xh (show Jl a b=false by unfold Jl;rw [l];simp);go_wp2;go_ret;exact⟨Qm f.out.symm,h⟩
 cases m:Qne a.md b.md
 ·have f:=Xh (show Jl a b=false by unfold Jl;rw [m];simp);go_wp2;go_ret;exact⟨Qm f.out.symm,h⟩
 have f:=Xh (show Jl a b=decide (a.xs=b.xs)by unfold Jl;rw [k,l,m];rfl)
 go_wp2_with (go_at_call 78;(refine(n.out _ h).mono ?_);rintro e z ⟨rfl,o⟩)
 go_ret;exact⟨Qm f.out.symm,h.tr o⟩
end
@[go_sem] theorem Qxd{a b c d:Value}{m:Nat}:Fits o m #[a,b,c,d]=(o+m≤4):=by unfold Fits;rfl
@[go_sem] theorem Qun{x}:QB (mdv x) 0 4=mdv x:=Q9 _ _ J2
def SlM(w:World)(p:Option Addr)(xs:List Md):Prop:= ∀k,(h:k<xs.length)→ ∃b off,p=some ⟨b,off,none⟩∧b<w.heap.size∧w.cell? ⟨b,off+k*4,none⟩=some (.int .u8 xs[k].kind)∧w.cell? ⟨b,off+k*4+1,none⟩=some (.int .i64 xs[k].peer)∧w.cell? ⟨b,off+k*4+2,none⟩=some (.int .i64 xs[k].gen)∧w.cell? ⟨b,off+k*4+3,none⟩=some (.bool xs[k].ret)
theorem SlM.ext{w':World}{xs:List Md}(h:SlM w p xs)(e:Ext w w'):SlM w' p xs:=fun k hk=>by
 obtain⟨b,a,d,c,f,g,i,j⟩:=h k hk;exact⟨b,a,d,Xl c e.size,(e.cell (p:=⟨b,a+k*4,none⟩) c).trans f,(e.cell (p:=⟨b,a+k*4+1,none⟩) c).trans g,(e.cell (p:=⟨b,a+k*4+2,none⟩) c).trans i,(e.cell (p:=⟨b,a+k*4+3,none⟩) c).trans j⟩
theorem SlM.nil(w:World)(p:Option Addr):SlM w p []:=fun k hk=>by simp at hk
theorem QiI(g:Nat)(lb:Array Value)(eg: ∀args w,(callFunc g args).run Tryz.prog w= .ok (.enter g args) w)(pr:Md→Bool)(p:Option Addr)(xs:List Md)(c:Nat)(w:World)
  (hs:SlM w p xs)(hl:xs.length≤1000)(hf: ∀x W,x∈xs→Ext w W→Cr g (#[.agg #[.int .u8 x.kind,.int .i64 x.peer,.int .i64 x.gen,.bool x.ret]]++lb) W (.bool (pr x))):
  Cr 144 #[.slice p xs.length c,.func (.func g) #[] lb] w (.int .i64 (idx pr xs)):=by
 have u:=Xh hf;clear hf
 go_enter Tryz.func144,Tryz.ntmps144
 go_wp2
 go_loopw [5,8] (fun _ i wr=> ∃k:Nat,k≤xs.length∧i= .int .i64 k∧(∀j,j<k→ ∀(hj:j<xs.length),pr xs[j]=false)∧Ext w wr) (fun _ i _=>xs.length- (intOf i).toNat)
 case atStart=>exact⟨0,Nat.zero_le _,rfl,fun j hj=>by omega,Ext.rf _⟩
 case round=>
  obtain⟨k,F,rfl,t,f⟩:=hrel;have l:=Xh t;clear t
  by_cases o:k<xs.length
  ·have D:(k:Int)<xs.length:=by omega
   obtain⟨b,G,rfl,v,y,z,A,B⟩:=(hs.ext f) k o;have E:Lt b wr:=v;have a:=u.out xs[k] wr (List.getElem_mem o) f;obtain⟨x,q⟩: ∃x,xs[k]=x:=⟨_,rfl⟩;rw [q]at y z A B a;have s:=Xh q;clear q
   cases d:pr x
   ·rw [d]at a;have m:=Xh d;clear d;have n:=Xh a;clear a
    go_wp2_with ((with_reducible refine(n.out).mono ?_);rintro e C ⟨rfl,r⟩)
    go_roundw
    case rel=>exact⟨k+1,Om,by go_num,fun j hj hj'=>by
     rcases Nat.lt_or_ge j k with h|h
     ·exact l.out j h hj'
     ·obtain rfl:j=k:=by omega
      rw [s.out,m.out],f.tr r⟩
    case measure=>simp [intOf];omega
   ·rw [d]at a;have m:=Xh d;clear d;have n:=Xh a;clear a
    go_wp2_with ((with_reducible refine(n.out).mono ?_);rintro e C ⟨rfl,r⟩)
    go_ret;exact⟨by rw [QhH pr xs k o (fun j hj=>l.out j hj _) (by rw [s.out,m.out])];rfl,f.tr r⟩
  ·obtain rfl:k=xs.length:=by omega
   go_wp2;go_ret;exact⟨by rw [QhG pr xs (fun j hj=>l.out j hj hj)];rfl,f⟩
theorem QeX(g:Nat)(lb:Array Value)(eg: ∀args w,(callFunc g args).run Tryz.prog w= .ok (.enter g args) w)(pr:Md→Bool)(p:Option Addr)(xs:List Md)(c:Nat)(w:World)
  (hs:SlM w p xs)(hl:xs.length≤1000)(hf: ∀x W,x∈xs→Ext w W→Cr g (#[.agg #[.int .u8 x.kind,.int .i64 x.peer,.int .i64 x.gen,.bool x.ret]]++lb) W (.bool (pr x))):
  Cr 74 #[.slice p xs.length c,.func (.func g) #[] lb] w (.bool (xs.any pr)):=by
 have a:=Xh hf;have b:=Xh eg;clear hf eg
 go_enter Tryz.func74,Tryz.ntmps74
 go_wp2_with (go_at_call 144;(refine(QiI g lb b.out pr p xs c _ hs hl a.out).mono ?_);rintro e f ⟨rfl,d⟩)
 go_ret;exact⟨Qm (Qoh _ _),d⟩
def YI(a:Ag):List Md:=(List.range 16).map a.md
theorem Qca(a:Ag):(YI a).length=16:=by simp [YI]
theorem Qkb(a:Ag)(k:Nat)(h:k<(YI a).length):(YI a)[k]=a.md k:=by simp [YI]
theorem SlM.ag{a:Ag}(hr:Qc w B=agv a)(hl:Lt B w):SlM w (some ⟨B,2,none⟩) (YI a):=fun k hk=>by
 rw [Qkb];rw [Qca]at hk;have b: ∀j,j<4→w.cell? ⟨B,2+k*4+j,none⟩=some ((a.md k).at j):=fun j hj=>by
  rw [Qa,hr];unfold agv;rw [QM,if_pos Om];unfold Ag.at
  rw [if_neg Om,if_neg Om,if_pos Om,show(2+k*4+j- 2)/4=k by omega,show(2+k*4+j- 2) % 4=j by omega]
 exact⟨B,2,rfl,hl,b 0 Om,b 1 Om,b 2 Om,b 3 Om⟩
def Jm(id:Int)(m:Md):Bool:=!mdR m||m.peer==id
def QbN(a:Ag)(c:Co):Bool:=(a.md (ofT c.t).toNat).kind==0||(a.md (ofT c.t).toNat).ret
theorem Qfw: ∀args w,(callFunc 72 args).run Tryz.prog w= .ok (.enter 72 args) w:=enters_of Tryz.func72 Kr rfl
theorem Qhd: ∀args w,(callFunc 71 args).run Tryz.prog w= .ok (.enter 71 args) w:=enters_of Tryz.func71 Kr rfl
theorem Qkc(m:Md)(id:Int)(B:Nat)(w:World)(hB:w.cell? ⟨B,0,none⟩=some (.int .i64 id))(lB:Lt B w)(h0:0≤m.kind):
  Cr 72 #[.agg (mdv m),.pointer (some ⟨B,0,none⟩)] w (.bool (Jm id m)):=by
 have f:=Xh (fun W=>Qka m W h0)
 go_enter Tryz.func72,Tryz.ntmps72
 go_upto_region 1 with(fail)
 obtain⟨a,c⟩: ∃a,w.alloc (.cells (mdv m) 23)=a:=⟨_,rfl⟩;have g:Ext w a:=by rw [←c];exact Ea
 have l:Qc a w.heap.size=mdv m:=by rw [←c];simp [go_sem]
 have j:Lt w.heap.size a:=by rw [←c];simp [go_sem]
 have n:a.cell? ⟨B,0,none⟩=some (.int .i64 id):=(g.cell (p:=⟨B,0,none⟩) lB).trans hB;have k:Lt B a:=Xl lB g.size;rw [c];clear c hB lB;have o:a.cell? ⟨w.heap.size,1,none⟩=some (.int .i64 m.peer):=by rw [Qa,l,Qsg]
 generalize w.heap.size=X at*
 cases h:mdR m
 ·have i:=Xh (show Jm id m=true by unfold Jm;rw [h];rfl);rw [h]at f
  go_wp2_with (go_at_call 73;(refine(f.out _).mono ?_);rintro e d ⟨rfl,b⟩)
  go_ret;exact⟨Qm i.out.symm,g.tr b⟩
 ·have i:=Xh (show Jm id m=(m.peer==id)by unfold Jm;rw [h];rfl);rw [h]at f
  go_wp2_with (go_at_call 73;(refine(f.out _).mono ?_);rintro e d ⟨rfl,b⟩;have q:d.cell? ⟨X,1,none⟩=some (.int .i64 m.peer):=(b.cell (p:=⟨X,1,none⟩) j).trans o;have r:d.cell? ⟨B,0,none⟩=some (.int .i64 id):=(b.cell (p:=⟨B,0,none⟩) k).trans n;have s:Lt X d:=Xl j b.size;have t:Lt B d:=Xl k b.size)
  go_ret;exact⟨Qm i.out.symm,g.tr b⟩
theorem Qng(a:Ag)(x:Co)(hx:TuR x.t)(B:Nat)(w:World)(hB:Qc w B=agv a)(lB:Lt B w):
  Cr 71 #[.agg #[.int .u32 x.t.a,.int .u32 x.t.b,.int .u16 x.t.c,.int .u16 x.t.d,.int .i64 x.s,.int .i64 x.l],.pointer (some ⟨B,0,none⟩)] w (.bool (QbN a x)):=by
 obtain⟨o,r⟩: ∃o:Nat,ofT x.t=o:=⟨(ofT x.t).toNat,by have:=(QbY x.t).1;omega⟩;have K:o<16:=by have:=(QbY x.t).2;omega
 have C:=Xh (fun W=>r▸QgC x.t hx W);have u:=Xh (show QbN a x=((a.md o).kind==0||(a.md o).ret)by unfold QbN;rw [r];rfl);clear r hx
 go_enter Tryz.func71,Tryz.ntmps71
 go_upto_region 1 with(fail)
 obtain⟨i,f⟩: ∃i,w.alloc (.cells #[.int .u32 x.t.a,.int .u32 x.t.b,.int .u16 x.t.c,.int .u16 x.t.d,.int .i64 x.s,.int .i64 x.l] 66)=i:=⟨_,rfl⟩;have m:Ext w i:=by rw [←f];exact Ea
 have h:RowZ i w.heap.size #[.int .u32 x.t.a,.int .u32 x.t.b,.int .u16 x.t.c,.int .u16 x.t.d,.int .i64 x.s,.int .i64 x.l]:=by rw [←f];exact RowZ.new _ _ _
 have v:Qc i B=agv a:=Zc m lB hB;have n:Lt B i:=Xl lB m.size;rw [f];clear f hB lB;have D:=h.cell 0 (by show 0<6;omega);have E:=h.cell 1 (by show 1<6;omega);have F:=h.cell 2 (by show 2<6;omega);have G:=h.cell 3 (by show 3<6;omega);have H:=h.l;clear h;generalize w.heap.size=X at*;have L:2+o*4+4≤67:=by omega
 have N:(o:Int)<16:=by omega
 go_upto_region 2 with(go_at_call 43;(refine(C.out _).mono ?_);rintro e g ⟨rfl,k⟩;have I:=Zc k n v;have J:Lt B g:=Xl n k.size)
 obtain⟨j,f⟩: ∃j,Qe (g.alloc (.cells #[.int .u8 0,.int .i64 0,.int .i64 0,.bool false] 23)) g.heap.size 0 (mdv (a.md o))=j:=⟨_,rfl⟩;have y:Ext g j:=by rw [←f];exact Ext.sa _ (Nat.le_refl _) Ea
 have p:Qc j g.heap.size=mdv (a.md o):=by rw [←f];exact Qq _ _ _ (by rw [Zn,J2];rfl)
 have O:j.cell? ⟨g.heap.size,0,none⟩=some (.int .u8 (a.md o).kind):=by rw [Qa,p,Qlw]
 have P:j.cell? ⟨g.heap.size,3,none⟩=some (.bool (a.md o).ret):=by rw [Qa,p,Qlx]
 have z:=Xh (m.tr (k.tr y));rw [f];clear f k y p I J v n D E F G H;generalize g.heap.size=M at*
 cases A:((a.md o).kind==0)
 ·have q:=Xh (show QbN a x=(a.md o).ret by rw [u.out,A];rfl);go_wp2;go_ret;exact⟨Qm q.out.symm,z.out⟩
 ·have q:=Xh (show QbN a x=true by rw [u.out,A];rfl);go_wp2;go_ret;exact⟨Qm q.out.symm,z.out⟩
theorem QvE(a:Ag)(h:Yj a=true):agR a=(!((YI a).any (Jm a.id))&&!(a.xs.any (QbN a))):=by
 have b:((List.range 16).all fun k=>Qdd a k)=!((YI a).any (Jm a.id)):=by
  unfold YI;rw [List.any_map,List.not_any_eq_all_not]
  congr 1
  funext k
  unfold Qdd;show _=!(Jm a.id (a.md k));unfold Jm;rw [Bool.not_or,Bool.not_not];rfl
 have d:(a.xs.all fun c=>cnA a c)=!(a.xs.any (QbN a)):=by
  rw [List.not_any_eq_all_not]
  congr 1
  funext c
  unfold cnA QbN;rw [Bool.not_or];rfl
 unfold agR;rw [h,b,d];rfl
theorem YX(a:Ag)(w:World)(hs:SlC w a.p a.xs)(hl:a.xs.length≤1000)(hr: ∀x∈a.xs,TuR x.t)(hk: ∀k,k<16→0≤(a.md k).kind):
  Cr 22 #[.agg (agv a)] w (.bool (agR a)):=by
 have A:=Xh hs;have D:=Xh hr;have E:=Xh (fun m (hm:m∈YI a)=>show 0≤m.kind by unfold YI at hm;obtain⟨k,P,rfl⟩:=List.mem_map.1 hm;exact hk k (by simpa using P));clear hs hr hk
 go_enter Tryz.func22,Tryz.ntmps22
 go_upto_region 3 with(fail)
 obtain⟨f,q⟩: ∃f,w.alloc (.cells (agv a) 27)=f:=⟨_,rfl⟩;have g:Ext w f:=by rw [←q];exact Ea
 have o:Qc f w.heap.size=agv a:=by rw [←q];simp [go_sem]
 have h:Lt w.heap.size f:=by rw [←q];simp [go_sem]
 rw [q];clear q;have I:f.cell? ⟨w.heap.size,0,none⟩=some (.int .i64 a.id):=by rw [Qa,o,Jw]
 have R:f.cell? ⟨w.heap.size,1,none⟩=some (.int .i64 a.idle):=by rw [Qa,o,Jb]
 cases s:decide (0≤a.id)
 ·have J:=of_decide_eq_false s;have b:=Xh (Ya (a:=a) (by unfold Yj;rw [s];rfl));go_wp2;go_ret;exact⟨Qm b.out.symm,g⟩
 have J:=of_decide_eq_true s
 cases u:decide (a.id<6)
 ·have K:=of_decide_eq_false u;have b:=Xh (Ya (a:=a) (by unfold Yj;rw [u];simp));go_wp2;go_ret;exact⟨Qm b.out.symm,g⟩
 have K:=of_decide_eq_true u
 cases v:decide (0≤a.idle)
 ·have L:=of_decide_eq_false v;have b:=Xh (Ya (a:=a) (by unfold Yj;rw [v];simp));go_wp2;go_ret;exact⟨Qm b.out.symm,g⟩
 have L:=of_decide_eq_true v
 cases y:decide (a.idle≤1099511627776)
 ·have M:=of_decide_eq_false y;have b:=Xh (Ya (a:=a) (by unfold Yj;rw [y];simp));go_wp2;go_ret;exact⟨Qm b.out.symm,g⟩
 have M:=of_decide_eq_true y;have F:f.cell? ⟨w.heap.size,66,none⟩=some (.slice a.p a.xs.length a.c):=by rw [Qa,o,Qu]
 have N:=Xh (Qca a)
 have i:=Xh (QeX 72 #[.pointer (some ⟨w.heap.size,0,none⟩)] Qfw (Jm a.id) (some ⟨w.heap.size,2,none⟩) (YI a) 16 f (SlM.ag o h) (by rw [Qca];omega) (fun m W hm hE=>by
  rw [←YH]
  exact Qkc m a.id w.heap.size W ((hE.cell (p:=⟨w.heap.size,0,none⟩) h).trans I) (Xl h hE.size) (E.out m hm)))
 rw [N.out]at i;have r:=Xh (fun W (hE:Ext f W)=>ZG a.p a.xs a.c W (A.out.ext (g.tr hE)) hl);have O:=Xh (fun W (hE:Ext f W)=>QaK 71 #[.pointer (some ⟨w.heap.size,0,none⟩)] Qhd (QbN a) a.p a.xs a.c W (A.out.ext (g.tr hE)) hl (fun x W' hm hE'=>Qng a x (D.out x hm) w.heap.size W' (Zc (hE.tr hE') h o) (Xl h (hE.tr hE').size)));clear A D E
 cases z:QJ a.xs
 ·have b:=Xh (Ya (a:=a) (by unfold Yj;rw [z];simp));rw [z]at r
  cases j:(YI a).any (Jm a.id)
  ·rw [j]at i
   go_wp2_with (first|(go_at_call 74;(with_reducible refine(i.out).mono ?_);rintro e l ⟨rfl,d⟩;have G:l.cell? ⟨w.heap.size,66,none⟩=some (.slice a.p a.xs.length a.c):=(d.cell (p:=⟨w.heap.size,66,none⟩) h).trans F;have B:Lt w.heap.size l:=Xl h d.size)|(go_at_call 75;(with_reducible refine(r.out _ d).mono ?_);rintro e C ⟨rfl,n⟩))
   go_ret;exact⟨Qm b.out.symm,g.tr (d.tr n)⟩
  ·rw [j]at i
   go_wp2_with (go_at_call 74;(refine(i.out).mono ?_);rintro e l ⟨rfl,d⟩)
   go_ret;exact⟨Qm b.out.symm,g.tr d⟩
 have H:=Xh (QvE a (show Yj a=true by unfold Yj;rw [s,u,v,y,z];rfl));rw [z]at r
 cases j:(YI a).any (Jm a.id)
 ·have b:=Xh (show agR a=!(a.xs.any (QbN a))by rw [H.out,j];rfl);rw [j]at i
  go_wp2_with (first|(go_at_call 74;(with_reducible refine(i.out).mono ?_);rintro e l ⟨rfl,d⟩;have G:l.cell? ⟨w.heap.size,66,none⟩=some (.slice a.p a.xs.length a.c):=(d.cell (p:=⟨w.heap.size,66,none⟩) h).trans F;have B:Lt w.heap.size l:=Xl h d.size)|(go_at_call 75;(with_reducible refine(r.out _ d).mono ?_);rintro e C ⟨rfl,n⟩;have S:C.cell? ⟨w.heap.size,66,none⟩=some (.slice a.p a.xs.length a.c):=(n.cell (p:=⟨w.heap.size,66,none⟩) B).trans G;have T:Lt w.heap.size C:=Xl B n.size)|(go_at_call 76;(with_reducible refine(O.out _ (d.tr n)).mono ?_);rintro e U ⟨rfl,Q⟩))
  go_ret;exact⟨Qm b.out.symm,g.tr (d.tr (n.tr Q))⟩
 ·have b:=Xh (show agR a=false by rw [H.out,j];rfl);rw [j]at i
  go_wp2_with (go_at_call 74;(refine(i.out).mono ?_);rintro e l ⟨rfl,d⟩)
  go_ret;exact⟨Qm b.out.symm,g.tr d⟩
section
theorem Ze(hs:(Qc w B).size=67)(hz:Qs w B=(0,0))(hcs:cs.size=67)(ho:QK cs)
  (hx:ρ x= .pointer (some ⟨B,0,none⟩))(hy:ρ y= .agg cs):(execOp ρ ⟨dst,.store 27 x y,ty,pos,after,g⟩).run Tryz.prog w= .ok .skip (Qe w B 0 cs):=by
 have e:=QbL ρ dst x y ty pos after g w (by rw [hx];rfl) (by rw [hy];rfl) (by rw [hy];exact hcs) (by rw [hx];show Fits 0 67 (Qc w B);unfold Fits;omega) (by rw [hx];exact hz) (by rw [hy];exact ho);rw [e,hx,hy];rfl
theorem Qnh(w:World):(Instr.build 27 #[]).run Tryz.prog w= .ok (.agg (agv agz)) w:=by
 refine QcC #[(0,1),(1,1),(2,64),(66,1)] (Tryz.zeroValue27 w) Tryz.underlying27 Kr ?_;rw [QsD];rfl
theorem QeY(w:World):
  (execOp ρ ⟨dst,.build 27 #[],ty,pos,after,g⟩).run Tryz.prog w= .ok (.value (.agg (agv agz))) w:=by
 have h:=Qnh w;simp only [execOp,List.map_toArray,List.map_nil,Sem.run_bind,h,Result.andThen_ok,Sem.run_pure]
attribute [go_sem ↓ high] QeY
attribute [local go_sem ↓ high] Qz Z1
def QeZ(id idle:Int):Ag:=if agR (agN id idle)then agN id idle else agz
def Qcb(id idle:Int):Int:=if agR (agN id idle)then 0 else 2
theorem QiJ(id idle:Int)(w:World):Cr 10 #[.int .i64 id,.int .i64 idle] w (.tuple #[.agg (agv (QeZ id idle)),.int .i64 (Qcb id idle)]):=by
 have m:=Xh (fun W=>YX (agN id idle) W (SlC.nil _ _) (by show 0≤1000;omega) (fun x hx=>by cases hx) (fun k O=>by show 0≤(0:Int);omega))
 go_enter Tryz.func10,Tryz.ntmps10
 go_wp2;obtain⟨c,d⟩: ∃c,Qe ((w.alloc (.cells (agv agz) 27)).alloc (.cells (agv agz) 27)) (w.heap.size+1) 0 (agv (Qj9 id idle))=c:=⟨_,rfl⟩;have v:Ext w c:=by rw [←d];exact Ext.sa _ Om (Ext.al Ea _)
 have y:Qc c (w.heap.size+1)=agv (Qj9 id idle):=by rw [←d];exact Qq _ _ _ (by rw [show w.heap.size+1=(w.alloc (.cells (agv agz) 27)).heap.size by simp,Zn,Qg,Qg])
 have z:Qs c (w.heap.size+1)=(0,0):=by rw [←d,ZV];simp [go_sem]
 have A:Qc c w.heap.size=agv agz:=by rw [←d,ZP _ _ _ _ _ Om];simp [go_sem]
 have B:Qs c w.heap.size=(0,0):=by rw [←d,ZV];simp [go_sem]
 have C:Lt (w.heap.size+1) c:=by rw [←d];simp [go_sem]
 try rw [QsD]
 rw [d];clear d
 go_loopw [7,11] (fun _ a wr=> ∃k:Nat,k≤16∧a= .int .i64 k∧Qc wr (w.heap.size+1)=agv {agz with id:=id,idle:=idle,md:=fun i=>if i<k then md0 else mdz}∧Qs wr (w.heap.size+1)=(0,0)∧Qc wr w.heap.size=agv agz∧Qs wr w.heap.size=(0,0)∧Lt (w.heap.size+1) wr∧Ext w wr) (fun _ a _=>16- (intOf a).toNat)
 case atStart=>exact⟨0,Nat.zero_le _,rfl,y,z,A,B,C,v⟩
 case round=>
  obtain⟨k,O,rfl,o,G,p,q,l,u⟩:=hrel;have g:Lt w.heap.size wr:=by unfold Lt at*;omega
  clear y z A B C v
  by_cases N:k<16
  ·have P:(k:Int)<16:=by omega
   have H:=Xh o;have I:=Xh G;have J:=Xh p;have K:=Xh q;clear o G p q;have Q:2+k*4+4≤67:=by omega
   go_wp2_with (go_at_call 38;(refine(QpT _).mono ?_);rintro e f ⟨rfl,b⟩;have r:=Zc b l H.out;have L:Qs f (w.heap.size+1)=(0,0):=(by unfold Qs;rw [b.block _ l];exact I.out))
   go_roundw
   case rel=>
    refine⟨k+1,Om,by go_num,(QiG md0 r N).trans (Qf3 rfl rfl (fun i hi=> ?_) rfl rfl rfl),by rw [ZV];exact L,by rw [ZP _ _ _ _ _ Om];exact Zc b g J.out,by rw [ZV];unfold Qs;rw [b.block _ g];exact K.out,by rw [QaS];exact Xl l b.size,Ext.sa _ Om (u.tr b)⟩;dsimp only
    by_cases h:i=k
    ·rw [if_pos h,if_pos Om]
    ·rw [if_neg h]
     by_cases F:i<k
     ·rw [if_pos F,if_pos Om]
     ·rw [if_neg F,if_neg Om]
   case measure=>simp [intOf];omega
  ·obtain rfl:k=16:=by omega
   have D:Qc wr (w.heap.size+1)=agv (agN id idle):=o.trans (Qf3 rfl rfl (fun i hi=>by dsimp only;rw [if_pos hi];rfl) rfl rfl rfl);have E:=Xh u;clear o u
   cases n:agR (agN id idle)
   ·have j:=Xh (show QeZ id idle=agz∧Qcb id idle=2 by unfold QeZ Qcb;rw [n];exact⟨rfl,rfl⟩);rw [n]at m
    go_wp2_with (go_at_call 22;(refine(m.out _).mono ?_);rintro e f ⟨rfl,b⟩;have r:=Zc b l D;have s:=Zc b g p;have M:Qs f w.heap.size=(0,0):=(by unfold Qs;rw [b.block _ g];exact q))
    have t:Qc (Qe f w.heap.size 0 (agv agz)) w.heap.size=agv agz:=Qq _ _ _ (by rw [s]);refine bodyPost_ret (QL rfl _ _ w.heap.size rfl (Yp t)) rfl ⟨by rw [j.out.1,j.out.2];rfl,Ext.sa _ (Nat.le_refl _) (E.out.tr b)⟩
   ·have j:=Xh (show QeZ id idle=agN id idle∧Qcb id idle=0 by unfold QeZ Qcb;rw [n];exact⟨rfl,rfl⟩);rw [n]at m
    go_wp2_with (go_at_call 22;(refine(m.out _).mono ?_);rintro e f ⟨rfl,b⟩;have r:=Zc b l D;have s:=Zc b g p;have M:Qs f w.heap.size=(0,0):=(by unfold Qs;rw [b.block _ g];exact q))
    have t:Qc (Qe f w.heap.size 0 (agv (agN id idle))) w.heap.size=agv (agN id idle):=Qq _ _ _ (by rw [s,Qg,Qg]);refine bodyPost_ret (QL rfl _ _ w.heap.size rfl (Yp t)) rfl ⟨by rw [j.out.1,j.out.2];rfl,Ext.sa _ (Nat.le_refl _) (E.out.tr b)⟩
theorem Zx{a:Ag}(h0:RowZ w B (agv a))(hC: ¬C B){q:Operand}
  (hx:ρ q= .pointer (some ⟨B,0,none⟩)): ∀w',Mv C w w'→(execOp ρ ⟨dst,.load 27 q,ty,pos,after,g⟩).run Tryz.prog w'= .ok (.value (.agg (agv a))) w':=by
 intro w' c;have b:=h0.mv c hC;have e:=QcA ρ dst q ty pos after g w' (by rw [hx];rfl) (by rw [hx];show Fits 0 67 (Qc w' B);rw [b.r];unfold Fits;rw [Qg];omega);rw [e,hx];show Result.ok (Next.value (Value.agg (QB (Qc w' B) 0 67))) w'=_;rw [b.r,QdJ]
theorem Q0{v:Int}(h0:w.cell? ⟨B,i,none⟩=some (.int .i64 v))(hl:Lt B w)(hC: ¬C B){q:Operand}
  (hx:ρ q= .pointer (some ⟨B,i,none⟩)): ∀w',Mv C w w'→(execOp ρ ⟨dst,.load 3 q,ty,pos,after,g⟩).run Tryz.prog w'= .ok (.value (.int .i64 v)) w':=by
 intro w' a;have b:w'.cell? ⟨B,i,none⟩=some (.int .i64 v):=by rw [Qa,Qf (a.same B hl hC),←Qa];exact h0
 simp only [execOp,hx];go_simp
theorem ZQ{a:Ag}(h:Qc w B=agv a):w.cell? ⟨B,0,none⟩=some (.int .i64 a.id):=by rw [Qa,h,Jw]
def QvF(id:Int)(p:Option Addr)(n c:Nat)(v:Value)(w':World):Prop:= ∃B,v= .func (.func 138) #[] #[.pointer (some ⟨B+1,0,none⟩),.pointer (some ⟨B,0,none⟩)]∧w'.cell? ⟨B+1,0,none⟩=some (.slice p n c)∧w'.cell? ⟨B,0,none⟩=some (.int .i64 id)∧Lt (B+1) w'
theorem Qp0(id:Int)(p:Option Addr)(n c:Nat)(w:World):Calls Tryz.prog 60 #[.int .i64 id,.slice p n c] w fun e w'=> ∃v,e= .returned v∧QvF id p n c v w'∧Ext w w':=
 (QpO id (.slice p n c) w ⟨_,_,_,rfl⟩).mono fun e w' ⟨h1,h2⟩=>⟨_,h1,⟨w.heap.size,rfl,by rw [h2];simp [go_sem],by rw [h2];simp [go_sem],by rw [h2];simp [go_sem,Lt]⟩,by rw [h2];exact Ext.al Ea _⟩
theorem SlE.mvo{B:World}{n:Nat}{xs:List Ev}(h:SlE A p xs)(m:Mv (fun k=>k=n) A B)(hb: ∀b off,p=some ⟨b,off,none⟩→b≠n):SlE B p xs:=fun k hk=>by
 obtain⟨b,off,a,c,d,f,g,i,j,l⟩:=h k hk;have e:=Qf (m.same b c (hb b off a));simp only [Qa]at d f g i j l⊢;exact⟨b,off,a,Xl c m.size,by rw [e];exact d,by rw [e];exact f,by rw [e];exact g,by rw [e];exact i,by rw [e];exact j,by rw [e];exact l⟩
def QsI(lo:Nat)(xs:List Ev)(v:Value)(w':World):Prop:= ∃q d,v= .slice q xs.length d∧SlE w' q xs∧ ∀b off,q=some ⟨b,off,none⟩→lo≤b
theorem QpR.at{w':World}{v:Value}{xs:List Ev}(h:QpR w w' v xs):QsI w.heap.size xs v w':=by
 obtain⟨p,c,e,-,s⟩:=SlE.own h.own;exact⟨p,c,e,s,fun b off e2=>Qi h.own b (by rw [e,e2];rfl)⟩
theorem Ql0(id:Int)(p:Option Addr)(xs:List Co)(c B lo:Nat)(w:World)(hs:SlC w p xs)(hl:xs.length≤1000)(hc:w.cell? ⟨B+1,0,none⟩=some (.slice p xs.length c))(hi:w.cell? ⟨B,0,none⟩=some (.int .i64 id))(l1:Lt (B+1) w)(hlo:lo≤w.heap.size):
  Calls Tryz.prog 59 #[.func (.func 138) #[] #[.pointer (some ⟨B+1,0,none⟩),.pointer (some ⟨B,0,none⟩)]] w fun e w'=> ∃v,e= .returned v∧QsI lo (ZN id xs) v w'∧Ext w w':=
 (QpS id p xs c B w hs hl hc hi l1).mono fun e w' ⟨v,h1,h2⟩=>⟨v,h1,(by obtain⟨q,d,e,s,h⟩:=h2.at;exact⟨q,d,e,s,fun b off e=>Xt hlo (h b off e)⟩),h2.ext⟩
theorem SlC.mvo{B:World}{n:Nat}{xs:List Co}(h:SlC A p xs)(m:Mv (fun k=>k=n) A B)(hb: ∀b off,p=some ⟨b,off,none⟩→b≠n):SlC B p xs:=fun k hk=>by
 obtain⟨b,off,a,c,d,f,g,i,j,l⟩:=h k hk;have e:=Qf (m.same b c (hb b off a));simp only [Qa]at d f g i j l⊢;exact⟨b,off,a,Xl c m.size,by rw [e];exact d,by rw [e];exact f,by rw [e];exact g,by rw [e];exact i,by rw [e];exact j,by rw [e];exact l⟩
theorem QvG{a:Ag}(h:agR a=true):Yj a=true:=by
 cases b:Yj a
 ·rw [Ya b]at h;cases h
 ·rfl
theorem QiK{a:Ag}(h:agR a=true):0≤a.idle∧a.idle≤1099511627776∧0≤a.id∧a.id<6∧QJ a.xs=true:=by
 have:=QvG h;unfold Yj at this;simp only [Bool.and_eq_true,decide_eq_true_eq]at this;obtain⟨⟨⟨⟨b,c⟩,d⟩,e⟩,f⟩:=this;exact⟨d,e,b,c,f⟩
def JN(a:Ag)(now:Int):List Co:=if agR a then a.xs.filter (fun x=>!idleB a.idle now x)else a.xs
def Qa6(a:Ag)(now:Int):List Ev:=if agR a then ZN a.id (a.xs.filter (idleB a.idle now))else []
def QAj(w:World)(a:Ag)(xs:List Co)(es:List Ev)(e:Ending)(w':World):Prop:= ∃p c q d,e= .returned (.tuple #[.agg (agv {a with p:=p,xs:=xs,c:=c}),.slice q es.length d])∧SlC w' p xs∧SlE w' q es∧Ext w w'
end
section
attribute [local go_sem ↓ high] Qz Z1
def Qp1(ops:Array Oper):Prop:=Region.noSelect ops=true∧Qo ops 8 [0,1,2,3] 0=true∧Rd ops 8 15 [4]∧Rd ops 8 31 [5]∧Rd ops 8 63 [6]∧Qo ops 8 [7] 127=true∧Rd ops 8 255 []∧lateB .any ops 6 0=true
theorem Qkd:Qp1 ((Tryz.f20.body.bind (Qh 6)).getD #[]):=⟨Kr,Kr,Rk,Rk,Rk,Kr,Rk,Kr⟩
theorem Qdg(a:Ag)(now:Int)(w:World)(hs:SlC w a.p a.xs)(hl:a.xs.length≤1000)(hr: ∀x∈a.xs,TuR x.t)(hk: ∀k,k<16→0≤(a.md k).kind):
  Calls Tryz.prog 20 #[.agg (agv a),.int .i64 now] w (QAj w a (JN a now) (Qa6 a now)):=by
 have U:=Xh (fun W (hE:Ext w W)=>YX a W (hs.ext hE) hl hr hk);have b5:=Xh (fun W (hE:Ext w W)=>QcD a W (hs.ext hE) hl);have HS:=Xh hs;clear hs hr hk
 go_enter Tryz.func20,Tryz.ntmps20
 go_upto_region 1 with(fail)
 obtain⟨F,f⟩: ∃F,(w.alloc (.cells (agv a) 27)).alloc (.cells (agv agz) 27)=F:=⟨_,rfl⟩;have g0:Ext w F:=by rw [←f];exact Ext.al Ea _
 have ra:RowZ F w.heap.size (agv a):=by rw [←f];exact⟨by simp [go_sem],by simp [go_sem],by simp [go_sem,Lt]⟩
 have rz:RowZ F (w.heap.size+1) (agv agz):=by rw [←f];exact⟨by simp [go_sem],by simp [go_sem],by simp [go_sem,Lt]⟩
 rw [f];clear f;have b8:=ra.r;have b9:=Xh ra;have V:=Xh rz;clear ra rz
 go_upto_region 2 with(go_at_call 25;(refine(b5.out _ g0).mono ?_);rintro e w1 ⟨n,y,rfl,q⟩;have s1:=q.own;have D:=q.ext;clear q;have c0:=(V.out.ext D).r;have c2:=(V.out.ext D).z)
 obtain⟨u,f⟩: ∃u,Qe w1 (w.heap.size+1) 0 (agv {a with p:=n,c:=y})=u:=⟨_,rfl⟩;have X:Mv (fun k=>k=w.heap.size+1) w1 u:=by rw [←f];exact Mv.sa _ rfl (Mv.refl _ _)
 have H:Ext w u:=Mv.ext_of (g0.tr D) X (fun k h=>by omega);have Y:RowZ u w.heap.size (agv a):=(b9.out.ext D).mv X Om;have I:RowZ u (w.heap.size+1) (agv {a with p:=n,c:=y}):=by rw [←f];exact(V.out.ext D).all _ (by rw [Qg,Qg])
 have c3:w.heap.size+2≤F.heap.size:=by have:=V.out.l;unfold Lt at this;omega
 have s2:SlC u n a.xs:=by
  obtain⟨p,c,e,-,s⟩:=SlC.own (Qw s1 X (fun k hk e=>by omega))
  cases e;exact s
 have a8: ∀b off,n=some ⟨b,off,none⟩→b≠w.heap.size+1:=fun b off e=>by
  have:=Qi s1 b (by rw [e];rfl);omega
 rw [f];clear f s1 X c0 c2 b8 D g0;have a3:=Y.r
 cases O:agR a
 ·have m:=Xh (show JN a now=a.xs∧Qa6 a now= []by unfold JN Qa6;rw [O];exact⟨rfl,rfl⟩);rw [O]at U;have e1:=I.r;have e2:=I.z
  go_wp2_with (go_at_call 22;(refine(U.out _ H).mono ?_);rintro e B ⟨rfl,o⟩;have a9:=I.ext o;have c4:=a9.r;have e3:=a9.z)
  have m4:Mv (fun k=>k=w.heap.size+1) B (Qe B (w.heap.size+1) 0 (agv {a with p:=n,c:=y})):=Mv.sa _ rfl (Mv.refl _ _);have hr:Qc (Qe B (w.heap.size+1) 0 (agv {a with p:=n,c:=y})) (w.heap.size+1)=agv {a with p:=n,c:=y}:=Qq _ _ _ (by rw [c4]);refine bodyPost_ret (QL rfl _ _ (w.heap.size+1) rfl (Yp hr)) rfl ⟨n,y,none,0,by rw [m.out.1,m.out.2];rfl,?_,by rw [m.out.2];exact SlE.nil _ _,Mv.ext_of (H.tr o) m4 (fun k e=>by omega)⟩;rw [m.out.1];exact(s2.ext o).mvo m4 a8
 have m:=Xh (show JN a now=a.xs.filter (fun x=>!idleB a.idle now x)∧Qa6 a now=ZN a.id (a.xs.filter (idleB a.idle now))by unfold JN Qa6;rw [O];exact⟨rfl,rfl⟩);rw [O]at U;have b0:a.idle≤9223372036854775807:=by have:=QiK O;omega
 obtain⟨xs,G⟩: ∃xs,a.xs=xs:=⟨_,rfl⟩;have b1:=Xh (fun W (hE:Ext w W)=>Qoq a.p a.xs a.c a.idle now W (HS.out.ext hE) hl b0 _ _ _ rfl rfl rfl);have J:(xs.filter (idleB a.idle now)).length≤1000:=Xt (List.length_filter_le _ _) (by rw [←G];exact hl);have c5:(xs.filter (fun x=>!idleB a.idle now x)).length≤1000:=Xt (List.length_filter_le _ _) (by rw [←G];exact hl);rw [G]at m b1;have e4:=Xh G;have a4:u.cell? ⟨w.heap.size,66,none⟩=some (.slice a.p a.xs.length a.c):=by rw [Qa,a3,Qu]
 have c1:u.cell? ⟨w.heap.size,1,none⟩=some (.int .i64 a.idle):=by rw [Qa,a3,Jb]
 rw [G]at a4;have c8:=Xh I;have c9:=Xh Y;have lx:=Y.l;clear I s2 a8 hl G Y
 go_upto_region 5 with(first|(go_at_call 22;(with_reducible refine(U.out _ H).mono ?_);rintro e B ⟨rfl,o⟩;have a5:=c9.out.ext o;have d0:=a5.l;have d2:B.cell? ⟨w.heap.size,66,none⟩=some (.slice a.p xs.length a.c):=(o.cell (p:=⟨w.heap.size,66,none⟩) lx).trans a4;have d1:B.cell? ⟨w.heap.size,1,none⟩=some (.int .i64 a.idle):=(o.cell (p:=⟨w.heap.size,1,none⟩) lx).trans c1;have a6:=c8.out.ext o)|(go_at_call 69;(with_reducible refine(b1.out _ (H.tr o)).mono ?_);rintro e w4 ⟨v1,v2,rfl,⟨q,P,-⟩,g4⟩;obtain⟨Q,c6,rfl,-,j⟩:=SlC.own q;obtain⟨S,c7,rfl,-,g⟩:=SlC.own P;have b6:=Qi q;have b7:=Qi P;have b2:=Xh (a5.ext g4);have b3:=Xh (a6.ext g4);have z3:=a6.l;clear q P))
 have Z:=b2.out;have d:=b3.out;have z2:w.heap.size+1<B.heap.size:=z3;have e6: ∀b off,Q=some ⟨b,off,none⟩→b≠w.heap.size+1:=fun b off e=>by have:=b6 b (by rw [e];rfl);omega
 have e7: ∀b off,S=some ⟨b,off,none⟩→b≠w.heap.size+1:=fun b off e=>by have:=b7 b (by rw [e];rfl);omega
 have d3:w4.cell? ⟨w.heap.size+1,66,none⟩=some (.slice n a.xs.length y):=by rw [Qa,d.r,Qu]
 have d4:=d.frz 66;have lO:=d.l;have E6:=Xh e6;have E7:=Xh e7;have S6:=Xh j;have S7:=Xh g;have HF:=Xh J;clear b6 b7 z3 d2 d1 a5 a6 d0 Z d e6 e7 j g J c5 b0 a4 c1 a3 lx c3
 go_upto_region 6 with(fail)
 obtain⟨A,a7⟩: ∃A:Ag,A={a with p:=S,xs:=xs.filter (fun x=>!idleB a.idle now x),c:=c7}:=⟨_,rfl⟩;obtain⟨C,f⟩: ∃C,w4.setCell ⟨w.heap.size+1,66,none⟩ (.slice S (xs.filter (fun x=>!idleB a.idle now x)).length c7)=C:=⟨_,rfl⟩;have K:Mv (fun k=>k=w.heap.size+1) w4 C:=by rw [←f];exact Mv.st _ (.inl rfl) (Mv.refl _ _)
 have d:RowZ C (w.heap.size+1) (agv A):=by
  have h:=b3.out;rw [←f,a7];exact⟨(Qab (a:={a with p:=n,c:=y}) S (xs.filter (fun x=>!idleB a.idle now x)) c7 h.r),(by rw [QR];exact h.z),(by rw [Zk];exact h.l)⟩
 have L:=b2.out.mv K Om;have E:Ext w C:=Mv.ext_of (H.tr (o.tr g4)) K (fun k e=>by omega);have j:=S6.out.mvo K E6.out;have g:=S7.out.mvo K E7.out;have J:=HF.out;rw [f];clear f K d3 d4;have d6:=Xh a7;clear a7;refine Qy (fun _=>False) (fun k=>k=w.heap.size+1) 6 Kr ?_;obtain⟨WA,f⟩: ∃Wdr,World.drew C=Wdr:=⟨_,rfl⟩;have M:Ext C WA:=by rw [←f];exact Ext.dr (Ext.rf _)
 rw [f];clear f;have E:=E.tr M;have d:=d.ext M;have j:=j.ext M;have g:=g.ext M;have L:=L.ext M;have Z:=L.r;have lX:=L.l;refine Zi (N:=8) (R:=Qp1) (E:=((Tryz.f20.body.bind (Qh 6)).getD #[])) Kr Qkd Kr fun hS=> ?_;have i:=hS.2.1;refine ZD (N:=8) (k:=0) (m':=1) (v:= .agg (agv A)) hS.1 i hS.2.2.2.2.2.2.2 rfl rfl Kr (Zx d (fun h=>h) Kr) fun i=>tWk 3 (.pointer (some ⟨w.heap.size,0,none⟩)) hS.1 i rfl fun i=>tW 7 (.int .i64 a.id) hS.1 i rfl (Q0 (ZQ Z) lX Om Kr) fun i=>tWk 15 (.slice Q (xs.filter (idleB a.idle now)).length c6) hS.1 i rfl fun i=> ?_;refine sV 31 (QvF a.id Q (xs.filter (idleB a.idle now)).length c6) hS.2.2.1 rfl (Qp0 a.id Q _ c6 WA) ?_;rintro _ e0 a0 ⟨BO,rfl,q,P,o3⟩;have E:=E.tr a0;have d:=d.ext a0;have j:=j.ext a0;have g:=g.ext a0;refine sV 63 (QsI (w.heap.size+2) (ZN a.id (xs.filter (idleB a.idle now)))) hS.2.2.2.1 rfl (Ql0 a.id Q (xs.filter (idleB a.idle now)) c6 BO _ e0 j J q P o3 (by have:=d.l;unfold Lt at this;omega)) ?_;rintro _ b4 a1 ⟨q5,d5,rfl,s5,n5⟩;have E:=E.tr a1;have d:=d.ext a1;have j:=j.ext a1;have g:=g.ext a1;refine Qr hS.2.2.2.2.1 (QE (m':=127) rfl rfl Kr (Ze (cs:=agv A) (by rw [d.r];exact Qg) d.z Qg Zr Kr Kr) ⟨.inl Dc,(Mv.sa _ rfl (Mv.refl _ _))⟩ ?_);obtain⟨T,a2⟩: ∃T,Qe b4 (w.heap.size+1) 0 (agv A)=T:=⟨_,rfl⟩;have gS:Mv (fun k=>k=w.heap.size+1) b4 T:=by rw [←a2];exact Mv.sa _ rfl (Mv.refl _ _)
 have d:RowZ T (w.heap.size+1) (agv A):=by rw [←a2];exact d.all _ rfl
 have E:=Mv.ext_of E gS (fun k e=>by omega);have s5:=s5.mvo gS (fun b off e=>by have:=n5 b off e;omega);have g:=g.mvo gS E7.out;rw [a2];clear a2;have i:=hS.2.2.2.2.2.1;refine tWk 255 (.slice q5 (ZN a.id (xs.filter (idleB a.idle now))).length d5) hS.1 i rfl fun i=> ?_;refine QZ hS.2.2.2.2.2.2.1 ?_;clear hS i;go_simp;have HE:=Xh E;have d7:=Xh s5;have d8:=Xh g;have d9:=Xh d;clear E s5 g j d Z lX L J;go_wp2;have hr:Qc T (w.heap.size+1)=agv A:=d9.out.r;refine bodyPost_ret (QL rfl _ _ (w.heap.size+1) rfl (Yp hr)) rfl ⟨S,c7,q5,d5,?_,?_,?_,HE.out⟩
 ·rw [m.out.1,m.out.2,d6.out];rfl
 ·rw [m.out.1];exact d8.out
 ·rw [m.out.2];exact d7.out
end
end Go.Proofs.YtpeonbaodnmlnaaGreat
