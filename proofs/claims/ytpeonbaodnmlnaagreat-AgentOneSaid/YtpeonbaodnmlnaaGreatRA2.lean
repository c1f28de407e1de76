/- Lemmas of this claim, put together out of: I4, J2, J3, PC, XM, GA, WB, D1, WD, GB, GC, GX, GD, GE, XV, GF, Z3, GG, GH, GI, GJ, GK, GL, XI, GM. -/
import Derived.Test.YtpeonbaodnmlnaaGreatRA1
import Derived.TacticsIn
import Derived.ScopeJumps
set_option linter.unusedSimpArgs false
set_option linter.unusedVariables false
set_option maxRecDepth 100000
set_option maxHeartbeats 16000000
namespace Go.Proofs.YtpeonbaodnmlnaaGreat
open Go.RowKit
variable{a:Act}{Q:Act→World→Prop}{after:Array Edge}{cs:Array Value}{bs:List Int}{rest:List Nat}{B N base fuel i k m m' o off:Nat}{C:Nat→Prop}{oi:Oper}{q x y:Operand}{ρ:Operand→Value}{g:Option (Nat×Bool)}{dst:Option Tmp}{pos:String}{tq ty:TypeId}{a0 a1 a2 a3 a4:Value}{A W w w':World}
theorem Qju(n:Int)(h0:0≤n)(h1:n<256):bits BinOp.xor IntKind.i64 (wrap64 ((wrap64 n).tdiv 16)) ((wrap64 n).tmod 16)=Qei n:=by
 refine QfK (fun n=>bits BinOp.xor IntKind.i64 (wrap64 ((wrap64 n).tdiv 16)) ((wrap64 n).tmod 16)=Qei n) ?_ h0 h1
 kernel_rfl
theorem QoH(t:Tu)(hr:TuR t)(w:World):
  Cr 87 #[tu t.a t.b t.c t.d] w (.int .u8 (sumT t)):=by
 have HR:=Xh hr;clear hr
 go_enter Tryz.func87,Tryz.ntmps87
 go_wp2_with (first|(go_at_call 158;(with_reducible refine(Qb0 t HR.out _).mono ?_);rintro e w1 ⟨v,rfl,ho,hE1⟩;obtain⟨p,c,rfl,hs⟩:=ho.sl (by rw [Qek];omega);have HB:=Xh hs;have hE0:=Ext.tr Ea hE1;clear hs ho)|(go_at_call 157;(with_reducible refine(Qsa 0 (tb t) _ _ _ HB.out (by rw [Qek];omega)).mono ?_);rintro e w2 ⟨rfl,rfl⟩))
 go_ret;exact⟨rfl,hE0⟩
theorem Qln(t:Tu)(hr:TuR t)(w:World):
  Cr 33 #[tu t.a t.b t.c t.d] w (.int .i64 (ofT t)):=by
 have HR:=Xh hr;have HV:=Xh (Qju (sumT t) (Qbm t).1 (Qbm t).2);clear hr
 go_enter Tryz.func33,Tryz.ntmps33
 go_wp2_with (go_at_call 87;(refine(QoH t HR.out _).mono ?_);rintro e w1 ⟨rfl,hE1⟩;have hE0:=Ext.tr Ea hE1)
 go_ret;exact⟨by show _=Ending.returned (.int .i64 (Qei (sumT t)));rw [←HV.out];rfl,hE0⟩
def QcX:List Int→List Int→Int
 |x::xs,y::ys=>if x<y then-1 else if y<x then 1 else QcX xs ys
 |_,_=>0
theorem QxI(n k:Int)(xs ys:List Int)(h0:0≤n∧n<4294967296)(h1:0≤k∧k<4294967296):QcX (byN n 4++xs) (byN k 4++ys)=if n<k then-1 else if k<n then 1 else QcX xs ys:=by
 have e3:(256:Int)^3=16777216:=by decide
 have e2:(256:Int)^2=65536:=by decide
 have e1:(256:Int)^1=256:=by decide
 have e0:(256:Int)^0=1:=by decide
 simp only [byN,List.cons_append,List.nil_append,QcX,e3,e2,e1,e0]
 repeat' split
 all_goals first|rfl|(exfalso;omega)
theorem QxJ(n k:Int)(xs ys:List Int)(h0:0≤n∧n<65536)(h1:0≤k∧k<65536):QcX (byN n 2++xs) (byN k 2++ys)=if n<k then-1 else if k<n then 1 else QcX xs ys:=by
 have e1:(256:Int)^1=256:=by decide
 have e0:(256:Int)^0=1:=by decide
 simp only [byN,List.cons_append,List.nil_append,QcX,e1,e0]
 repeat' split
 all_goals first|rfl|(exfalso;omega)
theorem Qsb(s t:Tu)(hs:TuR s)(ht:TuR t):QcX (tb s) (tb t)=YQ s t:=by
 have e: ∀t:Tu,tb t=byN t.a 4++(byN t.b 4++(byN t.c 2++(byN t.d 2++ []))):=fun t=>rfl;rw [e s,e t,QxI _ _ _ _ hs.1 ht.1,QxI _ _ _ _ hs.2.1 ht.2.1,QxJ _ _ _ _ hs.2.2.1 ht.2.2.1,QxJ _ _ _ _ hs.2.2.2 ht.2.2.2];have key: ∀(x y r:Int),(if cmpI x y=0 then r else cmpI x y)=if x<y then-1 else if y<x then 1 else r:=by
  intro x y r;unfold cmpI
  by_cases h1:x<y
  ·simp [h1]
  ·by_cases h2:y<x
   ·simp [h1,h2]
   ·simp [h1,h2]
 show _=(if cmpI s.a t.a=0 then(if cmpI s.b t.b=0 then(if cmpI s.c t.c=0 then(if cmpI s.d t.d=0 then 0 else cmpI s.d t.d)else cmpI s.c t.c)else cmpI s.b t.b)else cmpI s.a t.a);rw [key,key,key,key];rfl
def QxK(ops:Array Oper):Prop:=Region.noSelect ops=true∧JW ops 6 [0,2] []=true∧Region.ready .any ops (don 6 [2,0])= [1]∧Region.ready .any ops (don 6 [1,2,0])= [3]∧JW ops 6 [4,5] [3,1,2,0]=true∧Region.ready .any ops (don 6 [5,4,3,1,2,0])= []
theorem QAd:QxK ((Tryz.f122.body.bind (Qh 1)).getD #[]):=⟨Kr,Kr,Kr,Kr,Kr,Kr⟩
theorem Qlo{t:Tu}(h:YM w B t)(hC: ¬C B)(hx:ρ x= .pointer (some ⟨B,0,none⟩)):
  ∀w',Mv C w w'→(execOp ρ ⟨dst,.load 64 x,ty,pos,after,g⟩).run Tryz.prog w'= .ok (.value (tu t.a t.b t.c t.d)) w':=by
 intro w' hm;obtain⟨d0,d1,d2,d3⟩:=h.cells;have hs:=Qf (hm.same B h.2 hC);have q0:w'.cell? ⟨B,0,none⟩=some (.int .u32 t.a):=by rw [Qa,hs,←Qa];exact d0
 have q1:w'.cell? ⟨B,1,none⟩=some (.int .u32 t.b):=by rw [Qa,hs,←Qa];exact d1
 have q2:w'.cell? ⟨B,2,none⟩=some (.int .u16 t.c):=by rw [Qa,hs,←Qa];exact d2
 have q3:w'.cell? ⟨B,3,none⟩=some (.int .u16 t.d):=by rw [Qa,hs,←Qa];exact d3
 simp only [execOp,hx];go_simp
theorem QoI(xs ys:List Int)(k:Nat)(hx:k<xs.length)(hy:k<ys.length):QcX (xs.drop k) (ys.drop k)=if xs[k]<ys[k]then-1 else if ys[k]<xs[k]then 1 else QcX (xs.drop (k+1)) (ys.drop (k+1)):=by
 rw [List.drop_eq_getElem_cons hx,List.drop_eq_getElem_cons hy];rfl
theorem Qen(s t:Tu)(hs:TuR s)(ht:TuR t)(w:World):
  Cr 122 #[tu s.a s.b s.c s.d,tu t.a t.b t.c t.d] w (.int .i64 (YQ s t)):=by
 rw [←Qsb s t hs ht];have HS:=Xh hs;have HT:=Xh ht;clear hs ht
 go_enter Tryz.func122,Tryz.ntmps122
 go_upto_region 1 with(fail)
 obtain⟨W0,hW⟩: ∃W0,(w.alloc (.cells #[.int .u32 s.a,.int .u32 s.b,.int .u16 s.c,.int .u16 s.d] 64)).alloc (.cells #[.int .u32 t.a,.int .u32 t.b,.int .u16 t.c,.int .u16 t.d] 64)=W0:=⟨_,rfl⟩;have g0:Ext w W0:=by rw [←hW];exact Ext.al Ea _
 have hsz:W0.heap.size=w.heap.size+2:=by rw [←hW];simp
 have ts:YM W0 w.heap.size s:=by rw [←hW];unfold YM;simp [go_sem,Lt];try omega
 have tt:YM W0 (w.heap.size+1) t:=by rw [←hW];unfold YM;simp [go_sem,Lt];try omega
 rw [hW];clear hW;refine QO (fun k=>W0.heap.size≤k) Kr ?_;obtain⟨W1,hW1⟩: ∃W1,W0.drew=W1:=⟨_,rfl⟩;have g1:Ext W0 W1:=by rw [←hW1];exact Ext.dr (Ext.rf _)
 rw [hW1];clear hW1;refine Qll (N:=6) (R:=QxK) (E:=((Tryz.f122.body.bind (Qh 1)).getD #[])) Kr QAd Kr fun hS=> ?_;have hT:=hS.2.1;refine ZY (N:=6) (k:=0) (v:=(tu s.a s.b s.c s.d)) hS.1 hT rfl Kr (Qlo (ts.ext g1) Om Kr) fun hT=> ?_;refine ZY (N:=6) (k:=2) (v:=(tu t.a t.b t.c t.d)) hS.1 hT rfl Kr (Qlo (tt.ext g1) Om Kr) fun hT=> ?_;refine JK hS.2.2.1 (QfO (R:=fun v w'=>OB w' W1.heap.size v (tb s)) rfl rfl Kr (Qb0 s HS.out W1) fun v1 W2 g2 o1=> ?_);refine JK hS.2.2.2.1 (QfO (R:=fun v w'=>OB w' W2.heap.size v (tb t)) rfl rfl Kr (Qb0 t HT.out W2) fun v2 W3 g3 o2=> ?_);have hT:=hS.2.2.2.2.1;refine ZY (N:=6) (k:=4) (v:=v1) hS.1 hT rfl Kr (fun _ _=>by kernel_rfl) fun hT=> ?_;refine ZY (N:=6) (k:=5) (v:=v2) hS.1 hT rfl Kr (fun _ _=>by kernel_rfl) fun hT=> ?_;refine doneK hS.2.2.2.2.2 ?_;clear hS hT;go_simp;have E3:=g0.tr (g1.tr (g2.tr g3));obtain⟨p1,c1,rfl,s1⟩:=(o1.ext g3).sl (by rw [Qek];omega);obtain⟨p2,c2,rfl,s2⟩:=o2.sl (by rw [Qek];omega);obtain⟨xs,hxs⟩: ∃xs,tb s=xs:=⟨_,rfl⟩;obtain⟨ys,hys⟩: ∃ys,tb t=ys:=⟨_,rfl⟩;have lx:xs.length=12:=by rw [←hxs];rfl
 have ly:ys.length=12:=by rw [←hys];rfl
 rw [hxs]at s1⊢;rw [hys]at s2⊢;rw [lx,ly];have HXS:=Xh hxs;have HYS:=Xh hys;clear o1 o2 ts tt hxs hys g0 g1 g2 g3;go_wp2
 go_loopw [7] (fun a wr=> ∃k:Nat,k≤12∧a= .int .i64 k∧QcX xs ys=QcX (xs.drop k) (ys.drop k)∧Ext w wr∧SlB wr p1 xs∧SlB wr p2 ys) (fun a _=>12- (intOf a).toNat)
 case atStart=>exact⟨0,Om,rfl,rfl,E3,s1,s2⟩
 case round=>
  clear s1 s2 E3;obtain⟨k,hk,rfl,hlx,hE,h1,h2⟩:=hrel
  by_cases hlt:k<12
  ·have hil:(k:Int)<12:=by omega
   have H1:=Xh h1;have H2:=Xh h2;obtain⟨b1,o1,rfl,l1,c1'⟩:=h1 k Om;obtain⟨b2,o2,rfl,l2,c2'⟩:=h2 k Om;have hst:=hlx.trans (QoI xs ys k Om Om);obtain⟨x,hx⟩: ∃x,xs[k]'Om=x:=⟨_,rfl⟩;obtain⟨y,hy⟩: ∃y,ys[k]'Om=y:=⟨_,rfl⟩;rw [hx]at c1' hst;rw [hy]at c2' hst;have L1:Lt b1 wr:=l1;have L2:Lt b2 wr:=l2;clear h1 h2 l1 l2 hx hy hlx
   by_cases hxy:x<y
   ·rw [if_pos hxy]at hst;have HR:=Xh hst;clear hst;have hdx:decide (x<y)=true:=decide_eq_true hxy
    go_upto_region 5 with(fail)
    refine Qk Kr Kr ?_;(repeat(go_big_quiet_step (fail)));refine wpQuiet_nil ?_;intro d
    have hd:=Qt d;go_wp2;exact bodyPost_ret (v:= .int .i64 (-1)) (by simp [results,Tryz.results122,go_sem]) rfl ⟨by rw [HXS.out,HYS.out,HR.out],hE.tr hd⟩
   ·rw [if_neg hxy]at hst;have hdx:decide (x<y)=false:=decide_eq_false hxy;have HX:=Xh hxy
    by_cases hyx:y<x
    ·rw [if_pos hyx]at hst;have HR:=Xh hst;clear hst;have hdy:decide (y<x)=true:=decide_eq_true hyx
     go_upto_region 5 with(fail)
     refine Qk Kr Kr ?_;(repeat(go_big_quiet_step (fail)));refine wpQuiet_nil ?_;intro d
     have hd:=Qt d;obtain⟨W5,hW5⟩: ∃W5,later d=W5:=⟨_,rfl⟩;rw [hW5]at hd⊢;clear hW5;have q1:=(hd.cell (p:=⟨b1,_,none⟩) L1).trans c1';have q2:=(hd.cell (p:=⟨b2,_,none⟩) L2).trans c2';have K1:Lt b1 W5:=Xl L1 hd.size;have K2:Lt b2 W5:=Xl L2 hd.size
     go_upto_region 7 with(fail)
     refine Qk Kr Kr ?_;(repeat(go_big_quiet_step (fail)));refine wpQuiet_nil ?_;intro d2
     have hd2:=Qt d2;go_wp2;exact bodyPost_ret (v:= .int .i64 1) (by simp [results,Tryz.results122,go_sem]) rfl ⟨by rw [HXS.out,HYS.out,HR.out],(hE.tr hd).tr hd2⟩
    ·rw [if_neg hyx]at hst;have HR:=Xh hst;clear hst;have hdy:decide (y<x)=false:=decide_eq_false hyx
     go_upto_region 5 with(fail)
     refine Qk Kr Kr ?_;(repeat(go_big_quiet_step (fail)));refine wpQuiet_nil ?_;intro d
     have hd:=Qt d;obtain⟨W5,hW5⟩: ∃W5,later d=W5:=⟨_,rfl⟩;rw [hW5]at hd⊢;clear hW5;have q1:=(hd.cell (p:=⟨b1,_,none⟩) L1).trans c1';have q2:=(hd.cell (p:=⟨b2,_,none⟩) L2).trans c2';have K1:Lt b1 W5:=Xl L1 hd.size;have K2:Lt b2 W5:=Xl L2 hd.size
     go_upto_region 7 with(fail)
     refine Qk Kr Kr ?_;(repeat(go_big_quiet_step (fail)));refine wpQuiet_nil ?_;intro d2
     have hd2:=Qt d2;go_wp2
     go_roundw
     case rel=>exact⟨k+1,Om,by go_num,HR.out,(hE.tr hd).tr hd2,(H1.out.ext hd).ext hd2,(H2.out.ext hd).ext hd2⟩
     case measure=>simp [intOf];omega
  ·have hil: ¬((k:Int)<12):=by omega
   have HR:=Xh (show QcX xs ys=0 by rw [hlx,List.drop_of_length_le Om];rfl);clear hlx;go_wp2;exact bodyPost_ret (v:= .int .i64 0) (by simp [results,Tryz.results122,go_sem]) rfl ⟨by rw [HXS.out,HYS.out,HR.out],hE⟩
def QtS(xs:List Co)(k:Nat):Prop:= ∃x,xs[k]?=some x∧(ZU x=true∨ ∃m y,k=m+1∧xs[m]?=some y∧0≤YQ y.t x.t)
def QcY(xs:List Co)(k:Nat):Prop:= ∀j,j<k→ ¬QtS xs j
theorem ZK(xs:List Co):QJ xs=true↔xs.length≤32∧QcY xs xs.length:=by
 unfold QJ;simp only [Bool.and_eq_true,decide_eq_true_eq,Bool.not_eq_true',and_assoc];refine and_congr_right fun _=>⟨fun⟨h1,h2⟩ j hj ⟨x,hx,hb⟩=> ?_,fun h=>⟨?_,?_⟩⟩
 ·rcases hb with hb|⟨m,y,rfl,hy,hc⟩
  ·rw [List.any_eq_false]at h1;exact h1 x (List.mem_of_getElem? hx) hb
  ·have hp:=QbV xs m Om;have:=List.all_eq_true.1 h2 _ (List.mem_of_getElem? hp);unfold QdE at this;rw [List.getElem?_eq_getElem hj]at hx;rw [List.getElem?_eq_getElem Om]at hy;have ex:=Option.some.inj hx;have ey:=Option.some.inj hy;rw [←ex,←ey]at hc;have:=of_decide_eq_true this;simp only at this;omega
 ·rw [List.any_eq_false];intro x hx hw;obtain⟨j,hj,hjx⟩:=List.getElem_of_mem hx;exact h j hj ⟨x,by rw [List.getElem?_eq_getElem hj,hjx],.inl hw⟩
 ·rw [List.all_eq_true];intro p hp;obtain⟨m,hm,hmp⟩:=List.getElem_of_mem hp;have hm':m+1<xs.length:=by rw [Qef]at hm;omega
  have hg:=QbV xs m hm';rw [List.getElem?_eq_getElem hm,hmp]at hg
  cases hg
  unfold QdE;refine decide_eq_true (Int.not_le.1 fun hc=>h (m+1) hm' ⟨xs[m+1],List.getElem?_eq_getElem hm',.inr ⟨m,xs[m],rfl,List.getElem?_eq_getElem Om,hc⟩⟩)
theorem Qjv{xs:List Co}(hk:k<xs.length)(h:QtS xs k):QJ xs=false:=by
 rw [Bool.eq_false_iff];intro e;exact((ZK xs).1 e).2 k hk h
theorem QoJ{xs:List Co}(hk: ¬k<xs.length)(h:QcY xs k):QJ xs=decide ((xs.length:Int)≤32):=by
 have hg:QcY xs xs.length:=fun j hj=>h j Om
 by_cases hl:xs.length≤32
 ·rw [(ZK xs).2 ⟨hl,hg⟩,decide_eq_true Om]
 ·rw [decide_eq_false Om,Bool.eq_false_iff];exact fun e=>hl ((ZK xs).1 e).1
theorem QmH{xs:List Co}{x:Co}(hx:xs[k]?=some x)(h:QcY xs k)(hw:ZU x=false)(hc: ∀m y,k=m+1→xs[m]?=some y→YQ y.t x.t<0):QcY xs (k+1):=by
 intro j hj
 by_cases hjk:j<k
 ·exact h j hjk
 ·obtain rfl:j=k:=by omega
  rintro⟨z,hz,hb⟩;rw [hx]at hz
  cases hz
  rcases hb with hb|⟨m,y,e,hy,hge⟩
  ·rw [hw]at hb;cases hb
  ·have:=hc m y e hy;omega
open Go.RowKit
def ltT(s t:Tu):Prop:=s.a<t.a∨s.a=t.a∧(s.b<t.b∨s.b=t.b∧(s.c<t.c∨s.c=t.c∧s.d<t.d))
theorem Qeo(s t:Tu):YQ s t=if s.a<t.a then-1 else if t.a<s.a then 1 else if s.b<t.b then-1 else if t.b<s.b then 1 else if s.c<t.c then-1 else if t.c<s.c then 1 else if s.d<t.d then-1 else if t.d<s.d then 1 else 0:=by
 have key: ∀(x y r:Int),(if cmpI x y=0 then r else cmpI x y)=if x<y then-1 else if y<x then 1 else r:=by
  intro x y r;unfold cmpI
  by_cases h1:x<y
  ·simp [h1]
  ·by_cases h2:y<x
   ·simp [h1,h2]
   ·simp [h1,h2]
 show(if cmpI s.a t.a=0 then(if cmpI s.b t.b=0 then(if cmpI s.c t.c=0 then(if cmpI s.d t.d=0 then 0 else cmpI s.d t.d)else cmpI s.c t.c)else cmpI s.b t.b)else cmpI s.a t.a)=_;rw [key,key,key,key]
theorem JL{s t:Tu}:YQ s t<0↔ltT s t:=by
 rw [Qeo];unfold ltT
 repeat' split
 all_goals omega
theorem Qd1{s t:Tu}:0<YQ s t↔ltT t s:=by
 rw [Qeo];unfold ltT
 repeat' split
 all_goals omega
theorem Qlp{s t:Tu}:YQ s t=0↔s=t:=by
 have h:s=t↔s.a=t.a∧s.b=t.b∧s.c=t.c∧s.d=t.d:=by
  cases s;cases t;simp
 rw [h,Qeo]
 repeat' split
 all_goals omega
theorem QfP{s t u:Tu}(h:ltT s t)(k:ltT t u):ltT s u:=by unfold ltT at*;omega
theorem Qlq{t:Tu}{x:Co}:geT t x=true↔ ¬ltT x.t t:=by
 unfold geT;rw [decide_eq_true_eq,←JL];omega
theorem QaN{xs:List Co}(h:QJ xs=true){x y:Co}(hx:xs[m]?=some x)(hy:xs[m+1]?=some y):ltT x.t y.t:=by
 have h1:=((ZK xs).1 h).2 (m+1) (List.getElem?_eq_some_iff.1 hy).1;refine JL.1 (Int.not_le.1 fun hc=>h1 ⟨y,hy,.inr ⟨m,x,rfl,hx,hc⟩⟩)
theorem Qbn{xs:List Co}(h:QJ xs=true){x:Co}(hx:xs[i]?=some x): ∀(n:Nat) (y:Co),xs[i+1+n]?=some y→ltT x.t y.t
 |0,y,hy=>QaN h hx hy
 |n+1,y,hy=>by
  have hl:i+1+n<xs.length:=by have:=(List.getElem?_eq_some_iff.1 hy).1;omega
  exact QfP (Qbn h hx n xs[i+1+n] (List.getElem?_eq_getElem hl)) (QaN h (List.getElem?_eq_getElem hl) hy)
theorem QgE{xs:List Co}{t:Tu}: ∀j,j<atC xs t→ ∀x,xs[j]?=some x→ltT x.t t:=by
 intro j hj x hx;have h:=List.not_of_lt_findIdx (p:=geT t) (xs:=xs) hj;have hl:=(List.getElem?_eq_some_iff.1 hx).1;have e:xs[j]=x:=(List.getElem?_eq_some_iff.1 hx).2;rw [e]at h
 by_cases hg:geT t x=true
 ·exact absurd hg (by simpa using h)
 ·exact Classical.byContradiction fun hn=>hg (Qlq.2 hn)
theorem QoK{xs:List Co}{t:Tu}{x:Co}(hx:xs[atC xs t]?=some x): ¬ltT x.t t:=by
 have hl:=(List.getElem?_eq_some_iff.1 hx).1;have h:=List.findIdx_getElem (p:=geT t) (xs:=xs) (w:=hl);have e:xs[xs.findIdx (geT t)]=x:=(List.getElem?_eq_some_iff.1 hx).2;rw [e]at h;exact Qlq.1 h
theorem QgF{xs:List Co}(h:QJ xs=true){t:Tu}{j:Nat}{x:Co}(hx:xs[j]?=some x)(he:x.t=t):atC xs t=j∧okC xs t=true:=by
 have hn: ¬ltT t t:=by unfold ltT;omega
 have h1:atC xs t=j:=by
  rcases Nat.lt_trichotomy (atC xs t) j with hlt|e|hgt
  ·exfalso;have hl:=(List.getElem?_eq_some_iff.1 hx).1;have hk:xs[atC xs t]?=some (xs[atC xs t]'Om):=List.getElem?_eq_getElem Om;have:=Qbn h hk (j- (atC xs t+1)) x (by rw [show atC xs t+1+(j- (atC xs t+1))=j by omega];exact hx);rw [he]at this;exact QoK hk this
  ·exact e
  ·exfalso;have:=QgE j hgt x hx;rw [he]at this;exact hn this
 refine⟨h1,?_⟩;unfold okC;rw [h1,hx];exact YZ.2 he
theorem QgG{xs:List Co}{t:Tu}(h:okC xs t=true): ∃x,xs[atC xs t]?=some x∧x.t=t:=by
 unfold okC at h
 cases hg:xs[atC xs t]? with
 |none=>rw [hg]at h;cases h
 |some x=>rw [hg]at h;exact⟨x,rfl,YZ.1 h⟩
theorem QoL{xs:List Co}(h:QJ xs=true)(t:Tu):okC xs t=xs.any fun x=>eqT x.t t:=by
 cases ho:okC xs t
 ·symm
  rw [List.any_eq_false];intro x hx he;obtain⟨j,hj,hjx⟩:=List.getElem_of_mem hx;have:=(QgF h (List.getElem?_eq_some_iff.2 ⟨hj,hjx⟩) (YZ.1 he)).2;rw [ho]at this;cases this
 ·symm
  obtain⟨x,hx,he⟩:=QgG ho;exact List.any_eq_true.2 ⟨x,List.mem_of_getElem? hx,YZ.2 he⟩
theorem QfQ{α:Type}(xs:List α)(k:Nat)(x:α)(hk:k≤xs.length)(j:Nat):(Ja xs k x)[j]?=if j<k then xs[j]? else if j=k then some x else xs[j- 1]?:=by
 unfold Ja;have hl:(xs.take k).length=k:=by rw [List.length_take];omega
 by_cases h1:j<k
 ·rw [if_pos h1,List.getElem?_append_left Om,List.getElem?_take,if_pos h1]
 ·rw [if_neg h1,List.getElem?_append_right Om,hl]
  by_cases h2:j=k
  ·rw [if_pos h2,h2,Nat.sub_self];rfl
  ·rw [if_neg h2,show j- k=(j- k- 1)+1 by omega,List.getElem?_cons_succ,List.getElem?_drop,show k+(j- k- 1)=j- 1 by omega]
theorem QmI{xs:List Co}{t:Tu}{now:Int}(h:QJ xs=true)(hl:xs.length<32)(h0:0≤now)(h1:now≤1099511627776)(hn:okC xs t=false):QJ (Ja xs (atC xs t) (QhO t now))=true:=by
 have hk:=Qou xs t;obtain⟨k,hke⟩: ∃k,atC xs t=k:=⟨_,rfl⟩;have hsp:=QgE (xs:=xs) (t:=t);have hge:=fun x=>QoK (xs:=xs) (t:=t) (x:=x);have hok: ∀x,xs[k]?=some x→x.t≠t:=fun x hx he=>by
  have:=(QgF h hx he).2;rw [hn]at this;cases this
 rw [hke]at hk hsp hge⊢;refine(ZK _).2 ⟨by rw [QfJ];omega,fun j hj ⟨x,hx,hb⟩=> ?_⟩;have hbad:=((ZK xs).1 h).2;rw [QfQ _ _ _ hk]at hx;rcases hb with hb|⟨m,y,rfl,hy,hc⟩
 ·have hin: ∀i,xs[i]?=some x→False:=fun i hi=>hbad i (List.getElem?_eq_some_iff.1 hi).1 ⟨x,hi,.inl hb⟩
  split at hx
  ·exact hin _ hx
  ·split at hx
   ·cases hx
    unfold ZU QhO at hb;simp at hb;omega
   ·exact hin _ hx
 ·rw [QfQ _ _ _ hk]at hy;have hno: ¬ltT y.t x.t:=fun hlt=>by have:=JL.2 hlt;omega
  by_cases c1:m+1<k
  ·rw [if_pos c1]at hx;rw [if_pos Om]at hy;exact hno (QaN h hy hx)
  ·rw [if_neg c1]at hx
   by_cases c2:m+1=k
   ·rw [if_pos c2]at hx;rw [if_pos Om]at hy
    cases hx
    exact hno (hsp m Om y hy)
   ·rw [if_neg c2]at hx;rw [if_neg Om]at hy;rw [show m+1- 1=m by omega]at hx
    by_cases c3:m=k
    ·rw [if_pos c3]at hy
     cases hy
     subst c3;refine hno ?_;show ltT t x.t;have a1:=hge x hx;have a2:=hok x hx;have a3: ¬YQ x.t t<0:=fun e=>a1 (JL.1 e);have a4:YQ x.t t≠0:=fun e=>a2 (Qlp.1 e);exact Qd1.1 Om
    ·rw [if_neg c3]at hy;have e:xs[m- 1+1]?=some x:=by rw [show m- 1+1=m by omega];exact hx
     exact hno (QaN h hy e)
theorem QfR{xs:List Co}{t:Tu}{now:Int}(h:QJ xs=true)(j:Nat)(x:Co)(hx:xs[j]?=some x):
  (withX (touchF now) xs t)[j]?=some (if eqT x.t t=true then{x with l:=max x.l (min now 1099511627776)}else x):=by
 unfold withX withOk;rw [h,Bool.and_true]
 by_cases he:eqT x.t t=true
 ·rw [if_pos he];obtain⟨h1,h2⟩:=QgF h hx (YZ.1 he);rw [h2,if_pos rfl,h1];unfold touchF;rw [hx];have hl:=(List.getElem?_eq_some_iff.1 hx).1;simp [hl]
 ·rw [if_neg he]
  by_cases ho:okC xs t=true
  ·rw [if_pos ho];obtain⟨y,hy,hyt⟩:=QgG ho;unfold touchF;rw [hy];have hne:atC xs t≠j:=fun e=>by rw [e,hx]at hy;cases hy;exact he (YZ.2 hyt)
   simp only;rw [List.getElem?_set_ne hne];exact hx
  ·rw [if_neg ho];exact hx
theorem Qbo(xs:List Co)(t:Tu)(now:Int):(withX (touchF now) xs t).length=xs.length:=by
 unfold withX touchF;split
 ·split<;>simp
 ·rfl
theorem QhX{xs:List Co}{t:Tu}{now:Int}(h:QJ xs=true):QJ (withX (touchF now) xs t)=true:=by
 have h2:=(ZK xs).1 h;refine(ZK _).2 ⟨by rw [Qbo];exact h2.1,fun j hj ⟨x,hx,hb⟩=> ?_⟩;rw [Qbo]at hj;have g:=QfR (t:=t) (now:=now) h;have hx0:=g j xs[j] (List.getElem?_eq_getElem hj);rw [hx]at hx0;have ht: ∀(i:Nat) (z:Co),(withX (touchF now) xs t)[i]?=some z→ ∃y,xs[i]?=some y∧y.t=z.t:=fun i z hz=>by
  have hl:i<xs.length:=by have:=(List.getElem?_eq_some_iff.1 hz).1;rwa [Qbo]at this
  have h3:=g i xs[i] (List.getElem?_eq_getElem hl);rw [hz]at h3;refine⟨_,List.getElem?_eq_getElem hl,?_⟩
  cases Option.some.inj h3
  split<;>rfl
 rcases hb with hb|⟨m,y,rfl,hy,hc⟩
 ·have hw: ¬ZU xs[j]=true:=fun e=>h2.2 j hj ⟨_,List.getElem?_eq_getElem hj,.inl e⟩
  cases Option.some.inj hx0
  unfold ZU at hw hb;simp only [Bool.or_eq_true,decide_eq_true_eq,not_or]at hw hb
  split at hb
  ·simp only at hb;omega
  ·omega
 ·obtain⟨y0,hy0,e1⟩:=ht m y hy;obtain⟨x0,hx0',e2⟩:=ht (m+1) x hx;have:=JL.2 (QaN h hy0 hx0');rw [e1,e2]at this;omega
section
variable {P:Program} {ops:Array Oper} {C:Nat→Prop}
def msk(n m:Nat):Array Bool:=((List.range n).map fun j=>m.testBit j).toArray
theorem Qcq(n k m:Nat):(msk n m).setIfInBounds k true=msk n (m|||(1<<<k)):=by
 unfold msk;refine Array.ext_getElem? fun i=> ?_;rw [Array.getElem?_setIfInBounds]
 by_cases hi:i<n
 ·by_cases h:k=i
  ·subst h;simp [hi,Nat.testBit_or,Nat.testBit_shiftLeft]
  ·have h': ¬i=k:=fun e=>h e.symm
   by_cases hki:k≤i
   ·have: ¬i- k=0:=by omega
    simp [h,h',hi,Nat.testBit_or,Nat.testBit_shiftLeft,hki,Nat.testBit_one_eq_true_iff_self_eq_zero,this]
   ·simp [h,h',hi,Nat.testBit_or,Nat.testBit_shiftLeft,hki]
 ·by_cases h:k=i
  ·subst h;simp [hi]
  ·simp [h,hi]
theorem QhY(n:Nat):Array.replicate n false=msk n 0:=by
 unfold msk;refine Array.ext_getElem? fun i=> ?_
 by_cases hi:i<n<;>simp [hi,Array.getElem?_replicate]
def Qv(ops:Array Oper)(n:Nat):List Nat→Nat→Bool
 | [],_=>true
 |k::rest,m=>Region.free .any ops (msk n m) k&&upX ops (msk n m) k&&Qv ops n rest (m|||(1<<<k))
theorem Qep(ht:Qv ops N (k::rest) m=true)(hm:m|||(1<<<k)=m'):Region.free .any ops (msk N m) k=true∧upX ops (msk N m) k=true∧(msk N m).setIfInBounds k true=msk N m'∧Qv ops N rest m'=true:=by
 unfold Qv at ht;simp only [Bool.and_eq_true]at ht;obtain⟨⟨t1,t2⟩,t5⟩:=ht;exact⟨t1,t2,by rw [Qcq,hm],by rw [←hm];exact t5⟩
theorem QtT{v:Value}(hs:Region.noSelect ops=true)(ht:Qv ops N (k::rest) m=true)(hm:m|||(1<<<k)=m')
  (hi:ops[k]?=some oi)(hw:Region.wanted oi (yielded ops a.tmps)=true)(hy: ∀w',Mv C w w'→(execOp a.eval oi).run P w'= .ok (.value v) w')
  (H:Qv ops N rest m'=true→QN C P .any ops Q fuel (msk N m') (a.put oi.dst v) w):QN C P .any ops Q (fuel+1) (msk N m) a w:=by
 obtain⟨t1,t2,t3,t4⟩:=Qep ht hm;refine QtP hi hs t1 (ZZ t2) hw hy ?_;rw [t3];exact H t4
theorem QxL(hs:Region.noSelect ops=true)(ht:Qv ops N (k::rest) m=true)(hm:m|||(1<<<k)=m')
  (hi:ops[k]?=some oi)(hw:Region.wanted oi (yielded ops a.tmps)=false)
  (H:Qv ops N rest m'=true→QN C P .any ops Q fuel (msk N m') (a.put oi.dst undef) w):QN C P .any ops Q (fuel+1) (msk N m) a w:=by
 obtain⟨t1,t2,t3,t4⟩:=Qep ht hm;refine Qco hi (Region.noSelect_spec hs) fuel _ a w (Region.free_spec hi t1) (by simpa using ZZ t2) (.inr (.inl ⟨hw,rfl⟩)) ?_;rw [t3];exact H t4
structure Qlr(C:Nat→Prop)(P:Program)(ops:Array Oper)(Q:Act→World→Prop)(fuel N k m:Nat)(a:Act)(w:World):Prop where
 h:Jj P ops k (fun a' w'=>Mv C w w'∧QN C P .any ops Q fuel (msk N (m|||(1<<<k))) a' w') a w
theorem QaO(hr:Region.ready .any ops (msk N m)= [k])(H:Qlr C P ops Q fuel N k m a w):QN C P .any ops Q (fuel+1) (msk N m) a w:=by
 refine⟨fun h0=> ?_,fun j hj=> ?_⟩
 ·rw [hr]at h0;cases h0
 ·rw [hr]at hj;obtain rfl:j=k:=by simpa using hj
  rw [Qcq];exact H.h
theorem QxM{R:Value→World→Prop}{f:FuncId}{args:Array Value}(hm:m|||(1<<<k)=m')(hi:ops[k]?=some oi)(hw:Region.wanted oi (yielded ops a.tmps)=true)
  (he:(execOp a.eval oi).run P w= .ok (.enter f args) w)(hc:Calls P f args w fun e w'=> ∃v,e= .returned v∧R v w'∧Ext w w')
  (H: ∀v w',Ext w w'→R v w'→QN C P .any ops Q fuel (msk N m') (a.put oi.dst v) w'):Qlr C P ops Q fuel N k m a w:=by
 refine⟨?_⟩;unfold Jj;simp only [hi,hw,if_true,he,hm];exact hc.mono fun e w' ⟨v,h1,h2,h3⟩=>⟨v,h1,Mv.of_ext h3,H v w' h3 h2⟩
theorem QuX{R:Value→World→Prop}{f:FuncId}{args:Array Value}(hm:m|||(1<<<k)=m')(hi:ops[k]?=some oi)(hw:Region.wanted oi (yielded ops a.tmps)=true)
  (he:(execOp a.eval oi).run P w= .ok (.enter f args) w)(hc:Calls P f args w fun e w'=> ∃v,e= .returned v∧R v w'∧Mv C w w')
  (H: ∀v w',Mv C w w'→R v w'→QN C P .any ops Q fuel (msk N m') (a.put oi.dst v) w'):Qlr C P ops Q fuel N k m a w:=by
 refine⟨?_⟩;unfold Jj;simp only [hi,hw,if_true,he,hm];exact hc.mono fun e w' ⟨v,h1,h2,h3⟩=>⟨v,h1,h3,H v w' h3 h2⟩
theorem QaH{E:Array Oper}{R:Array Oper→Prop}(h:ops=E)(hR:R E)(hf:ops.size=N)
  (H:R ops→QN C P .any ops Q N (msk N 0) a w):QN C P .any ops Q ops.size (Array.replicate ops.size false) a w:=by
 rw [hf,QhY];exact H (h▸hR)
end
section
variable {P:Program} {ops:Array Oper} {C:Nat→Prop}
theorem tM(m':Nat)(v:Value)(hs:Region.noSelect ops=true)(ht:Qv ops N (k::rest) m=true)(hi:ops[k]?=some oi)(hy: ∀w',Mv C w w'→(execOp a.eval oi).run P w'= .ok (.value v) w')
  (H:Qv ops N rest m'=true→QN C P .any ops Q fuel (msk N m') (a.put oi.dst v) w)(hm:m|||(1<<<k)=m':=by rfl)(hw:Region.wanted oi (yielded ops a.tmps)=true:=by kernel_rfl):QN C P .any ops Q (fuel+1) (msk N m) a w:=QtT hs ht hm hi hw hy H
theorem tMk(m':Nat)(v:Value)(hs:Region.noSelect ops=true)(ht:Qv ops N (k::rest) m=true)(hi:ops[k]?=some oi)
  (H:Qv ops N rest m'=true→QN C P .any ops Q fuel (msk N m') (a.put oi.dst v) w)(hm:m|||(1<<<k)=m':=by rfl)(hw:Region.wanted oi (yielded ops a.tmps)=true:=by kernel_rfl)(hy: ∀w',Mv C w w'→(execOp a.eval oi).run P w'= .ok (.value v) w':=by(intro _ _;kernel_rfl)):QN C P .any ops Q (fuel+1) (msk N m) a w:=QtT hs ht hm hi hw hy H
theorem tMU(m':Nat)(hs:Region.noSelect ops=true)(ht:Qv ops N (k::rest) m=true)(hi:ops[k]?=some oi)
  (H:Qv ops N rest m'=true→QN C P .any ops Q fuel (msk N m') (a.put oi.dst undef) w)(hm:m|||(1<<<k)=m':=by rfl)(hw:Region.wanted oi (yielded ops a.tmps)=false:=by kernel_rfl):QN C P .any ops Q (fuel+1) (msk N m) a w:=QxL hs ht hm hi hw H
theorem sM{f:FuncId}{args:Array Value}(m':Nat)(R:Value→World→Prop)(hr:Region.ready .any ops (msk N m)= [k])(hi:ops[k]?=some oi)(hc:Calls P f args w fun e w'=> ∃v,e= .returned v∧R v w'∧Ext w w')
  (H: ∀v w',Ext w w'→R v w'→QN C P .any ops Q fuel (msk N m') (a.put oi.dst v) w')(hm:m|||(1<<<k)=m':=by rfl)(hw:Region.wanted oi (yielded ops a.tmps)=true:=by kernel_rfl)(he:(execOp a.eval oi).run P w= .ok (.enter f args) w:=by kernel_rfl):QN C P .any ops Q (fuel+1) (msk N m) a w:=QaO hr (QxM hm hi hw he hc H)
end
abbrev Rd(ops:Array Oper)(N d:Nat)(l:List Nat):Prop:=Region.ready .any ops (msk N d)=l
theorem Rk{ops:Array Oper}{d:Nat}{l:List Nat}(h:Region.ready .any ops (msk N d)=l:=by kernel_rfl):Rd ops N d l:=h
def ByR(bs:List Int):Prop:= ∀b∈bs,0≤b∧b<256
theorem ByR.get(h:ByR bs)(k:Nat)(hk:k<bs.length):0≤bs[k]∧bs[k]<256:=h _ (List.getElem_mem hk)
theorem ByR.drop(h:ByR bs)(k:Nat):ByR (bs.drop k):=fun b hb=>h b (List.mem_of_mem_drop hb)
theorem ByR.take(h:ByR bs)(k:Nat):ByR (bs.take k):=fun b hb=>h b (List.mem_of_mem_take hb)
theorem ByR.app{xs:List Int}(h:ByR xs)(h2:ByR bs):ByR (xs++bs):=fun b hb=>by rcases List.mem_append.1 hb with q|q;exact h b q;exact h2 b q
theorem ByR.set(h:ByR bs)(i:Nat)(v:Int)(hv:0≤v∧v<256):ByR (bs.set i v):=fun b hb=>by rcases List.mem_or_eq_of_mem_set hb with q|q;exact h b q;exact q▸hv
theorem ByR.nil:ByR []:=fun _ h=>by cases h
theorem ByR.cons{b:Int}(hb:0≤b∧b<256)(h:ByR bs):ByR (b::bs):=fun x hx=>by rcases List.mem_cons.1 hx with rfl|q;exact hb;exact h x q
theorem ZH(n a:Nat)(h:a<2^n):(BitVec.ofInt n (a:Int)).toNat=a:=by
 rw [BitVec.toNat_ofInt,←Int.natCast_emod,Int.toNat_natCast,Nat.mod_eq_of_lt h]
theorem QaP(k:IntKind)(a b:Nat)(ha:a<2^k.bits)(hb:b<2^k.bits):bits BinOp.or k a b=k.wrap ((a|||b:Nat):Int):=by
 unfold bits;simp only [BitVec.toNat_or];rw [ZH _ _ ha,ZH _ _ hb]
theorem Qcr(k:IntKind)(a b:Nat)(ha:a<2^k.bits)(hb:b<2^k.bits):bits BinOp.and k a b=k.wrap ((a&&&b:Nat):Int):=by
 unfold bits;simp only [BitVec.toNat_and];rw [ZH _ _ ha,ZH _ _ hb]
theorem Q4(x:Int):IntKind.u16.wrap x=x % 65536:=by simp [IntKind.wrap,IntKind.bits,IntKind.signed]
theorem Ye(x:Int):IntKind.u8.wrap x=x % 256:=by simp [IntKind.wrap,IntKind.bits,IntKind.signed]
theorem YC(x:Int):IntKind.u32.wrap x=x % 4294967296:=by simp [IntKind.wrap,IntKind.bits,IntKind.signed]
theorem QaQ(x:Int):IntKind.u64.wrap x=x % 18446744073709551616:=by simp [IntKind.wrap,IntKind.bits,IntKind.signed]
theorem Qjw(a b n:Nat)(h:b<2^n):(a*2^n)|||b=a*2^n+b:=by
 have:=Nat.shiftLeft_add_eq_or_of_lt h a;rw [Nat.shiftLeft_eq]at this;exact this.symm
theorem QuY{x y:Int}(h0:0≤x)(h1:x<256)(h2:0≤y)(h3:y<256):bits BinOp.or IntKind.u16 (IntKind.u16.wrap (IntKind.u16.wrap x*256)) (IntKind.u16.wrap y)=x*256+y:=by
 obtain⟨a,rfl⟩:=Int.eq_ofNat_of_zero_le h0;obtain⟨b,rfl⟩:=Int.eq_ofNat_of_zero_le h2
 rw [Q4,Q4,Q4,show((a:Int) % 65536*256) % 65536=((a*2^8:Nat):Int)by omega,show(b:Int) % 65536=(b:Int)by omega,
  QaP _ _ _ (by show a*2^8<2^16;omega) (by show b<2^16;omega),Qjw _ _ _ Om,Q4]
 omega
def Zb:List Int→List Int
 | []=> []
 | [a]=> [a*256]
 |a::b::r=>(a*256+b)::Zb r
theorem Qam(a b:Int)(r:List Int):Zb (a::b::r)=(a*256+b)::Zb r:=rfl
theorem Ys: ∀bs:List Int,(Zb bs).length=(bs.length+1)/2
 | []=>rfl
 | [a]=>by simp [Zb]
 |a::b::r=>by rw [Qam,List.length_cons,Ys r,List.length_cons,List.length_cons];omega
theorem Qb1: ∀(bs:List Int) (i:Nat) (h:2*i+1<bs.length),(Zb bs)[i]?=some (bs[2*i]*256+bs[2*i+1])
 |a::b::r,0,_=>rfl
 |a::b::r,i+1,h=>by
  rw [Qam,List.getElem?_cons_succ,Qb1 r i (by simp at h;omega)];simp [show 2*(i+1)=2*i+1+1 by omega]
theorem QaR: ∀(bs:List Int) (i:Nat) (h:bs.length=2*i+1),(Zb bs)[i]?=some (bs[2*i]*256)
 | [a],0,_=>rfl
 |a::b::r,i+1,h=>by
  rw [Qam,List.getElem?_cons_succ,QaR r i (by simp at h;omega)];simp [show 2*(i+1)=2*i+1+1 by omega]
 | [],i,h=>by simp at h
 | [a],i+1,h=>by simp at h
 |a::b::r,0,h=>by simp at h
def sh(p:Option Addr)(k:Nat):Option Addr:=p.map fun a=>{a with off:=a.off+k}
theorem Qls(b off k:Nat):sh (some ⟨b,off,none⟩) k=some ⟨b,off+k,none⟩:=rfl
theorem QoM{b n c:Nat}{x y:Int}(w:World)(h0:w.cell? ⟨b,off,none⟩=some (.int .u8 x))(h1:w.cell? ⟨b,off+1,none⟩=some (.int .u8 y))(lb:Lt b w)(hn:2≤n)(x0:0≤x∧x<256)(y0:0≤y∧y<256):
  Cr 166 #[.slice (some ⟨b,off,none⟩) n c] w (.int .u16 (x*256+y)):=by
 have hn0:(0:Int)<n:=by omega
 have hn1:(1:Int)<n:=by omega
 have HL:=Xh (QuY x0.1 x0.2 y0.1 y0.2);clear x0 y0 hn
 go_enter Tryz.func166,Tryz.ntmps166
 go_upto_region 1 with(fail)
 refine Qk Kr Kr ?_;(repeat(go_big_quiet_step (fail)));refine wpQuiet_nil ?_;intro d
 have hd:=Qt d;go_wp2;go_ret;exact⟨by rw [←HL.out];rfl,hd⟩
theorem Qjx{b n c:Nat}{x y:Int}(w:World)(h0:w.cell? ⟨b,off,none⟩=some (.int .u8 x))(h1:w.cell? ⟨b,off+1,none⟩=some (.int .u8 y))(lb:Lt b w)(hn:2≤n)(x0:0≤x∧x<256)(y0:0≤y∧y<256):
  Cr 176 #[.slice (some ⟨b,off,none⟩) n c] w (.int .u16 (x*256+y)):=by
 have hn0:(0:Int)<n:=by omega
 have hn1:(1:Int)<n:=by omega
 have HL:=Xh (QuY x0.1 x0.2 y0.1 y0.2);clear x0 y0 hn
 go_enter Tryz.func176,Tryz.ntmps176
 go_upto_region 1 with(fail)
 refine Qk Kr Kr ?_;(repeat(go_big_quiet_step (fail)));refine wpQuiet_nil ?_;intro d
 have hd:=Qt d;go_wp2;go_ret;exact⟨by rw [←HL.out];rfl,hd⟩
theorem Qlt{b n c:Nat}{v:Int}{u0 u1:Value}(w:World)(h0:w.cell? ⟨b,off,none⟩=some u0)(h1:w.cell? ⟨b,off+1,none⟩=some u1)(f0:w.frozen? ⟨b,off,none⟩=false)(f1:w.frozen? ⟨b,off+1,none⟩=false)(hn:2≤n):
  Calls Tryz.prog 210 #[.slice (some ⟨b,off,none⟩) n c,.int .u16 v] w fun e w'=>(∃r,e= .returned r)∧w'=(w.setCell ⟨b,off,none⟩ (.int .u8 (v/256 % 256))).setCell ⟨b,off+1,none⟩ (.int .u8 (v % 256)):=by
 have hn0:(0:Int)<n:=by omega
 have hn1:(1:Int)<n:=by omega
 clear hn
 go_enter Tryz.func210,Tryz.ntmps210
 go_wp2
 go_end0
 simp only [Ye];exact⟨⟨_,rfl⟩,trivial⟩
theorem QmJ(p:Option Addr)(n c:Nat)(w:World):
  Calls Tryz.prog 251 #[.slice p n c] w fun e w'=>e= .returned (.func (.func 257) #[] #[.pointer (some ⟨w.heap.size,0,none⟩)])∧w'=w.alloc (.cells #[.slice p n c] 28):=by
 go_enter Tryz.func251,Tryz.ntmps251
 go_wp2;go_ret;exact⟨rfl,rfl⟩
theorem QgH: ∀args w,(callFunc 257 args).run Tryz.prog w= .ok (.enter 257 args) w:=enters_of Tryz.func257 Kr rfl
theorem QoN{O:Nat}{a:Option Addr}{c:Nat}(h0:w.cell? ⟨B,O,none⟩=some (.slice a m c))(hl:Lt B w)
  (hx:ρ x= .pointer (some ⟨B,O,none⟩)): ∀w',Ext w w'→(execOp ρ ⟨dst,.load 28 x,ty,pos,after,g⟩).run Tryz.prog w'= .ok (.value (.slice a m c)) w':=by
 intro w' hE;have h0:=(hE.cell (p:=⟨B,_,none⟩) hl).trans h0;simp only [execOp,hx];go_simp
theorem QoO{O:Nat}{x:Int}(h0:w.cell? ⟨B,O,none⟩=some (.int .u8 x))(hl:Lt B w)
  (hx:ρ q= .pointer (some ⟨B,O,none⟩)): ∀w',Ext w w'→(execOp ρ ⟨dst,.load 5 q,ty,pos,after,g⟩).run Tryz.prog w'= .ok (.value (.int .u8 x)) w':=by
 intro w' hE;have h0:=(hE.cell (p:=⟨B,_,none⟩) hl).trans h0;simp only [execOp,hx];go_simp
theorem Zh{O c:Nat}(i:Nat)(hi:i<m)
  (hx:ρ x= .slice (some ⟨B,O,none⟩) m c)(hy:ρ y= .int .i64 (i:Nat))(w:World):(execOp ρ ⟨dst,.indexAddr 28 x y,ty,pos,after,g⟩).run Tryz.prog w= .ok (.value (.pointer (some ⟨B,O+i,none⟩))) w:=by
 have hi':(i:Int)<m:=by omega
 simp only [execOp,hx,hy];go_simp
theorem QhZ{x:Int}(hx0:0≤x∧x<256)(hx:ρ q= .int .u8 x)(w:World):
  (execOp ρ ⟨dst,.convert 5 62 q,ty,pos,after,g⟩).run Tryz.prog w= .ok (.value (.int .u16 x)) w:=by
 have e:IntKind.u16.wrap x=x:=by rw [Q4];omega
 simp only [execOp,hx];go_simp
theorem QmK{x:Int}(hx0:0≤x∧x<256)(ρ:Operand→Value)(dst:Option Tmp)(q y:Operand)(r ty:TypeId)(pos:String)(after:Array Edge)(g:Option (Nat×Bool))(hx:ρ q= .int .u16 x)(hy:ρ y= .int .u64 8)(w:World):
  (execOp ρ ⟨dst,.binOp .shl 62 q y 197,ty,pos,after,g⟩).run Tryz.prog w= .ok (.value (.int .u16 (x*256))) w:=by
 have e:IntKind.u16.wrap (x*256)=x*256:=by rw [Q4];omega
 simp only [execOp,hx,hy];go_simp
theorem QoP{x y:Int}(hx0:0≤x∧x<256)(hy0:0≤y∧y<256){r:Operand}(hx:ρ q= .int .u16 (x*256))(hy:ρ r= .int .u16 y)(w:World):
  (execOp ρ ⟨dst,.binOp .or 62 q r 62,ty,pos,after,g⟩).run Tryz.prog w= .ok (.value (.int .u16 (x*256+y))) w:=by
 have e:=QuY hx0.1 hx0.2 hy0.1 hy0.2;rw [Q4,Q4,Q4,show x % 65536*256 % 65536=x*256 by omega,show y % 65536=y by omega]at e;simp only [execOp,hx,hy];go_simp
theorem Qjy{y:Nat}{v1:Value}{R:Result Next}(h:(Instr.yield y #[v1]).run Tryz.prog w=R){q1:Operand}(tys:Array TypeId)
  (hx:ρ x= .func (.yield y) #[] #[])(h1:ρ q1=v1):(execOp ρ ⟨dst,.call {callee:= .value x,args:=#[q1],argTypes:=tys},ty,pos,after,g⟩).run Tryz.prog w=R:=by
 rw [←h];subst h1;simp only [execOp,hx];go_simp
def QoQ(w:World)(B:Nat):Nat:=match w.cell? ⟨B,0,none⟩with|some (.slice _ n _)=>n|_=>0
theorem Qh0{n c:Nat}{p:Option Addr}(h:w.cell? ⟨B,0,none⟩=some (.slice p n c)):QoQ w B=n:=by unfold QoQ;rw [h]
def Qlu:List (Nat×List Nat):= [(0,[11]),(1,[2,3,4,5,10,11]),(2,[3,4,5,10,11]),(3,[4,5,10,11]),(4,[5,10,11]),(5,[10,11]),(6,[7,8,9,10,11]),(7,[8,9,10,11]),(8,[9,10,11]),(9,[10,11]),(10,[11])]
def QtU(ops:Array Oper):Prop:=Region.noSelect ops=true∧(∀k,k<11→okX ops 13 k=true)∧(∀k,k<11→closedB .any ops (lst 13 k)=true)∧(∀k l,(k,l)∈Qlu→YR .any ops (k::l)=true)∧Region.ready .any ops (lst 13 11)= [11]∧Region.ready .any ops (lst 13 12)= [12]∧Region.ready .any ops (lst 13 13)= []
theorem QxN:QtU ((Tryz.f257.body.bind (Qh 1)).getD #[]):=by
 have h1:((List.range 11).all fun k=>okX ((Tryz.f257.body.bind (Qh 1)).getD #[]) 13 k)=true:=Kr
 have h2:((List.range 11).all fun k=>closedB .any ((Tryz.f257.body.bind (Qh 1)).getD #[]) (lst 13 k))=true:=Kr
 have h3:(Qlu.all fun kl=>YR .any ((Tryz.f257.body.bind (Qh 1)).getD #[]) (kl.1::kl.2))=true:=Kr
 exact⟨Kr,fun k hk=>List.all_eq_true.1 h1 k (List.mem_range.2 hk),fun k hk=>List.all_eq_true.1 h2 k (List.mem_range.2 hk),fun k l h=>List.all_eq_true.1 h3 (k,l) h,Kr,Kr,Kr⟩
theorem Qjz(n:Nat)(bs:List Int)(p:Option Addr)(c:Nat)(w0 w:World)(Bb:Nat)(U:Nat→Prop)(h0:Ext w0 w)(hb:SlB w0 p bs)(hr:ByR bs)(hl:bs.length≤100000)(hlc:bs.length≤c)
  (hcb:w.cell? ⟨Bb,0,none⟩=some (.slice p bs.length c))(hz:Qs w Bb=(0,0))(lb:Lt Bb w)(nb:w0.heap.size≤Bb)(hU: ∀k,U k→w0.heap.size≤k∧k≠Bb):
  QcT Fence.wide n Tryz.prog 257 #[.pointer (some ⟨Bb,0,none⟩)] (fun x:Int=>#[.int .u16 x]) (fun k=>k=Bb) U (Zb bs) w:=by
 intro y J Jx W hW hJ hJx hY hJ0;have HJ:=Xh hJ;have HJx:=Xh hJx;have HU:=Xh hU;have HR:=Xh hr;clear hJ hJx hU hr;obtain⟨yfn,ytm,yas,ybo,hY⟩:=hY;have HY:=Xh hY;clear hY;have kb:W.cell? ⟨Bb,0,none⟩=some (.slice p bs.length c):=(hW.cell (p:=⟨Bb,0,none⟩) lb).trans hcb;have kz:Qs W Bb=(0,0):=by unfold Qs;rw [hW.block Bb lb];exact hz
 have lbW:Lt Bb W:=Xl lb hW.size;have h0W:=h0.tr hW;have HB:=Xh hb;clear hcb hz hb;refine callsIn_of_wp Tryz.func257 rfl trivial ?_ rfl;simp only [Tryz.ntmps257,List.size_toArray,List.length_cons,List.length_nil,Nat.reduceAdd,Nat.reduceSub,Array.replicate_succ,Array.replicate_zero,List.push_toArray,List.append_toArray,List.nil_append,List.cons_append];refine wpIn_wide.2 ?_;go_wp2
 go_loopw [3] (fun _ wr=> ∃(i m k:Nat) (P:Option Addr),2*i+m=bs.length∧m≤k∧J i wr∧(0<m→P=sh p (2*i))∧wr.cell? ⟨Bb,0,none⟩=some (.slice P m k)∧Qs wr Bb=(0,0)∧Lt Bb wr∧Ext w0 wr) (fun _ wr=>QoQ wr Bb)
 case atStart=>exact⟨0,bs.length,c,p,Om,hlc,hJ0,fun _=>by cases p<;>rfl,kb,kz,lbW,h0W⟩
 case round=>
  clear kb kz lbW h0W hJ0;obtain⟨i,m,q,P,him,hmq,hJi,hPP,kb,kz,lbw,hE⟩:=hrel;have hJI:=Xh hJi;clear hJi;rcases Nat.lt_or_ge 1 m with hlt|hlt
  ·have hlt':(1:Int)<m:=by omega
   obtain⟨b,off,hp,hbl,c0⟩:=(HB.out.ext hE) (2*i) Om;obtain⟨b',off',hp',-,c1⟩:=(HB.out.ext hE) (2*i+1) Om;rw [hp]at hp'
   cases hp'
   rw [hPP Om,hp,Qls]at kb;clear hPP;have HP:=Xh hp;have HX:=Xh (Qb1 bs i Om);have r0:=HR.out.get (2*i) Om;have r1:=HR.out.get (2*i+1) Om;obtain⟨x,hx⟩: ∃x,bs[2*i]=x:=⟨_,rfl⟩;obtain⟨z,hz⟩: ∃z,bs[2*i+1]=z:=⟨_,rfl⟩;rw [hx]at c0 r0 HX;rw [hz]at c1 r1 HX;obtain⟨O,hO⟩: ∃O,off+2*i=O:=⟨_,rfl⟩;have HO:=Xh hO;rw [hO]at c0 kb;rw [show off+(2*i+1)=O+1 by omega]at c1;have lbb:Lt b wr:=hbl;have f0:=Ql kz 0;have HLN:=Xh (Qh0 kb);clear hx hz hp hO
   go_upto_region 1 with(fail)
   refine(wpIn_wide (n:=n)).1 ?_;refine QdD 11 Kr ?_;obtain⟨W1,hW1⟩: ∃W1,wr.drew=W1:=⟨_,rfl⟩;have g1:Ext wr W1:=by rw [←hW1];exact Ext.dr (Ext.rf _)
   rw [hW1];clear hW1;have hJ1:J i W1:=HJ.out _ _ _ hJI.out (Mv.of_ext g1);have kb1:=(g1.cell (p:=⟨Bb,0,none⟩) lbw).trans kb;have kz1:Qs W1 Bb=(0,0):=by unfold Qs at kz⊢;rw [g1.block _ lbw];exact kz
   have lbw1:Lt Bb W1:=Xl lbw g1.size;have lb1:Lt b W1:=Xl lbb g1.size;have hE1:=hE.tr g1;have d0:=(g1.cell (p:=⟨b,_,none⟩) lbb).trans c0;have d1:=(g1.cell (p:=⟨b,_,none⟩) lbb).trans c1;clear c0 c1 kb kz f0;refine QtL (N:=13) (R:=QtU) (E:=((Tryz.f257.body.bind (Qh 1)).getD #[])) Kr QxN Kr fun hS=> ?_;refine ZR (N:=13) (k:=0) (l:= [11]) (v:= .func (.yield y) #[] #[]) hS.1 (hS.2.1 0 Dc) (hS.2.2.1 0 Dc) (hS.2.2.2.1 0 [11] Dc) rfl Dc rfl Kr (fun _ _=>by kernel_rfl) ?_;refine ZR (N:=13) (k:=1) (l:= [2,3,4,5,10,11]) (v:= .slice (some ⟨b,O,none⟩) m q) hS.1 (hS.2.1 1 Dc) (hS.2.2.1 1 Dc) (hS.2.2.2.1 1 [2,3,4,5,10,11] Dc) rfl Dc rfl Kr (QoN kb1 lbw1 Kr) ?_;refine ZR (N:=13) (k:=2) (l:= [3,4,5,10,11]) (v:= .pointer (some ⟨b,O+0,none⟩)) hS.1 (hS.2.1 2 Dc) (hS.2.2.1 2 Dc) (hS.2.2.2.1 2 [3,4,5,10,11] Dc) rfl Dc rfl Kr (fun w' _=>Zh (m:=m) (c:=q) 0 Om Kr Kr w') ?_;refine ZR (N:=13) (k:=3) (l:= [4,5,10,11]) (v:= .int .u8 x) hS.1 (hS.2.1 3 Dc) (hS.2.2.1 3 Dc) (hS.2.2.2.1 3 [4,5,10,11] Dc) rfl Dc rfl Kr (QoO d0 lb1 Kr) ?_;refine ZR (N:=13) (k:=4) (l:= [5,10,11]) (v:= .int .u16 x) hS.1 (hS.2.1 4 Dc) (hS.2.2.1 4 Dc) (hS.2.2.2.1 4 [5,10,11] Dc) rfl Dc rfl Kr (fun w' _=>QhZ r0 Kr w') ?_;refine ZR (N:=13) (k:=5) (l:= [10,11]) (v:= .int .u16 (x*256)) hS.1 (hS.2.1 5 Dc) (hS.2.2.1 5 Dc) (hS.2.2.2.1 5 [10,11] Dc) rfl Dc rfl Kr (fun w' _=>QmK r0 _ _ _ _ 0 _ _ _ _ Kr Kr w') ?_;refine ZR (N:=13) (k:=6) (l:= [7,8,9,10,11]) (v:= .slice (some ⟨b,O,none⟩) m q) hS.1 (hS.2.1 6 Dc) (hS.2.2.1 6 Dc) (hS.2.2.2.1 6 [7,8,9,10,11] Dc) rfl Dc rfl Kr (QoN kb1 lbw1 Kr) ?_;refine ZR (N:=13) (k:=7) (l:= [8,9,10,11]) (v:= .pointer (some ⟨b,O+1,none⟩)) hS.1 (hS.2.1 7 Dc) (hS.2.2.1 7 Dc) (hS.2.2.2.1 7 [8,9,10,11] Dc) rfl Dc rfl Kr (fun w' _=>Zh (m:=m) (c:=q) 1 Om Kr Kr w') ?_;refine ZR (N:=13) (k:=8) (l:= [9,10,11]) (v:= .int .u8 z) hS.1 (hS.2.1 8 Dc) (hS.2.2.1 8 Dc) (hS.2.2.2.1 8 [9,10,11] Dc) rfl Dc rfl Kr (QoO d1 lb1 Kr) ?_;refine ZR (N:=13) (k:=9) (l:= [10,11]) (v:= .int .u16 z) hS.1 (hS.2.1 9 Dc) (hS.2.2.1 9 Dc) (hS.2.2.2.1 9 [10,11] Dc) rfl Dc rfl Kr (fun w' _=>QhZ r1 Kr w') ?_;refine ZR (N:=13) (k:=10) (l:= [11]) (v:= .int .u16 (x*256+z)) hS.1 (hS.2.1 10 Dc) (hS.2.2.1 10 Dc) (hS.2.2.2.1 10 [11] Dc) rfl Dc rfl Kr (fun w' _=>QoP r0 r1 Kr Kr w') ?_;have hrun:(Instr.yield y #[.int .u16 (x*256+z)]).run Tryz.prog W1= .ok (.round y yfn (ytm #[.int .u16 (x*256+z)]) yas ybo) W1:=(HY.out i (x*256+z) W1 hJ1 HX.out).1;have HRD:=Xh (HY.out i (x*256+z) W1 hJ1 HX.out).2;refine Qok (N:=13) hS.2.2.2.2.1 rfl Kr (Qjy hrun _ Kr Kr) HRD.out ?_;rintro e w6 ⟨bb,rfl,hP⟩;refine⟨_,rfl,?_⟩;refine valueR (N:=13) (k:=11+1) (v:= .bool (!bb)) hS.2.2.2.2.2.1 rfl Kr (by cases bb<;>kernel_rfl) ?_;refine doneR hS.2.2.2.2.2.2 ?_;clear hS HRD hrun;go_simp;obtain⟨rfl,hJ6,hm6⟩|⟨rfl,hx6⟩:=hP
   ·have hst:=hm6.same Bb lbw1 (fun h=>by rcases h with h|h;exact(HU.out _ h).2 rfl;unfold Lt at lb;omega);have kb6:w6.cell? ⟨Bb,0,none⟩=some (.slice (some ⟨b,O,none⟩) m q):=by rw [Qa,Qf hst,←Qa];exact kb1
    have kz6:Qs w6 Bb=(0,0):=by unfold Qs at kz1⊢;rw [hst];exact kz1
    have lbw6:Lt Bb w6:=Xl lbw1 hm6.size;have hE6:Ext w0 w6:=Mv.ext_of hE1 hm6 (fun k h=>by rcases h with h|h;exact(HU.out _ h).1;exact Xt h0.size h);have f6:=Ql kz6 0;have HJ6:=Xh hJ6;have hmq2:(2:Int)≤m:=by omega
    have hmq3:(m:Int)≤q:=by omega
    clear hm6 hst hJ6 kb1 kz1 d0 d1;go_wp2;have hmv: ∀v,Mv (fun k=>k=Bb) w6 (w6.setCell ⟨Bb,0,none⟩ v):=fun v=>Mv.st _ (.inl rfl) (Mv.refl _ _);refine⟨⟨i+1,m- 2,q- 2,_,Om,Om,HJ.out _ _ _ HJ6.out (hmv _),?_,World.cell?_setCell_same _ _ _ kb6,by rw [QR];exact kz6,by rw [Zk];exact lbw6,Mv.ext_of hE6 (hmv _) (fun k e=>by rw [e];exact nb)⟩,?_⟩
    ·intro hm;rw [if_neg Om,HP.out,←HO.out,show off+2*i+2=off+2*(i+1)by omega];rfl
    ·rw [Qh0 (World.cell?_setCell_same _ _ _ kb6),HLN.out];omega
   ·go_wp2;refine bodyPost_ret (results_none rfl _ _ _) rfl ?_;exact⟨⟨_,rfl⟩,.inr hx6⟩
  ·have hlt': ¬(1:Int)<m:=by omega
   obtain rfl|rfl:m=0∨m=1:=by omega
   ·have HLN:=Xh (Ys bs);go_wp2
    go_end0
    exact⟨⟨_,rfl⟩,.inl (by rw [HLN.out,show(bs.length+1)/2=i by omega];exact hJI.out)⟩
   ·obtain⟨b,off,hp,hbl,c0⟩:=(HB.out.ext hE) (2*i) Om;rw [hPP Om,hp,Qls]at kb;have r0:=HR.out.get (2*i) Om;have HX:=Xh (QaR bs i Om);obtain⟨x,hx⟩: ∃x,bs[2*i]=x:=⟨_,rfl⟩;rw [hx]at c0 r0 HX;have lbb:Lt b wr:=hbl;have hw1:IntKind.u16.wrap x=x:=by rw [Q4];omega
    have hw2:IntKind.u16.wrap (x*256)=x*256:=by rw [Q4];omega
    have hrun:(Instr.yield y #[.int .u16 (x*256)]).run Tryz.prog wr= .ok (.round y yfn (ytm #[.int .u16 (x*256)]) yas ybo) wr:=(HY.out i (x*256) wr hJI.out HX.out).1;have HRD:=Xh (HY.out i (x*256) wr hJI.out HX.out).2;have HLN:=Xh (show(Zb bs).length=i+1 by rw [Ys];omega);clear hx hp hPP
    go_upto_region 4 with(fail)
    refine(wpIn_wide (n:=n)).1 ?_
    gi_wp2
    refine⟨(fun h=>by cases h),(HRD.out).mono ?_⟩;rintro e w6 ⟨bb,rfl,hP⟩;clear hrun HRD;obtain⟨rfl,hJ6,hm6⟩|⟨rfl,hx6⟩:=hP
    ·gi_wp2
     refine bodyPost_end (results_none rfl _ _ _) rfl ?_;exact⟨⟨_,rfl⟩,.inl (by rw [HLN.out];exact hJ6)⟩
    ·gi_wp2
     refine bodyPost_end (results_none rfl _ _ _) rfl ?_;exact⟨⟨_,rfl⟩,.inr hx6⟩
def Qd:Value→Nat| .pointer (some a)=>a.off|_=>0
@[go_sem] theorem Qwt(a:Addr):Qd (.pointer (some a))=a.off:=rfl
def Fits(o m:Nat)(cs:Array Value):Prop:=o+m≤cs.size
def Qn(cs:Array Value)(n:Nat):Prop:=cs.size=n
def QB(cs:Array Value)(o n:Nat):Array Value:=cs.extract o (o+n)
theorem QC(w:World)(b o e:Nat):w.rangeAt b o ((Qc w b).extract o e).toList:=fun j v hv=>by
 rw [Qa];have:((Qc w b).extract o e)[j]?=some v:=by rw [←Array.getElem?_toList];exact hv
 rw [Array.getElem?_extract]at this
 split at this
 ·exact this
 ·cases this
def Qe(w:World)(b o:Nat)(cs:Array Value):World:=w.setCells b o cs.toList
@[go_sem] theorem Qb2(w:World)(b o:Nat)(cs:Array Value):(Qe w b o cs).heap.size=w.heap.size:=(Za b _ o w).1
theorem Qb3(w:World)(b o:Nat)(cs:Array Value)(k:Nat)(h:k≠b):(Qe w b o cs).heap[k]?=w.heap[k]?:=(Za b _ o w).2.1 k h
def ovl(f:Nat→Value)(o m:Nat)(g:Nat→Value):Nat→Value:=fun j=>if o≤j∧j<o+m then g (j- o)else f j
theorem QdV(w:World)(b o n m:Nat)(f g:Nat→Value)(h:Qc w b=rowv n f)(hm:o+m≤n):Qc (Qe w b o (rowv m g)) b=rowv n (ovl f o m g):=by
 unfold Qe;rw [JU]
 apply Array.ext_getElem?
 intro i;rw [Qd9,h,QM];simp only [Array.length_toList,QY]
 by_cases hi:i<n
 ·rw [if_pos hi,QM,if_pos hi];unfold ovl
  by_cases hc:o≤i∧i<o+m
  ·rw [if_pos ⟨hc.1,hc.2,hi⟩,if_pos hc,Array.getElem?_toList,QM,if_pos Om]
  ·rw [if_neg (fun e=>hc ⟨e.1,e.2.1⟩),if_neg hc]
 ·rw [if_neg (fun e=>hi e.2.2),if_neg hi,QM,if_neg hi]
theorem ZP(w:World)(b b' o:Nat)(cs:Array Value)(h:b'≠b):Qc (Qe w b o cs) b'=Qc w b':=Qf (Qb3 w b o cs b' h)
@[go_sem] theorem ZV(w:World)(b b' o:Nat)(cs:Array Value):Qs (Qe w b o cs) b'=Qs w b':=by
 by_cases h:b'=b
 ·subst h;exact(Za b' _ o w).2.2.2.2.2
 ·unfold Qs;rw [Qb3 _ _ _ _ _ h]
@[go_sem] theorem QaS(w:World)(b b' o:Nat)(cs:Array Value):Lt b' (Qe w b o cs)=Lt b' w:=by unfold Lt;rw [Qb2]
@[go_sem] theorem Qsc(w:World)(b b' o i:Nat)(cs:Array Value):(Qe w b o cs).frozen? ⟨b',i,none⟩=w.frozen? ⟨b',i,none⟩:=by rw [Y7,Y7,ZV]
theorem Ext.sa{w:World}{b o:Nat}(cs:Array Value)(hp:w.heap.size≤b)(h:Ext w W):Ext w (Qe W b o cs):=
 let s:=Za b cs.toList o W
 h.trans ⟨s.2.2.1,s.2.2.2.1,s.2.2.2.2.1,by rw [Qb2];exact Nat.le_refl _,fun k hk=>Qb3 W b o cs k Om⟩
theorem Qq(w:World)(b:Nat)(cs:Array Value)(h:(Qc w b).size=cs.size):Qc (Qe w b 0 cs) b=cs:=J0 w b cs h
theorem Q9(cs:Array Value)(n:Nat)(h:cs.size=n):QB cs 0 n=cs:=by unfold QB;subst h;simp
theorem Zv{P:Program}{fn:Func}{p:Tmp}{v:Value}(h:fn.results=#[.cell p ty])(tmps:Array Value)(w:World)(g:Nat)
  (hp:tmps.getD p undef= .pointer (some ⟨g,0,none⟩))(hl:(loadVar ty ⟨g,0,none⟩).run P w= .ok v w):(results fn tmps).run P w= .ok v w:=by
 have hp':tmps[p]?.getD undef= .pointer (some ⟨g,0,none⟩):=by simpa using hp
 simp [results,h,hp',asAddr,hl]
theorem Zc{w':World}{b:Nat}(h:Ext W w')(hb:Lt b W)(hr:Qc W b=cs):Qc w' b=cs:=by rw [Qf (h.block b hb)];exact hr
theorem QF(cs:Array Value):(Value.agg cs).cells=cs:=rfl
theorem Zw(n:Nat)(f:Nat→Value)(h: ∀i,(f i).oneCell'=true):QK (rowv n f):=by
 unfold QK;rw [Array.all_eq_true];intro i hi;simp [rowv,h]
theorem Q5(n:Nat)(f:Nat→Value)(o m:Nat)(h:o+m≤n):QB (rowv n f) o m=rowv m (fun j=>f (o+j)):=by
 unfold QB
 apply Array.ext_getElem?
 intro j;rw [Array.getElem?_extract,QY,QM,QM]
 by_cases hj:j<m
 ·rw [if_pos Om,if_pos Om,if_pos hj]
 ·rw [if_neg Om,if_neg hj]
@[go_sem ↓ high] theorem QuZ{l:Option Nat}:Oper.semAt l ρ ⟨dst,.move x,tq,pos,after,g⟩=execOp ρ ⟨dst,.move x,tq,pos,after,g⟩:=Oper.semAt_eq _ _ _ (fun c h=>by cases h)
@[go_sem ↓ high] theorem Qsd{l:Option Nat}:Oper.semAt l ρ ⟨dst,.assign x,tq,pos,after,g⟩=execOp ρ ⟨dst,.assign x,tq,pos,after,g⟩:=Oper.semAt_eq _ _ _ (fun c h=>by cases h)
@[go_sem ↓ high] theorem Qu0{l:Option Nat}{c a b:Operand}:Oper.semAt l ρ ⟨dst,.pick c a b,tq,pos,after,g⟩=execOp ρ ⟨dst,.pick c a b,tq,pos,after,g⟩:=Oper.semAt_eq _ _ _ (fun c h=>by cases h)
@[go_sem ↓ high] theorem QtV{l:Option Nat}{e:TypeId}:Oper.semAt l ρ ⟨dst,.alloc e,tq,pos,after,g⟩=execOp ρ ⟨dst,.alloc e,tq,pos,after,g⟩:=Oper.semAt_eq _ _ _ (fun c h=>by cases h)
@[go_sem ↓ high] theorem Qwu{l:Option Nat}{e:TypeId}{v:Operand}:Oper.semAt l ρ ⟨dst,.box e v,tq,pos,after,g⟩=execOp ρ ⟨dst,.box e v,tq,pos,after,g⟩:=Oper.semAt_eq _ _ _ (fun c h=>by cases h)
@[go_sem ↓ high] theorem QtW{l:Option Nat}{t:TypeId}(p:Array (Nat×Operand)):Oper.semAt l ρ ⟨dst,.build t p,tq,pos,after,g⟩=execOp ρ ⟨dst,.build t p,tq,pos,after,g⟩:=Oper.semAt_eq _ _ _ (fun c h=>by cases h)
@[go_sem ↓ high] theorem QmL{l:Option Nat}{t:TypeId}(n:Nat)(p:Array (Nat×Operand)):Oper.semAt l ρ ⟨dst,.buildSlice t n p,tq,pos,after,g⟩=execOp ρ ⟨dst,.buildSlice t n p,tq,pos,after,g⟩:=Oper.semAt_eq _ _ _ (fun c h=>by cases h)
@[go_sem ↓ high] theorem Qse{l:Option Nat}{t:TypeId}{m k v:Operand}:Oper.semAt l ρ ⟨dst,.insert t m k v,tq,pos,after,g⟩=execOp ρ ⟨dst,.insert t m k v,tq,pos,after,g⟩:=Oper.semAt_eq _ _ _ (fun c h=>by cases h)
@[go_sem ↓ high] theorem Qu1{l:Option Nat}{t:TypeId}:Oper.semAt l ρ ⟨dst,.load t x,tq,pos,after,g⟩=execOp ρ ⟨dst,.load t x,tq,pos,after,g⟩:=Oper.semAt_eq _ _ _ (fun c h=>by cases h)
@[go_sem ↓ high] theorem QtX{l:Option Nat}{t:TypeId}:Oper.semAt l ρ ⟨dst,.store t x y,tq,pos,after,g⟩=execOp ρ ⟨dst,.store t x y,tq,pos,after,g⟩:=Oper.semAt_eq _ _ _ (fun c h=>by cases h)
@[go_sem ↓ high] theorem QoR{l:Option Nat}:Oper.semAt l ρ ⟨dst,.nilCheck x,tq,pos,after,g⟩=execOp ρ ⟨dst,.nilCheck x,tq,pos,after,g⟩:=Oper.semAt_eq _ _ _ (fun c h=>by cases h)
@[go_sem ↓ high] theorem QtY{l:Option Nat}(o:BinOp){t:TypeId}{u:TypeId}:Oper.semAt l ρ ⟨dst,.binOp o t x y u,tq,pos,after,g⟩=execOp ρ ⟨dst,.binOp o t x y u,tq,pos,after,g⟩:=Oper.semAt_eq _ _ _ (fun c h=>by cases h)
@[go_sem ↓ high] theorem Qu2{l:Option Nat}(o:UnOp){t:TypeId}:Oper.semAt l ρ ⟨dst,.unOp o t x,tq,pos,after,g⟩=execOp ρ ⟨dst,.unOp o t x,tq,pos,after,g⟩:=Oper.semAt_eq _ _ _ (fun c h=>by cases h)
@[go_sem ↓ high] theorem QrI{l:Option Nat}{s d:TypeId}:Oper.semAt l ρ ⟨dst,.convert s d x,tq,pos,after,g⟩=execOp ρ ⟨dst,.convert s d x,tq,pos,after,g⟩:=Oper.semAt_eq _ _ _ (fun c h=>by cases h)
@[go_sem ↓ high] theorem Qjg{l:Option Nat}{t:TypeId}:Oper.semAt l ρ ⟨dst,.makeInterface t x,tq,pos,after,g⟩=execOp ρ ⟨dst,.makeInterface t x,tq,pos,after,g⟩:=Oper.semAt_eq _ _ _ (fun c h=>by cases h)
@[go_sem ↓ high] theorem QoS{l:Option Nat}(f:Fn)(a b:Array Operand):Oper.semAt l ρ ⟨dst,.makeFunc f a b,tq,pos,after,g⟩=execOp ρ ⟨dst,.makeFunc f a b,tq,pos,after,g⟩:=Oper.semAt_eq _ _ _ (fun c h=>by cases h)
@[go_sem ↓ high] theorem QrJ{l:Option Nat}{t:TypeId}(r:Option Operand):Oper.semAt l ρ ⟨dst,.makeMap t r,tq,pos,after,g⟩=execOp ρ ⟨dst,.makeMap t r,tq,pos,after,g⟩:=Oper.semAt_eq _ _ _ (fun c h=>by cases h)
@[go_sem ↓ high] theorem Qoc{l:Option Nat}{t:TypeId}{a b:Operand}:Oper.semAt l ρ ⟨dst,.makeSlice t a b,tq,pos,after,g⟩=execOp ρ ⟨dst,.makeSlice t a b,tq,pos,after,g⟩:=Oper.semAt_eq _ _ _ (fun c h=>by cases h)
@[go_sem ↓ high] theorem QtZ{l:Option Nat}{t:TypeId}(a b c:Option Operand):Oper.semAt l ρ ⟨dst,.slice t x a b c,tq,pos,after,g⟩=execOp ρ ⟨dst,.slice t x a b c,tq,pos,after,g⟩:=Oper.semAt_eq _ _ _ (fun c h=>by cases h)
@[go_sem ↓ high] theorem Qod{l:Option Nat}{t:TypeId}(n:Nat):Oper.semAt l ρ ⟨dst,.fieldAddr t x n,tq,pos,after,g⟩=execOp ρ ⟨dst,.fieldAddr t x n,tq,pos,after,g⟩:=Oper.semAt_eq _ _ _ (fun c h=>by cases h)
@[go_sem ↓ high] theorem Qt0{l:Option Nat}{t:TypeId}(n:Nat):Oper.semAt l ρ ⟨dst,.field t x n,tq,pos,after,g⟩=execOp ρ ⟨dst,.field t x n,tq,pos,after,g⟩:=Oper.semAt_eq _ _ _ (fun c h=>by cases h)
@[go_sem ↓ high] theorem Qoe{l:Option Nat}{t:TypeId}{i:Operand}:Oper.semAt l ρ ⟨dst,.indexAddr t x i,tq,pos,after,g⟩=execOp ρ ⟨dst,.indexAddr t x i,tq,pos,after,g⟩:=Oper.semAt_eq _ _ _ (fun c h=>by cases h)
@[go_sem ↓ high] theorem Qt1{l:Option Nat}{t:TypeId}{i:Operand}:Oper.semAt l ρ ⟨dst,.index t x i,tq,pos,after,g⟩=execOp ρ ⟨dst,.index t x i,tq,pos,after,g⟩:=Oper.semAt_eq _ _ _ (fun c h=>by cases h)
@[go_sem ↓ high] theorem Qu3{l:Option Nat}(c:Call):Oper.semAt l ρ ⟨dst,.call c,tq,pos,after,g⟩=execOp ρ ⟨dst,.call c,tq,pos,after,g⟩:=Oper.semAt_eq _ _ _ (fun c h=>by cases h)
section
variable {F:Fence} {n:Nat} {P:Program} {ops:Array Oper} {Q:Exit→Act→World→Prop} {a:Act} {w w':World} {rest:List Oper} {o:Oper} {v:Value}
end
structure Mo where
 ph:Int
 cur:Int
 nxt:Int
 gen:Int
 tick:Int
 ver:Int
 deriving DecidableEq
abbrev mo(ph cur nxt gen tick ver:Int):Value:= .agg #[.int .u8 ph,.int .i64 cur,.int .i64 nxt,.int .i64 gen,.int .i64 tick,.int .i64 ver]
abbrev Mo.v(m:Mo):Value:=mo m.ph m.cur m.nxt m.gen m.tick m.ver
def Qlv(n:Int):Bool:=decide (0≤n)&&decide (n≤5)
def Qt2(n:Int):Bool:=decide (0≤n)&&decide (n≤1099511627776)
def QAe(m:Mo):Bool:=
 if m.ph=0 then m.cur== -1&&m.nxt== -1
 else if m.ph=1 then Qlv m.cur&&m.nxt== -1
 else if m.ph=6 then m.cur== -1&&Qlv m.nxt
 else Qlv m.cur&&Qlv m.nxt&&m.cur !=m.nxt
def QAf(m:Mo):Bool:=decide (0≤m.gen)&&decide (m.gen≤2147483647)&&(decide (1≤m.gen)||m.ph==0)
def Mo.right(m:Mo):Bool:=decide (m.ph<7)&&QAe m&&QAf m&&Qt2 m.tick&&Qt2 m.ver
structure Sh where
 b:Int
 t:Int
 deriving DecidableEq
def SlS(w:World)(p:Option Addr)(xs:List Sh):Prop:= ∀k,(h:k<xs.length)→ ∃b off,p=some ⟨b,off,none⟩∧b<w.heap.size∧w.cell? ⟨b,off+k*2,none⟩=some (.int .i64 xs[k].b)∧w.cell? ⟨b,off+k*2+1,none⟩=some (.int .i64 xs[k].t)
theorem SlS.ext{p:Option Addr}{xs:List Sh}(h:SlS w p xs)(e:Ext w w'):SlS w' p xs:=fun k hk=>by
 obtain⟨b,off,hp,hb,c0,c1⟩:=h k hk;exact⟨b,off,hp,Xl hb e.size,(e.cell (p:=⟨b,off+k*2,none⟩) hb).trans c0,(e.cell (p:=⟨b,off+k*2+1,none⟩) hb).trans c1⟩
theorem SlS.nil(w:World)(p:Option Addr):SlS w p []:=fun k hk=>by simp at hk
def Mo.at(m:Mo):Nat→Value
 |0=> .int .u8 m.ph
 |1=> .int .i64 m.cur
 |2=> .int .i64 m.nxt
 |3=> .int .i64 m.gen
 |4=> .int .i64 m.tick
 |_=> .int .i64 m.ver
def lm(l:Nat→Mo):Array Value:=rowv 96 fun j=>(l (j/6)).at (j % 6)
theorem QgI(l:Nat→Mo):(lm l).size=96:=QY _ _
theorem QoT(m:Mo)(j:Nat):(m.at j).oneCell'=true:=by
 unfold Mo.at
 split<;>rfl
@[go_sem] theorem QAg(l:Nat→Mo):QK (lm l):=Zw _ _ fun j=>QoT _ _
@[go_sem ↓ high] theorem QxO(l:Nat→Mo):(Value.agg (lm l)).cells=lm l:=rfl
@[go_sem] theorem QzB{x o m}:Fits o m (lm x)=(o+m≤96):=by unfold Fits;rw [QgI]
@[go_sem] theorem Qwv{x}:Qn (lm x) 96:=QgI x
structure Md where
 kind:Int
 peer:Int
 gen:Int
 ret:Bool
 deriving DecidableEq
structure En where
 cur:Int
 prev:Int
 gen:Int
 tick:Int
 deriving DecidableEq
structure Tb where
 ver:Int
 rows:Nat→En
structure Cl where
 has:Bool
 t:Tb
structure Ag where
 id:Int
 idle:Int
 md:Nat→Md
 p:Option Addr
 xs:List Co
 c:Nat
structure Mb where
 bk:Nat→Int
 mx:Nat→Int
structure St where
 mb:Mb
 mv:Nat→Mo
 t:Tb
 set:Nat→Int
 has:Nat→Int
 win:Int
 p:Option Addr
 pl:List Sh
 c:Nat
structure Wd where
 now:Int
 idle:Int
 st:St
 cl:Nat→Cl
 ag:Nat→Ag
 fp:Option Addr
 fl:Nat
 fc:Nat
 tp:Option Addr
 tl:Nat
 tc:Nat
 drops:Nat→Int
def Md.at(m:Md)(j:Nat):Value:=match j with|0=> .int .u8 m.kind|1=> .int .i64 m.peer|2=> .int .i64 m.gen|_=> .bool m.ret
def En.at(e:En)(j:Nat):Value:=match j with|0=> .int .i64 e.cur|1=> .int .i64 e.prev|2=> .int .i64 e.gen|_=> .int .i64 e.tick
def Tb.at(t:Tb)(j:Nat):Value:=if j=0 then .int .i64 t.ver else(t.rows ((j- 1)/4)).at ((j- 1) % 4)
def Cl.at(c:Cl)(j:Nat):Value:=if j=0 then .bool c.has else c.t.at (j- 1)
def Ag.at(a:Ag)(j:Nat):Value:=if j=0 then .int .i64 a.id else if j=1 then .int .i64 a.idle else if j<66 then(a.md ((j- 2)/4)).at ((j- 2) % 4)else .slice a.p a.xs.length a.c
def Mb.at(m:Mb)(j:Nat):Value:=if j<6 then .int .u8 (m.bk j)else .int .u8 (m.mx (j- 6))
def St.at(s:St)(j:Nat):Value:=
 if j<9 then s.mb.at j else if j<105 then(s.mv ((j- 9)/6)).at ((j- 9) % 6)else if j<170 then s.t.at (j- 105)else if j<186 then .int .i64 (s.set (j- 170))
 else if j<189 then .int .i64 (s.has (j- 186))else if j=189 then .int .i64 s.win else .slice s.p s.pl.length s.c
def Wd.at(x:Wd)(j:Nat):Value:=
 if j=0 then .int .i64 x.now else if j=1 then .int .i64 x.idle else if j<193 then x.st.at (j- 2)else if j<391 then(x.cl ((j- 193)/66)).at ((j- 193) % 66)
 else if j<793 then(x.ag ((j- 391)/67)).at ((j- 391) % 67)else if j=793 then .slice x.fp x.fl x.fc else if j=794 then .slice x.tp x.tl x.tc else .int .i64 (x.drops (j- 795))
def mdv(m:Md):Array Value:=rowv 4 m.at
def mdL(l:Nat→Md):Array Value:=rowv 64 fun j=>(l (j/4)).at (j % 4)
def env(e:En):Array Value:=rowv 4 e.at
def enL(l:Nat→En):Array Value:=rowv 64 fun j=>(l (j/4)).at (j % 4)
def tbv(t:Tb):Array Value:=rowv 65 t.at
def clv(c:Cl):Array Value:=rowv 66 c.at
def clL(l:Nat→Cl):Array Value:=rowv 198 fun j=>(l (j/66)).at (j % 66)
def agv(a:Ag):Array Value:=rowv 67 a.at
def agL(l:Nat→Ag):Array Value:=rowv 402 fun j=>(l (j/67)).at (j % 67)
def mbv(m:Mb):Array Value:=rowv 9 m.at
def stv(s:St):Array Value:=rowv 191 s.at
def wdv(x:Wd):Array Value:=rowv 814 x.at
theorem J2{x}:(mdv x).size=4:=by unfold mdv;rw [QY]
@[go_sem] theorem QxP{x o m}:Fits o m (mdv x)=(o+m≤4):=by unfold Fits;rw [J2]
@[go_sem] theorem Qu4{x}:Qn (mdv x) 4:=J2
@[go_sem ↓ high] theorem Qww{x}:(Value.agg (mdv x)).cells=mdv x:=QF _
theorem Qeq{x}:(mdL x).size=64:=by unfold mdL;rw [QY]
@[go_sem] theorem QxQ{x o m}:Fits o m (mdL x)=(o+m≤64):=by unfold Fits;rw [Qeq]
@[go_sem] theorem Qu5{x}:Qn (mdL x) 64:=Qeq
@[go_sem ↓ high] theorem Qwx{x}:(Value.agg (mdL x)).cells=mdL x:=QF _
theorem Qh1{x}:(env x).size=4:=by unfold env;rw [QY]
@[go_sem] theorem QxR{x o m}:Fits o m (env x)=(o+m≤4):=by unfold Fits;rw [Qh1]
@[go_sem] theorem Qu6{x}:Qn (env x) 4:=Qh1
@[go_sem ↓ high] theorem Qwy{x}:(Value.agg (env x)).cells=env x:=QF _
theorem Qer{x}:(enL x).size=64:=by unfold enL;rw [QY]
@[go_sem] theorem QxS{x o m}:Fits o m (enL x)=(o+m≤64):=by unfold Fits;rw [Qer]
@[go_sem] theorem Qu7{x}:Qn (enL x) 64:=Qer
@[go_sem ↓ high] theorem Qwz{x}:(Value.agg (enL x)).cells=enL x:=QF _
theorem Qes{x}:(tbv x).size=65:=by unfold tbv;rw [QY]
@[go_sem] theorem QxT{x o m}:Fits o m (tbv x)=(o+m≤65):=by unfold Fits;rw [Qes]
@[go_sem] theorem Qu8{x}:Qn (tbv x) 65:=Qes
@[go_sem ↓ high] theorem QwA{x}:(Value.agg (tbv x)).cells=tbv x:=QF _
theorem Qet{x}:(clv x).size=66:=by unfold clv;rw [QY]
@[go_sem] theorem QxU{x o m}:Fits o m (clv x)=(o+m≤66):=by unfold Fits;rw [Qet]
@[go_sem] theorem Qu9{x}:Qn (clv x) 66:=Qet
@[go_sem ↓ high] theorem QwB{x}:(Value.agg (clv x)).cells=clv x:=QF _
theorem Qeu{x}:(clL x).size=198:=by unfold clL;rw [QY]
@[go_sem] theorem QxV{x o m}:Fits o m (clL x)=(o+m≤198):=by unfold Fits;rw [Qeu]
@[go_sem] theorem Qva{x}:Qn (clL x) 198:=Qeu
@[go_sem ↓ high] theorem QwC{x}:(Value.agg (clL x)).cells=clL x:=QF _
theorem Qg{x}:(agv x).size=67:=by unfold agv;rw [QY]
@[go_sem] theorem QxW{x o m}:Fits o m (agv x)=(o+m≤67):=by unfold Fits;rw [Qg]
@[go_sem] theorem Qvb{x}:Qn (agv x) 67:=Qg
@[go_sem ↓ high] theorem QwD{x}:(Value.agg (agv x)).cells=agv x:=QF _
theorem Qev{x}:(agL x).size=402:=by unfold agL;rw [QY]
@[go_sem] theorem QxX{x o m}:Fits o m (agL x)=(o+m≤402):=by unfold Fits;rw [Qev]
@[go_sem] theorem Qvc{x}:Qn (agL x) 402:=Qev
@[go_sem ↓ high] theorem QwE{x}:(Value.agg (agL x)).cells=agL x:=QF _
theorem Qew{x}:(mbv x).size=9:=by unfold mbv;rw [QY]
@[go_sem] theorem QxY{x o m}:Fits o m (mbv x)=(o+m≤9):=by unfold Fits;rw [Qew]
@[go_sem] theorem Qvd{x}:Qn (mbv x) 9:=Qew
@[go_sem ↓ high] theorem QwF{x}:(Value.agg (mbv x)).cells=mbv x:=QF _
theorem Qex{x}:(stv x).size=191:=by unfold stv;rw [QY]
@[go_sem] theorem QxZ{x o m}:Fits o m (stv x)=(o+m≤191):=by unfold Fits;rw [Qex]
@[go_sem] theorem Qve{x}:Qn (stv x) 191:=Qex
@[go_sem ↓ high] theorem QwG{x}:(Value.agg (stv x)).cells=stv x:=QF _
theorem Qey{x}:(wdv x).size=814:=by unfold wdv;rw [QY]
@[go_sem] theorem Qx0{x o m}:Fits o m (wdv x)=(o+m≤814):=by unfold Fits;rw [Qey]
@[go_sem] theorem Qvf{x}:Qn (wdv x) 814:=Qey
@[go_sem ↓ high] theorem QwH{x}:(Value.agg (wdv x)).cells=wdv x:=QF _
theorem QcZ(m:Md)(j:Nat):(m.at j).oneCell'=true:=by unfold Md.at;split<;>rfl
theorem Qc0(m:En)(j:Nat):(m.at j).oneCell'=true:=by unfold En.at;split<;>rfl
theorem Qc1(t:Tb)(j:Nat):(t.at j).oneCell'=true:=by unfold Tb.at;split;rfl;exact Qc0 _ _
theorem Qc2(c:Cl)(j:Nat):(c.at j).oneCell'=true:=by unfold Cl.at;split;rfl;exact Qc1 _ _
theorem Qc3(a:Ag)(j:Nat):(a.at j).oneCell'=true:=by unfold Ag.at;split;rfl;split;rfl;split;exact QcZ _ _;rfl
theorem QfS(m:Mb)(j:Nat):(m.at j).oneCell'=true:=by unfold Mb.at;split<;>rfl
theorem QfT(s:St)(j:Nat):(s.at j).oneCell'=true:=by
 unfold St.at;split;exact QfS _ _;split;exact QoT _ _;split;exact Qc1 _ _;split;rfl;split;rfl;split<;>rfl
theorem QmM(x:Wd)(j:Nat):(x.at j).oneCell'=true:=by
 unfold Wd.at;split;rfl;split;rfl;split;exact QfT _ _;split;exact Qc2 _ _;split;exact Qc3 _ _;split;rfl;split<;>rfl
@[go_sem] theorem Qsf{x}:QK (mdv x):=Zw _ _ fun _=>QcZ _ _
@[go_sem] theorem QzC{x}:QK (mdL x):=Zw _ _ fun _=>QcZ _ _
@[go_sem] theorem QzD{x}:QK (env x):=Zw _ _ fun _=>Qc0 _ _
@[go_sem] theorem QzE{x}:QK (enL x):=Zw _ _ fun _=>Qc0 _ _
@[go_sem] theorem QzF{x}:QK (tbv x):=Zw _ _ fun _=>Qc1 _ _
@[go_sem] theorem QzG{x}:QK (clv x):=Zw _ _ fun _=>Qc2 _ _
@[go_sem] theorem QzH{x}:QK (clL x):=Zw _ _ fun _=>Qc2 _ _
@[go_sem] theorem Zr{x}:QK (agv x):=Zw _ _ fun _=>Qc3 _ _
@[go_sem] theorem QzI{x}:QK (agL x):=Zw _ _ fun _=>Qc3 _ _
@[go_sem] theorem QzJ{x}:QK (mbv x):=Zw _ _ fun _=>QfS _ _
@[go_sem] theorem QzK{x}:QK (stv x):=Zw _ _ fun _=>QfT _ _
@[go_sem] theorem QzL{x}:QK (wdv x):=Zw _ _ fun _=>QmM _ _
@[go_sem] theorem Qt3{x}:QB (mdL x) 0 64=mdL x:=Q9 _ _ (Qeq)
@[go_sem] theorem Qt4{x}:QB (enL x) 0 64=enL x:=Q9 _ _ (Qer)
@[go_sem] theorem Qt5{x}:QB (tbv x) 0 65=tbv x:=Q9 _ _ (Qes)
@[go_sem] theorem Qt6{x}:QB (clv x) 0 66=clv x:=Q9 _ _ (Qet)
@[go_sem] theorem Qt7{x}:QB (clL x) 0 198=clL x:=Q9 _ _ (Qeu)
@[go_sem] theorem QdJ{x}:QB (agv x) 0 67=agv x:=Q9 _ _ (Qg)
@[go_sem] theorem Qt8{x}:QB (agL x) 0 402=agL x:=Q9 _ _ (Qev)
@[go_sem] theorem Qt9{x}:QB (mbv x) 0 9=mbv x:=Q9 _ _ (Qew)
@[go_sem] theorem Qua{x}:QB (stv x) 0 191=stv x:=Q9 _ _ (Qex)
@[go_sem] theorem Qub{x}:QB (wdv x) 0 814=wdv x:=Q9 _ _ (Qey)
@[go_sem] theorem Qvg{x}:QB (lm x) 0 96=lm x:=Q9 _ _ (QgI _)
@[go_sem] theorem QwI(x:Wd):QB (wdv x) 2 191=stv x.st:=by
 unfold wdv stv;rw [Q5 _ _ _ _ Om];refine QH _ _ _ fun j hj=> ?_;unfold Wd.at;rw [if_neg Om,if_neg Om,if_pos Om,show 2+j- 2=j by omega]
@[go_sem] theorem QwJ(x:Wd):QB (wdv x) 2 9=mbv x.st.mb:=by
 unfold wdv mbv;rw [Q5 _ _ _ _ Om];refine QH _ _ _ fun j hj=> ?_;unfold Wd.at;rw [if_neg Om,if_neg Om,if_pos Om,show 2+j- 2=j by omega];unfold St.at;rw [if_pos hj]
@[go_sem] theorem QwK(x:Wd):QB (wdv x) 11 96=lm x.st.mv:=by
 unfold wdv lm;rw [Q5 _ _ _ _ Om];refine QH _ _ _ fun j hj=> ?_;unfold Wd.at;rw [if_neg Om,if_neg Om,if_pos Om,show 11+j- 2=j+9 by omega];unfold St.at;rw [if_neg Om,if_pos Om,show j+9- 9=j by omega]
@[go_sem] theorem Qvh(x:Wd):QB (wdv x) 193 198=clL x.cl:=by
 unfold wdv clL;rw [Q5 _ _ _ _ Om];refine QH _ _ _ fun j hj=> ?_;unfold Wd.at;rw [if_neg Om,if_neg Om,if_neg Om,if_pos Om,show 193+j- 193=j by omega]
@[go_sem] theorem QwL(x:Wd)(i:Nat)(hi:i<3):QB (wdv x) (193+i*66) 66=clv (x.cl i):=by
 unfold wdv clv;rw [Q5 _ _ _ _ Om];refine QH _ _ _ fun j hj=> ?_;unfold Wd.at;rw [if_neg Om,if_neg Om,if_neg Om,if_pos Om,show(193+i*66+j- 193)/66=i by omega,show(193+i*66+j- 193) % 66=j by omega]
@[go_sem] theorem Qvi(x:Wd):QB (wdv x) 391 402=agL x.ag:=by
 unfold wdv agL;rw [Q5 _ _ _ _ Om];refine QH _ _ _ fun j hj=> ?_;unfold Wd.at;rw [if_neg Om,if_neg Om,if_neg Om,if_neg Om,if_pos Om,show 391+j- 391=j by omega]
@[go_sem] theorem QwM(x:Wd)(i:Nat)(hi:i<6):QB (wdv x) (391+i*67) 67=agv (x.ag i):=by
 unfold wdv agv;rw [Q5 _ _ _ _ Om];refine QH _ _ _ fun j hj=> ?_;unfold Wd.at;rw [if_neg Om,if_neg Om,if_neg Om,if_neg Om,if_pos Om,show(391+i*67+j- 391)/67=i by omega,show(391+i*67+j- 391) % 67=j by omega]
@[go_sem] theorem QwN(s:St):QB (stv s) 0 9=mbv s.mb:=by
 unfold stv mbv;rw [Q5 _ _ _ _ Om];refine QH _ _ _ fun j hj=> ?_;unfold St.at;rw [Nat.zero_add,if_pos hj]
@[go_sem] theorem QwO(s:St):QB (stv s) 9 96=lm s.mv:=by
 unfold stv lm;rw [Q5 _ _ _ _ Om];refine QH _ _ _ fun j hj=> ?_;unfold St.at;rw [if_neg Om,if_pos Om,show 9+j- 9=j by omega]
@[go_sem] theorem Qx1(s:St):QB (stv s) 105 65=tbv s.t:=by
 unfold stv tbv;rw [Q5 _ _ _ _ Om];refine QH _ _ _ fun j hj=> ?_;unfold St.at;rw [if_neg Om,if_neg Om,if_pos Om,show 105+j- 105=j by omega]
@[go_sem] theorem Quc(t:Tb):QB (tbv t) 1 64=enL t.rows:=by
 unfold tbv enL;rw [Q5 _ _ _ _ Om];refine QH _ _ _ fun j hj=> ?_;unfold Tb.at;rw [if_neg Om,show 1+j- 1=j by omega]
@[go_sem] theorem Qx2(c:Cl):QB (clv c) 1 65=tbv c.t:=by
 unfold clv tbv;rw [Q5 _ _ _ _ Om];refine QH _ _ _ fun j hj=> ?_;unfold Cl.at;rw [if_neg Om,show 1+j- 1=j by omega]
@[go_sem] theorem Qvj(l:Nat→Ag)(i:Nat)(hi:i<6):QB (agL l) (i*67) 67=agv (l i):=by
 unfold agL agv;rw [Q5 _ _ _ _ Om];refine QH _ _ _ fun j hj=> ?_;rw [show(i*67+j)/67=i by omega,show(i*67+j) % 67=j by omega]
@[go_sem] theorem Qvk(l:Nat→Cl)(i:Nat)(hi:i<3):QB (clL l) (i*66) 66=clv (l i):=by
 unfold clL clv;rw [Q5 _ _ _ _ Om];refine QH _ _ _ fun j hj=> ?_;rw [show(i*66+j)/66=i by omega,show(i*66+j) % 66=j by omega]
@[go_sem] theorem Qvl(a:Ag):QB (agv a) 2 64=mdL a.md:=by
 unfold agv mdL;rw [Q5 _ _ _ _ Om];refine QH _ _ _ fun j hj=> ?_;unfold Ag.at;rw [if_neg Om,if_neg Om,if_pos Om,show 2+j- 2=j by omega]
@[go_sem] theorem QwP(a:Ag)(k:Nat)(hk:k<16):QB (agv a) (2+k*4) 4=mdv (a.md k):=by
 unfold agv mdv;rw [Q5 _ _ _ _ Om];refine QH _ _ _ fun j hj=> ?_;unfold Ag.at;rw [if_neg Om,if_neg Om,if_pos Om,show(2+k*4+j- 2)/4=k by omega,show(2+k*4+j- 2) % 4=j by omega]
@[go_sem] theorem QwQ(x:Wd)(i k:Nat)(hi:i<6)(hk:k<16):QB (wdv x) (391+i*67+2+k*4) 4=mdv ((x.ag i).md k):=by
 unfold wdv mdv;rw [Q5 _ _ _ _ Om];refine QH _ _ _ fun j hj=> ?_;unfold Wd.at;rw [if_neg Om,if_neg Om,if_neg Om,if_neg Om,if_pos Om,show(391+i*67+2+k*4+j- 391)/67=i by omega,show(391+i*67+2+k*4+j- 391) % 67=2+k*4+j by omega];unfold Ag.at;rw [if_neg Om,if_neg Om,if_pos Om,show(2+k*4+j- 2)/4=k by omega,show(2+k*4+j- 2) % 4=j by omega]
@[go_sem] theorem Qlw(m:Md):(mdv m)[0]?=some (.int .u8 m.kind):=by
 unfold mdv;rw [QM,if_pos Om];simp [Md.at,En.at,Ag.at]
@[go_sem] theorem Qsg(m:Md):(mdv m)[1]?=some (.int .i64 m.peer):=by
 unfold mdv;rw [QM,if_pos Om];simp [Md.at,En.at,Ag.at]
@[go_sem] theorem QzM(m:Md):(mdv m)[2]?=some (.int .i64 m.gen):=by
 unfold mdv;rw [QM,if_pos Om];simp [Md.at,En.at,Ag.at]
@[go_sem] theorem Qlx(m:Md):(mdv m)[3]?=some (.bool m.ret):=by
 unfold mdv;rw [QM,if_pos Om];simp [Md.at,En.at,Ag.at]
@[go_sem] theorem QzN(e:En):(env e)[0]?=some (.int .i64 e.cur):=by
 unfold env;rw [QM,if_pos Om];simp [Md.at,En.at,Ag.at]
@[go_sem] theorem QzO(e:En):(env e)[1]?=some (.int .i64 e.prev):=by
 unfold env;rw [QM,if_pos Om];simp [Md.at,En.at,Ag.at]
@[go_sem] theorem QzP(e:En):(env e)[2]?=some (.int .i64 e.gen):=by
 unfold env;rw [QM,if_pos Om];simp [Md.at,En.at,Ag.at]
@[go_sem] theorem QzQ(e:En):(env e)[3]?=some (.int .i64 e.tick):=by
 unfold env;rw [QM,if_pos Om];simp [Md.at,En.at,Ag.at]
@[go_sem] theorem Jw(a:Ag):(agv a)[0]?=some (.int .i64 a.id):=by
 unfold agv;rw [QM,if_pos Om];simp [Md.at,En.at,Ag.at]
@[go_sem] theorem Jb(a:Ag):(agv a)[1]?=some (.int .i64 a.idle):=by
 unfold agv;rw [QM,if_pos Om];simp [Md.at,En.at,Ag.at]
@[go_sem] theorem Qu(a:Ag):(agv a)[66]?=some (.slice a.p a.xs.length a.c):=by
 unfold agv;rw [QM,if_pos Om];simp [Md.at,En.at,Ag.at]
def c16(n:Int):Int:=if n=0 then 0 else(n- 1) % 65535+1
theorem QjA{n:Int}:0≤c16 n∧c16 n<65536:=by unfold c16;split<;>omega
theorem QfU{n:Int}(h0:0≤n)(h:n<65536):c16 n=n:=by unfold c16;split<;>omega
theorem Qh2{n:Int}(h:65536≤n):c16 (n % 65536+n/65536)=c16 n:=by
 unfold c16;rw [if_neg Om,if_neg Om];omega
theorem Qly{n:Int}(h0:0≤n)(h1:n<18446744073709551616):bits BinOp.and IntKind.u64 n 65535=n % 65536:=by
 obtain⟨a,rfl⟩:=Int.eq_ofNat_of_zero_le h0;rw [show(65535:Int)=((65535:Nat):Int)from rfl,Qcr _ _ _ (by show a<2^64;omega) (by show 65535<2^64;omega),QaQ,show(65535:Nat)=2^16- 1 from rfl,Nat.and_two_pow_sub_one_eq_mod];omega
def QaT(l:List Int):Int:=l.foldl (· + ·) 0
theorem Qc4(l:List Int)(i:Nat)(x:Int)(h:l[i]?=some x):QaT (l.take (i+1))=QaT (l.take i)+x:=by
 unfold QaT;rw [List.take_add_one,h,List.foldl_append];rfl
theorem J3: ∀(bs:List Int),ByR bs→ ∀x∈Zb bs,0≤x∧x<65536
 | [],_,x,h=>by cases h
 | [a],hr,x,h=>by
  have:=hr a (by simp);simp [Zb]at h;omega
 |a::b::r,hr,x,h=>by
  rw [Qam]at h;rcases List.mem_cons.1 h with rfl|h
  ·have:=hr a (by simp);have:=hr b (by simp);omega
  ·exact J3 r (fun y hy=>hr y (by simp [hy])) x h
theorem Qd2(l:List Int)(h: ∀x∈l,0≤x∧x<65536): ∀i,0≤QaT (l.take i)∧QaT (l.take i)≤65535*i
 |0=>by simp [QaT]
 |i+1=>by
  have ih:=Qd2 l h i
  cases hx:l[i]? with
  |none=>
   have:l.take (i+1)=l.take i:=by rw [List.take_add_one,hx];simp
   rw [this];omega
  |some x=>
   have hb:=h x (List.mem_of_getElem? hx);rw [Qc4 l i x hx];omega
def Qb4(bs:List Int):Int:=c16 (QaT (Zb bs))
theorem QgJ(bs:List Int):0≤Qb4 bs∧Qb4 bs<65536:=QjA
theorem Qh3(n:Int)(w:World)(h0:0≤n)(h1:n≤4294967295000):Calls Tryz.prog 252 #[.int .u64 n] w fun e w'=>e= .returned (.int .u16 (c16 n))∧w=w':=by
 go_enter Tryz.func252,Tryz.ntmps252
 go_wp2;refine wp_scope_jumps 0 (fun a' w'=>w'=w∧ ∃(m:Int) (u3 u4 u5 u6 u7 u8 u9 u10:Value),a'={tmps:=#[.int .u64 m,undef,.int .u16 0,u3,u4,u5,u6,u7,u8,u9,u10,undef,undef],defers:= []}∧0≤m∧m≤4294967295000∧Hid (c16 m=c16 n)) (fun a' _=>(intOf (a'.tmps.getD 0 undef)).toNat) rfl ?_ ?_
 ·go_wp2;go_step3;rcases Int.lt_or_le n 65536 with hlt|hge
  ·have q1:n/65536=0:=by omega
   have q2:IntKind.u16.wrap n=n:=by rw [Q4];omega
   go_wp2;simp only [Exit.jump];go_ret;exact⟨by rw [show c16 n=n from by exact QfU h0 hlt];rfl,rfl⟩
  ·have q1: ¬n/65536=0:=by omega
   have q2:bits BinOp.and IntKind.u64 n 65535=n % 65536:=Qly h0 Om;have q3:IntKind.u64.wrap (n % 65536+n/65536)=n % 65536+n/65536:=by rw [QaQ];omega
   go_wp2;go_step3;exact⟨rfl,rfl,_,_,_,_,_,_,_,_,_,rfl,Om,Om,Xh (by rw [Qh2 Om])⟩
 ·rintro a' w' ⟨rfl,m,u3,u4,u5,u6,u7,u8,u9,u10,rfl,h0,h1,HC⟩;rcases Int.lt_or_le m 65536 with hlt|hge
  ·have q1:m/65536=0:=by omega
   have q2:IntKind.u16.wrap m=m:=by rw [Q4];omega
   go_wp2;simp only [Exit.jump];go_ret;exact⟨by rw [show c16 n=m from by rw [←HC.out];exact QfU h0 hlt];rfl,rfl⟩
  ·have q1: ¬m/65536=0:=by omega
   have q2:bits BinOp.and IntKind.u64 m 65535=m % 65536:=Qly h0 Om;have q3:IntKind.u64.wrap (m % 65536+m/65536)=m % 65536+m/65536:=by rw [QaQ];omega
   go_wp2;go_step3;exact⟨rfl,⟨rfl,_,_,_,_,_,_,_,_,_,rfl,Om,Om,Xh (by rw [Qh2 Om];exact HC.out)⟩,by simp [intOf];omega⟩
theorem QoU(bs:List Int)(p:Option Addr)(c:Nat)(w:World)(hb:SlB w p bs)(hr:ByR bs)(hl:bs.length≤100000)(hlc:bs.length≤c):
  Cr 233 #[.slice p bs.length c] w (.int .u16 (Qb4 bs)):=by
 have HR:=Xh hr;have HB:=Xh hb;clear hr hb;refine(callsIn_wide (n:=5)).1 ?_;refine callsIn_of_wp_marks Tryz.func233 rfl trivial ?_ rfl;simp only [Tryz.ntmps233,List.size_toArray,List.length_cons,List.length_nil,Nat.reduceAdd,Nat.reduceSub,Array.replicate_succ,Array.replicate_zero,List.push_toArray,List.append_toArray,List.nil_append,List.cons_append];refine wpIn_wide.2 ?_
 go_wp2_with (go_at_call 251;(refine(QmJ p bs.length c _).mono ?_);rintro e w2 ⟨rfl,rfl⟩)
 obtain⟨W2,hW2⟩: ∃W2,((w.alloc (Obj.cells #[.int .u64 0] 279)).alloc (Obj.cells #[.slice p bs.length c] 28))=W2:=⟨_,rfl⟩;have g2:Ext w W2:=by rw [←hW2];exact Ext.al Ea _
 have hsz:W2.heap.size=w.heap.size+2:=by rw [←hW2];simp
 have cN:W2.cell? ⟨w.heap.size,0,none⟩=some (.int .u64 0):=by rw [←hW2];simp [go_sem]
 have zN:Qs W2 w.heap.size=(0,0):=by rw [←hW2];simp [go_sem]
 have cB:W2.cell? ⟨w.heap.size+1,0,none⟩=some (.slice p bs.length c):=by rw [←hW2];simp [go_sem]
 have zB:Qs W2 (w.heap.size+1)=(0,0):=by rw [←hW2];simp [go_sem]
 rw [hW2];clear hW2;refine(wpIn_wide (n:=5)).1 ?_;refine ZI rfl Om (gf:=257) (lb:=#[.pointer (some ⟨w.heap.size+1,0,none⟩)]) rfl trivial QgH
  (Qjz _ bs p c w W2 (w.heap.size+1) (fun k=>k=w.heap.size) g2 HB.out HR.out hl hlc cB zB (by unfold Lt;omega) Om (fun k e=>by subst e;exact⟨Nat.le_refl _,Om⟩))
  (fun k e=>by omega) (fun k e=>by omega) (fun _=>rfl)
  (fun i W=>W.cell? ⟨w.heap.size,0,none⟩=some (.int .u64 (QaT ((Zb bs).take i)))∧Qs W w.heap.size=(0,0)∧Lt w.heap.size W) (fun _ _=>False)
  (fun i A B h hm=>by
   obtain⟨h1,h2,h3⟩:=h;have hs:=hm.same w.heap.size h3 Om
   exact⟨by rw [Qa,Qf hs,←Qa];exact h1,by unfold Qs at h2⊢;rw [hs];exact h2,Xl h3 hm.size⟩)
  (fun _ _ _ h _=>h) ⟨cN,zN,by unfold Lt;omega⟩
  (fun x a' W=>a'={tmps:=#[.slice p bs.length c,undef,.int .u16 0,.pointer (some ⟨w.heap.size,0,none⟩),.int .u16 x,.slice p bs.length c,.func (.func 257) #[] #[.pointer (some ⟨w.heap.size+1,0,none⟩)],.int .u16 x,undef,undef,undef,undef,undef,undef],defers:= []})
  (fun x a' A B h _=>h) ?assign ?body ?done ?stop
 case assign=>
  rintro y i x W K hsz' hv hI hx hK
  gi_wp2
  exact hK _ _ (Mv.refl _ _) hI rfl
 case body=>
  rintro y i x a' W hyl ⟨rr,hr⟩ hsz' hv ⟨h1,h2,h3⟩ hx rfl;have hN:=Xh (Qc4 _ i x hx);have hb1:=(Qd2 _ (J3 bs HR.out) i);have hxb:=J3 bs HR.out x (List.mem_of_getElem? hx);have hil:i<(Zb bs).length:=(List.getElem?_eq_some_iff.1 hx).1;rw [Ys]at hil;obtain⟨S,hS⟩: ∃S,QaT ((Zb bs).take i)=S:=⟨_,rfl⟩;rw [hS]at h1 hb1 hN;have q1:IntKind.u64.wrap x=x:=by rw [QaQ];omega
  have q2:IntKind.u64.wrap (S+x)=S+x:=by rw [QaQ];omega
  have f0:=Ql h2 0;clear hS hr hx hv hyl hb1 hxb hil
  gi_wp2
  exact⟨Mv.st _ (.inl (.inl rfl)) (Mv.refl _ _),by rw [hN.out];exact World.cell?_setCell_same _ _ _ h1,by rw [QR];exact h2,by rw [Zk];exact h3⟩
 case done=>
  rintro W ⟨h1,h2,h3⟩ hv hK;rw [List.take_length]at h1;have hb1:=(Qd2 _ (J3 bs HR.out) (Zb bs).length);rw [List.take_length,Ys]at hb1;have HS:=Xh (show Qb4 bs=c16 (QaT (Zb bs))from rfl);obtain⟨S,hS⟩: ∃S,QaT (Zb bs)=S:=⟨_,rfl⟩;rw [hS]at h1 hb1 HS;have hE2:Ext w W:=Mv.ext_of g2 hv (fun k h=>by rcases h with h|h<;>omega);have HK:=Xh hK;have HV:=Xh hE2;have HC:=Xh (fun W=>Qh3 S W hb1.1 Om);clear hS hb1 hv hK hE2 g2
  go_wp2_with (go_at_call 252;(refine(HC.out _).mono ?_);rintro e w3 ⟨rfl,rfl⟩)
  refine⟨by simp,.inl ⟨_,_,rfl,run_takeDeferred (by rw [hsz]at HK;exact HK.out),?_⟩⟩;refine⟨_,results_tmp rfl _ _ _,by rw [HS.out];rfl,?_⟩;exact Mv.ext_of HV.out (Mv.put (C:=fun k=>k=w.heap.size+2) _ _ _ rfl) (fun k h=>by omega)
 case stop=>intro _ _ h;exact h.elim
theorem Qx3{S:Int}(h0:0≤S)(h1:S<65536):bits BinOp.xor IntKind.u16 IntKind.u16.max S=65535- S:=by
 obtain⟨a,rfl⟩:=Int.eq_ofNat_of_zero_le h0;show IntKind.u16.wrap ((BitVec.ofInt 16 65535^^^ BitVec.ofInt 16 (a:Int)).toNat:Int)=_;rw [show BitVec.ofInt 16 65535=BitVec.allOnes 16 by decide,BitVec.allOnes_xor,BitVec.toNat_not,ZH _ _ Om,Q4];omega
def Z5(bs:List Int):Int:=65535- Qb4 bs
theorem Qlz(bs:List Int):0≤Z5 bs∧Z5 bs<65536:=by have:=QgJ bs;unfold Z5;omega
theorem Qc5(bs:List Int)(p:Option Addr)(c:Nat)(w:World)(hb:SlB w p bs)(hr:ByR bs)(hl:bs.length≤100000)(hlc:bs.length≤c):
  Cr 211 #[.slice p bs.length c] w (.int .u16 (Z5 bs)):=by
 have HC:=Xh (QoU bs p c w hb hr hl hlc);have hbd:=QgJ bs;have HD:=Xh (show Z5 bs=65535- Qb4 bs from rfl);obtain⟨S,hS⟩: ∃S,Qb4 bs=S:=⟨_,rfl⟩;rw [hS]at HC hbd HD;clear hS hb hr hl hlc
 go_enter Tryz.func211,Tryz.ntmps211
 go_wp2_with (go_at_call 233;(refine(HC.out).mono ?_);rintro e w3 ⟨rfl,g3⟩)
 go_ret;exact⟨congrArg (fun x=>Ending.returned (Value.int .u16 x)) ((Qx3 hbd.1 hbd.2).trans HD.out.symm),g3⟩
theorem QjB(bs:List Int)(p:Option Addr)(c:Nat)(w:World)(hb:SlB w p bs)(hr:ByR bs)(hl:bs.length≤100000)(hlc:bs.length≤c):
  Cr 174 #[.slice p bs.length c] w (.bool (Qb4 bs==65535)):=by
 have HC:=Xh (Qc5 bs p c w hb hr hl hlc);have HD:=Xh (show(Z5 bs==0)=(Qb4 bs==65535)by unfold Z5;rw [Bool.eq_iff_iff];simp;omega);clear hb hr hl hlc
 go_enter Tryz.func174,Tryz.ntmps174
 go_wp2_with (go_at_call 211;(refine(HC.out).mono ?_);rintro e w3 ⟨rfl,g3⟩)
 go_ret;exact⟨Qm HD.out,g3⟩
theorem SlB.news{a:Addr}(hs:SlB w (some a) bs)(e:Ext w W): ∀j u,(bs.map (Value.int .u8))[j]?=some u→W.cell? (a.add j)=some u:=by
 intro j u hu;rw [List.getElem?_map]at hu;obtain⟨x,hx,rfl⟩:=Option.map_eq_some_iff.1 hu;obtain⟨hj,rfl⟩:=List.getElem?_eq_some_iff.1 hx;obtain⟨b,off,h,hb,hc⟩:=(hs.ext e) j hj
 cases h
 have e:(⟨b,off,none⟩:Addr).add j=⟨b,off+j,none⟩:=by unfold Addr.add;split<;>simp_all
 rw [e];exact hc
theorem SlB.nil_of(hs:SlB w none bs):bs= []:=by
 cases bs with
 |nil=>rfl
 |cons m r=>obtain⟨b,off,h,_⟩:=hs 0 (by simp);cases h
theorem SlB.nil(w:World)(p:Option Addr):SlB w p []:=fun k hk=>absurd hk (Nat.not_lt_zero _)
theorem oneB(bs:List Int): ∀u∈bs.map (Value.int .u8),u.oneCell'=true:=fun u hu=>by obtain⟨z,-,rfl⟩:=List.mem_map.1 hu;rfl
theorem OB.slb{v:Value}(h:OB w base v bs): ∃p c,v= .slice p bs.length c∧bs.length≤c∧SlB w p bs:=by
 rcases Nat.eq_zero_or_pos bs.length with h0|h0
 ·have:bs= []:=List.length_eq_zero_iff.1 h0;subst this;rcases h.2 with⟨rfl,-⟩|⟨g,cap,cur,rfl,-⟩
  ·exact⟨none,0,rfl,Nat.le_refl _,SlB.nil _ _⟩
  ·exact⟨_,cap,rfl,Nat.zero_le _,SlB.nil _ _⟩
 ·rcases h.2 with⟨rfl,h1⟩|⟨g,cap,cur,rfl,hg,hgb,h1,h2,h3,h4⟩
  ·exact⟨none,0,by rw [h1],Om,fun k hk=>by omega⟩
  ·refine⟨_,cap,rfl,h1,fun k hk=>⟨g,0,rfl,(Array.getElem?_eq_some_iff.1 hgb).1,?_⟩⟩;have e1:(List.take (bs.length*1) cur.toList)[k]?=(bs.map (Value.int .u8))[k]?:=by rw [h4]
   rw [List.getElem?_take,if_pos Om,Array.getElem?_toList,List.getElem?_map,List.getElem?_eq_getElem hk]at e1;simp only [World.cell?,hgb,Nat.zero_add];exact e1
theorem OB.new(w:World):OB (w.alloc (.cells #[] 5)) w.heap.size (.slice (some ⟨w.heap.size,0,none⟩) 0 0) []:=⟨rfl,.inr ⟨w.heap.size,0,#[],rfl,Nat.le_refl _,World.alloc_heap_new _ _,Nat.le_refl _,by unfold maxLen;omega,rfl,rfl⟩⟩
theorem OB.zero(w:World)(base:Nat):OB w base (.slice none 0 0) []:=World.ownsRow_nil _ _ _ _
structure Z8(w w':World)(v:Value)(bs:List Int):Prop where
 own:OB w' w.heap.size v bs
 ext:Ext w w'
theorem Z8.sl{v:Value}(h:Z8 w w' v bs): ∃p c,v= .slice p bs.length c∧bs.length≤c∧SlB w' p bs:=h.own.slb
theorem Qez(p:Option Addr)(bs:List Int)(c:Nat)(w:World)(hs:SlB w p bs)(hl:bs.length≤2000):
  Calls Tryz.prog 103 #[.slice p bs.length c] w fun e w'=> ∃v,e= .returned v∧Z8 w w' v bs:=by
 obtain⟨i0,hi,hz0,hz1,hz2⟩:=info_parts YB;have hnil:=fun(W:World) (a:Option Addr) (n c:Nat)=>Lib.run_eql_slice_nil (P:=Tryz.prog) W 28 5 a n c 0 0 Tryz.underlying28
 cases p with
 |none=>
  have h0:bs= []:=hs.nil_of;subst h0
  go_enter Tryz.func103,Tryz.ntmps103
  go_wp2;go_ret;exact⟨_,rfl,OB.zero _ _,Ext.rf _⟩
 |some a=>
  have HN:=Xh (hs.news (Ext.al (Ext.rf w) (.cells #[] 5)));have HO:=Xh (show World.ownsRow _ w.heap.size 5 1 (.slice (some ⟨w.heap.size,0,none⟩) 0 0) 0 []from OB.new w);clear hs
  go_enter Tryz.func103,Tryz.ntmps103
  go_wp2_with (at_builtin;refine wpList_append_own _ rfl _ _ 28 rfl w.heap.size 5 i0 (.int .u8 0) 1 1 Tryz.underlying28 hi hz0 hz1 hz2 rfl Dc _ _ _ rfl HO.out a bs.length c (bs.map (Value.int .u8)) rfl (by simp) HN.out (oneB _) (by unfold maxLen;omega) Om (by simp) ?_;intro v' w2 hown' hgrow _;have HOW:=Xh hown';have HG:=Xh hgrow;clear hown' hgrow)
  go_ret;refine⟨v',rfl,?_,?_⟩
  ·have:=HOW.out;rw [Nat.zero_add,List.nil_append]at this;exact this
  ·exact Mv.ext (C:=fun k=>k=w.heap.size) ((Mv.al _ (Mv.refl _ _)).trans (Mv.of_grown HG.out fun r e=> .inl (by have e':some w.heap.size=some r:=e;injection e' with h;exact h.symm))) (fun k hk e=>by omega)
theorem YD{g n c:Nat}(h:OB w base (.slice (some ⟨g,0,none⟩) n c) bs)(i:Nat)(v:Int)(hn:n=bs.length):OB (w.setCell ⟨g,i,none⟩ (.int .u8 v)) base (.slice (some ⟨g,0,none⟩) n c) (bs.set i v):=by
 subst hn;unfold OB at h⊢;rw [List.length_set,List.map_set];exact Qgs h i _
theorem OB.at{v:Value}(h:OB w base v bs)(hn:0<bs.length): ∃g c,v= .slice (some ⟨g,0,none⟩) bs.length c∧bs.length≤c∧base≤g∧g<w.heap.size∧Qs w g=(0,0)∧ ∀k (hk:k<bs.length),w.cell? ⟨g,k,none⟩=some (.int .u8 bs[k]):=by
 rcases h.2 with⟨rfl,h1⟩|⟨g,cap,cur,rfl,hg,hgb,h1,h2,h3,h4⟩
 ·omega
 ·refine⟨g,cap,rfl,h1,hg,(Array.getElem?_eq_some_iff.1 hgb).1,by unfold Qs;rw [hgb],fun k hk=> ?_⟩;have e1:(List.take (bs.length*1) cur.toList)[k]?=(bs.map (Value.int .u8))[k]?:=by rw [h4]
  rw [List.getElem?_take,if_pos Om,Array.getElem?_toList,List.getElem?_map,List.getElem?_eq_getElem hk]at e1;simp only [World.cell?,hgb];exact e1
def QaU(bs:List Int):List Int:=(bs.set 10 0).set 11 0
theorem Qc6(bs:List Int):(QaU bs).length=bs.length:=by simp [QaU]
theorem Qsh(h:ByR bs):ByR (QaU bs):=(h.set 10 0 Om).set 11 0 Om
theorem Qsi{g q n:Nat}(h:OB w base (.slice (some ⟨g,0,none⟩) bs.length q) bs)(hr:ByR bs)(hl:bs.length≤2000)(hn:n=bs.length)(hq:n≤q):
  Cr 211 #[.slice (some ⟨g,0,none⟩) n q] w (.int .u16 (Z5 bs)):=by
 subst hn;obtain⟨p,c,e,-,hs⟩:=h.slb
 cases e
 exact Qc5 bs _ q w hs hr Om hq
theorem Qh4(p:Option Addr)(bs:List Int)(c:Nat)(w:World)(hs:SlB w p bs)(hr:ByR bs)(hl:bs.length≤2000)(h12:12≤bs.length):
  Cr 167 #[.slice p bs.length c] w (.int .u16 (Z5 (QaU bs))):=by
 have HS:=Xh hs;have HR:=Xh hr;clear hs hr
 go_enter Tryz.func167,Tryz.ntmps167
 go_upto_region 2 with(go_at_call 103;(refine(Qez p bs c _ HS.out hl).mono ?_);rintro e w1 ⟨v,rfl,⟨o1,g1⟩⟩)
 obtain⟨g,q,rfl,hq,hg,lg,fz,hc⟩:=o1.at Om;have c10:=hc 10 Om;have c11:=hc 11 Om;have f10:=Ql fz 10;have f11:=Ql fz 11;have HO:=Xh o1;have k1:(10:Int)≤bs.length:=by omega
 have k2:(bs.length:Int)≤q:=by omega
 have k3: ¬q=10:=by omega
 have k4:2≤bs.length- 10:=by omega
 clear hc o1 fz;have HG:=Xh g1;have HGB:=Xh hg;clear g1 hg
 go_wp2_with (first|(go_at_call 210;(with_reducible refine(Qlt _ c10 c11 f10 f11 k4).mono ?_);rintro e w2 ⟨⟨r,rfl⟩,hw2⟩;have o2:=Xh (show OB w2 w.heap.size (.slice (some ⟨g,0,none⟩) (QaU bs).length q) (QaU bs)by rw [hw2,Qc6];exact YD (YD HO.out 10 0 rfl) 11 0 (by simp));have e2:=Xh (show Ext w w2 from Mv.ext_of HG.out (show Mv (fun k=>k=g) w1 w2 by rw [hw2];exact Mv.st _ (.inl rfl) (Mv.st _ (.inl rfl) (Mv.refl _ _))) (fun k h=>by rw [h];exact HGB.out));clear hw2)|(go_at_call 211;(with_reducible refine(Qsi (bs:=QaU bs) (n:=bs.length) o2.out (Qsh HR.out) (by rw [Qc6];omega) (by rw [Qc6]) hq).mono ?_);rintro e w3 ⟨rfl,g3⟩))
 go_ret;exact⟨rfl,e2.out.tr g3⟩
theorem Qan{P:Program}{ops:Array Oper}{w1:World}(hm:m|||(1<<<k)=m')(hi:ops[k]?=some oi)(hw:Region.wanted oi (yielded ops a.tmps)=true)
  (he:(execOp a.eval oi).run P w= .ok .skip w1)(hE:Mv C w w1)(H:QN C P .any ops Q fuel (msk N m') (a.put oi.dst undef) w1):Qlr C P ops Q fuel N k m a w:=by
 refine⟨?_⟩;unfold Jj;simp only [hi,hw,if_true,he,hm];exact⟨hE,H⟩
def bt(bs:List Int)(k:Nat):Int:=bs.getD k 0
def w16(bs:List Int)(k:Nat):Int:=bt bs k*256+bt bs (k+1)
theorem QaI(h:ByR bs)(k:Nat):0≤bt bs k∧bt bs k<256:=by
 unfold bt;rw [List.getD_eq_getElem?_getD]
 by_cases hk:k<bs.length
 ·rw [List.getElem?_eq_getElem hk];exact h.get k hk
 ·rw [List.getElem?_eq_none Om];decide
theorem Z2(h:ByR bs)(k:Nat):0≤w16 bs k∧w16 bs k<65536:=by
 have:=QaI h k;have:=QaI h (k+1);unfold w16;omega
theorem SlB.bt{b:Nat}(hs:SlB w (some ⟨b,off,none⟩) bs)(k:Nat)(hk:k<bs.length):w.cell? ⟨b,off+k,none⟩=some (.int .u8 (bt bs k))∧Lt b w:=by
 obtain⟨b',off',h,hb,hc⟩:=hs k hk
 cases h
 unfold Go.Proofs.YtpeonbaodnmlnaaGreat.bt;rw [List.getD_eq_getElem?_getD,List.getElem?_eq_getElem hk];exact⟨hc,hb⟩
theorem wordx{b:Nat}(hs:SlB w (some ⟨b,off,none⟩) bs)(hr:ByR bs)(k n c:Nat)(hk:k+2≤bs.length)(hn:2≤n):
  Cr 166 #[.slice (some ⟨b,off+k,none⟩) n c] w (.int .u16 (w16 bs k)):=
 QoM w (hs.bt k Om).1 (hs.bt (k+1) Om).1 (hs.bt k Om).2 hn (QaI hr k) (QaI hr (k+1))
theorem QlA{b:Nat}(hs:SlB w (some ⟨b,off,none⟩) bs)(hr:ByR bs)(k n c:Nat)(hk:k+2≤bs.length)(hn:2≤n):
  Cr 176 #[.slice (some ⟨b,off+k,none⟩) n c] w (.int .u16 (w16 bs k)):=
 Qjx w (hs.bt k Om).1 (hs.bt (k+1) Om).1 (hs.bt k Om).2 hn (QaI hr k) (QaI hr (k+1))
theorem ZC{P:Program}{f:FuncId}{args:Array Value}{v:Value}(h:Calls P f args w fun e w'=>e= .returned v∧Ext w w'):Calls P f args w fun e w'=> ∃u,e= .returned u∧u=v∧Ext w w':=h.mono fun e w' ⟨h1,h2⟩=>⟨v,h1,rfl,h2⟩
theorem QlB{b:Nat}(hs:SlB w (some ⟨b,off,none⟩) bs)(k:Nat)(hk:k<bs.length)(hC: ¬C b)
  (hx:ρ q= .pointer (some ⟨b,off+k,none⟩)): ∀w',Mv C w w'→(execOp ρ ⟨dst,.load 5 q,ty,pos,after,g⟩).run Tryz.prog w'= .ok (.value (.int .u8 (bt bs k))) w':=by
 intro w' hE;obtain⟨h0,hl⟩:=hs.bt k hk;have h1:w'.cell? ⟨b,off+k,none⟩=some (.int .u8 (bt bs k)):=by rw [Qa,Qf (hE.same b hl hC),←Qa];exact h0
 simp only [execOp,hx];go_simp
theorem JM{O c:Nat}(i:Nat)(hi:i<m)(hc:m≤c)
  (hx:ρ x= .slice (some ⟨B,O,none⟩) m c)(hy:ρ y= .int .i64 (i:Nat))(w:World):(execOp ρ ⟨dst,.slice 28 x (some y) none none,ty,pos,after,g⟩).run Tryz.prog w= .ok (.value (.slice (some ⟨B,O+i,none⟩) (m- i) (c- i))) w:=by
 have h1:(i:Int)≤m:=by omega
 have h2:(m:Int)≤c:=by omega
 have h3: ¬c=i:=by omega
 simp only [execOp,hx,hy];go_simp
theorem Qbp{x:Int}(hx0:0≤x∧x<65536)(hx:ρ q= .int .u16 x)(w:World):
  (execOp ρ ⟨dst,.convert 62 61 q,ty,pos,after,g⟩).run Tryz.prog w= .ok (.value (.int .u32 x)) w:=by
 have e:IntKind.u32.wrap x=x:=by rw [YC];omega
 simp only [execOp,hx];go_simp
theorem QfV{x:Int}(hx0:0≤x∧x<65536)(hx:ρ q= .int .u32 x)(hy:ρ y= .int .u64 16)(w:World):
  (execOp ρ ⟨dst,.binOp .shl 61 q y 197,ty,pos,after,g⟩).run Tryz.prog w= .ok (.value (.int .u32 (x*65536))) w:=by
 have e:IntKind.u32.wrap (x*65536)=x*65536:=by rw [YC];omega
 simp only [execOp,hx,hy];go_simp
theorem Qvm{x y:Int}(h0:0≤x∧x<65536)(h1:0≤y∧y<65536):bits BinOp.or IntKind.u32 (x*65536) y=x*65536+y:=by
 obtain⟨a,rfl⟩:=Int.eq_ofNat_of_zero_le h0.1;obtain⟨b,rfl⟩:=Int.eq_ofNat_of_zero_le h1.1;rw [show(a:Int)*65536=((a*2^16:Nat):Int)by omega,QaP _ _ _ (by show a*2^16<2^32;omega) (by show b<2^32;omega),Qjw _ _ _ Om,YC];omega
theorem Qh5{x y:Int}(hx0:0≤x∧x<65536)(hy0:0≤y∧y<65536){r:Operand}(hx:ρ q= .int .u32 (x*65536))(hy:ρ r= .int .u32 y)(w:World):
  (execOp ρ ⟨dst,.binOp .or 61 q r 61,ty,pos,after,g⟩).run Tryz.prog w= .ok (.value (.int .u32 (x*65536+y))) w:=by
 have e:=Qvm hx0 hy0;simp only [execOp,hx,hy];go_simp
theorem QmN{v:Int}(h0:0≤v)(h1:v<65536):(bits BinOp.andNot IntKind.u16 v 16384==0)=(v==0||v==16384):=by
 obtain⟨a,rfl⟩:=Int.eq_ofNat_of_zero_le h0;have ha:a<2^16:=by omega
 show(IntKind.u16.wrap ((BitVec.ofInt 16 (a:Int)&&& ~~~ BitVec.ofInt 16 16384).toNat:Int)==0)=_;rw [BitVec.toNat_and,ZH _ _ ha,show(~~~ BitVec.ofInt 16 16384).toNat=49151 by decide,Q4];have hle:a&&&49151≤a:=Nat.and_le_left;have hm:(((a&&&49151:Nat):Int) % 65536)=((a&&&49151:Nat):Int):=by omega
 rw [hm,Bool.eq_iff_iff];simp only [beq_iff_eq,Bool.or_eq_true];constructor
 ·intro h;have h':a&&&49151=0:=by omega
  have hb: ∀i,i<16→i≠14→a.testBit i=false:=fun i hi hn=>by
   have:=congrArg (fun x=>x.testBit i) h';simp only [Nat.testBit_and,Nat.zero_testBit]at this;have hk:Nat.testBit 49151 i=true:=by
    obtain rfl|rfl|rfl|rfl|rfl|rfl|rfl|rfl|rfl|rfl|rfl|rfl|rfl|rfl|rfl:i=0∨i=1∨i=2∨i=3∨i=4∨i=5∨i=6∨i=7∨i=8∨i=9∨i=10∨i=11∨i=12∨i=13∨i=15:=by omega
    all_goals rfl
   rw [hk,Bool.and_true]at this;exact this
  have he:a=if a.testBit 14 then 16384 else 0:=by
   refine Nat.eq_of_testBit_eq fun i=> ?_
   by_cases hi:i<16
   ·by_cases h14:i=14
    ·subst h14
     cases a.testBit 14<;>rfl
    ·rw [hb i hi h14]
     cases a.testBit 14
     ·simp
     ·rw [if_pos rfl,show(16384:Nat)=2^14 from rfl,Nat.testBit_two_pow];simp;omega
   ·rw [Nat.testBit_lt_two_pow (Xl ha (Nat.pow_le_pow_right Om Om))]
    cases a.testBit 14
    ·simp
    ·rw [if_pos rfl,show(16384:Nat)=2^14 from rfl,Nat.testBit_two_pow];simp;omega
  split at he<;>omega
 ·rintro(h|h)
  ·obtain rfl:a=0:=by omega
   rfl
  ·obtain rfl:a=16384:=by omega
   rfl
theorem QgK{b:Nat}{v:Value}(h:Qc w b=cs):Qc (w.setCell ⟨b,i,none⟩ v) b=cs.setIfInBounds i v:=by rw [YA,if_pos rfl,h]
structure RowZ(W:World)(b:Nat)(cs:Array Value):Prop where
 r:Qc W b=cs
 z:Qs W b=(0,0)
 l:Lt b W
theorem RowZ.ext{V:World}{b:Nat}(h:RowZ W b cs)(e:Ext W V):RowZ V b cs:=⟨Zc e h.l h.r,by have:=h.z;unfold Qs at this⊢;rw [e.block b h.l];exact this,Xl h.l e.size⟩
theorem RowZ.set{b:Nat}(h:RowZ W b cs)(i:Nat)(v:Value):RowZ (W.setCell ⟨b,i,none⟩ v) b (cs.setIfInBounds i v):=⟨QgK h.r,by rw [QR];exact h.z,by rw [Zk];exact h.l⟩
theorem RowZ.all{b:Nat}(h:RowZ W b cs)(cs':Array Value)(hs:cs.size=cs'.size):RowZ (Qe W b 0 cs') b cs':=⟨Qq _ _ _ (by rw [h.r];exact hs),by rw [ZV];exact h.z,by rw [QaS];exact h.l⟩
theorem RowZ.cell{b:Nat}(h:RowZ W b cs)(i:Nat)(hi:i<cs.size):W.cell? ⟨b,i,none⟩=some cs[i]:=by rw [Qa,h.r,Array.getElem?_eq_getElem hi]
theorem RowZ.frz{b:Nat}(h:RowZ W b cs)(i:Nat):W.frozen? ⟨b,i,none⟩=false:=Ql h.z i
theorem RowZ.new(W:World)(cs:Array Value)(t:TypeId):RowZ (W.alloc (.cells cs t)) W.heap.size cs:=⟨Zn _ _ _ _,by simp [go_sem],by simp [go_sem]⟩
theorem RowZ.mv{B:World}{b:Nat}(h:RowZ A b cs)(m:Mv C A B)(hb: ¬C b):RowZ B b cs:=⟨by rw [Qf (m.same b h.l hb)];exact h.r,by have:=h.z;unfold Qs at this⊢;rw [m.same b h.l hb];exact this,Xl h.l m.size⟩
theorem Mv.sa{B:World}{b:Nat}(cs:Array Value)(hb:C b)(h:Mv C A B):Mv C A (Qe B b o cs):=Mv.sc hb _ _ _ _ h
theorem SlB.mv{B:World}{b:Nat}(h:SlB A (some ⟨b,off,none⟩) bs)(m:Mv C A B)(hb: ¬C b):SlB B (some ⟨b,off,none⟩) bs:=fun k hk=>by
 obtain⟨b',off',h1,h2,h3⟩:=h k hk
 cases h1
 exact⟨b,off,rfl,Xl h2 m.size,by rw [Qa,Qf (m.same b h2 hb),←Qa];exact h3⟩
theorem SlB.mvn{B:World}{n:Nat}{p:Option Addr}(h:SlB A p bs)(m:Mv (fun k=>k=n) A B)(hb: ∀b off,p=some ⟨b,off,none⟩→b≠n):SlB B p bs:=fun k hk=>by
 obtain⟨b,off,h1,h2,h3⟩:=h k hk;exact⟨b,off,h1,Xl h2 m.size,by rw [Qa,Qf (m.same b h2 (hb b off h1)),←Qa];exact h3⟩
def OBn(w:World)(lo:Nat)(v:Value)(bs:List Int):Prop:= ∃base,lo<base∧OB w base v bs
theorem OBn.ext{lo:Nat}{v:Value}(h:OBn w lo v bs)(e:Ext w w'):OBn w' lo v bs:=by obtain⟨b,h1,h2⟩:=h;exact⟨b,h1,h2.ext e⟩
theorem OBn.mv{lo:Nat}{v:Value}(h:OBn w lo v bs)(m:Mv C w w')(hc: ∀k,C k→k≤lo):OBn w' lo v bs:=by
 obtain⟨b,h1,h2⟩:=h;exact⟨b,h1,Qw h2 m fun k hk c=>by have:=hc k c;omega⟩
theorem OBn.ob{lo:Nat}{v:Value}(h:OBn w lo v bs):OB w lo v bs:=by obtain⟨b,h1,h2⟩:=h;exact h2.le Om
theorem OBn.sl{lo:Nat}{v:Value}(h:OBn w lo v bs): ∃p c,v= .slice p bs.length c∧bs.length≤c∧SlB w p bs:=h.ob.slb
theorem QgL{p:Option Addr}{n c lo:Nat}(hs:SlB w p bs)(hl:bs.length≤2000)(hn:n=bs.length)(hlo:lo<w.heap.size):
  Calls Tryz.prog 103 #[.slice p n c] w fun e w'=> ∃v,e= .returned v∧OBn w' lo v bs∧Ext w w':=by
 subst hn;exact(Qez p bs c w hs hl).mono fun e w' ⟨v,h1,h2⟩=>⟨v,h1,⟨w.heap.size,hlo,h2.own⟩,h2.ext⟩
theorem SlB.take{p:Option Addr}(h:SlB w p bs)(n:Nat):SlB w p (bs.take n):=fun k hk=>by
 rw [List.length_take]at hk;obtain⟨b,off,h1,h2,h3⟩:=h k Om;exact⟨b,off,h1,h2,by rw [List.getElem_take];exact h3⟩
theorem SlB.drop{b:Nat}(h:SlB w (some ⟨b,off,none⟩) bs)(n:Nat):SlB w (some ⟨b,off+n,none⟩) (bs.drop n):=fun k hk=>by
 rw [List.length_drop]at hk;obtain⟨b',off',h1,h2,h3⟩:=h (n+k) Om
 cases h1
 exact⟨b,off+n,rfl,h2,by rw [List.getElem_drop,Nat.add_assoc];exact h3⟩
def ZF(b off c lo:Nat):Option Addr:=if c=lo then some ⟨b,off,none⟩else some ⟨b,off+lo,none⟩
theorem SlB.cut{b c:Nat}(h:SlB w (some ⟨b,off,none⟩) bs)(lo:Nat)(hc:bs.length≤c):SlB w (ZF b off c lo) (bs.drop lo):=by
 unfold ZF
 split
 ·rw [List.drop_eq_nil_of_le Om];exact SlB.nil _ _
 ·exact h.drop lo
theorem QoV{O c lo hi:Nat}(h1:lo≤hi)(h2:hi≤c){z:Operand}
  (hx:ρ x= .slice (some ⟨B,O,none⟩) m c)(hy:ρ y= .int .i64 (lo:Nat))(hz:ρ z= .int .i64 (hi:Nat))(w:World):(execOp ρ ⟨dst,.slice 28 x (some y) (some z) none,ty,pos,after,g⟩).run Tryz.prog w= .ok (.value (.slice (ZF B O c lo) (hi- lo) (c- lo))) w:=by
 have h3:(lo:Int)≤hi:=by omega
 have h4:(hi:Int)≤c:=by omega
 unfold ZF;simp only [execOp,hx,hy,hz];go_simp
theorem QaV{O c lo:Nat}(h1:lo≤m)(h2:m≤c)
  (hx:ρ x= .slice (some ⟨B,O,none⟩) m c)(hy:ρ y= .int .i64 (lo:Nat))(w:World):(execOp ρ ⟨dst,.slice 28 x (some y) none none,ty,pos,after,g⟩).run Tryz.prog w= .ok (.value (.slice (ZF B O c lo) (m- lo) (c- lo))) w:=by
 have h3:(lo:Int)≤m:=by omega
 have h4:(m:Int)≤c:=by omega
 unfold ZF;simp only [execOp,hx,hy];go_simp
theorem Qh6{v:Int}{u:Value}(hc:w.cell? ⟨B,i,none⟩=some u)(hf:w.frozen? ⟨B,i,none⟩=false)
  (hx:ρ x= .pointer (some ⟨B,i,none⟩))(hy:ρ y= .int .u32 v):(execOp ρ ⟨dst,.store 61 x y,ty,pos,after,g⟩).run Tryz.prog w= .ok .skip (w.setCell ⟨B,i,none⟩ (.int .u32 v)):=by
 simp only [execOp,hx,hy];go_simp
theorem Qh7{v:Int}{u:Value}(hc:w.cell? ⟨B,i,none⟩=some u)(hf:w.frozen? ⟨B,i,none⟩=false)
  (hx:ρ x= .pointer (some ⟨B,i,none⟩))(hy:ρ y= .int .u16 v):(execOp ρ ⟨dst,.store 62 x y,ty,pos,after,g⟩).run Tryz.prog w= .ok .skip (w.setCell ⟨B,i,none⟩ (.int .u16 v)):=by
 simp only [execOp,hx,hy];go_simp
theorem QgM{v:Int}{u:Value}(hc:w.cell? ⟨B,i,none⟩=some u)(hf:w.frozen? ⟨B,i,none⟩=false)
  (hx:ρ x= .pointer (some ⟨B,i,none⟩))(hy:ρ y= .int .u8 v):(execOp ρ ⟨dst,.store 5 x y,ty,pos,after,g⟩).run Tryz.prog w= .ok .skip (w.setCell ⟨B,i,none⟩ (.int .u8 v)):=by
 simp only [execOp,hx,hy];go_simp
theorem QeA{v u:Value}(hc:w.cell? ⟨B,i,none⟩=some u)(hf:w.frozen? ⟨B,i,none⟩=false)(hv: ∃a m c,v= .slice a m c)
  (hx:ρ x= .pointer (some ⟨B,i,none⟩))(hy:ρ y=v):(execOp ρ ⟨dst,.store 28 x y,ty,pos,after,g⟩).run Tryz.prog w= .ok .skip (w.setCell ⟨B,i,none⟩ v):=by
 obtain⟨a,m,c,rfl⟩:=hv;simp only [execOp,hx,hy];go_simp
theorem OBn.slice{lo:Nat}{v:Value}(h:OBn w lo v bs): ∃a m c,v= .slice a m c:=by obtain⟨p,c,h,-⟩:=h.sl;exact⟨_,_,_,h⟩
theorem QgN:(Tryz.prog.info? 132).map (·.size)=some 9:=Kr
theorem QmO{b:Nat}(h:o+9≤(Qc w b).size):(Instr.loadAt 132 (.pointer (some ⟨b,o,none⟩))).run Tryz.prog w= .ok (.agg ((Qc w b).extract o (o+9))) w:=by
 have:=run_loadAt_mid w b o 132 ((Qc w b).extract o (o+9)).toList _ (QC w b o (o+9)) Tryz.underlying132 rfl (by rw [QgN];simp;omega)
 rwa [Array.toArray_toList]at this
theorem QjC{b:Nat}(h:o+9≤(Qc w b).size):(loadVar 132 ⟨b,o,none⟩).run Tryz.prog w= .ok (.agg ((Qc w b).extract o (o+9))) w:=by
 have:=run_loadVar_mid w b o 132 ((Qc w b).extract o (o+9)).toList _ (QC w b o (o+9)) Tryz.underlying132 rfl (by rw [QgN];simp;omega)
 rwa [Array.toArray_toList]at this
@[go_sem ↓ high] theorem Qcs(ρ:Operand→Value)(dst:Option Tmp)(x:Operand)(ty:TypeId)(pos:String)(after:Array Edge)(g:Option (Nat×Bool))(w:World)
  (hx:ρ x= .pointer (some ⟨Qb (ρ x),Qd (ρ x),none⟩))(h:Fits (Qd (ρ x)) 9 (Qc w (Qb (ρ x)))):
  (execOp ρ ⟨dst,.load 132 x,ty,pos,after,g⟩).run Tryz.prog w= .ok (.value (.agg (QB (Qc w (Qb (ρ x))) (Qd (ρ x)) 9))) w:=by
 unfold Fits at h;generalize hB:Qb (ρ x)=B at*;generalize hO:Qd (ρ x)=O at*;simp only [execOp,hx,Sem.run_bind,QmO h,Result.andThen_ok,Sem.run_pure,QB]
@[go_sem ↓ high] theorem Qud{l:Option Nat}(w:World)
  (hx:ρ x= .pointer (some ⟨Qb (ρ x),Qd (ρ x),none⟩))(h:Fits (Qd (ρ x)) 9 (Qc w (Qb (ρ x)))):
  (Oper.semAt l ρ ⟨dst,.load 132 x,ty,pos,after,g⟩).run Tryz.prog w= .ok (.value (.agg (QB (Qc w (Qb (ρ x))) (Qd (ρ x)) 9))) w:=by rw [Oper.semAt_eq _ _ _ (fun c h=>by cases h)];exact Qcs ρ dst x ty pos after g w hx h
@[go_sem ↓ high] theorem QbG(ρ:Operand→Value)(dst:Option Tmp)(x y:Operand)(ty:TypeId)(pos:String)(after:Array Edge)(g:Option (Nat×Bool))(w:World)
  (hx:ρ x= .pointer (some ⟨Qb (ρ x),Qd (ρ x),none⟩))(hy:ρ y= .agg (ρ y).cells)(hs:Qn (ρ y).cells 9)(h:Fits (Qd (ρ x)) 9 (Qc w (Qb (ρ x))))(hz:Qs w (Qb (ρ x))=(0,0))(h1:QK (ρ y).cells):
  (execOp ρ ⟨dst,.store 132 x y,ty,pos,after,g⟩).run Tryz.prog w= .ok .skip (Qe w (Qb (ρ x)) (Qd (ρ x)) (ρ y).cells):=by
 unfold Fits at h;unfold Qn at hs;generalize hB:Qb (ρ x)=B at*;generalize hO:Qd (ρ x)=O at*;generalize hC:(ρ y).cells=C at*;have hst:(Instr.storeAt 132 (.pointer (some ⟨B,O,none⟩)) (.agg C)).run Tryz.prog w= .ok () (Qe w B O C):=
  run_storeAt_mid w B O 132 C (fun j hj=>⟨by rw [Qa,Array.getElem?_eq_getElem Om];rfl,Ql hz _⟩) (by rw [QgN,hs]) h1
 simp only [execOp,hx,hy,Sem.run_bind,hst,Result.andThen_ok,Sem.run_pure]
@[go_sem ↓ high] theorem Qsj{l:Option Nat}(w:World)
  (hx:ρ x= .pointer (some ⟨Qb (ρ x),Qd (ρ x),none⟩))(hy:ρ y= .agg (ρ y).cells)(hs:Qn (ρ y).cells 9)(h:Fits (Qd (ρ x)) 9 (Qc w (Qb (ρ x))))(hz:Qs w (Qb (ρ x))=(0,0))(h1:QK (ρ y).cells):
  (Oper.semAt l ρ ⟨dst,.store 132 x y,ty,pos,after,g⟩).run Tryz.prog w= .ok .skip (Qe w (Qb (ρ x)) (Qd (ρ x)) (ρ y).cells):=by rw [Oper.semAt_eq _ _ _ (fun c h=>by cases h)];exact QbG ρ dst x y ty pos after g w hx hy hs h hz h1
@[go_sem] theorem QwR{a b c d e f g h i:Value}:Fits o m #[a,b,c,d,e,f,g,h,i]=(o+m≤9):=by unfold Fits;rfl
@[go_sem] theorem Que{a b c d e f g h i:Value}:Qn #[a,b,c,d,e,f,g,h,i] 9=True:=by unfold Qn;exact eq_true rfl
@[go_sem] theorem QwS{a b c d e f g h i:Value}:QK #[a,b,c,d,e,f,g,h,i]=(a.oneCell'=true∧b.oneCell'=true∧c.oneCell'=true∧d.oneCell'=true∧e.oneCell'=true∧f.oneCell'=true∧g.oneCell'=true∧h.oneCell'=true∧i.oneCell'=true):=by
 unfold QK;simp [and_assoc]
@[go_sem ↓ high] theorem Qvn{a b c d e f g h i:Value}:(Value.agg #[a,b,c,d,e,f,g,h,i]).cells=#[a,b,c,d,e,f,g,h,i]:=QF _
@[go_sem] theorem Quf{k:IntKind}{n:Int}:(Value.int k n).oneCell'=true:=rfl
@[go_sem] theorem QrK{p:Option Addr}{n c:Nat}:(Value.slice p n c).oneCell'=true:=rfl
@[go_sem] theorem Qsk{b:Bool}:(Value.bool b).oneCell'=true:=rfl
@[go_sem] theorem QwT{a b c d e f g h i:Value}:QB #[a,b,c,d,e,f,g,h,i] 0 9=#[a,b,c,d,e,f,g,h,i]:=rfl
theorem QL{P:Program}{fn:Func}{p u:Tmp}{v:Value}(h:fn.results=#[.cell p ty,.tmp u])(tmps:Array Value)(w:World)(g:Nat)
  (hp:tmps.getD p undef= .pointer (some ⟨g,0,none⟩))(hl:(loadVar ty ⟨g,0,none⟩).run P w= .ok v w):(results fn tmps).run P w= .ok (.tuple #[v,tmps.getD u undef]) w:=by
 have hp':tmps[p]?.getD undef= .pointer (some ⟨g,0,none⟩):=by simpa using hp
 simp [results,h,hp',asAddr,hl]
def QlC(ops:Array Oper):Prop:=Region.noSelect ops=true∧Qv ops 17 [0,1,2,3,4,6,7,9,10,11,12,13,14] 0=true∧Rd ops 17 32479 [5]∧Rd ops 17 32511 [8]∧Qv ops 17 [15] 32767=true∧Rd ops 17 65535 [16]∧Rd ops 17 131071 []
theorem Qh8:QlC ((Tryz.f93.body.bind (Qh 15)).getD #[]):=⟨Kr,Kr,Rk,Rk,Kr,Rk,Rk⟩
def QlD(ops:Array Oper):Prop:=Region.noSelect ops=true∧Qv ops 24 [0,1,5,6,10,11,15,16] 0=true∧Rd ops 24 101475 [2]∧Qv ops 24 [3,4] 101479=true∧Rd ops 24 101503 [7]∧Qv ops 24 [8,9,20] 101631=true∧Rd ops 24 1150975 [12]∧Qv ops 24 [13,14] 1155071=true∧Rd ops 24 1179647 [17]∧Qv ops 24 [18,19] 1310719=true∧Rd ops 24 2097151 [21]∧Qv ops 24 [22] 4194303=true∧Rd ops 24 8388607 [23]∧Rd ops 24 16777215 []
theorem Qh9:QlD ((Tryz.f93.body.bind (Qh 16)).getD #[]):=⟨Kr,Kr,Rk,Kr,Rk,Kr,Rk,Kr,Rk,Kr,Rk,Kr,Rk,Rk⟩
def QlE(ops:Array Oper):Prop:=Region.noSelect ops=true∧Qv ops 12 [0,1,2,4,5,6] 0=true∧Rd ops 12 119 [3]∧Qv ops 12 [8] 127=true∧Rd ops 12 383 [7]∧Rd ops 12 511 [9]∧Qv ops 12 [10] 1023=true∧Rd ops 12 2047 [11]∧Rd ops 12 4095 []
theorem Qia:QlE ((Tryz.f93.body.bind (Qh 17)).getD #[]):=⟨Kr,Kr,Rk,Kr,Rk,Rk,Kr,Rk,Rk⟩
structure He where
 sv:Int
 nu:Int
 fl:Int
 ho:Int
 pr:Int
 sr:Int
 ds:Int
 op:List Int
 pl:List Int
def heV(h:He)(vo vp:Value):Array Value:=#[.int .u8 h.sv,.int .u16 h.nu,.int .u16 h.fl,.int .u8 h.ho,.int .u8 h.pr,.int .u32 h.sr,.int .u32 h.ds,vo,vp]
abbrev QoW:Array Value:=#[.int .u8 0,.int .u16 0,.int .u16 0,.int .u8 0,.int .u8 0,.int .u32 0,.int .u32 0,.slice none 0 0,.slice none 0 0]
def ipN(bs:List Int):Nat:=(bt bs 0).toNat % 16*4
def Zd(bs:List Int):Int:=
 if bs.length<20 then 1 else if bt bs 0/16≠4 then 2 else if ipN bs<20∨bs.length<ipN bs then 3 else if w16 bs 2≠bs.length then 4
 else if w16 bs 10≠Z5 (QaU (bs.take (ipN bs)))then 5 else if w16 bs 6≠0∧w16 bs 6≠16384 then 6 else 0
def ipH(bs:List Int):He:=⟨bt bs 1,w16 bs 4,w16 bs 6,bt bs 8,bt bs 9,w16 bs 12*65536+w16 bs 14,w16 bs 16*65536+w16 bs 18,(bs.take (ipN bs)).drop 20,bs.drop (ipN bs)⟩
inductive QlF(bs:List Int)(w:World):Ending→World→Prop
 |no {w':World} (h:Zd bs≠0) (e:Ext w w'):QlF bs w (.returned (.tuple #[.agg QoW,.int .u8 (Zd bs)])) w'
 |yes {w':World} {vo vp:Value} (h:Zd bs=0) (e:Ext w w') (ho:OB w' w.heap.size vo (ipH bs).op) (hp:OB w' w.heap.size vp (ipH bs).pl):QlF bs w (.returned (.tuple #[.agg (heV (ipH bs) vo vp),.int .u8 0])) w'
theorem Qx4{c:Int}(h0:0≤c)(h1:c<256):bits BinOp.and IntKind.u8 c 15=c % 16:=by
 refine QfK (fun n=>bits BinOp.and IntKind.u8 n 15=n % 16) ?_ h0 h1
 kernel_rfl
theorem Qao{b:Nat}(h:Ext W w')(hb:Lt b W)(hz:Qs W b=(0,0)):Qs w' b=(0,0):=by unfold Qs at hz⊢;rw [h.block b hb];exact hz
theorem QoX(hs:(Qc w B).size=9)(hz:Qs w B=(0,0))(hcs:cs.size=9)(ho:QK cs)
  (hx:ρ x= .pointer (some ⟨B,0,none⟩))(hy:ρ y= .agg cs):(execOp ρ ⟨dst,.store 132 x y,ty,pos,after,g⟩).run Tryz.prog w= .ok .skip (Qe w B 0 cs):=by
 have e:=QbG ρ dst x y ty pos after g w (by rw [hx];rfl) (by rw [hy];rfl) (by rw [hy];exact hcs) (by rw [hx];show Fits 0 9 (Qc w B);unfold Fits;omega) (by rw [hx];exact hz) (by rw [hy];exact ho);rw [e,hx,hy];rfl
theorem QaW{tmps:Array Value}{g:Nat}(hp:tmps.getD 2 undef= .pointer (some ⟨g,0,none⟩))(hr:Qc w g=cs)(hc:cs.size=9):
  (results Tryz.f93 tmps).run Tryz.prog w= .ok (.tuple #[.agg cs,tmps.getD 3 undef]) w:=
 QL rfl tmps w g hp (by
  rw [QjC (by rw [hr,hc];omega),hr]
  rw [show cs.extract 0 (0+9)=cs by rw [←hc];simp])
theorem Yu(p:Option Addr)(bs:List Int)(c:Nat)(w:World)(hs:SlB w p bs)(hr:ByR bs)(hl:bs.length≤1000)(hlc:bs.length≤c):
  Calls Tryz.prog 93 #[.slice p bs.length c] w fun e w'=>QlF bs w e w':=by
 have HS:=Xh hs;have HR:=Xh hr;clear hs hr
 go_enter Tryz.func93,Tryz.ntmps93
 go_upto_region 1 with(fail)
 obtain⟨W0,hW⟩: ∃W0,w.alloc (.cells #[.int .u8 0,.int .u16 0,.int .u16 0,.int .u8 0,.int .u8 0,.int .u32 0,.int .u32 0,.slice none 0 0,.slice none 0 0] 132)=W0:=⟨_,rfl⟩;have E:Ext w W0:=by rw [←hW];exact Ea
 have hR:Qc W0 w.heap.size=QoW:=by rw [←hW];exact Zn _ _ _ _
 have hZ:Qs W0 w.heap.size=(0,0):=by rw [←hW];simp [go_sem]
 have hL:Lt w.heap.size W0:=by rw [←hW];simp [go_sem]
 rw [hW];clear hW
 go_wp2_with (fail)
 refine Qp 0 rfl ?_;rcases Nat.lt_or_ge bs.length 20 with h20|h20
 ·have h20':(bs.length:Int)<20:=by omega
  have HW:=Xh (show Zd bs=1 by unfold Zd;rw [if_pos h20])
  go_wp2_with (fail)
  go_step3;refine⟨rfl,?_⟩;go_wp2;rw [Exit.noGoto_ret];exact bodyPost_ret (QaW rfl (Qq _ _ _ (by rw [hR])) rfl) rfl (by rw [←HW.out];exact .no (by rw [HW.out];omega) (Ext.sa _ (Nat.le_refl _) E))
 have h20': ¬(bs.length:Int)<20:=by omega
 have HS0:=Xh (HS.out.ext E);obtain⟨b,off,rfl,hbl,-⟩:=HS.out 0 Om;obtain⟨x0,hx0⟩: ∃x,bt bs 0=x:=⟨_,rfl⟩;have c0:=(HS0.out.bt 0 Om).1;have lb:=(HS0.out.bt 0 Om).2;rw [Nat.add_zero,hx0]at c0;have b0:=QaI HR.out 0;rw [hx0]at b0;have k1:bits BinOp.and IntKind.u8 x0 15=x0 % 16:=Qx4 b0.1 b0.2;have HX0:=Xh hx0;have z0:(0:Int)<bs.length:=by omega
 have hN:x0 % 16*4=((ipN bs:Nat):Int):=by unfold ipN;rw [hx0];omega
 have hN64:ipN bs≤60:=by unfold ipN;omega
 obtain⟨N,hNN⟩: ∃N,ipN bs=N:=⟨_,rfl⟩;rw [hNN]at hN hN64;have HNN:=Xh hNN;clear hx0 hNN
 go_upto_region 5 with(fail)
 have HN:=Xh hN;clear hN k1
 cases t2:(x0/16==4)
 ·have HW:=Xh (show Zd bs=2 by unfold Zd;rw [if_neg Om,if_pos (by rw [HX0.out];simpa using t2)])
  go_wp2_with (fail)
  go_step3;refine⟨rfl,?_⟩;go_wp2;rw [Exit.noGoto_ret];exact bodyPost_ret (QaW rfl (Qq _ _ _ (by rw [hR])) rfl) rfl (by rw [←HW.out];exact .no (by rw [HW.out];omega) (Ext.sa _ (Nat.le_refl _) E))
 have U2:=Xh (show ¬bt bs 0/16≠4 by rw [HX0.out];simpa using t2)
 by_cases t3:N<20
 ·have t3':(N:Int)<20:=by omega
  have HW:=Xh (show Zd bs=3 by unfold Zd;rw [if_neg Om,if_neg U2.out,HNN.out,if_pos (.inl t3)])
  go_wp2_with (fail)
  go_step3;refine⟨rfl,?_⟩;go_wp2;rw [Exit.noGoto_ret];exact bodyPost_ret (QaW rfl (Qq _ _ _ (by rw [hR])) rfl) rfl (by rw [←HW.out];exact .no (by rw [HW.out];omega) (Ext.sa _ (Nat.le_refl _) E))
 have t3': ¬(N:Int)<20:=by omega
 by_cases t4:bs.length<N
 ·have t4':(bs.length:Int)<N:=by omega
  have HW:=Xh (show Zd bs=3 by unfold Zd;rw [if_neg Om,if_neg U2.out,HNN.out,if_pos (.inr t4)])
  go_wp2_with (fail)
  go_step3;refine⟨rfl,?_⟩;go_wp2;rw [Exit.noGoto_ret];exact bodyPost_ret (QaW rfl (Qq _ _ _ (by rw [hR])) rfl) rfl (by rw [←HW.out];exact .no (by rw [HW.out];omega) (Ext.sa _ (Nat.le_refl _) E))
 have t4': ¬(bs.length:Int)<N:=by omega
 have U3:=Xh (show ¬(ipN bs<20∨bs.length<ipN bs)by rw [HNN.out];omega);obtain⟨v2,hv2⟩: ∃v,w16 bs 2=v:=⟨_,rfl⟩;have b2:=Z2 HR.out 2;rw [hv2]at b2;have HV2:=Xh hv2
 go_upto_region 9 with(fail)
 clear hv2 t2 c0 lb;have q2:(2:Int)≤bs.length:=by omega
 have q3:(bs.length:Int)≤c:=by omega
 have q4: ¬c=2:=by omega
 have q6: ¬c=6:=by omega
 have q10: ¬c=10:=by omega
 cases t5:(v2==(bs.length:Int))
 ·have HW:=Xh (show Zd bs=4 by unfold Zd;rw [if_neg Om,if_neg U2.out,if_neg U3.out,if_pos (by rw [HV2.out];simpa using t5)])
  go_wp2_with ((go_at_call 166;(with_reducible refine(wordx HS0.out HR.out 2 _ _ Om Om).mono ?_);rw [HV2.out];rintro e WC ⟨rfl,gC⟩;have hR:=Zc gC hL hR;have hZ:=Qao gC hL hZ;have hL:=Xl hL gC.size;have E:=E.tr gC;have HS0:=Xh (HS0.out.ext gC)))
  go_step3;refine⟨rfl,?_⟩;go_wp2;rw [Exit.noGoto_ret];exact bodyPost_ret (QaW rfl (Qq _ _ _ (by rw [hR])) rfl) rfl (by rw [←HW.out];exact .no (by rw [HW.out];omega) (Ext.sa _ (Nat.le_refl _) E))
 have U4:=Xh (show ¬w16 bs 2≠bs.length by rw [HV2.out];simpa using t5)
 go_upto_region 11 with(go_at_call 166;(refine(wordx HS0.out HR.out 2 _ _ Om Om).mono ?_);rw [HV2.out];rintro e WC ⟨rfl,gC⟩;have hR:=Zc gC hL hR;have hZ:=Qao gC hL hZ;have hL:=Xl hL gC.size;have E:=E.tr gC;have HS0:=Xh (HS0.out.ext gC))
 have HST:=Xh (show SlB WC (some ⟨b,off,none⟩) (bs.take N)from HS0.out.take N);have hTL:(bs.take N).length=N:=by rw [List.length_take];omega
 have HCK:=Xh (fun W (hE:Ext WC W)=>(show Cr 167 #[.slice (some ⟨b,off,none⟩) N c] W (.int .u16 (Z5 (QaU (bs.take N)))) by
  have:=Qh4 (some ⟨b,off,none⟩) (bs.take N) c W (HST.out.ext hE) (HR.out.take N) Om Om
  rwa [hTL]at this))
 clear hTL t5;have q7:(N:Int)≤bs.length:=by omega
 have q8:(N:Int)≤c:=by omega
 obtain⟨v10,hv10⟩: ∃v,w16 bs 10=v:=⟨_,rfl⟩
 have HW10:=Xh (fun W (hE:Ext WC W)=>(show Cr 166 #[.slice (some ⟨b,off+10,none⟩) (bs.length- 10) (c- 10)] W (.int .u16 v10) by
  rw [←hv10];exact wordx (HS0.out.ext hE) HR.out 10 _ _ Om Om))
 have HV10:=Xh hv10;obtain⟨ck,hck⟩: ∃v,Z5 (QaU (bs.take N))=v:=⟨_,rfl⟩;rw [hck]at HCK;have HK5:=Xh hck;clear hv10 hck;refine Qk Kr Kr ?_;(repeat(go_big_quiet_step (first|(go_at_call 166;exact Zo (HW10.out _ (Qt _)))|(go_at_call 167;exact Zo (HCK.out _ (Qt _))))));refine wpQuiet_nil ?_;intro d
 have gC:=Qt d;have hR:=Zc gC hL hR;have hZ:=Qao gC hL hZ;have hL:=Xl hL gC.size;have E:=E.tr gC;have HS0:=Xh (HS0.out.ext gC);generalize later d=WL at*
 cases t6:(v10==ck)
 ·have HW:=Xh (show Zd bs=5 by unfold Zd;rw [if_neg Om,if_neg U2.out,if_neg U3.out,if_neg U4.out,HNN.out,if_pos (by rw [HV10.out,HK5.out];simpa using t6)])
  go_wp2_with (fail)
  go_step3;refine⟨rfl,?_⟩;go_wp2;rw [Exit.noGoto_ret];exact bodyPost_ret (QaW rfl (Qq _ _ _ (by rw [hR])) rfl) rfl (by rw [←HW.out];exact .no (by rw [HW.out];omega) (Ext.sa _ (Nat.le_refl _) E))
 have U5:=Xh (show ¬w16 bs 10≠Z5 (QaU (bs.take (ipN bs)))by rw [HNN.out,HV10.out,HK5.out];simpa using t6);obtain⟨v6,hv6⟩: ∃v,w16 bs 6=v:=⟨_,rfl⟩;have b6:=Z2 HR.out 6;rw [hv6]at b6;have HV6:=Xh hv6;have HAN:=Xh (QmN b6.1 b6.2);obtain⟨q,hq⟩: ∃q,bits BinOp.andNot IntKind.u16 v6 16384=q:=⟨_,rfl⟩;rw [hq]at HAN
 go_upto_region 13 with(fail)
 clear t6 hv6
 cases t7:(q==0)
 ·have HW:=Xh (show Zd bs=6 by
   unfold Zd;rw [if_neg Om,if_neg U2.out,if_neg U3.out,if_neg U4.out,if_neg U5.out,HV6.out,if_pos];have h:=HAN.out;rw [t7]at h;have h2:=(Bool.or_eq_false_iff.1 h.symm)
   exact⟨by simpa using h2.1,by simpa using h2.2⟩)
  go_wp2_with ((go_at_call 166;(with_reducible refine(wordx HS0.out HR.out 6 _ _ Om Om).mono ?_);rw [HV6.out];rintro e WC ⟨rfl,gC⟩;have hR:=Zc gC hL hR;have hZ:=Qao gC hL hZ;have hL:=Xl hL gC.size;have E:=E.tr gC;have HS0:=Xh (HS0.out.ext gC)))
  go_step3;refine⟨rfl,?_⟩;go_wp2;rw [Exit.noGoto_ret];exact bodyPost_ret (QaW rfl (Qq _ _ _ (by rw [hR])) rfl) rfl (by rw [←HW.out];exact .no (by rw [HW.out];omega) (Ext.sa _ (Nat.le_refl _) E))
 have HW:=Xh (show Zd bs=0 by
  unfold Zd;rw [if_neg Om,if_neg U2.out,if_neg U3.out,if_neg U4.out,if_neg U5.out,HV6.out,if_neg];have h:=HAN.out;rw [t7]at h;rintro⟨h1,h2⟩;rcases Bool.or_eq_true_iff.1 h.symm with h3|h3
  ·exact h1 (by simpa using h3)
  ·exact h2 (by simpa using h3))
 go_upto_region 15 with(go_at_call 166;(refine(wordx HS0.out HR.out 6 _ _ Om Om).mono ?_);rw [HV6.out];rintro e WC ⟨rfl,gC⟩;have hR:=Zc gC hL hR;have hZ:=Qao gC hL hZ;have hL:=Xl hL gC.size;have E:=E.tr gC;have HS0:=Xh (HS0.out.ext gC))
 clear t7 hq HAN b6 b2 HS;have rz:RowZ WC w.heap.size QoW:=⟨hR,hZ,hL⟩;have s:=HS0.out;have hbw:b<w.heap.size:=hbl;have HRR:=HR.out;have hC: ¬(fun k=>w.heap.size≤k) b:=Nat.not_le_of_lt hbw;clear hR hZ hL HS0 gC;refine QO (fun k=>w.heap.size≤k) Kr ?_;obtain⟨WA,hW⟩: ∃Wdr,World.drew WC=Wdr:=⟨_,rfl⟩;have gD:Ext WC WA:=by rw [←hW];exact Ext.dr (Ext.rf _)
 rw [hW];clear hW;have E:=E.tr gD;have s:=s.ext gD;have rz:=rz.ext gD;refine QaH (N:=17) (R:=QlC) (E:=((Tryz.f93.body.bind (Qh 15)).getD #[])) Kr Qh8 Kr fun hS=> ?_;have hT:=hS.2.1;refine tMk 1 (.slice (some ⟨b,off,none⟩) bs.length c) hS.1 hT rfl fun hT=>tM 3 (.pointer (some ⟨b,off+1,none⟩)) hS.1 hT rfl (fun w' _=>Zh (m:=bs.length) (c:=c) 1 Om Kr Kr w') fun hT=>tM 7 (.int .u8 (bt bs 1)) hS.1 hT rfl (QlB s 1 Om hC Kr) fun hT=>tMk 15 (.slice (some ⟨b,off,none⟩) bs.length c) hS.1 hT rfl fun hT=>tM 31 (.slice (some ⟨b,off+4,none⟩) (bs.length- 4) (c- 4)) hS.1 hT rfl (fun w' _=>JM (m:=bs.length) (c:=c) 4 Om Om Kr Kr w') fun hT=>tMk 95 (.slice (some ⟨b,off,none⟩) bs.length c) hS.1 hT rfl fun hT=>tM 223 (.slice (some ⟨b,off+6,none⟩) (bs.length- 6) (c- 6)) hS.1 hT rfl (fun w' _=>JM (m:=bs.length) (c:=c) 6 Om Om Kr Kr w') fun hT=>tMk 735 (.slice (some ⟨b,off,none⟩) bs.length c) hS.1 hT rfl fun hT=>tM 1759 (.pointer (some ⟨b,off+8,none⟩)) hS.1 hT rfl (fun w' _=>Zh (m:=bs.length) (c:=c) 8 Om Kr Kr w') fun hT=>tM 3807 (.int .u8 (bt bs 8)) hS.1 hT rfl (QlB s 8 Om hC Kr) fun hT=>tMk 7903 (.slice (some ⟨b,off,none⟩) bs.length c) hS.1 hT rfl fun hT=>tM 16095 (.pointer (some ⟨b,off+9,none⟩)) hS.1 hT rfl (fun w' _=>Zh (m:=bs.length) (c:=c) 9 Om Kr Kr w') fun hT=>tM 32479 (.int .u8 (bt bs 9)) hS.1 hT rfl (QlB s 9 Om hC Kr) fun hT=> ?_;refine sM 32511 (fun v _=>v= .int .u16 (w16 bs 4)) hS.2.2.1 rfl (ZC (wordx s HRR 4 (bs.length- 4) (c- 4) Om Om)) ?_;rintro _ WB1 gWB1 rfl;have E:=E.tr gWB1;have s:=s.ext gWB1;have rz:=rz.ext gWB1;refine sM 32767 (fun v _=>v= .int .u16 (w16 bs 6)) hS.2.2.2.1 rfl (ZC (wordx s HRR 6 (bs.length- 6) (c- 6) Om Om)) ?_;rintro _ WB2 gWB2 rfl;have E:=E.tr gWB2;have s:=s.ext gWB2;have rz:=rz.ext gWB2;have hT:=hS.2.2.2.2.1;refine tMk 65535 (.agg #[.int .u8 (bt bs 1),.int .u16 (w16 bs 4),.int .u16 (w16 bs 6),.int .u8 (bt bs 8),.int .u8 (bt bs 9),.int .u32 0,.int .u32 0,.slice none 0 0,.slice none 0 0]) hS.1 hT rfl fun hT=> ?_;refine QaO hS.2.2.2.2.2.1 (Qan (m':=131071) rfl rfl Kr (QoX (B:=w.heap.size) (cs:=#[.int .u8 (bt bs 1),.int .u16 (w16 bs 4),.int .u16 (w16 bs 6),.int .u8 (bt bs 8),.int .u8 (bt bs 9),.int .u32 0,.int .u32 0,.slice none 0 0,.slice none 0 0]) (by rw [rz.r];rfl) rz.z rfl (by simp [go_sem]) Kr Kr) (Mv.sa _ (Nat.le_refl _) (Mv.refl _ _)) ?_);obtain⟨WB3,hWB3⟩: ∃WB3,Qe WB2 w.heap.size 0 #[.int .u8 (bt bs 1),.int .u16 (w16 bs 4),.int .u16 (w16 bs 6),.int .u8 (bt bs 8),.int .u8 (bt bs 9),.int .u32 0,.int .u32 0,.slice none 0 0,.slice none 0 0]=WB3:=⟨_,rfl⟩;have gS:Mv (fun k=>k=w.heap.size) WB2 WB3:=by rw [←hWB3];exact Mv.sa _ rfl (Mv.refl _ _)
 have E:=Mv.ext_of E gS (fun k e=>by rw [e];exact Nat.le_refl _);have s:=s.mv gS Om;have rz:=rz.all #[.int .u8 (bt bs 1),.int .u16 (w16 bs 4),.int .u16 (w16 bs 6),.int .u8 (bt bs 8),.int .u8 (bt bs 9),.int .u32 0,.int .u32 0,.slice none 0 0,.slice none 0 0] rfl;rw [hWB3]at rz;rw [hWB3];clear hWB3;refine doneK hS.2.2.2.2.2.2 ?_;clear hS hT;go_simp
 go_upto_region 16 with(fail)
 refine QO (fun k=>w.heap.size≤k) Kr ?_;obtain⟨WC,hW⟩: ∃Wdr,World.drew WB3=Wdr:=⟨_,rfl⟩;have gD:Ext WB3 WC:=by rw [←hW];exact Ext.dr (Ext.rf _)
 rw [hW];clear hW;have E:=E.tr gD;have s:=s.ext gD;have rz:=rz.ext gD;refine QaH (N:=24) (R:=QlD) (E:=((Tryz.f93.body.bind (Qh 16)).getD #[])) Kr Qh9 Kr fun hS=> ?_;have hT:=hS.2.1;refine tMk 1 (.slice (some ⟨b,off,none⟩) bs.length c) hS.1 hT rfl fun hT=>tM 3 (.slice (some ⟨b,off+12,none⟩) (bs.length- 12) (c- 12)) hS.1 hT rfl (fun w' _=>JM (m:=bs.length) (c:=c) 12 Om Om Kr Kr w') fun hT=>tMk 35 (.slice (some ⟨b,off,none⟩) bs.length c) hS.1 hT rfl fun hT=>tM 99 (.slice (some ⟨b,off+14,none⟩) (bs.length- 14) (c- 14)) hS.1 hT rfl (fun w' _=>JM (m:=bs.length) (c:=c) 14 Om Om Kr Kr w') fun hT=>tMk 1123 (.slice (some ⟨b,off,none⟩) bs.length c) hS.1 hT rfl fun hT=>tM 3171 (.slice (some ⟨b,off+16,none⟩) (bs.length- 16) (c- 16)) hS.1 hT rfl (fun w' _=>JM (m:=bs.length) (c:=c) 16 Om Om Kr Kr w') fun hT=>tMk 35939 (.slice (some ⟨b,off,none⟩) bs.length c) hS.1 hT rfl fun hT=>tM 101475 (.slice (some ⟨b,off+18,none⟩) (bs.length- 18) (c- 18)) hS.1 hT rfl (fun w' _=>JM (m:=bs.length) (c:=c) 18 Om Om Kr Kr w') fun hT=> ?_;refine sM 101479 (fun v _=>v= .int .u16 (w16 bs 12)) hS.2.2.1 rfl (ZC (wordx s HRR 12 (bs.length- 12) (c- 12) Om Om)) ?_;rintro _ WD1 gWD1 rfl;have E:=E.tr gWD1;have s:=s.ext gWD1;have rz:=rz.ext gWD1;have hT:=hS.2.2.2.1;refine tM 101487 (.int .u32 (w16 bs 12)) hS.1 hT rfl (fun w' _=>Qbp (Z2 HRR 12) Kr w') fun hT=>tM 101503 (.int .u32 (w16 bs 12*65536)) hS.1 hT rfl (fun w' _=>QfV (Z2 HRR 12) Kr Kr w') fun hT=> ?_;refine sM 101631 (fun v _=>v= .int .u16 (w16 bs 14)) hS.2.2.2.2.1 rfl (ZC (wordx s HRR 14 (bs.length- 14) (c- 14) Om Om)) ?_;rintro _ WD2 gWD2 rfl;have E:=E.tr gWD2;have s:=s.ext gWD2;have rz:=rz.ext gWD2;have hT:=hS.2.2.2.2.2.1;refine tM 101887 (.int .u32 (w16 bs 14)) hS.1 hT rfl (fun w' _=>Qbp (Z2 HRR 14) Kr w') fun hT=>tM 102399 (.int .u32 (w16 bs 12*65536+w16 bs 14)) hS.1 hT rfl (fun w' _=>Qh5 (Z2 HRR 12) (Z2 HRR 14) Kr Kr w') fun hT=>tMk 1150975 (.pointer (some ⟨w.heap.size,5,none⟩)) hS.1 hT rfl fun hT=> ?_;refine sM 1155071 (fun v _=>v= .int .u16 (w16 bs 16)) hS.2.2.2.2.2.2.1 rfl (ZC (wordx s HRR 16 (bs.length- 16) (c- 16) Om Om)) ?_;rintro _ WD3 gWD3 rfl;have E:=E.tr gWD3;have s:=s.ext gWD3;have rz:=rz.ext gWD3;have hT:=hS.2.2.2.2.2.2.2.1;refine tM 1163263 (.int .u32 (w16 bs 16)) hS.1 hT rfl (fun w' _=>Qbp (Z2 HRR 16) Kr w') fun hT=>tM 1179647 (.int .u32 (w16 bs 16*65536)) hS.1 hT rfl (fun w' _=>QfV (Z2 HRR 16) Kr Kr w') fun hT=> ?_;refine sM 1310719 (fun v _=>v= .int .u16 (w16 bs 18)) hS.2.2.2.2.2.2.2.2.1 rfl (ZC (wordx s HRR 18 (bs.length- 18) (c- 18) Om Om)) ?_;rintro _ WD4 gWD4 rfl;have E:=E.tr gWD4;have s:=s.ext gWD4;have rz:=rz.ext gWD4;have hT:=hS.2.2.2.2.2.2.2.2.2.1;refine tM 1572863 (.int .u32 (w16 bs 18)) hS.1 hT rfl (fun w' _=>Qbp (Z2 HRR 18) Kr w') fun hT=>tM 2097151 (.int .u32 (w16 bs 16*65536+w16 bs 18)) hS.1 hT rfl (fun w' _=>Qh5 (Z2 HRR 16) (Z2 HRR 18) Kr Kr w') fun hT=> ?_;refine QaO hS.2.2.2.2.2.2.2.2.2.2.1 (Qan (m':=4194303) rfl rfl Kr (Qh6 (v:=w16 bs 12*65536+w16 bs 14) (rz.cell 5 (by show 5<9;omega)) (rz.frz 5) Kr Kr) (Mv.st _ (.inl (Nat.le_refl _)) (Mv.refl _ _)) ?_);obtain⟨WD5,hWD5⟩: ∃WD5,World.setCell WD4 ⟨w.heap.size,5,none⟩ (.int .u32 (w16 bs 12*65536+w16 bs 14))=WD5:=⟨_,rfl⟩;have gS:Mv (fun k=>k=w.heap.size) WD4 WD5:=by rw [←hWD5];exact Mv.st _ (.inl rfl) (Mv.refl _ _)
 have E:=Mv.ext_of E gS (fun k e=>by rw [e];exact Nat.le_refl _);have s:=s.mv gS Om;have rz:RowZ WD5 w.heap.size #[.int .u8 (bt bs 1),.int .u16 (w16 bs 4),.int .u16 (w16 bs 6),.int .u8 (bt bs 8),.int .u8 (bt bs 9),.int .u32 (w16 bs 12*65536+w16 bs 14),.int .u32 (0),.slice none 0 0,.slice none 0 0]:=by rw [←hWD5];exact rz.set 5 _
 rw [hWD5];clear hWD5;have hT:=hS.2.2.2.2.2.2.2.2.2.2.2.1;refine tMk 8388607 (.pointer (some ⟨w.heap.size,6,none⟩)) hS.1 hT rfl fun hT=> ?_;refine QaO hS.2.2.2.2.2.2.2.2.2.2.2.2.1 (Qan (m':=16777215) rfl rfl Kr (Qh6 (v:=w16 bs 16*65536+w16 bs 18) (rz.cell 6 (by show 6<9;omega)) (rz.frz 6) Kr Kr) (Mv.st _ (.inl (Nat.le_refl _)) (Mv.refl _ _)) ?_);obtain⟨WD6,hWD6⟩: ∃WD6,World.setCell WD5 ⟨w.heap.size,6,none⟩ (.int .u32 (w16 bs 16*65536+w16 bs 18))=WD6:=⟨_,rfl⟩;have gS:Mv (fun k=>k=w.heap.size) WD5 WD6:=by rw [←hWD6];exact Mv.st _ (.inl rfl) (Mv.refl _ _)
 have E:=Mv.ext_of E gS (fun k e=>by rw [e];exact Nat.le_refl _);have s:=s.mv gS Om;have rz:RowZ WD6 w.heap.size #[.int .u8 (bt bs 1),.int .u16 (w16 bs 4),.int .u16 (w16 bs 6),.int .u8 (bt bs 8),.int .u8 (bt bs 9),.int .u32 (w16 bs 12*65536+w16 bs 14),.int .u32 (w16 bs 16*65536+w16 bs 18),.slice none 0 0,.slice none 0 0]:=by rw [←hWD6];exact rz.set 6 _
 rw [hWD6];clear hWD6;refine doneK hS.2.2.2.2.2.2.2.2.2.2.2.2.2 ?_;clear hS hT;go_simp
 go_upto_region 17 with(fail)
 refine QO (fun k=>w.heap.size≤k) Kr ?_;obtain⟨WE,hW⟩: ∃Wdr,World.drew WD6=Wdr:=⟨_,rfl⟩;have gD:Ext WD6 WE:=by rw [←hW];exact Ext.dr (Ext.rf _)
 rw [hW];clear hW;have E:=E.tr gD;have s:=s.ext gD;have rz:=rz.ext gD;refine QaH (N:=12) (R:=QlE) (E:=((Tryz.f93.body.bind (Qh 17)).getD #[])) Kr Qia Kr fun hS=> ?_;have hT:=hS.2.1;refine tMk 1 (.slice (some ⟨b,off,none⟩) bs.length c) hS.1 hT rfl fun hT=>tMk 3 (.int .i64 (N:Nat)) hS.1 hT rfl fun hT=>tM 7 (.slice (ZF b off c 20) (N- 20) (c- 20)) hS.1 hT rfl (fun w' _=>QoV (lo:=20) (hi:=N) (m:=bs.length) Om Om Kr Kr Kr w') fun hT=>tMk 23 (.slice (some ⟨b,off,none⟩) bs.length c) hS.1 hT rfl fun hT=>tMk 55 (.int .i64 (N:Nat)) hS.1 hT rfl fun hT=>tM 119 (.slice (ZF b off c N) (bs.length- N) (c- N)) hS.1 hT rfl (fun w' _=>QaV (lo:=N) (m:=bs.length) Om Om Kr Kr w') fun hT=> ?_;refine sM 127 (fun v w'=>OBn w' w.heap.size v ((bs.take N).drop 20)) hS.2.2.1 rfl (QgL (p:=ZF b off c 20) (n:=N- 20) (c:=c- 20) (lo:=w.heap.size) ((s.take N).cut 20 (by rw [List.length_take];omega)) (by rw [List.length_drop,List.length_take];omega) (by rw [List.length_drop,List.length_take];omega) rz.l) ?_;rintro vo WF1 gWF1 o1;have E:=E.tr gWF1;have s:=s.ext gWF1;have rz:=rz.ext gWF1;have hT:=hS.2.2.2.1;refine tMk 383 (.pointer (some ⟨w.heap.size,7,none⟩)) hS.1 hT rfl fun hT=> ?_;refine sM 511 (fun v w'=>OBn w' w.heap.size v (bs.drop N)) hS.2.2.2.2.1 rfl (QgL (p:=ZF b off c N) (n:=bs.length- N) (c:=c- N) (lo:=w.heap.size) (s.cut N Om) (by rw [List.length_drop];omega) (by rw [List.length_drop]) rz.l) ?_;rintro vp WF2 gWF2 o2;have E:=E.tr gWF2;have s:=s.ext gWF2;have rz:=rz.ext gWF2;have o1:=o1.ext gWF2;refine QaO hS.2.2.2.2.2.1 (Qan (m':=1023) rfl rfl Kr (QeA (v:=vo) (rz.cell 7 (by show 7<9;omega)) (rz.frz 7) o1.slice Kr Kr) (Mv.st _ (.inl (Nat.le_refl _)) (Mv.refl _ _)) ?_);obtain⟨WF3,hWF3⟩: ∃WF3,World.setCell WF2 ⟨w.heap.size,7,none⟩ (vo)=WF3:=⟨_,rfl⟩;have gS:Mv (fun k=>k=w.heap.size) WF2 WF3:=by rw [←hWF3];exact Mv.st _ (.inl rfl) (Mv.refl _ _)
 have E:=Mv.ext_of E gS (fun k e=>by rw [e];exact Nat.le_refl _);have o1:=o1.mv gS (fun k e=>by omega);have o2:=o2.mv gS (fun k e=>by omega);have rz:RowZ WF3 w.heap.size #[.int .u8 (bt bs 1),.int .u16 (w16 bs 4),.int .u16 (w16 bs 6),.int .u8 (bt bs 8),.int .u8 (bt bs 9),.int .u32 (w16 bs 12*65536+w16 bs 14),.int .u32 (w16 bs 16*65536+w16 bs 18),vo,.slice none 0 0]:=by rw [←hWF3];exact rz.set 7 _
 rw [hWF3];clear hWF3;have hT:=hS.2.2.2.2.2.2.1;refine tMk 2047 (.pointer (some ⟨w.heap.size,8,none⟩)) hS.1 hT rfl fun hT=> ?_;refine QaO hS.2.2.2.2.2.2.2.1 (Qan (m':=4095) rfl rfl Kr (QeA (v:=vp) (rz.cell 8 (by show 8<9;omega)) (rz.frz 8) o2.slice Kr Kr) (Mv.st _ (.inl (Nat.le_refl _)) (Mv.refl _ _)) ?_);obtain⟨WF4,hWF4⟩: ∃WF4,World.setCell WF3 ⟨w.heap.size,8,none⟩ (vp)=WF4:=⟨_,rfl⟩;have gS:Mv (fun k=>k=w.heap.size) WF3 WF4:=by rw [←hWF4];exact Mv.st _ (.inl rfl) (Mv.refl _ _)
 have E:=Mv.ext_of E gS (fun k e=>by rw [e];exact Nat.le_refl _);have o1:=o1.mv gS (fun k e=>by omega);have o2:=o2.mv gS (fun k e=>by omega);have rz:RowZ WF4 w.heap.size #[.int .u8 (bt bs 1),.int .u16 (w16 bs 4),.int .u16 (w16 bs 6),.int .u8 (bt bs 8),.int .u8 (bt bs 9),.int .u32 (w16 bs 12*65536+w16 bs 14),.int .u32 (w16 bs 16*65536+w16 bs 18),vo,vp]:=by rw [←hWF4];exact rz.set 8 _
 rw [hWF4];clear hWF4;refine doneK hS.2.2.2.2.2.2.2.2 ?_;clear hS hT;go_simp;have hR:=rz.r;have hZ:=rz.z;have v1:vo.oneCell'=true:=by obtain⟨_,_,_,h⟩:=o1.slice;rw [h];rfl
 have v2:vp.oneCell'=true:=by obtain⟨_,_,_,h⟩:=o2.slice;rw [h];rfl
 have E:=Xh E;have o1:=Xh o1;have o2:=Xh o2;clear s hC gD;go_wp2;simp only [Exit.jump];have gS:Mv (fun k=>k=w.heap.size) WF4 (Qe WF4 w.heap.size 0 #[.int .u8 (bt bs 1),.int .u16 (w16 bs 4),.int .u16 (w16 bs 6),.int .u8 (bt bs 8),.int .u8 (bt bs 9),.int .u32 (w16 bs 12*65536+w16 bs 14),.int .u32 (w16 bs 16*65536+w16 bs 18),vo,vp]):=Mv.sa _ rfl (Mv.refl _ _);refine bodyPost_ret (QaW rfl (Qq _ _ _ (by rw [hR])) rfl) rfl ?_;have h1:=o1.out.mv gS (fun k e=>by omega);have h2:=o2.out.mv gS (fun k e=>by omega);exact QlF.yes (bs:=bs) (vo:=vo) (vp:=vp) HW.out (Mv.ext_of E.out gS (fun k e=>by rw [e];exact Nat.le_refl _)) (by unfold ipH;rw [HNN.out];exact h1.ob) (by unfold ipH;rw [HNN.out];exact h2.ob)
def QlG(B base:Nat)(xs:List Int)(i:Nat)(W:World):Prop:= ∃v,Boxed W B 28 v∧W.ownsRow base 5 1 v i ((xs.take i).map (Value.int .u8))
theorem QlG.mv{xs:List Int}{A':World}(h:QlG B base xs i A)(hm:Mv C A A')(hb: ¬C B)(hc: ∀k,base≤k→ ¬C k):QlG B base xs i A':=by
 obtain⟨v,h1,h2⟩:=h;exact⟨v,Qj h1 hm hb,Qw h2 hm hc⟩
theorem Qfl(w:World)(a:Value)(t:TypeId): ∀j u,[a][j]?=some u→(w.alloc (.cells #[a] t)).cell? ((⟨w.heap.size,0,none⟩:Addr).add j)=some u:=by
 intro j u hu;have e:(⟨w.heap.size,0,none⟩:Addr).add j=⟨w.heap.size,j,none⟩:=by unfold Addr.add;split<;>simp_all
 rw [e,Qa,Zn];simpa using hu
theorem QeB(g:Nat)(lb:Array Value)(eg: ∀args w,(callFunc g args).run Tryz.prog w= .ok (.enter g args) w)(xs:List Int)(w:World)(hlen:xs.length≤2000)
  (hseq: ∀(n:Nat) (U:Nat→Prop) w',Ext w w'→(∀k,U k→w.heap.size≤k)→QcT Fence.wide n Tryz.prog g lb (fun s:Int=>#[.int .u8 s]) (fun _=>False) U xs w'):
  Calls Tryz.prog 253 #[.slice none 0 0,.func (.func g) #[] lb] w fun e W'=> ∃v,e= .returned v∧Z8 w W' v xs:=by
 obtain⟨i0,hi,hz0,hz1,hz2⟩:=info_parts YB;have HSQ:=Xh hseq;have HEG:=Xh eg;clear hseq eg;refine(callsIn_wide (n:=5)).1 ?_;refine callsIn_of_wp_marks Tryz.func253 rfl trivial ?_ rfl;simp only [Tryz.ntmps253,List.size_toArray,List.length_cons,List.length_nil,Nat.reduceAdd,Nat.reduceSub,Array.replicate_succ,Array.replicate_zero,List.push_toArray,List.append_toArray,List.nil_append,List.cons_append]
 gi_wp2
 have bO:=Boxed.new w 28 (.slice none 0 0);obtain⟨w1,hw1⟩: ∃w1,w.alloc (.cells #[.slice none 0 0] 28)=w1:=⟨_,rfl⟩;have hs1:w1.heap.size=w.heap.size+1:=by rw [←hw1];simp
 have hE1:Ext w w1:=by rw [←hw1];exact Ea
 rw [hw1]at bO⊢;clear hw1;refine ZI rfl Om (gf:=g) (lb:=lb) rfl trivial HEG.out (HSQ.out _ (fun k=>k=w.heap.size) w1 hE1 (fun k e=>by omega))
  (fun k h=>h.elim) (fun k h=>by omega) (fun _=>rfl)
  (fun i W=>QlG w.heap.size (w1.heap.size+2) xs i W) (fun _ _=>False)
  (fun i A B h hm=>h.mv hm (fun hh=>by rcases hh with hh|hh|hh;exact hh.elim;omega;omega) (fun k hk hh=>by rcases hh with hh|hh|hh;exact hh.elim;omega;omega))
  (fun _ _ _ h _=>h) ⟨_,bO,World.ownsRow_nil _ _ _ _⟩
  (fun s a' W=>a'={tmps:=#[.slice none 0 0,.func (.func g) #[] lb,.pointer (some ⟨w.heap.size,0,none⟩),undef,.slice none 0 0,.int .u8 s,.func (.func g) #[] lb,.int .u8 s,undef,undef,undef,undef,undef],defers:= []})
  (fun s a' A B h hm=>h)
  ?assign ?body ?done ?stop
 case assign=>
  intro l i s W K hsz hv hI hx hK
  gi_wp2
  exact hK _ _ (Mv.refl _ _) hI rfl
 case body=>
  rintro l i s a' W hl ⟨r,hr⟩ hsz hv ⟨v,hb,hrow⟩ hx rfl;have hil:i<xs.length:=(List.getElem?_eq_some_iff.1 hx).1;have hxi:xs[i]=s:=(List.getElem?_eq_some_iff.1 hx).2;have hc:=hb.cell;have HX:=Xh hxi;have HR:=Xh hrow;have HV:=Xh hv;clear hxi hv hx hr;have htk:xs.take (i+1)=xs.take i++ [s]:=by rw [List.take_succ_eq_append_getElem hil,HX.out]
  have HT2:=Xh htk;clear htk;have hnB: ∀r,v.ownBlock=some r→w1.heap.size+2≤r:=Qi HR.out;have HNB:=Xh hnB;clear hnB
  gi_wp2_with (gi_at_builtin;refine wpListIn_append_own _ rfl _ _ 28 rfl (w1.heap.size+2) 5 i0 (.int .u8 0) 1 1 Tryz.underlying28 hi hz0 hz1 hz2 rfl Dc _ _ _ rfl (HR.out.alloc _) ⟨W.heap.size,0,none⟩ 1 1 [.int .u8 s] rfl rfl (Qfl _ _ _) (by simp [Value.oneCell']) (by unfold maxLen;omega) Om (by simp;omega) ?_;intro v' w2 hown' hgrow _;have HOW:=Xh hown';obtain⟨g',cap',rfl⟩:=ownsRow_succ hown';have hb2:Boxed w2 w.heap.size 28 v:=(hb.alloc _).kept hgrow (fun e=>by have:=HNB.out _ e.symm;omega);have hc2:=hb2.cell;have hf2:=hb2.frozen;clear hown')
  have hm2:Mv (fun k=>k=w.heap.size∨w1.heap.size+2≤k) W w2:=(Mv.al _ (Mv.refl _ _)).trans (Mv.of_grown hgrow fun r e=> .inl (.inr (HNB.out r e)));refine⟨Mv.st _ (.inl (.inl rfl)) hm2,_,hb2.set _,?_⟩;rw [HT2.out,List.map_append];exact Qw (C:=fun k=>k=w.heap.size) HOW.out (Mv.st _ (.inl rfl) (Mv.refl _ _)) (fun k hk e=>by omega)
 case done=>
  rintro W ⟨v,hb,hrow⟩ hv hK;have hc:=hb.cell;have HV:=Xh hv;clear hv
  gi_wp2
  refine⟨by simp,.inl ⟨_,_,rfl,run_takeDeferred hK,?_⟩⟩;refine⟨_,results_tmp rfl _ _ _,v,rfl,?_,?_⟩
  ·have:=Qw (C:=fun k=>k=w1.heap.size) hrow (Mv.put W w1.heap.size (.deferred none) rfl) (fun k hk e=>by omega);rw [List.take_length]at this;exact QA this Om
  ·have hE2:Ext w W:=Mv.ext_of hE1 HV.out (fun k h=>by rcases h with h|h;exact h.elim;omega);exact Mv.ext_of hE2 (Mv.put (C:=fun k=>k=w1.heap.size) _ _ _ rfl) (fun k h=>by omega)
 case stop=>intro _ _ h;exact h.elim
theorem QgO(g:Nat)(lb:Array Value)(eg: ∀args w,(callFunc g args).run Tryz.prog w= .ok (.enter g args) w)(xs:List Int)(w:World)(hlen:xs.length≤2000)
  (hseq: ∀(n:Nat) (U:Nat→Prop) w',Ext w w'→(∀k,U k→w.heap.size≤k)→QcT Fence.wide n Tryz.prog g lb (fun s:Int=>#[.int .u8 s]) (fun _=>False) U xs w'):
  Calls Tryz.prog 236 #[.func (.func g) #[] lb] w fun e W'=> ∃v,e= .returned v∧Z8 w W' v xs:=by
 have HC:=Xh (QeB g lb eg xs w hlen hseq);clear hseq eg
 go_enter Tryz.func236,Tryz.ntmps236
 go_wp2_with (go_at_call 253;(refine(HC.out).mono ?_);rintro e w2 ⟨v,rfl,h⟩)
 go_ret;exact⟨v,rfl,h⟩
def SlW(w:World)(p:Option Addr)(ns:List Int):Prop:= ∀k,(h:k<ns.length)→ ∃b off,p=some ⟨b,off,none⟩∧b<w.heap.size∧w.cell? ⟨b,off+k,none⟩=some (.int .u16 ns[k])
theorem SlW.ext{p:Option Addr}(h:SlW w p bs)(e:Ext w w'):SlW w' p bs:=fun k hk=>by
 obtain⟨b,off,hp,hb,hc⟩:=h k hk;exact⟨b,off,hp,Xl hb e.size,(e.cell (p:=⟨b,off+k,none⟩) hb).trans hc⟩
def Yz:List Int→List Int
 | []=> []
 |n::r=>n/256 % 256::n % 256::Yz r
theorem Jc: ∀ns:List Int,(Yz ns).length=2*ns.length
 | []=>rfl
 |n::r=>by show(Yz r).length+1+1=_;rw [Jc r,List.length_cons];omega
theorem Qib: ∀(ns:List Int) (i:Nat) (h:i<ns.length),(Yz ns)[2*i]?=some (ns[i]/256 % 256)∧(Yz ns)[2*i+1]?=some (ns[i] % 256)
 |n::r,0,_=>⟨rfl,rfl⟩
 |n::r,i+1,h=>by
  have:=Qib r i (by simpa using h);show(_::_::Yz r)[2*(i+1)]?=_∧(_::_::Yz r)[2*(i+1)+1]?=_;rw [show 2*(i+1)=2*i+1+1 by omega,show 2*i+1+1+1=(2*i+1)+1+1 by omega];simpa using this
theorem QgP: ∀ns:List Int,ByR (Yz ns)
 | []=>ByR.nil
 |n::r=>ByR.cons Om (ByR.cons Om (QgP r))
theorem QjD(p:Option Addr)(n c:Nat)(w:World):
  Calls Tryz.prog 237 #[.slice p n c] w fun e w'=>e= .returned (.func (.func 254) #[] #[.pointer (some ⟨w.heap.size,0,none⟩)])∧w'=w.alloc (.cells #[.slice p n c] 270):=by
 go_enter Tryz.func237,Tryz.ntmps237
 go_wp2;go_ret;exact⟨rfl,rfl⟩
theorem Qfm: ∀args w,(callFunc 254 args).run Tryz.prog w= .ok (.enter 254 args) w:=enters_of Tryz.func254 Kr rfl
theorem Qic(n:Nat)(ns:List Int)(p:Option Addr)(c:Nat)(w0 w:World)(Bl:Nat)(U:Nat→Prop)(h0:Ext w0 w)(hs:SlW w0 p ns)(hl:ns.length≤1000)(hc:w.cell? ⟨Bl,0,none⟩=some (.slice p ns.length c))(lb:Lt Bl w)(hU: ∀k,U k→w0.heap.size≤k∧k≠Bl):
  QcT Fence.wide n Tryz.prog 254 #[.pointer (some ⟨Bl,0,none⟩)] (fun x:Int=>#[.int .u8 x]) (fun _=>False) U (Yz ns) w:=by
 intro y J Jx W hW hJ hJx hY hJ0;have HJ:=Xh hJ;have HJx:=Xh hJx;have HU:=Xh hU;have HS:=Xh hs;clear hJ hJx hU hs;obtain⟨yfn,ytm,yas,ybo,hY⟩:=hY;have HY:=Xh hY;clear hY;have hcW:W.cell? ⟨Bl,0,none⟩=some (.slice p ns.length c):=(hW.cell (p:=⟨Bl,0,none⟩) lb).trans hc;have lbW:Lt Bl W:=Xl lb hW.size;have h0W:=h0.tr hW;refine callsIn_of_wp Tryz.func254 rfl trivial ?_ rfl;simp only [Tryz.ntmps254,List.size_toArray,List.length_cons,List.length_nil,Nat.reduceAdd,Nat.reduceSub,Array.replicate_succ,Array.replicate_zero,List.push_toArray,List.append_toArray,List.nil_append,List.cons_append];refine wpIn_wide.2 ?_;go_wp2
 go_loopw [4,7] (fun _ a wr=> ∃i:Nat,i≤ns.length∧a= .int .i64 i∧J (2*i) wr∧Ext w0 wr) (fun _ a _=>ns.length- (intOf a).toNat)
 case atStart=>exact⟨0,Nat.zero_le _,rfl,hJ0,h0W⟩
 case round=>
  clear hcW lbW h0W hJ0;obtain⟨i,hi,rfl,hJi,hE⟩:=hrel
  by_cases hlt:i<ns.length
  ·have hlt':(i:Int)<ns.length:=by omega
   obtain⟨b,off,rfl,hb,c0⟩:=(HS.out.ext hE) i hlt;obtain⟨hx0,hx1⟩:=Qib ns i hlt;obtain⟨x,hx⟩: ∃x,ns[i]=x:=⟨_,rfl⟩;rw [hx]at c0 hx0 hx1;have lbb:Lt b wr:=hb;have w0':IntKind.u8.wrap (x/256)=x/256 % 256:=Ye _;have w1':IntKind.u8.wrap x=x % 256:=Ye _;have hrun:(Instr.yield y #[.int .u8 (x/256 % 256)]).run Tryz.prog wr= .ok (.round y yfn (ytm #[.int .u8 (x/256 % 256)]) yas ybo) wr:=(HY.out (2*i) _ wr hJi hx0).1;have HRD:=Xh (HY.out (2*i) _ wr hJi hx0).2;have HX1:=Xh hx1;have HE:=Xh hE;clear hx hJi hx0 hx1 hE
   go_upto_region 3 with(fail)
   refine(wpIn_wide (n:=n)).1 ?_
   gi_wp2
   refine⟨(fun h=>by cases h),(HRD.out).mono ?_⟩;rintro e w6 ⟨bb,rfl,hP⟩;clear hrun HRD c0;obtain⟨rfl,hJ6,hm6⟩|⟨rfl,hx6⟩:=hP
   ·have hrun:(Instr.yield y #[.int .u8 (x % 256)]).run Tryz.prog w6= .ok (.round y yfn (ytm #[.int .u8 (x % 256)]) yas ybo) w6:=(HY.out (2*i+1) _ w6 hJ6 HX1.out).1;have HRD:=Xh (HY.out (2*i+1) _ w6 hJ6 HX1.out).2;have HM6:=Xh hm6;clear hJ6 hm6
    gi_wp2
    refine⟨(fun h=>by cases h),(HRD.out).mono ?_⟩;rintro e w7 ⟨bb,rfl,hP⟩;clear hrun HRD;obtain⟨rfl,hJ7,hm7⟩|⟨rfl,hx7⟩:=hP
    ·have hE7:Ext w0 w7:=Mv.ext_of (Mv.ext_of HE.out HM6.out (fun k h=>by rcases h with h|h;exact(HU.out _ h).1;exact Xt h0.size h)) hm7 (fun k h=>by rcases h with h|h;exact(HU.out _ h).1;exact Xt h0.size h);clear hm7
     gi_wp2
     go_wp2
     go_roundw
     case rel=>exact⟨i+1,Om,by go_num,by rw [show 2*(i+1)=2*i+1+1 by omega];exact hJ7,hE7⟩
     case measure=>simp [intOf];omega
    ·gi_wp2
     go_wp2;refine bodyPost_ret (results_none rfl _ _ _) rfl ⟨⟨_,rfl⟩,.inr hx7⟩
   ·gi_wp2
    all_goals
     refine⟨(fun f h=>by cases h),?_⟩
     gi_wp2
     go_wp2;exact bodyPost_ret (results_none rfl _ _ _) rfl ⟨⟨_,rfl⟩,.inr hx6⟩
  ·obtain rfl:i=ns.length:=by omega
   have HLN:=Xh (Jc ns);go_wp2
   go_end0
   exact⟨⟨_,rfl⟩,.inl (by rw [HLN.out];exact hJi)⟩
def psN(src dst n:Int):List Int:= [src/65536 % 65536,src % 65536,dst/65536 % 65536,dst % 65536,6,n % 65536]
def Z4(src dst n:Int):List Int:=Yz (psN src dst n)
theorem Jd(src dst n:Int):(Z4 src dst n).length=12:=by unfold Z4;rw [Jc];rfl
theorem QoY{W1 w2:World}{ns:List Int}(sw:SlW W1 (some ⟨B,0,none⟩) ns)(g1:Ext w W1){c:Nat}(h:w2=W1.alloc (.cells #[.slice (some ⟨B,0,none⟩) m c] 270))(hm:m=ns.length:=by rfl)(hl:ns.length≤1000:=by first|decide|(show 6≤1000;omega)):
  Calls Tryz.prog 236 #[.func (.func 254) #[] #[.pointer (some ⟨W1.heap.size,0,none⟩)]] w2 fun e w'=> ∃v,e= .returned v∧Z8 w w' v (Yz ns):=by
 subst hm;have g2:Ext W1 w2:=by rw [h];exact Ea
 have hc:w2.cell? ⟨W1.heap.size,0,none⟩=some (.slice (some ⟨B,0,none⟩) ns.length c):=by rw [h];simp [go_sem]
 have hl2:Lt W1.heap.size w2:=by rw [h];simp [go_sem]
 refine(QgO 254 #[.pointer (some ⟨W1.heap.size,0,none⟩)] Qfm (Yz ns) w2 (by rw [Jc];omega) (fun n U w' hE hU=> ?_)).mono ?_
 ·exact Qic n ns _ c w2 w' W1.heap.size U hE (sw.ext g2) hl ((hE.cell (p:=⟨W1.heap.size,0,none⟩) hl2).trans hc) (Xl hl2 hE.size) (fun k hk=>⟨hU k hk,fun e=>by have:=hU k hk;unfold Lt at hl2;omega⟩)
 ·rintro e w' ⟨v,h1,h2⟩;exact⟨v,h1,⟨h2.own.le (Xt g1.size g2.size),(g1.tr g2).tr h2.ext⟩⟩
theorem QfW(src dst n:Int):ByR (Z4 src dst n):=QgP _
theorem SlW.row{ns:List Int}(h:Qc w B=(ns.map (Value.int .u16)).toArray)(hl:Lt B w):SlW w (some ⟨B,0,none⟩) ns:=fun k hk=>⟨B,0,rfl,hl,by rw [Qa,h];simp [List.getElem?_map,List.getElem?_eq_getElem hk]⟩
theorem QeC(src dst n:Int)(w:World):
  Calls Tryz.prog 217 #[.int .u32 src,.int .u32 dst,.int .i64 n] w fun e w'=> ∃v,e= .returned v∧Z8 w w' v (Z4 src dst n):=by
 go_enter Tryz.func217,Tryz.ntmps217
 go_upto_region 2 with(fail)
 simp only [Q4];obtain⟨W1,hW⟩: ∃W1,w.alloc (.cells #[.int .u16 (src/65536 % 65536),.int .u16 (src % 65536),.int .u16 (dst/65536 % 65536),.int .u16 (dst % 65536),.int .u16 6,.int .u16 (n % 65536)] 266)=W1:=⟨_,rfl⟩;have g1:Ext w W1:=by rw [←hW];exact Ea
 have sw:SlW W1 (some ⟨w.heap.size,0,none⟩) (psN src dst n):=SlW.row (by rw [←hW,Zn];rfl) (by rw [←hW];simp [go_sem]);rw [hW];clear hW
 go_wp2_with (first|(go_at_call 237;(with_reducible refine(QjD _ _ _ _).mono ?_);rintro e w2 ⟨rfl,h2⟩;have HC:=Xh (QoY sw g1 h2);clear h2)|(go_at_call 236;(with_reducible refine(HC.out).mono ?_);rintro e w3 ⟨v,rfl,h3⟩))
 go_ret;exact⟨v,rfl,h3⟩
theorem QmP{w1 w2:World}{v v2:Value}{xs ys:List Int}(h:Z8 w w1 v xs)(ho:w2.ownsRow w.heap.size 5 1 v2 (xs.length+ys.length) (xs.map (Value.int .u8)++ys.map (Value.int .u8)))(hg:w1.grownBy w2 v.ownBlock):Z8 w w2 v2 (xs++ys):=by
 refine⟨?_,Mv.ext_of h.ext (Qcp h.own hg) (fun k hk=>hk)⟩;unfold OB;rw [List.length_append,List.map_append];exact ho
theorem QmQ(src dst:Int)(p:Option Addr)(bs:List Int)(c:Nat)(w:World)(hs:SlB w p bs)(hl:bs.length≤1000):
  Calls Tryz.prog 175 #[.int .u32 src,.int .u32 dst,.slice p bs.length c] w fun e w'=> ∃v,e= .returned v∧Z8 w w' v (Z4 src dst bs.length++bs):=by
 obtain⟨i0,hi,hz0,hz1,hz2⟩:=info_parts YB
 cases p with
 |none=>
  have h0:bs= []:=hs.nil_of;subst h0
  go_enter Tryz.func175,Tryz.ntmps175
  go_wp2_with (go_at_call 217;(refine(QeC src dst _ _).mono ?_);rintro e w2 ⟨v,rfl,h2⟩;obtain⟨g2,c2,rfl,k2,-,-,-,-⟩:=h2.own.at (by rw [Jd];omega);have HO:=Xh h2;clear h2)
  go_ret;exact⟨_,rfl,by rw [List.append_nil];exact HO.out⟩
 |some a=>
  have HS:=Xh hs;clear hs
  go_enter Tryz.func175,Tryz.ntmps175
  go_wp2_with (first|(go_at_call 217;(with_reducible refine(QeC src dst _ _).mono ?_);rintro e w2 ⟨v,rfl,h2⟩;have HN:=Xh ((HS.out).news h2.ext);have HO:=Xh h2;have hpl:=Jd src dst bs.length;clear h2)|(at_builtin;refine wpList_append_own _ rfl _ _ 28 rfl w.heap.size 5 i0 (.int .u8 0) 1 1 Tryz.underlying28 hi hz0 hz1 hz2 rfl Dc _ _ _ rfl HO.out.own a bs.length c (bs.map (Value.int .u8)) rfl (by simp) HN.out (oneB _) (by unfold maxLen;omega) Om (HO.out.ext.size) ?_;intro v' w2 hown' hgrow _;have HOW:=Xh hown';have HG:=Xh hgrow;clear hown' hgrow))
  go_ret;exact⟨v',rfl,QmP HO.out HOW.out HG.out⟩
section
variable {P:Program} {ops:Array Oper} {md:Region.Mode} {C D:Nat→Prop} {r:Nat}
def QP(C D:Nat→Prop)(r:Nat)(P:Program)(md:Region.Mode)(ops:Array Oper)(Q:Act→World→Prop):Nat→Array Bool→Act→World→Prop
 |0,listed,a,w=>Region.ready md ops listed= []∧Q a w
 |fuel+1,listed,a,w=>(Region.ready md ops listed= []→Q a w)∧
  ∀i∈Region.ready md ops listed,Jj P ops i (fun a' w'=>((r≤i∨Mv C w w')∧Mv D w w')∧QP C D r P md ops Q fuel (listed.setIfInBounds i true) a' w') a w
theorem QeD{Q':Exit→Act→World→Prop}(hQ: ∀a w,Q a w→Q' .normal a w): ∀(fuel:Nat) (listed:Array Bool) (a:Act) (w:World),
  QP C D r P md ops Q fuel listed a w→wpAny P md ops Q' fuel listed a w
 |0,_,_,_,h=>⟨h.1,hQ _ _ h.2⟩
 |fuel+1,_,_,_,h=>⟨fun h0=>hQ _ _ (h.1 h0),fun i hi=>Qcn (Jv (fun a' w' h1=>QeD hQ fuel _ a' w' h1.2) (h.2 i hi))⟩
def lateB(md:Region.Mode)(ops:Array Oper)(r k:Nat):Bool:=(List.range ops.size).all fun j=>decide (j<r)||((ops[j]?).map fun o=>o.after.any fun e=>Region.binds md e&&e.on==k).getD true
theorem QmR(h:lateB md ops r k=true): ∀j oj,ops[j]?=some oj→r≤j→ ∃e∈oj.after,Region.binds md e=true∧e.on=k:=by
 intro j oj hj hr;unfold lateB at h;have:=List.all_eq_true.1 h j (List.mem_range.2 (Array.getElem?_eq_some_iff.1 hj).1);rw [hj,decide_eq_false Om]at this;simp only [Option.map_some,Option.getD_some,Bool.false_or,Array.any_eq_true',Bool.and_eq_true,beq_iff_eq]at this;obtain⟨e,he,hb,hk⟩:=this;exact⟨e,he,hb,hk⟩
theorem QbH{E:Nat→Prop}{v:Value}(hi:ops[i]?=some oi)(hE: ∀j oj A B,ops[j]?=some oj→(∀e∈oj.after,Region.binds md e=true→e.on≠i)→(r≤j∨Mv C A B)→Mv D A B→Mv E A B)(hsel: ∀(j:Nat) (o:Oper) cs b,ops[j]?=some o→o.op≠ .select cs b):
  ∀(fuel:Nat) (listed:Array Bool) (a:Act) (w:World),
   (∀j oj,ops[j]?=some oj→j≠i→listed.getD j true=false→(∀e∈oj.after,Region.binds md e=true→e.on≠i)→oi.apart ops oj=true)→
   i∈Region.ready md ops listed→Yr E P ops w oi v a→
   QP C D r P md ops Q fuel (listed.setIfInBounds i true) (a.put oi.dst v) w→QP C D r P md ops Q (fuel+1) listed a w:=by
 intro fuel
 induction fuel with
 |zero=>
  intro listed a w _ hr hy H;refine⟨fun h=>(by rw [h]at hr;cases hr),fun j hj=> ?_⟩
  by_cases hji:j=i
  ·subst hji;exact hy.xOpK hi ⟨⟨.inr (Mv.refl _ _),Mv.refl _ _⟩,H⟩
  ·have:=ready_mono hj hji;rw [H.1]at this
   cases this
 |succ fuel ih=>
  intro listed a w hfree hr hy H;refine⟨fun h=>(by rw [h]at hr;cases hr),fun j hj=> ?_⟩
  by_cases hji:j=i
  ·subst hji;exact hy.xOpK hi ⟨⟨.inr (Mv.refl _ _),Mv.refl _ _⟩,H⟩
  ·have h1:=H.2 j (ready_mono hj hji);obtain⟨hjun,oj,hoj,hall⟩:=mem_ready.1 hj;have hnot: ∀e∈oj.after,Region.binds md e=true→e.on≠i:=fun e he hb heq=>by
    have h1:=hall e he hb;have h0:=(mem_ready.1 hr).1;rw [heq]at h1;rcases Nat.lt_or_ge i listed.size with h'|h'
    ·simp [h']at h0 h1;rw [h0]at h1;cases h1
    ·simp [Array.getElem?_eq_none h']at h1
   have h2:=Qel hoj (hfree j oj hoj hji hjun hnot) (fun cs b=>hsel i oi cs b hi) (fun cs b=>hsel j oj cs b hoj) hy h1;have hfree': ∀k ok,ops[k]?=some ok→k≠i→(listed.setIfInBounds j true).getD k true=false→
     (∀e∈ok.after,Region.binds md e=true→e.on≠i)→oi.apart ops ok=true:=fun k ok hk hki hun hno=>by
    refine hfree k ok hk hki ?_ hno
    by_cases hjk:j=k
    ·subst hjk;exact hjun
    ·rw [getD_set_ne true hjk]at hun;exact hun
   refine Jv (fun a' w' h3=>⟨h3.2.1,ih (listed.setIfInBounds j true) a' w' hfree' (ready_mono hr (Ne.symm hji)) (h3.1.later (hE j oj _ _ hoj hnot h3.2.1.1 h3.2.1.2)) ?_⟩) h2;have h4:=h3.2.2;rw [Array.setIfInBounds_comm _ _ hji];exact h4
theorem QZ{listed:Array Bool}(hr:Region.ready md ops listed= [])(H:Q a w):QP C D r P md ops Q fuel listed a w:=by
 cases fuel with
 |zero=>exact⟨hr,H⟩
 |succ n=>exact⟨fun _=>H,fun i hi=>by rw [hr]at hi;cases hi⟩
theorem Qy{id:Nat}{Q:Exit→Act→World→Prop}(C D:Nat→Prop)(r:Nat)(hm:P.follows .mixedOrders=true)
  (h:QP C D r P .any ops (fun a w=>Q .normal a w) ops.size (Array.replicate ops.size false) a w.drew):(Code.region id ops true).wp P Q a w:=
 wp_region_any hm (QeD (fun _ _ h=>h) _ _ _ _ h)
def Qo(ops:Array Oper)(n:Nat):List Nat→Nat→Bool
 | [],_=>true
 |k::rest,m=>Region.free .any ops (msk n m) k&&upX ops (msk n m) k&&Qo ops n rest (m|||(1<<<k))
theorem Qb5(ht:Qo ops N (k::rest) m=true)(hm:m|||(1<<<k)=m'):Region.free .any ops (msk N m) k=true∧upX ops (msk N m) k=true∧(msk N m).setIfInBounds k true=msk N m'∧Qo ops N rest m'=true:=by
 unfold Qo at ht;simp only [Bool.and_eq_true]at ht;obtain⟨⟨t1,t2⟩,t5⟩:=ht;exact⟨t1,t2,by rw [Qcq,hm],by rw [←hm];exact t5⟩
theorem ZD{v:Value}(hs:Region.noSelect ops=true)(ht:Qo ops N (k::rest) m=true)(hl:lateB .any ops r k=true)(hm:m|||(1<<<k)=m')
  (hi:ops[k]?=some oi)(hw:Region.wanted oi (yielded ops a.tmps)=true)(hy: ∀w',Mv C w w'→(execOp a.eval oi).run P w'= .ok (.value v) w')
  (H:Qo ops N rest m'=true→QP C D r P .any ops Q fuel (msk N m') (a.put oi.dst v) w):QP C D r P .any ops Q (fuel+1) (msk N m) a w:=by
 obtain⟨t1,t2,t4,t5⟩:=Qb5 ht hm;refine QbH hi (fun j oj A B hoj hn h _=>h.elim (fun h=>let ⟨e,he,hb,ho⟩:=QmR hl j oj hoj h;absurd ho (hn e he hb)) id) (Region.noSelect_spec hs) fuel _ a w (Region.free_spec hi t1) (by simpa using ZZ t2) (.inl ⟨hw,hy⟩) ?_;rw [t4];exact H t5
theorem QoZ{v:Value}(hs:Region.noSelect ops=true)(ht:Qo ops N (k::rest) m=true)(hm:m|||(1<<<k)=m')
  (hi:ops[k]?=some oi)(hw:Region.wanted oi (yielded ops a.tmps)=true)(hy: ∀w',Mv D w w'→(execOp a.eval oi).run P w'= .ok (.value v) w')
  (H:Qo ops N rest m'=true→QP C D r P .any ops Q fuel (msk N m') (a.put oi.dst v) w):QP C D r P .any ops Q (fuel+1) (msk N m) a w:=by
 obtain⟨t1,t2,t4,t5⟩:=Qb5 ht hm;refine QbH hi (fun _ _ _ _ _ _ _ h=>h) (Region.noSelect_spec hs) fuel _ a w (Region.free_spec hi t1) (by simpa using ZZ t2) (.inl ⟨hw,hy⟩) ?_;rw [t4];exact H t5
theorem Qvo(hs:Region.noSelect ops=true)(ht:Qo ops N (k::rest) m=true)(hm:m|||(1<<<k)=m')
  (hi:ops[k]?=some oi)(hw:Region.wanted oi (yielded ops a.tmps)=false)
  (H:Qo ops N rest m'=true→QP C D r P .any ops Q fuel (msk N m') (a.put oi.dst undef) w):QP C D r P .any ops Q (fuel+1) (msk N m) a w:=by
 obtain⟨t1,t2,t4,t5⟩:=Qb5 ht hm;refine QbH hi (fun _ _ _ _ _ _ _ h=>h) (Region.noSelect_spec hs) fuel _ a w (Region.free_spec hi t1) (by simpa using ZZ t2) (.inr (.inl ⟨hw,rfl⟩)) ?_;rw [t4];exact H t5
structure QaX(C D:Nat→Prop)(r:Nat)(P:Program)(ops:Array Oper)(Q:Act→World→Prop)(fuel N k m:Nat)(a:Act)(w:World):Prop where
 h:Jj P ops k (fun a' w'=>((r≤k∨Mv C w w')∧Mv D w w')∧QP C D r P .any ops Q fuel (msk N (m|||(1<<<k))) a' w') a w
theorem Qr(hr:Region.ready .any ops (msk N m)= [k])(H:QaX C D r P ops Q fuel N k m a w):QP C D r P .any ops Q (fuel+1) (msk N m) a w:=by
 refine⟨fun h0=> ?_,fun j hj=> ?_⟩
 ·rw [hr]at h0;cases h0
 ·rw [hr]at hj;obtain rfl:j=k:=by simpa using hj
  rw [Qcq];exact H.h
theorem QmS{j:Nat}(hr:Region.ready .any ops (msk N m)= [i,j])(Hi:QaX C D r P ops Q fuel N i m a w)(Hj:QaX C D r P ops Q fuel N j m a w):QP C D r P .any ops Q (fuel+1) (msk N m) a w:=by
 refine⟨fun h0=> ?_,fun k hk=> ?_⟩
 ·rw [hr]at h0;cases h0
 ·rw [hr]at hk;have hk':k=i∨k=j:=by simpa using hk
  rw [Qcq];rcases hk' with rfl|rfl
  ·exact Hi.h
  ·exact Hj.h
theorem Zq{v:Value}{w1:World}(hm:m|||(1<<<k)=m')(hi:ops[k]?=some oi)(hw:Region.wanted oi (yielded ops a.tmps)=true)
  (he:(execOp a.eval oi).run P w= .ok (.value v) w1)(hE:(r≤k∨Mv C w w1)∧Mv D w w1)(H:QP C D r P .any ops Q fuel (msk N m') (a.put oi.dst v) w1):QaX C D r P ops Q fuel N k m a w:=by
 refine⟨?_⟩;unfold Jj;simp only [hi,hw,if_true,he,hm];exact⟨hE,H⟩
theorem QE{w1:World}(hm:m|||(1<<<k)=m')(hi:ops[k]?=some oi)(hw:Region.wanted oi (yielded ops a.tmps)=true)
  (he:(execOp a.eval oi).run P w= .ok .skip w1)(hE:(r≤k∨Mv C w w1)∧Mv D w w1)(H:QP C D r P .any ops Q fuel (msk N m') (a.put oi.dst undef) w1):QaX C D r P ops Q fuel N k m a w:=by
 refine⟨?_⟩;unfold Jj;simp only [hi,hw,if_true,he,hm];exact⟨hE,H⟩
theorem QlH{R:Value→World→Prop}{f:FuncId}{args:Array Value}(hm:m|||(1<<<k)=m')(hi:ops[k]?=some oi)(hw:Region.wanted oi (yielded ops a.tmps)=true)
  (he:(execOp a.eval oi).run P w= .ok (.enter f args) w)(hc:Calls P f args w fun e w'=> ∃v,e= .returned v∧R v w'∧Ext w w')
  (H: ∀v w',Ext w w'→R v w'→QP C D r P .any ops Q fuel (msk N m') (a.put oi.dst v) w'):QaX C D r P ops Q fuel N k m a w:=by
 refine⟨?_⟩;unfold Jj;simp only [hi,hw,if_true,he,hm];exact hc.mono fun e w' ⟨v,h1,h2,h3⟩=>⟨v,h1,⟨.inr (Mv.of_ext h3),Mv.of_ext h3⟩,H v w' h3 h2⟩
theorem Zi{E:Array Oper}{R:Array Oper→Prop}(h:ops=E)(hR:R E)(hf:ops.size=N)
  (H:R ops→QP C D r P .any ops Q N (msk N 0) a w):QP C D r P .any ops Q ops.size (Array.replicate ops.size false) a w:=by
 rw [hf,QhY];exact H (h▸hR)
end
section
variable {P:Program} {ops:Array Oper} {C D:Nat→Prop} {r:Nat}
theorem tW(m':Nat)(v:Value)(hs:Region.noSelect ops=true)(ht:Qo ops N (k::rest) m=true)(hi:ops[k]?=some oi)(hy: ∀w',Mv D w w'→(execOp a.eval oi).run P w'= .ok (.value v) w')
  (H:Qo ops N rest m'=true→QP C D r P .any ops Q fuel (msk N m') (a.put oi.dst v) w)(hm:m|||(1<<<k)=m':=by rfl)(hw:Region.wanted oi (yielded ops a.tmps)=true:=by kernel_rfl):QP C D r P .any ops Q (fuel+1) (msk N m) a w:=QoZ hs ht hm hi hw hy H
theorem tWk(m':Nat)(v:Value)(hs:Region.noSelect ops=true)(ht:Qo ops N (k::rest) m=true)(hi:ops[k]?=some oi)
  (H:Qo ops N rest m'=true→QP C D r P .any ops Q fuel (msk N m') (a.put oi.dst v) w)(hm:m|||(1<<<k)=m':=by rfl)(hw:Region.wanted oi (yielded ops a.tmps)=true:=by kernel_rfl)(hy: ∀w',Mv D w w'→(execOp a.eval oi).run P w'= .ok (.value v) w':=by(intro _ _;kernel_rfl)):QP C D r P .any ops Q (fuel+1) (msk N m) a w:=QoZ hs ht hm hi hw hy H
theorem tVU(m':Nat)(hs:Region.noSelect ops=true)(ht:Qo ops N (k::rest) m=true)(hi:ops[k]?=some oi)
  (H:Qo ops N rest m'=true→QP C D r P .any ops Q fuel (msk N m') (a.put oi.dst undef) w)(hm:m|||(1<<<k)=m':=by rfl)(hw:Region.wanted oi (yielded ops a.tmps)=false:=by kernel_rfl):QP C D r P .any ops Q (fuel+1) (msk N m) a w:=Qvo hs ht hm hi hw H
theorem sV{f:FuncId}{args:Array Value}(m':Nat)(R:Value→World→Prop)(hr:Region.ready .any ops (msk N m)= [k])(hi:ops[k]?=some oi)(hc:Calls P f args w fun e w'=> ∃v,e= .returned v∧R v w'∧Ext w w')
  (H: ∀v w',Ext w w'→R v w'→QP C D r P .any ops Q fuel (msk N m') (a.put oi.dst v) w')(hm:m|||(1<<<k)=m':=by rfl)(hw:Region.wanted oi (yielded ops a.tmps)=true:=by kernel_rfl)(he:(execOp a.eval oi).run P w= .ok (.enter f args) w:=by kernel_rfl):QP C D r P .any ops Q (fuel+1) (msk N m) a w:=Qr hr (QlH hm hi hw he hc H)
end
@[go_sem] theorem QzR:Fits o m #[a0,a1,a2,a3,a4]=(o+m≤5):=by unfold Fits;rfl
@[go_sem] theorem QwU:Qn #[a0,a1,a2,a3,a4] 5=True:=by unfold Qn;exact eq_true rfl
@[go_sem] theorem QzS:QK #[a0,a1,a2,a3,a4]=(a0.oneCell'=true∧a1.oneCell'=true∧a2.oneCell'=true∧a3.oneCell'=true∧a4.oneCell'=true):=by
 unfold QK;simp [and_assoc]
@[go_sem ↓ high] theorem Qx5:(Value.agg #[a0,a1,a2,a3,a4]).cells=#[a0,a1,a2,a3,a4]:=QF _
@[go_sem] theorem QzT:QB #[a0,a1,a2,a3,a4] 0 5=#[a0,a1,a2,a3,a4]:=rfl
theorem QgR:(Tryz.prog.info? 142).map (·.size)=some 5:=Kr
theorem QmT{b:Nat}(h:o+5≤(Qc w b).size):(Instr.loadAt 142 (.pointer (some ⟨b,o,none⟩))).run Tryz.prog w= .ok (.agg ((Qc w b).extract o (o+5))) w:=by
 have:=run_loadAt_mid w b o 142 ((Qc w b).extract o (o+5)).toList _ (QC w b o (o+5)) Tryz.underlying142 rfl (by rw [QgR];simp;omega)
 rwa [Array.toArray_toList]at this
theorem QjE{b:Nat}(h:o+5≤(Qc w b).size):(loadVar 142 ⟨b,o,none⟩).run Tryz.prog w= .ok (.agg ((Qc w b).extract o (o+5))) w:=by
 have:=run_loadVar_mid w b o 142 ((Qc w b).extract o (o+5)).toList _ (QC w b o (o+5)) Tryz.underlying142 rfl (by rw [QgR];simp;omega)
 rwa [Array.toArray_toList]at this
@[go_sem ↓ high] theorem QgS(ρ:Operand→Value)(dst:Option Tmp)(x:Operand)(ty:TypeId)(pos:String)(after:Array Edge)(g:Option (Nat×Bool))(w:World)
  (hx:ρ x= .pointer (some ⟨Qb (ρ x),Qd (ρ x),none⟩))(h:Fits (Qd (ρ x)) 5 (Qc w (Qb (ρ x)))):
  (execOp ρ ⟨dst,.load 142 x,ty,pos,after,g⟩).run Tryz.prog w= .ok (.value (.agg (QB (Qc w (Qb (ρ x))) (Qd (ρ x)) 5))) w:=by
 unfold Fits at h;generalize hB:Qb (ρ x)=B at*;generalize hO:Qd (ρ x)=O at*;simp only [execOp,hx,Sem.run_bind,QmT h,Result.andThen_ok,Sem.run_pure,QB]
@[go_sem ↓ high] theorem Qug{l:Option Nat}(w:World)
  (hx:ρ x= .pointer (some ⟨Qb (ρ x),Qd (ρ x),none⟩))(h:Fits (Qd (ρ x)) 5 (Qc w (Qb (ρ x)))):
  (Oper.semAt l ρ ⟨dst,.load 142 x,ty,pos,after,g⟩).run Tryz.prog w= .ok (.value (.agg (QB (Qc w (Qb (ρ x))) (Qd (ρ x)) 5))) w:=by rw [Oper.semAt_eq _ _ _ (fun c h=>by cases h)];exact QgS ρ dst x ty pos after g w hx h
@[go_sem ↓ high] theorem Qfn(ρ:Operand→Value)(dst:Option Tmp)(x y:Operand)(ty:TypeId)(pos:String)(after:Array Edge)(g:Option (Nat×Bool))(w:World)
  (hx:ρ x= .pointer (some ⟨Qb (ρ x),Qd (ρ x),none⟩))(hy:ρ y= .agg (ρ y).cells)(hs:Qn (ρ y).cells 5)(h:Fits (Qd (ρ x)) 5 (Qc w (Qb (ρ x))))(hz:Qs w (Qb (ρ x))=(0,0))(h1:QK (ρ y).cells):
  (execOp ρ ⟨dst,.store 142 x y,ty,pos,after,g⟩).run Tryz.prog w= .ok .skip (Qe w (Qb (ρ x)) (Qd (ρ x)) (ρ y).cells):=by
 unfold Fits at h;unfold Qn at hs;generalize hB:Qb (ρ x)=B at*;generalize hO:Qd (ρ x)=O at*;generalize hC:(ρ y).cells=C at*;have hst:(Instr.storeAt 142 (.pointer (some ⟨B,O,none⟩)) (.agg C)).run Tryz.prog w= .ok () (Qe w B O C):=
  run_storeAt_mid w B O 142 C (fun j hj=>⟨by rw [Qa,Array.getElem?_eq_getElem Om];rfl,Ql hz _⟩) (by rw [QgR,hs]) h1
 simp only [execOp,hx,hy,Sem.run_bind,hst,Result.andThen_ok,Sem.run_pure]
@[go_sem ↓ high] theorem Qsl{l:Option Nat}(w:World)
  (hx:ρ x= .pointer (some ⟨Qb (ρ x),Qd (ρ x),none⟩))(hy:ρ y= .agg (ρ y).cells)(hs:Qn (ρ y).cells 5)(h:Fits (Qd (ρ x)) 5 (Qc w (Qb (ρ x))))(hz:Qs w (Qb (ρ x))=(0,0))(h1:QK (ρ y).cells):
  (Oper.semAt l ρ ⟨dst,.store 142 x y,ty,pos,after,g⟩).run Tryz.prog w= .ok .skip (Qe w (Qb (ρ x)) (Qd (ρ x)) (ρ y).cells):=by rw [Oper.semAt_eq _ _ _ (fun c h=>by cases h)];exact Qfn ρ dst x y ty pos after g w hx hy hs h hz h1
theorem QeE{tmps:Array Value}{g:Nat}(hp:tmps.getD 6 undef= .pointer (some ⟨g,0,none⟩))(hr:Qc w g=cs)(hc:cs.size=5):
  (results Tryz.f101 tmps).run Tryz.prog w= .ok (.tuple #[.agg cs,tmps.getD 7 undef]) w:=
 QL rfl tmps w g hp (by
  rw [QjE (by rw [hr,hc];omega),hr]
  rw [show cs.extract 0 (0+5)=cs by rw [Nat.zero_add,←hc];simp])
def Qo0(ops:Array Oper):Prop:=Region.noSelect ops=true∧Qo ops 21 [0,2,3,5,6,7,8,9,10,11] 0=true∧Rd ops 21 4077 [1]∧Qo ops 21 [13] 4079=true∧Rd ops 21 12271 [4]∧Rd ops 21 12287 [12]∧Rd ops 21 16383 [14]∧Qo ops 21 [15] 32767=true∧Rd ops 21 65535 [16]∧Qo ops 21 [17] 131071=true∧Rd ops 21 262143 [18]∧Qo ops 21 [19] 524287=true∧Rd ops 21 1048575 [20]∧Rd ops 21 2097151 []∧lateB .any ops 14 10=true
theorem QjF:Qo0 ((Tryz.f101.body.bind (Qh 7)).getD #[]):=⟨Kr,Kr,Rk,Kr,Rk,Rk,Rk,Kr,Rk,Kr,Rk,Kr,Rk,Rk,Kr⟩
theorem QaY{v:Int}(h0:w.cell? ⟨B,i,none⟩=some (.int .i64 v))(hl:Lt B w)(hC: ¬C B)
  (hx:ρ q= .pointer (some ⟨B,i,none⟩)): ∀w',Mv C w w'→(execOp ρ ⟨dst,.load 3 q,ty,pos,after,g⟩).run Tryz.prog w'= .ok (.value (.int .i64 v)) w':=by
 intro w' hE;have h1:w'.cell? ⟨B,i,none⟩=some (.int .i64 v):=by rw [Qa,Qf (hE.same B hl hC),←Qa];exact h0
 simp only [execOp,hx];go_simp
structure Tc where
 sp:Int
 dp:Int
 fl:Int
 hd:Int
 da:List Int
def tcV(t:Tc)(v:Value):Array Value:=#[.int .u16 t.sp,.int .u16 t.dp,.int .u8 t.fl,.int .i64 t.hd,v]
abbrev Qo1:Array Value:=#[.int .u16 0,.int .u16 0,.int .u8 0,.int .i64 0,.slice none 0 0]
def tcN(bs:List Int):Nat:=(bt bs 12).toNat/16*4
def Yn(src dst:Int)(bs:List Int):Int:=
 if bs.length<20 then 8 else if tcN bs<20∨bs.length<tcN bs then 8 else if Qb4 (Z4 src dst bs.length++bs)≠65535 then 9 else 0
def tcT(bs:List Int):Tc:=⟨w16 bs 0,w16 bs 2,bt bs 13,tcN bs,bs.drop (tcN bs)⟩
inductive QlI(src dst:Int)(bs:List Int)(w:World):Ending→World→Prop
 |no {w':World} (h:Yn src dst bs≠0) (e:Ext w w'):QlI src dst bs w (.returned (.tuple #[.agg Qo1,.int .u8 (Yn src dst bs)])) w'
 |yes {w':World} {v:Value} (h:Yn src dst bs=0) (e:Ext w w') (ho:OB w' w.heap.size v (tcT bs).da):QlI src dst bs w (.returned (.tuple #[.agg (tcV (tcT bs) v),.int .u8 0])) w'
theorem QeF{w1:World}{v:Value}(h:Z8 w w1 v bs)(hr:ByR bs)(hl:bs.length≤2000):Cr 174 #[v] w1 (.bool (Qb4 bs==65535)):=by
 obtain⟨p,c,rfl,hc,hs⟩:=h.sl;exact QjB bs p c w1 hs hr Om hc
theorem Qid(src dst:Int)(p:Option Addr)(bs:List Int)(c:Nat)(w:World)(hs:SlB w p bs)(hr:ByR bs)(hl:bs.length≤1000)(hlc:bs.length≤c):
  Calls Tryz.prog 101 #[.int .u32 src,.int .u32 dst,.slice p bs.length c] w fun e w'=>QlI src dst bs w e w':=by
 have HS:=Xh hs;have HR:=Xh hr;clear hs hr
 go_enter Tryz.func101,Tryz.ntmps101
 go_upto_region 1 with(fail)
 obtain⟨W0,hW⟩: ∃W0,w.alloc (.cells #[.int .u16 0,.int .u16 0,.int .u8 0,.int .i64 0,.slice none 0 0] 142)=W0:=⟨_,rfl⟩;have E:Ext w W0:=by rw [←hW];exact Ea
 have hR:Qc W0 w.heap.size=Qo1:=by rw [←hW];exact Zn _ _ _ _
 have hZ:Qs W0 w.heap.size=(0,0):=by rw [←hW];simp [go_sem]
 have hL:Lt w.heap.size W0:=by rw [←hW];simp [go_sem]
 rw [hW];clear hW
 go_wp2_with (fail)
 refine Qp 0 rfl ?_;rcases Nat.lt_or_ge bs.length 20 with h20|h20
 ·have h20':(bs.length:Int)<20:=by omega
  have HW:=Xh (show Yn src dst bs=8 by unfold Yn;rw [if_pos h20])
  go_wp2_with (fail)
  go_step3;refine⟨rfl,?_⟩;go_wp2;rw [Exit.noGoto_ret];exact bodyPost_ret (QeE rfl (Qq _ _ _ (by rw [hR];try rfl)) rfl) rfl (by rw [←HW.out];exact .no (by rw [HW.out];omega) (Ext.sa _ (Nat.le_refl _) E))
 have h20': ¬(bs.length:Int)<20:=by omega
 have hbig: ¬(65535:Int)<bs.length:=by omega
 have HS0:=Xh (HS.out.ext E);obtain⟨b,off,rfl,hbl,-⟩:=HS.out 0 Om;obtain⟨x,hx⟩: ∃x,bt bs 12=x:=⟨_,rfl⟩;have c12:=(HS0.out.bt 12 Om).1;have lb:=(HS0.out.bt 12 Om).2;rw [hx]at c12;have b12:=QaI HR.out 12;rw [hx]at b12;have z12:(12:Int)<bs.length:=by omega
 have hN:x/16*4=((tcN bs:Nat):Int):=by unfold tcN;rw [hx];omega
 have hN64:tcN bs≤60:=by unfold tcN;omega
 obtain⟨N,hNN⟩: ∃N,tcN bs=N:=⟨_,rfl⟩;rw [hNN]at hN hN64;have HNN:=Xh hNN;have HX:=Xh hx;clear hx hNN;have rz0:RowZ W0 w.heap.size Qo1:=⟨hR,hZ,hL⟩;have c3:=rz0.cell 3 (by show 3<5;omega);have f3:=rz0.frz 3
 go_upto_region 4 with(fail)
 obtain⟨W1,hW⟩: ∃W1,W0.setCell ⟨w.heap.size,3,none⟩ (.int .i64 (N:Nat))=W1:=⟨_,rfl⟩;have rz:RowZ W1 w.heap.size #[.int .u16 0,.int .u16 0,.int .u8 0,.int .i64 (N:Nat),.slice none 0 0]:=by rw [←hW];exact rz0.set 3 _
 have gS:Mv (fun k=>k=w.heap.size) W0 W1:=by rw [←hW];exact Mv.st _ (.inl rfl) (Mv.refl _ _)
 have E:=Mv.ext_of E gS (fun k e=>by rw [e];exact Nat.le_refl _);have s:=HS.out.ext E;rw [hW];clear hW rz0 c3 f3 hR hZ hL c12 lb gS HS0 z12 hN;have hR:=rz.r;have hZ:=rz.z;have hL:=rz.l;have c3:=rz.cell 3 (by show 3<5;omega)
 by_cases t3:N<20
 ·have t3':(N:Int)<20:=by omega
  have HW:=Xh (show Yn src dst bs=8 by unfold Yn;rw [if_neg Om,HNN.out,if_pos (.inl t3)])
  go_wp2_with (fail)
  go_step3;refine⟨rfl,?_⟩;go_wp2;rw [Exit.noGoto_ret];exact bodyPost_ret (QeE rfl (Qq _ _ _ (by rw [hR];try rfl)) rfl) rfl (by rw [←HW.out];exact .no (by rw [HW.out];omega) (Ext.sa _ (Nat.le_refl _) E))
 have t3': ¬(N:Int)<20:=by omega
 by_cases t4:bs.length<N
 ·have t4':(bs.length:Int)<N:=by omega
  have HW:=Xh (show Yn src dst bs=8 by unfold Yn;rw [if_neg Om,HNN.out,if_pos (.inr t4)])
  go_wp2_with (fail)
  go_step3;refine⟨rfl,?_⟩;go_wp2;rw [Exit.noGoto_ret];exact bodyPost_ret (QeE rfl (Qq _ _ _ (by rw [hR];try rfl)) rfl) rfl (by rw [←HW.out];exact .no (by rw [HW.out];omega) (Ext.sa _ (Nat.le_refl _) E))
 have t4': ¬(bs.length:Int)<N:=by omega
 have U3:=Xh (show ¬(tcN bs<20∨bs.length<tcN bs)by rw [HNN.out];omega);have HWH:=Xh (QmQ src dst (some ⟨b,off,none⟩) bs c W1 s hl);have HPR:=Xh (ByR.app (QfW src dst bs.length) HR.out);have HPL:=Xh (show(Z4 src dst bs.length++bs).length≤2000 by rw [List.length_append,Jd];omega);obtain⟨ws,hws⟩: ∃ws,Z4 src dst bs.length++bs=ws:=⟨_,rfl⟩;rw [hws]at HWH HPR HPL;have HWS:=Xh hws;have HE:=Xh E;have HRZ:=Xh rz;have HSS:=Xh s;clear hws hR hZ hL s E
 cases t5:(Qb4 ws==65535)
 ·have HW:=Xh (show Yn src dst bs=9 by unfold Yn;rw [if_neg Om,if_neg U3.out,HWS.out,if_pos (by simpa using t5)])
  go_wp2_with (first|(go_at_call 175;(with_reducible refine(HWH.out).mono ?_);rintro e WD ⟨vw,rfl,h3⟩;have HRI:=Xh (QeF h3 HPR.out HPL.out);have HE3:=Xh h3.ext;clear h3)|(go_at_call 174;(with_reducible refine(HRI.out).mono ?_);rw [t5];rintro e WC ⟨rfl,gC⟩;have rz:=HRZ.out.ext (HE3.out.tr gC);have E:=HE.out.tr (HE3.out.tr gC);have s:=HSS.out.ext (HE3.out.tr gC);have hR:=rz.r;have hZ:=rz.z;have hL:=rz.l))
  go_step3;refine⟨rfl,?_⟩;go_wp2;rw [Exit.noGoto_ret];exact bodyPost_ret (QeE rfl (Qq _ _ _ (by rw [hR];try rfl)) rfl) rfl (by rw [←HW.out];exact .no (by rw [HW.out];omega) (Ext.sa _ (Nat.le_refl _) E))
 have HW:=Xh (show Yn src dst bs=0 by unfold Yn;rw [if_neg Om,if_neg U3.out,HWS.out,if_neg (by simpa using t5)])
 go_upto_region 7 with(first|(go_at_call 175;(with_reducible refine(HWH.out).mono ?_);rintro e WD ⟨vw,rfl,h3⟩;have HRI:=Xh (QeF h3 HPR.out HPL.out);have HE3:=Xh h3.ext;clear h3)|(go_at_call 174;(with_reducible refine(HRI.out).mono ?_);rw [t5];rintro e WC ⟨rfl,gC⟩;have rz:=HRZ.out.ext (HE3.out.tr gC);have E:=HE.out.tr (HE3.out.tr gC);have s:=HSS.out.ext (HE3.out.tr gC);have hR:=rz.r;have hZ:=rz.z;have hL:=rz.l))
 have hC: ¬(fun k=>w.heap.size≤k) b:=Nat.not_le_of_lt hbl;have HRR:=HR.out;have HHL:=Xh HE3;clear hR hZ hL gC t5 HWH HPR HPL HE HRZ HSS HHL c3;refine Qy (fun _=>False) (fun k=>w.heap.size≤k) 14 Kr ?_;obtain⟨WE,hW⟩: ∃Wdr,World.drew WC=Wdr:=⟨_,rfl⟩;have gD:Ext WC WE:=by rw [←hW];exact Ext.dr (Ext.rf _)
 rw [hW];clear hW;have E:=E.tr gD;have s:=s.ext gD;have rz:=rz.ext gD;refine Zi (N:=21) (R:=Qo0) (E:=((Tryz.f101.body.bind (Qh 7)).getD #[])) Kr QjF Kr fun hS=> ?_;have hT:=hS.2.1;refine tWk 1 (.slice (some ⟨b,off,none⟩) bs.length c) hS.1 hT rfl fun hT=>tWk 5 (.slice (some ⟨b,off,none⟩) bs.length c) hS.1 hT rfl fun hT=>tW 13 (.slice (some ⟨b,off+2,none⟩) (bs.length- 2) (c- 2)) hS.1 hT rfl (fun w' _=>JM (m:=bs.length) (c:=c) 2 Om Om Kr Kr w') fun hT=>tWk 45 (.slice (some ⟨b,off,none⟩) bs.length c) hS.1 hT rfl fun hT=>tW 109 (.pointer (some ⟨b,off+13,none⟩)) hS.1 hT rfl (fun w' _=>Zh (m:=bs.length) (c:=c) 13 Om Kr Kr w') fun hT=>tW 237 (.int .u8 (bt bs 13)) hS.1 hT rfl (QlB s 13 Om hC Kr) fun hT=>tWk 493 (.slice (some ⟨b,off,none⟩) bs.length c) hS.1 hT rfl fun hT=>tWk 1005 (.pointer (some ⟨w.heap.size,3,none⟩)) hS.1 hT rfl fun hT=> ?_;refine ZD (N:=21) (k:=10) (m':=2029) (v:= .int .i64 (N:Nat)) hS.1 hT hS.2.2.2.2.2.2.2.2.2.2.2.2.2.2 rfl rfl Kr (QaY (rz.cell 3 (by show 3<5;omega)) rz.l (fun h=>h) Kr) fun hT=>tW 4077 (.slice (ZF b off c N) (bs.length- N) (c- N)) hS.1 hT rfl (fun w' _=>QaV (lo:=N) (m:=bs.length) Om Om Kr Kr w') fun hT=> ?_;refine sV 4079 (fun v _=>v= .int .u16 (w16 bs 0)) hS.2.2.1 rfl (ZC (QlA s HRR 0 (bs.length- 0) (c- 0) Om Om)) ?_;rintro _ WF1 gWF1 rfl;have E:=E.tr gWF1;have s:=s.ext gWF1;have rz:=rz.ext gWF1;have hT:=hS.2.2.2.1;refine tWk 12271 (.pointer (some ⟨w.heap.size,0,none⟩)) hS.1 hT rfl fun hT=> ?_;refine sV 12287 (fun v _=>v= .int .u16 (w16 bs 2)) hS.2.2.2.2.1 rfl (ZC (QlA s HRR 2 (bs.length- 2) (c- 2) Om Om)) ?_;rintro _ WF2 gWF2 rfl;have E:=E.tr gWF2;have s:=s.ext gWF2;have rz:=rz.ext gWF2;refine sV 16383 (fun v w'=>OBn w' w.heap.size v (bs.drop N)) hS.2.2.2.2.2.1 rfl (QgL (p:=ZF b off c N) (n:=bs.length- N) (c:=c- N) (lo:=w.heap.size) (s.cut N Om) (by rw [List.length_drop];omega) (by rw [List.length_drop]) rz.l) ?_;rintro vp WF3 gWF3 o2;have E:=E.tr gWF3;have s:=s.ext gWF3;have rz:=rz.ext gWF3;refine Qr hS.2.2.2.2.2.2.1 (QE (m':=32767) rfl rfl Kr (Qh7 (v:=w16 bs 0) (rz.cell 0 (by show 0<5;omega)) (rz.frz 0) Kr Kr) ⟨.inl Dc,(Mv.st _ (.inl (Nat.le_refl _)) (Mv.refl _ _))⟩ ?_);obtain⟨WF4,hWF4⟩: ∃WF4,World.setCell WF3 ⟨w.heap.size,0,none⟩ (.int .u16 (w16 bs 0))=WF4:=⟨_,rfl⟩;have gS:Mv (fun k=>k=w.heap.size) WF3 WF4:=by rw [←hWF4];exact Mv.st _ (.inl rfl) (Mv.refl _ _)
 have E:=Mv.ext_of E gS (fun k e=>by rw [e];exact Nat.le_refl _);have o2:=o2.mv gS (fun k e=>by omega);have rz:RowZ WF4 w.heap.size #[.int .u16 (w16 bs 0),.int .u16 (0),.int .u8 (0),.int .i64 (N:Nat),.slice none 0 0]:=by rw [←hWF4];exact rz.set 0 _
 rw [hWF4];clear hWF4;have hT:=hS.2.2.2.2.2.2.2.1;refine tWk 65535 (.pointer (some ⟨w.heap.size,1,none⟩)) hS.1 hT rfl fun hT=> ?_;refine Qr hS.2.2.2.2.2.2.2.2.1 (QE (m':=131071) rfl rfl Kr (Qh7 (v:=w16 bs 2) (rz.cell 1 (by show 1<5;omega)) (rz.frz 1) Kr Kr) ⟨.inl Dc,(Mv.st _ (.inl (Nat.le_refl _)) (Mv.refl _ _))⟩ ?_);obtain⟨WF5,hWF5⟩: ∃WF5,World.setCell WF4 ⟨w.heap.size,1,none⟩ (.int .u16 (w16 bs 2))=WF5:=⟨_,rfl⟩;have gS:Mv (fun k=>k=w.heap.size) WF4 WF5:=by rw [←hWF5];exact Mv.st _ (.inl rfl) (Mv.refl _ _)
 have E:=Mv.ext_of E gS (fun k e=>by rw [e];exact Nat.le_refl _);have o2:=o2.mv gS (fun k e=>by omega);have rz:RowZ WF5 w.heap.size #[.int .u16 (w16 bs 0),.int .u16 (w16 bs 2),.int .u8 (0),.int .i64 (N:Nat),.slice none 0 0]:=by rw [←hWF5];exact rz.set 1 _
 rw [hWF5];clear hWF5;have hT:=hS.2.2.2.2.2.2.2.2.2.1;refine tWk 262143 (.pointer (some ⟨w.heap.size,2,none⟩)) hS.1 hT rfl fun hT=> ?_;refine Qr hS.2.2.2.2.2.2.2.2.2.2.1 (QE (m':=524287) rfl rfl Kr (QgM (v:=bt bs 13) (rz.cell 2 (by show 2<5;omega)) (rz.frz 2) Kr Kr) ⟨.inl Dc,(Mv.st _ (.inl (Nat.le_refl _)) (Mv.refl _ _))⟩ ?_);obtain⟨WF6,hWF6⟩: ∃WF6,World.setCell WF5 ⟨w.heap.size,2,none⟩ (.int .u8 (bt bs 13))=WF6:=⟨_,rfl⟩;have gS:Mv (fun k=>k=w.heap.size) WF5 WF6:=by rw [←hWF6];exact Mv.st _ (.inl rfl) (Mv.refl _ _)
 have E:=Mv.ext_of E gS (fun k e=>by rw [e];exact Nat.le_refl _);have o2:=o2.mv gS (fun k e=>by omega);have rz:RowZ WF6 w.heap.size #[.int .u16 (w16 bs 0),.int .u16 (w16 bs 2),.int .u8 (bt bs 13),.int .i64 (N:Nat),.slice none 0 0]:=by rw [←hWF6];exact rz.set 2 _
 rw [hWF6];clear hWF6;have hT:=hS.2.2.2.2.2.2.2.2.2.2.2.1;refine tWk 1048575 (.pointer (some ⟨w.heap.size,4,none⟩)) hS.1 hT rfl fun hT=> ?_;refine Qr hS.2.2.2.2.2.2.2.2.2.2.2.2.1 (QE (m':=2097151) rfl rfl Kr (QeA (v:=vp) (rz.cell 4 (by show 4<5;omega)) (rz.frz 4) o2.slice Kr Kr) ⟨.inl Dc,(Mv.st _ (.inl (Nat.le_refl _)) (Mv.refl _ _))⟩ ?_);obtain⟨WF7,hWF7⟩: ∃WF7,World.setCell WF6 ⟨w.heap.size,4,none⟩ (vp)=WF7:=⟨_,rfl⟩;have gS:Mv (fun k=>k=w.heap.size) WF6 WF7:=by rw [←hWF7];exact Mv.st _ (.inl rfl) (Mv.refl _ _)
 have E:=Mv.ext_of E gS (fun k e=>by rw [e];exact Nat.le_refl _);have o2:=o2.mv gS (fun k e=>by omega);have rz:RowZ WF7 w.heap.size #[.int .u16 (w16 bs 0),.int .u16 (w16 bs 2),.int .u8 (bt bs 13),.int .i64 (N:Nat),vp]:=by rw [←hWF7];exact rz.set 4 _
 rw [hWF7];clear hWF7;refine QZ hS.2.2.2.2.2.2.2.2.2.2.2.2.2.1 ?_;clear hS hT;go_simp;have hR:=rz.r;have hZ:=rz.z;have v1:vp.oneCell'=true:=by obtain⟨_,_,_,h⟩:=o2.slice;rw [h];rfl
 have HE:=Xh E;have HO:=Xh o2;clear E o2 gD;go_wp2;simp only [Exit.jump];have gS:Mv (fun k=>k=w.heap.size) WF7 (Qe WF7 w.heap.size 0 #[.int .u16 (w16 bs 0),.int .u16 (w16 bs 2),.int .u8 (bt bs 13),.int .i64 (N:Nat),vp]):=Mv.sa _ rfl (Mv.refl _ _);refine bodyPost_ret (QeE rfl (Qq _ _ _ (by rw [hR];try rfl)) rfl) rfl ?_;have h2:=HO.out.mv gS (fun k e=>by omega);have h3:=QlI.yes (src:=src) (dst:=dst) (bs:=bs) (v:=vp) HW.out (Mv.ext_of HE.out gS (fun k e=>by rw [e];exact Nat.le_refl _)) (by unfold tcT;rw [HNN.out];exact h2.ob);unfold tcT at h3;rw [HNN.out]at h3;exact h3
def QlJ{α:Type}(F:Fence)(n:Nat)(P:Program)(g:Nat)(lb:Array Value)(encs:α→Array Value)(T U:Nat→Prop)(S:World→Prop)(xs:List α)(w:World):Prop:=
 ∀(l:Nat) (J:Nat→World→Prop) (Jx:World→Prop) (W:World),Ext w W→w.heap.size+2≤W.heap.size→
  (∀i A B,J i A→Mv T A B→J i B)→(∀A B,Jx A→Mv T A B→Jx B)→
  (∃(fn:FuncId) (tm:Array Value→Array Value) (assign body:Code),∀i x W1,J i W1→xs[i]?=some x→
   (Instr.yield l (encs x)).run P W1= .ok (.round l fn (tm (encs x)) assign body) W1∧
   RoundIn F (n- 1) P l fn (tm (encs x)) assign body W1 fun e W'=> ∃b:Bool,e= .returned (.bool b)∧((b=true∧J (i+1) W'∧Mv (fun k=>U k∨k=w.heap.size∨k=w.heap.size+1) W1 W')∨(b=false∧Jx W')))→
  J 0 W→
  CallsIn F n P g (#[.func (.yield l) #[] #[]]++lb) W fun e W'=>(∃v,e= .returned v)∧((J xs.length W'∧S W')∨Jx W')
def Qx6(U:Nat→Prop)(I:Nat→World→Prop)(Ix:Code→World→Prop)(i:Nat)(W:World):Exit→Act→World→Prop
 | .normal,_,W'=>Mv U W W'∧I (i+1) W'
 | .ret,_,W'=>Mv U W W'∧Ix .ret W'
 | .exit id,_,W'=>Mv U W W'∧Ix (.exit id) W'
 | .goto t,_,W'=>Mv U W W'∧Ix (.goto t) W'
 | .panic _,_,_=>False
 | .outgrown,_,_=>False
theorem QaZ{α:Type}{F:Fence}{n:Nat}{P:Program}{g:Operand}{ps:Array Tmp}{assign body:Code}{Q:Exit→Act→World→Prop}
  (hro:F.round=none)(h1:1≤n){gf:Nat}{lb:Array Value}(hg:a.eval g= .func (.func gf) #[] lb)(hFg:F.fn gf)(eg: ∀args w,(callFunc gf args).run P w= .ok (.enter gf args) w)
  {encs:α→Array Value}{T U:Nat→Prop}{S:World→Prop}{xs:List α}(hseq:QlJ F (n- 1) P gf lb encs T U S xs w)(hSs: ∀A B,S A→Mv (fun k=>k=w.heap.size+1) A B→S B)
  (hT: ∀k,T k→k<w.heap.size)(hU: ∀k,U k→k<w.heap.size)(hps: ∀x,(encs x).size=ps.size)
  (I:Nat→World→Prop)(Ix:Code→World→Prop)(hI: ∀i A B,I i A→Mv (fun k=>T k∨k=w.heap.size∨k=w.heap.size+1) A B→I i B)
  (hIx: ∀c A B,Ix c A→Mv (fun k=>T k∨k=w.heap.size∨k=w.heap.size+1) A B→Ix c B)(h0:I 0 w)
  (Ax:α→Act→World→Prop)(hAx: ∀x a' A B,Ax x a' A→Mv (fun k=>k=w.heap.size+1) A B→Ax x a' B)
  (hassign: ∀(l i:Nat) (x:α) (W:World) (K:Act→World→Prop),w.heap.size+2≤W.heap.size→Mv (fun k=>T k∨U k) w W→I i W→xs[i]?=some x→
   (∀a' W',Mv U W W'→I i W'→Ax x a' W'→K a' W')→
   assign.wpIn (F.inRound l) (n- 1- 1) P (Exit.then K (fun _ _ _=>False)) {tmps:=(ps.zip (encs x)).foldl (fun t (p,v)=>t.setIfInBounds p v) a.tmps,defers:= []} W)
  (hbody: ∀(l i:Nat) (x:α) (a':Act) (W:World),w.heap.size≤l→(∃r,W.heap[l]?=some (.loop r))→w.heap.size+2≤W.heap.size→Mv (fun k=>T k∨U k) w W→I i W→xs[i]?=some x→Ax x a' W→
   body.wpIn (F.inRound l) (n- 1- 1) P (Qx6 U I Ix i W) a' W)
  (hdone: ∀(W:World),S W→I xs.length W→Mv (fun k=>T k∨U k) w W→W.heap[w.heap.size]?=some (.deferred (some []))→Q .normal {a with defers:={target:= .collected w.heap.size,args:=#[]}::a.defers} W)
  (hstop: ∀(c:Code) (W:World),Ix c W→Mv (fun k=>T k∨U k) w W→W.heap[w.heap.size]?=some (.deferred (some []))→c.wpIn F n P Q {a with defers:={target:= .collected w.heap.size,args:=#[]}::a.defers} W):
  (Code.rangeFunc g ps assign body).wpIn F n P Q a w:=by
 refine wpIn_rangeFunc ?_;intro fn hfn;rw [hro];obtain⟨rec,hrec⟩: ∃rec:LoopState→Option Code→Loop,rec=fun st pe=>{state:=st,pending:=pe,fn,tmps:=a.tmps,params:=ps,assign,body,defers:=w.heap.size}:=⟨_,rfl⟩;obtain⟨W1,hW1⟩: ∃W1,(w.alloc (.deferred (some []))).alloc (.loop (rec .ready none))=W1:=⟨_,rfl⟩;have hL1:W1.heap[w.heap.size+1]?=some (.loop (rec .ready none)):=by
  rw [←hW1];have:=World.alloc_heap_new (w.alloc (.deferred (some []))) (.loop (rec .ready none));rwa [World.size_alloc]at this
 have hK1:W1.heap[w.heap.size]?=some (.deferred (some [])):=by
  rw [←hW1];exact(Below.heap_alloc _ _ _ (by simp)).trans (World.alloc_heap_new w _)
 have hb1:Ext w W1:=by rw [←hW1];exact Ext.al Ea _
 have hI1:I 0 W1:=hI 0 _ _ h0 (Mv.of_ext hb1)
 refine⟨w.heap.size+1,[{target:= .collected w.heap.size,args:=#[]}],W1,{target:= .fn (.func gf) lb,args:=#[.func (.yield (w.heap.size+1)) #[] #[]]},W1,gf,
  #[.func (.yield (w.heap.size+1)) #[] #[]]++lb,W1,?_,?_,?_,?_,fun _=>h1,?_⟩
 ·rw [←hW1,hrec];exact run_enterLoop_outer _ _ _ _ _
 ·simp only [resolve,hg];simp [go_sem]
 ·intro f' hf';simp [Target.leads]at hf';subst hf';exact hFg
 ·simp [invoke,go_sem,eg]
 ·have hsame: ∀{k:Nat} {A B:World} {o:Obj},w.heap.size≤k→A.heap[k]?=some o→Mv T A B→B.heap[k]?=some o:=fun hk ha hm=>
   (hm.same _ (Array.getElem?_eq_some_iff.1 ha).1 (fun ht=>by have:=hT _ ht;omega)).trans ha
  refine(hseq (w.heap.size+1)
   (fun i W=>I i W∧Mv (fun k=>T k∨U k) w W∧W.heap[w.heap.size+1]?=some (.loop (rec .ready none))∧W.heap[w.heap.size]?=some (.deferred (some [])))
   (fun W=> ∃c,Ix c W∧Mv (fun k=>T k∨U k) w W∧W.heap[w.heap.size+1]?=some (.loop (rec .done (some c)))∧W.heap[w.heap.size]?=some (.deferred (some [])))
   W1 hb1 (by rw [←hW1];simp)
   (fun i A B hs hm=>⟨hI i A B hs.1 (hm.mono fun _ _ h=> .inl h),hs.2.1.trans (hm.mono fun _ _ h=> .inl h),hsame Om hs.2.2.1 hm,hsame (Nat.le_refl _) hs.2.2.2 hm⟩)
   (fun A B hs hm=>by
    obtain⟨c,hc,hv,hl,hk⟩:=hs
    exact⟨c,hIx c A B hc (hm.mono fun _ _ h=> .inl h),hv.trans (hm.mono fun _ _ h=> .inl h),hsame Om hl hm,hsame (Nat.le_refl _) hk hm⟩)
   ?_ ⟨hI1,Mv.of_ext hb1,hL1,hK1⟩).mono ?_
  ·refine⟨fn,fun args=>(ps.zip args).foldl (fun t (p,v)=>t.setIfInBounds p v) a.tmps,assign,body,?_⟩;rintro i x W ⟨hi,hv,hl,hk⟩ hx;have hlt:w.heap.size+1<W.heap.size:=(Array.getElem?_eq_some_iff.1 hl).1;have hy:=run_yield (P:=P) (args:=encs x) hl (by rw [hrec];exact hps x);rw [hrec]at hy;refine⟨hy,roundIn_of_wpIn hfn (hassign _ i x W _ Om hv hi hx ?_)⟩;clear hy;intro a' Wa hma hia hax;have keepU: ∀{k:Nat} {A B:World} {o:Obj},w.heap.size≤k→k<w.heap.size+2→A.heap[k]?=some o→Mv U A B→B.heap[k]?=some o:=fun hk1 hk2 ha hm=>
    (hm.same _ (Array.getElem?_eq_some_iff.1 ha).1 (fun ht=>by have:=hU _ ht;omega)).trans ha
   have hla:=keepU Om Om hl hma;have hka:=keepU (Nat.le_refl _) Om hk hma;have hva:Mv (fun k=>T k∨U k) w Wa:=
    ⟨hma.os.trans hv.os,hma.tape.trans hv.tape,hma.output.trans hv.output,Xt hv.size hma.size,fun k hk hc=>(hma.same k (Xl hk hv.size) (fun hh=>hc (.inr hh))).trans (hv.same k hk hc)⟩
   have hlta:w.heap.size+1<Wa.heap.size:=(Array.getElem?_eq_some_iff.1 hla).1;refine⟨_,run_beginRound hla (by rw [hrec]),?_⟩;have hput: ∀(A:World) (o:Obj),Mv (fun k=>k=w.heap.size+1) A (A.putObj (w.heap.size+1) o):=fun A o=>Mv.put A _ o rfl;have hputT: ∀(A:World) (o:Obj),Mv (fun k=>T k∨k=w.heap.size∨k=w.heap.size+1) A (A.putObj (w.heap.size+1) o):=fun A o=>Mv.put A _ o (.inr (.inr rfl));have hputV: ∀(A:World) (o:Obj),Mv (fun k=>T k∨U k) w A→Mv (fun k=>T k∨U k) w (A.putObj (w.heap.size+1) o):=fun A o h=>
    ⟨h.os,h.tape,h.output,by simpa using h.size,fun k hk hc=>(World.putObj_heap_other Om).trans (h.same k hk hc)⟩
   obtain⟨Wb,hWb⟩: ∃Wb,Wb=Wa.putObj (w.heap.size+1) (.loop {rec .ready none with state:= .busy}):=⟨_,rfl⟩;rw [←hWb];have hl2:Wb.heap[w.heap.size+1]?=some (.loop {rec .ready none with state:= .busy}):=by rw [hWb];exact World.putObj_heap_same hlta
   have hk2:Wb.heap[w.heap.size]?=some (.deferred (some [])):=by rw [hWb];exact(World.putObj_heap_other Om).trans hka
   have hvb:Mv (fun k=>T k∨U k) w Wb:=by rw [hWb];exact hputV _ _ hva
   have hib:I i Wb:=by rw [hWb];exact hI _ _ _ hia (hputT _ _)
   have haxb:Ax x a' Wb:=by rw [hWb];exact hAx _ _ _ _ hax (hput _ _)
   have hsb:w.heap.size+2≤Wb.heap.size:=by rw [hWb];simp;omega
   refine wpIn_mono (hbody (w.heap.size+1) i x a' Wb Om ⟨_,hl2⟩ hsb hvb hib hx haxb) ?_;have fin: ∀(jump:Option Code) (W3:World),Mv U Wb W3→
     (Instr.endRound (w.heap.size+1) jump).run P W3= .ok (.bool jump.isNone) (W3.putObj (w.heap.size+1) (.loop (rec (if jump.isNone then .ready else .done) jump)))∧
     Mv (fun k=>T k∨U k) w (W3.putObj (w.heap.size+1) (.loop (rec (if jump.isNone then .ready else .done) jump)))∧
     (W3.putObj (w.heap.size+1) (.loop (rec (if jump.isNone then .ready else .done) jump))).heap[w.heap.size+1]?=some (.loop (rec (if jump.isNone then .ready else .done) jump))∧
     (W3.putObj (w.heap.size+1) (.loop (rec (if jump.isNone then .ready else .done) jump))).heap[w.heap.size]?=some (.deferred (some [])):=fun jump W3 hm3=>by
    have hl3:=keepU Om Om hl2 hm3;have:=run_endRound (P:=P) jump hl3;rw [hrec]at this⊢;refine⟨this,?_,World.putObj_heap_same (Array.getElem?_eq_some_iff.1 hl3).1,(World.putObj_heap_other Om).trans (keepU (Nat.le_refl _) Om hk2 hm3)⟩;exact hputV _ _ ⟨hm3.os.trans hvb.os,hm3.tape.trans hvb.tape,hm3.output.trans hvb.output,Xt hvb.size hm3.size,fun k hk hc=>(hm3.same k (Xl hk hvb.size) (fun hh=>hc (.inr hh))).trans (hvb.same k hk hc)⟩
   rintro e a3 W3 hp
   cases e with
   |normal=>
    obtain⟨hm3,hi3⟩:=hp;obtain⟨hr,hv4,hl4,hk4⟩:=fin none W3 hm3;refine⟨_,_,hr,true,rfl,.inl ⟨rfl,⟨hI _ _ _ hi3 (hputT _ _),hv4,hl4,hk4⟩,?_⟩⟩;have e1:Mv (fun k=>U k∨k=w.heap.size∨k=w.heap.size+1) W Wa:=hma.mono fun k _ h=> .inl h;have e2:Mv (fun k=>U k∨k=w.heap.size∨k=w.heap.size+1) Wa Wb:=by rw [hWb];exact(hput _ _).mono fun k _ h=> .inr (.inr h)
    have e3:Mv (fun k=>U k∨k=w.heap.size∨k=w.heap.size+1) Wb W3:=hm3.mono fun k _ h=> .inl h;exact((e1.trans e2).trans e3).trans ((hput _ _).mono fun k _ h=> .inr (.inr h))
   |ret=>
    obtain⟨hm3,hi3⟩:=hp;obtain⟨hr,hv4,hl4,hk4⟩:=fin (some .ret) W3 hm3;exact⟨_,_,hr,false,rfl,.inr ⟨rfl,.ret,hIx _ _ _ hi3 (hputT _ _),hv4,hl4,hk4⟩⟩
   |exit id=>
    obtain⟨hm3,hi3⟩:=hp;obtain⟨hr,hv4,hl4,hk4⟩:=fin (some (.exit id)) W3 hm3;exact⟨_,_,hr,false,rfl,.inr ⟨rfl,.exit id,hIx _ _ _ hi3 (hputT _ _),hv4,hl4,hk4⟩⟩
   |goto t=>
    obtain⟨hm3,hi3⟩:=hp;obtain⟨hr,hv4,hl4,hk4⟩:=fin (some (.goto t)) W3 hm3;exact⟨_,_,hr,false,rfl,.inr ⟨rfl,.goto t,hIx _ _ _ hi3 (hputT _ _),hv4,hl4,hk4⟩⟩
   |panic ch=>exact hp.elim
   |outgrown=>exact hp.elim
  ·have hputT: ∀(A:World) (o:Obj),Mv (fun k=>T k∨k=w.heap.size∨k=w.heap.size+1) A (A.putObj (w.heap.size+1) o):=fun A o=>Mv.put A _ o (.inr (.inr rfl));have hputV: ∀(A:World) (o:Obj),Mv (fun k=>T k∨U k) w A→Mv (fun k=>T k∨U k) w (A.putObj (w.heap.size+1) o):=fun A o h=>
    ⟨h.os,h.tape,h.output,by simpa using h.size,fun k hk hc=>(World.putObj_heap_other Om).trans (h.same k hk hc)⟩
   rintro e W2 ⟨⟨v,rfl⟩,(⟨⟨hi,hv,hl,hk⟩,hsS⟩|⟨c,hi,hv,hl,hk⟩)⟩
   ·exact⟨none,_,by have:=run_endLoop (P:=P) hl (by rw [hrec];simp);rw [hrec]at this;exact this,hdone _ (hSs _ _ hsS (Mv.put _ _ _ rfl)) (hI _ _ _ hi (hputT _ _)) (hputV _ _ hv) ((World.putObj_heap_other Om).trans hk)⟩
   ·exact⟨some c,_,by have:=run_endLoop (P:=P) hl (by rw [hrec];simp);rw [hrec]at this;exact this,hstop c _ (hIx _ _ _ hi (hputT _ _)) (hputV _ _ hv) ((World.putObj_heap_other Om).trans hk)⟩
def Qo2:He:=⟨0,0,0,0,0,0,0,[],[]⟩
def Qo3:Tc:=⟨0,0,0,0,[]⟩
def hdI(bs:List Int):He:=if Zd bs=0 then ipH bs else Qo2
def tcI(src dst:Int)(bs:List Int):Tc:=if Yn src dst bs=0 then tcT bs else Qo3
def SlV(w:World)(lo:Nat)(v:Value)(bs:List Int):Prop:= ∃p c,v= .slice p bs.length c∧bs.length≤c∧SlB w p bs∧ ∀b off,p=some ⟨b,off,none⟩→lo≤b∧b<w.heap.size
theorem SlV.of{lo:Nat}{v:Value}(h:OB w lo v bs):SlV w lo v bs:=by
 obtain⟨p,c,h1,h2,h3⟩:=h.slb;refine⟨p,c,h1,h2,h3,fun b off e=> ?_⟩;subst h1 e;exact⟨Qi h b rfl,QbW h b rfl⟩
theorem SlV.nil(w:World)(lo:Nat):SlV w lo (.slice none 0 0) []:=⟨none,0,rfl,Nat.le_refl _,SlB.nil _ _,fun _ _ e=>by cases e⟩
theorem SlV.ext{lo:Nat}{v:Value}(h:SlV w lo v bs)(e:Ext w w'):SlV w' lo v bs:=by
 obtain⟨p,c,h1,h2,h3,h4⟩:=h;exact⟨p,c,h1,h2,h3.ext e,fun b off q=>⟨(h4 b off q).1,Xl (h4 b off q).2 e.size⟩⟩
theorem SlV.mv{lo:Nat}{v:Value}(h:SlV w lo v bs)(m:Mv C w w')(hc: ∀k,lo≤k→ ¬C k):SlV w' lo v bs:=by
 obtain⟨p,c,h1,h2,h3,h4⟩:=h;refine⟨p,c,h1,h2,fun k hk=> ?_,fun b off q=>⟨(h4 b off q).1,Xl (h4 b off q).2 m.size⟩⟩;obtain⟨b,off,e,h5,h6⟩:=h3 k hk;exact⟨b,off,e,Xl h5 m.size,by rw [Qa,Qf (m.same b h5 (hc b (h4 b off e).1)),←Qa];exact h6⟩
theorem SlV.one{lo:Nat}{v:Value}(h:SlV w lo v bs):v.oneCell'=true:=by obtain⟨p,c,rfl,-⟩:=h;rfl
theorem Qie(p:Option Addr)(bs:List Int)(c:Nat)(w:World)(hs:SlB w p bs)(hr:ByR bs)(hl:bs.length≤1000)(hlc:bs.length≤c):
  Calls Tryz.prog 93 #[.slice p bs.length c] w fun e w'=> ∃vo vp,e= .returned (.tuple #[.agg (heV (hdI bs) vo vp),.int .u8 (Zd bs)])∧Ext w w'∧SlV w' w.heap.size vo (hdI bs).op∧SlV w' w.heap.size vp (hdI bs).pl:=by
 refine(Yu p bs c w hs hr hl hlc).mono ?_;rintro e w' h;unfold hdI
 cases h with
 |no h e=>rw [if_neg h];exact⟨_,_,rfl,e,SlV.nil _ _,SlV.nil _ _⟩
 |yes h e ho hp=>rw [if_pos h,h];exact⟨_,_,rfl,e,SlV.of ho,SlV.of hp⟩
theorem Qif(src dst:Int)(p:Option Addr)(bs:List Int)(c:Nat)(w:World)(hs:SlB w p bs)(hr:ByR bs)(hl:bs.length≤1000)(hlc:bs.length≤c):
  Calls Tryz.prog 101 #[.int .u32 src,.int .u32 dst,.slice p bs.length c] w fun e w'=> ∃vd,e= .returned (.tuple #[.agg (tcV (tcI src dst bs) vd),.int .u8 (Yn src dst bs)])∧Ext w w'∧SlV w' w.heap.size vd (tcI src dst bs).da:=by
 refine(Qid src dst p bs c w hs hr hl hlc).mono ?_;rintro e w' h;unfold tcI
 cases h with
 |no h e=>rw [if_neg h];exact⟨_,rfl,e,SlV.nil _ _⟩
 |yes h e ho=>rw [if_pos h,h];exact⟨_,rfl,e,SlV.of ho⟩
theorem Qx7(h:ByR bs):ByR (hdI bs).pl:=by
 unfold hdI
 split
 ·exact h.drop _
 ·exact ByR.nil
theorem Qsm(bs:List Int):(hdI bs).pl.length≤bs.length:=by
 unfold hdI
 split
 ·show(bs.drop _).length≤_;rw [List.length_drop];omega
 ·exact Nat.zero_le _
theorem Qo4(h:He)(a b:Value):(heV h a b).size=9:=rfl
theorem Qo5(h:Tc)(a:Value):(tcV h a).size=5:=rfl
theorem QjG(p:Option Addr)(bs:List Int)(c:Nat)(w:World)(B1 B4:Nat)(cs:Array Value)(cb:w.cell? ⟨B1,0,none⟩=some (.slice p bs.length c))(hs:SlB w p bs)(hr:ByR bs)(hl:bs.length≤1000)(hlc:bs.length≤c)(rz:RowZ w B4 cs)(h9:cs.size=9):
  Calls Tryz.prog 98 #[.pointer (some ⟨B1,0,none⟩),.pointer (some ⟨B4,0,none⟩)] w fun e w'=>e= .returned (.int .u8 (Zd bs))∧ ∃vo vp,RowZ w' B4 (heV (hdI bs) vo vp)∧SlV w' w.heap.size vp (hdI bs).pl∧Mv (fun k=>k=B4) w w':=by
 have HI:=Xh (Qie p bs c w hs hr hl hlc);have HRZ:=Xh rz;have hlt:=rz.l;have HLT:=Xh hlt;clear hs hr rz hlt
 go_enter Tryz.func98,Tryz.ntmps98
 go_upto_region 2 with(go_at_call 93;(refine(HI.out).mono ?_);rintro e W1 ⟨vo,vp,rfl,g1,so,sp⟩;have rz:=HRZ.out.ext g1;have hR:=rz.r;have hZ:=rz.z;have hL:=rz.l;have h9':Fits 0 9 cs:=(by unfold Fits;omega);have v1:=so.one;have v2:=sp.one;have HG:=Xh g1;have HSP:=Xh sp;clear g1 so sp;unfold heV)
 go_wp2;go_ret;refine⟨rfl,vo,vp,(rz.all (heV (hdI bs) vo vp) h9),HSP.out.mv (C:=fun k=>k=B4) (Mv.sa _ rfl (Mv.refl _ _)) (fun k hk e=> ?_),(Mv.of_ext HG.out).trans (Mv.sa _ rfl (Mv.refl _ _))⟩;have:=HLT.out;unfold Lt at this;omega
theorem QjH(h:He)(vo vp:Value)(w:World)(B4:Nat)(rz:RowZ w B4 (heV h vo vp)):
  Calls Tryz.prog 99 #[.pointer (some ⟨B4,0,none⟩)] w fun e w'=>e= .returned (.int .u8 (if h.pr=6 then 0 else 7))∧w=w':=by
 have c4:w.cell? ⟨B4,4,none⟩=some (.int .u8 h.pr):=rz.cell 4 (by show 4<9;omega);clear rz
 by_cases hp:h.pr=6
 ·have hp':(h.pr==6)=true:=by simpa using hp
  rw [if_pos hp];clear hp;obtain⟨q,hq⟩: ∃q,h.pr=q:=⟨_,rfl⟩;rw [hq]at c4 hp';clear hq
  go_enter Tryz.func99,Tryz.ntmps99
  go_wp2;go_ret;exact⟨rfl,rfl⟩
 ·have hp':(h.pr==6)=false:=by simpa using hp
  rw [if_neg hp];clear hp;obtain⟨q,hq⟩: ∃q,h.pr=q:=⟨_,rfl⟩;rw [hq]at c4 hp';clear hq
  go_enter Tryz.func99,Tryz.ntmps99
  go_wp2;go_ret;exact⟨rfl,rfl⟩
theorem QjI(h:He)(vo vp:Value)(w:World)(lo B4 B5:Nat)(cs:Array Value)(rh:RowZ w B4 (heV h vo vp))(hs:SlV w lo vp h.pl)(hr:ByR h.pl)(hl:h.pl.length≤1000)(rz:RowZ w B5 cs)(h5:cs.size=5):
  Calls Tryz.prog 100 #[.pointer (some ⟨B4,0,none⟩),.pointer (some ⟨B5,0,none⟩)] w fun e w'=>e= .returned (.int .u8 (Yn h.sr h.ds h.pl))∧ ∃vd,RowZ w' B5 (tcV (tcI h.sr h.ds h.pl) vd)∧Mv (fun k=>k=B5) w w':=by
 obtain⟨p,c,rfl,hc,hsl,-⟩:=hs;have HI:=Xh (Qif h.sr h.ds p h.pl c w hsl hr hl hc);have k5:w.cell? ⟨B4,5,none⟩=some (.int .u32 h.sr):=rh.cell 5 (by show 5<9;omega);have k6:w.cell? ⟨B4,6,none⟩=some (.int .u32 h.ds):=rh.cell 6 (by show 6<9;omega);have k8:w.cell? ⟨B4,8,none⟩=some (.slice p h.pl.length c):=rh.cell 8 (by show 8<9;omega);have HRZ:=Xh rz;clear hsl hr rz rh hl hc
 go_enter Tryz.func100,Tryz.ntmps100
 go_upto_region 2 with(go_at_call 101;(refine(HI.out).mono ?_);rintro e W1 ⟨vd,rfl,g1,sd⟩;have rz:=HRZ.out.ext g1;have hR:=rz.r;have hZ:=rz.z;have hL:=rz.l;have h9':Fits 0 5 cs:=(by unfold Fits;omega);have v1:=sd.one;have HG:=Xh g1;clear g1 sd;unfold tcV)
 go_wp2;go_ret;exact⟨rfl,vd,(rz.all (tcV (tcI h.sr h.ds h.pl) vd) h5),(Mv.of_ext HG.out).trans (Mv.sa _ rfl (Mv.refl _ _))⟩
def QfX(h:He):Int:=if h.pr=6 then 0 else 7
def hdN(bs:List Int)(i:Nat):He:=if i=0 then Qo2 else hdI bs
def QAh(bs:List Int)(i:Nat):Tc:=if i<3 then Qo3 else tcI (hdI bs).sr (hdI bs).ds (hdI bs).pl
structure PSt(p:Option Addr)(bs:List Int)(c B1 B4 B5 lo i:Nat)(W:World):Prop where
 cb:W.cell? ⟨B1,0,none⟩=some (.slice p bs.length c)
 l1:Lt B1 W
 sb:SlB W p bs
 h: ∃vo vp,RowZ W B4 (heV (hdN bs i) vo vp)∧SlV W lo vp (hdN bs i).pl
 t: ∃vd,RowZ W B5 (tcV (QAh bs i) vd)
theorem SlB.mvc{B:World}{p:Option Addr}(h:SlB A p bs)(m:Mv C A B)(hb: ∀b off,p=some ⟨b,off,none⟩→ ¬C b):SlB B p bs:=fun k hk=>by
 obtain⟨b,off,h1,h2,h3⟩:=h k hk;exact⟨b,off,h1,Xl h2 m.size,by rw [Qa,Qf (m.same b h2 (hb b off h1)),←Qa];exact h3⟩
theorem PSt.mv{p:Option Addr}{c B1 B4 B5 lo:Nat}{B:World}(h:PSt p bs c B1 B4 B5 lo i A)(m:Mv C A B)(h1: ¬C B1)(h4: ¬C B4)(h5: ¬C B5)(hp: ∀b off,p=some ⟨b,off,none⟩→ ¬C b)(hlo: ∀k,lo≤k→ ¬C k):PSt p bs c B1 B4 B5 lo i B:=
 ⟨by rw [Qa,Qf (m.same B1 h.l1 h1),←Qa];exact h.cb,Xl h.l1 m.size,h.sb.mvc m hp,
 by obtain⟨vo,vp,a,b⟩:=h.h;exact⟨vo,vp,a.mv m h4,b.mv m hlo⟩,by obtain⟨vd,a⟩:=h.t;exact⟨vd,a.mv m h5⟩⟩
theorem PSt.step1{p:Option Addr}{c B1 B4 B5 lo:Nat}{B:World}{vo vp:Value}(h:PSt p bs c B1 B4 B5 lo 0 A)(m:Mv (fun k=>k=B4) A B)(rh:RowZ B B4 (heV (hdI bs) vo vp))(sp:SlV B A.heap.size vp (hdI bs).pl)(hlo:lo≤A.heap.size)(n1:B1≠B4)(n5:B5≠B4)(hp: ∀b off,p=some ⟨b,off,none⟩→b≠B4):PSt p bs c B1 B4 B5 lo 1 B:=
 ⟨by rw [Qa,Qf (m.same B1 h.l1 n1),←Qa];exact h.cb,Xl h.l1 m.size,h.sb.mvc m hp,
 ⟨vo,vp,rh,by obtain⟨q,d,a1,a2,a3,a4⟩:=sp;exact⟨q,d,a1,a2,a3,fun b off e=>⟨Xt hlo (a4 b off e).1,(a4 b off e).2⟩⟩⟩,by obtain⟨vd,a⟩:=h.t;exact⟨vd,a.mv m n5⟩⟩
theorem PSt.step2{p:Option Addr}{c B1 B4 B5 lo:Nat}(h:PSt p bs c B1 B4 B5 lo 1 A):PSt p bs c B1 B4 B5 lo 2 A:=⟨h.cb,h.l1,h.sb,h.h,h.t⟩
theorem PSt.step3{p:Option Addr}{c B1 B4 B5 lo:Nat}{B:World}{vd:Value}(h:PSt p bs c B1 B4 B5 lo 2 A)(m:Mv (fun k=>k=B5) A B)(rt:RowZ B B5 (tcV (tcI (hdI bs).sr (hdI bs).ds (hdI bs).pl) vd))(hlo:B5<lo)(n1:B1≠B5)(n4:B4≠B5)(hp: ∀b off,p=some ⟨b,off,none⟩→b≠B5):PSt p bs c B1 B4 B5 lo 3 B:=
 ⟨by rw [Qa,Qf (m.same B1 h.l1 n1),←Qa];exact h.cb,Xl h.l1 m.size,h.sb.mvc m hp,
 by obtain⟨vo,vp,a,b⟩:=h.h;exact⟨vo,vp,a.mv m n4,b.mv m (fun k hk e=>by omega)⟩,⟨vd,rt⟩⟩
structure Lk(Bl Bf B1 B4 B5:Nat)(W:World):Prop where
 cl:W.cell? ⟨Bl,0,none⟩=some (.slice (some ⟨Bf,0,none⟩) 3 3)
 f0:W.cell? ⟨Bf,0,none⟩=some (.func (.func 98) #[] #[.pointer (some ⟨B1,0,none⟩),.pointer (some ⟨B4,0,none⟩)])
 f1:W.cell? ⟨Bf,1,none⟩=some (.func (.func 99) #[] #[.pointer (some ⟨B4,0,none⟩)])
 f2:W.cell? ⟨Bf,2,none⟩=some (.func (.func 100) #[] #[.pointer (some ⟨B4,0,none⟩),.pointer (some ⟨B5,0,none⟩)])
 ll:Lt Bl W
 lf:Lt Bf W
theorem Lk.mv{Bl Bf B1 B4 B5:Nat}{B:World}(h:Lk Bl Bf B1 B4 B5 A)(m:Mv C A B)(h1: ¬C Bl)(h2: ¬C Bf):Lk Bl Bf B1 B4 B5 B:=by
 have e1:=m.same Bl h.ll h1;have e2:=m.same Bf h.lf h2;exact⟨by rw [Qa,Qf e1,←Qa];exact h.cl,by rw [Qa,Qf e2,←Qa];exact h.f0,by rw [Qa,Qf e2,←Qa];exact h.f1,by rw [Qa,Qf e2,←Qa];exact h.f2,Xl h.ll m.size,Xl h.lf m.size⟩
theorem QmU(q:Option Addr)(n c:Nat)(w:World):
  Calls Tryz.prog 102 #[.slice q n c] w fun e w'=>e= .returned (.func (.func 177) #[] #[.pointer (some ⟨w.heap.size,0,none⟩)])∧w'=w.alloc (.cells #[.slice q n c] 215):=by
 go_enter Tryz.func102,Tryz.ntmps102
 go_wp2;go_ret;exact⟨rfl,rfl⟩
theorem QgT: ∀args w,(callFunc 177 args).run Tryz.prog w= .ok (.enter 177 args) w:=enters_of Tryz.func177 Kr rfl
def Qap(bs:List Int):List Int:= [Zd bs,QfX (hdI bs),Yn (hdI bs).sr (hdI bs).ds (hdI bs).pl]
theorem QjJ(n:Nat)(p:Option Addr)(bs:List Int)(c B1 B4 B5 Bl Bf:Nat)(w:World)(U:Nat→Prop)(hr:ByR bs)(hl:bs.length≤1000)(hlc:bs.length≤c)
  (hk:Lk Bl Bf B1 B4 B5 w)(h0:PSt p bs c B1 B4 B5 (w.heap.size+2) 0 w)(hb1:B1<w.heap.size)(hb4:B4<w.heap.size)(hb5:B5<w.heap.size)(hn:B1≠B4∧B5≠B4)(hn5:B1≠B5)(hnl:Bl≠B4∧Bf≠B4∧Bl≠B5∧Bf≠B5)(hpb: ∀b off,p=some ⟨b,off,none⟩→b<w.heap.size∧b≠B4∧b≠B5)
  (hU: ∀k,U k→k<w.heap.size∧k≠B1∧k≠B4∧k≠B5∧k≠Bl∧k≠Bf∧ ∀b off,p=some ⟨b,off,none⟩→k≠b):
  QlJ Fence.wide n Tryz.prog 177 #[.pointer (some ⟨Bl,0,none⟩)] (fun x:Int=>#[.int .u8 x]) (fun k=>k=B4∨k=B5) U (PSt p bs c B1 B4 B5 (w.heap.size+2) 3) (Qap bs) w:=by
 intro y J Jx W hW hW2 hJ hJx hY hJ0;have HJ:=Xh hJ;have HJx:=Xh hJx;have HU:=Xh hU;have HR:=Xh hr;have HPB:=Xh hpb;clear hJ hJx hU hr hpb;obtain⟨yfn,ytm,yas,ybo,hY⟩:=hY;have HY:=Xh hY;clear hY;have hkW:=hk.mv (C:=fun _=>False) (Mv.of_ext hW) (fun h=>h) (fun h=>h);have hPW:=h0.mv (C:=fun _=>False) (Mv.of_ext hW) (fun h=>h) (fun h=>h) (fun h=>h) (fun _ _ _ h=>h) (fun _ _ h=>h);have hll:=hk.ll;have hlf:=hk.lf;unfold Lt at hll hlf;have hUl: ¬(U Bl∨Bl=w.heap.size∨Bl=w.heap.size+1):=by rintro(h|h|h);exact(HU.out _ h).2.2.2.2.1 rfl;omega;omega
 have hUf: ¬(U Bf∨Bf=w.heap.size∨Bf=w.heap.size+1):=by rintro(h|h|h);exact(HU.out _ h).2.2.2.2.2.1 rfl;omega;omega
 have hU1: ¬(U B1∨B1=w.heap.size∨B1=w.heap.size+1):=by rintro(h|h|h);exact(HU.out _ h).2.1 rfl;omega;omega
 have hU4: ¬(U B4∨B4=w.heap.size∨B4=w.heap.size+1):=by rintro(h|h|h);exact(HU.out _ h).2.2.1 rfl;omega;omega
 have hU5: ¬(U B5∨B5=w.heap.size∨B5=w.heap.size+1):=by rintro(h|h|h);exact(HU.out _ h).2.2.2.1 rfl;omega;omega
 have HPU:=Xh (show ∀b off,p=some ⟨b,off,none⟩→ ¬(U b∨b=w.heap.size∨b=w.heap.size+1)from fun b off e=>by rintro(h|h|h);exact(HU.out _ h).2.2.2.2.2.2 b off e rfl;(have:=(HPB.out b off e).1;omega);(have:=(HPB.out b off e).1;omega));have HLU:=Xh (show ∀k,w.heap.size+2≤k→ ¬(U k∨k=w.heap.size∨k=w.heap.size+1)from fun k hk=>by rintro(h|h|h);(have:=(HU.out _ h).1;omega);omega;omega);obtain⟨lo,hlo⟩: ∃lo,w.heap.size+2=lo:=⟨_,rfl⟩;have hlo5:B5<lo:=by omega
 rw [hlo]at HLU hPW hW2⊢;have HUS:=Xh (show(¬(U B1∨B1=w.heap.size∨B1=w.heap.size+1))∧(¬(U B4∨B4=w.heap.size∨B4=w.heap.size+1))∧(¬(U B5∨B5=w.heap.size∨B5=w.heap.size+1))∧(¬(U Bl∨Bl=w.heap.size∨Bl=w.heap.size+1))∧(¬(U Bf∨Bf=w.heap.size∨Bf=w.heap.size+1))from⟨hU1,hU4,hU5,hUl,hUf⟩);have HN:=Xh hn;have HN5:=Xh hn5;have HNL:=Xh hnl;clear hU1 hU4 hU5 hUl hUf hn hn5 hnl hlo h0 hb1 hb4 hb5;refine callsIn_of_wp Tryz.func177 rfl trivial ?_ rfl;simp only [Tryz.ntmps177,List.size_toArray,List.length_cons,List.length_nil,Nat.reduceAdd,Nat.reduceSub,Array.replicate_succ,Array.replicate_zero,List.push_toArray,List.append_toArray,List.nil_append,List.cons_append];refine wpIn_wide.2 ?_;have cl:=hkW.cl;have HKW:=Xh hkW;clear hkW hk;go_wp2
 go_loopw [4,7] (fun _ a wr=> ∃i:Nat,i≤3∧a= .int .i64 i∧J i wr∧PSt p bs c B1 B4 B5 lo i wr∧Lk Bl Bf B1 B4 B5 wr∧lo≤wr.heap.size) (fun _ a _=>3- (intOf a).toNat)
 case atStart=>exact⟨0,Om,rfl,hJ0,hPW,HKW.out,hW2⟩
 case round=>
  clear cl hJ0 hPW hW2;obtain⟨i,hi,rfl,hJi,hP,hK,hz⟩:=hrel;have HJI:=Xh hJi;have HK:=Xh hK;have HP:=Xh hP;clear hJi hK hP;obtain rfl|rfl|rfl|rfl:i=0∨i=1∨i=2∨i=3:=by omega
  ·obtain⟨vo,vp,rh,hsp⟩:=HP.out.h;obtain⟨vd,rt⟩:=HP.out.t;have f0:=HK.out.f0;have lf:=HK.out.lf;have PC:=Xh (show Calls Tryz.prog 98 #[.pointer (some ⟨B1,0,none⟩),.pointer (some ⟨B4,0,none⟩)] wr (fun e w'=>e= .returned (.int .u8 (Zd bs))∧ ∃vo vp,RowZ w' B4 (heV (hdI bs) vo vp)∧SlV w' wr.heap.size vp (hdI bs).pl∧Mv (fun k=>k=B4) wr w')from QjG p bs c wr B1 B4 _ HP.out.cb HP.out.sb HR.out hl hlc rh (Qo4 _ _ _));obtain⟨xv,hxv⟩: ∃x,Zd bs=x:=⟨_,rfl⟩;rw [hxv]at PC;have HXV:=Xh (show(Qap bs)[0]?=some xv by rw [←hxv];rfl);clear rh hsp rt hxv
   go_upto_region 3 with(fail)
   refine(wpIn_wide (n:=n)).1 ?_
   gi_wp2
   refine⟨trivial,(fun h=>by cases h),(callsIn_wide.2 PC.out).mono ?_⟩;rintro e w6 ⟨rfl,vo2,vp2,rh2,sp2,m2⟩;have hN:PSt p bs c B1 B4 B5 lo 1 w6:=HP.out.step1 m2 rh2 sp2 hz HN.out.1 HN.out.2 (fun b off e=>(HPB.out b off e).2.1);have hL6:=HK.out.mv m2 HNL.out.1 HNL.out.2.1;have hJ6:=HJ.out _ _ _ HJI.out (m2.mono fun k _ e=> .inl e);have hz6:lo≤w6.heap.size:=Xt hz m2.size;clear m2 rh2 sp2;have hrun:(Instr.yield y #[.int .u8 xv]).run Tryz.prog w6= .ok (.round y yfn (ytm #[.int .u8 xv]) yas ybo) w6:=(HY.out 0 xv w6 hJ6 HXV.out).1;have HRD:=Xh (HY.out 0 xv w6 hJ6 HXV.out).2;have HNN:=Xh hN;have HL6:=Xh hL6;clear hN hL6 hJ6
   gi_wp2
   refine⟨(fun h=>by cases h),(HRD.out).mono ?_⟩;rintro e w7 ⟨bb,rfl,hQ⟩;clear hrun HRD f0 lf;obtain⟨rfl,hJ7,hm7⟩|⟨rfl,hx7⟩:=hQ
   ·have hN7:=HNN.out.mv hm7 HUS.out.1 HUS.out.2.1 HUS.out.2.2.1 HPU.out HLU.out;have hL7:=HL6.out.mv hm7 HUS.out.2.2.2.1 HUS.out.2.2.2.2;have hz7:=Xt hz6 hm7.size;clear hm7
    gi_wp2
    go_wp2
    go_roundw
    case rel=>exact⟨1,Om,by go_num,hJ7,hN7,hL7,hz7⟩
    case measure=>simp [intOf]
   ·gi_wp2
    go_wp2;exact bodyPost_ret (results_none rfl _ _ _) rfl ⟨⟨_,rfl⟩,.inr hx7⟩
  ·obtain⟨vo,vp,rh,hsp⟩:=HP.out.h;obtain⟨vd,rt⟩:=HP.out.t;have f1:=HK.out.f1;have lf:=HK.out.lf;have PC:=Xh (show Calls Tryz.prog 99 #[.pointer (some ⟨B4,0,none⟩)] wr (fun e w'=>e= .returned (.int .u8 (QfX (hdI bs)))∧wr=w')from QjH (hdI bs) vo vp wr B4 rh);obtain⟨xv,hxv⟩: ∃x,QfX (hdI bs)=x:=⟨_,rfl⟩;rw [hxv]at PC;have HXV:=Xh (show(Qap bs)[1]?=some xv by rw [←hxv];rfl);clear rh hsp rt hxv
   go_upto_region 3 with(fail)
   refine(wpIn_wide (n:=n)).1 ?_
   gi_wp2
   refine⟨trivial,(fun h=>by cases h),(callsIn_wide.2 PC.out).mono ?_⟩;rintro e w6 ⟨rfl,rfl⟩;have hN:PSt p bs c B1 B4 B5 lo 2 wr:=HP.out.step2;have hL6:=HK.out;have hJ6:=HJI.out;have hz6:=hz;have hrun:(Instr.yield y #[.int .u8 xv]).run Tryz.prog wr= .ok (.round y yfn (ytm #[.int .u8 xv]) yas ybo) wr:=(HY.out 1 xv wr hJ6 HXV.out).1;have HRD:=Xh (HY.out 1 xv wr hJ6 HXV.out).2;have HNN:=Xh hN;have HL6:=Xh hL6;clear hN hL6 hJ6
   gi_wp2
   refine⟨(fun h=>by cases h),(HRD.out).mono ?_⟩;rintro e w7 ⟨bb,rfl,hQ⟩;clear hrun HRD f1 lf;obtain⟨rfl,hJ7,hm7⟩|⟨rfl,hx7⟩:=hQ
   ·have hN7:=HNN.out.mv hm7 HUS.out.1 HUS.out.2.1 HUS.out.2.2.1 HPU.out HLU.out;have hL7:=HL6.out.mv hm7 HUS.out.2.2.2.1 HUS.out.2.2.2.2;have hz7:=Xt hz6 hm7.size;clear hm7
    gi_wp2
    go_wp2
    go_roundw
    case rel=>exact⟨2,Om,by go_num,hJ7,hN7,hL7,hz7⟩
    case measure=>simp [intOf]
   ·gi_wp2
    go_wp2;exact bodyPost_ret (results_none rfl _ _ _) rfl ⟨⟨_,rfl⟩,.inr hx7⟩
  ·obtain⟨vo,vp,rh,hsp⟩:=HP.out.h;obtain⟨vd,rt⟩:=HP.out.t;have f2:=HK.out.f2;have lf:=HK.out.lf;have PC:=Xh (show Calls Tryz.prog 100 #[.pointer (some ⟨B4,0,none⟩),.pointer (some ⟨B5,0,none⟩)] wr (fun e w'=>e= .returned (.int .u8 (Yn (hdI bs).sr (hdI bs).ds (hdI bs).pl))∧ ∃vd,RowZ w' B5 (tcV (tcI (hdI bs).sr (hdI bs).ds (hdI bs).pl) vd)∧Mv (fun k=>k=B5) wr w')from QjI (hdI bs) vo vp wr lo B4 B5 _ rh hsp (Qx7 HR.out) (Xt (Qsm bs) hl) rt (Qo5 _ _));obtain⟨xv,hxv⟩: ∃x,Yn (hdI bs).sr (hdI bs).ds (hdI bs).pl=x:=⟨_,rfl⟩;rw [hxv]at PC;have HXV:=Xh (show(Qap bs)[2]?=some xv by rw [←hxv];rfl);clear rh hsp rt hxv
   go_upto_region 3 with(fail)
   refine(wpIn_wide (n:=n)).1 ?_
   gi_wp2
   refine⟨trivial,(fun h=>by cases h),(callsIn_wide.2 PC.out).mono ?_⟩;rintro e w6 ⟨rfl,vd2,rt2,m2⟩;have hN:PSt p bs c B1 B4 B5 lo 3 w6:=HP.out.step3 m2 rt2 hlo5 HN5.out (Ne.symm HN.out.2) (fun b off e=>(HPB.out b off e).2.2);have hL6:=HK.out.mv m2 HNL.out.2.2.1 HNL.out.2.2.2;have hJ6:=HJ.out _ _ _ HJI.out (m2.mono fun k _ e=> .inr e);have hz6:lo≤w6.heap.size:=Xt hz m2.size;clear m2 rt2;have hrun:(Instr.yield y #[.int .u8 xv]).run Tryz.prog w6= .ok (.round y yfn (ytm #[.int .u8 xv]) yas ybo) w6:=(HY.out 2 xv w6 hJ6 HXV.out).1;have HRD:=Xh (HY.out 2 xv w6 hJ6 HXV.out).2;have HNN:=Xh hN;have HL6:=Xh hL6;clear hN hL6 hJ6
   gi_wp2
   refine⟨(fun h=>by cases h),(HRD.out).mono ?_⟩;rintro e w7 ⟨bb,rfl,hQ⟩;clear hrun HRD f2 lf;obtain⟨rfl,hJ7,hm7⟩|⟨rfl,hx7⟩:=hQ
   ·have hN7:=HNN.out.mv hm7 HUS.out.1 HUS.out.2.1 HUS.out.2.2.1 HPU.out HLU.out;have hL7:=HL6.out.mv hm7 HUS.out.2.2.2.1 HUS.out.2.2.2.2;have hz7:=Xt hz6 hm7.size;clear hm7
    gi_wp2
    go_wp2
    go_roundw
    case rel=>exact⟨3,Om,by go_num,hJ7,hN7,hL7,hz7⟩
    case measure=>simp [intOf]
   ·gi_wp2
    go_wp2;exact bodyPost_ret (results_none rfl _ _ _) rfl ⟨⟨_,rfl⟩,.inr hx7⟩
  ·go_wp2
   go_end0
   exact⟨⟨_,rfl⟩,.inl ⟨HJI.out,HP.out⟩⟩
@[go_sem] theorem QzU{a5:Value}:Fits o m #[a0,a1,a2,a3,a4,a5]=(o+m≤6):=by unfold Fits;rfl
@[go_sem] theorem QwV{a5:Value}:Qn #[a0,a1,a2,a3,a4,a5] 6=True:=by unfold Qn;exact eq_true rfl
@[go_sem] theorem Qsn{a5:Value}:QK #[a0,a1,a2,a3,a4,a5]=(a0.oneCell'=true∧a1.oneCell'=true∧a2.oneCell'=true∧a3.oneCell'=true∧a4.oneCell'=true∧a5.oneCell'=true):=by
 unfold QK;simp [and_assoc]
@[go_sem ↓ high] theorem Qx8{a5:Value}:(Value.agg #[a0,a1,a2,a3,a4,a5]).cells=#[a0,a1,a2,a3,a4,a5]:=QF _
@[go_sem] theorem QzV{a5:Value}:QB #[a0,a1,a2,a3,a4,a5] 0 6=#[a0,a1,a2,a3,a4,a5]:=rfl
theorem QgU:(Tryz.prog.info? 81).map (·.size)=some 6:=Kr
theorem QmV{b:Nat}(h:o+6≤(Qc w b).size):(Instr.loadAt 81 (.pointer (some ⟨b,o,none⟩))).run Tryz.prog w= .ok (.agg ((Qc w b).extract o (o+6))) w:=by
 have:=run_loadAt_mid w b o 81 ((Qc w b).extract o (o+6)).toList _ (QC w b o (o+6)) Tryz.underlying81 rfl (by rw [QgU];simp;omega)
 rwa [Array.toArray_toList]at this
theorem QjK{b:Nat}(h:o+6≤(Qc w b).size):(loadVar 81 ⟨b,o,none⟩).run Tryz.prog w= .ok (.agg ((Qc w b).extract o (o+6))) w:=by
 have:=run_loadVar_mid w b o 81 ((Qc w b).extract o (o+6)).toList _ (QC w b o (o+6)) Tryz.underlying81 rfl (by rw [QgU];simp;omega)
 rwa [Array.toArray_toList]at this
@[go_sem ↓ high] theorem Qaq(ρ:Operand→Value)(dst:Option Tmp)(x:Operand)(ty:TypeId)(pos:String)(after:Array Edge)(g:Option (Nat×Bool))(w:World)
  (hx:ρ x= .pointer (some ⟨Qb (ρ x),Qd (ρ x),none⟩))(h:Fits (Qd (ρ x)) 6 (Qc w (Qb (ρ x)))):
  (execOp ρ ⟨dst,.load 81 x,ty,pos,after,g⟩).run Tryz.prog w= .ok (.value (.agg (QB (Qc w (Qb (ρ x))) (Qd (ρ x)) 6))) w:=by
 unfold Fits at h;generalize hB:Qb (ρ x)=B at*;generalize hO:Qd (ρ x)=O at*;simp only [execOp,hx,Sem.run_bind,QmV h,Result.andThen_ok,Sem.run_pure,QB]
@[go_sem ↓ high] theorem Quh{l:Option Nat}(w:World)
  (hx:ρ x= .pointer (some ⟨Qb (ρ x),Qd (ρ x),none⟩))(h:Fits (Qd (ρ x)) 6 (Qc w (Qb (ρ x)))):
  (Oper.semAt l ρ ⟨dst,.load 81 x,ty,pos,after,g⟩).run Tryz.prog w= .ok (.value (.agg (QB (Qc w (Qb (ρ x))) (Qd (ρ x)) 6))) w:=by rw [Oper.semAt_eq _ _ _ (fun c h=>by cases h)];exact Qaq ρ dst x ty pos after g w hx h
@[go_sem ↓ high] theorem JX(ρ:Operand→Value)(dst:Option Tmp)(x y:Operand)(ty:TypeId)(pos:String)(after:Array Edge)(g:Option (Nat×Bool))(w:World)
  (hx:ρ x= .pointer (some ⟨Qb (ρ x),Qd (ρ x),none⟩))(hy:ρ y= .agg (ρ y).cells)(hs:Qn (ρ y).cells 6)(h:Fits (Qd (ρ x)) 6 (Qc w (Qb (ρ x))))(hz:Qs w (Qb (ρ x))=(0,0))(h1:QK (ρ y).cells):
  (execOp ρ ⟨dst,.store 81 x y,ty,pos,after,g⟩).run Tryz.prog w= .ok .skip (Qe w (Qb (ρ x)) (Qd (ρ x)) (ρ y).cells):=by
 unfold Fits at h;unfold Qn at hs;generalize hB:Qb (ρ x)=B at*;generalize hO:Qd (ρ x)=O at*;generalize hC:(ρ y).cells=C at*;have hst:(Instr.storeAt 81 (.pointer (some ⟨B,O,none⟩)) (.agg C)).run Tryz.prog w= .ok () (Qe w B O C):=
  run_storeAt_mid w B O 81 C (fun j hj=>⟨by rw [Qa,Array.getElem?_eq_getElem Om];rfl,Ql hz _⟩) (by rw [QgU,hs]) h1
 simp only [execOp,hx,hy,Sem.run_bind,hst,Result.andThen_ok,Sem.run_pure]
@[go_sem ↓ high] theorem Qso{l:Option Nat}(w:World)
  (hx:ρ x= .pointer (some ⟨Qb (ρ x),Qd (ρ x),none⟩))(hy:ρ y= .agg (ρ y).cells)(hs:Qn (ρ y).cells 6)(h:Fits (Qd (ρ x)) 6 (Qc w (Qb (ρ x))))(hz:Qs w (Qb (ρ x))=(0,0))(h1:QK (ρ y).cells):
  (Oper.semAt l ρ ⟨dst,.store 81 x y,ty,pos,after,g⟩).run Tryz.prog w= .ok .skip (Qe w (Qb (ρ x)) (Qd (ρ x)) (ρ y).cells):=by rw [Oper.semAt_eq _ _ _ (fun c h=>by cases h)];exact JX ρ dst x y ty pos after g w hx hy hs h hz h1
theorem Qig(hs:(Qc w B).size=6)(hz:Qs w B=(0,0))(hcs:cs.size=6)(ho:QK cs)
  (hx:ρ x= .pointer (some ⟨B,0,none⟩))(hy:ρ y= .agg cs):(execOp ρ ⟨dst,.store 81 x y,ty,pos,after,g⟩).run Tryz.prog w= .ok .skip (Qe w B 0 cs):=by
 have e:=JX ρ dst x y ty pos after g w (by rw [hx];rfl) (by rw [hy];rfl) (by rw [hy];exact hcs) (by rw [hx];show Fits 0 6 (Qc w B);unfold Fits;omega) (by rw [hx];exact hz) (by rw [hy];exact ho);rw [e,hx,hy];rfl
def Qo6(ops:Array Oper):Prop:=Region.noSelect ops=true∧Qv ops 16 [0,1,2,3,4,5,6,7,8,9,10,11] 0=true∧Rd ops 16 4095 [12]∧Qv ops 16 [13] 8191=true∧Rd ops 16 16383 [14]∧Rd ops 16 32767 [15]∧Rd ops 16 65535 []
theorem QjL:Qo6 ((Tryz.f42.body.bind (Qh 9)).getD #[]):=⟨Kr,Kr,Rk,Kr,Rk,Rk,Rk⟩
def QlK(ops:Array Oper):Prop:=Region.noSelect ops=true∧Qo ops 4 [1] 0=true∧Rd ops 4 2 [0]∧Rd ops 4 3 [2]∧Rd ops 4 7 [3]∧Rd ops 4 15 []∧lateB .any ops 3 1=true
theorem Qih:QlK ((Tryz.f42.body.bind (Qh 10)).getD #[]):=⟨Kr,Kr,Rk,Rk,Rk,Rk,Kr⟩
theorem Qa0{v:Int}(h0:w.cell? ⟨B,i,none⟩=some (.int .u32 v))(hl:Lt B w)(hC: ¬C B)
  (hx:ρ q= .pointer (some ⟨B,i,none⟩)): ∀w',Mv C w w'→(execOp ρ ⟨dst,.load 61 q,ty,pos,after,g⟩).run Tryz.prog w'= .ok (.value (.int .u32 v)) w':=by
 intro w' hE;have h1:w'.cell? ⟨B,i,none⟩=some (.int .u32 v):=by rw [Qa,Qf (hE.same B hl hC),←Qa];exact h0
 simp only [execOp,hx];go_simp
theorem Qa1{v:Int}(h0:w.cell? ⟨B,i,none⟩=some (.int .u16 v))(hl:Lt B w)(hC: ¬C B)
  (hx:ρ q= .pointer (some ⟨B,i,none⟩)): ∀w',Mv C w w'→(execOp ρ ⟨dst,.load 62 q,ty,pos,after,g⟩).run Tryz.prog w'= .ok (.value (.int .u16 v)) w':=by
 intro w' hE;have h1:w'.cell? ⟨B,i,none⟩=some (.int .u16 v):=by rw [Qa,Qf (hE.same B hl hC),←Qa];exact h0
 simp only [execOp,hx];go_simp
theorem Yv{v:Int}(h0:w.cell? ⟨B,i,none⟩=some (.int .u8 v))(hl:Lt B w)(hC: ¬C B)
  (hx:ρ q= .pointer (some ⟨B,i,none⟩)): ∀w',Mv C w w'→(execOp ρ ⟨dst,.load 5 q,ty,pos,after,g⟩).run Tryz.prog w'= .ok (.value (.int .u8 v)) w':=by
 intro w' hE;have h1:w'.cell? ⟨B,i,none⟩=some (.int .u8 v):=by rw [Qa,Qf (hE.same B hl hC),←Qa];exact h0
 simp only [execOp,hx];go_simp
theorem JY{a:Option Addr}{c:Nat}(h0:w.cell? ⟨B,i,none⟩=some (.slice a m c))(hl:Lt B w)(hC: ¬C B)
  (hx:ρ q= .pointer (some ⟨B,i,none⟩)): ∀w',Mv C w w'→(execOp ρ ⟨dst,.load 28 q,ty,pos,after,g⟩).run Tryz.prog w'= .ok (.value (.slice a m c)) w':=by
 intro w' hE;have h1:w'.cell? ⟨B,i,none⟩=some (.slice a m c):=by rw [Qa,Qf (hE.same B hl hC),←Qa];exact h0
 simp only [execOp,hx];go_simp
theorem Qvp(h0:RowZ w B cs)(h6:cs.size=6)(hC: ¬C B)
  (hx:ρ q= .pointer (some ⟨B,0,none⟩)): ∀w',Mv C w w'→(execOp ρ ⟨dst,.load 81 q,ty,pos,after,g⟩).run Tryz.prog w'= .ok (.value (.agg cs)) w':=by
 intro w' hE;have h1:=h0.mv hE hC;have e:=Qaq ρ dst q ty pos after g w' (by rw [hx];rfl) (by rw [hx];show Fits 0 6 (Qc w' B);rw [h1.r];unfold Fits;omega);rw [e,hx];show Result.ok (Next.value (Value.agg (QB (Qc w' B) 0 6))) w'=_;rw [h1.r,Q9 cs 6 h6]
theorem Qii(h:RowZ w B cs)(h6:cs.size=6):(loadVar 81 ⟨B,0,none⟩).run Tryz.prog w= .ok (.agg cs) w:=by
 rw [QjK (by rw [h.r,h6];omega),h.r];rw [show cs.extract 0 (0+6)=cs by rw [Nat.zero_add,←h6];simp]
theorem QlL{v:Int}(h:w.cell? ⟨B,0,none⟩=some (.int .u8 v)):(loadVar 5 ⟨B,0,none⟩).run Tryz.prog w= .ok (.int .u8 v) w:=by go_simp
theorem ZL{P:Program}{fn:Func}{p q:Tmp}{ty2:TypeId}{v v2:Value}(h:fn.results=#[.cell p ty,.cell q ty2])(tmps:Array Value)(w:World)(g g2:Nat)
  (hp:tmps.getD p undef= .pointer (some ⟨g,0,none⟩))(hq:tmps.getD q undef= .pointer (some ⟨g2,0,none⟩))(hl:(loadVar ty ⟨g,0,none⟩).run P w= .ok v w)(hl2:(loadVar ty2 ⟨g2,0,none⟩).run P w= .ok v2 w):(results fn tmps).run P w= .ok (.tuple #[v,v2]) w:=by
 have hp':tmps[p]?.getD undef= .pointer (some ⟨g,0,none⟩):=by simpa using hp
 have hq':tmps[q]?.getD undef= .pointer (some ⟨g2,0,none⟩):=by simpa using hq
 simp [results,h,hp',hq',asAddr,hl,hl2]
def Yw(bs:List Int):Int:=if Zd bs≠0 then Zd bs else if QfX (hdI bs)≠0 then QfX (hdI bs)else Yn (hdI bs).sr (hdI bs).ds (hdI bs).pl
theorem Qo7{v:Int}(h: ∀j,j<i→ ∀x,(Qap bs)[j]?=some x→x=0)(hv:(Qap bs)[i]?=some v)(h0:v≠0):Yw bs=v:=by
 unfold Yw;have hi:i<3:=by have:=(List.getElem?_eq_some_iff.1 hv).1;exact this
 obtain rfl|rfl|rfl:i=0∨i=1∨i=2:=by omega
 ·obtain rfl:Zd bs=v:=Option.some.inj hv;rw [if_pos h0]
 ·have a0:=h 0 Om _ rfl;obtain rfl:QfX (hdI bs)=v:=Option.some.inj hv;rw [if_neg Om,if_pos h0]
 ·have a0:=h 0 Om _ rfl;have a1:=h 1 Om _ rfl;obtain rfl:Yn (hdI bs).sr (hdI bs).ds (hdI bs).pl=v:=Option.some.inj hv;rw [if_neg Om,if_neg Om]
theorem Qo8(h: ∀j,j<3→ ∀x,(Qap bs)[j]?=some x→x=0):Yw bs=0:=by
 have a0:=h 0 Om _ rfl;have a1:=h 1 Om _ rfl;have a2:=h 2 Om _ rfl;unfold Yw;rw [if_neg Om,if_neg Om];exact a2
structure Pk where
 tu:Tu
 fl:Int
 by_:List Int
def pkV(t:Pk)(v:Value):Array Value:=#[.int .u32 t.tu.a,.int .u32 t.tu.b,.int .u16 t.tu.c,.int .u16 t.tu.d,.int .u8 t.fl,v]
def Qo9:Pk:=⟨⟨0,0,0,0⟩,0,[]⟩
def pkI(bs:List Int):Pk:=if Yw bs=0 then⟨⟨(hdI bs).sr,(hdI bs).ds,(tcI (hdI bs).sr (hdI bs).ds (hdI bs).pl).sp,(tcI (hdI bs).sr (hdI bs).ds (hdI bs).pl).dp⟩,(tcI (hdI bs).sr (hdI bs).ds (hdI bs).pl).fl,bs⟩else Qo9
structure DrI(bs:List Int)(B i:Nat)(W:World):Prop where
 at_: ∃v,RowZ W B #[.int .u8 v]∧(∀j,j<i→ ∀x,(Qap bs)[j]?=some x→x=0)∧(v=0∨(Qap bs)[i]?=some v)
structure DrX(bs:List Int)(B:Nat)(cc:Code)(W:World):Prop where
 c:cc= .goto 0
 n:Yw bs≠0
 r:RowZ W B #[.int .u8 (Yw bs)]
theorem Qij(p:Option Addr)(bs:List Int)(c:Nat)(w:World)(hs:SlB w p bs)(hr:ByR bs)(hl:bs.length≤1000)(hlc:bs.length≤c)(hpb: ∀b off,p=some ⟨b,off,none⟩→b<w.heap.size):
  Calls Tryz.prog 42 #[.slice p bs.length c] w fun e w'=> ∃vb,e= .returned (.tuple #[.agg (pkV (pkI bs) vb),.int .u8 (Yw bs)])∧Ext w w'∧SlV w' w.heap.size vb (pkI bs).by_:=by
 have HS:=Xh hs;have HR:=Xh hr;have HPB:=Xh hpb;clear hs hr hpb;refine(callsIn_wide (n:=5)).1 ?_;refine callsIn_of_wp_marks Tryz.func42 rfl trivial ?_ rfl;simp only [Tryz.ntmps42,List.size_toArray,List.length_cons,List.length_nil,Nat.reduceAdd,Nat.reduceSub,Array.replicate_succ,Array.replicate_zero,List.push_toArray,List.append_toArray,List.nil_append,List.cons_append];refine wpIn_wide.2 ?_;go_wp2;refine Qp 0 rfl ?_
 go_wp2_with (go_at_call 102;(refine(QmU _ _ _ _).mono ?_);rintro e w2 ⟨rfl,rfl⟩)
 obtain⟨W2,hW2⟩: ∃W2,(((((((w.alloc (.cells #[.slice p bs.length c] 28)).alloc (.cells #[.int .u32 0,.int .u32 0,.int .u16 0,.int .u16 0,.int .u8 0,.slice none 0 0] 81)).alloc (.cells #[.int .u8 0] 5)).alloc (.cells #[.int .u8 0,.int .u16 0,.int .u16 0,.int .u8 0,.int .u8 0,.int .u32 0,.int .u32 0,.slice none 0 0,.slice none 0 0] 132)).alloc (.cells #[.int .u16 0,.int .u16 0,.int .u8 0,.int .i64 0,.slice none 0 0] 142)).alloc (.cells #[.func (.func 98) #[] #[.pointer (some ⟨w.heap.size,0,none⟩),.pointer (some ⟨w.heap.size+1+1+1,0,none⟩)],.func (.func 99) #[] #[.pointer (some ⟨w.heap.size+1+1+1,0,none⟩)],.func (.func 100) #[] #[.pointer (some ⟨w.heap.size+1+1+1,0,none⟩),.pointer (some ⟨w.heap.size+1+1+1+1,0,none⟩)]] 217)).alloc (.cells #[.slice (some ⟨w.heap.size+1+1+1+1+1,0,none⟩) 3 3] 215))=W2:=⟨_,rfl⟩;have g2:Ext w W2:=by rw [←hW2];exact Ext.al (Ext.al (Ext.al (Ext.al (Ext.al (Ext.al Ea _) _) _) _) _) _
 have hsz:W2.heap.size=w.heap.size+7:=by rw [←hW2];simp
 have c0:W2.cell? ⟨w.heap.size,0,none⟩=some (.slice p bs.length c):=by rw [←hW2];simp [go_sem]
 have r1:RowZ W2 (w.heap.size+1) #[.int .u32 0,.int .u32 0,.int .u16 0,.int .u16 0,.int .u8 0,.slice none 0 0]:=by rw [←hW2];exact⟨by simp [go_sem],by simp [go_sem],by simp [go_sem,Lt]⟩
 have r2:RowZ W2 (w.heap.size+1+1) #[.int .u8 0]:=by rw [←hW2];exact⟨by simp [go_sem],by simp [go_sem],by simp [go_sem,Lt]⟩
 have r3:RowZ W2 (w.heap.size+1+1+1) #[.int .u8 0,.int .u16 0,.int .u16 0,.int .u8 0,.int .u8 0,.int .u32 0,.int .u32 0,.slice none 0 0,.slice none 0 0]:=by rw [←hW2];exact⟨by simp [go_sem],by simp [go_sem],by simp [go_sem,Lt]⟩
 have r4:RowZ W2 (w.heap.size+1+1+1+1) #[.int .u16 0,.int .u16 0,.int .u8 0,.int .i64 0,.slice none 0 0]:=by rw [←hW2];exact⟨by simp [go_sem],by simp [go_sem],by simp [go_sem,Lt]⟩
 have hk:Lk (w.heap.size+1+1+1+1+1+1) (w.heap.size+1+1+1+1+1) w.heap.size (w.heap.size+1+1+1) (w.heap.size+1+1+1+1) W2:=by
  rw [←hW2];exact⟨by simp [go_sem],by simp [go_sem],by simp [go_sem],by simp [go_sem],by simp [go_sem,Lt],by simp [go_sem,Lt]⟩
 rw [hW2];clear hW2;obtain⟨b1,e1⟩: ∃b,w.heap.size+1=b:=⟨_,rfl⟩;rw [e1]at r1 r2 r3 r4 hk⊢;obtain⟨b2,e2⟩: ∃b,b1+1=b:=⟨_,rfl⟩;rw [e2]at r2 r3 r4 hk⊢;obtain⟨b3,e3⟩: ∃b,b2+1=b:=⟨_,rfl⟩;rw [e3]at r3 r4 hk⊢;obtain⟨b4,e4⟩: ∃b,b3+1=b:=⟨_,rfl⟩;rw [e4]at r4 hk⊢;obtain⟨b5,e5⟩: ∃b,b4+1=b:=⟨_,rfl⟩;rw [e5]at hk⊢;obtain⟨b6,e6⟩: ∃b,b5+1=b:=⟨_,rfl⟩;rw [e6]at hk⊢;have h0:PSt p bs c w.heap.size b3 b4 (W2.heap.size+2) 0 W2:=⟨c0,by unfold Lt;omega,HS.out.ext g2,⟨_,_,r3,SlV.nil _ _⟩,⟨_,r4⟩⟩;refine(wpIn_wide (n:=5)).1 ?_;refine QaZ rfl Om (gf:=177) (lb:=#[.pointer (some ⟨b6,0,none⟩)]) rfl trivial QgT
  (QjJ _ p bs c w.heap.size b3 b4 b6 b5 W2 (fun k=>k=b2) HR.out hl hlc hk h0 Om Om Om Om Om Om (fun b off e=>by have:=HPB.out b off e;omega) (fun k e=>by subst e;exact⟨Om,Om,Om,Om,Om,Om,fun b off e=>by have:=HPB.out b off e;omega⟩))
  (fun A B hS hm=>hS.mv hm Om Om Om (fun b off e=>by have:=HPB.out b off e;omega) (fun k hk e=>by omega))
  (fun k e=>by omega) (fun k e=>by omega) (fun _=>rfl)
  (DrI bs b2) (DrX bs b2)
  (fun i A B h hm=>by obtain⟨⟨v,a1,a2,a3⟩⟩:=h;exact⟨⟨v,a1.mv hm Om,a2,a3⟩⟩)
  (fun cc A B h hm=>⟨h.c,h.n,h.r.mv hm Om⟩) ⟨⟨0,r2,fun j hj=>by omega,.inl rfl⟩⟩
  (fun x a' W=>RowZ W b2 #[.int .u8 x]∧a'={tmps:=#[.slice p bs.length c,.pointer (some ⟨w.heap.size,0,none⟩),.pointer (some ⟨b1,0,none⟩),.pointer (some ⟨b2,0,none⟩),.pointer (some ⟨b3,0,none⟩),.pointer (some ⟨b4,0,none⟩),.func (.func 98) #[] #[.pointer (some ⟨w.heap.size,0,none⟩),.pointer (some ⟨b3,0,none⟩)],.func (.func 99) #[] #[.pointer (some ⟨b3,0,none⟩)],.func (.func 100) #[] #[.pointer (some ⟨b3,0,none⟩),.pointer (some ⟨b4,0,none⟩)],.func (.func 98) #[] #[.pointer (some ⟨w.heap.size,0,none⟩),.pointer (some ⟨b3,0,none⟩)],.func (.func 99) #[] #[.pointer (some ⟨b3,0,none⟩)],.func (.func 100) #[] #[.pointer (some ⟨b3,0,none⟩),.pointer (some ⟨b4,0,none⟩)],.func (.func 98) #[] #[.pointer (some ⟨w.heap.size,0,none⟩),.pointer (some ⟨b3,0,none⟩)],.func (.func 99) #[] #[.pointer (some ⟨b3,0,none⟩)],.func (.func 100) #[] #[.pointer (some ⟨b3,0,none⟩),.pointer (some ⟨b4,0,none⟩)],.slice (some ⟨b5,0,none⟩) 3 3,.func (.func 177) #[] #[.pointer (some ⟨b6,0,none⟩)],.int .u8 x,undef,undef,undef,undef,undef,undef,undef,undef,undef,undef,undef,undef,undef,undef,undef,undef,undef,undef],defers:= []})
  (fun x a' A B h hm=>⟨h.1.mv hm Om,h.2⟩) ?assign ?body ?done ?stop
 case assign=>
  rintro y i x W K hsz' hv ⟨⟨v,a1,a2,a3⟩⟩ hx hK;have cd:=a1.cell 0 (by show 0<1;omega);have fd:=a1.frz 0
  gi_wp2
  exact hK _ _ (Mv.st _ (.inl rfl) (Mv.refl _ _)) ⟨⟨x,a1.set 0 _,a2,.inr hx⟩⟩ ⟨a1.set 0 _,rfl⟩
 case body=>
  rintro y i x a' W hyl ⟨rr,hr⟩ hsz' hv ⟨⟨v,a1,a2,a3⟩⟩ hx ⟨a4,rfl⟩;have cd:=a4.cell 0 (by show 0<1;omega);have HX:=Xh hx;have HA:=Xh a2;have HR4:=Xh a4;clear hx hr hv a2 a3 a1 hyl a4
  cases hq:(x==0)
  ·have hxn:x≠0:=by simpa using hq
   have HW:=Xh (Qo7 HA.out HX.out hxn)
   gi_wp2
   refine wpIn_goto ?_;exact⟨Mv.refl _ _,rfl,by rw [HW.out];exact hxn,by rw [HW.out];exact HR4.out⟩
  ·obtain rfl:x=0:=by simpa using hq
   gi_wp2
   exact⟨Mv.refl _ _,⟨⟨0,HR4.out,fun j hj z hz=>by
    rcases Nat.lt_or_ge j i with h|h
    ·exact HA.out j h z hz
    ·obtain rfl:j=i:=by omega
     rw [HX.out]at hz;exact(Option.some.inj hz).symm,.inl rfl⟩⟩⟩
 case done=>
  rintro W hS ⟨⟨v,a1,a2,a3⟩⟩ hv hK;have HW:=Xh (show Yw bs=0 from Qo8 a2);obtain⟨vo,vp,rh,-⟩:=hS.h;obtain⟨vd,rt⟩:=hS.t;have rh:RowZ W b3 (heV (hdI bs) vo vp):=rh;have rt:RowZ W b4 (tcV (tcI (hdI bs).sr (hdI bs).ds (hdI bs).pl) vd):=rt;have r1:=r1.mv hv Om;have cb:=hS.cb;have l1:=hS.l1;have s:=hS.sb;have E:=Mv.ext_of g2 hv (fun k h=>by omega);have hKs:=(Array.getElem?_eq_some_iff.1 hK).1;obtain⟨H,hH⟩: ∃H,hdI bs=H:=⟨_,rfl⟩;rw [hH]at rh rt;obtain⟨T,hT⟩: ∃T,tcI H.sr H.ds H.pl=T:=⟨_,rfl⟩;rw [hT]at rt;have HPK:=Xh (show pkI bs=⟨⟨H.sr,H.ds,T.sp,T.dp⟩,T.fl,bs⟩by unfold pkI;rw [if_pos HW.out,hH,hT]);have HKK:=Xh hK;clear a2 a3 hS hH hT hk r2 r3 r4 h0 c0 hv hK
  go_upto_region 9 with(fail)
  refine QO (fun k=>k=b1∨k=b2) Kr ?_;obtain⟨WA,hW⟩: ∃Wdr,World.drew W=Wdr:=⟨_,rfl⟩;have gD:Ext W WA:=by rw [←hW];exact Ext.dr (Ext.rf _)
  rw [hW];clear hW;have E:=E.tr gD;have rh:=rh.ext gD;have rt:=rt.ext gD;have r1:=r1.ext gD;have a1:=a1.ext gD;have s:=s.ext gD;have cb:=(gD.cell (p:=⟨w.heap.size,0,none⟩) l1).trans cb;have l1:=Xl l1 gD.size;have hk1:=(gD.block _ hKs).trans HKK.out;refine QaH (N:=16) (R:=Qo6) (E:=((Tryz.f42.body.bind (Qh 9)).getD #[])) Kr QjL Kr fun hS=> ?_;have hT:=hS.2.1;refine tMk 1 (.pointer (some ⟨b3,5,none⟩)) hS.1 hT rfl fun hT=>tM 3 (.int .u32 H.sr) hS.1 hT rfl (Qa0 (rh.cell 5 (by show 5<9;omega)) rh.l Om Kr) fun hT=>tMk 7 (.pointer (some ⟨b3,6,none⟩)) hS.1 hT rfl fun hT=>tM 15 (.int .u32 H.ds) hS.1 hT rfl (Qa0 (rh.cell 6 (by show 6<9;omega)) rh.l Om Kr) fun hT=>tMk 31 (.pointer (some ⟨b4,0,none⟩)) hS.1 hT rfl fun hT=>tM 63 (.int .u16 T.sp) hS.1 hT rfl (Qa1 (rt.cell 0 (by show 0<5;omega)) rt.l Om Kr) fun hT=>tMk 127 (.pointer (some ⟨b4,1,none⟩)) hS.1 hT rfl fun hT=>tM 255 (.int .u16 T.dp) hS.1 hT rfl (Qa1 (rt.cell 1 (by show 1<5;omega)) rt.l Om Kr) fun hT=>tMk 511 (.agg #[.int .u32 H.sr,.int .u32 H.ds,.int .u16 T.sp,.int .u16 T.dp]) hS.1 hT rfl fun hT=>tMk 1023 (.pointer (some ⟨b4,2,none⟩)) hS.1 hT rfl fun hT=>tM 2047 (.int .u8 T.fl) hS.1 hT rfl (Yv (rt.cell 2 (by show 2<5;omega)) rt.l Om Kr) fun hT=>tM 4095 (.slice p bs.length c) hS.1 hT rfl (JY cb l1 Om Kr) fun hT=> ?_;refine sM 8191 (fun v w'=>OBn w' (b6+1) v bs) hS.2.2.1 rfl (QgL (p:=p) (n:=bs.length) (c:=c) (lo:=b6+1) s Om rfl (by have:=E.size;have:=Xl hKs gD.size;omega)) ?_;rintro vb WB1 gWB1 ob;have E:=E.tr gWB1;have r1:=r1.ext gWB1;have a1:=a1.ext gWB1;obtain⟨pv,cv,rfl,-,-⟩:=ob.sl;have hkl:W2.heap.size<WB1.heap.size:=Xl (Xl hKs gD.size) gWB1.size;have hk1:=(gWB1.block _ (Xl hKs gD.size)).trans hk1;have hT:=hS.2.2.2.1;refine tMk 16383 (.agg #[.int .u32 H.sr,.int .u32 H.ds,.int .u16 T.sp,.int .u16 T.dp,.int .u8 T.fl,.slice pv bs.length cv]) hS.1 hT rfl fun hT=> ?_;refine QaO hS.2.2.2.2.1 (Qan (m':=32767) rfl rfl Kr (Qig (B:=b1) (cs:=#[.int .u32 H.sr,.int .u32 H.ds,.int .u16 T.sp,.int .u16 T.dp,.int .u8 T.fl,.slice pv bs.length cv]) (by rw [r1.r];rfl) r1.z rfl (by simp [go_sem]) Kr Kr) (Mv.sa _ (.inl rfl) (Mv.refl _ _)) ?_);obtain⟨WB2,hWB2⟩: ∃WB2,Qe WB1 b1 0 #[.int .u32 H.sr,.int .u32 H.ds,.int .u16 T.sp,.int .u16 T.dp,.int .u8 T.fl,.slice pv bs.length cv]=WB2:=⟨_,rfl⟩;have gS:Mv (fun k=>k=b1∨k=b2) WB1 WB2:=by rw [←hWB2];exact Mv.sa _ (.inl rfl) (Mv.refl _ _)
  have E:=Mv.ext_of E gS (fun k e=>by omega);have ob:=ob.mv gS (fun k e=>by omega);have hk1:=(gS.same W2.heap.size hkl Om).trans hk1;have hkl:=Xl hkl gS.size;have r1:RowZ WB2 b1 #[.int .u32 H.sr,.int .u32 H.ds,.int .u16 T.sp,.int .u16 T.dp,.int .u8 T.fl,.slice pv bs.length cv]:=by rw [←hWB2];exact r1.all _ rfl
  have a1:=a1.mv (show Mv (fun k=>k=b1) WB1 WB2 by rw [←hWB2];exact Mv.sa _ rfl (Mv.refl _ _)) Om;rw [hWB2];clear hWB2;refine QaO hS.2.2.2.2.2.1 (Qan (m':=65535) rfl rfl Kr (QgM (v:=0) (a1.cell 0 (by show 0<1;omega)) (a1.frz 0) Kr Kr) (Mv.st _ (.inl (.inr rfl)) (Mv.refl _ _)) ?_);obtain⟨WB3,hWB3⟩: ∃WB3,World.setCell WB2 ⟨b2,0,none⟩ (.int .u8 0)=WB3:=⟨_,rfl⟩;have gS:Mv (fun k=>k=b1∨k=b2) WB2 WB3:=by rw [←hWB3];exact Mv.st _ (.inl (.inr rfl)) (Mv.refl _ _)
  have E:=Mv.ext_of E gS (fun k e=>by omega);have ob:=ob.mv gS (fun k e=>by omega);have hk1:=(gS.same W2.heap.size hkl Om).trans hk1;have hkl:=Xl hkl gS.size;have a1:RowZ WB3 b2 #[.int .u8 0]:=by rw [←hWB3];exact a1.set 0 _
  have r1:=r1.mv (show Mv (fun k=>k=b2) WB2 WB3 by rw [←hWB3];exact Mv.st _ (.inl rfl) (Mv.refl _ _)) Om;rw [hWB3];clear hWB3;refine doneK hS.2.2.2.2.2.2 ?_;clear hS hT;go_simp;have HE:=Xh E;have HR1:=Xh r1;have HA1:=Xh a1;have HOB:=Xh ob;clear E r1 a1 ob rh rt s cb l1 gS gD;go_wp2;simp only [Exit.jump];refine⟨by simp,.inl ⟨_,_,rfl,run_takeDeferred (by rw [hsz]at hk1;exact hk1),?_⟩⟩;have m3:Mv (fun k=>k=w.heap.size+7) WB3 (WB3.putObj (w.heap.size+7) (.deferred none)):=Mv.put _ _ _ rfl;refine⟨_,ZL rfl _ _ b1 b2 rfl rfl (Qii (HR1.out.mv m3 Om) rfl) (QlL ((HA1.out.mv m3 Om).cell 0 (by show 0<1;omega))),.slice pv bs.length cv,?_,Mv.ext_of HE.out m3 (fun k e=>by omega),?_⟩
  ·rw [HW.out,HPK.out];rfl
  ·rw [HPK.out];exact SlV.of ((HOB.out.mv (C:=fun k=>k=b6+1) (by rw [show b6+1=w.heap.size+7 by omega];exact m3) (fun k e=>by omega)).ob.le Om)
 case stop=>
  rintro cc W ⟨rfl,hn,hd⟩ hv hK;refine wpIn_goto ?_;simp only [Exit.inBlock,Exit.then,Exit.jump];refine⟨rfl,?_⟩;have r1:=r1.mv hv Om;have a1:=hd;have E:=Mv.ext_of g2 hv (fun k h=>by omega);have hkl:=(Array.getElem?_eq_some_iff.1 hK).1;have hk1:=hK;have HPK:=Xh (show pkI bs=Qo9 by unfold pkI;rw [if_neg hn]);clear hk r2 r3 r4 h0 c0 hv hK hd hn
  go_upto_region 10 with(fail)
  refine Qy (fun k=>k=b1) (fun k=>k=b1∨k=b2) 3 Kr ?_;obtain⟨WA,hW⟩: ∃Wdr,World.drew W=Wdr:=⟨_,rfl⟩;have gD:Ext W WA:=by rw [←hW];exact Ext.dr (Ext.rf _)
  rw [hW];clear hW;have E:=E.tr gD;have r1:=r1.ext gD;have a1:=a1.ext gD;have hk1:=(gD.block _ hkl).trans hk1;have hkl:=Xl hkl gD.size;refine Zi (N:=4) (R:=QlK) (E:=((Tryz.f42.body.bind (Qh 10)).getD #[])) Kr Qih Kr fun hS=> ?_;have hT:=hS.2.1;refine ZD (N:=4) (k:=1) (m':=2) (v:= .int .u8 (Yw bs)) hS.1 hT hS.2.2.2.2.2.2 rfl rfl Kr (Yv (a1.cell 0 (by show 0<1;omega)) a1.l Om Kr) fun hT=> ?_;refine Qr hS.2.2.1 (Zq (m':=3) (v:= .agg #[.int .u32 0,.int .u32 0,.int .u16 0,.int .u16 0,.int .u8 0,.slice none 0 0]) rfl rfl Kr ((Qvp r1 rfl (fun h=>h) Kr) _ (Mv.refl (fun _=>False) _)) ⟨.inr (Mv.refl _ _),(Mv.refl _ _)⟩ ?_);refine Qr hS.2.2.2.1 (QE (m':=7) rfl rfl Kr (Qig (B:=b1) (cs:=#[.int .u32 0,.int .u32 0,.int .u16 0,.int .u16 0,.int .u8 0,.slice none 0 0]) (by rw [r1.r];rfl) r1.z rfl (by simp [go_sem]) Kr Kr) ⟨.inr (Mv.sa _ (by first|exact rfl|exact .inl rfl) (Mv.refl _ _)),(Mv.sa _ (by first|exact rfl|exact .inl rfl) (Mv.refl _ _))⟩ ?_);obtain⟨WB2,hWB2⟩: ∃WB2,Qe WA b1 0 #[.int .u32 0,.int .u32 0,.int .u16 0,.int .u16 0,.int .u8 0,.slice none 0 0]=WB2:=⟨_,rfl⟩;have gS:Mv (fun k=>k=b1∨k=b2) WA WB2:=by rw [←hWB2];exact Mv.sa _ (.inl rfl) (Mv.refl _ _)
  have E:=Mv.ext_of E gS (fun k e=>by omega);have hk1:=(gS.same W2.heap.size hkl Om).trans hk1;have hkl:=Xl hkl gS.size;have r1:RowZ WB2 b1 #[.int .u32 0,.int .u32 0,.int .u16 0,.int .u16 0,.int .u8 0,.slice none 0 0]:=by rw [←hWB2];exact r1.all _ rfl
  have a1:=a1.mv (show Mv (fun k=>k=b1) WA WB2 by rw [←hWB2];exact Mv.sa _ rfl (Mv.refl _ _)) Om;rw [hWB2];clear hWB2;refine Qr hS.2.2.2.2.1 (QE (m':=15) rfl rfl Kr (QgM (v:=Yw bs) (a1.cell 0 (by show 0<1;omega)) (a1.frz 0) Kr Kr) ⟨.inl Dc,(Mv.st _ (.inl (.inr rfl)) (Mv.refl _ _))⟩ ?_);obtain⟨WB3,hWB3⟩: ∃WB3,World.setCell WB2 ⟨b2,0,none⟩ (.int .u8 (Yw bs))=WB3:=⟨_,rfl⟩;have gS:Mv (fun k=>k=b1∨k=b2) WB2 WB3:=by rw [←hWB3];exact Mv.st _ (.inl (.inr rfl)) (Mv.refl _ _)
  have E:=Mv.ext_of E gS (fun k e=>by omega);have hk1:=(gS.same W2.heap.size hkl Om).trans hk1;have hkl:=Xl hkl gS.size;have a1:RowZ WB3 b2 #[.int .u8 (Yw bs)]:=by rw [←hWB3];exact a1.set 0 _
  have r1:=r1.mv (show Mv (fun k=>k=b2) WB2 WB3 by rw [←hWB3];exact Mv.st _ (.inl rfl) (Mv.refl _ _)) Om;rw [hWB3];clear hWB3;refine QZ hS.2.2.2.2.2.1 ?_;clear hS hT;go_simp;have HE:=Xh E;have HR1:=Xh r1;have HA1:=Xh a1;clear E r1 a1 gS gD;go_wp2;rw [Exit.noGoto_ret];refine⟨by simp,.inl ⟨_,_,rfl,run_takeDeferred (by rw [hsz]at hk1;exact hk1),?_⟩⟩;have m3:Mv (fun k=>k=w.heap.size+7) WB3 (WB3.putObj (w.heap.size+7) (.deferred none)):=Mv.put _ _ _ rfl;refine⟨_,ZL rfl _ _ b1 b2 rfl rfl (Qii (HR1.out.mv m3 Om) rfl) (QlL ((HA1.out.mv m3 Om).cell 0 (by show 0<1;omega))),.slice none 0 0,?_,Mv.ext_of HE.out m3 (fun k e=>by omega),?_⟩
  ·rw [HPK.out];rfl
  ·rw [HPK.out];exact SlV.nil _ _
theorem QgV:(Tryz.prog.info? 75).map (·.size)=some 6:=Kr
theorem QmW{b:Nat}(h:o+6≤(Qc w b).size):(Instr.loadAt 75 (.pointer (some ⟨b,o,none⟩))).run Tryz.prog w= .ok (.agg ((Qc w b).extract o (o+6))) w:=by
 have:=run_loadAt_mid w b o 75 ((Qc w b).extract o (o+6)).toList _ (QC w b o (o+6)) Tryz.underlying75 rfl (by rw [QgV];simp;omega)
 rwa [Array.toArray_toList]at this
theorem Qar{b:Nat}(h:o+6≤(Qc w b).size):(loadVar 75 ⟨b,o,none⟩).run Tryz.prog w= .ok (.agg ((Qc w b).extract o (o+6))) w:=by
 have:=run_loadVar_mid w b o 75 ((Qc w b).extract o (o+6)).toList _ (QC w b o (o+6)) Tryz.underlying75 rfl (by rw [QgV];simp;omega)
 rwa [Array.toArray_toList]at this
@[go_sem ↓ high] theorem Qct(ρ:Operand→Value)(dst:Option Tmp)(x:Operand)(ty:TypeId)(pos:String)(after:Array Edge)(g:Option (Nat×Bool))(w:World)
  (hx:ρ x= .pointer (some ⟨Qb (ρ x),Qd (ρ x),none⟩))(h:Fits (Qd (ρ x)) 6 (Qc w (Qb (ρ x)))):
  (execOp ρ ⟨dst,.load 75 x,ty,pos,after,g⟩).run Tryz.prog w= .ok (.value (.agg (QB (Qc w (Qb (ρ x))) (Qd (ρ x)) 6))) w:=by
 unfold Fits at h;generalize hB:Qb (ρ x)=B at*;generalize hO:Qd (ρ x)=O at*;simp only [execOp,hx,Sem.run_bind,QmW h,Result.andThen_ok,Sem.run_pure,QB]
@[go_sem ↓ high] theorem Qui{l:Option Nat}(w:World)
  (hx:ρ x= .pointer (some ⟨Qb (ρ x),Qd (ρ x),none⟩))(h:Fits (Qd (ρ x)) 6 (Qc w (Qb (ρ x)))):
  (Oper.semAt l ρ ⟨dst,.load 75 x,ty,pos,after,g⟩).run Tryz.prog w= .ok (.value (.agg (QB (Qc w (Qb (ρ x))) (Qd (ρ x)) 6))) w:=by rw [Oper.semAt_eq _ _ _ (fun c h=>by cases h)];exact Qct ρ dst x ty pos after g w hx h
@[go_sem ↓ high] theorem QbI(ρ:Operand→Value)(dst:Option Tmp)(x y:Operand)(ty:TypeId)(pos:String)(after:Array Edge)(g:Option (Nat×Bool))(w:World)
  (hx:ρ x= .pointer (some ⟨Qb (ρ x),Qd (ρ x),none⟩))(hy:ρ y= .agg (ρ y).cells)(hs:Qn (ρ y).cells 6)(h:Fits (Qd (ρ x)) 6 (Qc w (Qb (ρ x))))(hz:Qs w (Qb (ρ x))=(0,0))(h1:QK (ρ y).cells):
  (execOp ρ ⟨dst,.store 75 x y,ty,pos,after,g⟩).run Tryz.prog w= .ok .skip (Qe w (Qb (ρ x)) (Qd (ρ x)) (ρ y).cells):=by
 unfold Fits at h;unfold Qn at hs;generalize hB:Qb (ρ x)=B at*;generalize hO:Qd (ρ x)=O at*;generalize hC:(ρ y).cells=C at*;have hst:(Instr.storeAt 75 (.pointer (some ⟨B,O,none⟩)) (.agg C)).run Tryz.prog w= .ok () (Qe w B O C):=
  run_storeAt_mid w B O 75 C (fun j hj=>⟨by rw [Qa,Array.getElem?_eq_getElem Om];rfl,Ql hz _⟩) (by rw [QgV,hs]) h1
 simp only [execOp,hx,hy,Sem.run_bind,hst,Result.andThen_ok,Sem.run_pure]
@[go_sem ↓ high] theorem Qsp{l:Option Nat}(w:World)
  (hx:ρ x= .pointer (some ⟨Qb (ρ x),Qd (ρ x),none⟩))(hy:ρ y= .agg (ρ y).cells)(hs:Qn (ρ y).cells 6)(h:Fits (Qd (ρ x)) 6 (Qc w (Qb (ρ x))))(hz:Qs w (Qb (ρ x))=(0,0))(h1:QK (ρ y).cells):
  (Oper.semAt l ρ ⟨dst,.store 75 x y,ty,pos,after,g⟩).run Tryz.prog w= .ok .skip (Qe w (Qb (ρ x)) (Qd (ρ x)) (ρ y).cells):=by rw [Oper.semAt_eq _ _ _ (fun c h=>by cases h)];exact QbI ρ dst x y ty pos after g w hx hy hs h hz h1
theorem Qpa(hs:(Qc w B).size=6)(hz:Qs w B=(0,0))(hcs:cs.size=6)(ho:QK cs)
  (hx:ρ x= .pointer (some ⟨B,0,none⟩))(hy:ρ y= .agg cs):(execOp ρ ⟨dst,.store 75 x y,ty,pos,after,g⟩).run Tryz.prog w= .ok .skip (Qe w B 0 cs):=by
 have e:=QbI ρ dst x y ty pos after g w (by rw [hx];rfl) (by rw [hy];rfl) (by rw [hy];exact hcs) (by rw [hx];show Fits 0 6 (Qc w B);unfold Fits;omega) (by rw [hx];exact hz) (by rw [hy];exact ho);rw [e,hx,hy];rfl
structure Opt where
 ki:Int
 bu:Int
 cu:Int
 pv:Int
 ge:Int
 ti:Int
def opv(o:Opt):Array Value:=#[.int .u8 o.ki,.int .u8 o.bu,.int .i64 o.cu,.int .i64 o.pv,.int .i64 o.ge,.int .i64 o.ti]
structure Nm where
 n:Int
 lo:Int
 hi:Int
 by_:Int
def nmv(x:Nm):Array Value:=#[.int .i64 x.n,.int .i64 x.lo,.int .i64 x.hi,.int .i64 x.by_]
def J4(o:Opt):List Nm:= [⟨158,158,158,1⟩,⟨16,16,16,1⟩,⟨o.ki,1,5,1⟩,⟨o.bu,0,15,1⟩,⟨o.cu,-1,5,1⟩,⟨o.pv,-1,5,1⟩,⟨o.ge,0,2147483647,4⟩,⟨o.ti,0,1099511627776,6⟩]
def SlN(w:World)(p:Option Addr)(xs:List Nm):Prop:= ∀k,(h:k<xs.length)→ ∃b off,p=some ⟨b,off,none⟩∧b<w.heap.size∧w.cell? ⟨b,off+k*4,none⟩=some (.int .i64 xs[k].n)∧w.cell? ⟨b,off+k*4+1,none⟩=some (.int .i64 xs[k].lo)∧w.cell? ⟨b,off+k*4+2,none⟩=some (.int .i64 xs[k].hi)∧w.cell? ⟨b,off+k*4+3,none⟩=some (.int .i64 xs[k].by_)
theorem SlN.ext{p:Option Addr}{xs:List Nm}(h:SlN w p xs)(e:Ext w w'):SlN w' p xs:=fun k hk=>by
 obtain⟨b,off,hp,hb,c0,c1,c2,c3⟩:=h k hk;exact⟨b,off,hp,Xl hb e.size,(e.cell (p:=⟨b,_,none⟩) hb).trans c0,(e.cell (p:=⟨b,_,none⟩) hb).trans c1,(e.cell (p:=⟨b,_,none⟩) hb).trans c2,(e.cell (p:=⟨b,_,none⟩) hb).trans c3⟩
theorem SlN.mvc{B:World}{p:Option Addr}{xs:List Nm}(h:SlN A p xs)(m:Mv C A B)(hb: ∀b off,p=some ⟨b,off,none⟩→ ¬C b):SlN B p xs:=fun k hk=>by
 obtain⟨b,off,hp,h2,c0,c1,c2,c3⟩:=h k hk;have e:=Qf (m.same b h2 (hb b off hp));simp only [Qa]at c0 c1 c2 c3⊢;exact⟨b,off,hp,Xl h2 m.size,by rw [e];exact c0,by rw [e];exact c1,by rw [e];exact c2,by rw [e];exact c3⟩
def Nm.cl(x:Nm):List Value:= [.int .i64 x.n,.int .i64 x.lo,.int .i64 x.hi,.int .i64 x.by_]
def flN:List Nm→List Value
 | []=> []
 |x::xs=>x.cl++flN xs
theorem QlM: ∀(xs:List Nm) (k j:Nat) (hk:k<xs.length),j<4→(flN xs)[k*4+j]?=(xs[k]).cl[j]?
 |x::xs,0,j,_,hj=>by
  show(x.cl++flN xs)[0*4+j]?=_;rw [Nat.zero_mul,Nat.zero_add,List.getElem?_append_left (by show j<4;exact hj)];rfl
 |x::xs,k+1,j,hk,hj=>by
  show(x.cl++flN xs)[(k+1)*4+j]?=_;have hc:x.cl.length=4:=rfl;rw [List.getElem?_append_right Om,hc,show(k+1)*4+j- 4=k*4+j by omega];exact QlM xs k j (by simpa using hk) hj
theorem SlN.row{xs:List Nm}(h:Qc w B=(flN xs).toArray)(hl:Lt B w):SlN w (some ⟨B,0,none⟩) xs:=fun k hk=>by
 have key: ∀j,j<4→w.cell? ⟨B,0+k*4+j,none⟩=(xs[k]).cl[j]?:=fun j hj=>by
  rw [←QlM xs k j hk hj,Qa,h,Nat.zero_add];simp
 exact⟨B,0,rfl,hl,key 0 Om,key 1 Om,key 2 Om,key 3 Om⟩
structure NumsAt(w:World)(o:Opt)(Bv:Nat)(w':World):Prop where
 e:Ext w w'
 lo:w.heap.size≤Bv
 ex: ∃br,w'.cell? ⟨Bv,0,none⟩=some (.slice (some ⟨br,0,none⟩) (J4 o).length 8)∧SlN w' (some ⟨br,0,none⟩) (J4 o)∧w.heap.size≤br∧br<Bv
 l:Lt Bv w'
theorem Qa2(o:Opt)(w:World)(h0:0≤o.ki∧o.ki<256)(h1:0≤o.bu∧o.bu<256):
  Calls Tryz.prog 168 #[.agg (opv o)] w fun e w'=> ∃Bv,e= .returned (.func (.func 212) #[] #[.pointer (some ⟨Bv,0,none⟩)])∧NumsAt w o Bv w':=by
 obtain⟨ki,bu,cu,pv,ge,ti⟩:=o;dsimp only at h0 h1;unfold opv
 go_enter Tryz.func168,Tryz.ntmps168
 go_wp2;go_ret;refine⟨w.heap.size+1+1,rfl,Ext.al (Ext.al Ea _) _,Om,⟨w.heap.size+1,by simp [go_sem,J4],SlN.row ?_ (by simp [go_sem,Lt]),Om,Om⟩,by simp [go_sem,Lt]⟩;rw [Qd8,if_neg (by simp),Qd8,if_pos (by simp)];rfl
theorem JB: ∀args w,(callFunc 212 args).run Tryz.prog w= .ok (.enter 212 args) w:=enters_of Tryz.func212 Kr rfl
theorem Qas(n:Nat)(xs:List Nm)(p:Option Addr)(c:Nat)(w:World)(Bl:Nat)(U:Nat→Prop)(hs:SlN w p xs)(hpb: ∀b off,p=some ⟨b,off,none⟩→b<w.heap.size)(hl:xs.length≤1000)(hc:w.cell? ⟨Bl,0,none⟩=some (.slice p xs.length c))(lb:Lt Bl w)(hU: ∀k,U k→k≠Bl∧ ∀b off,p=some ⟨b,off,none⟩→k≠b):
  QcT Fence.wide n Tryz.prog 212 #[.pointer (some ⟨Bl,0,none⟩)] (fun x:Nm=>#[.agg (nmv x)]) (fun _=>False) U xs w:=by
 intro y J Jx W hW hJ hJx hY hJ0;have HJ:=Xh hJ;have HJx:=Xh hJx;have HU:=Xh hU;have HS:=Xh hs;clear hJ hJx hU hs;obtain⟨yfn,ytm,yas,ybo,hY⟩:=hY;have HY:=Xh hY;clear hY;have hcW:W.cell? ⟨Bl,0,none⟩=some (.slice p xs.length c):=(hW.cell (p:=⟨Bl,0,none⟩) lb).trans hc;have lbW:Lt Bl W:=Xl lb hW.size;have h0W:=HS.out.ext hW;have HPB:=Xh hpb;clear hpb;refine callsIn_of_wp Tryz.func212 rfl trivial ?_ rfl;simp only [Tryz.ntmps212,List.size_toArray,List.length_cons,List.length_nil,Nat.reduceAdd,Nat.reduceSub,Array.replicate_succ,Array.replicate_zero,List.push_toArray,List.append_toArray,List.nil_append,List.cons_append];refine wpIn_wide.2 ?_;go_wp2
 go_loopw [4,7] (fun _ a wr=> ∃i:Nat,i≤xs.length∧a= .int .i64 i∧J i wr∧SlN wr p xs) (fun _ a _=>xs.length- (intOf a).toNat)
 case atStart=>exact⟨0,Nat.zero_le _,rfl,hJ0,h0W⟩
 case round=>
  clear hcW lbW h0W hJ0;obtain⟨i,hi,rfl,hJi,hE⟩:=hrel
  by_cases hlt:i<xs.length
  ·have hlt':(i:Int)<xs.length:=by omega
   obtain⟨b,off,rfl,hb,c0,c1,c2,c3⟩:=hE i hlt;obtain⟨x,hx⟩: ∃x,xs[i]=x:=⟨_,rfl⟩;rw [hx]at c0 c1 c2 c3;have lbb:Lt b wr:=hb;have HX:=Xh (show xs[i]?=some x by rw [List.getElem?_eq_getElem hlt,hx]);have HE:=Xh hE;have HJI:=Xh hJi;clear hx hJi hE
   go_upto_region 3 with(fail)
   obtain⟨W1,hW1⟩: ∃W1,wr.alloc (.cells #[.int .i64 x.n,.int .i64 x.lo,.int .i64 x.hi,.int .i64 x.by_] 210)=W1:=⟨_,rfl⟩;have g1:Ext wr W1:=by rw [←hW1];exact Ea
   have r1:RowZ W1 wr.heap.size #[.int .i64 x.n,.int .i64 x.lo,.int .i64 x.hi,.int .i64 x.by_]:=by rw [←hW1];exact RowZ.new _ _ _
   rw [hW1];clear hW1 c0 c1 c2 c3;have d0:=r1.cell 0 (by show 0<4;omega);have d1:=r1.cell 1 (by show 1<4;omega);have d2:=r1.cell 2 (by show 2<4;omega);have d3:=r1.cell 3 (by show 3<4;omega);have l1:=r1.l;have hJ1:=HJ.out _ _ _ HJI.out (Mv.of_ext g1);have hrun:(Instr.yield y #[.agg #[.int .i64 x.n,.int .i64 x.lo,.int .i64 x.hi,.int .i64 x.by_]]).run Tryz.prog W1= .ok (.round y yfn (ytm #[.agg #[.int .i64 x.n,.int .i64 x.lo,.int .i64 x.hi,.int .i64 x.by_]]) yas ybo) W1:=(HY.out i x W1 hJ1 HX.out).1;have HRD:=Xh (HY.out i x W1 hJ1 HX.out).2;have HG1:=Xh g1;clear g1 r1 hJ1;refine(wpIn_wide (n:=n)).1 ?_
   gi_wp2
   refine⟨(fun h=>by cases h),(HRD.out).mono ?_⟩;rintro e w6 ⟨bb,rfl,hP⟩;clear hrun HRD d0 d1 d2 d3;obtain⟨rfl,hJ6,hm6⟩|⟨rfl,hx6⟩:=hP
   ·have hE6:=(HE.out.ext HG1.out).mvc hm6 (fun b off e=>by rintro(h|h);exact(HU.out _ h).2 b off e rfl;(have:=HPB.out b off e;omega));clear hm6
    gi_wp2
    go_wp2
    go_roundw
    case rel=>exact⟨i+1,Om,by go_num,hJ6,hE6⟩
    case measure=>simp [intOf];omega
   ·gi_wp2
    go_wp2;exact bodyPost_ret (results_none rfl _ _ _) rfl ⟨⟨_,rfl⟩,.inr hx6⟩
  ·obtain rfl:i=xs.length:=by omega
   go_wp2
   go_end0
   exact⟨⟨_,rfl⟩,.inl hJi⟩
theorem Qpb(o:Opt):(opv o).size=6:=rfl
theorem Qcu(o:Opt):opv o=#[.int .u8 o.ki,.int .u8 o.bu,.int .i64 o.cu,.int .i64 o.pv,.int .i64 o.ge,.int .i64 o.ti]:=rfl
@[go_sem] theorem Qx9{o:Opt}:Fits k m (opv o)=(k+m≤6):=by unfold Fits;rw [Qpb]
@[go_sem] theorem Qvq{o:Opt}:Qn (opv o) 6:=rfl
@[go_sem] theorem Qya{o:Opt}:QK (opv o):=by rw [Qcu,Qsn];exact⟨rfl,rfl,rfl,rfl,rfl,rfl⟩
@[go_sem ↓ high] theorem QwW{o:Opt}:(Value.agg (opv o)).cells=opv o:=QF _
@[go_sem] theorem Qyb{o:Opt}:QB (opv o) 0 6=opv o:=rfl
def QeG(x:Nm):Bool:=decide (x.lo≤x.n)&&decide (x.n≤x.hi)
def ZO(o:Opt):Bool:=(J4 o).all QeG
theorem Qb6(o:Opt)(w:World)(h0:0≤o.ki∧o.ki<256)(h1:0≤o.bu∧o.bu<256):
  Cr 169 #[.agg (opv o)] w (.bool (ZO o)):=by
 have HN:=Xh (fun W=>Qa2 o W h0 h1);clear h0 h1;refine(callsIn_wide (n:=5)).1 ?_;refine callsIn_of_wp_marks Tryz.func169 rfl trivial ?_ rfl;simp only [Tryz.ntmps169,List.size_toArray,List.length_cons,List.length_nil,Nat.reduceAdd,Nat.reduceSub,Array.replicate_succ,Array.replicate_zero,List.push_toArray,List.append_toArray,List.nil_append,List.cons_append];refine wpIn_wide.2 ?_;go_wp2;refine Qp 0 rfl ?_
 go_wp2_with (go_at_call 168;(refine(HN.out _).mono ?_);rintro e w1 ⟨Bv,rfl,⟨g1,lo1,⟨br,cv,sv,br1,br2⟩,lv⟩⟩)
 have g2:Ext w w1:=Ea.tr g1;simp only [World.size_alloc]at lo1;refine(wpIn_wide (n:=5)).1 ?_;refine ZI rfl Om (gf:=212) (lb:=#[.pointer (some ⟨Bv,0,none⟩)]) rfl trivial JB
  (Qas _ (J4 o) (some ⟨br,0,none⟩) 8 w1 Bv (fun _=>False) sv (fun b off e=>by cases e;exact Nat.lt_trans br2 lv) (by show 8≤1000;omega) cv lv (fun _ h=>h.elim))
  (fun k h=>h.elim) (fun k h=>h.elim) (fun _=>rfl)
  (fun i _=> ∀j,j<i→ ∀h:j<(J4 o).length,QeG (J4 o)[j]=true) (fun cc _=>cc= .goto 0∧ZO o=false)
  (fun _ _ _ h _=>h) (fun _ _ _ h _=>h) (fun j hj=>by omega)
  (fun x a' W=> ∃Bx,w1.heap.size+2≤Bx∧RowZ W Bx #[.int .i64 x.n,.int .i64 x.lo,.int .i64 x.hi,.int .i64 x.by_]∧a'={tmps:=#[.agg (opv o),.pointer (some ⟨w.heap.size,0,none⟩),.bool false,.pointer (some ⟨Bx,0,none⟩),.agg (opv o),.func (.func 212) #[] #[.pointer (some ⟨Bv,0,none⟩)],.agg #[.int .i64 x.n,.int .i64 x.lo,.int .i64 x.hi,.int .i64 x.by_],undef,undef,undef,undef,undef,undef,undef,undef,undef,undef,undef,undef],defers:= []})
  (fun x a' A B h hm=>by
   obtain⟨Bx,q1,q2,q3⟩:=h
   exact⟨Bx,q1,q2.mv hm Om,q3⟩)
  ?assign ?body ?done ?stop
 case assign=>
  intro y i x W K hsz hv hI hx hK;unfold nmv
  gi_wp2
  exact hK _ _ (Mv.al _ (Mv.refl _ _)) hI ⟨W.heap.size,hsz,RowZ.new _ _ _,rfl⟩
 case body=>
  rintro y i x a' W hyl ⟨rr,hr⟩ hsz hv hI hx ⟨Bx,q1,q2,rfl⟩;have hil:i<(J4 o).length:=(List.getElem?_eq_some_iff.1 hx).1;have hxi:(J4 o)[i]=x:=(List.getElem?_eq_some_iff.1 hx).2;have d0:=q2.cell 0 (by show 0<4;omega);have d1:=q2.cell 1 (by show 1<4;omega);have d2:=q2.cell 2 (by show 2<4;omega);have HI:=Xh hI;have HXI:=Xh hxi;clear hI hxi hx hr q2 hv
  cases t1:decide (x.lo≤x.n)
  ·have t1':x.n<x.lo:=by have:=of_decide_eq_false t1;omega
   have HLS:=Xh (show QeG x=false by unfold QeG;rw [t1];rfl);clear t1
   gi_wp2
   refine wpIn_goto ?_;exact⟨Mv.refl _ _,rfl,List.all_eq_false.2 ⟨x,by rw [←HXI.out];exact List.getElem_mem hil,by rw [HLS.out];decide⟩⟩
  ·have t1': ¬x.n<x.lo:=by have:=of_decide_eq_true t1;omega
   cases t2:decide (x.n≤x.hi)
   ·have t2':x.hi<x.n:=by have:=of_decide_eq_false t2;omega
    have HLS:=Xh (show QeG x=false by unfold QeG;rw [t1,t2];rfl);clear t1 t2
    gi_wp2
    refine wpIn_goto ?_;exact⟨Mv.refl _ _,rfl,List.all_eq_false.2 ⟨x,by rw [←HXI.out];exact List.getElem_mem hil,by rw [HLS.out];decide⟩⟩
   ·have t2': ¬x.hi<x.n:=by have:=of_decide_eq_true t2;omega
    have HLS:=Xh (show QeG x=true by unfold QeG;rw [t1,t2];rfl);clear t1 t2
    gi_wp2
    exact⟨Mv.refl _ _,fun j hj hjl=>by
     rcases Nat.lt_or_ge j i with h|h
     ·exact HI.out j h hjl
     ·obtain rfl:j=i:=by omega
      rw [HXI.out];exact HLS.out⟩
 case done=>
  rintro W hI hv hK;have HRT:=Xh (show ZO o=true from List.all_eq_true.2 fun z hz=>by obtain⟨j,hj,rfl⟩:=List.mem_iff_getElem.1 hz;exact hI j hj hj);have HG:=Xh (Mv.ext_of g2 hv (fun k h=>by rcases h with h|h<;>exact h.elim));clear hI hv g1 g2;go_wp2;simp only [Exit.jump];refine⟨by simp,.inl ⟨_,_,rfl,run_takeDeferred hK,?_⟩⟩;refine⟨_,results_tmp rfl _ _ _,by rw [HRT.out];rfl,?_⟩;exact Mv.ext_of HG.out (Mv.put (C:=fun k=>k=w1.heap.size) _ _ _ rfl) (fun k h=>by unfold Lt at lv;omega)
 case stop=>
  rintro cc W ⟨rfl,hn⟩ hv hK;have HRF:=Xh (show ZO o=false from hn);have HG:=Xh (Mv.ext_of g2 hv (fun k h=>by rcases h with h|h<;>exact h.elim));clear hn hv g1 g2;refine wpIn_goto ?_;simp only [Exit.inBlock,Exit.then,Exit.jump];refine⟨rfl,?_⟩;go_wp2;rw [Exit.noGoto_ret];refine⟨by simp,.inl ⟨_,_,rfl,run_takeDeferred hK,?_⟩⟩;refine⟨_,results_tmp rfl _ _ _,by rw [HRF.out];rfl,?_⟩;exact Mv.ext_of HG.out (Mv.put (C:=fun k=>k=w1.heap.size) _ _ _ rfl) (fun k h=>by unfold Lt at lv;omega)
def QV:Opt:=⟨0,0,0,0,0,0⟩
def QgW(o:Opt):Opt:=if ZO o then o else QV
def QgX(o:Opt):Int:=if ZO o then 0 else 2
theorem Qpc{tmps:Array Value}{g:Nat}(hp:tmps.getD 2 undef= .pointer (some ⟨g,0,none⟩))(hr:Qc w g=cs)(hc:cs.size=6):
  (results Tryz.f193 tmps).run Tryz.prog w= .ok (.tuple #[.agg cs,tmps.getD 3 undef]) w:=
 QL rfl tmps w g hp (by
  rw [Qar (by rw [hr,hc];omega),hr]
  rw [show cs.extract 0 (0+6)=cs by rw [Nat.zero_add,←hc];simp])
theorem Qsq(o:Opt)(w:World)(h0:0≤o.ki∧o.ki<256)(h1:0≤o.bu∧o.bu<256):
  Cr 193 #[.agg (opv o)] w (.tuple #[.agg (opv (QgW o)),.int .i64 (QgX o)]):=by
 have HN:=Xh (fun W=>Qb6 o W h0 h1);clear h0 h1
 go_enter Tryz.func193,Tryz.ntmps193
 go_upto_region 1 with(fail)
 obtain⟨W0,hW⟩: ∃W0,(w.alloc (.cells (opv o) 75)).alloc (.cells #[.int .u8 0,.int .u8 0,.int .i64 0,.int .i64 0,.int .i64 0,.int .i64 0] 75)=W0:=⟨_,rfl⟩;have g0:Ext w W0:=by rw [←hW];exact Ext.al Ea _
 have r1:RowZ W0 w.heap.size (opv o):=by rw [←hW];exact⟨by simp [go_sem],by simp [go_sem],by simp [go_sem,Lt]⟩
 have r2:RowZ W0 (w.heap.size+1) #[.int .u8 0,.int .u8 0,.int .i64 0,.int .i64 0,.int .i64 0,.int .i64 0]:=by rw [←hW];exact⟨by simp [go_sem],by simp [go_sem],by simp [go_sem,Lt]⟩
 rw [hW];clear hW;have hR1:=r1.r
 cases hq:ZO o
 ·have HM:=Xh (show QgW o=QV∧QgX o=2 by unfold QgW QgX;rw [hq];exact⟨rfl,rfl⟩);rw [hq]at HN;have HR2:=Xh r2;clear r1 r2
  go_wp2_with (go_at_call 169;(refine(HN.out _).mono ?_);rintro e w1 ⟨rfl,g1⟩;have hR:=(HR2.out.ext g1).r;have hZ:=(HR2.out.ext g1).z;have hL:=(HR2.out.ext g1).l)
  refine bodyPost_ret (Qpc (cs:=opv QV) rfl (Qq _ _ _ (by rw [hR];try rfl)) rfl) rfl ?_;rw [HM.out.1,HM.out.2];exact⟨rfl,Ext.sa _ Om (g0.tr g1)⟩
 ·have HM:=Xh (show QgW o=o∧QgX o=0 by unfold QgW QgX;rw [hq];exact⟨rfl,rfl⟩);rw [hq]at HN;have HR2:=Xh r2;have HR1:=Xh r1;clear r1 r2
  go_wp2_with (go_at_call 169;(refine(HN.out _).mono ?_);rintro e w1 ⟨rfl,g1⟩;have hR:=(HR2.out.ext g1).r;have hZ:=(HR2.out.ext g1).z;have hL:=(HR2.out.ext g1).l;have hRr:=(HR1.out.ext g1).r)
  refine bodyPost_ret (Qpc (cs:=opv o) rfl (Qq _ _ _ (by rw [hR];try rfl)) rfl) rfl ?_;rw [HM.out.1,HM.out.2];exact⟨rfl,Ext.sa _ Om (g0.tr g1)⟩
@[go_sem ↓ high] theorem QzW{a0 b0 a1 b1 a2 b2 a3 b3 a4 b4 a5 b5:Int}(w:World):
  (binOp .eql 75 (.agg #[.int .u8 a0,.int .u8 a1,.int .i64 a2,.int .i64 a3,.int .i64 a4,.int .i64 a5]) (.agg #[.int .u8 b0,.int .u8 b1,.int .i64 b2,.int .i64 b3,.int .i64 b4,.int .i64 b5])).run Tryz.prog w= .ok (.bool (a0==b0&&a1==b1&&a2==b2&&a3==b3&&a4==b4&&a5==b5)) w:=by
 go_simp
 by_cases h0:a0=b0<;>by_cases h1:a1=b1<;>by_cases h2:a2=b2<;>by_cases h3:a3=b3<;>by_cases h4:a4=b4<;>by_cases h5:a5=b5<;>simp [*]
theorem Qpd(o:Opt):opv o=#[.int .u8 o.ki,.int .u8 o.bu,.int .i64 o.cu,.int .i64 o.pv,.int .i64 o.ge,.int .i64 o.ti]:=rfl
theorem QgY{tmps:Array Value}{g:Nat}(hp:tmps.getD 6 undef= .pointer (some ⟨g,0,none⟩))(hr:Qc w g=cs)(hc:cs.size=6):
  (results Tryz.f121 tmps).run Tryz.prog w= .ok (.tuple #[.agg cs,tmps.getD 7 undef]) w:=
 QL rfl tmps w g hp (by
  rw [Qar (by rw [hr,hc];omega),hr]
  rw [show cs.extract 0 (0+6)=cs by rw [Nat.zero_add,←hc];simp])
theorem QjM(o:Opt)(k g:Int)(h1:0≤o.bu∧o.bu<256)(hk:0≤k∧k<256)(W:World):
  Cr 193 #[.agg #[.int .u8 k,.int .u8 o.bu,.int .i64 o.cu,.int .i64 o.pv,.int .i64 g,.int .i64 o.ti]] W (.tuple #[.agg (opv (QgW {o with ki:=k,ge:=g})),.int .i64 (QgX {o with ki:=k,ge:=g})]):=Qsq {o with ki:=k,ge:=g} W hk h1
theorem QjN(o:Opt)(k g:Int)(w:World)(h1:0≤o.bu∧o.bu<256)(hk:0≤k∧k<256):
  Cr 121 #[.agg (opv o),.int .u8 k,.int .i64 g] w (.tuple #[.agg (opv (QgW {o with ki:=k,ge:=g})),.int .i64 (QgX {o with ki:=k,ge:=g})]):=by
 have HM:=Xh (QjM o k g h1 hk);rw [Qpd o];obtain⟨mo,hmo⟩: ∃m,QgW {o with ki:=k,ge:=g}=m:=⟨_,rfl⟩;obtain⟨me,hme⟩: ∃m,QgX {o with ki:=k,ge:=g}=m:=⟨_,rfl⟩;rw [hmo,hme]at HM⊢;clear hmo hme h1 hk;obtain⟨ki,bu,cu,pv,ge,ti⟩:=o;dsimp only at HM⊢
 go_enter Tryz.func121,Tryz.ntmps121
 go_upto_region 1 with(fail)
 obtain⟨W0,hW⟩: ∃W0,(w.alloc (.cells #[.int .u8 ki,.int .u8 bu,.int .i64 cu,.int .i64 pv,.int .i64 ge,.int .i64 ti] 75)).alloc (.cells #[.int .u8 0,.int .u8 0,.int .i64 0,.int .i64 0,.int .i64 0,.int .i64 0] 75)=W0:=⟨_,rfl⟩;have g0:Ext w W0:=by rw [←hW];exact Ext.al Ea _
 have r1:RowZ W0 w.heap.size #[.int .u8 ki,.int .u8 bu,.int .i64 cu,.int .i64 pv,.int .i64 ge,.int .i64 ti]:=by rw [←hW];exact⟨by simp [go_sem],by simp [go_sem],by simp [go_sem,Lt]⟩
 have r2:RowZ W0 (w.heap.size+1) #[.int .u8 0,.int .u8 0,.int .i64 0,.int .i64 0,.int .i64 0,.int .i64 0]:=by rw [←hW];exact⟨by simp [go_sem],by simp [go_sem],by simp [go_sem,Lt]⟩
 rw [hW];clear hW;have hR1:=r1.r;have hL1:=r1.l
 go_upto_region 2 with(fail)
 obtain⟨W1,hW⟩: ∃W1,Qe (W0.alloc (.cells #[.int .u8 0,.int .u8 0,.int .i64 0,.int .i64 0,.int .i64 0,.int .i64 0] 75)) W0.heap.size 0 #[.int .u8 ki,.int .u8 bu,.int .i64 cu,.int .i64 pv,.int .i64 ge,.int .i64 ti]=W1:=⟨_,rfl⟩;have g1:Ext W0 W1:=by rw [←hW];exact Ext.sa _ (Nat.le_refl _) Ea
 have r8:RowZ W1 W0.heap.size #[.int .u8 ki,.int .u8 bu,.int .i64 cu,.int .i64 pv,.int .i64 ge,.int .i64 ti]:=by rw [←hW];exact(RowZ.new W0 #[.int .u8 0,.int .u8 0,.int .i64 0,.int .i64 0,.int .i64 0,.int .i64 0] 75).all _ rfl
 have r1:=r1.ext g1;have r2:=r2.ext g1;have hn8:w.heap.size≠W0.heap.size:=by unfold Lt at hL1;omega
 have hn2:w.heap.size≠w.heap.size+1:=by omega
 rw [hW];clear hW hR1 hL1;have g01:=g0.tr g1;clear g0 g1;obtain⟨B8,hB8⟩: ∃b,W0.heap.size=b:=⟨_,rfl⟩;rw [hB8]at r8 hn8⊢;clear hB8;have c0:=r1.cell 0 (by show 0<6;omega);have c4:=r1.cell 4 (by show 4<6;omega);have f0:=r1.frz 0;have f4:=r1.frz 4
 go_upto_region 3 with(fail)
 obtain⟨W2,hW⟩: ∃W2,(W1.setCell ⟨w.heap.size,0,none⟩ (.int .u8 k)).setCell ⟨w.heap.size,4,none⟩ (.int .i64 g)=W2:=⟨_,rfl⟩;have gS:Mv (fun x=>x=w.heap.size) W1 W2:=by rw [←hW];exact Mv.st _ (.inl rfl) (Mv.st _ (.inl rfl) (Mv.refl _ _))
 have r1:RowZ W2 w.heap.size #[.int .u8 k,.int .u8 bu,.int .i64 cu,.int .i64 pv,.int .i64 g,.int .i64 ti]:=by rw [←hW];exact(r1.set 0 _).set 4 _
 have r2:=r2.mv gS (fun e=>hn2 e.symm);have r8:=r8.mv gS (fun e=>hn8 e.symm);have E:=Mv.ext_of g01 gS (fun x e=>by rw [e];exact Nat.le_refl _);rw [hW];clear hW c0 c4 f0 f4 gS g01;have hR1:=r1.r;have hL1:=r1.l;have hR8:=r8.r;have hL8:=r8.l;have HR2:=Xh r2;have HE:=Xh E;clear r1 r2 r8 E
 cases q1:(k==ki)
 ·go_wp2_with (go_at_call 193;(refine(HM.out _).mono ?_);rintro e w1 ⟨rfl,g1⟩;have hR:=(HR2.out.ext g1).r;have hZ:=(HR2.out.ext g1).z;have hL:=(HR2.out.ext g1).l)
  refine bodyPost_ret (QgY (cs:=opv mo) rfl (Qq _ _ _ (by rw [hR];try rfl)) rfl) rfl ?_;exact⟨rfl,Ext.sa _ Om (HE.out.tr g1)⟩
 ·cases q2:(g==ge)
  ·go_wp2_with (go_at_call 193;(refine(HM.out _).mono ?_);rintro e w1 ⟨rfl,g1⟩;have hR:=(HR2.out.ext g1).r;have hZ:=(HR2.out.ext g1).z;have hL:=(HR2.out.ext g1).l)
   refine bodyPost_ret (QgY (cs:=opv mo) rfl (Qq _ _ _ (by rw [hR];try rfl)) rfl) rfl ?_;exact⟨rfl,Ext.sa _ Om (HE.out.tr g1)⟩
  ·obtain rfl:k=ki:=by simpa using q1
   obtain rfl:g=ge:=by simpa using q2
   clear q1 q2
   go_wp2_with (go_at_call 193;(refine(HM.out _).mono ?_);rintro e w1 ⟨rfl,g1⟩;have hR:=(HR2.out.ext g1).r;have hZ:=(HR2.out.ext g1).z;have hL:=(HR2.out.ext g1).l)
   refine bodyPost_ret (QgY (cs:=opv mo) rfl (Qq _ _ _ (by rw [hR];try rfl)) rfl) rfl ?_;exact⟨rfl,Ext.sa _ Om (HE.out.tr g1)⟩
section
variable {F:Fence} {n:Nat} {P:Program} {ops:Array Oper} {md:Region.Mode} {C D:Nat→Prop} {r:Nat}
theorem Qik{K:Act→World→Prop}{Q:Exit→Act→World→Prop}(hF: ∀f,F.fn f)(hdp:F.depth.isSome=true→1≤n)(hC: ∀f args w (R:Ending→World→Prop),Calls P f args w R→CallsIn F (n- 1) P f args w R)(hd: ∀o,ops[i]?=some o→ ∀c,o.op≠ .defer c)(hh:Jj P ops i K a w):wpOpIn F n P ops Q i K a w:=by
 unfold Jj at hh;unfold wpOpIn
 split
 ·rename_i ho;simp only [ho]at hh;exact hh
 ·rename_i o ho
  simp only [ho]at hh
  split
  ·rename_i hw
   simp only [hw,if_true]at hh;refine⟨fun f _=>hF f,?_⟩;have hs:Oper.semAt F.round a.eval o=execOp a.eval o:=by
    cases F.round with
    |none=>rfl
    |some l=>exact Oper.semAt_some l _ _ (hd o ho)
   rw [hs];generalize (execOp a.eval o).run P w=q at*
   cases q with
   |ok x w'=>
    cases x<;>simp only [xUponK]at hh<;>simp only [Oper.uponIn]
    case value u=>exact hh
    case skip=>exact hh
    case enter f args=>exact⟨hdp,(hC f args w' _ hh).mono fun e w'' ⟨v,he,hw''⟩=>by subst he;exact hw''⟩
   |halt x w'=>simp only [xUponK]at hh
  ·rename_i hw;simp only [hw]at hh;exact⟨fun f _=>hF f,hh⟩
theorem Qcv{Q':Exit→Act→World→Prop}(hF: ∀f,F.fn f)(hdp:F.depth.isSome=true→1≤n)(hC: ∀f args w (R:Ending→World→Prop),Calls P f args w R→CallsIn F (n- 1) P f args w R)(hd: ∀(i:Nat) o,ops[i]?=some o→ ∀c,o.op≠ .defer c)(hQ: ∀a w,Q a w→Q' .normal a w): ∀(fuel:Nat) (listed:Array Bool) (a:Act) (w:World),
  QP C D r P md ops Q fuel listed a w→wpAnyIn F n P md ops Q' fuel listed a w
 |0,_,_,_,h=>⟨h.1,hQ _ _ h.2⟩
 |fuel+1,_,_,_,h=>⟨fun h0=>hQ _ _ (h.1 h0),fun i hi=>Qik hF hdp hC (hd i) (Jv (fun a' w' h1=>Qcv hF hdp hC hd hQ fuel _ a' w' h1.2) (h.2 i hi))⟩
theorem ZW{id:Nat}{Q:Exit→Act→World→Prop}(C D:Nat→Prop)(r:Nat)(hF: ∀f,F.fn f)(hdp:F.depth.isSome=true→1≤n)(hC: ∀f args w (R:Ending→World→Prop),Calls P f args w R→CallsIn F (n- 1) P f args w R)(hd:(ops.all fun o=>match o.op with| .defer _=>false|_=>true)=true)(hm:P.follows .mixedOrders=true)
  (h:QP C D r P .any ops (fun a w=>Q .normal a w) ops.size (Array.replicate ops.size false) a w.drew):(Code.region id ops true).wpIn F n P Q a w:=
 wpIn_region_any hm (Qcv hF hdp hC (fun i o ho c e=>by
  rw [Array.all_eq_true']at hd;have:=hd o (Array.mem_of_getElem? ho);rw [e]at this
  cases this) (fun _ _ h=>h) _ _ _ _ h)
end
def nmB(x:Nm):List Int:=byN x.n x.by_.toNat
def Ym(o:Opt):List Int:=(J4 o).flatMap nmB
theorem Qyc{ops:Array Oper}{D:Nat→Prop}{r:Nat}{A:Nat}{v1:Value}{b1:List Int}{x1:Int}
  (hm:m|||(1<<<k)=m')(hi:ops[k]?=some ⟨dst,.call {callee:= .builtin .append,args:=#[x,y],argTypes:=#[28,28]},ty,pos,after,none⟩)(hx:a.eval x=v1)(hy:a.eval y= .slice (some ⟨A,0,none⟩) 1 1)(h1:OB w base v1 b1)(hA:w.cell? ⟨A,0,none⟩=some (.int .u8 x1))(hl:b1.length≤1000)(hC: ∀r,v1.ownBlock=some r→C r)(hCD: ∀k,C k→D k)(hb:base≤w.heap.size)
  (H: ∀v' w',OB w' base v' (b1++ [x1])→w.grownBy w' v1.ownBlock→Mv C w w'→QP C D r Tryz.prog .any ops Q fuel (msk N m') (a.put dst v') w'):QaX C D r Tryz.prog ops Q fuel N k m a w:=by
 obtain⟨i0,hi0,hz0,hz,hz2⟩:=info_parts YB
 obtain⟨v',w',hr,ho,hg,-,-⟩:=run_append_own_at (P:=Tryz.prog) w base 28 ty 5 i0 (.int .u8 0) 1 1 Tryz.underlying28 hi0 hz0 hz hz2 rfl Dc v1 b1.length _ h1 ⟨A,0,none⟩ 1 1 [.int .u8 x1] rfl (fun j u hu=>by
  match j,hu with
  |0,h=>cases h;exact hA) (by intro u hu;simp at hu;subst hu;rfl) (by unfold maxLen;omega) Om hb
 have hm2:Mv C w w':=Mv.of_grown hg fun r e=> .inl (hC r e);refine Zq (v:=v') hm hi rfl ?_ ⟨.inr hm2,hm2.mono fun k _ h=>hCD k h⟩ (H v' w' ?_ hg hm2)
 ·simp [execOp,resolve,invoke,builtin,hx,hy,hr,Result.andThen]
 ·unfold OB;rw [List.length_append,List.map_append];exact ho
theorem Qa3{v:Value}(h:OB w base v bs): ∃a m c,v= .slice a m c:=by obtain⟨p,c,h,-⟩:=h.slb;exact⟨_,_,_,h⟩
theorem QmX{n:Int}{j:Nat}(hj:j<6)(ρ:Operand→Value)(dst:Option Tmp)(x y:Operand)(r ty:TypeId)(pos:String)(after:Array Edge)(g:Option (Nat×Bool))(hx:ρ x= .int .i64 n)(hy:ρ y= .int .i64 ((8*j:Nat):Int))(w:World):
  (execOp ρ ⟨dst,.binOp .shr 3 x y r,ty,pos,after,g⟩).run Tryz.prog w= .ok (.value (.int .i64 (n/256^j))) w:=by
 obtain rfl|rfl|rfl|rfl|rfl|rfl:j=0∨j=1∨j=2∨j=3∨j=4∨j=5:=by omega
 all_goals
  simp only [execOp,hx,hy];go_simp
theorem QeH{n:Int}(ρ:Operand→Value)(dst:Option Tmp)(x:Operand)(ty:TypeId)(pos:String)(after:Array Edge)(g:Option (Nat×Bool))(hx:ρ x= .int .i64 n)(w:World):
  (execOp ρ ⟨dst,.convert 3 5 x,ty,pos,after,g⟩).run Tryz.prog w= .ok (.value (.int .u8 (n % 256))) w:=by
 simp only [execOp,hx];go_simp;rw [Ye]
def Qpe(ops:Array Oper):Prop:=Region.noSelect ops=true∧Qo ops 9 [0,1,2,3,4,5] 0=true∧Rd ops 9 63 [6]∧Rd ops 9 127 [7]∧Rd ops 9 255 [8]∧Rd ops 9 511 []∧lateB .any ops 8 0=true∧lateB .any ops 8 1=true∧lateB .any ops 8 2=true∧lateB .any ops 8 3=true∧lateB .any ops 8 4=true∧lateB .any ops 8 5=true
theorem QjO:Qpe ((Tryz.f171.body.bind (Qh 8)).getD #[]):=⟨Kr,Kr,Rk,Rk,Rk,Rk,Kr,Kr,Kr,Kr,Kr,Kr⟩
def Qcw(o:Opt)(i:Nat):List Int:=((J4 o).take i).flatMap nmB
theorem QmY{o:Opt}{x:Nm}(h:(J4 o)[i]?=some x):Qcw o (i+1)=Qcw o i++nmB x:=by
 unfold Qcw;rw [List.take_add_one,h];simp
theorem Qsr{o:Opt}{x:Nm}(h:(J4 o)[i]?=some x): ∃m:Nat,x.by_=m∧1≤m∧m≤6:=by
 have hi:i<8:=(List.getElem?_eq_some_iff.1 h).1;obtain rfl|rfl|rfl|rfl|rfl|rfl|rfl|rfl:i=0∨i=1∨i=2∨i=3∨i=4∨i=5∨i=6∨i=7:=by omega
 all_goals(obtain rfl:=Option.some.inj h;first|exact⟨1,rfl,Om,Om⟩|exact⟨4,rfl,Om,Om⟩|exact⟨6,rfl,Om,Om⟩)
theorem Qpf(o:Opt)(i:Nat):(Qcw o i).length≤16:=by
 have h8:(Qcw o i).length≤(Qcw o 8).length:=by
  unfold Qcw;rcases Nat.lt_or_ge i 8 with h|h
  ·obtain⟨k,hk⟩: ∃k,8=i+k:=⟨8- i,Om⟩;rw [hk,List.take_add,List.flatMap_append,List.length_append];omega
  ·rw [List.take_of_length_le (by show 8≤i;exact h),List.take_of_length_le (by show 8≤8;omega)];omega
 have:(Qcw o 8).length=16:=rfl;omega
theorem Qss{b:Nat}{p:Option Addr}{c:Nat}(h:w.cell? ⟨b,0,none⟩=some (.slice p m c)):(loadVar 28 ⟨b,0,none⟩).run Tryz.prog w= .ok (.slice p m c) w:=by go_simp
structure QeI(B base:Nat)(L:List Int)(W:World):Prop where
 at_: ∃v,Boxed W B 28 v∧OB W base v L∧(v= .slice none 0 0∨0<L.length)
theorem QeI.mv{L:List Int}{A':World}(h:QeI B base L A)(hm:Mv C A A')(hb: ¬C B)(hc: ∀k,base≤k→ ¬C k):QeI B base L A':=by
 obtain⟨v,h1,h2,h3⟩:=h;exact⟨v,Qj h1 hm hb,Qw h2 hm hc,h3⟩
theorem Qvr{Bx:Nat}{v:Value}{L:List Int}{x:Nm}(h:OB W base v L)(h0:v= .slice none 0 0∨0<L.length)(rx:RowZ W Bx #[.int .i64 x.n,.int .i64 x.lo,.int .i64 x.hi,.int .i64 x.by_]): ∀g,v.ownBlock=some g→g≠Bx:=by
 intro g hg e;subst e;rcases h0 with rfl|h0
 ·cases hg
 ·obtain⟨g',c,rfl,-,-,-,-,hc⟩:=h.at h0;have:g'=g:=by simpa [Value.ownBlock]using hg
  subst this;have h1:=hc 0 h0;have h2:=rx.cell 0 (by show 0<4;omega);rw [h1]at h2
  cases h2
theorem Qpg(o:Opt)(w:World)(h0:0≤o.ki∧o.ki<256)(h1:0≤o.bu∧o.bu<256)(hok:ZO o=true):
  Calls Tryz.prog 171 #[.agg (opv o)] w fun e w'=> ∃v,e= .returned (.tuple #[v,.int .i64 0])∧Z8 w w' v (Ym o):=by
 have HN:=Xh (fun W=>Qa2 o W h0 h1);have HR:=Xh (fun W=>Qb6 o W h0 h1);rw [hok]at HR;clear h0 h1 hok;refine(callsIn_wide (n:=5)).1 ?_;refine callsIn_of_wp_marks Tryz.func171 rfl trivial ?_ rfl;simp only [Tryz.ntmps171,List.size_toArray,List.length_cons,List.length_nil,Nat.reduceAdd,Nat.reduceSub,Array.replicate_succ,Array.replicate_zero,List.push_toArray,List.append_toArray,List.nil_append,List.cons_append];refine wpIn_wide.2 ?_
 go_upto_region 1 with(fail)
 obtain⟨W0,hW⟩: ∃W0,(w.alloc (.cells (opv o) 75)).alloc (.cells #[.slice none 0 0] 28)=W0:=⟨_,rfl⟩;have g0:Ext w W0:=by rw [←hW];exact Ext.al Ea _
 have r1:RowZ W0 w.heap.size (opv o):=by rw [←hW];exact⟨by simp [go_sem],by simp [go_sem],by simp [go_sem,Lt]⟩
 have bx0:Boxed W0 (w.heap.size+1) 28 (.slice none 0 0):=by
  rw [←hW];have:=Boxed.new (w.alloc (.cells (opv o) 75)) 28 (.slice none 0 0)
  rwa [World.size_alloc]at this
 rw [hW];clear hW;have hR1:=r1.r;have hL1:=r1.l
 go_wp2_with (first|(go_at_call 169;(with_reducible refine(HR.out _).mono ?_);rintro e w3 ⟨rfl,g3⟩;have hRr:=(r1.ext g3).r;have hLr:=(r1.ext g3).l)|(go_at_call 168;(with_reducible refine(HN.out _).mono ?_);rintro e w1 ⟨Bv,rfl,⟨g1,lo1,⟨br,cv,sv,br1,br2⟩,lv⟩⟩))
 have g2:Ext w w1:=(g0.tr g3).tr g1;have bx1:Boxed w1 (w.heap.size+1) 28 (.slice none 0 0):=Qj (C:=fun _=>False) bx0 (Mv.of_ext (g3.tr g1)) (fun h=>h);have hz3:w.heap.size+2≤w3.heap.size:=Xt (by have:=bx0.lt;omega) g3.size;refine(wpIn_wide (n:=5)).1 ?_;refine ZI rfl Om (gf:=212) (lb:=#[.pointer (some ⟨Bv,0,none⟩)]) rfl trivial JB
  (Qas _ (J4 o) (some ⟨br,0,none⟩) 8 w1 Bv (fun k=>k=w.heap.size+1) sv (fun b off e=>by cases e;exact Nat.lt_trans br2 lv) (by show 8≤1000;omega) cv lv (fun k e=>by subst e;exact⟨Om,fun b off e=>by cases e;omega⟩))
  (fun k h=>h.elim) (fun k h=>by unfold Lt at lv;omega) (fun _=>rfl)
  (fun i W=>QeI (w.heap.size+1) (w1.heap.size+2) (Qcw o i) W) (fun _ _=>False)
  (fun i A B h hm=>h.mv hm (by rintro(h|h|h);exact h.elim;(unfold Lt at lv;omega);(unfold Lt at lv;omega)) (fun k hk h=>by rcases h with h|h|h;exact h.elim;omega;omega))
  (fun _ _ _ h _=>h) ⟨⟨_,bx1,OB.zero _ _,.inl rfl⟩⟩
  (fun x a' W=> ∃Bx,w1.heap.size+2≤Bx∧RowZ W Bx #[.int .i64 x.n,.int .i64 x.lo,.int .i64 x.hi,.int .i64 x.by_]∧a'={tmps:=#[.agg (opv o),.pointer (some ⟨w.heap.size,0,none⟩),.pointer (some ⟨w.heap.size+1,0,none⟩),.int .i64 0,.pointer (some ⟨Bx,0,none⟩),undef,.agg (opv o),.bool true,.bool false,.agg (opv o),.func (.func 212) #[] #[.pointer (some ⟨Bv,0,none⟩)],.agg #[.int .i64 x.n,.int .i64 x.lo,.int .i64 x.hi,.int .i64 x.by_],undef,undef,undef,undef,undef,undef,undef,undef,undef,undef,undef,undef,undef,undef,undef,undef,undef],defers:= []})
  (fun x a' A B h hm=>by
   obtain⟨Bx,q1,q2,q3⟩:=h
   exact⟨Bx,q1,q2.mv hm Om,q3⟩)
  ?assign ?body ?done ?stop
 case assign=>
  intro y i x W K hsz hv hI hx hK;unfold nmv
  gi_wp2
  refine hK _ _ (Mv.al _ (Mv.refl _ _)) (hI.mv (C:=fun _=>False) (Mv.al _ (Mv.refl _ _)) (fun h=>h) (fun _ _ h=>h)) ⟨W.heap.size,hsz,RowZ.new _ _ _,rfl⟩
 case body=>
  rintro y i x a' W hyl ⟨rr,hr⟩ hsz hv hI hx ⟨Bx,q1,q2,rfl⟩;have hil:i<(J4 o).length:=(List.getElem?_eq_some_iff.1 hx).1;obtain⟨m,hm,m1,m6⟩:=Qsr hx;have d3:=q2.cell 3 (by show 3<4;omega);have d3:W.cell? ⟨Bx,3,none⟩=some (.int .i64 (m:Nat)):=by rw [←hm];exact d3
  have HNX:=Xh (show Qcw o (i+1)=Qcw o i++byN x.n m by rw [QmY hx];unfold nmB;rw [hm];rfl);have HLL:=Xh (show(Qcw o i).length+m≤16 by have:=Qpf o (i+1);rw [HNX.out,List.length_append,ZA]at this;exact this);obtain⟨L,hL⟩: ∃L,Qcw o i=L:=⟨_,rfl⟩;rw [hL]at hI HNX HLL;have HI:=Xh hI;have HQ:=Xh q2;have lv':Bv<w1.heap.size:=lv;have HBY:=Xh hm;clear hI hx hr q2 hv hm hL hyl
  gi_wp2
  gi_loopw [5] (fun a wr=> ∃q:Nat,q≤m∧a= .int .i64 (8*((q:Int)- 1))∧QeI (w.heap.size+1) (w1.heap.size+2) (L++(byN x.n m).take (m- q)) wr∧RowZ wr Bx #[.int .i64 x.n,.int .i64 x.lo,.int .i64 x.hi,.int .i64 x.by_]∧Mv (fun k=>k=w.heap.size+1∨w1.heap.size+2≤k) W wr) (fun a _=>(intOf a+8).toNat)
  case atStart=>exact⟨m,Nat.le_refl _,congrArg (Value.int .i64) (by rw [HBY.out];simp only [wrap64];omega),by rw [Nat.sub_self,List.take_zero,List.append_nil];exact HI.out,HQ.out,Mv.refl _ _⟩
  case round=>
   obtain⟨q,hq,rfl,⟨va,bx,ho,hnl⟩,rx,hM⟩:=hrel
   by_cases hq0:q=0
   ·subst hq0;have hneg:decide ((0:Int)≤8*(((0:Nat):Int)- 1))=false:=by decide
    have HF:=Xh (show QeI (w.heap.size+1) (w1.heap.size+2) (Qcw o (i+1)) wr by
     rw [HNX.out];rw [Nat.sub_zero,List.take_of_length_le (by rw [ZA];omega)]at ho hnl
     exact⟨va,bx,ho,hnl⟩)
    have HM:=Xh hM;clear bx ho hnl rx hM d3
    gi_wp2
    exact⟨HM.out,HF.out⟩
   ·obtain⟨j,rfl⟩: ∃j,q=j+1:=⟨q- 1,Om⟩;have hpos:decide ((0:Int)≤8*(((j+1:Nat):Int)- 1))=true:=decide_eq_true Om;obtain⟨pa,na,ca,rfl⟩:=Qa3 ho;have hne:=Qvr ho hnl rx;have hge:=Qi ho;obtain⟨LL,hLL⟩: ∃LL,L++(byN x.n m).take (m- (j+1))=LL:=⟨_,rfl⟩;have hlen:LL.length≤1000:=by rw [←hLL,List.length_append,List.length_take];have:=HLL.out;omega
    have HLN:=Xh (show LL++ [x.n/256^j % 256]=L++(byN x.n m).take (m- j)by rw [←hLL,List.append_assoc,Qcm x.n m j Om]);rw [hLL]at ho hnl;have HO:=Xh ho;have HB:=Xh bx;have HRX:=Xh rx;have HM:=Xh hM;have HNE:=Xh hne;have HGE:=Xh hge;clear ho bx rx hM hne hge hLL d3 hnl
    gi_wp2
    rw [show 8*(((j+1:Nat):Int)- 1)=((8*j:Nat):Int)by omega];refine ZW (fun k=>(Value.slice pa na ca).ownBlock=some k) (fun k=>(Value.slice pa na ca).ownBlock=some k∨k=w.heap.size+1) 8 (fun _=>trivial) (fun h=>by cases h) (fun f args w R h=>CallsIn.inRound y (callsIn_wide.2 h)) Kr Kr ?_;obtain⟨WA,hW⟩: ∃Wdr,World.drew wr=Wdr:=⟨_,rfl⟩;have gD:Ext wr WA:=by rw [←hW];exact Ext.dr (Ext.rf _)
    rw [hW];clear hW;have bx:=Qj (C:=fun _=>False) HB.out (Mv.of_ext gD) (fun h=>h);have ho:=OB.ext HO.out gD;have rx:=HRX.out.ext gD;have hge:=HGE.out;have hC2: ¬(fun k=>(Value.slice pa na ca).ownBlock=some k) (w.heap.size+1):=fun e=>by have:=hge _ e;omega
    have hCx: ¬(fun k=>(Value.slice pa na ca).ownBlock=some k) Bx:=fun e=>HNE.out _ e rfl;have hn2: ¬Bx=w.heap.size+1:=by omega
    have hj6:j<6:=by omega
    have cv:=bx.cell;have lv2:Lt (w.heap.size+1) WA:=bx.lt;have hbs:w1.heap.size+2≤WA.heap.size:=Xt (Xt hsz HM.out.size) gD.size;refine Zi (N:=9) (R:=Qpe) (E:=((Tryz.f171.body.bind (Qh 8)).getD #[])) Kr QjO Kr fun hS=> ?_;have hT:=hS.2.1;refine ZD (N:=9) (k:=0) (m':=1) (v:= .slice pa na ca) hS.1 hT hS.2.2.2.2.2.2.1 rfl rfl Kr (JY cv lv2 hC2 Kr) fun hT=> ?_;refine ZD (N:=9) (k:=1) (m':=3) (v:= .pointer (some ⟨Bx,0,none⟩)) hS.1 hT hS.2.2.2.2.2.2.2.1 rfl rfl Kr (fun _ _=>by kernel_rfl) fun hT=> ?_;refine ZD (N:=9) (k:=2) (m':=7) (v:= .int .i64 x.n) hS.1 hT hS.2.2.2.2.2.2.2.2.1 rfl rfl Kr (QaY (rx.cell 0 (by show 0<4;omega)) rx.l hCx Kr) fun hT=> ?_;refine ZD (N:=9) (k:=3) (m':=15) (v:= .int .i64 ((8*j:Nat):Int)) hS.1 hT hS.2.2.2.2.2.2.2.2.2.1 rfl rfl Kr (fun _ _=>by kernel_rfl) fun hT=> ?_;refine ZD (N:=9) (k:=4) (m':=31) (v:= .int .i64 (x.n/256^j)) hS.1 hT hS.2.2.2.2.2.2.2.2.2.2.1 rfl rfl Kr (fun w' _=>QmX hj6 _ _ _ _ 3 _ _ _ _ Kr Kr w') fun hT=> ?_;refine ZD (N:=9) (k:=5) (m':=63) (v:= .int .u8 (x.n/256^j % 256)) hS.1 hT hS.2.2.2.2.2.2.2.2.2.2.2 rfl rfl Kr (fun w' _=>QeH _ _ _ _ _ _ _ Kr w') fun hT=> ?_;refine Qr hS.2.2.1 (Zq (m':=127) rfl rfl Kr (QfN (v:=x.n/256^j % 256) Kr WA) ⟨.inr (Mv.of_ext Ea),(Mv.of_ext Ea)⟩ ?_);obtain⟨WB1,hWB1⟩: ∃WB1,WA.alloc (.cells #[.int .u8 (x.n/256^j % 256)] 5)=WB1:=⟨_,rfl⟩;have hbk:=World.alloc_heap_new WA (.cells #[.int .u8 (x.n/256^j % 256)] 5);have gWB1:Ext WA WB1:=by rw [←hWB1];exact Ea
    rw [hWB1]at hbk⊢;clear hWB1;have bx:=Qj (C:=fun _=>False) bx (Mv.of_ext gWB1) (fun h=>h);have ho:=OB.ext ho gWB1;have rx:=rx.ext gWB1;have hcA:WB1.cell? ⟨WA.heap.size,0,none⟩=some (.int .u8 (x.n/256^j % 256)):=by simp only [World.cell?,hbk];rfl
    have hbs:=Xt hbs gWB1.size;have hm1:=Mv.of_ext (C:=fun k=>k=w.heap.size+1∨w1.heap.size+2≤k) gWB1;refine Qr hS.2.2.2.1 (Qyc (m':=255) (base:=w1.heap.size+2) (v1:= .slice pa na ca) (b1:=LL) (x1:=x.n/256^j % 256) rfl rfl Kr Kr ho hcA hlen (fun r e=>e) (fun k h=> .inl h) hbs ?_);intro v' WB2 ho' hg' hm';have bx:=Qj bx hm' hC2;have rx:=rx.mv hm' hCx;have hm2:=hm'.mono (D:=fun k=>k=w.heap.size+1∨w1.heap.size+2≤k) (fun k _ e=> .inr (hge k e));refine Qr hS.2.2.2.2.1 (QE (m':=511) rfl rfl Kr (Yt (B:=w.heap.size+1) (v:=v') (u:= .slice pa na ca) bx.cell bx.frozen (Qa3 ho') Kr Kr) ⟨.inl Dc,(Mv.st _ (.inl (.inr rfl)) (Mv.refl _ _))⟩ ?_);obtain⟨WB3,hWB3⟩: ∃WB3,World.setCell WB2 ⟨w.heap.size+1,0,none⟩ v'=WB3:=⟨_,rfl⟩;have bx:Boxed WB3 (w.heap.size+1) 28 v':=by rw [←hWB3];exact bx.set _
    have gS:Mv (fun k=>k=w.heap.size+1) WB2 WB3:=by rw [←hWB3];exact Mv.st _ (.inl rfl) (Mv.refl _ _)
    have rx:=rx.mv gS hn2;rw [hWB3];clear hWB3;refine QZ hS.2.2.2.2.2.1 ?_;clear hS hT;have HF:=Xh (show QeI (w.heap.size+1) (w1.heap.size+2) (L++(byN x.n m).take (m- j)) WB3 from⟨⟨v',bx,by rw [←HLN.out];exact Qw ho' gS (fun k hk e=>by omega),.inr (by rw [←HLN.out];simp)⟩⟩);have HRX2:=Xh rx;have HM2:=Xh ((((HM.out.tr gD).trans hm1).trans hm2).trans (gS.mono (D:=fun k=>k=w.heap.size+1∨w1.heap.size+2≤k) (fun k _ e=> .inl e)));have hw:wrap64 (((8*j:Nat):Int)- 8)=8*((j:Int)- 1):=by simp only [wrap64];omega
    clear bx ho rx hge hC2 hCx cv hm1 hm2 gS ho' hg' hm' gD hcA;go_simp
    gi_wp2
    exact⟨⟨j,Om,congrArg (Value.int .i64) Om,HF.out,HRX2.out,HM2.out⟩,by simp [intOf];omega⟩
 case done=>
  rintro W ⟨v,bx,ho,-⟩ hv hK;obtain⟨pa,na,ca,rfl⟩:=Qa3 ho;have hc:=bx.cell;have hf:=bx.frozen;have lv':Bv<w1.heap.size:=lv;have HO:=Xh (show OB W (w1.heap.size+2) (.slice pa na ca) (Ym o)from ho);have HG:=Xh (Mv.ext_of g2 hv (fun k h=>by rcases h with h|h;exact h.elim;omega));have HB:=Xh bx;have HK:=Xh hK;clear ho hv bx hK g2 g1 g0 g3;go_wp2;have mS:Mv (fun k=>k=w.heap.size+1) W (W.setCell ⟨w.heap.size+1,0,none⟩ (.slice pa na ca)):=Mv.st _ (.inl rfl) (Mv.refl _ _);have hk1:=(mS.same w1.heap.size (Array.getElem?_eq_some_iff.1 HK.out).1 Om).trans HK.out;refine⟨by simp,.inl ⟨_,_,rfl,run_takeDeferred hk1,?_⟩⟩;obtain⟨W4,hW4⟩: ∃W4,W.setCell ⟨w.heap.size+1,0,none⟩ (.slice pa na ca)=W4:=⟨_,rfl⟩;have b4:Boxed W4 (w.heap.size+1) 28 (.slice pa na ca):=by rw [←hW4];exact HB.out.set _
  rw [hW4]at mS hk1⊢;have m3:Mv (fun k=>k=w1.heap.size) W4 (W4.putObj w1.heap.size (.deferred none)):=Mv.put _ _ _ rfl;refine⟨_,QL rfl _ _ (w.heap.size+1) rfl (Qss (Qj b4 m3 Om).cell),.slice pa na ca,rfl,?_,?_⟩
  ·exact(show OB _ (w1.heap.size+2) _ _ from Qw (Qw HO.out mS (fun k hk e=>by omega)) m3 (fun k hk e=>by omega)).le Om
  ·exact Mv.ext_of (Mv.ext_of HG.out mS (fun k e=>by omega)) m3 (fun k e=>by omega)
 case stop=>intro _ _ h;exact h.elim
end Go.Proofs.YtpeonbaodnmlnaaGreat
