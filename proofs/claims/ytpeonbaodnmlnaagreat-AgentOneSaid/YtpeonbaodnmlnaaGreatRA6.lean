/- Lemmas of this claim, put together out of: U2, U3, UP, UQ, US, UT, UV, TH, UX, UY, UW, TI, UZ. -/
import Derived.Test.YtpeonbaodnmlnaaGreatRA5
set_option linter.unusedSimpArgs false
set_option linter.unusedVariables false
set_option maxRecDepth 100000
set_option maxHeartbeats 16000000
namespace Go.Proofs.YtpeonbaodnmlnaaGreat
open Go.RowKit
variable{after:Array Edge}{ρ:Operand→Value}{g:Option (Nat×Bool)}{dst:Option Tmp}{pos:String}{ty:TypeId}{w:World}
theorem Qfd{base n:Nat}{v1:Value}{l:List Value}{q:Option Addr}{ys:List Tu}{c2:Nat}(h1:w.ownsRow base 64 4 v1 n l)(h2:SlT w q ys)(hn:n+ys.length≤2000)(hb:base≤w.heap.size)
  (ρ:Operand→Value)(dst:Option Tmp)(x y:Operand)(ty:TypeId)(pos:String)(after:Array Edge)(g:Option (Nat×Bool))(hx:ρ x=v1)(hy:ρ y= .slice q ys.length c2):
  ∃v' w',(execOp ρ ⟨dst,.call {callee:= .builtin .append,args:=#[x,y],argTypes:=#[60,60]},ty,pos,after,g⟩).run Tryz.prog w= .ok (.value v') w'∧w'.ownsRow base 64 4 v' (n+ys.length) (l++flT ys)∧w.grownBy w' v1.ownBlock:=by
 obtain⟨d,e,f,h,i⟩:=info_parts Qwc
 cases q with
 |none=>
  have b:ys= []:=h2.nil_of;subst b;refine⟨v1,w,?_,by simpa [flT]using h1,⟨rfl,rfl,rfl,Nat.le_refl _,fun _ _ _=>rfl⟩⟩;rcases h1.2 with⟨rfl,b⟩|⟨gg,cap,cur,rfl,c,hgb,h1,h2,h3,h4⟩
  ·simp only [execOp,hx,hy];go_simp
  ·simp only [execOp,hx,hy];go_simp
 |some a=>
  obtain⟨v',w',j,k,c,-,-⟩:=run_append_own_at (P:=Tryz.prog) w base 60 ty 64 d (.agg #[.int .u32 0,.int .u32 0,.int .u16 0,.int .u16 0]) 4 12 Tryz.underlying60 e f h i rfl Dc v1 n l h1 a ys.length c2 (flT ys) (by rw [Qd6]) (h2.news (Ext.rf w)) (Qtv ys) (by unfold maxLen;omega) Om hb;refine⟨v',w',?_,k,c⟩;simp [execOp,resolve,invoke,builtin,hx,hy,j,Result.andThen]
theorem QbC{w':World}{base n:Nat}{v:Value}{l:List Value}(h:w.ownsRow base 64 4 v n l)(hg:w.grownBy w' v.ownBlock):Mv (fun k=>base≤k) w w':=Mv.of_grown hg fun r e=> .inl (Qi h r e)
theorem Qhw{p:Option Addr}{n k c:Nat}(hk:k≤n)(hc:n≤c)(hp:p=none→c=0∨k=0){x y:Operand}(hx:ρ x= .slice p n c)(hy:ρ y= .int .i64 (k:Nat))(w:World):
  (execOp ρ ⟨dst,.slice 60 x none (some y) none,ty,pos,after,g⟩).run Tryz.prog w= .ok (.value (.slice p k c)) w:=by
 have d: ¬(k:Int)<0:=by omega
 have e:(k:Int)≤c:=by omega
 cases p with
 |none=>
  simp only [execOp,hx,hy];go_simp
 |some a=>
  obtain⟨b,o,s⟩:=a;simp only [execOp,hx,hy];go_simp
theorem SlT.take{p:Option Addr}{xs:List Tu}(h:SlT w p xs)(k:Nat):SlT w p (xs.take k):=fun j hj=>by
 rw [List.length_take]at hj;obtain⟨b,a,c,d,f,g,i,l⟩:=h j Om;have e:(xs.take k)[j]'(by rw [List.length_take];exact hj)=xs[j]'Om:=by simp
 exact⟨b,a,c,d,by rw [e];exact f,by rw [e];exact g,by rw [e];exact i,by rw [e];exact l⟩
theorem Qhx{p:Option Addr}{xs:List Tu}{k c:Nat}{w0:World}(hs:SlT w0 p xs)(hk:k≤xs.length)(hc:xs.length≤c):
  ∃q c2,SlT w0 q (xs.drop k)∧ ∀(ρ:Operand→Value) (dst:Option Tmp) (x y:Operand) (ty:TypeId) (pos:String) (after:Array Edge) (g:Option (Nat×Bool)),ρ x= .slice p xs.length c→ρ y= .int .i64 (k:Nat)→ ∀w,(execOp ρ ⟨dst,.slice 60 x (some y) none none,ty,pos,after,g⟩).run Tryz.prog w= .ok (.value (.slice q (xs.drop k).length c2)) w:=by
 rw [List.length_drop];have z: ¬(k:Int)<0:=by omega
 have A:(k:Int)≤xs.length:=by omega
 have B:(xs.length:Int)≤c:=by omega
 cases p with
 |none=>
  have d:xs= []:=hs.nil_of;subst d;obtain rfl:k=0:=by simpa using hk
  refine⟨none,c,by simpa using hs,fun ρ dst x y ty pos after g hx hy w=> ?_⟩;simp only [execOp,hx,hy];go_simp
 |some a=>
  by_cases d:xs= []
  ·subst d;obtain rfl:k=0:=by simpa using hk
   refine⟨some a,c,SlT.nil _ _,fun ρ dst x y ty pos after g hx hy w=> ?_⟩;obtain⟨b,o,s⟩:=a
   by_cases i:c=0
   ·subst i;simp only [execOp,hx,hy];go_simp
   ·have C: ¬(c:Int)=0:=by omega
    simp only [execOp,hx,hy];go_simp
  obtain⟨b,o,m,-⟩:=hs 0 (List.length_pos_iff.2 d)
  cases m
  by_cases l:c=k
  ·subst l;have D:xs.length=c:=by omega
   refine⟨some ⟨b,o,none⟩,0,?_,fun ρ dst x y ty pos after g hx hy w=> ?_⟩
   ·rw [List.drop_of_length_le Om];exact SlT.nil _ _
   ·simp only [execOp,hx,hy];go_simp
  ·refine⟨some ⟨b,o+k*4,none⟩,c- k,?_,fun ρ dst x y ty pos after g hx hy w=> ?_⟩
   rotate_left
   ·simp only [execOp,hx,hy];go_simp
   ·intro j h;rw [List.length_drop]at h;obtain⟨E,F,n,r,t,u,c2,v⟩:=hs (k+j) Om
    cases n
    have e:(xs.drop k)[j]'(by rw [List.length_drop];exact h)=xs[k+j]'Om:=by simp
    have f:o+k*4+j*4=o+(k+j)*4:=by omega
    exact⟨b,o+k*4,rfl,r,by rw [e,f];exact t,by rw [e,f];exact u,by rw [e,f];exact c2,by rw [e,f];exact v⟩
theorem listAT{ops:Array Oper}{rest:List Oper}{x y:Operand}{a:Act}{Q:Exit→Act→World→Prop}{base n:Nat}{v1:Value}{l:List Value}{q:Option Addr}{ys:List Tu}{c2:Nat}(h1:w.ownsRow base 64 4 v1 n l)(h2:SlT w q ys)(hn:n+ys.length≤2000)(hb:base≤w.heap.size)(hx:a.eval x=v1)(hy:a.eval y= .slice q ys.length c2)
  (H: ∀v' w',Mv (fun k=>base≤k) w w'→w'.ownsRow base 64 4 v' (n+ys.length) (l++flT ys)→wpList Tryz.prog ops Q rest (a.put dst v') w'):wpList Tryz.prog ops Q (⟨dst,.call {callee:= .builtin .append,args:=#[x,y],argTypes:=#[60,60]},ty,pos,after,none⟩::rest) a w:=by
 obtain⟨v',w',b,c,d⟩:=Qfd h1 h2 hn hb a.eval dst x y ty pos after none hx hy;exact listV rfl b (H v' w' (QbC h1 d) c)
theorem SlT.one{b:Nat}{x:Tu}(h:w.heap[b]?=some (.cells #[.int .u32 x.a,.int .u32 x.b,.int .u16 x.c,.int .u16 x.d] 64)):SlT w (some ⟨b,0,none⟩) [x]:=fun k hk=>by
 have e:k=0:=by simpa using hk
 subst e;refine⟨b,0,rfl,(Array.getElem?_eq_some_iff.1 h).1,?_,?_,?_,?_⟩<;>simp [World.cell?,h]
theorem SlT.mvo{A B:World}{C:Nat→Prop}{p:Option Addr}{xs:List Tu}(h:SlT A p xs)(m:Mv C A B)(hC: ∀b off,p=some ⟨b,off,none⟩→ ¬C b):SlT B p xs:=fun j hj=>by
 obtain⟨b,off,a,c,d,f,g,i⟩:=h j hj;have e:=Qf (m.same b c (hC b off a));simp only [Qa]at d f g i⊢;exact⟨b,off,a,Xl c m.size,by rw [e];exact d,by rw [e];exact f,by rw [e];exact g,by rw [e];exact i⟩
def QbF(out:List Tu)(t:Tu):Nat→Nat
 |0=>0
 |k+1=>match out[k]? with
  |some y=>if YQ t y<0 then QbF out t k else k+1
  |none=>k+1
def insT(out:List Tu)(t:Tu):List Tu:=out.take (QbF out t out.length)++t::out.drop (QbF out t out.length)
def Yx(l:List Tu)(i:Nat):List Tu:=(l.take i).foldl insT []
theorem Qmn(out:List Tu)(t:Tu): ∀k,QbF out t k≤k
 |0=>Nat.le_refl _
 |k+1=>by
  unfold QbF
  split
  ·split
   ·exact Nat.le_succ_of_le (Qmn out t k)
   ·exact Nat.le_refl _
  ·exact Nat.le_refl _
theorem Qgd{out:List Tu}{t y:Tu}{k:Nat}(h:out[k]?=some y)(hc:YQ t y<0):QbF out t (k+1)=QbF out t k:=by rw [QbF,h];exact if_pos hc
theorem Qdv{out:List Tu}{t y:Tu}{k:Nat}(h:out[k]?=some y)(hc: ¬YQ t y<0):QbF out t (k+1)=k+1:=by rw [QbF,h];exact if_neg hc
theorem Qrv(out:List Tu)(t:Tu):(insT out t).length=out.length+1:=by
 unfold insT;have:=Qmn out t out.length;simp only [List.length_append,List.length_take,List.length_cons,List.length_drop];omega
theorem Qdw(l:List Tu): ∀i,i≤l.length→(Yx l i).length=i
 |0,_=>by simp [Yx]
 |i+1,h=>by
  unfold Yx;rw [List.take_succ_eq_append_getElem h,List.foldl_append];show(insT (Yx l i) _).length=_;rw [Qrv,Qdw l i Om]
theorem Qcg{l:List Tu}{i:Nat}{t:Tu}(h:i<l.length)(ht:l[i]=t):Yx l (i+1)=insT (Yx l i) t:=by
 unfold Yx;rw [List.take_succ_eq_append_getElem h,List.foldl_append,ht];rfl
theorem JT(xs ys:List Tu):flT (xs++ys)=flT xs++flT ys:=by unfold flT;simp
theorem SlT.mvn{A B:World}{n:Nat}{p:Option Addr}{xs:List Tu}(h:SlT A p xs)(m:Mv (fun k=>n≤k) A B)(hn:A.heap.size≤n):SlT B p xs:=fun j hj=>by
 obtain⟨b,i,l,a,c,d,f,g⟩:=h j hj;have e:=Qf (m.same b a (fun h=>by omega));simp only [Qa]at c d f g⊢;exact⟨b,i,l,Xl a m.size,by rw [e];exact c,by rw [e];exact d,by rw [e];exact f,by rw [e];exact g⟩
theorem Mv.cell{A B:World}{C:Nat→Prop}{b i:Nat}(m:Mv C A B)(hb:Lt b A)(hC: ¬C b):B.cell? ⟨b,i,none⟩=A.cell? ⟨b,i,none⟩:=by
 rw [Qa,Qa,Qf (m.same b hb hC)]
theorem QnZ(l:List Tu): ∀i,∀y∈Yx l i,y∈l:=by
 have c: ∀(m a:List Tu),(∀y∈a,y∈l)→(∀y∈m,y∈l)→ ∀y∈m.foldl insT a,y∈l:=by
  intro m
  induction m with
  |nil=>intro a h _;exact h
  |cons t m ih=>
   intro a h b;refine ih (insT a t) (fun y hy=> ?_) (fun y hy=>b y (List.mem_cons_of_mem _ hy));unfold insT at hy;rcases List.mem_append.1 hy with h1|h1
   ·exact h y (List.mem_of_mem_take h1)
   ·rcases List.mem_cons.1 h1 with rfl|h2
    ·exact b y (List.mem_cons_self ..)
    ·exact h y (List.mem_of_mem_drop h2)
 intro i;exact c _ [] (fun y h=>by cases h) (fun y h=>List.mem_of_mem_take h)
theorem Qjb(p:Option Addr)(xs:List Tu)(c:Nat)(w:World)(hs:SlT w p xs)(hl:xs.length≤1000)(hr: ∀x∈xs,TuR x):
  Calls Tryz.prog 29 #[.slice p xs.length c] w fun e w'=> ∃v,e= .returned v∧w'.ownsRow w.heap.size 64 4 v xs.length (flT (Yx xs xs.length))∧Ext w w':=by
 have b4:=Xh hr;have HS:=Xh hs;clear hr hs
 go_enter Tryz.func29,Tryz.ntmps29
 go_wp2
 go_loopw [3,4] (fun u3 a wr=> ∃q:Nat,q≤xs.length∧a= .int .i64 q∧wr.ownsRow w.heap.size 64 4 u3 q (flT (Yx xs q))∧Ext w wr) (fun _ a _=>xs.length- (intOf a).toNat)
 case atStart=>exact⟨0,Nat.zero_le _,rfl,World.ownsRow_nil _ _ _ _,Ext.rf _⟩
 case round=>
  obtain⟨q,hq,rfl,B,hE⟩:=hrel;have L:=Xh hE
  by_cases a3:q<xs.length
  ·have c7:(q:Int)<xs.length:=by omega
   obtain⟨t,ht⟩: ∃t,xs[q]=t:=⟨_,rfl⟩;have b5:=Xh (b4.out t (by rw [←ht];exact List.getElem_mem a3));have a4:=Xh (Qcg a3 ht);have a1:=Qdw xs q hq;have b6:=Xh (QnZ xs q);obtain⟨O,hO⟩: ∃O,Yx xs q=O:=⟨_,rfl⟩;rw [hO]at a4 a1 b6 B;have Q:wr.ownsRow w.heap.size 64 4 u3 O.length (flT O):=by rw [a1];exact B
   obtain⟨pO,u,hv,c5,sO⟩:=SlT.own Q;subst hv;have D:=Xh sO;have a2:=Xh c5;have s:=Xh (show O.length=q∧q<xs.length∧xs.length≤1000 from⟨a1,a3,hl⟩);have b7:=(HS.out.ext hE) q a3;rw [ht]at b7;obtain⟨b,j,rfl,lb,e0,M,N,e3⟩:=b7;have b8:Lt b wr:=lb;have f:=Xh (And.intro b8 (And.intro e0 (And.intro M (And.intro N e3))));clear lb b8 e0 M N e3 sO B Q hO a1 c5 hE;go_wp2
   go_loopw [5] (fun a wx=> ∃k:Nat,k≤O.length∧a= .int .i64 k∧QbF O t O.length=QbF O t k∧Ext wr wx) (fun a _=>(intOf a).toNat)
   case atStart=>exact⟨O.length,Nat.le_refl _,rfl,rfl,Ext.rf _⟩
   case round=>
    obtain⟨k,hk,rfl,hp,C⟩:=hrel
    by_cases c4:k=0
    ·subst c4;have R:QbF O t O.length=0:=hp
     go_upto_region 6 with(fail)
     refine Qk Kr Kr ?_;(repeat(go_big_quiet_step (fail)));refine wpQuiet_nil ?_;intro d
     have E:=Qt d;obtain⟨l,V⟩: ∃W,later d=W:=⟨_,rfl⟩;rw [V]at E⊢;clear V d;have g:=C.tr E;have o:Lt b l:=Xl f.out.1 g.size;have F:=(g.cell (p:=⟨b,j+q*4,none⟩) f.out.1).trans f.out.2.1;have G:=(g.cell (p:=⟨b,j+q*4+1,none⟩) f.out.1).trans f.out.2.2.1;have H:=(g.cell (p:=⟨b,j+q*4+2,none⟩) f.out.1).trans f.out.2.2.2.1;have I:=(g.cell (p:=⟨b,j+q*4+3,none⟩) f.out.1).trans f.out.2.2.2.2;have r:=Xh (show 0≤O.length by omega);have a5:=Xh (show pO=none→u=0∨0=0 from fun e=> .inr (by first|rfl|(have h:=D.out;rw [e]at h;have h2:=SlT.nil_of h;have S:=r.out;rw [h2]at S;exact Nat.le_zero.1 S)));have HK:=Xh R;clear R
     go_upto_region 9 with(fail)
     refine wp_region_lit ?_;refine listV (v:= .slice none 0 0) (w':=l) rfl Kr ?_;refine listV (v:= .slice pO O.length u) (w':=l) rfl Kr ?_;refine listV (v:= .int .i64 (0:Nat)) (w':=l) rfl Kr ?_;have T:(O.take 0).length=0:=by have:=r.out;first|(rw [List.length_take];omega)|simp
     refine listV (v:= .slice pO (O.take 0).length u) (w':=l) rfl (by rw [T];exact Qhw (k:=0) r.out a2.out a5.out Kr Kr _) ?_;clear T;refine listAT (base:=l.heap.size) (c2:=u) (World.ownsRow_nil _ _ _ _) ((D.out.ext g).take 0) (by have:=s.out;rw [List.length_take];omega) (Nat.le_refl _) Kr Kr ?_;intro v1 X n Y;refine listV (v:=v1) (w':=X) rfl Kr ?_;refine wpList_nil ?_;go_simp;have U:=Xh n;have a6:=Xh Y;have c8:Lt b X:=Xl o n.size;have A: ¬l.heap.size≤b:=Nat.not_le_of_lt o;have F:=(n.cell (i:=j+q*4) o A).trans F;have G:=(n.cell (i:=j+q*4+1) o A).trans G;have H:=(n.cell (i:=j+q*4+2) o A).trans H;have I:=(n.cell (i:=j+q*4+3) o A).trans I;clear n Y
     go_upto_region 11 with(at_builtin;refine listAT (base:=l.heap.size) (c2:=1) (ys:= [t]) (Zl a6.out Ea) (SlT.one (World.alloc_heap_new _ _)) (by have:=s.out;simp only [List.length_take,List.length_singleton];omega) (Xt U.out.size (by simp)) Kr Kr ?_;intro v2 K Z z)
     have J:=Xh (U.out.trans ((Mv.al _ (Mv.refl _ _)).trans Z));have a7:=Xh z;clear Z z F G H I;obtain⟨qd,cd,sd,a0⟩:=Qhx (D.out.ext g) r.out a2.out;have a8:=Xh (sd.mvn J.out (Nat.le_refl _));refine wp_region_lit ?_;refine listV (v:=v2) (w':=K) rfl Kr ?_;refine listV (v:= .slice pO O.length u) (w':=K) rfl Kr ?_;refine listV (v:= .int .i64 (0:Nat)) (w':=K) rfl Kr ?_;refine listV rfl (a0 _ _ _ _ _ _ _ _ Kr Kr _) ?_;refine listAT (base:=l.heap.size) (c2:=cd) a7.out a8.out (by have:=s.out;simp only [List.length_take,List.length_singleton,List.length_drop];omega) J.out.size Kr Kr ?_;intro v3 w3 m3 o3;refine listV (v:=v3) (w':=w3) rfl Kr ?_;refine wpList_nil ?_;go_simp;have a9:=Xh o3;have b0:=Xh (J.out.trans m3);clear m3 o3 sd a0;go_wp2
     go_roundw
     case rel=>
      refine⟨q+1,Om,by go_num,?_,Mv.ext_of (L.out.tr g) b0.out (fun k h=>Xt (L.out.tr g).size h)⟩;have h:=QA a9.out (L.out.tr g).size;rw [a4.out];have M:insT O t=O.take 0++ [t]++O.drop 0:=by unfold insT;rw [←HK.out,List.append_assoc];rfl
      have N:0+(O.take 0).length+ [t].length+(O.drop 0).length=q+1:=by have:=s.out;have:=r.out;simp only [List.length_take,List.length_singleton,List.length_drop];omega
      rw [M,JT,JT,←N];exact h
     case measure=>simp [intOf];omega
    ·obtain⟨m,rfl⟩: ∃m,k=m+1:=⟨k- 1,Om⟩;obtain⟨b2,z,d8,c6,f0,f1,f2,f3⟩:=(D.out.ext C) m Om;obtain⟨y,B⟩: ∃y,O[m]=y:=⟨_,rfl⟩;have Q:O[m]?=some y:=by rw [List.getElem?_eq_getElem Om,B]
     have b9:=Xh (b4.out y (b6.out y (by rw [←B];exact List.getElem_mem _)));rw [B]at f0 f1 f2 f3;have c9:Lt b2 wr:=c6;have d4:(0:Int)<((m+1:Nat):Int):=by omega
     have d5:(m:Int)<O.length:=by omega
     have d6:IntKind.i64.wrap (((m+1:Nat):Int)- 1)=m:=by rw [IntKind.wrap_i64];have:=s.out;omega
     have b1:wrap64 (m:Int)=m:=by have:=s.out;simp only [wrap64];omega
     have c0:=(C.cell (p:=⟨b,j+q*4,none⟩) f.out.1).trans f.out.2.1;have c1:=(C.cell (p:=⟨b,j+q*4+1,none⟩) f.out.1).trans f.out.2.2.1;have c2:=(C.cell (p:=⟨b,j+q*4+2,none⟩) f.out.1).trans f.out.2.2.2.1;have c3:=(C.cell (p:=⟨b,j+q*4+3,none⟩) f.out.1).trans f.out.2.2.2.2;have d7:Lt b wr:=Xl f.out.1 C.size;subst d8;have HP:=Xh hp;have HY:=Xh Q;clear c4 c6 B Q hp
     cases P:decide (YQ t y<0)
     ·have b3:=Xh (fun W=>show Cr 80 #[tu t.a t.b t.c t.d,tu y.a y.b y.c y.d] W (.bool false) by have h:=Qgc t y b5.out b9.out W;rw [P]at h;exact h);have R:QbF O t O.length=m+1:=HP.out.trans (Qdv HY.out (of_decide_eq_false P));clear P
      go_upto_region 6 with(fail)
      refine Qk Kr Kr ?_;(repeat(go_big_quiet_step ((go_at_call 80;exact Zo (b3.out _)))));refine wpQuiet_nil ?_;intro d
      clear c0 c1 c2 c3 d7 f0 f1 f2 f3 c9 d4 d5 d6 b1;have E:=Qt d;obtain⟨l,V⟩: ∃W,later d=W:=⟨_,rfl⟩;rw [V]at E⊢;clear V d;have g:=C.tr E;have o:Lt b l:=Xl f.out.1 g.size;have F:=(g.cell (p:=⟨b,j+q*4,none⟩) f.out.1).trans f.out.2.1;have G:=(g.cell (p:=⟨b,j+q*4+1,none⟩) f.out.1).trans f.out.2.2.1;have H:=(g.cell (p:=⟨b,j+q*4+2,none⟩) f.out.1).trans f.out.2.2.2.1;have I:=(g.cell (p:=⟨b,j+q*4+3,none⟩) f.out.1).trans f.out.2.2.2.2;have r:=Xh (show(m+1)≤O.length by omega);have a5:=Xh (show(some (⟨b2,z,none⟩:Addr))=none→u=0∨(m+1)=0 from fun e=> .inr (by first|rfl|(have h:=D.out;rw [e]at h;have h2:=SlT.nil_of h;have S:=r.out;rw [h2]at S;exact Nat.le_zero.1 S)));have HK:=Xh R;clear R
      go_upto_region 9 with(fail)
      refine wp_region_lit ?_;refine listV (v:= .slice none 0 0) (w':=l) rfl Kr ?_;refine listV (v:= .slice (some (⟨b2,z,none⟩:Addr)) O.length u) (w':=l) rfl Kr ?_;refine listV (v:= .int .i64 ((m+1):Nat)) (w':=l) rfl Kr ?_;have T:(O.take (m+1)).length=(m+1):=by have:=r.out;first|(rw [List.length_take];omega)|simp
      refine listV (v:= .slice (some (⟨b2,z,none⟩:Addr)) (O.take (m+1)).length u) (w':=l) rfl (by rw [T];exact Qhw (k:=(m+1)) r.out a2.out a5.out Kr Kr _) ?_;clear T;refine listAT (base:=l.heap.size) (c2:=u) (World.ownsRow_nil _ _ _ _) ((D.out.ext g).take (m+1)) (by have:=s.out;rw [List.length_take];omega) (Nat.le_refl _) Kr Kr ?_;intro v1 X n Y;refine listV (v:=v1) (w':=X) rfl Kr ?_;refine wpList_nil ?_;go_simp;have U:=Xh n;have a6:=Xh Y;have c8:Lt b X:=Xl o n.size;have A: ¬l.heap.size≤b:=Nat.not_le_of_lt o;have F:=(n.cell (i:=j+q*4) o A).trans F;have G:=(n.cell (i:=j+q*4+1) o A).trans G;have H:=(n.cell (i:=j+q*4+2) o A).trans H;have I:=(n.cell (i:=j+q*4+3) o A).trans I;clear n Y
      go_upto_region 11 with(at_builtin;refine listAT (base:=l.heap.size) (c2:=1) (ys:= [t]) (Zl a6.out Ea) (SlT.one (World.alloc_heap_new _ _)) (by have:=s.out;simp only [List.length_take,List.length_singleton];omega) (Xt U.out.size (by simp)) Kr Kr ?_;intro v2 K Z z)
      have J:=Xh (U.out.trans ((Mv.al _ (Mv.refl _ _)).trans Z));have a7:=Xh z;clear Z z F G H I;obtain⟨qd,cd,sd,a0⟩:=Qhx (D.out.ext g) r.out a2.out;have a8:=Xh (sd.mvn J.out (Nat.le_refl _));refine wp_region_lit ?_;refine listV (v:=v2) (w':=K) rfl Kr ?_;refine listV (v:= .slice (some (⟨b2,z,none⟩:Addr)) O.length u) (w':=K) rfl Kr ?_;refine listV (v:= .int .i64 ((m+1):Nat)) (w':=K) rfl Kr ?_;refine listV rfl (a0 _ _ _ _ _ _ _ _ Kr Kr _) ?_;refine listAT (base:=l.heap.size) (c2:=cd) a7.out a8.out (by have:=s.out;simp only [List.length_take,List.length_singleton,List.length_drop];omega) J.out.size Kr Kr ?_;intro v3 w3 m3 o3;refine listV (v:=v3) (w':=w3) rfl Kr ?_;refine wpList_nil ?_;go_simp;have a9:=Xh o3;have b0:=Xh (J.out.trans m3);clear m3 o3 sd a0;go_wp2
      go_roundw
      case rel=>
       refine⟨q+1,Om,by go_num,?_,Mv.ext_of (L.out.tr g) b0.out (fun k h=>Xt (L.out.tr g).size h)⟩;have h:=QA a9.out (L.out.tr g).size;rw [a4.out];have M:insT O t=O.take (m+1)++ [t]++O.drop (m+1):=by unfold insT;rw [←HK.out,List.append_assoc];rfl
       have N:0+(O.take (m+1)).length+ [t].length+(O.drop (m+1)).length=q+1:=by have:=s.out;have:=r.out;simp only [List.length_take,List.length_singleton,List.length_drop];omega
       rw [M,JT,JT,←N];exact h
      case measure=>simp [intOf];omega
     ·have b3:=Xh (fun W=>show Cr 80 #[tu t.a t.b t.c t.d,tu y.a y.b y.c y.d] W (.bool true) by have h:=Qgc t y b5.out b9.out W;rw [P]at h;exact h);have HN:=Xh (HP.out.trans (Qgd HY.out (of_decide_eq_true P)));clear P
      go_upto_region 6 with(fail)
      refine Qk Kr Kr ?_;(repeat(go_big_quiet_step ((go_at_call 80;exact Zo (b3.out _)))));refine wpQuiet_nil ?_;intro d
      have E:=Qt d;go_wp2
      go_roundw
      case rel=>exact⟨m,Om,by rw [b1],HN.out,C.tr E⟩
      case measure=>
       rw [b1];show(m:Int).toNat<((m+1:Nat):Int).toNat;omega
  ·have c7: ¬((q:Int)<xs.length):=by omega
   obtain rfl:q=xs.length:=by omega
   go_wp2;exact bodyPost_ret (v:=u3) (by simp [results,Tryz.results29,go_sem]) rfl ⟨u3,rfl,B,hE⟩
def Jh(has:List Tu)(t:Tu):Nat→Int
 |0=> -1
 |n+1=>if has[n]?=some t then(n:Int)else Jh has t n
theorem Qfe{has:List Tu}{t:Tu}(h:t ∉ has): ∀n,Jh has t n= -1
 |0=>rfl
 |n+1=>by rw [Jh,if_neg (fun e=>h (List.mem_of_getElem? e))];exact Qfe h n
theorem Qjc{has:List Tu}{t:Tu}{i:Nat}(h:has[i]?=some t): ∀n,i<n→(∀j,i<j→j<n→has[j]?≠some t)→Jh has t n=i
 |0,h0,_=>by omega
 |n+1,h0,hn=>by
  rw [Jh]
  by_cases a:has[n]?=some t
  ·rw [if_pos a];rcases Nat.lt_or_ge i n with h1|h1
   ·exact absurd a (hn n h1 Om)
   ·have:i=n:=by omega
    rw [this]
  ·rw [if_neg a];exact Qjc h n (by rcases Nat.lt_or_ge i n with h1|h1;exact h1;exact absurd (by rw [show n=i by omega];exact h) a) (fun j h1 h2=>hn j h1 Om)
def QdY(id:Int)(has:List Tu)(e:Ev):Bool:=e.a==id&&((e.k==1)==decide (Jh has e.t has.length<0)&&(decide (1≤e.k)&&decide (e.k≤4)))
def Ji(has:List Tu)(e:Ev):List Tu:=if e.k=1 then has++ [e.t]else if e.k=3∨e.k=4 then has.eraseIdx (Jh has e.t has.length).toNat else has
def QdS(id:Int):List Tu→List Ev→Bool
 |_,[]=>true
 |has,e::es=>QdY id has e&&QdS id (Ji has e) es
def YL:List Tu→List Ev→List Tu
 |has,[]=>has
 |has,e::es=>YL (Ji has e) es
def QdZ(l:List Tu):Prop:=l.Pairwise ltT
theorem Qtw(t:Tu): ¬ltT t t:=by unfold ltT;omega
theorem QdZ.mid{pre post:List Tu}{t:Tu}(h:QdZ (pre++t::post)):Jh (pre++t::post) t (pre++t::post).length=pre.length:=by
 have a:(pre++t::post)[pre.length]?=some t:=by rw [List.getElem?_append_right (Nat.le_refl _),Nat.sub_self];rfl
 refine Qjc a _ (by simp) (fun j hj hl e=> ?_);have b:=(List.pairwise_iff_getElem.1 h) pre.length j (by simp) hl hj;rw [List.getElem?_eq_some_iff]at a e;rw [a.2,e.2]at b;exact Qtw t b
theorem Qge(pre post:List Tu)(t:Tu):(pre++t::post).eraseIdx pre.length=pre++post:=by
 rw [List.eraseIdx_append_of_length_le (Nat.le_refl _),Nat.sub_self];rfl
theorem Qmo{id:Int}{pre post:List Tu}{t:Tu}{k:Int}(h:QdZ (pre++t::post))(hk:k=3∨k=4):QdY id (pre++t::post) ⟨k,id,t⟩=true∧Ji (pre++t::post) ⟨k,id,t⟩=pre++post:=by
 unfold QdY Ji;rw [h.mid];constructor
 ·rcases hk with rfl|rfl<;>simp<;>omega
 ·rw [if_neg (by rcases hk with rfl|rfl<;>simp),if_pos hk,Int.toNat_natCast,Qge]
theorem Qff(id:Int)(P:Co→Bool): ∀(xs:List Co) (pre:List Tu),QdZ (pre++xs.map Co.t)→QdS id (pre++xs.map Co.t) (ZN id (xs.filter P))=true∧YL (pre++xs.map Co.t) (ZN id (xs.filter P))=pre++(xs.filter fun c=>!P c).map Co.t
 | [],pre,_=>by simp [ZN,QdS,YL]
 |x::xs,pre,h=>by
  cases b:P x
  ·have a:=Qff id P xs (pre++ [x.t]) (by simpa using h);simp only [List.append_assoc,List.singleton_append]at a;simpa [b]using a
  ·have d:QdZ (pre++x.t::xs.map Co.t):=by simpa using h
   have a:=Qmo (id:=id) (k:=4) d (.inr rfl);have e:QdZ (pre++xs.map Co.t):=List.Pairwise.sublist (List.Sublist.append_left (List.sublist_cons_self _ _) _) d;have f:=Qff id P xs pre e;have g:(x::xs).filter P=x::xs.filter P:=by simp [b]
   have i:(x::xs).filter (fun c=>!P c)=xs.filter fun c=>!P c:=by simp [b]
   rw [g,i];show(QdY id (pre++x.t::xs.map Co.t) ⟨4,id,x.t⟩&&QdS id (Ji (pre++x.t::xs.map Co.t) ⟨4,id,x.t⟩) (ZN id (xs.filter P)))=true∧YL (Ji (pre++x.t::xs.map Co.t) ⟨4,id,x.t⟩) (ZN id (xs.filter P))=_;rw [a.1,a.2];exact f
theorem Qgf{l:List Tu}(h:QdZ l): ∀i,i≤l.length→Yx l i=l.take i
 |0,_=>by simp [Yx]
 |i+1,hi=>by
  rw [Qcg (t:=l[i]) Om rfl,Qgf h i Om];have a:(l.take i).length=i:=by rw [List.length_take];omega
  have b:QbF (l.take i) l[i] (l.take i).length=i:=by
   rw [a]
   cases i with
   |zero=>rfl
   |succ j=>
    have c:(l.take (j+1))[j]?=some l[j]:=by rw [List.getElem?_take,if_pos Om,List.getElem?_eq_getElem Om]
    refine Qdv c ?_;have d:=(List.pairwise_iff_getElem.1 h) j (j+1) Om Om Om;have:=Qd1.2 d;omega
  unfold insT;rw [b,List.take_of_length_le Om,List.drop_of_length_le Om,List.take_succ_eq_append_getElem Om]
theorem Qaf{l:List Tu}(h:QdZ l):Yx l l.length=l:=by rw [Qgf h _ (Nat.le_refl _),List.take_length]
theorem Qmp{l:List Tu}{t:Tu}{p:Nat}(hlt: ∀j y,j<p→l[j]?=some y→ltT y t)(hge: ∀j y,p≤j→l[j]?=some y→ltT t y): ∀k,p≤k→k≤l.length→QbF l t k=p
 |0,h,_=>by
  have:p=0:=by omega
  rw [this];rfl
 |k+1,h,hk=>by
  have a:l[k]?=some l[k]:=List.getElem?_eq_getElem Om;rcases Nat.lt_or_ge k p with h1|h1
  ·have:p=k+1:=by omega
   rw [this];refine Qdv a ?_;have:=Qd1.2 (hlt k _ h1 a);omega
  ·rw [Qgd a (JL.2 (hge k _ h1 a))];exact Qmp hlt hge k h1 Om
theorem Qn0{l:List Tu}{t:Tu}{p:Nat}(h:QdZ l)(hp:p≤l.length)(hlt: ∀j y,j<p→l[j]?=some y→ltT y t)(hge: ∀j y,p≤j→l[j]?=some y→ltT t y):Yx (l++ [t]) (l++ [t]).length=l.take p++t::l.drop p:=by
 have e:(l++ [t]).length=l.length+1:=by simp
 rw [e,Qcg (t:=t) Om (by simp)];have b:Yx (l++ [t]) l.length=l:=by
  have a:=Qaf h;unfold Yx at a⊢;rw [List.take_append_of_le_length (Nat.le_refl _)];exact a
 rw [b];unfold insT;rw [Qmp hlt hge _ hp (Nat.le_refl _)]
theorem ZX{xs:List Co}:QJ xs=true↔xs.length≤32∧(∀x∈xs,ZU x=false)∧QdZ (xs.map Co.t):=by
 constructor
 ·intro h;obtain⟨d,f⟩:=(ZK xs).1 h;refine⟨d,fun x b=> ?_,List.pairwise_iff_getElem.2 fun i j hi hj hij=> ?_⟩
  ·obtain⟨k,n,e⟩:=List.getElem_of_mem b
   cases a:ZU x
   ·rfl
   ·exact absurd ⟨x,by rw [List.getElem?_eq_getElem n,e],.inl a⟩ (f k n)
  ·simp only [List.length_map]at hi hj;simp only [List.getElem_map];refine Qbn h (List.getElem?_eq_getElem hi) (j- i- 1) xs[j] ?_;rw [show i+1+(j- i- 1)=j by omega];exact List.getElem?_eq_getElem hj
 ·rintro⟨d,f,o⟩;refine(ZK xs).2 ⟨d,fun j hj=> ?_⟩;rintro⟨x,b,a|⟨m,y,rfl,p,q⟩⟩
  ·rw [f x (List.mem_of_getElem? b)]at a;cases a
  ·have g:=(List.getElem?_eq_some_iff.1 p);have l:=(List.getElem?_eq_some_iff.1 b);have c:=(List.pairwise_iff_getElem.1 o) m (m+1) (by simpa using g.1) (by simpa using l.1) Om;simp only [List.getElem_map]at c;rw [g.2,l.2]at c;have:=JL.2 c;omega
theorem Qfg{xs ys:List Co}(h:QJ xs=true)(hs:ys.Sublist xs):QJ ys=true:=by
 obtain⟨a,b,c⟩:=ZX.1 h;exact ZX.2 ⟨Xt hs.length_le a,fun x hx=>b x (hs.subset hx),c.sublist (hs.map _)⟩
structure QaG(a:Ag)(md:Nat→Md)(xs:List Co)(es:List Ev):Prop where
 run:QdS a.id (a.xs.map Co.t) es=true
 srt:Yx (YL (a.xs.map Co.t) es) (YL (a.xs.map Co.t) es).length=xs.map Co.t
 right: ∀p c,agR {a with md:=md,p:=p,xs:=xs,c:=c}=true
 tu: ∀x∈xs,TuR x.t
 tue: ∀e∈es,TuR e.t
 kind: ∀k,k<16→0≤(md k).kind
 len:es.length≤40
theorem Yg{a:Ag}:agR a=true↔((0≤a.id∧a.id<6∧0≤a.idle∧a.idle≤1099511627776)∧QJ a.xs=true)∧(∀k,k<16→mdR (a.md k)=true∧(a.md k).peer≠a.id)∧ ∀c∈a.xs,(a.md (ofT c.t).toNat).kind≠0∧(a.md (ofT c.t).toNat).ret=false:=by
 unfold agR Yj Qdd cnA;simp only [Bool.and_eq_true,decide_eq_true_eq,List.all_eq_true,List.mem_range,bne_iff_ne,ne_eq,Bool.not_eq_true']
 grind
theorem Qrw{a:Ag}(h:agR a=true):QdZ ([]++a.xs.map Co.t):=(ZX.1 (Yg.1 h).1.2).2.2
theorem Yy{a:Ag}(h:agR a=true)(ht: ∀x∈a.xs,TuR x.t)(hk: ∀k,k<16→0≤(a.md k).kind):QaG a a.md a.xs []:=
 ⟨rfl,Qaf (Qrw h),fun _ _=>h,ht,(fun e he=>by cases he),hk,Nat.zero_le _⟩
theorem Qdx{a:Ag}{md:Nat→Md}(P:Co→Bool)(h:agR a=true)(ht: ∀x∈a.xs,TuR x.t)(hk: ∀k,k<16→0≤(md k).kind)(hm: ∀k,k<16→mdR (md k)=true∧(md k).peer≠a.id)(hc: ∀c∈a.xs,P c=false→(md (ofT c.t).toNat).kind≠0∧(md (ofT c.t).toNat).ret=false):
  QaG a md (a.xs.filter fun c=>!P c) (ZN a.id (a.xs.filter P)):=by
 have d:=Qff a.id P a.xs [] (Qrw h);simp only [List.nil_append]at d;have f:=Yg.1 h;have g:=Qfg (ys:=a.xs.filter fun c=>!P c) f.1.2 (List.filter_sublist);refine⟨d.1,?_,fun _ _=>Yg.2 ⟨⟨f.1.1,g⟩,hm,fun c b=> ?_⟩,fun x b=>ht x (List.mem_filter.1 b).1,fun e he=> ?_,hk,?_⟩
 ·rw [d.2];exact Qaf (ZX.1 g).2.2
 ·have:=List.mem_filter.1 b;exact hc c this.1 (by simpa using this.2)
 ·unfold ZN at he;obtain⟨x,b,rfl⟩:=List.mem_map.1 he;exact ht x (List.mem_filter.1 b).1
 ·rw [Qns];have:=(ZX.1 f.1.2).1;have:=List.length_filter_le P a.xs;omega
theorem Qn1{a:Ag}(now:Int)(h:agR a=true)(ht: ∀x∈a.xs,TuR x.t)(hk: ∀k,k<16→0≤(a.md k).kind):QaG a a.md (JN a now) (Qa6 a now):=by
 unfold JN Qa6;rw [if_pos h,if_pos h];exact Qdx (idleB a.idle now) h ht hk (Yg.1 h).2.1 fun c hc _=>(Yg.1 h).2.2 c hc
theorem Qn2{x:Ct}{m:Md}{id:Int}(hk:x.ki=1∨x.ki=2∨x.ki=3)(hp:m.peer≠id)(hx:x.ki≠3→x.pe≠id):(Jp x m).peer≠id∧((m.kind≠0∧m.ret=false)→Jq x m=false→(Jp x m).kind≠0∧(Jp x m).ret=false):=by
 obtain⟨k,p,g,r⟩:=m;rcases hk with h|h|h
 ·have:=hx Om;unfold Jp Jq;rw [if_pos h];unfold Ru.Qpn Ru.newer
  split
  ·exact⟨this,fun _ _=>⟨by show(3:Int)≠0;decide,rfl⟩⟩
  ·exact⟨hp,fun h _=>h⟩
 ·have:=hx Om;unfold Jp Jq;rw [if_neg Om,if_pos h];unfold Ru.Qpm Ru.newer
  split
  ·exact⟨this,fun _ _=>⟨by show(if x.pe= -1 then(1:Int)else 2)≠0;split<;>decide,rfl⟩⟩
  ·exact⟨hp,fun h _=>h⟩
 ·unfold Jp Jq;rw [if_neg Om,if_neg Om,if_pos h];unfold Ru.QjU
  cases a:Ru.Qd4 (toR ⟨k,p,g,r⟩) x.ge
  ·exact⟨hp,fun h _=>h⟩
  ·exact⟨hp,fun _ h=>by cases h⟩
theorem Qrx{x:Ct}(hk:x.ki=1∨x.ki=2∨x.ki=3)(h:ackOk x=true):x.ki≠3→x.pe≠x.ag:=by
 intro b e;unfold ackOk crB badC at h;simp only [Bool.and_eq_true]at h;have a:=h.2.1;rw [e]at a;rcases hk with k|k|k<;>rw [k]at a<;>simp at a
 omega
theorem Qn3{a:Ag}{x:Ct}(h0:0≤x.ki)(h:agR a=true)(ht: ∀x∈a.xs,TuR x.t)(hk: ∀k,k<16→0≤(a.md k).kind):QaG a (Zt a x).md (Yb a x) (Yc a x):=by
 cases b:JI a x
 ·have g:Zt a x=a:=by unfold Zt;rw [b];rfl
  have l:Yb a x=a.xs:=by unfold Yb Jg;rw [b];rfl
  have n:Yc a x= []:=by unfold Yc Jg;rw [b];rfl
  rw [g,l,n];exact Yy h ht hk
 ·obtain⟨u,F,G,-,C⟩:=Qf6 h0 b;have A:ackOk x=true:=by unfold JI at b;simp only [Bool.and_eq_true]at b;exact b.1
  obtain⟨i,H⟩: ∃i:Nat,x.bu=(i:Int):=⟨x.bu.toNat,Om⟩;have o:x.bu.toNat=i:=by omega
  have q:i<16:=by omega
  have p:=Yg.1 h;obtain⟨D,E,-⟩:=Qqn x (a.md i) _ u (p.2.1 i q).1 rfl (hk i q);have v:=Qn2 (m:=a.md i) u (p.2.1 i q).2 (fun e=>by rw [←C];exact Qrx u A e);have g:(Zt a x).md=fun j=>if j=i then Jp x (a.md i)else a.md j:=by unfold Zt;rw [b,o];rfl
  have w: ∀k,k<16→0≤((Zt a x).md k).kind:=fun k hk'=>by
   rw [g];dsimp only;split
   ·exact E
   ·exact hk k hk'
  have y: ∀k,k<16→mdR ((Zt a x).md k)=true∧((Zt a x).md k).peer≠a.id:=fun k hk'=>by
   rw [g];dsimp only;split
   ·exact⟨D,v.1⟩
   ·exact p.2.1 k hk'
  have z: ∀c∈a.xs,(Jq x (a.md i)=true→inB x.bu c=false)→((Zt a x).md (ofT c.t).toNat).kind≠0∧((Zt a x).md (ofT c.t).toNat).ret=false:=fun c hc hq=>by
   rw [g];dsimp only
   have r:=p.2.2 c hc
   by_cases s:(ofT c.t).toNat=i
   ·rw [if_pos s];rw [s]at r
    cases f:Jq x (a.md i)
    ·exact v.2 r f
    ·have:=hq f;unfold inB at this;have B:(ofT c.t==x.bu)=true:=by rw [beq_iff_eq];have:=QbY c.t;omega
     rw [B]at this;cases this
   ·rw [if_neg s];exact r
  cases f:Jq x (a.md i)
  ·have l:Yb a x=a.xs:=by unfold Yb Jg;rw [b,o,f];rfl
   have n:Yc a x= []:=by unfold Yc Jg;rw [b,o,f];rfl
   have d:=Qdx (md:=(Zt a x).md) (fun _=>false) h ht w y (fun c hc _=>z c hc (fun e=>by rw [f]at e;cases e));rw [show(a.xs.filter fun c=>!(fun _=>false) c)=a.xs from List.filter_eq_self.2 (fun _ _=>rfl),show a.xs.filter (fun _=>false)= []from List.filter_eq_nil_iff.2 (by simp)]at d;rw [l,n];exact d
  ·have l:Yb a x=a.xs.filter (fun c=>!inB x.bu c):=by unfold Yb Jg;rw [b,o,f];rfl
   have n:Yc a x=ZN a.id (a.xs.filter (inB x.bu)):=by unfold Yc Jg;rw [b,o,f];rfl
   rw [l,n];exact Qdx (inB x.bu) h ht w y (fun c hc hf=>z c hc (fun _=>hf))
theorem Qn4{m:Ru.Md}{k f g:Int}{s n r:Bool}(h:(Ru.Qux m k f g s n r).d=1):n=true:=by
 cases n
 ·exfalso;obtain⟨x,a⟩: ∃x,Ru.Qux m k f g s false r=x:=⟨_,rfl⟩;rw [a]at h;unfold Ru.Qux Ru.Quw Ru.Qau Ru.QeL Ru.Y4 Ru.Zs at a;have b:Ru.QlP r≠1:=by unfold Ru.QlP;cases r<;>decide
  repeat' split at a
  all_goals(subst a;first|(simp at h;done)|exact b h|(rename_i e;cases e))
 ·rfl
theorem Qn5{m:Ru.Md}{k f g:Int}{s n r:Bool}(hm:m.right=true)(h:(Ru.Qux m k f g s n r).d=2):n=false∧r=true∧(m.k=1∨m.k=2)∧m.r=false:=by
 have b:Ru.QT m=m:=by unfold Ru.QT;rw [if_pos hm]
 have c:(m.k=1∨m.k=2)→m.r=false:=fun hk=>by
  unfold Ru.Md.right Ru.Qg2 at hm;rcases hk with e|e<;>rw [e]at hm<;>grind
 have i:Ru.QlP r=2→r=true:=by unfold Ru.QlP;cases r<;>simp
 cases n
 ·obtain⟨x,a⟩: ∃x,Ru.Qux m k f g s false r=x:=⟨_,rfl⟩;rw [a]at h;unfold Ru.Qux Ru.Quw Ru.Qau Ru.QeL Ru.Y4 Ru.Zs at a;rw [b]at a
  repeat' split at a
  all_goals(subst a;first|(simp at h;done)|(refine⟨rfl,i h,?_,c ?_⟩<;>first|exact .inl (by assumption)|exact .inr (by assumption))|(rename_i e;cases e))
 ·exfalso;unfold Ru.Qux at h
  split at h
  ·simp [Ru.Zs]at h
  ·simp at h
theorem Qwe{s t:Tu}(h: ¬ltT s t)(he:s≠t):ltT t s:=by
 have a: ¬YQ s t<0:=fun e=>h (JL.1 e);have b:YQ s t≠0:=fun e=>he (Qlp.1 e);exact Qd1.1 Om
theorem Qry{f:List Co→Nat→List Co}{xs:List Co}{t:Tu}(h:QJ xs=true)(ho:okC xs t=true):withX f xs t=f xs (atC xs t):=by
 unfold withX withOk;rw [h,ho];rfl
theorem Qhy{xs:List Co}{t:Tu}{now:Int}(h:QJ xs=true):(withX (touchF now) xs t).map Co.t=xs.map Co.t:=by
 refine List.ext_getElem? fun j=> ?_;rw [List.getElem?_map,List.getElem?_map]
 cases a:xs[j]? with
 |none=>
  have:xs.length≤j:=List.getElem?_eq_none_iff.1 a;rw [List.getElem?_eq_none (by rw [Qbo];exact this)]
 |some x=>
  rw [QfR h j x a]
  split<;>rfl
theorem Qfh{a:Ag}{xs:List Co}(h:agR a=true)(hr:QJ xs=true)(hm: ∀x∈xs,x.t∈a.xs.map Co.t)(p:Option Addr)(c:Nat):agR {a with p:=p,xs:=xs,c:=c}=true:=by
 have b:=Yg.1 h;refine Yg.2 ⟨⟨b.1.1,hr⟩,b.2.1,fun x hx=> ?_⟩;obtain⟨y,d,e⟩:=List.mem_map.1 (hm x hx);have:=b.2.2 y d;rw [e]at this;exact this
theorem Qgg{a:Ag}{xs:List Co}(ht: ∀x∈a.xs,TuR x.t)(hm: ∀x∈xs,x.t∈a.xs.map Co.t): ∀x∈xs,TuR x.t:=fun x hx=>by
 obtain⟨y,b,e⟩:=List.mem_map.1 (hm x hx);rw [←e];exact ht y b
theorem Qlf{id:Int}{pre post:List Tu}{t:Tu}(h:QdZ (pre++t::post)):QdY id (pre++t::post) ⟨2,id,t⟩=true∧Ji (pre++t::post) ⟨2,id,t⟩=pre++t::post:=by
 unfold QdY Ji;rw [h.mid];exact⟨by simp,by rw [if_neg (show ¬(2:Int)=1 by decide),if_neg (show ¬((2:Int)=3∨(2:Int)=4)by decide)]⟩
theorem Qhz{a:Ag}{c:Cm}(h:agR a=true)(ht: ∀x∈a.xs,TuR x.t)(hk: ∀k,k<16→0≤(a.md k).kind)(htu:TuR c.pk.tu)(ho:okC a.xs c.pk.tu=true):QaG a a.md (QfB a c) (Qdq a c):=by
 have r:=Yg.1 h;have n:=r.1.2;have f:=(ZX.1 n).2.2;obtain⟨x,l,A⟩:=QgG ho;have s:c.pk.tu∈a.xs.map Co.t:=List.mem_map.2 ⟨x,List.mem_of_getElem? l,A⟩;obtain⟨d,q,b⟩:=List.append_of_mem s;rw [b]at f;have g:=Qlf (id:=a.id) f;have o:=Qmo (id:=a.id) (k:=3) f (.inl rfl);have m:QJ (withX (touchF c.now) a.xs c.pk.tu)=true:=QhX n;have i:(withX (touchF c.now) a.xs c.pk.tu).map Co.t=d++c.pk.tu::q:=by rw [Qhy n,b]
 unfold QfB Qdq
 cases D:QcL c
 ·rw [if_neg (by simp),if_neg (by simp)];have j: ∀x∈withX (touchF c.now) a.xs c.pk.tu,x.t∈a.xs.map Co.t:=fun x l=>by rw [b,←i];exact List.mem_map_of_mem l
  refine⟨?_,?_,Qfh h m j,Qgg ht j,fun e he=> ?_,hk,by simp⟩
  ·rw [b];show(QdY _ _ _&&true)=true;rw [g.1];rfl
  ·rw [b,i];simp only [YL];rw [g.2];exact Qaf f
  ·rw [List.mem_singleton.1 he];exact htu
 ·rw [if_pos rfl,if_pos rfl];have u:(withX (touchF c.now) a.xs c.pk.tu)[d.length]?.map Co.t=some c.pk.tu:=by rw [←List.getElem?_map,i,List.getElem?_append_right (Nat.le_refl _),Nat.sub_self];rfl
  obtain⟨y,B,C⟩:=Option.map_eq_some_iff.1 u;have p:=QgF m B C;have v:withX (fun xs k=>xs.eraseIdx k) (withX (touchF c.now) a.xs c.pk.tu) c.pk.tu=(withX (touchF c.now) a.xs c.pk.tu).eraseIdx d.length:=by
   rw [Qry m p.2,p.1]
  rw [v];have w:((withX (touchF c.now) a.xs c.pk.tu).eraseIdx d.length).map Co.t=d++q:=by rw [List.eraseIdx_eq_take_drop_succ,List.map_append,List.map_take,List.map_drop,i,←List.eraseIdx_eq_take_drop_succ,Qge]
  have z:=Qfg m (List.eraseIdx_sublist (withX (touchF c.now) a.xs c.pk.tu) d.length);have j: ∀x∈(withX (touchF c.now) a.xs c.pk.tu).eraseIdx d.length,x.t∈a.xs.map Co.t:=fun x l=>by rw [b,←i];exact List.mem_map_of_mem ((List.eraseIdx_sublist _ _).subset l)
  refine⟨?_,?_,Qfh h z j,Qgg ht j,fun e he=> ?_,hk,by simp⟩
  ·rw [b];show(QdY _ _ _&&(QdY _ (Ji _ _) _&&true))=true;rw [g.1,g.2,o.1];rfl
  ·rw [b,w];simp only [YL];rw [g.2,o.2];exact Qaf (f.sublist (List.Sublist.append_left (List.sublist_cons_self _ _) _))
  ·rcases List.mem_cons.1 he with rfl|he
   ·exact htu
   ·rw [List.mem_singleton.1 he];exact htu
theorem Qjd{a:Ag}{t:Tu}{now:Int}(h:agR a=true)(ht: ∀x∈a.xs,TuR x.t)(hk: ∀k,k<16→0≤(a.md k).kind)(htu:TuR t)(ho:okC a.xs t=false)(hl:a.xs.length<32)(h0:0≤now)(h1:now≤1099511627776)(hm:(a.md (ofT t).toNat).kind≠0∧(a.md (ofT t).toNat).ret=false):QaG a a.md (JV a.xs t now) [⟨1,a.id,t⟩]:=by
 have f:=Yg.1 h;have d:=f.1.2;have o:=(ZX.1 d).2.2;have l:t ∉ a.xs.map Co.t:=fun e=>by
  obtain⟨x,b,e⟩:=List.mem_map.1 e;rw [QoL d,List.any_eq_false]at ho;exact ho x b (YZ.2 e)
 have q:JV a.xs t now=Ja a.xs (atC a.xs t) (QhO t now):=by
  have i:QaM a.xs t now=0:=by unfold QaM QrX;rw [d,ho,if_neg (by simp;omega),if_neg (by simp),if_pos Om]
  unfold JV;rw [if_pos i]
 have r:=Qou a.xs t
 have s:=Qn0 (t:=t) (p:=atC a.xs t) o (by rw [List.length_map];exact r) (fun j y hj hy=>by
  rw [List.getElem?_map]at hy;obtain⟨x,b,e⟩:=Option.map_eq_some_iff.1 hy;rw [←e];exact QgE j hj x b) (fun j y hj hy=>by
  rw [List.getElem?_map]at hy;obtain⟨x,b,e⟩:=Option.map_eq_some_iff.1 hy;rw [←e];have v:=(List.getElem?_eq_some_iff.1 b).1;obtain⟨z,g⟩: ∃z,a.xs[atC a.xs t]?=some z:=⟨_,List.getElem?_eq_getElem Om⟩;have m:ltT t z.t:=Qwe (QoK g) (fun e=>l (List.mem_map.2 ⟨z,List.mem_of_getElem? g,e⟩));rcases Nat.lt_or_ge (atC a.xs t) j with h2|h2
  ·exact QfP m (Qbn d g (j- atC a.xs t- 1) x (by rw [show atC a.xs t+1+(j- atC a.xs t- 1)=j by omega];exact b))
  ·have:j=atC a.xs t:=by omega
   rw [this]at b;rw [g]at b;cases b;exact m)
 have n: ∀x∈Ja a.xs (atC a.xs t) (QhO t now),x∈a.xs∨x=QhO t now:=fun x b=>by
  unfold Ja at b;rcases List.mem_append.1 b with h2|h2
  ·exact .inl (List.mem_of_mem_take h2)
  ·rcases List.mem_cons.1 h2 with h3|h3
   ·exact .inr h3
   ·exact .inl (List.mem_of_mem_drop h3)
 rw [q];have u:Ji (a.xs.map Co.t) ⟨1,a.id,t⟩=a.xs.map Co.t++ [t]:=by unfold Ji;rw [if_pos rfl]
 refine⟨?_,?_,fun p c=>Yg.2 ⟨⟨f.1.1,QmI d hl h0 h1 ho⟩,f.2.1,fun x b=> ?_⟩,fun x b=> ?_,fun e i=> ?_,hk,by simp⟩
 ·show(QdY _ _ _&&true)=true;unfold QdY;rw [Qfe l];simp
 ·simp only [YL];rw [u,s];unfold Ja;rw [List.map_append,List.map_cons,List.map_take,List.map_drop];rfl
 ·rcases n x b with h2|h2
  ·exact f.2.2 x h2
  ·rw [h2];exact hm
 ·rcases n x b with h2|h2
  ·exact ht x h2
  ·rw [h2];exact htu
 ·rw [List.mem_singleton.1 i];exact htu
theorem Qrz{a:Ag}{c:Cm}{pl:List Int}{x:Ru.Ac}{k f g:Int}{s:Bool}(h:agR a=true)(ht: ∀x∈a.xs,TuR x.t)(hk: ∀k,k<16→0≤(a.md k).kind)(htu:TuR c.pk.tu)(h0:0≤c.now)(h1:c.now≤1099511627776)
  (hx:x=Ru.Qux (toR (a.md (ofT c.pk.tu).toNat)) k f g s (okC a.xs c.pk.tu) (decide ((a.xs.length:Int)<32))):QaG a a.md (Qae x a c pl).2.1 (Qae x a c pl).2.2.1:=by
 unfold Qae
 by_cases i:x.d=0
 ·rw [if_pos i];exact Yy h ht hk
 rw [if_neg i]
 by_cases b:x.d=1
 ·rw [if_pos b];rw [hx]at b;exact Qhz h ht hk htu (Qn4 b)
 rw [if_neg b]
 by_cases e:x.d=2
 ·rw [if_pos e];rw [hx]at e;have n:=QbY c.pk.tu;obtain⟨j,l,p,m⟩:=Qn5 (Qga h (ofT c.pk.tu).toNat Om) e;have o:=of_decide_eq_true l;refine Qjd h ht hk htu j Om h0 h1 ⟨?_,m⟩;show(toR (a.md (ofT c.pk.tu).toNat)).k≠0;omega
 ·rw [if_neg e];exact Yy h ht hk
theorem Qtx{a:Ag}{bs:List Int}{now:Int}(h:agR a=true)(ht: ∀x∈a.xs,TuR x.t)(hk: ∀k,k<16→0≤(a.md k).kind)(hb:ByR bs):QaG a a.md (inR a bs now).2.1 (inR a bs now).2.2.1:=by
 unfold inR
 split
 ·exact Yy h ht hk
 rename_i hg
 have b:0≤now∧now≤1099511627776:=by
  unfold inG at hg;rw [h]at hg;simp only [Bool.true_and,Bool.and_eq_false_imp,decide_eq_true_eq,decide_eq_false_iff_not]at hg;omega
 split
 ·exact Yy h ht hk
 rename_i fr tn o pl he
 have d:=(Qmj hb he).1
 split
 ·exact Yy h ht hk
 split
 ·exact Yy h ht hk
 split
 ·exact Yy h ht hk
 exact Qrz (c:=⟨fr,tn,o,none,0,0,pkI pl,none,0,0,now⟩) h ht hk (Qq1 d).1 b.1 b.2 rfl
structure Dd where
 d:Int
 p:Option Addr
 bs:List Int
 c:Nat
 x:Ct
 now:Int
def Dd.at(y:Dd)(j:Nat):Value:=if j=0 then .int .i64 y.d else if j=1 then .slice y.p y.bs.length y.c else if j<12 then y.x.at (j- 2)else .int .i64 y.now
def ddv(y:Dd):Array Value:=rowv 13 y.at
theorem QcR{y}:(ddv y).size=13:=by unfold ddv;rw [QY]
@[go_sem] theorem Qzn{y o m}:Fits o m (ddv y)=(o+m≤13):=by unfold Fits;rw [QcR]
@[go_sem] theorem Qwf{y}:Qn (ddv y) 13:=QcR
@[go_sem ↓ high] theorem Qxk{y}:(Value.agg (ddv y)).cells=ddv y:=QF _
theorem Qn6(y:Dd)(j:Nat):(y.at j).oneCell'=true:=by unfold Dd.at;split;rfl;split;rfl;split;exact Qf5 _ _;rfl
@[go_sem] theorem Qz5{y}:QK (ddv y):=Zw _ _ fun _=>Qn6 _ _
@[go_sem] theorem QuC{y}:QB (ddv y) 0 13=ddv y:=Q9 _ _ QcR
@[go_sem] theorem Qn7{y}:QB (ddv y) 2 10=ctv y.x:=by
 unfold ddv ctv;rw [Q5 _ _ _ _ Om];refine QH _ _ _ fun j hj=> ?_;unfold Dd.at;rw [if_neg Om,if_neg Om,if_pos Om,show 2+j- 2=j by omega]
theorem Qd7{B:Nat}{y:Dd}(h:Qc w B=ddv y)(j:Nat)(hj:j<13):w.cell? ⟨B,j,none⟩=some (y.at j):=by
 rw [Qa,h];unfold ddv;rw [QM,if_pos hj]
theorem Qmq:(Tryz.prog.info? 59).map (·.size)=some 13:=Kr
theorem Qn8{b o:Nat}(h:o+13≤(Qc w b).size):(Instr.loadAt 59 (.pointer (some ⟨b,o,none⟩))).run Tryz.prog w= .ok (.agg ((Qc w b).extract o (o+13))) w:=by
 have:=run_loadAt_mid w b o 59 ((Qc w b).extract o (o+13)).toList _ (QC w b o (o+13)) Tryz.underlying59 rfl (by rw [Qmq];simp;omega)
 rwa [Array.toArray_toList]at this
@[go_sem ↓ high] theorem QcS(ρ:Operand→Value)(dst:Option Tmp)(x:Operand)(ty:TypeId)(pos:String)(after:Array Edge)(g:Option (Nat×Bool))(w:World)
  (hx:ρ x= .pointer (some ⟨Qb (ρ x),Qd (ρ x),none⟩))(h:Fits (Qd (ρ x)) 13 (Qc w (Qb (ρ x)))):
  (execOp ρ ⟨dst,.load 59 x,ty,pos,after,g⟩).run Tryz.prog w= .ok (.value (.agg (QB (Qc w (Qb (ρ x))) (Qd (ρ x)) 13))) w:=by
 unfold Fits at h;generalize a:Qb (ρ x)=B at*;generalize b:Qd (ρ x)=O at*;simp only [execOp,hx,Sem.run_bind,Qn8 h,Result.andThen_ok,Sem.run_pure,QB]
@[go_sem ↓ high] theorem QuD{l:Option Nat}{x:Operand}(w:World)
  (hx:ρ x= .pointer (some ⟨Qb (ρ x),Qd (ρ x),none⟩))(h:Fits (Qd (ρ x)) 13 (Qc w (Qb (ρ x)))):
  (Oper.semAt l ρ ⟨dst,.load 59 x,ty,pos,after,g⟩).run Tryz.prog w= .ok (.value (.agg (QB (Qc w (Qb (ρ x))) (Qd (ρ x)) 13))) w:=by rw [Oper.semAt_eq _ _ _ (fun c h=>by cases h)];exact QcS ρ dst x ty pos after g w hx h
@[go_sem ↓ high] theorem QfE(ρ:Operand→Value)(dst:Option Tmp)(x y:Operand)(ty:TypeId)(pos:String)(after:Array Edge)(g:Option (Nat×Bool))(w:World)
  (hx:ρ x= .pointer (some ⟨Qb (ρ x),Qd (ρ x),none⟩))(hy:ρ y= .agg (ρ y).cells)(hs:Qn (ρ y).cells 13)(h:Fits (Qd (ρ x)) 13 (Qc w (Qb (ρ x))))(hz:Qs w (Qb (ρ x))=(0,0))(h1:QK (ρ y).cells):
  (execOp ρ ⟨dst,.store 59 x y,ty,pos,after,g⟩).run Tryz.prog w= .ok .skip (Qe w (Qb (ρ x)) (Qd (ρ x)) (ρ y).cells):=by
 unfold Fits at h;unfold Qn at hs;generalize b:Qb (ρ x)=B at*;generalize c:Qd (ρ x)=O at*;generalize d:(ρ y).cells=C at*;have a:(Instr.storeAt 59 (.pointer (some ⟨B,O,none⟩)) (.agg C)).run Tryz.prog w= .ok () (Qe w B O C):=
  run_storeAt_mid w B O 59 C (fun j hj=>⟨by rw [Qa,Array.getElem?_eq_getElem Om];rfl,Ql hz _⟩) (by rw [Qmq,hs]) h1
 simp only [execOp,hx,hy,Sem.run_bind,a,Result.andThen_ok,Sem.run_pure]
@[go_sem ↓ high] theorem Qty{l:Option Nat}{x y:Operand}(w:World)
  (hx:ρ x= .pointer (some ⟨Qb (ρ x),Qd (ρ x),none⟩))(hy:ρ y= .agg (ρ y).cells)(hs:Qn (ρ y).cells 13)(h:Fits (Qd (ρ x)) 13 (Qc w (Qb (ρ x))))(hz:Qs w (Qb (ρ x))=(0,0))(h1:QK (ρ y).cells):
  (Oper.semAt l ρ ⟨dst,.store 59 x y,ty,pos,after,g⟩).run Tryz.prog w= .ok .skip (Qe w (Qb (ρ x)) (Qd (ρ x)) (ρ y).cells):=by rw [Oper.semAt_eq _ _ _ (fun c h=>by cases h)];exact QfE ρ dst x y ty pos after g w hx hy hs h hz h1
structure DdO(w:World)(y:Dd):Prop where
 s:SlB w y.p y.bs
 r:ByR y.bs
 l:y.bs.length≤y.c
 k:0≤y.x.ki
 f:0≤y.x.of_∧y.x.of_<256
def SlD(w:World)(p:Option Addr)(ds:List Dd):Prop:= ∀k,(h:k<ds.length)→DdO w ds[k]∧ ∃b off,p=some ⟨b,off,none⟩∧b<w.heap.size∧ ∀j,j<13→w.cell? ⟨b,off+k*13+j,none⟩=some (ds[k].at j)
theorem DdO.ext{w':World}{y:Dd}(h:DdO w y)(e:Ext w w'):DdO w' y:=⟨h.s.ext e,h.r,h.l,h.k,h.f⟩
theorem SlD.ext{w':World}{p:Option Addr}{ds:List Dd}(h:SlD w p ds)(e:Ext w w'):SlD w' p ds:=fun k hk=>by
 obtain⟨d,b,a,f,c,g⟩:=h k hk;exact⟨d.ext e,b,a,f,Xl c e.size,fun j hj=>(e.cell (p:=⟨b,a+k*13+j,none⟩) c).trans (g j hj)⟩
def doM(a:Ag)(y:Dd):Nat→Md:=if y.d=1 then(Zt a y.x).md else a.md
def doX(a:Ag)(y:Dd):List Co:=if y.d=0 then(inR a y.bs y.now).2.1 else if y.d=1 then Yb a y.x else JN a y.now
def doE(a:Ag)(y:Dd):List Ev:=if y.d=0 then(inR a y.bs y.now).2.2.1 else if y.d=1 then Yc a y.x else Qa6 a y.now
theorem Qtz{a:Ag}{y:Dd}(hy:DdO w y)(h:agR a=true)(ht: ∀x∈a.xs,TuR x.t)(hk: ∀k,k<16→0≤(a.md k).kind):QaG a (doM a y) (doX a y) (doE a y):=by
 unfold doM doX doE
 by_cases c:y.d=0
 ·rw [if_neg Om,if_pos c,if_pos c];exact Qtx h ht hk hy.r
 rw [if_neg c,if_neg c]
 by_cases b:y.d=1
 ·rw [if_pos b,if_pos b,if_pos b];exact Qn3 hy.k h ht hk
 ·rw [if_neg b,if_neg b,if_neg b];exact Qn1 y.now h ht hk
def QfF(y:Dd):Bool:=decide ((y.bs.length:Int)>300)||decide ((y.x.n:Int)>40)
def Qbi(ds:List Dd):Bool:=(ds.take 21).any QfF||decide ((ds.length:Int)>20)
theorem Qgh{ds:List Dd}{k:Nat}{y:Dd}(hk:k≤20)(hy:ds[k]?=some y)(hb:QfF y=true):Qbi ds=true:=by
 unfold Qbi;have h:(ds.take 21)[k]?=some y:=by rw [List.getElem?_take,if_pos Om];exact hy
 rw [List.any_eq_true.2 ⟨y,List.mem_of_getElem? h,hb⟩];rfl
theorem Qgi{ds:List Dd}{k:Nat}(hk:ds.length≤k∨20<k)(h: ∀j,j<k→ ∀y,ds[j]?=some y→QfF y=false):Qbi ds=decide ((ds.length:Int)>20):=by
 unfold Qbi;have:(ds.take 21).any QfF=false:=List.any_eq_false.2 fun y hy=>by
  obtain⟨j,b,e⟩:=List.getElem_of_mem hy;rw [List.length_take]at b;have a:ds[j]?=some y:=by rw [←e,List.getElem_take];exact List.getElem?_eq_getElem Om
  rw [h j Om y a];simp
 rw [this];rfl
theorem QrA{ds:List Dd}(h:Qbi ds=false):ds.length≤20∧ ∀y∈ds,y.bs.length≤300:=by
 unfold Qbi QfF at h;rw [Bool.or_eq_false_iff,List.any_eq_false]at h;have b:=of_decide_eq_false h.2;refine⟨Om,fun y hy=> ?_⟩;have a:=h.1 y (by rw [List.take_of_length_le Om];exact hy);simp only [Bool.or_eq_true,decide_eq_true_eq,not_or]at a;omega
theorem Qn9(p:Option Addr)(ds:List Dd)(c:Nat)(w:World)(hs:SlD w p ds)(hl:ds.length≤9223372036854775807):
  Cr 26 #[.slice p ds.length c] w (.bool (Qbi ds)):=by
 have B:=Xh hs;clear hs
 go_enter Tryz.func26,Tryz.ntmps26
 go_wp2
 go_loopw [3] (fun a wr=> ∃k:Nat,k≤ds.length∧k≤21∧a= .int .i64 k∧(∀j,j<k→ ∀y,ds[j]?=some y→QfF y=false)∧Ext w wr) (fun a _=>ds.length- (intOf a).toNat)
 case atStart=>exact⟨0,Nat.zero_le _,Nat.zero_le _,rfl,fun j h=>by omega,Ext.rf _⟩
 case round=>
  obtain⟨k,I,J,rfl,t,e⟩:=hrel;have g:=Xh t;clear t
  by_cases q:k<ds.length
  ·have C:(k:Int)<ds.length:=by omega
   by_cases r:k≤20
   ·have D:(k:Int)≤20:=by omega
    obtain⟨-,b,u,rfl,A,f⟩:=(B.out.ext e) k q;obtain⟨y,m⟩: ∃y,ds[k]=y:=⟨_,rfl⟩;have o:ds[k]?=some y:=by rw [List.getElem?_eq_getElem q,m]
    rw [m]at f;have F:wr.cell? ⟨b,u+k*13+1,none⟩=some (.slice y.p y.bs.length y.c):=f 1 Om;have G:wr.cell? ⟨b,u+k*13+11,none⟩=some (.slice y.x.p y.x.n y.x.c):=f 11 Om;have H:Lt b wr:=A;have i:=Xh o;clear f A m o
    cases l:decide ((y.bs.length:Int)>300)
    case true=>
     have d:=Xh (Qgh r i.out (by unfold QfF;rw [l];rfl));go_wp2;exact bodyPost_ret (v:= .bool true) (by simp [results,Tryz.results26,go_sem]) rfl ⟨by rw [d.out],e⟩
    case false=>
     cases s:decide ((y.x.n:Int)>40)
     case true=>
      have d:=Xh (Qgh r i.out (by unfold QfF;rw [l,s];rfl));go_wp2;exact bodyPost_ret (v:= .bool true) (by simp [results,Tryz.results26,go_sem]) rfl ⟨by rw [d.out],e⟩
     case false=>
      have E:=Xh (show QfF y=false by unfold QfF;rw [l,s];rfl);go_wp2
      go_roundw
      case rel=>exact⟨k+1,Om,Om,by go_num,fun j hj z hz=>by
       rcases Nat.lt_or_ge j k with h|h
       ·exact g.out j h z hz
       ·have:j=k:=by omega
        rw [this,i.out]at hz;cases hz;exact E.out,e⟩
      case measure=>simp [intOf];omega
   ·have D: ¬(k:Int)≤20:=by omega
    have d:=Xh (Qgi (.inr Om) g.out);go_wp2;exact bodyPost_ret (v:= .bool (decide ((ds.length:Int)>20))) (by simp [results,Tryz.results26,go_sem]) rfl ⟨by rw [d.out],e⟩
  ·have C: ¬(k:Int)<ds.length:=by omega
   have d:=Xh (Qgi (.inl Om) g.out);go_wp2;exact bodyPost_ret (v:= .bool (decide ((ds.length:Int)>20))) (by simp [results,Tryz.results26,go_sem]) rfl ⟨by rw [d.out],e⟩
section
open Go.ChangeShapes Go.WideShapes Go.ChangeAt
def QuE(A:Ag)(X:List Co)(L:List Ev)(K:Ct)(T:Bool)(v:Value)(w':World):Prop:= ∃p c q d,v= .tuple #[.agg (agv {A with p:=p,xs:=X,c:=c}),.slice q L.length d,.agg (ctv K),.bool T]∧SlC w' p X∧SlE w' q L
theorem Qwg(a:Ag)(x:Ct)(w:World)(A:Ag)(X:List Co)(L:List Ev)(K:Ct)(T:Bool)(e1:Zt a x=A)(e2:Yb a x=X)(e3:Yc a x=L)(e4:JR a x=K)(e5:JI a x=T)(hs:SlC w a.p a.xs)(hl:a.xs.length≤1000)(hr: ∀x∈a.xs,TuR x.t)(hk: ∀k,k<16→0≤(a.md k).kind)(h0:0≤x.ki)(hof:0≤x.of_∧x.of_<256):
  Calls Tryz.prog 16 #[.agg (agv a),.agg (ctv x)] w fun e w'=> ∃v,e= .returned v∧QuE A X L K T v w'∧Ext w w':=
 (Qdl a x w hs hl hr hk h0 hof).mono fun e w' ⟨p,c,q,d,h1,h2,h3,h4⟩=>by
  subst e1 e2 e3 e4 e5;exact⟨_,h1,⟨p,c,q,d,rfl,h2,h3⟩,h4⟩
structure TwR(W:World)(b2 b3 b5 b7 b9 B4 B5:Nat)(a o:Ag)(x K Y:Ct)(m n:Md):Prop where
 a:RowZ W b2 (agv a)
 x:RowZ W b3 (ctv x)
 o:RowZ W b5 (agv o)
 k:RowZ W b7 (ctv K)
 y:RowZ W b9 (ctv Y)
 m:RowZ W B4 (mdv m)
 n:RowZ W B5 (mdv n)
theorem TwR.ext{W W':World}{b2 b3 b5 b7 b9 B4 B5:Nat}{a o:Ag}{x K Y:Ct}{m n:Md}(h:TwR W b2 b3 b5 b7 b9 B4 B5 a o x K Y m n)(e:Ext W W'):TwR W' b2 b3 b5 b7 b9 B4 B5 a o x K Y m n:=⟨h.a.ext e,h.x.ext e,h.o.ext e,h.k.ext e,h.y.ext e,h.m.ext e,h.n.ext e⟩
theorem TwR.facts{W:World}{b2 b3 b5 b7 b9 B4 B5 i:Nat}{a o:Ag}{x Y:Ct}{m n:Md}(h:TwR W b2 b3 b5 b7 b9 B4 B5 a o x Y Y m n)(hi:x.bu=(i:Int)):W.cell? ⟨b3,0,none⟩=some (.int .u8 x.ki)∧W.cell? ⟨b3,4,none⟩=some (.int .i64 x.ge)∧W.cell? ⟨b3,3,none⟩=some (.int .i64 (i:Int))∧W.cell? ⟨b2,66,none⟩=some (.slice a.p a.xs.length a.c)∧W.cell? ⟨b5,66,none⟩=some (.slice o.p o.xs.length o.c)∧W.cell? ⟨B4,0,none⟩=some (.int .u8 m.kind)∧W.cell? ⟨B4,2,none⟩=some (.int .i64 m.gen)∧W.cell? ⟨B5,2,none⟩=some (.int .i64 n.gen)∧W.cell? ⟨B5,3,none⟩=some (.bool n.ret)∧Lt b2 W∧Qc W b2=agv a∧Lt b3 W∧Qc W b3=ctv x∧Lt b5 W∧Qc W b5=agv o∧Lt b7 W∧Qc W b7=ctv Y∧Lt b9 W∧Qc W b9=ctv Y∧Lt B4 W∧Qc W B4=mdv m∧Lt B5 W∧Qc W B5=mdv n∧Qs W b2=(0,0):=
 ⟨QG h.x.r 0 Om,QG h.x.r 4 Om,by rw [←hi];exact QG h.x.r 3 Om,by rw [Qa,h.a.r,Qu],by rw [Qa,h.o.r,Qu],by rw [Qa,h.m.r,YH];rfl,by rw [Qa,h.m.r,YH];rfl,by rw [Qa,h.n.r,YH];rfl,by rw [Qa,h.n.r,YH];rfl,h.a.l,h.a.r,h.x.l,h.x.r,h.o.l,h.o.r,h.k.l,h.k.r,h.y.l,h.y.r,h.m.l,h.m.r,h.n.l,h.n.r,h.a.z⟩
end
section
attribute [local go_sem ↓ high] Qz Z1
def InV(a:Ag)(dr:Int)(X:List Co)(L:List Ev)(nS:Nat)(v:Value)(w':World):Prop:= ∃p c ep ec sp sc,v= .tuple #[.agg (agv {a with p:=p,xs:=X,c:=c}),.agg (dnv ⟨dr,ep,L.length,ec,sp,nS,sc⟩)]∧SlC w' p X∧SlE w' ep L
theorem QAs(a:Ag)(y:Dd)(w:World)(dr:Int)(X:List Co)(L:List Ev)(nS:Nat)(S:List (List Int))(e:inR a y.bs y.now=(dr,X,L,S))(en:S.length=nS)(hs:SlC w a.p a.xs)(hl:a.xs.length≤1000)(hr: ∀x∈a.xs,TuR x.t)(hk: ∀k,k<16→0≤(a.md k).kind)(hy:DdO w y)(hb:y.bs.length≤300):
  Calls Tryz.prog 12 #[.agg (agv a),.slice y.p y.bs.length y.c,.int .i64 y.now] w fun e w'=> ∃v,e= .returned v∧InV a dr X L nS v w'∧Ext w w':=
 (Qq8 a y.bs y.p y.c y.now w hs hl hr hk hy.s hy.r Om hy.l).mono fun e' w' ⟨p,c,ep,ec,sp,sc,h1,h2,h3,h4,h5⟩=>by
  rw [e]at h1 h2 h3;subst en;exact⟨_,h1,⟨p,c,ep,ec,sp,sc,rfl,h2,h3⟩,h5⟩
theorem Qwh{C:Nat→Prop}{B:Nat}{y:Dd}(h0:RowZ w B (ddv y))(hC: ¬C B){q:Operand}
  (hx:ρ q= .pointer (some ⟨B,2,none⟩)): ∀w',Mv C w w'→(execOp ρ ⟨dst,.load 33 q,ty,pos,after,g⟩).run Tryz.prog w'= .ok (.value (.agg (ctv y.x))) w':=by
 intro w' b;have a:=h0.mv b hC;have e:=Qaz ρ dst q ty pos after g w' (by rw [hx];rfl) (by rw [hx];show Fits 2 10 (Qc w' B);rw [a.r];unfold Fits;rw [QcR];omega);rw [e,hx];show Result.ok (Next.value (Value.agg (QB (Qc w' B) 2 10))) w'=_;rw [a.r,Qn7]
theorem Qgj(a:Ag)(j:Nat)(z:Int):a.at j≠ .int .u32 z:=by
 unfold Ag.at
 split
 ·intro h;cases h
 split
 ·intro h;cases h
 split
 ·unfold Md.at;split<;>(intro h;cases h)
 ·intro h;cases h
theorem SlC.off{b off:Nat}{xs:List Co}{B:Nat}{a:Ag}(h:SlC w (some ⟨b,off,none⟩) xs)(hr:Qc w B=agv a)(hx:xs≠ []):b≠B:=by
 rintro rfl;obtain⟨e,f,d,-,c,-⟩:=h 0 (List.length_pos_iff.2 hx)
 cases d
 rw [Qa,hr]at c;unfold agv at c;rw [QM]at c
 split at c
 ·exact Qgj _ _ _ (Option.some.inj c)
 ·cases c
theorem SlE.off{b off:Nat}{xs:List Ev}{B:Nat}{a:Ag}(h:SlE w (some ⟨b,off,none⟩) xs)(hr:Qc w B=agv a)(hx:xs≠ []):b≠B:=by
 rintro rfl;obtain⟨e,f,d,-,-,-,c,-⟩:=h 0 (List.length_pos_iff.2 hx)
 cases d
 rw [Qa,hr]at c;unfold agv at c;rw [QM]at c
 split at c
 ·exact Qgj _ _ _ (Option.some.inj c)
 ·cases c
theorem SlC.mva{A B:World}{b4:Nat}{a:Ag}{p:Option Addr}{xs:List Co}(h:SlC A p xs)(m:Mv (fun q=>q=b4) A B)(hr:Qc A b4=agv a):SlC B p xs:=by
 by_cases c:xs= []
 ·rw [c];exact SlC.nil _ _
 ·exact h.mvo m fun b off e=>by subst e;exact h.off hr c
theorem SlE.mva{A B:World}{b4:Nat}{a:Ag}{p:Option Addr}{xs:List Ev}(h:SlE A p xs)(m:Mv (fun q=>q=b4) A B)(hr:Qc A b4=agv a):SlE B p xs:=by
 by_cases c:xs= []
 ·rw [c];exact SlE.nil _ _
 ·exact h.mvo m fun b off e=>by subst e;exact h.off hr c
def DoV(a:Ag)(y:Dd)(v:Value)(w':World):Prop:= ∃p c q d,v= .tuple #[.agg (agv {a with md:=doM a y,p:=p,xs:=doX a y,c:=c}),.slice q (doE a y).length d]∧SlC w' p (doX a y)∧SlE w' q (doE a y)
def QrB(ops:Array Oper):Prop:=Region.noSelect ops=true∧Qo ops 5 [0,1,2] 0=true∧Rd ops 5 7 [3]∧Qo ops 5 [4] 15=true∧Rd ops 5 31 []
theorem Qlg:QrB ((Tryz.f27.body.bind (Qh 4)).getD #[]):=⟨Kr,Kr,Rk,Kr,Rk⟩
theorem QrC(a:Ag)(y:Dd)(w:World)(hs:SlC w a.p a.xs)(hl:a.xs.length≤1000)(hr: ∀x∈a.xs,TuR x.t)(hk: ∀k,k<16→0≤(a.md k).kind)(hy:DdO w y)(hb:y.bs.length≤300):
  Calls Tryz.prog 27 #[.agg (agv a),.agg (ddv y)] w fun e w'=> ∃v,e= .returned v∧DoV a y v w'∧Ext w w':=by
 have HS:=Xh hs;have HY:=Xh hy;have U:=Xh (And.intro hl (And.intro hr (And.intro hk hb)));clear hs hy hl hr hk hb
 go_enter Tryz.func27,Tryz.ntmps27
 go_upto_region 1 with(fail)
 obtain⟨s,hW⟩: ∃s,((w.alloc (.cells (agv a) 27)).alloc (.cells (ddv y) 59)).alloc (.cells (agv agz) 27)=s:=⟨_,rfl⟩;have E:Ext w s:=by rw [←hW];exact Ext.al (Ext.al Ea _) _
 have D:RowZ s w.heap.size (agv a):=by rw [←hW];exact⟨by simp [go_sem],by simp [go_sem],by simp [go_sem,Lt]⟩
 have n:RowZ s (w.heap.size+1) (ddv y):=by rw [←hW];exact⟨by simp [go_sem],by simp [go_sem],by simp [go_sem,Lt]⟩
 have g:RowZ s (w.heap.size+1+1) (agv agz):=by rw [←hW];exact⟨by simp [go_sem],by simp [go_sem],by simp [go_sem,Lt]⟩
 rw [hW];clear hW;obtain⟨b2,e2⟩: ∃b,w.heap.size=b:=⟨_,rfl⟩;obtain⟨b3,e3⟩: ∃b,b2+1=b:=⟨_,rfl⟩;obtain⟨j,e4⟩: ∃b,b3+1=b:=⟨_,rfl⟩;rw [e2]at D;rw [e2,e3]at n;rw [e2,e3,e4]at g;rw [e2,e3,e4];have d3:=Xh (show w.heap.size≤j by omega);clear e2 e3 e4;have c0:s.cell? ⟨b3,0,none⟩=some (.int .i64 y.d):=Qd7 n.r 0 Om;have Q:=Xh (And.intro E (And.intro D (And.intro n g)));clear E D n g
 cases h0:(y.d==0)
 case true=>
  have V:y.d=0:=beq_iff_eq.1 h0;obtain⟨dr,X,L,S,er⟩: ∃dr X L S,inR a y.bs y.now=(dr,X,L,S):=⟨_,_,_,_,rfl⟩;obtain⟨nS,en⟩: ∃nS,S.length=nS:=⟨_,rfl⟩;have e1:=Xh (fun W (hE:Ext w W)=>QAs a y W dr X L nS S er en (HS.out.ext hE) U.out.1 U.out.2.1 U.out.2.2.1 (HY.out.ext hE) U.out.2.2.2);have u:=Xh (show doM a y=a.md∧doX a y=X∧doE a y=L by unfold doM doX doE;rw [if_neg Om,if_pos V,if_pos V,er];exact⟨rfl,rfl,rfl⟩);clear V er en
  go_upto_region 3 with(fail)
  obtain⟨E,D,n,g⟩:=Q.out;clear Q c0 h0
  go_upto_region 3 with(fail)
  refine wp_region_lit ?_;refine listV (v:= .agg (agv a)) (w':=s) rfl ((Zx (C:=fun _=>False) D (fun h=>h) Kr) _ (Mv.refl (fun _=>False) _)) ?_;refine listV (v:= .pointer (some ⟨b3,1,none⟩)) (w':=s) rfl Kr ?_;refine listV (v:= .slice y.p y.bs.length y.c) (w':=s) rfl ((JY (C:=fun _=>False) (Qd7 n.r 1 Om) n.l (fun h=>h) Kr) _ (Mv.refl (fun _=>False) _)) ?_;refine listV (v:= .pointer (some ⟨b3,12,none⟩)) (w':=s) rfl Kr ?_;refine listV (v:= .int .i64 y.now) (w':=s) rfl ((Q0 (C:=fun _=>False) (Qd7 n.r 12 Om) n.l (fun h=>h) Kr) _ (Mv.refl (fun _=>False) _)) ?_;refine JS (R:=fun v w'=>(InV a dr X L nS) v w'∧Ext s w') rfl Kr (e1.out s E) ?_;rintro _ P ⟨⟨p',c',ep,ec,sp,sc,rfl,H,I⟩,c2⟩;have E:=E.tr c2;have D:=D.ext c2;have n:=n.ext c2;have g:=g.ext c2;have a8:j<P.heap.size:=g.l;obtain⟨o,eo⟩: ∃o,({a with p:=p',xs:=X,c:=c'}:Ag)=o:=⟨_,rfl⟩;rw [eo];have i:=Ext.rf P;refine listV (v:= .tuple #[.agg (agv o),.agg (dnv ⟨dr,ep,L.length,ec,sp,nS,sc⟩)]) (w':=P) rfl Kr ?_;refine listV (v:= .agg (agv o)) (w':=P) rfl Kr ?_;refine listV (v:= .agg (dnv ⟨dr,ep,L.length,ec,sp,nS,sc⟩)) (w':=P) rfl Kr ?_;refine listV rfl (Qz _ _ _ _ _ _ _) ?_;obtain⟨b6,e6⟩: ∃b,P.heap.size=b:=⟨_,rfl⟩;obtain⟨a9,c3⟩: ∃N,P.alloc (.cells (agv agz) 27)=N:=⟨_,rfl⟩;have M:RowZ a9 b6 (agv agz):=by rw [←c3,←e6];exact RowZ.new _ _ _
  have l6:P.heap.size≤b6:=by rw [←e6];exact i.size
  have F:Ext P a9:=by rw [←c3];exact Ea
  have i:=i.tr F;rw [c3,e6];clear c3 e6 F;refine listV rfl (QbA _) ?_;obtain⟨b7,e7⟩: ∃b,a9.heap.size=b:=⟨_,rfl⟩;obtain⟨c4,c5⟩: ∃N,a9.alloc (.cells (#[.int .u8 0,.slice none 0 0,.slice none 0 0]) 42)=N:=⟨_,rfl⟩;have e5:b6<b7:=by have:=M.l;unfold Lt at this;omega
  have Y:RowZ c4 b7 (#[.int .u8 0,.slice none 0 0,.slice none 0 0]):=by rw [←c5,←e7];exact RowZ.new _ _ _
  have l7:P.heap.size≤b7:=by rw [←e7];exact i.size
  have F:Ext a9 c4:=by rw [←c5];exact Ea
  have i:=i.tr F;have M:=M.ext F;rw [c5,e7];clear c5 e7 F;refine Zj rfl (Ze (B:=b6) (cs:=agv o) (by rw [M.r];exact Qg) M.z Qg Zr Kr Kr) ?_;obtain⟨a5,b0⟩: ∃a5,Qe c4 b6 0 (agv o)=a5:=⟨_,rfl⟩;have m:Mv (fun q=>q=b6) c4 a5:=by rw [←b0];exact Mv.sa _ rfl (Mv.refl _ _)
  have M:RowZ a5 b6 (agv o):=by rw [←b0];exact M.all _ (Qg.trans Qg.symm)
  have i:Ext P a5:=by rw [←b0];exact Ext.sa _ l6 i
  have Y:=Y.mv m Om;clear m;rw [b0];clear b0;refine Zj rfl (Yq (B:=b7) (cs:=dnv ⟨dr,ep,L.length,ec,sp,nS,sc⟩) (by rw [Y.r];rfl) Y.z rfl (by simp [go_sem,dnv]) Kr Kr) ?_;obtain⟨a6,b1⟩: ∃a6,Qe a5 b7 0 (dnv ⟨dr,ep,L.length,ec,sp,nS,sc⟩)=a6:=⟨_,rfl⟩;have m:Mv (fun q=>q=b7) a5 a6:=by rw [←b1];exact Mv.sa _ rfl (Mv.refl _ _)
  have Y:RowZ a6 b7 (dnv ⟨dr,ep,L.length,ec,sp,nS,sc⟩):=by rw [←b1];exact Y.all _ rfl
  have i:Ext P a6:=by rw [←b1];exact Ext.sa _ l7 i
  have M:=M.mv m Om;clear m;rw [b1];clear b1;refine wpList_nil ?_;have G:=Xh i;clear i;have E:=E.tr G.out;have D:=D.ext G.out;have n:=n.ext G.out;have g:=g.ext G.out;have H:=H.ext G.out;have I:=I.ext G.out;have e9:j<b6:=Xl a8 l6;clear G l6 l7 a8;go_simp;have d4:=Xh eo;have d6: ¬(fun q=>q=j) b6:=fun e=>by have e':b6=j:=e;omega
  have d7: ¬(fun q=>q=j) b7:=fun e=>by have e':b7=j:=e;have:=e5;omega
  have f2:=Xh (And.intro d6 d7)
  go_upto_region 4 with(fail)
  refine Qy (fun _=>False) (fun q=>q=j) 3 Kr ?_;obtain⟨WA,hW⟩: ∃Wdr,World.drew a6=Wdr:=⟨_,rfl⟩;have gD:Ext a6 WA:=by rw [←hW];exact Ext.dr (Ext.rf _)
  rw [hW];clear hW;have E:=E.tr gD;have g:=g.ext gD;have M:=M.ext gD;have Y:=Y.ext gD;have H:=H.ext gD;have I:=I.ext gD;refine Zi (N:=5) (R:=QrB) (E:=((Tryz.f27.body.bind (Qh 4)).getD #[])) Kr Qlg Kr fun hS=> ?_;have Z:=hS.2.1;refine tW 1 (.agg (agv o)) hS.1 Z rfl (Zx M d6 Kr) fun Z=>tWk 3 (.pointer (some ⟨b7,1,none⟩)) hS.1 Z rfl fun Z=>tW 7 (.slice ep L.length ec) hS.1 Z rfl (QaF (Y.cell 1 (by show 1<3;omega)) Y.l d7 Kr) fun Z=> ?_;refine Qr hS.2.2.1 (QE (m':=15) rfl rfl Kr (Ze (B:=j) (cs:=agv o) (by rw [g.r];exact Qg) g.z Qg Zr Kr Kr) ⟨.inl Dc,(Mv.sa _ rfl (Mv.refl _ _))⟩ ?_);obtain⟨c6,c7⟩: ∃c6,Qe WA j 0 (agv o)=c6:=⟨_,rfl⟩;have d8:=g.r;have m:Mv (fun q=>q=j) WA c6:=by rw [←c7];exact Mv.sa _ rfl (Mv.refl _ _)
  have g:RowZ c6 j (agv o):=by rw [←c7];exact g.all _ (Qg.trans Qg.symm)
  have E:=Mv.ext_of E m (fun q e=>by have:=d3.out;omega);have H:=H.mva m d8;have I:=I.mva m d8;rw [c7];clear c7;have Z:=hS.2.2.2.1;refine tWk 31 (.slice ep L.length ec) hS.1 Z rfl fun Z=> ?_;refine QZ hS.2.2.2.2 ?_;clear hS Z;go_simp;go_wp2;refine bodyPost_ret (QL rfl _ _ j rfl (Yp g.r)) rfl ⟨_,rfl,⟨p',c',ep,ec,?_,by rw [u.out.2.1];exact H,by rw [u.out.2.2];exact I⟩,E⟩;rw [u.out.1,u.out.2.1,u.out.2.2,d4.out];rfl
 case false=>
  have V: ¬y.d=0:=fun e=>by rw [e]at h0;cases h0
  cases h1:(y.d==1)
  case true=>
   have a0:y.d=1:=beq_iff_eq.1 h1;obtain⟨A,eA⟩: ∃A,Zt a y.x=A:=⟨_,rfl⟩;obtain⟨X,eX⟩: ∃X,Yb a y.x=X:=⟨_,rfl⟩;obtain⟨L,eL⟩: ∃L,Yc a y.x=L:=⟨_,rfl⟩;obtain⟨K,eK⟩: ∃K,JR a y.x=K:=⟨_,rfl⟩;obtain⟨T,eT⟩: ∃T,JI a y.x=T:=⟨_,rfl⟩;have f0:=Xh (fun W (hE:Ext w W)=>Qwg a y.x W A X L K T eA eX eL eK eT (HS.out.ext hE) U.out.1 U.out.2.1 U.out.2.2.1 HY.out.k HY.out.f);have u:=Xh (show doM a y=A.md∧doX a y=X∧doE a y=L by unfold doM doX doE;rw [if_pos a0,if_neg V,if_neg V,if_pos a0,if_pos a0,eA,eX,eL];exact⟨rfl,rfl,rfl⟩);have d9:=Xh (show A.id=a.id∧A.idle=a.idle by rw [←eA];unfold Zt;split<;>exact⟨rfl,rfl⟩);clear V a0 eA eX eL eK eT
   go_upto_region 6 with(fail)
   obtain⟨E,D,n,g⟩:=Q.out;clear Q c0 h0 h1
   go_upto_region 6 with(fail)
   refine wp_region_lit ?_;refine listV (v:= .agg (agv a)) (w':=s) rfl ((Zx (C:=fun _=>False) D (fun h=>h) Kr) _ (Mv.refl (fun _=>False) _)) ?_;refine listV (v:= .pointer (some ⟨b3,2,none⟩)) (w':=s) rfl Kr ?_;refine listV (v:= .agg (ctv y.x)) (w':=s) rfl ((Qwh (C:=fun _=>False) n (fun h=>h) Kr) _ (Mv.refl (fun _=>False) _)) ?_;refine JS (R:=fun v w'=>(QuE A X L K T) v w'∧Ext s w') rfl Kr (f0.out s E) ?_;rintro _ J ⟨⟨p',c',q,d,rfl,H,I⟩,c8⟩;have E:=E.tr c8;have D:=D.ext c8;have n:=n.ext c8;have g:=g.ext c8;have a8:j<J.heap.size:=g.l;obtain⟨o,eo⟩: ∃o,({A with p:=p',xs:=X,c:=c'}:Ag)=o:=⟨_,rfl⟩;rw [eo];have i:=Ext.rf J;refine listV (v:= .tuple #[.agg (agv o),.slice q L.length d,.agg (ctv K),.bool T]) (w':=J) rfl Kr ?_;refine listV (v:= .agg (agv o)) (w':=J) rfl Kr ?_;refine listV (v:= .slice q L.length d) (w':=J) rfl Kr ?_;refine listV (v:= .agg (ctv K)) (w':=J) rfl Kr ?_;refine listV (v:= .bool T) (w':=J) rfl Kr ?_;refine listV rfl (Qz _ _ _ _ _ _ _) ?_;obtain⟨b8,e8⟩: ∃b,J.heap.size=b:=⟨_,rfl⟩;obtain⟨b5,c9⟩: ∃N,J.alloc (.cells (agv agz) 27)=N:=⟨_,rfl⟩;have O:RowZ b5 b8 (agv agz):=by rw [←c9,←e8];exact RowZ.new _ _ _
   have l8:J.heap.size≤b8:=by rw [←e8];exact i.size
   have F:Ext J b5:=by rw [←c9];exact Ea
   have i:=i.tr F;rw [c9,e8];clear c9 e8 F;refine listV rfl (Qdu _) ?_;obtain⟨a7,d0⟩: ∃b,b5.heap.size=b:=⟨_,rfl⟩;obtain⟨d1,d2⟩: ∃N,b5.alloc (.cells (ctv ⟨0,0,0,0,0,0,0,0,0,none,0,0⟩) 33)=N:=⟨_,rfl⟩;have f3:b8<a7:=by have:=O.l;unfold Lt at this;omega
   have a4:RowZ d1 a7 (ctv ⟨0,0,0,0,0,0,0,0,0,none,0,0⟩):=by rw [←d2,←d0];exact RowZ.new _ _ _
   have e0:J.heap.size≤a7:=by rw [←d0];exact i.size
   have F:Ext b5 d1:=by rw [←d2];exact Ea
   have i:=i.tr F;have O:=O.ext F;rw [d2,d0];clear d2 d0 F;refine Zj rfl (Ze (B:=b8) (cs:=agv o) (by rw [O.r];exact Qg) O.z Qg Zr Kr Kr) ?_;obtain⟨a3,b9⟩: ∃a3,Qe d1 b8 0 (agv o)=a3:=⟨_,rfl⟩;have m:Mv (fun q=>q=b8) d1 a3:=by rw [←b9];exact Mv.sa _ rfl (Mv.refl _ _)
   have O:RowZ a3 b8 (agv o):=by rw [←b9];exact O.all _ (Qg.trans Qg.symm)
   have i:Ext J a3:=by rw [←b9];exact Ext.sa _ l8 i
   have a4:=a4.mv m Om;clear m;rw [b9];clear b9;refine listV (v:= .slice q L.length d) (w':=a3) rfl Kr ?_;refine Zj rfl (JF (B:=a7) (cs:=ctv K) (by rw [a4.r];exact QS) a4.z QS Qbw Kr Kr) ?_;obtain⟨a2,c1⟩: ∃a2,Qe a3 a7 0 (ctv K)=a2:=⟨_,rfl⟩;have m:Mv (fun q=>q=a7) a3 a2:=by rw [←c1];exact Mv.sa _ rfl (Mv.refl _ _)
   have a4:RowZ a2 a7 (ctv K):=by rw [←c1];exact a4.all _ (QS.trans QS.symm)
   have i:Ext J a2:=by rw [←c1];exact Ext.sa _ e0 i
   have O:=O.mv m Om;clear m;rw [c1];clear c1;refine listV (v:= .bool T) (w':=a2) rfl Kr ?_;refine wpList_nil ?_;have G:=Xh i;clear i;have E:=E.tr G.out;have D:=D.ext G.out;have n:=n.ext G.out;have g:=g.ext G.out;have H:=H.ext G.out;have I:=I.ext G.out;have e9:j<b8:=Xl a8 l8;clear G l8 e0 a8;go_simp;have d4:=Xh eo;have a1:=Xh (And.intro H (And.intro I (And.intro E g)));have w8:=O.r;have l8:=O.l;have w4:=g.r;have z4:=g.z;have l4:=g.l;clear O a4 g D n H I E eo
   go_wp2_with (fail)
   have hr:Qc (Qe a2 j 0 (agv o)) j=agv o:=Qq _ _ _ (by rw [a1.out.2.2.2.r];exact Qg.trans Qg.symm);have m:Mv (fun q=>q=j) a2 (Qe a2 j 0 (agv o)):=Mv.sa _ rfl (Mv.refl _ _);refine bodyPost_ret (QL rfl _ _ j rfl (Yp hr)) rfl ⟨_,rfl,⟨p',c',q,d,?_,by rw [u.out.2.1];exact a1.out.1.mva m a1.out.2.2.2.r,by rw [u.out.2.2];exact a1.out.2.1.mva m a1.out.2.2.2.r⟩,Mv.ext_of a1.out.2.2.1 m (fun q e=>by have:=d3.out;omega)⟩;rw [u.out.1,u.out.2.1,u.out.2.2,←d4.out,←d9.out.1,←d9.out.2];rfl
  case false=>
   have a0: ¬y.d=1:=fun e=>by rw [e]at h1;cases h1
   have f1:=Xh (fun W (hE:Ext w W)=>Qdg a y.now W (HS.out.ext hE) U.out.1 U.out.2.1 U.out.2.2.1);have u:=Xh (show doM a y=a.md∧doX a y=JN a y.now∧doE a y=Qa6 a y.now by unfold doM doX doE;rw [if_neg a0,if_neg V,if_neg V,if_neg a0,if_neg a0];exact⟨rfl,rfl,rfl⟩);have f4:s.cell? ⟨b3,12,none⟩=some (.int .i64 y.now):=Qd7 Q.out.2.2.1.r 12 Om;have wa:=Q.out.2.1.r;have la:=Q.out.2.1.l;have ly:=Q.out.2.2.1.l;clear V a0
   go_wp2_with (go_at_call 20;(refine(f1.out _ Q.out.1).mono ?_);rintro e w1 ⟨p',c',q,d,rfl,H,I,F⟩;have a1:=Xh (And.intro H I);have g:=Q.out.2.2.2.ext F;have d5:=Xh g;have w4:=g.r;have z4:=g.z;have l4:=g.l;clear H I g)
   have hr:Qc (Qe w1 j 0 (agv {a with p:=p',xs:=JN a y.now,c:=c'})) j=agv {a with p:=p',xs:=JN a y.now,c:=c'}:=Qq _ _ _ (by rw [d5.out.r];exact Qg.trans Qg.symm);have m:Mv (fun q=>q=j) w1 (Qe w1 j 0 (agv {a with p:=p',xs:=JN a y.now,c:=c'})):=Mv.sa _ rfl (Mv.refl _ _);refine bodyPost_ret (QL rfl _ _ j rfl (Yp hr)) rfl ⟨_,rfl,⟨p',c',q,d,?_,by rw [u.out.2.1];exact a1.out.1.mva m d5.out.r,by rw [u.out.2.2];exact a1.out.2.mva m d5.out.r⟩,Mv.ext_of (Q.out.1.tr F) m (fun q e=>by have:=d3.out;omega)⟩;rw [u.out.1,u.out.2.1,u.out.2.2];rfl
end
theorem QuF{ops:Array Oper}{Q:Act→World→Prop}{N k:Nat}{d:List Nat}{x y:Operand}{fuel:Nat}{a:Act}{base n:Nat}{v1:Value}{l:List Value}{q:Option Addr}{ys:List Tu}{c2:Nat}
  (hi:ops[k]?=some ⟨dst,.call {callee:= .builtin .append,args:=#[x,y],argTypes:=#[60,60]},ty,pos,after,none⟩)(hx:a.eval x=v1)(hy:a.eval y= .slice q ys.length c2)(h1:w.ownsRow base 64 4 v1 n l)(h2:SlT w q ys)(hn:n+ys.length≤2000)(hb:base≤w.heap.size)
  (H: ∀v' w',w.grownBy w' v1.ownBlock→Mv (fun k=>base≤k) w w'→w'.ownsRow base 64 4 v' (n+ys.length) (l++flT ys)→QN (fun k=>base≤k) Tryz.prog .any ops Q fuel (don N (k::d)) (a.put dst v') w'):Qem (fun k=>base≤k) Tryz.prog ops Q fuel N k d a w:=by
 obtain⟨v',w',c,e,b⟩:=Qfd h1 h2 hn hb a.eval dst x y ty pos after none hx hy;exact QhS hi rfl c (QbC h1 b) (H v' w' b (QbC h1 b) e)
theorem Qwi(w:World):(w.alloc (.cells #[] 64)).ownsRow w.heap.size 64 4 (.slice (some ⟨w.heap.size,0,none⟩) 0 0) 0 []:=⟨rfl,.inr ⟨w.heap.size,0,#[],rfl,Nat.le_refl _,World.alloc_heap_new _ _,Nat.le_refl _,by unfold maxLen;omega,rfl,rfl⟩⟩
theorem QrD{b off n c j:Nat}(hj:j<n){x y:Operand}(hx:ρ x= .slice (some ⟨b,off,none⟩) n c)(hy:ρ y= .int .i64 (j:Nat))(w:World):
  (execOp ρ ⟨dst,.indexAddr 55 x y,ty,pos,after,g⟩).run Tryz.prog w= .ok (.value (.pointer (some ⟨b,off+j*13,none⟩))) w:=by
 have a:(j:Int)<n:=by omega
 simp only [execOp,hx,hy];go_simp
theorem Qwj{C:Nat→Prop}{b o:Nat}{y:Dd}(h0: ∀j,j<13→w.cell? ⟨b,o+j,none⟩=some (y.at j))(hl:Lt b w)(hC: ¬C b){q:Operand}
  (hx:ρ q= .pointer (some ⟨b,o,none⟩)): ∀w',Mv C w w'→(execOp ρ ⟨dst,.load 59 q,ty,pos,after,g⟩).run Tryz.prog w'= .ok (.value (.agg (ddv y))) w':=by
 intro w' f;have c: ∀j,j<13→(Qc w' b)[o+j]?=some (y.at j):=fun j a=>by
  rw [Qf (f.same b hl hC),←Qa];exact h0 j a
 have d:o+13≤(Qc w' b).size:=by have:=(Array.getElem?_eq_some_iff.1 (c 12 Om)).1;omega
 have e:=QcS ρ dst q ty pos after g w' (by rw [hx];rfl) (by rw [hx];exact d);rw [e,hx];show Result.ok (Next.value (Value.agg (QB (Qc w' b) o 13))) w'=_
 congr 2
 refine congrArg Value.agg (Array.ext_getElem? fun j=> ?_);unfold QB ddv;rw [Array.getElem?_extract,QM]
 by_cases a:j<13
 ·rw [if_pos Om,if_pos a,c j a]
 ·rw [if_neg Om,if_neg a]
def QrE(ops:Array Oper):Prop:=Region.noSelect ops=true∧JW ops 11 [1,2,3,5,6,7,8] []=true∧Region.ready .any ops (don 11 [8,7,6,5,3,2,1])= [0]∧Region.ready .any ops (don 11 [0,8,7,6,5,3,2,1])= [4]∧Region.ready .any ops (don 11 [4,0,8,7,6,5,3,2,1])= [9]∧JW ops 11 [10] [9,4,0,8,7,6,5,3,2,1]=true∧Region.ready .any ops (don 11 [10,9,4,0,8,7,6,5,3,2,1])= []
theorem Qwk:QrE ((Tryz.f4.body.bind (Qh 27)).getD #[]):=⟨Kr,Kr,Kr,Kr,Kr,Kr,Kr⟩
theorem Qoa{k:Nat}(hk:k≤2000){x:Operand}(hx:ρ x= .int .i64 (k:Nat))(h1:ρ (.const (.int .i64 1))= .int .i64 1)(w:World):
  (execOp ρ ⟨dst,.binOp .add 3 x (.const (.int .i64 1)) 3,ty,pos,after,g⟩).run Tryz.prog w= .ok (.value (.int .i64 ((k+1:Nat):Int))) w:=by
 have a:IntKind.i64.wrap ((k:Int)+1)=(k:Int)+1:=by rw [IntKind.wrap_i64];omega
 simp only [execOp,hx,h1];go_simp
theorem QrF:(execOp ρ ⟨dst,.buildSlice 60 0 #[],ty,pos,after,g⟩).run Tryz.prog w= .ok (.value (.slice (some ⟨w.heap.size,0,none⟩) 0 0)) (w.alloc (.cells #[] 64)):=by
 simp only [execOp];go_simp
section
open Go.ChangeShapes Go.WideShapes Go.ChangeAt
structure Qwl(A:Ag)(y:Dd)(W0:World)(b6:Nat)(p':Option Addr)(c':Nat)(q:Option Addr)(d:Nat)(W:World):Prop where
 row:RowZ W b6 (agv {A with md:=doM A y,p:=p',xs:=doX A y,c:=c'})
 s:SlC W p' (doX A y)
 l:SlE W q (doE A y)
 e:Ext W0 W
structure AtA(w:World)(b2:Nat)(A:Ag)(W:World):Prop where
 row:RowZ W b2 (agv A)
 r:agR A=true
 s:SlC W A.p A.xs
 t: ∀x∈A.xs,TuR x.t
 k: ∀k,k<16→0≤(A.md k).kind
 e:Ext w W
theorem QtA{base n m:Nat}{t:TypeId}{v:Value}{l:List Value}(h:w.ownsRow base t n v m l): ∀r,v.ownBlock=some r→r<w.heap.size:=by
 intro r a;rcases h.2 with⟨rfl,-⟩|⟨g,cap,cur,rfl,-,hgb,-⟩
 ·cases a
 ·have e:g=r:=Option.some.inj a;rw [←e];exact(Array.getElem?_eq_some_iff.1 hgb).1
theorem listAG{ops:Array Oper}{rest:List Oper}{x y:Operand}{a:Act}{Q:Exit→Act→World→Prop}{base n:Nat}{v1:Value}{l:List Value}{q:Option Addr}{ys:List Tu}{c2:Nat}(h1:w.ownsRow base 64 4 v1 n l)(h2:SlT w q ys)(hn:n+ys.length≤2000)(hb:base≤w.heap.size)(hx:a.eval x=v1)(hy:a.eval y= .slice q ys.length c2)
  (H: ∀v' w',w.grownBy w' v1.ownBlock→w'.ownsRow base 64 4 v' (n+ys.length) (l++flT ys)→wpList Tryz.prog ops Q rest (a.put dst v') w'):wpList Tryz.prog ops Q (⟨dst,.call {callee:= .builtin .append,args:=#[x,y],argTypes:=#[60,60]},ty,pos,after,none⟩::rest) a w:=by
 obtain⟨v',w',b,c,d⟩:=Qfd h1 h2 hn hb a.eval dst x y ty pos after none hx hy;exact listV rfl b (H v' w' d c)
theorem Qje(h:List Tu)(t:Tu): ∀n,Jh h t n<n
 |0=>by show(-1:Int)<0;omega
 |n+1=>by
  rw [Jh];have:=Qje h t n
  split<;>omega
def Qmr(ops:Array Oper):Prop:=Region.noSelect ops=true∧Qo ops 12 [0,1,2,3,4] 0=true∧Rd ops 12 31 [5,9]∧Rd ops 12 511 [9]∧Rd ops 12 543 [5]∧Rd ops 12 1023 [10]∧Rd ops 12 2047 [11]∧Rd ops 12 4095 []∧Qo ops 12 [6,7,8] 63=true∧Qo ops 12 [6,7,8] 575=true∧Qo ops 12 [11] 2047=true
theorem Qjf:Qmr ((Tryz.f4.body.bind (Qh 6)).getD #[]):=⟨Kr,Kr,Rk,Rk,Rk,Rk,Rk,Rk,Kr,Kr,Kr⟩
theorem QtB(a:Ag)(p:Option Addr)(ds:List Dd)(c:Nat)(w:World)(ha:AgO w a)(hs:SlD w p ds)(hl:ds.length≤9223372036854775807):
  Cr 4 #[.agg (agv a),.slice p ds.length c] w (.bool true):=by
 have c3:=Xh (fun W (F:Ext w W)=>Qgb a W (ha.s.ext F) ha.l ha.t ha.k);have b4:=Xh (fun W (F:Ext w W)=>Qn9 p ds c W (hs.ext F) hl);have HA:=Xh ha;have l7:=Xh hs;clear ha hs hl
 go_enter Tryz.func4,Tryz.ntmps4
 go_upto_region 1 with(fail)
 obtain⟨W0,g⟩: ∃W0,w.alloc (.cells (agv a) 27)=W0:=⟨_,rfl⟩;have g0:Ext w W0:=by rw [←g];exact Ea
 have P:RowZ W0 w.heap.size (agv a):=by rw [←g];exact RowZ.new _ _ _
 rw [g];clear g;obtain⟨S,e2⟩: ∃b,w.heap.size=b:=⟨_,rfl⟩;rw [e2]at P⊢;have l9:=Xh (show w.heap.size≤S by omega);clear e2;have d2:=Xh P;have Y:=Xh g0;clear P g0
 cases hg:Qbi ds
 case true=>
  rw [hg]at b4;clear hg
  go_wp2_with (first|(go_at_call 26;(with_reducible refine(b4.out _ Y.out).mono ?_);rintro e wx ⟨rfl,T⟩)|(go_at_call 9;(with_reducible refine(Qbg _).mono ?_);rintro e wx ⟨rfl,gk⟩))
  go_ret;exact⟨rfl,(Y.out.tr T).tr gk⟩
 have i2:=Xh (QrA hg);rw [hg]at b4;clear hg
 cases hR:agR a
 ·rw [hR]at c3;clear hR
  go_wp2_with (first|(go_at_call 26;(with_reducible refine(b4.out _ Y.out).mono ?_);rintro e wx ⟨rfl,T⟩;have r1:=d2.out.ext T;have w1:=r1.r;clear r1)|(go_at_call 23;(with_reducible refine(c3.out _ (Y.out.tr T)).mono ?_);rintro e wx ⟨rfl,gy⟩)|(go_at_call 9;(with_reducible refine(Qbg _).mono ?_);rintro e wx ⟨rfl,gk⟩))
  go_ret;exact⟨rfl,((Y.out.tr T).tr gy).tr gk⟩
 have i3:=Xh hR;rw [hR]at c3;clear hR
 go_wp2_with (first|(go_at_call 26;(with_reducible refine(b4.out _ Y.out).mono ?_);rintro e wx ⟨rfl,T⟩;have r1:=d2.out.ext T;have w1:=r1.r;clear r1)|(go_at_call 23;(with_reducible refine(c3.out _ (Y.out.tr T)).mono ?_);rintro e wy ⟨rfl,gy⟩))
 have i4:=Xh (show AtA w S a wy from⟨d2.out.ext (T.tr gy),i3.out,HA.out.s.ext ((Y.out.tr T).tr gy),HA.out.t,HA.out.k,(Y.out.tr T).tr gy⟩);clear T gy w1 d2 i3 HA Y c3 b4
 go_loopw [5] (fun i wr=> ∃j:Nat,j≤ds.length∧i= .int .i64 j∧ ∃A,AtA w S A wr) (fun i _=>ds.length- (intOf i).toNat)
 case atStart=>exact⟨0,Nat.zero_le _,rfl,a,i4.out⟩
 case round=>
  obtain⟨j,hj,rfl,A,Q⟩:=hrel;clear i4
  by_cases h2:j<ds.length
  ·have m0:(j:Int)<ds.length:=by omega
   obtain⟨hy,b,d9,rfl,X,a7⟩:=(l7.out.ext Q.e) j h2;obtain⟨y,ey⟩: ∃y,ds[j]=y:=⟨_,rfl⟩;rw [ey]at hy a7;have i5:y∈ds:=by rw [←ey];exact List.getElem_mem h2
   have m1:A.xs.length≤32:=(ZX.1 (Yg.1 Q.r).1.2).1;have e4:=Xh (fun W (F:Ext wr W)=>QrC A y W (Q.s.ext F) Om Q.t Q.k (hy.ext F) (i2.out.2 y i5));have i6:=Xh (Qtz hy Q.r Q.t Q.k);have a3:=Xh Q;have e5:=Xh (And.intro a7 X);have m3:=Q.row.r;clear Q hy a7 ey i5 X
   go_upto_region 6 with(fail)
   go_cut [6,7]from 31 to 38 (fun s t wx=> ∃u K M q d,s= .pointer (some ⟨u,0,none⟩)∧t= .slice q (doE A y).length d∧Qwl A y wr u K M q d wx)
   case first=>
    have P:=a3.out.row;have E:=a3.out.e;have a7:=e5.out.1;have c4:Lt b wr:=e5.out.2;have m4: ¬(fun k=>wr.heap.size≤k) S:=Nat.not_le_of_lt P.l;have m5: ¬(fun k=>wr.heap.size≤k) b:=Nat.not_le_of_lt c4;refine Qy (fun _=>False) (fun k=>wr.heap.size≤k) 10 Kr ?_;obtain⟨WA,g⟩: ∃Wdr,World.drew wr=Wdr:=⟨_,rfl⟩;have gD:Ext wr WA:=by rw [←g];exact Ext.dr (Ext.rf _)
    rw [g];clear g;have E:=E.tr gD;have P:=P.ext gD;have EA:Ext wr WA:=gD;have a7: ∀j2,j2<13→WA.cell? ⟨b,d9+j*13+j2,none⟩=some (y.at j2):=fun j2 h=>(gD.cell (p:=⟨b,d9+j*13+j2,none⟩) c4).trans (a7 j2 h);have c4:Lt b WA:=Xl c4 gD.size;refine Zi (N:=12) (R:=Qmr) (E:=((Tryz.f4.body.bind (Qh 6)).getD #[])) Kr Qjf Kr fun hS=> ?_;have f:=hS.2.1;refine tW 1 (.agg (agv A)) hS.1 f rfl (Zx P m4 Kr) fun f=>tWk 3 (.slice (some ⟨b,d9,none⟩) ds.length c) hS.1 f rfl fun f=>tWk 7 (.int .i64 (j:Nat)) hS.1 f rfl fun f=>tW 15 (.pointer (some ⟨b,d9+j*13,none⟩)) hS.1 f rfl (fun w' _=>QrD (c:=c) h2 Kr Kr w') fun f=>tW 31 (.agg (ddv y)) hS.1 f rfl (Qwj a7 c4 m5 Kr) fun f=> ?_;refine QmS hS.2.2.1 ?_ ?_
    ·refine QlH (R:=DoV A y) (m':=63) rfl rfl Kr Kr (e4.out WA EA) ?_;rintro v W3 g3 ⟨K,M,q,d,rfl,s3,l3⟩;obtain⟨o,eo⟩: ∃o,({A with md:=doM A y,p:=K,xs:=doX A y,c:=M}:Ag)=o:=⟨_,rfl⟩;rw [eo];have f:=hS.2.2.2.2.2.2.2.2.1;refine tWk 127 (.tuple #[.agg (agv o),.slice q (doE A y).length d]) hS.1 f rfl fun f=>tWk 255 (.agg (agv o)) hS.1 f rfl fun f=>tWk 511 (.slice q (doE A y).length d) hS.1 f rfl fun f=> ?_;clear f;refine Qr hS.2.2.2.1 (Zq (m':=1023) rfl rfl Kr (Qz _ _ _ _ _ _ _) ⟨.inr (Mv.of_ext Ea),Mv.of_ext Ea⟩ ?_);obtain⟨u,e6⟩: ∃b,W3.heap.size=b:=⟨_,rfl⟩;obtain⟨W4,g⟩: ∃W,W3.alloc (.cells (agv agz) 27)=W:=⟨_,rfl⟩;have G:RowZ W4 u (agv agz):=by rw [←g,←e6];exact RowZ.new _ _ _
     have g4:Ext W3 W4:=by rw [←g];exact Ea
     have c5:wr.heap.size≤u:=by rw [←e6];exact(gD.tr g3).size
     have h6:wr.heap.size≤u:=c5;rw [g,e6];clear g e6;refine Qr hS.2.2.2.2.2.1 (QE (m':=2047) rfl rfl Kr (Ze (B:=u) (cs:=agv o) (by rw [G.r];exact Qg) G.z Qg Zr Kr Kr) ⟨.inl Dc,Mv.sa _ h6 (Mv.refl _ _)⟩ ?_);have f:=hS.2.2.2.2.2.2.2.2.2.2;refine tWk 4095 (.slice q (doE A y).length d) hS.1 f rfl fun f=> ?_;clear f;refine QZ hS.2.2.2.2.2.2.2.1 ?_;have m6:Mv (fun k=>k=u) W4 (Qe W4 u 0 (agv o)):=Mv.sa _ rfl (Mv.refl _ _);have HF:=Xh (show Qwl A y wr u K M q d (Qe W4 u 0 (agv o))from⟨by rw [eo];exact G.all _ (Qg.trans Qg.symm),(s3.ext g4).mva m6 G.r,(l3.ext g4).mva m6 G.r,Mv.ext_of ((gD.tr g3).tr g4) m6 (fun k e=>by rw [e];exact c5)⟩);clear s3 l3 G m6 eo
     go_wp2_with (fail)
     go_meet
     exact⟨u,K,M,q,d,rfl,rfl,HF.out⟩
    ·refine Zq (m':=543) rfl rfl Kr (Qz _ _ _ _ _ _ _) ⟨.inr (Mv.of_ext Ea),Mv.of_ext Ea⟩ ?_;obtain⟨u,e6⟩: ∃b,WA.heap.size=b:=⟨_,rfl⟩;obtain⟨W4,g⟩: ∃W,WA.alloc (.cells (agv agz) 27)=W:=⟨_,rfl⟩;have G:RowZ W4 u (agv agz):=by rw [←g,←e6];exact RowZ.new _ _ _
     have g4:Ext WA W4:=by rw [←g];exact Ea
     have c5:wr.heap.size≤u:=by rw [←e6];exact gD.size
     have h6:wr.heap.size≤u:=c5;rw [g,e6];clear g e6;refine Qr hS.2.2.2.2.1 (QlH (R:=DoV A y) (m':=575) rfl rfl Kr Kr (e4.out W4 (EA.tr g4)) ?_);rintro v W3 g3 ⟨K,M,q,d,rfl,s3,l3⟩;obtain⟨o,eo⟩: ∃o,({A with md:=doM A y,p:=K,xs:=doX A y,c:=M}:Ag)=o:=⟨_,rfl⟩;rw [eo];have f:=hS.2.2.2.2.2.2.2.2.2.1;refine tWk 639 (.tuple #[.agg (agv o),.slice q (doE A y).length d]) hS.1 f rfl fun f=>tWk 767 (.agg (agv o)) hS.1 f rfl fun f=>tWk 1023 (.slice q (doE A y).length d) hS.1 f rfl fun f=> ?_;clear f;have G:=G.ext g3;refine Qr hS.2.2.2.2.2.1 (QE (m':=2047) rfl rfl Kr (Ze (B:=u) (cs:=agv o) (by rw [G.r];exact Qg) G.z Qg Zr Kr Kr) ⟨.inl Dc,Mv.sa _ h6 (Mv.refl _ _)⟩ ?_);have f:=hS.2.2.2.2.2.2.2.2.2.2;refine tWk 4095 (.slice q (doE A y).length d) hS.1 f rfl fun f=> ?_;clear f;refine QZ hS.2.2.2.2.2.2.2.1 ?_;have m6:Mv (fun k=>k=u) W3 (Qe W3 u 0 (agv o)):=Mv.sa _ rfl (Mv.refl _ _);have HF:=Xh (show Qwl A y wr u K M q d (Qe W3 u 0 (agv o))from⟨by rw [eo];exact G.all _ (Qg.trans Qg.symm),(s3).mva m6 G.r,(l3).mva m6 G.r,Mv.ext_of ((gD.tr g4).tr g3) m6 (fun k e=>by rw [e];exact c5)⟩);clear s3 l3 G m6 eo
     go_wp2_with (fail)
     go_meet
     exact⟨u,K,M,q,d,rfl,rfl,HF.out⟩
   case rest=>
    obtain⟨u,K,M,q,d,rfl,rfl,hc⟩:=hcut;obtain⟨U,l0⟩: ∃W,wc=W:=⟨_,rfl⟩;rw [l0]at hc⊢;clear l0;obtain⟨c1,h3,h4,d0⟩:=hc;have V:=i6.out;obtain⟨O,l1⟩: ∃e,doE A y=e:=⟨_,rfl⟩;obtain⟨ys,ex⟩: ∃x,doX A y=x:=⟨_,rfl⟩;obtain⟨q6,em⟩: ∃m,doM A y=m:=⟨_,rfl⟩;rw [l1]at V h4⊢;rw [ex]at V h3 c1;rw [em]at V c1;have e7:=V.right K M;obtain⟨B,eB⟩: ∃B,({A with md:=q6,p:=K,xs:=ys,c:=M}:Ag)=B:=⟨_,rfl⟩;rw [eB]at c1 e7;obtain⟨H,eH⟩: ∃H,YL (A.xs.map Co.t) O=H:=⟨_,rfl⟩;have a1:=Xh (And.intro (a3.out.row.ext d0) c1);have m7:=Xh (a3.out.s.ext d0);have e9:=Xh h3;have n1:=Xh h4;have n2:=Xh (a3.out.e.tr d0);have n3:=Xh a3.out.t;have i7:=Xh m1;have I:=Xh (show B.p=K∧B.xs=ys∧B.c=M∧B.id=A.id∧agR B=true∧(∀x∈ys,TuR x.t)∧ ∀k,k<16→0≤(B.md k).kind by rw [←eB];exact⟨rfl,rfl,rfl,rfl,(by rw [eB];exact e7),V.tu,V.kind⟩);have b5:=Xh (show QdS A.id (A.xs.map Co.t) O=true∧YL (A.xs.map Co.t) O=H∧Yx H H.length=ys.map Co.t∧O.length≤40∧ ∀e∈O,TuR e.t from⟨V.run,eH,(by rw [←eH];exact V.srt),V.len,V.tue⟩);have i8:S<U.heap.size∧u<U.heap.size:=⟨(a3.out.row.ext d0).l,c1.l⟩;have q9:=Xh i8;clear c1 h3 h4 d0 V l1 ex em eB e7 eH i6 e4 a3 e5 m3 i8;go_wp2
    go_loopw [8,9] (fun u8 i wr=> ∃k:Nat,k≤A.xs.length∧i= .int .i64 k∧wr.ownsRow U.heap.size 64 4 u8 k (flT ((A.xs.take k).map Co.t))∧Ext U wr) (fun _ i _=>A.xs.length- (intOf i).toNat)
    case atStart=>exact⟨0,Nat.zero_le _,rfl,World.ownsRow_nil _ _ _ _,Ext.rf _⟩
    case round=>
     obtain⟨k,hk,rfl,J,F⟩:=hrel;have P:=a1.out.1.ext F;have b7:wr.cell? ⟨S,66,none⟩=some (.slice A.p A.xs.length A.c):=by rw [Qa,P.r,Qu]
     have l2:=P.l
     by_cases a9:k<A.xs.length
     ·have f0:(k:Int)<A.xs.length:=by omega
      obtain⟨bb,oo,hp,X,q0,q1,q2,q3,-,-⟩:=(m7.out.ext F) k a9;obtain⟨x,hx⟩: ∃x,A.xs[k]=x:=⟨_,rfl⟩;have HN:=Xh (show(A.xs.take (k+1)).map Co.t=(A.xs.take k).map Co.t++ [x.t]by rw [List.take_succ_eq_append_getElem a9,hx,List.map_append];rfl);rw [hx]at q0 q1 q2 q3;rw [hp]at b7;have c6:Lt bb wr:=X;have HO:=Xh J;have a4:=Xh F;clear J F X hp P hx
      go_upto_region 10 with(at_builtin;refine listAT (base:=U.heap.size) (c2:=1) (ys:= [x.t]) (Zl HO.out Ea) (SlT.one (World.alloc_heap_new _ _)) (by have:=i7.out;simp only [List.length_singleton];omega) (Xt a4.out.size (by simp)) Kr Kr ?_;intro v2 w2 m2 o2)
      have f2:=Xh o2;have f5:=Xh m2;clear o2 m2 q0 q1 q2 q3 b7 l2 c6;go_wp2
      go_roundw
      case rel=>
       refine⟨k+1,Om,by go_num,?_,Mv.ext_of (a4.out.tr Ea) f5.out (fun _ h=>h)⟩;rw [HN.out,JT];exact f2.out
      case measure=>simp [intOf];omega
     ·have f0: ¬(k:Int)<A.xs.length:=by omega
      obtain rfl:k=A.xs.length:=by omega
      rw [List.take_length]at J;have i9:=Xh (show wr.ownsRow U.heap.size 64 4 u8 (A.xs.map Co.t).length (flT (A.xs.map Co.t))by rw [List.length_map];exact J);have j0:=Xh F;clear J F P;go_wp2
      go_loopw [8,10] (fun u8 i wr=> ∃k:Nat,k≤O.length∧i= .int .i64 k∧ ∃h:List Tu,wr.ownsRow U.heap.size 64 4 u8 h.length (flT h)∧QdS A.id h (O.drop k)=true∧YL h (O.drop k)=H∧h.length≤100+k∧(∀t∈h,TuR t)∧Ext U wr) (fun _ i _=>O.length- (intOf i).toNat)
      case atStart=>exact⟨0,Nat.zero_le _,rfl,A.xs.map Co.t,i9.out,b5.out.1,b5.out.2.1,(by have:=i7.out;rw [List.length_map];omega),(fun t ht=>by obtain⟨x,hx,rfl⟩:=List.mem_map.1 ht;exact n3.out x hx),j0.out⟩
      case round=>
       obtain⟨k,hk,rfl,h,J,d1,b0,h7,e0,F⟩:=hrel;clear i9 j0;have r0:=b5.out.2.2.2.1
       by_cases a9:k<O.length
       ·have f0:(k:Int)<O.length:=by omega
        obtain⟨bb,oo,hp,X,q0,q1,q2,q3,q4,q5⟩:=(n1.out.ext F) k a9;obtain⟨e,he⟩: ∃e,O[k]=e:=⟨_,rfl⟩;rw [List.drop_eq_getElem_cons a9,he]at d1 b0;rw [he]at q0 q1 q2 q3 q4 q5;simp only [QdS,Bool.and_eq_true]at d1;simp only [YL]at b0;have n4:=Xh (b5.out.2.2.2.2 e (by rw [←he];exact List.getElem_mem a9));subst hp;have c6:Lt bb wr:=X;have HO:=Xh J;have a4:=Xh F;have a8:=Xh (And.intro d1 b0);have c7:=Xh e0;have d3:=Xh (And.intro h7 (And.intro a9 b5.out.2.2.2.1));clear J F X d1 b0 e0 h7 he
        go_upto_region 16 with(fail)
        obtain⟨a6,e1⟩: ∃b,wr.heap.size=b:=⟨_,rfl⟩;obtain⟨Wk,g⟩: ∃W,Qe (wr.alloc (.cells #[.int .u8 0,.int .i64 0,.int .u32 0,.int .u32 0,.int .u16 0,.int .u16 0] 68)) wr.heap.size 0 #[.int .u8 e.k,.int .i64 e.a,.int .u32 e.t.a,.int .u32 e.t.b,.int .u16 e.t.c,.int .u16 e.t.d]=W:=⟨_,rfl⟩;have f6:Ext wr Wk:=by rw [←g];exact Ext.sa _ (Nat.le_refl _) Ea
        have j1:RowZ Wk a6 #[.int .u8 e.k,.int .i64 e.a,.int .u32 e.t.a,.int .u32 e.t.b,.int .u16 e.t.c,.int .u16 e.t.d]:=by rw [←g,←e1];exact(RowZ.new _ _ _).all _ rfl
        rw [g,e1];have n5:=Xh j1;have f7:=QtA HO.out;rw [e1]at f7;have j3:=Xh (Zl HO.out f6);have j4:=Xh (a4.out.tr f6);obtain⟨ph,ch,h8,e3,sh⟩:=SlT.own j3.out;subst h8;have d4:=Xh sh;have j5:=Xh e3;have n6:h.length≤140:=by have:=d3.out;omega
        have n7:=Xh f7;clear f7;clear g e1 f6 j1 sh e3 q0 q1 q2 q3 q4 q5 c6 HO a4;go_wp2
        go_loopw [12,13] (fun u12 i wr=> ∃n:Nat,n≤h.length∧i= .int .i64 n∧u12= .int .i64 (Jh h e.t n)∧Ext Wk wr) (fun _ i _=>h.length- (intOf i).toNat)
        case atStart=>exact⟨0,Nat.zero_le _,rfl,rfl,Ext.rf _⟩
        case round=>
         obtain⟨n,hn,rfl,rfl,a2⟩:=hrel;have rE:=n5.out.ext a2;have t0:wr.cell? ⟨a6,0,none⟩=some (.int .u8 e.k):=rE.cell 0 (by show 0<6;omega);have t1:wr.cell? ⟨a6,1,none⟩=some (.int .i64 e.a):=rE.cell 1 (by show 1<6;omega);have t2:wr.cell? ⟨a6,2,none⟩=some (.int .u32 e.t.a):=rE.cell 2 (by show 2<6;omega);have t3:wr.cell? ⟨a6,3,none⟩=some (.int .u32 e.t.b):=rE.cell 3 (by show 3<6;omega);have t4:wr.cell? ⟨a6,4,none⟩=some (.int .u16 e.t.c):=rE.cell 4 (by show 4<6;omega);have t5:wr.cell? ⟨a6,5,none⟩=some (.int .u16 e.t.d):=rE.cell 5 (by show 5<6;omega);have lE:=rE.l
         by_cases c8:n<h.length
         ·have f8:(n:Int)<h.length:=by omega
          obtain⟨b8,o8,q7,l8,z0,z1,z2,z3⟩:=(d4.out.ext a2) n c8;obtain⟨z,hz⟩: ∃z,h[n]=z:=⟨_,rfl⟩;have d5:h[n]?=some z:=by rw [List.getElem?_eq_getElem c8,hz]
          rw [hz]at z0 z1 z2 z3;subst q7;have r3:Lt b8 wr:=l8;clear rE l8 hz
          by_cases c9:z=e.t
          ·have HN:=Xh (show Jh h e.t (n+1)=(n:Int)by rw [Jh,if_pos (by rw [d5,c9])]);subst c9;have d6:eqT e.t e.t=true:=YZ.2 rfl;have n8:eqT ⟨e.t.a,e.t.b,e.t.c,e.t.d⟩ ⟨e.t.a,e.t.b,e.t.c,e.t.d⟩=true:=d6;clear d5
           go_upto_region 20 with(fail)
           refine Qk Kr Kr ?_;(repeat(go_big_quiet_step (fail)));refine wpQuiet_nil ?_;intro d
           have hd:=Qt d;go_wp2
           go_roundw
           case rel=>exact⟨n+1,Om,by go_num,by rw [HN.out],a2.tr hd⟩
           case measure=>simp [intOf];omega
          ·have HN:=Xh (show Jh h e.t (n+1)=Jh h e.t n by rw [Jh,if_neg (by rw [d5];intro q;exact c9 (Option.some.inj q))]);have d6:eqT z e.t=false:=by cases hq:eqT z e.t;rfl;exact absurd (YZ.1 hq) c9
           have n8:eqT ⟨z.a,z.b,z.c,z.d⟩ ⟨e.t.a,e.t.b,e.t.c,e.t.d⟩=false:=d6;clear d5 c9
           go_upto_region 20 with(fail)
           refine Qk Kr Kr ?_;(repeat(go_big_quiet_step (fail)));refine wpQuiet_nil ?_;intro d
           have hd:=Qt d;go_wp2
           ·exact absurd (show eqT z e.t=true by unfold eqT;simp only [Bool.and_eq_true];assumption) (by rw [d6];simp)
           ·go_roundw
            case rel=>exact⟨n+1,Om,by go_num,by rw [HN.out],a2.tr hd⟩
            case measure=>simp [intOf];omega
         ·have f8: ¬(n:Int)<h.length:=by omega
          obtain rfl:n=h.length:=by omega
          have f9:=a1.out.1.ext (j4.out.tr a2);have a0:wr.cell? ⟨S,0,none⟩=some (.int .i64 A.id):=ZQ f9.r;have l2:=f9.l;obtain⟨L,eL⟩: ∃L,Jh h e.t h.length=L:=⟨_,rfl⟩;rw [eL];have d7:=a8.out.1.1;unfold QdY at d7;rw [eL]at d7;simp only [Bool.and_eq_true]at d7;obtain⟨v1,v2,v3,v4⟩:=d7;have f1:(e.a !=A.id)=false:=by rw [bne,v1];rfl
          have f3:decide (e.k<1)=false:=decide_eq_false (by have:=of_decide_eq_true v3;omega);have f4:decide (e.k>4)=false:=decide_eq_false (by have:=of_decide_eq_true v4;omega);have g6:=Xh (Zl j3.out a2);have b9:=Xh (j4.out.tr a2);have n9:=Xh rE;have j6:=Xh (d4.out.ext a2);have j7:=Xh eL;clear f9 v1 v3 v4 eL a2 rE;have h5:((e.k==1)=true∧decide (L<0)=true∧(e.k==3)=false∧(e.k==4)=false)∨((e.k==1)=false∧decide (L<0)=false∧(e.k==3)=false∧(e.k==4)=false)∨((e.k==1)=false∧decide (L<0)=false∧(e.k==3)=true)∨((e.k==1)=false∧decide (L<0)=false∧(e.k==3)=false∧(e.k==4)=true):=by
           cases k1:(e.k==1)<;>cases k3:(e.k==3)<;>cases k4:(e.k==4)<;>cases hL:decide (L<0)<;>simp_all
          clear v2;rcases h5 with⟨k1,hL,k3,k4⟩|⟨k1,hL,k3,k4⟩|⟨k1,hL,k3⟩|⟨k1,hL,k3,k4⟩
          ·
           have a5:=Xh (show Ji h e=h++ [e.t]by unfold Ji;rw [if_pos (beq_iff_eq.1 k1)])
           go_upto_region 26 with(at_builtin;refine listAG (base:=U.heap.size) (c2:=1) (ys:= [e.t]) (Zl g6.out Ea) (SlT.one (World.alloc_heap_new _ _)) (by simp only [List.length_singleton];omega) (Xt b9.out.size (by simp)) Kr Kr ?_;intro v2 w2 h9 o2;have g8:=((n9.out.ext Ea).mv (Mv.of_grown (C:=fun q=>(Value.slice ph h.length ch).ownBlock=some q) h9 (fun r e=> .inl e)) (fun e=>by have:=n7.out _ e;omega));have t0:w2.cell? ⟨a6,0,none⟩=some (.int .u8 e.k):=g8.cell 0 (by show 0<6;omega);have lE:=g8.l;have o0:=Xh o2;have o1:=Xh (QbC (Zl g6.out Ea) h9);clear g8 o2 h9)
           go_wp2
           go_roundw
           case rel=>
            refine⟨k+1,Om,by go_num,h++ [e.t],?_,by rw [←a5.out];exact a8.out.1.2,by rw [←a5.out];exact a8.out.2,by have:=d3.out;simp only [List.length_append,List.length_singleton];omega,fun t ht=> ?_,Mv.ext_of (b9.out.tr Ea) o1.out (fun _ h=>h)⟩
            ·rw [List.length_append,JT];exact o0.out
            ·rcases List.mem_append.1 ht with h1|h1
             ·exact c7.out t h1
             ·rw [List.mem_singleton.1 h1];exact n4.out
           case measure=>simp [intOf];omega
          ·
           have a5:=Xh (show Ji h e=h by unfold Ji;rw [if_neg (fun q=>by rw [q]at k1;cases k1),if_neg (fun q=>by rcases q with q|q;(rw [q]at k3;cases k3);(rw [q]at k4;cases k4))]);go_wp2
           go_roundw
           case rel=>exact⟨k+1,Om,by go_num,h,g6.out,by have:=a8.out.1.2;rwa [a5.out]at this,by have:=a8.out.2;rwa [a5.out]at this,by have:=d3.out;omega,c7.out,b9.out⟩
           case measure=>simp [intOf];omega
          all_goals
           have r4: ¬L<0:=of_decide_eq_false hL;obtain⟨D,l4⟩: ∃D:Nat,L=D:=⟨L.toNat,Om⟩;have j8:D<h.length:=by have:=Qje h e.t h.length;rw [j7.out]at this;omega
           have a5:=Xh (show Ji h e=h.eraseIdx D by unfold Ji;rw [if_neg (fun q=>by rw [q]at k1;cases k1),if_pos (by first|exact .inl (beq_iff_eq.1 k3)|exact .inr (beq_iff_eq.1 k4)),j7.out,l4,Int.toNat_natCast]);subst l4
           go_upto_region 27 with(fail)
           refine QO (fun k=>wr.heap.size≤k) Kr ?_;obtain⟨W5,i0⟩: ∃W5,wr.drew=W5:=⟨_,rfl⟩;have g5:Ext wr W5:=by rw [←i0];exact Ext.dr (Ext.rf _)
           rw [i0];clear i0;have s5:=j6.out.ext g5;have g9:=g5.size;refine Qll (N:=11) (R:=QrE) (E:=((Tryz.f4.body.bind (Qh 27)).getD #[])) Kr Qwk Kr fun hS=> ?_;have f:=hS.2.1;have j9:(h.take D).length=D:=by rw [List.length_take];omega
           refine ZY (N:=11) (k:=1) (v:= .slice ph h.length ch) hS.1 f rfl Kr (fun _ _=>by kernel_rfl) fun f=> ?_;refine ZY (N:=11) (k:=2) (v:= .int .i64 (D:Nat)) hS.1 f rfl Kr (fun _ _=>by kernel_rfl) fun f=> ?_;refine ZY (N:=11) (k:=3) (v:= .slice ph (h.take D).length ch) hS.1 f rfl Kr (fun w' _=>by rw [j9];exact Qhw (k:=D) Om j5.out (fun q=>by exfalso;rw [q]at s5;have:=SlT.nil_of s5;rw [this]at j8;cases j8) Kr Kr w') fun f=> ?_;refine ZY (N:=11) (k:=5) (v:= .slice ph h.length ch) hS.1 f rfl Kr (fun _ _=>by kernel_rfl) fun f=> ?_;refine ZY (N:=11) (k:=6) (v:= .int .i64 (D:Nat)) hS.1 f rfl Kr (fun _ _=>by kernel_rfl) fun f=> ?_;refine ZY (N:=11) (k:=7) (v:= .int .i64 ((D+1:Nat):Int)) hS.1 f rfl Kr (fun w' _=>Qoa Om Kr rfl w') fun f=> ?_;obtain⟨qd,cd,sd,l5⟩:=Qhx j6.out (k:=D+1) Om j5.out;refine ZY (N:=11) (k:=8) (v:= .slice qd (h.drop (D+1)).length cd) hS.1 f rfl Kr (fun w' _=>l5 _ _ _ _ _ _ _ _ Kr Kr w') fun f=> ?_;refine JK hS.2.2.1 (QhS rfl Kr (QrF) (Mv.al _ (Mv.refl _ _)) ?_);obtain⟨W7,b1⟩: ∃W,W5.alloc (.cells #[] 64)=W:=⟨_,rfl⟩;obtain⟨B7,i1⟩: ∃b,W5.heap.size=b:=⟨_,rfl⟩;have o7:W7.ownsRow wr.heap.size 64 4 (.slice (some ⟨B7,0,none⟩) 0 0) 0 []:=by rw [←b1,←i1];exact QA (Qwi W5) g9
           have g7:Ext W5 W7:=by rw [←b1];exact Ea
           rw [b1,i1];clear b1 i1;refine JK hS.2.2.2.1 (QuF (v1:= .slice (some ⟨B7,0,none⟩) 0 0) (q:=ph) (ys:=h.take D) (c2:=ch) rfl Kr Kr o7 ((s5.take D).ext g7) Om (Xt g9 g7.size) fun v4 W8 gr8 m8 o8=> ?_);have k0:=sd.mvn ((Mv.of_ext (C:=fun k=>wr.heap.size≤k) (g5.tr g7)).trans m8) (Nat.le_refl _);refine JK hS.2.2.2.2.1 (QuF (v1:=v4) (q:=qd) (ys:=h.drop (D+1)) (c2:=cd) rfl Kr Kr o8 k0 (by rw [j9,List.length_drop];omega) (Xt (Xt g9 g7.size) m8.size) fun v9 W9 gr9 m9 o9=> ?_);have f:=hS.2.2.2.2.2.1;refine ZY (N:=11) (k:=10) (v:=v9) hS.1 f rfl Kr (fun _ _=>by kernel_rfl) fun f=> ?_;refine doneK hS.2.2.2.2.2.2 ?_;have o3:h.eraseIdx D=h.take D++h.drop (D+1):=List.eraseIdx_eq_take_drop_succ ..;have o4:=Xh (show W9.ownsRow U.heap.size 64 4 v9 (h.eraseIdx D).length (flT (h.eraseIdx D))by rw [o3,List.length_append,JT];have o:=QA o9 b9.out.size;rw [Nat.zero_add,List.nil_append]at o;exact o);have o5:=Xh (show Ext U W9 from Mv.ext_of (b9.out.tr (g5.tr g7)) (m8.trans m9) (fun k hk=>Xt b9.out.size hk));clear hS f o7 o8 o9 m8 m9 gr8 gr9 k0 sd s5 l5 g7 g5;go_simp;go_wp2
           go_roundw
           case rel=>exact⟨k+1,Om,by go_num,h.eraseIdx D,o4.out,by rw [←a5.out];exact a8.out.1.2,by rw [←a5.out];exact a8.out.2,by have:=d3.out;have:=List.length_eraseIdx_le h D;omega,fun t ht=>c7.out t (List.mem_of_mem_eraseIdx ht),o5.out⟩
           case measure=>simp [intOf];omega
       ·have f0: ¬(k:Int)<O.length:=by omega
        have k2:O.drop k= []:=List.drop_of_length_le Om;rw [k2]at b0;simp only [YL]at b0;subst b0;have n6:h.length≤140:=by omega
        have c7:=Xh e0;obtain⟨W7,b1⟩: ∃W,wr=W:=⟨_,rfl⟩;rw [b1]at J F⊢;clear b1;obtain⟨ph,ch,h8,e3,sh⟩:=SlT.own J;subst h8;have d4:=Xh sh;have h0:=Xh F;clear J F sh e3 k2 d1 e0 h7;have r5:ys.length≤32:=by have h:=(ZX.1 (Yg.1 I.out.2.2.2.2.1).1.2).1;rw [I.out.2.1]at h;exact h
        go_wp2
        go_loopw [14,15] (fun u14 i wx=> ∃n:Nat,n≤ys.length∧i= .int .i64 n∧wx.ownsRow W7.heap.size 64 4 u14 n (flT ((ys.take n).map Co.t))∧Ext W7 wx) (fun _ i _=>ys.length- (intOf i).toNat)
        case atStart=>exact⟨0,Nat.zero_le _,rfl,World.ownsRow_nil _ _ _ _,Ext.rf _⟩
        case round=>
         obtain⟨n,hn,rfl,J,b3⟩:=hrel;have rB:=a1.out.2.ext (h0.out.tr b3);have b7:wr.cell? ⟨u,66,none⟩=some (.slice K ys.length M):=by rw [Qa,rB.r,Qu,I.out.1,I.out.2.1,I.out.2.2.1]
         have l6:=rB.l
         by_cases c8:n<ys.length
         ·have f8:(n:Int)<ys.length:=by omega
          obtain⟨bc,oc,hp,X,q0,q1,q2,q3,-,-⟩:=(e9.out.ext (h0.out.tr b3)) n c8;obtain⟨x,hx⟩: ∃x,ys[n]=x:=⟨_,rfl⟩;have HN:=Xh (show(ys.take (n+1)).map Co.t=(ys.take n).map Co.t++ [x.t]by rw [List.take_succ_eq_append_getElem c8,hx,List.map_append];rfl);rw [hx]at q0 q1 q2 q3;rw [hp]at b7;have c6:Lt bc wr:=X;have HO:=Xh J;have a4:=Xh b3;clear J b3 X hp rB hx
          go_upto_region 31 with(at_builtin;refine listAT (base:=W7.heap.size) (c2:=1) (ys:= [x.t]) (Zl HO.out Ea) (SlT.one (World.alloc_heap_new _ _)) (by simp only [List.length_singleton];omega) (Xt a4.out.size (by simp)) Kr Kr ?_;intro v2 w2 m2 o2)
          have f2:=Xh o2;have f5:=Xh m2;clear o2 m2 q0 q1 q2 q3 b7 l6 c6;go_wp2
          go_roundw
          case rel=>
           refine⟨n+1,Om,by go_num,?_,Mv.ext_of (a4.out.tr Ea) f5.out (fun _ h=>h)⟩;rw [HN.out,JT];exact f2.out
          case measure=>simp [intOf];omega
         ·have f8: ¬(n:Int)<ys.length:=by omega
          obtain rfl:n=ys.length:=by omega
          rw [List.take_length]at J;have k5:wr.ownsRow W7.heap.size 64 4 u14 (ys.map Co.t).length (flT (ys.map Co.t)):=by rw [List.length_map];exact J
          obtain⟨pl,cl,q8,-,sl⟩:=SlT.own k5;subst q8;have k6:=Xh sl;have c0:=Xh (h0.out.tr b3);have o6:=Xh (d4.out.ext b3);obtain⟨Z,eZ⟩: ∃Z,ys.map Co.t=Z:=⟨_,rfl⟩;have HZ:=Xh (show Yx h h.length=Z∧h.length=Z.length by rw [←eZ,←b5.out.2.2.1];exact⟨rfl,(Qdw h _ (Nat.le_refl _)).symm⟩);have k7:Z.length≤1000:=by rw [←eZ,List.length_map];omega
          rw [eZ]at k6⊢;have p0:=Xh (fun W (F:Ext U W)=>show Cr 23 #[.agg (agv B)] W (.bool true) by have h:=Qgb B W (by rw [I.out.1,I.out.2.1];exact e9.out.ext F) (by rw [I.out.2.1];omega) (by rw [I.out.2.1];exact I.out.2.2.2.2.2.1) I.out.2.2.2.2.2.2;rw [I.out.2.2.2.2.1]at h;exact h);have r7:(B.id !=A.id)=false:=by rw [I.out.2.2.2.1];simp
          have wB:=rB.r;clear J k5 sl b3 eZ
          go_upto_region 35 with(first|(go_at_call 23;(with_reducible refine(p0.out _ c0.out).mono ?_);rintro e8 w1 ⟨rfl,g1⟩;have x6:w1.cell? ⟨u,0,none⟩=some (.int .i64 B.id):=ZQ (a1.out.2.ext (c0.out.tr g1)).r;have x2:w1.cell? ⟨S,0,none⟩=some (.int .i64 A.id):=ZQ (a1.out.1.ext (c0.out.tr g1)).r;have p1:=(a1.out.2.ext (c0.out.tr g1)).l;have p2:=(a1.out.1.ext (c0.out.tr g1)).l;clear wB l6 b7)|(go_at_call 29;(with_reducible refine(Qjb ph h ch _ (o6.out.ext g1) Om c7.out).mono ?_);rintro e8 w2 ⟨vs,rfl,os,g2⟩;rw [HZ.out.1,HZ.out.2]at os;obtain⟨ps,cs,rfl,-,ss⟩:=SlT.own os;have p3:=Xh ss;clear os ss)|(go_at_call 28;(with_reducible refine(Qwd ps pl Z Z cs cl _ p3.out ((k6.out.ext g1).ext g2) k7 k7).mono ?_);rw [decide_eq_true rfl];rintro e8 w3 ⟨rfl,g3⟩))
          have d8:=c0.out.tr ((g1.tr g2).tr g3);have r2:=a1.out.1.ext d8;have G:=a1.out.2.ext d8;have k8:=Xh r2;have k9:=Xh d8;have p4:=r2.r;have p5:=r2.z;have p6:=r2.l;have p7:=G.r;have p8:=G.l;clear x6 x2 p1 p2 r2 G d8 g1 g2 g3
          go_upto_region 5 with(fail)
          obtain⟨WZ,g⟩: ∃W,Qe w3 S 0 (agv B)=W:=⟨_,rfl⟩;have mZ:Mv (fun k=>k=S) w3 WZ:=by rw [←g];exact Mv.sa _ rfl (Mv.refl _ _)
          have rZ:RowZ WZ S (agv B):=by rw [←g];exact k8.out.all _ (Qg.trans Qg.symm)
          rw [g];have p9:=Xh (show AtA w S B WZ from⟨rZ,I.out.2.2.2.2.1,(by rw [I.out.1,I.out.2.1];exact(e9.out.ext k9.out).mva mZ k8.out.r),(by rw [I.out.2.1];exact I.out.2.2.2.2.2.1),I.out.2.2.2.2.2.2,Mv.ext_of (n2.out.tr k9.out) mZ (fun k e=>by rw [e];exact l9.out)⟩);have r8:=i2.out.1;clear g mZ rZ p4 p5 p6 p7 p8;go_wp2
          go_roundw
          case rel=>exact⟨j+1,Om,by go_num,B,p9.out⟩
          case measure=>simp [intOf];omega
  ·have m0: ¬(j:Int)<ds.length:=by omega
   have HE:=Xh Q.e;clear Q
   go_wp2_with (go_at_call 9;(refine(Qbg _).mono ?_);rintro e wx ⟨rfl,gk⟩)
   exact bodyPost_ret (v:= .bool true) (by simp [results,Tryz.results4,go_sem]) rfl ⟨rfl,HE.out.tr gk⟩
end
section
open Go.ChangeShapes Go.WideShapes Go.ChangeAt Go.Joins Go.Deep
theorem Qzo:Tryz.prog.cellsOf 183=5:=Kr
theorem Qzp:Tryz.prog.cellsOf 153=4:=Kr
theorem Qzq:Tryz.prog.cellsOf 31=3:=Kr
theorem Qwm:Tryz.prog.cellsOf 33=10:=Kr
theorem QtC:Tryz.prog.cellsOf 29=1:=Kr
theorem QuG{n:Int}(h:(Lit.int .u8 n).wf=true):0≤n∧n<256:=by
 have a:IntKind.u8.min=0:=rfl;have b:IntKind.u8.max=255:=rfl;simp only [Lit.wf,Bool.and_eq_true,decide_eq_true_eq]at h;omega
section
variable {H:Type} {enc:TypeId×Value→H} {w:World} {base b0:Nat} {spare:Nat→Bool} {held:Bool} {fuel:Nat} {L:List Value} {y:DataW H×List MemPlace}
theorem Qzr(h:DataW.trod enc Tryz.prog w base spare held fuel 153 L=some y): ∃x:En,True∧ ∀j,j<4→L[j]?=some (x.at j):=by
 obtain⟨n,-,a⟩:=Yf Tryz.underlying153 h;obtain⟨f,(b:DataW.trod enc Tryz.prog w base spare held n 3 ((L.drop 0).take (Tryz.prog.cellsOf 3))=some f)⟩:=a 0 _ rfl;rw [QdX]at b;obtain⟨g,i,_,u⟩:=DataW.trod_int Tryz.underlying3 b;obtain⟨k,(c:DataW.trod enc Tryz.prog w base spare held n 3 ((L.drop 1).take (Tryz.prog.cellsOf 3))=some k)⟩:=a 1 _ rfl;rw [QdX]at c;obtain⟨l,m,_,v⟩:=DataW.trod_int Tryz.underlying3 c;obtain⟨o,(d:DataW.trod enc Tryz.prog w base spare held n 3 ((L.drop 2).take (Tryz.prog.cellsOf 3))=some o)⟩:=a 2 _ rfl;rw [QdX]at d;obtain⟨p,q,_,z⟩:=DataW.trod_int Tryz.underlying3 d;obtain⟨r,(e:DataW.trod enc Tryz.prog w base spare held n 3 ((L.drop 3).take (Tryz.prog.cellsOf 3))=some r)⟩:=a 3 _ rfl;rw [QdX]at e;obtain⟨s,t,_,A⟩:=DataW.trod_int Tryz.underlying3 e;refine⟨⟨g,l,p,s⟩,trivial,fun j hj=> ?_⟩;obtain rfl|rfl|rfl|rfl:j=0∨j=1∨j=2∨j=3:=by omega
 ·exact Q3 i
 ·exact Q3 m
 ·exact Q3 q
 ·exact Q3 t
theorem Qzs(h:DataW.trod enc Tryz.prog w base spare held fuel 183 L=some y): ∃x:Rw,True∧ ∀j,j<5→L[j]?=some (x.at j):=by
 obtain⟨n,-,b⟩:=Yf Tryz.underlying183 h;obtain⟨f,(c:DataW.trod enc Tryz.prog w base spare held n 3 ((L.drop 0).take (Tryz.prog.cellsOf 3))=some f)⟩:=b 0 _ rfl;obtain⟨g,(d:DataW.trod enc Tryz.prog w base spare held n 153 ((L.drop 1).take (Tryz.prog.cellsOf 153))=some g)⟩:=b 1 _ rfl;rw [QdX]at c;rw [Qzp]at d;obtain⟨i,k,_,_⟩:=DataW.trod_int Tryz.underlying3 c;obtain⟨e,-,a⟩:=Qzr d;refine⟨⟨i,e.cur,e.prev,e.gen,e.tick⟩,trivial,fun j hj=> ?_⟩;obtain rfl|rfl|rfl|rfl|rfl:j=0∨j=1∨j=2∨j=3∨j=4:=by omega
 ·exact Q3 k
 ·exact YK (o:=1) (a 0 Om) Om
 ·exact YK (o:=1) (a 1 Om) Om
 ·exact YK (o:=1) (a 2 Om) Om
 ·exact YK (o:=1) (a 3 Om) Om
theorem QtD(h:DataW.trod enc Tryz.prog w base spare held fuel 29 L=some y):
  ∃(q:Option Addr) (xs:List Rw) (c:Nat),L= [.slice q xs.length c]∧SlR w q xs∧xs.length≤maxLen:=by
 rcases open_slice Tryz.underlying29 h with⟨hcs,_⟩|⟨a,len,cap,k,n,D,Pl,hcs,_,hl,hm,hk,_,hi⟩
 ·exact⟨none,[],0,hcs,SlR.nil _ _,by unfold maxLen;show 0≤_;omega⟩
 ·have C:len≤k:=by rw [hk];split<;>omega
  have f: ∀i,i<len→ ∃x:Rw,(True)∧ ∀j,j<5→w.cell? (a.add (i*5+j))=some (x.at j):=by
   intro i s;obtain⟨E,g,t⟩:=hi i Om;rw [Qzo]at g;obtain⟨_,F,u⟩:=World.cells?_some g;obtain⟨x,v,z⟩:=Qzs t;refine⟨x,v,fun j hj=> ?_⟩;have m:=u j hj;rw [z j hj]at m;have e:(a.add (i*5)).add j=a.add (i*5+j):=by
    unfold Addr.add
    repeat' split
    all_goals first|(exfalso;simp_all;omega)|(simp_all;done)|(simp_all;omega)
   rw [←e];exact m
  have o:((List.range len).map fun i=>if h:i<len then(f i h).choose else⟨0,0,0,0,0⟩).length=len:=by simp
  refine⟨some a,(List.range len).map fun i=>if h:i<len then(f i h).choose else⟨0,0,0,0,0⟩,cap,by rw [o];exact hcs,?_,?_⟩
  ·intro i s;have l:i<len:=by omega
   have g:=(f i l).choose_spec;simp only [List.getElem_map,List.getElem_range,dif_pos l];generalize (f i l).choose=x at g;obtain⟨-,d⟩:=g;have r:a.spot=none:=by
    obtain⟨G,_,A⟩:=f 0 Om;have:=A 0 Om;simpa [Addr.add]using World.cell?_spot this
   obtain⟨b,p,B⟩:=a;obtain rfl:B=none:=r;have d: ∀j,j<5→w.cell? ⟨b,p+i*5+j,none⟩=some (x.at j):=fun j hj=>by
    have:=d j hj;rw [add_plain]at this;rw [Nat.add_assoc];exact this
   exact⟨b,p,rfl,World.block_lt_of_cell? w _ (d 0 Om),d 0 Om,d 1 Om,d 2 Om,d 3 Om,d 4 Om⟩
  ·rw [o];omega
structure CtO(w:World)(x:Ct)(rs:List Rw):Prop where
 k:0≤x.ki
 f:0≤x.of_∧x.of_<256
 n:x.n=rs.length
 s:SlR w x.p rs
 l:rs.length≤9223372036854775807
theorem Qzt(h:DataW.trod enc Tryz.prog w base spare held fuel 31 L=some y): ∃(a b:Int) (p:Option Addr) (rs:List Rw) (c:Nat),SlR w p rs∧rs.length≤maxLen∧L[0]?=some (.int .i64 a)∧L[1]?=some (.int .i64 b)∧L[2]?=some (.slice p rs.length c):=by
 obtain⟨n,-,d⟩:=Yf Tryz.underlying31 h;obtain⟨i,(e:DataW.trod enc Tryz.prog w base spare held n 3 ((L.drop 0).take (Tryz.prog.cellsOf 3))=some i)⟩:=d 0 _ rfl;obtain⟨j,(f:DataW.trod enc Tryz.prog w base spare held n 3 ((L.drop 1).take (Tryz.prog.cellsOf 3))=some j)⟩:=d 1 _ rfl;obtain⟨k,(g:DataW.trod enc Tryz.prog w base spare held n 29 ((L.drop 2).take (Tryz.prog.cellsOf 29))=some k)⟩:=d 2 _ rfl;rw [QdX]at e f;rw [QtC]at g;obtain⟨a,l,_,_⟩:=DataW.trod_int Tryz.underlying3 e;obtain⟨b,m,_,_⟩:=DataW.trod_int Tryz.underlying3 f;obtain⟨p,rs,c,o,q,r⟩:=QtD g;exact⟨a,b,p,rs,c,q,r,Q3 l,Q3 m,Q3 o⟩
theorem Qwn(h:DataW.trod enc Tryz.prog w base spare held fuel 33 L=some y): ∃(x:Ct) (rs:List Rw),CtO w x rs∧ ∀j,j<10→L[j]?=some (x.at j):=by
 obtain⟨n,-,a⟩:=Yf Tryz.underlying33 h;obtain⟨m,(b:DataW.trod enc Tryz.prog w base spare held n 5 ((L.drop 0).take (Tryz.prog.cellsOf 5))=some m)⟩:=a 0 _ rfl;obtain⟨q,(d:DataW.trod enc Tryz.prog w base spare held n 5 ((L.drop 1).take (Tryz.prog.cellsOf 5))=some q)⟩:=a 1 _ rfl;obtain⟨r,(e:DataW.trod enc Tryz.prog w base spare held n 3 ((L.drop 2).take (Tryz.prog.cellsOf 3))=some r)⟩:=a 2 _ rfl;obtain⟨u,(f:DataW.trod enc Tryz.prog w base spare held n 3 ((L.drop 3).take (Tryz.prog.cellsOf 3))=some u)⟩:=a 3 _ rfl;obtain⟨v,(g:DataW.trod enc Tryz.prog w base spare held n 3 ((L.drop 4).take (Tryz.prog.cellsOf 3))=some v)⟩:=a 4 _ rfl;obtain⟨z,(i:DataW.trod enc Tryz.prog w base spare held n 3 ((L.drop 5).take (Tryz.prog.cellsOf 3))=some z)⟩:=a 5 _ rfl;obtain⟨A,(k:DataW.trod enc Tryz.prog w base spare held n 3 ((L.drop 6).take (Tryz.prog.cellsOf 3))=some A)⟩:=a 6 _ rfl;obtain⟨B,(l:DataW.trod enc Tryz.prog w base spare held n 31 ((L.drop 7).take (Tryz.prog.cellsOf 31))=some B)⟩:=a 7 _ rfl;rw [Qro]at b d;rw [QdX]at e f g i k;rw [Qzq]at l;obtain⟨C,D,_,E⟩:=DataW.trod_int Tryz.underlying5 b;obtain⟨F,G,_,H⟩:=DataW.trod_int Tryz.underlying5 d;obtain⟨I,J,_,_⟩:=DataW.trod_int Tryz.underlying3 e;obtain⟨K,M,_,_⟩:=DataW.trod_int Tryz.underlying3 f;obtain⟨N,O,_,_⟩:=DataW.trod_int Tryz.underlying3 g;obtain⟨P,Q,_,_⟩:=DataW.trod_int Tryz.underlying3 i;obtain⟨R,S,_,_⟩:=DataW.trod_int Tryz.underlying3 k;obtain⟨s,t,p,rs,c,T,U,V,W,X⟩:=Qzt l;refine⟨⟨C,F,I,K,N,P,R,s,t,p,rs.length,c⟩,rs,⟨QuB E,QuG H,rfl,T,by unfold maxLen at U;omega⟩,fun j hj=> ?_⟩;obtain rfl|rfl|rfl|rfl|rfl|rfl|rfl|rfl|rfl|rfl:j=0∨j=1∨j=2∨j=3∨j=4∨j=5∨j=6∨j=7∨j=8∨j=9:=by omega
 ·exact Q3 D
 ·exact Q3 G
 ·exact Q3 J
 ·exact Q3 M
 ·exact Q3 O
 ·exact Q3 Q
 ·exact Q3 S
 ·exact YK (o:=7) V Om
 ·exact YK (o:=7) W Om
 ·exact YK (o:=7) X Om
end
end
section
open Go.ChangeShapes Go.WideShapes Go.ChangeAt Go.Joins Go.Deep
theorem Qzu:Tryz.prog.cellsOf 59=13:=Kr
theorem Qzv:Tryz.prog.cellsOf 28=1:=Kr
section
variable {H:Type} {enc:TypeId×Value→H} {w:World} {base b0:Nat} {spare:Nat→Bool} {held:Bool} {fuel:Nat} {L:List Value} {y:DataW H×List MemPlace}
theorem Qwo(h:DataW.trod enc Tryz.prog w base spare held fuel 5 L=some y): ∃x:Int,(0≤x∧x<256)∧ ∀j,j<1→L[j]?=some (.int .u8 x):=by
 obtain⟨a,p,_,b⟩:=DataW.trod_int Tryz.underlying5 h;refine⟨a,QuG b,fun j hj=> ?_⟩;obtain rfl:j=0:=by omega
 have:=congrArg (fun l=>l[0]?) p;simpa using this
theorem Qzw(h:DataW.trod enc Tryz.prog w base spare held fuel 28 L=some y):
  ∃(q:Option Addr) (xs:List Int) (c:Nat),L= [.slice q xs.length c]∧SlB w q xs∧ByR xs∧xs.length≤c:=by
 rcases open_slice Tryz.underlying28 h with⟨hcs,_⟩|⟨a,len,cap,k,n,D,Pl,hcs,_,hl,hm,hk,_,hi⟩
 ·exact⟨none,[],0,hcs,(fun k hk=>by simp at hk),(fun x h=>by cases h),Nat.le_refl _⟩
 ·have C:len≤k:=by rw [hk];split<;>omega
  have d: ∀i,i<len→ ∃x:Int,(0≤x∧x<256)∧ ∀j,j<1→w.cell? (a.add (i*1+j))=some (.int .u8 x):=by
   intro i o;obtain⟨E,g,u⟩:=hi i Om;rw [Qro]at g;obtain⟨_,F,v⟩:=World.cells?_some g;obtain⟨x,z,m⟩:=Qwo u;refine⟨x,z,fun j hj=> ?_⟩;have p:=v j hj;rw [m j hj]at p;have e:(a.add (i*1)).add j=a.add (i*1+j):=by
    unfold Addr.add
    repeat' split
    all_goals first|(exfalso;simp_all;omega)|(simp_all;done)|(simp_all;omega)
   rw [←e];exact p
  have r:((List.range len).map fun i=>if h:i<len then(d i h).choose else 0).length=len:=by simp
  refine⟨some a,(List.range len).map fun i=>if h:i<len then(d i h).choose else 0,cap,by rw [r];exact hcs,?_,?_,by rw [r];exact hl⟩
  ·intro i o;have f:i<len:=by omega
   have g:=(d i f).choose_spec;simp only [List.getElem_map,List.getElem_range,dif_pos f];generalize (d i f).choose=x at g;obtain⟨-,l⟩:=g;have t:a.spot=none:=by
    obtain⟨G,_,A⟩:=d 0 Om;have:=A 0 Om;simpa [Addr.add]using World.cell?_spot this
   obtain⟨b,s,B⟩:=a;obtain rfl:B=none:=t;have l: ∀j,j<1→w.cell? ⟨b,s+i*1+j,none⟩=some (.int .u8 x):=fun j hj=>by
    have:=l j hj;rw [add_plain]at this;rw [Nat.add_assoc];exact this
   exact⟨b,s,rfl,World.block_lt_of_cell? w _ (l 0 Om),by have:=l 0 Om;rwa [Nat.mul_one,Nat.add_zero]at this⟩
  ·intro x m;rw [List.mem_map]at m;obtain⟨i,o,rfl⟩:=m;have f:i<len:=List.mem_range.1 o;rw [dif_pos f];exact(d i f).choose_spec.1
theorem Qzx(h:DataW.trod enc Tryz.prog w base spare held fuel 59 L=some y): ∃x:Dd,DdO w x∧ ∀j,j<13→L[j]?=some (x.at j):=by
 obtain⟨n,-,a⟩:=Yf Tryz.underlying59 h;obtain⟨r,(g:DataW.trod enc Tryz.prog w base spare held n 3 ((L.drop 0).take (Tryz.prog.cellsOf 3))=some r)⟩:=a 0 _ rfl;obtain⟨s,(i:DataW.trod enc Tryz.prog w base spare held n 28 ((L.drop 1).take (Tryz.prog.cellsOf 28))=some s)⟩:=a 1 _ rfl;obtain⟨t,(l:DataW.trod enc Tryz.prog w base spare held n 33 ((L.drop 2).take (Tryz.prog.cellsOf 33))=some t)⟩:=a 2 _ rfl;obtain⟨u,(m:DataW.trod enc Tryz.prog w base spare held n 3 ((L.drop 12).take (Tryz.prog.cellsOf 3))=some u)⟩:=a 3 _ rfl;rw [QdX]at g m;rw [Qzv]at i;rw [Qwm]at l;obtain⟨v,z,_,_⟩:=DataW.trod_int Tryz.underlying3 g;obtain⟨q,A,c,B,C,D,E⟩:=Qzw i;obtain⟨x,I,p,F⟩:=Qwn l;obtain⟨G,H,_,_⟩:=DataW.trod_int Tryz.underlying3 m;refine⟨⟨v,q,A,c,x,G⟩,⟨C,D,E,p.k,p.f⟩,fun j hj=> ?_⟩;unfold Dd.at
 by_cases b:j=0
 ·subst b;exact Q3 z
 rw [if_neg b]
 by_cases d:j=1
 ·subst d;exact Q3 B
 rw [if_neg d]
 by_cases e:j<12
 ·rw [if_pos e];have h:=YK (o:=2) (F (j- 2) Om) Om
  rwa [show 2+(j- 2)=j by omega]at h
 ·rw [if_neg e];obtain rfl:j=12:=by omega
  exact Q3 H
theorem QtE{v:Value}{d:DataW H}{p:List MemPlace}(hv:Value.okWide Tryz.prog w .any b0 55 v)(h:DataW.Trod enc Tryz.prog w base spare held 55 v d p):
  ∃(q:Option Addr) (xs:List Dd) (c:Nat),v= .slice q xs.length c∧SlD w q xs∧xs.length≤9223372036854775807:=by
 obtain⟨L,f,y,rfl⟩:=okWide_slice Tryz.underlying55 hv;obtain⟨M,z⟩:=h;rcases open_slice Tryz.underlying55 z with⟨hcs,_⟩|⟨a,len',cap',k,n,D,Pl,hcs,_,hl,hm,hk,_,hi⟩
 ·simp [Value.cells]at hcs;obtain⟨rfl,rfl,rfl⟩:=hcs;exact⟨none,[],0,rfl,(fun k hk=>by simp at hk),by simp⟩
 ·simp [Value.cells]at hcs;obtain⟨rfl,rfl,rfl⟩:=hcs;have K:f≤k:=by rw [hk];split<;>omega
  have g: ∀i,i<f→ ∃x:Dd,(DdO w x)∧ ∀j,j<13→w.cell? (a.add (i*13+j))=some (x.at j):=by
   intro i A;obtain⟨N,l,B⟩:=hi i Om;rw [Qzu]at l;obtain⟨_,O,C⟩:=World.cells?_some l;obtain⟨x,E,F⟩:=Qzx B;refine⟨x,E,fun j hj=> ?_⟩;have r:=C j hj;rw [F j hj]at r;have e:(a.add (i*13)).add j=a.add (i*13+j):=by
    unfold Addr.add
    repeat' split
    all_goals first|(exfalso;simp_all;omega)|(simp_all;done)|(simp_all;omega)
   rw [←e];exact r
  have s:((List.range f).map fun i=>if h:i<f then(g i h).choose else⟨0,none,[],0,⟨0,0,0,0,0,0,0,0,0,none,0,0⟩,0⟩).length=f:=by simp
  refine⟨some a,(List.range f).map fun i=>if h:i<f then(g i h).choose else⟨0,none,[],0,⟨0,0,0,0,0,0,0,0,0,none,0,0⟩,0⟩,y,by rw [s],?_,by rw [s];unfold maxLen at hm;omega⟩
  ·intro i A;have o:i<f:=by omega
   have l:=(g i o).choose_spec;simp only [List.getElem_map,List.getElem_range,dif_pos o];generalize (g i o).choose=x at l;obtain⟨G,m⟩:=l;have u:a.spot=none:=by
    obtain⟨P,_,I⟩:=g 0 Om;have:=I 0 Om;simpa [Addr.add]using World.cell?_spot this
   obtain⟨b,t,J⟩:=a;obtain rfl:J=none:=u;have m: ∀j,j<13→w.cell? ⟨b,t+i*13+j,none⟩=some (x.at j):=fun j hj=>by
    have:=m j hj;rw [add_plain]at this;rw [Nat.add_assoc];exact this
   exact⟨G,b,t,rfl,World.block_lt_of_cell? w _ (m 0 Om),m⟩
end
end
end Go.Proofs.YtpeonbaodnmlnaaGreat
