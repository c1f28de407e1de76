/- Lemmas of this claim, put together out of: UM1, UM2, UM3, UR0, UR1, UR2, UR3, UR4, UR5, UR6, UR7, UR8. -/
import Derived.Test.YtpeonbaodnmlnaaGreatSA1
import Derived.WalkKit
import Derived.WalkSpells
import Derived.MapKept
import Derived.Orders
set_option linter.unusedSimpArgs false
set_option linter.unusedVariables false
set_option maxRecDepth 100000
set_option maxHeartbeats 16000000
namespace Go.Proofs.YtpeonbaodnmlnaaGreat.Ru
open Go.RowKit
variable{a:Act}{listed:Array Bool}{w:World}
theorem J6(n:Int)(w:World):
  Calls Tryz.prog 143 #[.int .i64 n] w fun e w'=>e= .returned (.bool (decide (0≤n)&&decide (n<6)))∧w=w':=by
 go_enter Tryz.func143,Tryz.ntmps143
 go_wp2
 all_goals(go_ret;exact⟨by simp_all<;>omega,rfl⟩)
abbrev mv(k p g:Int)(r:Bool):Value:= .agg #[.int .u8 k,.int .i64 p,.int .i64 g,.bool r]
theorem Qsu(w:World):
  Cr 38 #[] w (mv 0 (-1) 0 false):=by
 go_enter Tryz.func38,Tryz.ntmps38
 go_wp2;refine bodyPost_ret (v:=mv 0 (-1) 0 false) (by simp [results,Tryz.results38,go_sem]) rfl ⟨rfl,?_⟩
 (exact Xe)
def Qg2(k p g:Int)(r:Bool):Bool:=
 if k≥4 then false
 else if k=0 then decide (p= -1)&&decide (g=0)&&!r
 else if g<1∨g≥2147483648 then false
 else if k=1 then decide (p= -1)&&!r
 else(decide (0≤p)&&decide (p<6))&&(!r||decide (k=3))
@[go_sem ↓ high] theorem QzX(k p g:Int)(r:Bool)(k' p' g':Int)(r':Bool)(w:World):
  (binOp .eql 23 (mv k p g r) (mv k' p' g' r')).run Tryz.prog w= .ok (.bool (k==k'&&p==p'&&g==g'&&r==r')) w:=by
 go_simp
 by_cases a:k=k'<;>by_cases b:p=p'<;>by_cases c:g=g'<;>by_cases d:r=r'<;>simp [*]
theorem ZG(k p g:Int)(r:Bool)(w:World)(h0:0≤k):
  Cr 73 #[mv k p g r] w (.bool (Qg2 k p g r)):=by
 go_enter Tryz.func73,Tryz.ntmps73
 go_wp2;refine Qp 0 rfl ?_
 go_wp2_with (first|(go_at_call 143;refine(J6 _ _).mono ?_;rintro e a ⟨rfl,rfl⟩))
 all_goals(try (refine QW ?_;intro W d f h i b;go_region_held3 (Up W) (first|exact Up.start _|exact Up.next (by assumption) (by assumption)) (first|(go_at_call 38;refine(Qsu _).mono ?_;rintro e a ⟨rfl,j⟩));rename_i a hU;have c:=(Ext.of b Ea).tr hU.2.2.2.2;go_wp2))
 all_goals(try (go_step3;refine⟨rfl,?_⟩;go_wp2;rw [Exit.noGoto_ret]))
 all_goals(try simp only [Exit.jump])
 all_goals go_ret
 all_goals refine⟨Qm ?_,?_⟩
 all_goals(first|(guard_target=~ Below _ _ _;(first|assumption|(exact Xe)))|grind [Qg2])
structure Md where
 k:Int
 p:Int
 g:Int
 r:Bool
 deriving DecidableEq
abbrev Md.v(m:Md):Value:=mv m.k m.p m.g m.r
def Md.right(m:Md):Bool:=Qg2 m.k m.p m.g m.r
theorem Qa5(m:Md)(w:World)(h0:0≤m.k):
  Cr 73 #[mv m.k m.p m.g m.r] w (.bool m.right):=ZG _ _ _ _ w h0
def newerB(m:Md)(gen:Int)(o:Md):Bool:=m.right&&decide (m.g<gen)&&o.right
def newer(m:Md)(gen:Int)(o:Md):Md:=if newerB m gen o then o else m
def grantM(gen prev:Int):Md:=⟨if prev= -1 then 1 else 2,prev,gen,false⟩
def drainM(gen succ:Int):Md:=⟨3,succ,gen,false⟩
theorem Qbs(m:Md)(gen:Int)(o x:Md)(b:Bool)(h:newerB m gen o=b)(h1:x=if b then o else m):
    Ending.returned (.tuple #[x.v,.bool b])= .returned (.tuple #[(newer m gen o).v,.bool (newerB m gen o)]):=by
  subst h1;unfold newer;rw [h]
theorem QjQ(gen prev:Int)(b1 b2:Nat)(w:World)(h1:w.cell? ⟨b1,0,none⟩=some (.int .i64 prev))(h2:w.cell? ⟨b2,0,none⟩=some (.int .i64 gen))(l1:Lt b1 w)(l2:Lt b2 w):
    Cr 136 #[.pointer (some ⟨b1,0,none⟩),.pointer (some ⟨b2,0,none⟩)] w (grantM gen prev).v:=by
  by_cases a:prev= -1
  · subst a
    go_enter Tryz.func136,Tryz.ntmps136
    go_wp2;refine bodyPost_ret (v:=(grantM gen (-1)).v) (by simp [results,Tryz.results136,go_sem,grantM]) rfl ⟨rfl,?_⟩
    (exact Xe)
  · have b:(prev== -1)=false:=by simpa using a
    go_enter Tryz.func136,Tryz.ntmps136
    go_wp2;refine bodyPost_ret (v:=(grantM gen prev).v) (by simp [results,Tryz.results136,go_sem,grantM, *]) rfl ⟨rfl,?_⟩
    (exact Xe)
theorem Qpj(gen prev:Int):0≤(grantM gen prev).k:=by unfold grantM;(try dsimp only);first| omega| (split<;>omega)
theorem Qip(m:Md)(gen prev:Int)(b1 b2:Nat)(w:World)(h0:0≤m.k)(h1:w.cell? ⟨b1,0,none⟩=some (.int .i64 prev))(h2:w.cell? ⟨b2,0,none⟩=some (.int .i64 gen))(l1:Lt b1 w)(l2:Lt b2 w):
    Cr 134 #[m.v,.int .i64 gen,.func (.func 136) #[] #[.pointer (some ⟨b1,0,none⟩),.pointer (some ⟨b2,0,none⟩)]] w (.tuple #[(newer m gen (grantM gen prev)).v,.bool (newerB m gen (grantM gen prev))]):=by
  have i:=Qpj gen prev;obtain⟨o,c⟩: ∃o,o=grantM gen prev:=⟨_,rfl⟩;rw [←c]at i;have j:=Xh c;rw [←c];clear c
  go_enter Tryz.func134,Tryz.ntmps134
  go_wp2_with (first| (go_at_call_of 73 (Md.k m);(with_reducible refine(Qa5 m _ (by assumption)).mono ?_);rintro e d ⟨rfl,a⟩;obtain⟨f,g,h,b,-⟩:=QU a;try simp at b)| (go_at_call_of 73 (Md.k o);(with_reducible refine(Qa5 o _ (by assumption)).mono ?_);rintro e d ⟨rfl,a⟩;obtain⟨f,g,h,b,-⟩:=QU a;try simp at b)| (go_at_call 136;go_must ((with_reducible refine(QjQ gen prev b1 b2 _ ?_ ?_ ?_ ?_).mono ?_);go_simp;go_simp;go_simp;go_simp);rw [←j.out];rintro e d ⟨rfl,a⟩;obtain⟨f,g,h,b,-⟩:=QU a;try simp at b))
  all_goals first
    | (refine bodyPost_ret (v:= .tuple #[m.v,.bool false]) ?_ rfl ⟨Qbs m gen o m false ?_ rfl,?_⟩
       · (simp [results,Tryz.results134,go_sem, *];done)
       · (first| (simp [newerB, *];done)| (simp [newerB, *];omega))
       · (exact Xe))
    | (refine bodyPost_ret (v:= .tuple #[o.v,.bool true]) ?_ rfl ⟨Qbs m gen o o true ?_ rfl,?_⟩
       · (simp [results,Tryz.results134,go_sem, *];done)
       · (first| (simp [newerB, *];done)| (simp [newerB, *];omega))
       · (exact Xe))
theorem QjR(gen prev:Int)(b1 b2:Nat)(w:World)(h1:w.cell? ⟨b1,0,none⟩=some (.int .i64 prev))(h2:w.cell? ⟨b2,0,none⟩=some (.int .i64 gen))(l1:Lt b1 w)(l2:Lt b2 w):
    Cr 135 #[.pointer (some ⟨b1,0,none⟩),.pointer (some ⟨b2,0,none⟩)] w (drainM gen prev).v:=by
  by_cases a:prev= -1
  · subst a
    go_enter Tryz.func135,Tryz.ntmps135
    go_wp2;refine bodyPost_ret (v:=(drainM gen (-1)).v) (by simp [results,Tryz.results135,go_sem,drainM]) rfl ⟨rfl,?_⟩
    (exact Xe)
  · have b:(prev== -1)=false:=by simpa using a
    go_enter Tryz.func135,Tryz.ntmps135
    go_wp2;refine bodyPost_ret (v:=(drainM gen prev).v) (by simp [results,Tryz.results135,go_sem,drainM, *]) rfl ⟨rfl,?_⟩
    (exact Xe)
theorem Qpk(gen prev:Int):0≤(drainM gen prev).k:=by unfold drainM;(try dsimp only);first| omega| (split<;>omega)
theorem Qiq(m:Md)(gen prev:Int)(b1 b2:Nat)(w:World)(h0:0≤m.k)(h1:w.cell? ⟨b1,0,none⟩=some (.int .i64 prev))(h2:w.cell? ⟨b2,0,none⟩=some (.int .i64 gen))(l1:Lt b1 w)(l2:Lt b2 w):
    Cr 134 #[m.v,.int .i64 gen,.func (.func 135) #[] #[.pointer (some ⟨b1,0,none⟩),.pointer (some ⟨b2,0,none⟩)]] w (.tuple #[(newer m gen (drainM gen prev)).v,.bool (newerB m gen (drainM gen prev))]):=by
  have i:=Qpk gen prev;obtain⟨o,c⟩: ∃o,o=drainM gen prev:=⟨_,rfl⟩;rw [←c]at i;have j:=Xh c;rw [←c];clear c
  go_enter Tryz.func134,Tryz.ntmps134
  go_wp2_with (first| (go_at_call_of 73 (Md.k m);(with_reducible refine(Qa5 m _ (by assumption)).mono ?_);rintro e d ⟨rfl,a⟩;obtain⟨f,g,h,b,-⟩:=QU a;try simp at b)| (go_at_call_of 73 (Md.k o);(with_reducible refine(Qa5 o _ (by assumption)).mono ?_);rintro e d ⟨rfl,a⟩;obtain⟨f,g,h,b,-⟩:=QU a;try simp at b)| (go_at_call 135;go_must ((with_reducible refine(QjR gen prev b1 b2 _ ?_ ?_ ?_ ?_).mono ?_);go_simp;go_simp;go_simp;go_simp);rw [←j.out];rintro e d ⟨rfl,a⟩;obtain⟨f,g,h,b,-⟩:=QU a;try simp at b))
  all_goals first
    | (refine bodyPost_ret (v:= .tuple #[m.v,.bool false]) ?_ rfl ⟨Qbs m gen o m false ?_ rfl,?_⟩
       · (simp [results,Tryz.results134,go_sem, *];done)
       · (first| (simp [newerB, *];done)| (simp [newerB, *];omega))
       · (exact Xe))
    | (refine bodyPost_ret (v:= .tuple #[o.v,.bool true]) ?_ rfl ⟨Qbs m gen o o true ?_ rfl,?_⟩
       · (simp [results,Tryz.results134,go_sem, *];done)
       · (first| (simp [newerB, *];done)| (simp [newerB, *];omega))
       · (exact Xe))
@[go_sem ↓ high] theorem Qyd(k p g:Int)(r:Bool)(k' p' g':Int)(r':Bool)(w:World):
    (binOp .neq 23 (mv k p g r) (mv k' p' g' r')).run Tryz.prog w= .ok (.bool (!(k==k'&&p==p'&&g==g'&&r==r'))) w:=by
  go_simp
  by_cases a:k=k'<;>by_cases b:p=p'<;>by_cases c:g=g'<;>by_cases d:r=r'<;>simp [*]
theorem Qpl{x x':Md}{b b':Bool}(h:x=x')(h2:b=b'):Ending.returned (.tuple #[x.v,.bool b])= .returned (.tuple #[x'.v,.bool b']):=by rw [h,h2]
def Qpm(m:Md)(gen prev:Int):Md:=newer m gen (grantM gen prev)
def QjS(m:Md)(gen prev:Int):Bool:=newerB m gen (grantM gen prev)
def Qpn(m:Md)(gen succ:Int):Md:=newer m gen (drainM gen succ)
def QjT(m:Md)(gen succ:Int):Bool:=newerB m gen (drainM gen succ)
def Qd4(m:Md)(gen:Int):Bool:=m.right&&m.k==3&&m.g==gen&&!m.r
def QjU(m:Md)(gen:Int):Md:=if Qd4 m gen then{m with r:=true}else m
theorem Qw0(m:Md)(gen prev:Int)(w:World)(h0:0≤m.k):
    Cr 57 #[m.v,.int .i64 gen,.int .i64 prev] w (.tuple #[(Qpm m gen prev).v,.bool (QjS m gen prev)]):=by
  go_enter Tryz.func57,Tryz.ntmps57
  go_wp2_with ((go_at_call 134;(with_reducible refine(Qip m gen prev _ _ _ h0 ?_ ?_ ?_ ?_).mono ?_);go_simp;go_simp;go_simp;go_simp;rintro e c ⟨rfl,a⟩;obtain⟨d,f,g,b,-⟩:=QU a;try simp at b))
  all_goals first
    | (refine bodyPost_ret (v:= .tuple #[(Qpm m gen prev).v,.bool (QjS m gen prev)]) ?_ rfl ⟨?_,?_⟩
       · (simp [results,Tryz.results57,go_sem,Qpm,QjS, *];done)
       · (rfl)
       · (exact Xe))
theorem Qw1(m:Md)(gen prev:Int)(w:World)(h0:0≤m.k):
    Cr 56 #[m.v,.int .i64 gen,.int .i64 prev] w (.tuple #[(Qpn m gen prev).v,.bool (QjT m gen prev)]):=by
  go_enter Tryz.func56,Tryz.ntmps56
  go_wp2_with ((go_at_call 134;(with_reducible refine(Qiq m gen prev _ _ _ h0 ?_ ?_ ?_ ?_).mono ?_);go_simp;go_simp;go_simp;go_simp;rintro e c ⟨rfl,a⟩;obtain⟨d,f,g,b,-⟩:=QU a;try simp at b))
  all_goals first
    | (refine bodyPost_ret (v:= .tuple #[(Qpn m gen prev).v,.bool (QjT m gen prev)]) ?_ rfl ⟨?_,?_⟩
       · (simp [results,Tryz.results56,go_sem,Qpn,QjT, *];done)
       · (rfl)
       · (exact Xe))
theorem Qvw(m:Md)(gen:Int)(w:World)(h0:0≤m.k):
    Cr 58 #[m.v,.int .i64 gen] w (.tuple #[(QjU m gen).v,.bool (Qd4 m gen)]):=by
  cases c:(m.k==3)<;>cases d:(m.g==gen)<;>cases f:m.r
  all_goals
    go_enter Tryz.func58,Tryz.ntmps58
    go_wp2_with ((go_at_call 73;(with_reducible refine(ZG _ _ _ _ _ Om).mono ?_);rintro e h ⟨rfl,a⟩;obtain⟨i,j,l,b,-⟩:=QU a;try simp at b))
    all_goals first
      | (refine bodyPost_ret (v:= .tuple #[m.v,.bool false]) ?_ rfl ⟨?_,?_⟩
         · (simp [results,Tryz.results58,go_sem, *];done)
         · (refine Qpl (x:=m) ?_ ?_<;>grind [QjU,Qd4,Md.right])
         · (exact Xe))
      | (refine bodyPost_ret (v:= .tuple #[(⟨3,m.p,gen,true⟩:Md).v,.bool true]) ?_ rfl ⟨?_,?_⟩
         · (simp [results,Tryz.results58,go_sem, *];done)
         · (refine Qpl (x:=⟨3,m.p,gen,true⟩) ?_ ?_<;>grind [QjU,Qd4,Md.right])
         · (exact Xe))
theorem Qpo(n:Int)(w:World):
    Calls Tryz.prog 89 #[.int .i64 n] w fun e w'=>e= .returned (.bool (decide (1≤n)&&decide (n<2147483648)))∧w=w':=by
  go_enter Tryz.func89,Tryz.ntmps89
  go_wp2
  all_goals(go_ret;exact⟨by simp_all<;>omega,rfl⟩)
theorem Qm0(n:Int)(w:World):
    Calls Tryz.prog 90 #[.int .i64 n] w fun e w'=>e= .returned (.bool (decide (0≤n)&&decide (n<6)))∧w=w':=by
  go_enter Tryz.func90,Tryz.ntmps90
  go_wp2
  all_goals(go_ret;exact⟨by simp_all<;>omega,rfl⟩)
theorem Qw2(m:Md)(w:World)(h0:0≤m.k):
    Cr 35 #[mv m.k m.p m.g m.r] w (.bool m.right):=by
  go_enter Tryz.func35,Tryz.ntmps35
  go_wp2_with (first| (go_at_call 89;(with_reducible refine(Qpo _ _).mono ?_);rintro e a ⟨rfl,rfl⟩)| (go_at_call 90;(with_reducible refine(Qm0 _ _).mono ?_);rintro e a ⟨rfl,rfl⟩))
  all_goals go_ret
  all_goals(refine⟨Qm ?_,?_⟩)
  all_goals first| (guard_target=~ Below _ _ _;(exact Xe))| grind [Md.right,Qg2]
structure Qfp(P:Program)(kt:TypeId)(K:Value→Prop):Prop where
 check: ∀(w:World) (em:Bool) {x:Value},K x→(Instr.checkKey em 10000 kt x).run P w= .ok () w
 find: ∀(w:World) {x:Value},K x→ ∀es:List MapEntry,(∀e∈es,K e.key)→
  ((Instr.findKey kt x es).run P w= .ok none w∧ ∀e∈es,e.key≠x)∨ ∃j e,(Instr.findKey kt x es).run P w= .ok (some (j,e.val)) w∧es[j]?=some e∧e.key=x
theorem Qye{P:Program}{kt:TypeId}(k:IntKind)(hu:P.underlying kt=some (.int k)):Qfp P kt (fun x=> ∃n:Int,x= .int k n)where
 check:=by
  rintro w o x ⟨n,rfl⟩;exact MapKept.run_checkKey hu (by simp [MapKept.IsKey]) o 9999
 find:=by
  rintro w x ⟨n,rfl⟩ a p;have m: ∀(a:List MapEntry) (i:Nat),(∀e∈a,∃n:Int,e.key= .int k n)→
    (Instr.findNow (.int k) (.int k n) a i=some none∧ ∀e∈a,e.key≠ .int k n)∨ ∃j e,Instr.findNow (.int k) (.int k n) a i=some (some (i+j,e.val))∧a[j]?=some e∧e.key= .int k n:=by
   intro a
   induction a with
   |nil=>intro i _;exact .inl ⟨rfl,by simp⟩
   |cons e a ih=>
    intro i h;obtain⟨l,b⟩:=h e (by simp)
    by_cases f:n=l
    ·subst f;exact .inr ⟨0,e,by simp [Instr.findNow,b,Instr.sameNow],rfl,b⟩
    ·rcases ih (i+1) (fun c d=>h c (by simp [d]))with⟨h1,h2⟩|⟨j,c,h1,h2,h3⟩
     ·have g:(n==l)=false:=by simpa using f
      refine .inl ⟨by simp [Instr.findNow,b,Instr.sameNow,g,h1],?_⟩;intro c d;rcases List.mem_cons.1 d with rfl|d
      ·rw [b];simp;exact fun h=>f h.symm
      ·exact h2 c d
     ·refine .inr ⟨j+1,c,?_,by simpa using h2,h3⟩;have g:(n==l)=false:=by simpa using f
      simp only [Instr.findNow,b,Instr.sameNow,if_true,g,h1]
      congr 3
      omega
  rcases m a 0 p with⟨h1,h2⟩|⟨j,e,h1,h2,h3⟩
  ·exact .inl ⟨MapKept.run_findKey hu h1,h2⟩
  ·exact .inr ⟨j,e,by have:=MapKept.run_findKey (P:=P) (w:=w) hu h1;simpa using this,h2,h3⟩
def ZE(K:Value→Prop)(w:World)(B:Nat)(f:Value→Option Value):Prop:=
 ∃(es:Array MapEntry) (clk:Nat),w.heap[B]?=some (.map es clk)∧(∀e∈es.toList,K e.key∧f e.key=some e.val)∧ ∀x v,f x=some v→ ∃e∈es.toList,e.key=x
theorem ZE.new{K:Value→Prop}(w:World):ZE K (w.alloc (.map #[] 0)) w.heap.size (fun _=>none):=
 ⟨#[],0,by show(w.heap.push _)[w.heap.size]?=_;simp,by simp,by simp⟩
theorem ZE.keep{K:Value→Prop}{w':World}{B:Nat}{f:Value→Option Value}(h:ZE K w B f)(hb:w'.heap[B]?=w.heap[B]?):ZE K w' B f:=by
 obtain⟨a,b,c,d,e⟩:=h;exact⟨a,b,hb.trans c,d,e⟩
section
variable {P:Program} {t kt et:TypeId} {K:Value→Prop}
theorem ZE.look(L:Qfp P kt K)(ht:P.underlying t=some (.map kt et)){B:Nat}{f:Value→Option Value}(h:ZE K w B f){x:Value}(hx:K x)(z:Value)(hz:(zeroValue et).run P w= .ok z w):
  (Instr.lookup t (.map (some B)) x false).run P w= .ok ((f x).getD z) w:=by
 obtain⟨b,n,c,d,l⟩:=h;rcases L.find w hx b.toList (fun e a=>(d e a).1)with⟨g1,g2⟩|⟨j,e,g1,g2,g3⟩
 ·have g:f x=none:=by
   cases k:f x with
   |none=>rfl
   |some v=>obtain⟨e,a,m⟩:=l x v k;exact absurd m (g2 e a)
  simp [Instr.lookup,run_underlying ht,MapKept.run_getObj_map c,L.check w _ hx,g1,hz,g,Result.andThen]
 ·have a:e∈b.toList:=List.mem_of_getElem? g2;have i:f x=some e.val:=by rw [←g3];exact(d e a).2
  simp [Instr.lookup,run_underlying ht,MapKept.run_getObj_map c,L.check w _ hx,g1,i,Result.andThen]
theorem ZE.store(L:Qfp P kt K)(ht:P.underlying t=some (.map kt et)){B:Nat}{f:Value→Option Value}(h:ZE K w B f){x:Value}(hx:K x)(hn:f x=none)(v:Value):
  ∃w':World,(Instr.mapUpdate t (.map (some B)) x v).run P w= .ok () w'∧ZE K w' B (fun y=>open Classical in if y=x then some v else f y)∧
   w'.os=w.os∧w'.tape=w.tape∧w'.output=w.output∧w'.heap.size=w.heap.size∧ ∀k,k≠B→w'.heap[k]?=w.heap[k]?:=by
 obtain⟨c,b,d,g,o⟩:=h;have n:B<w.heap.size:=by
  rcases Nat.lt_or_ge B w.heap.size with h|h
  ·exact h
  ·rw [Array.getElem?_eq_none h]at d;cases d
 rcases L.find w hx c.toList (fun e a=>(g e a).1)with⟨g1,g2⟩|⟨j,e,g1,g2,g3⟩
 ·refine⟨{w with heap:=w.heap.setIfInBounds B (.map (c.push {key:=x,val:=v,born:=b}) (b+1))},?_,⟨c.push {key:=x,val:=v,born:=b},b+1,?_,?_,?_⟩,rfl,rfl,rfl,?_,?_⟩
  ·simp [Instr.mapUpdate,run_underlying ht,MapKept.run_getObj_map d,L.check w _ hx,g1,MapKept.run_setObj_map _ d,Result.andThen]
  ·simp [n]
  ·intro e a;simp only [Array.toList_push,List.mem_append,List.mem_singleton]at a;rcases a with a|rfl
   ·refine⟨(g e a).1,?_⟩;simp only [if_neg (g2 e a)];exact(g e a).2
   ·exact⟨hx,by simp⟩
  ·intro y u m
   by_cases l:y=x
   ·exact⟨{key:=x,val:=v,born:=b},by simp,l.symm⟩
   ·simp only [if_neg l]at m;obtain⟨e,a,i⟩:=o y u m;exact⟨e,by simp [a],i⟩
  ·simp
  ·intro k i;simp [Ne.symm i]
 ·have a:e∈c.toList:=List.mem_of_getElem? g2;have:=(g e a).2;rw [g3,hn]at this
  cases this
end
section
variable {P:Program} {ops:Array Oper} {Q:Exit→Act→World→Prop} {md:Region.Mode}
theorem Qm1{l:Array Bool}{i:Nat}(h:i<l.size)(hf:l.getD i true=false):(l.setIfInBounds i true).toList.count false+1=l.toList.count false:=by
 have e:l[i]=false:=by simpa [Array.getD,h]using hf
 have a:i<l.toList.length:=by simpa using h
 rw [Array.toList_setIfInBounds,List.count_set a];have b:l.toList[i]=false:=by simpa using e
 have f:0<l.toList.count false:=List.count_pos_iff.2 (by rw [←b];exact List.getElem_mem a);have c:(if(false==false)=true then 1 else 0)=1:=rfl;have d:(if(true==false)=true then 1 else 0)=0:=rfl;rw [b,c,d];omega
theorem Qm2(Inv:Array Bool→Act→World→Prop)
  (step: ∀(listed:Array Bool) (a:Act) (w:World) (i:Nat),listed.size=ops.size→Inv listed a w→i∈Region.ready md ops listed→wpOp P ops Q i (Inv (listed.setIfInBounds i true)) a w)
  (done: ∀(listed:Array Bool) (a:Act) (w:World),listed.size=ops.size→Inv listed a w→Region.ready md ops listed= []→Q .normal a w):
  ∀(fuel:Nat) (listed:Array Bool) (a:Act) (w:World),listed.size=ops.size→listed.toList.count false≤fuel→Inv listed a w→wpAny P md ops Q fuel listed a w:=by
 intro fuel
 induction fuel with
 |zero=>
  intro listed a w b k f;have c:Region.ready md ops listed= []:=by
   unfold Region.ready;rw [List.filter_eq_nil_iff];intro i m;have j:i<listed.size:=by rw [b];simpa using m
   have g:listed.getD i true≠false:=by
    intro h;have e:listed[i]=false:=by simpa [Array.getD,j]using h
    have:0<listed.toList.count false:=List.count_pos_iff.2 (by rw [←e];simp);omega
   simp at g;simp [g]
  exact⟨c,done listed a w b f c⟩
 |succ fuel ih=>
  intro listed a w b k f;refine⟨fun c=>done listed a w b f c,fun i hm=> ?_⟩;refine wpOp_mono (fun a' w' h'=> ?_) (step listed a w i b f hm);have d:=hm;unfold Region.ready at d;simp only [List.mem_filter,List.mem_range,Bool.and_eq_true,Bool.not_eq_true']at d;have:=Qm1 (l:=listed) (i:=i) (by rw [b];exact d.1) d.2.1;exact ih _ a' w' (by simpa using b) Om h'
theorem QbJ{id:Nat}(hm:P.follows .mixedOrders=true)(Inv:Array Bool→Act→World→Prop)
  (start:Inv (Array.replicate ops.size false) a w.drew)
  (step: ∀(listed:Array Bool) (a:Act) (w:World) (i:Nat),listed.size=ops.size→Inv listed a w→i∈Region.ready .any ops listed→wpOp P ops Q i (Inv (listed.setIfInBounds i true)) a w)
  (done: ∀(listed:Array Bool) (a:Act) (w:World),listed.size=ops.size→Inv listed a w→Region.ready .any ops listed= []→Q .normal a w):
  (Code.region id ops true).wp P Q a w:=
 wp_region_any hm (Qm2 Inv step done _ _ _ _ (by simp) (by simp) start)
end
def Qat(w w':World):Prop:=(∀b o v,w.cell? ⟨b,o,none⟩=some v→w'.cell? ⟨b,o,none⟩=some v)∧w.heap.size≤w'.heap.size
theorem Qat.rf(w:World):Qat w w:=⟨fun _ _ _ h=>h,Nat.le_refl _⟩
theorem Qat.tr{a b c:World}(h:Qat a b)(k:Qat b c):Qat a c:=⟨fun _ _ _ e=>k.1 _ _ _ (h.1 _ _ _ e),Nat.le_trans h.2 k.2⟩
theorem Qat.of{w':World}(h:Below w.heap.size w w'):Qat w w':=
 ⟨fun b o _ e=>(h.cell (p:=⟨b,o,none⟩) (World.block_lt_of_cell? w _ e)).trans e,h.size⟩
abbrev J7:=World→Value→Prop
def Qc9(p:J7):Prop:= ∀w w' v,Qat w w'→p w v→p w' v
structure Qfq(P:Program)where
 t:TypeId
 kt:TypeId
 et:TypeId
 K:Value→Prop
 im:Nat
 dm:Nat
 D:List (Nat×Nat×J7)
 C:List (Nat×Nat×Nat)
 I:List (Nat×Value×J7)
namespace Qfq
variable{a:Act}{listed:Array Bool}{w:World}
variable {P:Program}
def Free(L:Qfq P)(s:Nat):Prop:=(∀x∈L.D,x.2.1≠s)∧(∀x∈L.C,x.2.1≠s)∧s≠L.dm
def Map(L:Qfq P)(w0:World)(listed:Array Bool)(a:Act)(w:World):Prop:=
 ∃B f,a.tmps.getD L.dm undef= .map (some B)∧w0.heap.size≤B∧ZE L.K w B f∧
  (∀x∈L.I,listed.getD x.1 false=true→ ∃v,f x.2.1=some v∧x.2.2 w v)∧
  (∀k v,f k=some v→ ∃x∈L.I,listed.getD x.1 false=true∧x.2.1=k)
structure Inv(L:Qfq P)(a0:Act)(w0:World)(listed:Array Bool)(a:Act)(w:World):Prop where
 defers:a.defers=a0.defers
 size:a.tmps.size=a0.tmps.size
 ext:Below w0.heap.size w0 w
 free: ∀s,L.Free s→a.tmps.getD s undef=a0.tmps.getD s undef
 vals: ∀x∈L.D,listed.getD x.1 false=true→x.2.2 w (a.tmps.getD x.2.1 undef)
 cops: ∀x∈L.C,listed.getD x.1 false=true→a.tmps.getD x.2.1 undef=a.tmps.getD L.dm undef
 map:listed.getD L.im false=true→L.Map w0 listed a w
 later:(∀x∈L.C,listed.getD x.1 false=true→listed.getD L.im false=true)∧ ∀x∈L.I,listed.getD x.1 false=true→listed.getD L.im false=true
structure Fits(L:Qfq P)(ops:Array Oper)(Q:Exit→Act→World→Prop)(a0:Act)(w0:World):Prop where
 law:Qfp P L.kt L.K
 ty:P.underlying L.t=some (.map L.kt L.et)
 cover: ∀i,i<ops.size→i=L.im∨(∃x∈L.D,x.1=i)∨(∃x∈L.C,x.1=i)∨(∃x∈L.I,x.1=i)
 acyclic: ∀(i:Nat) (o:Oper),ops[i]?=some o→ ∀e∈o.after,e.on<i
 slots:(∀x∈L.D,x.2.1<a0.tmps.size∧x.2.1≠L.dm∧ ∀y∈L.C,y.2.1≠x.2.1)∧(∀x∈L.C,x.2.1<a0.tmps.size∧x.2.1≠L.dm)∧L.dm<a0.tmps.size
 dd: ∀x∈L.D,∀y∈L.D,x.2.1=y.2.1→x.1=y.1∧x.2.2=y.2.2
 cc: ∀x∈L.C,∀y∈L.C,x.2.1=y.2.1→x.1=y.1
 ii: ∀x∈L.I,∀y∈L.I,x.2.1=y.2.1→x.1=y.1
 i2: ∀x∈L.I,∀y∈L.I,x.1=y.1→x=y
 apart:(∀x∈L.D,x.1≠L.im∧(∀y∈L.C,y.1≠x.1)∧(∀y∈L.I,y.1≠x.1))∧(∀x∈L.C,x.1≠L.im∧(∀y∈L.I,y.1≠x.1))∧(∀x∈L.I,x.1≠L.im)
 d1: ∀x∈L.D,∀y∈L.D,x.1=y.1→x=y
 c1: ∀x∈L.C,∀y∈L.C,x.1=y.1→x=y
 stable:(∀x∈L.D,Qc9 x.2.2)∧(∀x∈L.I,Qc9 x.2.2)
 hmk: ∃o,ops[L.im]?=some o∧o.dst=some L.dm∧o.guard=none∧o.op= .makeMap L.t none
 hD: ∀x∈L.D,∃o,ops[x.1]?=some o∧o.guard=none∧ ∀(a:Act) (w:World) (Kk:Act→World→Prop),(∀s,L.Free s→a.tmps.getD s undef=a0.tmps.getD s undef)→Below w0.heap.size w0 w→
  (∀v w',Below w.heap.size w w'→x.2.2 w' v→Kk (a.put (some x.2.1) v) w')→o.wp P a w Kk Q
 hC: ∀x∈L.C,∃o,ops[x.1]?=some o∧o.dst=some x.2.1∧o.guard=none∧(o.op= .move (.tmp x.2.2)∨o.op= .assign (.tmp x.2.2))∧
  ((x.2.2=L.dm∧ ∃e∈o.after,e.on=L.im∧Region.binds .any e=true)∨ ∃y∈L.C,y.2.1=x.2.2∧ ∃e∈o.after,e.on=y.1∧Region.binds .any e=true)
 hI: ∀x∈L.I,∃o k v,ops[x.1]?=some o∧o.dst=none∧o.guard=none∧o.op= .insert L.t (.tmp L.dm) k v∧L.K x.2.1∧(∃e∈o.after,e.on=L.im∧Region.binds .any e=true)∧
  (∀(a:Act) (w:World),(∀y∈L.D,(∃e∈o.after,e.on=y.1∧Region.binds .any e=true)→y.2.2 w (a.tmps.getD y.2.1 undef))→(∀s,L.Free s→a.tmps.getD s undef=a0.tmps.getD s undef)→Below w0.heap.size w0 w→a.eval k=x.2.1∧x.2.2 w (a.eval v))
theorem getD_put{d s:Nat}{v:Value}:(a.put (some d) v).tmps.getD s undef=if d=s∧s<a.tmps.size then v else a.tmps.getD s undef:=by
 simp only [Act.put,Array.getD_eq_getD_getElem?,Array.getElem?_setIfInBounds]
 by_cases h:d=s
 ·subst h
  by_cases b:d<a.tmps.size<;>simp [b]
 ·simp [h]
theorem getD_set{l:Array Bool}{i j:Nat}:(l.setIfInBounds i true).getD j false=if i=j∧j<l.size then true else l.getD j false:=by
 simp only [Array.getD_eq_getD_getElem?,Array.getElem?_setIfInBounds]
 by_cases h:i=j
 ·subst h
  by_cases a:i<l.size<;>simp [a]
 ·simp [h]
theorem wpOp_some{ops:Array Oper}{Q:Exit→Act→World→Prop}{i:Nat}{o:Oper}{K:Act→World→Prop}(ho:ops[i]?=some o)(hg:o.guard=none)(h:o.wp P a w K Q):wpOp P ops Q i K a w:=by
 unfold wpOp;rw [ho];simp only [Region.wanted,hg,if_true];exact Or.inl h
section
variable {L:Qfq P} {ops:Array Oper} {Q:Exit→Act→World→Prop} {a0:Act} {w0:World}
theorem Map.mono{a':Act}{w':World}(F:L.Fits ops Q a0 w0)(h:L.Map w0 listed a w)(hw:Below w.heap.size w w')(ha:a'.tmps.getD L.dm undef=a.tmps.getD L.dm undef):L.Map w0 listed a' w':=by
 obtain⟨B,f,d,e,b,g,i⟩:=h;have c:B<w.heap.size:=by
  obtain⟨l,m,h,_⟩:=b;rcases Nat.lt_or_ge B w.heap.size with h'|h'
  ·exact h'
  ·rw [Array.getElem?_eq_none h']at h;cases h
 refine⟨B,f,ha.trans d,e,b.keep (hw.block B c),fun x hx hl=> ?_,i⟩;obtain⟨v,j,k⟩:=g x hx hl;exact⟨v,j,F.stable.2 x hx _ _ _ (Qat.of hw) k⟩
theorem ready_spec{i:Nat}{o:Oper}(h:i∈Region.ready .any ops listed)(ho:ops[i]?=some o):
  i<ops.size∧listed.getD i true=false∧ ∀e∈o.after,Region.binds .any e=true→listed.getD e.on false=true:=by
 unfold Region.ready at h;simp only [List.mem_filter,List.mem_range,Bool.and_eq_true,Bool.not_eq_true']at h;refine⟨h.1,h.2.1,fun e he hb=> ?_⟩;have:=h.2.2;rw [ho]at this;simp only [Option.map_some,Option.getD_some,Array.all_eq_true_iff_forall_mem]at this;have:=this e he;simpa [hb]using this
theorem exec_make{o:Oper}{t:TypeId}(hop:o.op= .makeMap t none):(execOp a.eval o).run P w= .ok (.value (.map (some w.heap.size))) (w.alloc (.map #[] 0)):=by
 obtain⟨b,c,d,e,f,g⟩:=o;subst hop;have:=run_makeMap (P:=P) t w;simp [execOp,this,Result.andThen]
theorem exec_copy{o:Oper}{s:Nat}(hop:o.op= .move (.tmp s)∨o.op= .assign (.tmp s)):(execOp a.eval o).run P w= .ok (.value (a.tmps.getD s undef)) w:=by
 obtain⟨b,c,d,e,f,g⟩:=o;rcases hop with hop|hop<;>(subst hop;rfl)
theorem exec_insert{w':World}{o:Oper}{t:TypeId}{m k v:Operand}(hop:o.op= .insert t m k v)(h:(Instr.mapUpdate t (a.eval m) (a.eval k) (a.eval v)).run P w= .ok () w'):
  (execOp a.eval o).run P w= .ok .skip w':=by
 obtain⟨b,c,d,e,f,g⟩:=o;subst hop;simp [execOp,h,Result.andThen]
theorem lists{i:Nat}: ∀j,(listed.setIfInBounds i true).getD j false=true→j=i∨listed.getD j false=true:=by
 intro j a;rw [getD_set]at a
 split at a
 ·rename_i h;exact .inl h.1.symm
 ·exact .inr a
theorem listed_old{i:Nat}: ∀j,listed.getD j false=true→(listed.setIfInBounds i true).getD j false=true:=by
 intro j a;rw [getD_set]
 split
 ·rfl
 ·exact a
theorem step_make(F:L.Fits ops Q a0 w0)(hs:listed.size=ops.size)(h:L.Inv a0 w0 listed a w)(hlt:L.im<ops.size)(hfr:listed.getD L.im false=false):
  wpOp P ops Q L.im (L.Inv a0 w0 (listed.setIfInBounds L.im true)) a w:=by
 obtain⟨o,d,f,g,i⟩:=F.hmk;refine wpOp_some d g ?_;unfold Oper.wp;rw [exec_make i,Oper.upon_value,f];have b:Below w.heap.size w (w.alloc (.map #[] 0)):=(Below.refl _ _).alloc (Nat.le_refl _) _;have c:(listed.setIfInBounds L.im true).getD L.im false=true:=by rw [getD_set,if_pos ⟨rfl,Om⟩]
 refine⟨h.defers,by simpa [Act.put]using h.size,h.ext.trans (b.mono h.ext.size),fun s hf=> ?_,fun x hx hl=> ?_,fun x hx hl=> ?_,fun _=> ?_,fun _ _ _=>c,fun _ _ _=>c⟩
 ·rw [getD_put,if_neg (fun e=>hf.2.2 e.1.symm)];exact h.free s hf
 ·rw [getD_put,if_neg (fun e=>(F.slots.1 x hx).2.1 e.1.symm)];rcases lists _ hl with he|hl
  ·exact absurd he (F.apart.1 x hx).1
  ·exact F.stable.1 x hx _ _ _ (Qat.of b) (h.vals x hx hl)
 ·exfalso;rcases lists _ hl with he|hl
  ·exact(F.apart.2.1 x hx).1 he
  ·rw [h.later.1 x hx hl]at hfr;cases hfr
 ·refine⟨w.heap.size,fun _=>none,?_,h.ext.size,ZE.new w,fun x hx hl=> ?_,fun k v hk=>by cases hk⟩
  ·rw [getD_put,if_pos ⟨rfl,by rw [h.size];exact F.slots.2.2⟩]
  ·exfalso;rcases lists _ hl with he|hl
   ·exact F.apart.2.2 x hx he
   ·rw [h.later.2 x hx hl]at hfr;cases hfr
theorem step_value(F:L.Fits ops Q a0 w0)(h:L.Inv a0 w0 listed a w){x:Nat×Nat×J7}(hx:x∈L.D):
  wpOp P ops Q x.1 (L.Inv a0 w0 (listed.setIfInBounds x.1 true)) a w:=by
 obtain⟨o,l,m,n⟩:=F.hD x hx;refine wpOp_some l m (n a w _ h.free h.ext ?_);intro v A g p;have i:(a.put (some x.2.1) v).tmps.getD L.dm undef=a.tmps.getD L.dm undef:=by
  rw [getD_put,if_neg (fun e=>(F.slots.1 x hx).2.1 e.1)]
 have j:L.im≠x.1:=fun e=>(F.apart.1 x hx).1 e.symm;have d:(listed.setIfInBounds x.1 true).getD L.im false=listed.getD L.im false:=by
  rw [getD_set,if_neg (fun e=>j e.1.symm)]
 refine⟨h.defers,by simpa [Act.put]using h.size,h.ext.trans (g.mono h.ext.size),fun s hf=> ?_,fun y c b=> ?_,fun y c b=> ?_,fun b=> ?_,fun y c b=> ?_,fun y c b=> ?_⟩
 ·rw [getD_put,if_neg (fun e=>hf.1 x hx e.1)];exact h.free s hf
 ·rw [getD_put]
  split
  ·rename_i e
   have:=F.dd x hx y c e.1;rw [←this.2];exact p
  ·rename_i e
   rcases lists _ b with he|b
   ·have:=F.d1 y c x hx he;subst this;exact absurd ⟨rfl,by rw [h.size];exact(F.slots.1 y c).1⟩ e
   ·exact F.stable.1 y c _ _ _ (Qat.of g) (h.vals y c b)
 ·rw [i,getD_put,if_neg (fun e=>(F.slots.1 x hx).2.2 y c e.1.symm)];rcases lists _ b with he|b
  ·exact absurd he ((F.apart.1 x hx).2.1 y c)
  ·exact h.cops y c b
 ·rw [d]at b;obtain⟨B,f,q,r,t,u,z⟩:=Map.mono F (h.map b) g i;refine⟨B,f,q,r,t,fun y c b=> ?_,fun k v hk=> ?_⟩
  ·rcases lists _ b with he|b
   ·exact absurd he ((F.apart.1 x hx).2.2 y c)
   ·exact u y c b
  ·obtain⟨y,c,b,e⟩:=z k v hk;exact⟨y,c,listed_old _ b,e⟩
 ·rw [d];rcases lists _ b with he|b
  ·exact absurd he ((F.apart.1 x hx).2.1 y c)
  ·exact h.later.1 y c b
 ·rw [d];rcases lists _ b with he|b
  ·exact absurd he ((F.apart.1 x hx).2.2 y c)
  ·exact h.later.2 y c b
theorem step_copy(F:L.Fits ops Q a0 w0)(h:L.Inv a0 w0 listed a w){x:Nat×Nat×Nat}(hx:x∈L.C)(hr:x.1∈Region.ready .any ops listed):
  wpOp P ops Q x.1 (L.Inv a0 w0 (listed.setIfInBounds x.1 true)) a w:=by
 obtain⟨o,p,r,t,u,z⟩:=F.hC x hx;have l:=(ready_spec hr p).2.2;have j:a.tmps.getD x.2.2 undef=a.tmps.getD L.dm undef∧listed.getD L.im false=true:=by
  rcases z with⟨e,ed,d,g,i⟩|⟨y,c,e,ed,d,g,i⟩
  ·rw [e];exact⟨rfl,by rw [←g];exact l ed d i⟩
  ·have b:listed.getD y.1 false=true:=by rw [←g];exact l ed d i
   rw [←e];exact⟨h.cops y c b,h.later.1 y c b⟩
 refine wpOp_some p t ?_;unfold Oper.wp;rw [exec_copy u,Oper.upon_value,r,j.1];have m:(a.put (some x.2.1) (a.tmps.getD L.dm undef)).tmps.getD L.dm undef=a.tmps.getD L.dm undef:=by
  rw [getD_put,if_neg (fun e=>(F.slots.2.1 x hx).2 e.1)]
 have q:L.im≠x.1:=fun e=>(F.apart.2.1 x hx).1 e.symm;have n:(listed.setIfInBounds x.1 true).getD L.im false=listed.getD L.im false:=by
  rw [getD_set,if_neg (fun e=>q e.1.symm)]
 refine⟨h.defers,by simpa [Act.put]using h.size,h.ext,fun s hf=> ?_,fun y c b=> ?_,fun y c b=> ?_,fun b=> ?_,fun y c b=> ?_,fun y c b=> ?_⟩
 ·rw [getD_put,if_neg (fun e=>hf.2.1 x hx e.1)];exact h.free s hf
 ·rw [getD_put,if_neg (fun e=>(F.slots.1 y c).2.2 x hx e.1)];rcases lists _ b with he|b
  ·exact absurd he.symm ((F.apart.1 y c).2.1 x hx)
  ·exact h.vals y c b
 ·rw [m,getD_put]
  split
  ·rfl
  ·rename_i e
   rcases lists _ b with he|b
   ·have:=F.c1 y c x hx he;subst this;exact absurd ⟨rfl,by rw [h.size];exact(F.slots.2.1 y c).1⟩ e
   ·exact h.cops y c b
 ·obtain⟨B,f,d,g,i,A,D⟩:=h.map j.2;refine⟨B,f,m.trans d,g,i,fun y c b=> ?_,fun k v hk=> ?_⟩
  ·rcases lists _ b with he|b
   ·exact absurd he ((F.apart.2.1 x hx).2 y c)
   ·exact A y c b
  ·obtain⟨y,c,b,e⟩:=D k v hk;exact⟨y,c,listed_old _ b,e⟩
 ·rw [n];exact j.2
 ·rw [n];exact j.2
theorem step_insert(F:L.Fits ops Q a0 w0)(h:L.Inv a0 w0 listed a w){x:Nat×Value×J7}(hx:x∈L.I)(hr:x.1∈Region.ready .any ops listed):
  wpOp P ops Q x.1 (L.Inv a0 w0 (listed.setIfInBounds x.1 true)) a w:=by
 obtain⟨o,k,v,H,W,X,Y,Z,⟨ed,e1,e2,e3⟩,a1⟩:=F.hI x hx;have p:=ready_spec hr H;have z:=p.2.2;have q:listed.getD L.im false=true:=by rw [←e2];exact z ed e1 e3
 obtain⟨hk,hp⟩:=a1 a w (fun y d ⟨e,j,s,l⟩=>h.vals y d (by rw [←s];exact z e j l)) h.free h.ext;obtain⟨B,f,j,s,l,h4,J⟩:=h.map q;have A:listed.getD x.1 false=false:=by
  have:=p.2.1;simp only [Array.getD_eq_getD_getElem?]at this⊢
  cases D:listed[x.1]? with
  |none=>rw [D]at this;cases this
  |some b=>rw [D]at this;simpa using this
 have N:x.1<listed.size:=by
  have:=p.2.1;simp only [Array.getD_eq_getD_getElem?]at this;rcases Nat.lt_or_ge x.1 listed.size with h|h
  ·exact h
  ·rw [Array.getElem?_eq_none h]at this;cases this
 have O:f x.2.1=none:=by
  cases V:f x.2.1 with
  |none=>rfl
  |some u=>
   obtain⟨y,d,g,e⟩:=J _ _ V;rw [F.ii y d x hx e,A]at g
   cases g
 obtain⟨w',a2,hm,a3,a4,a5,K,M⟩:=ZE.store F.law F.ty l Z O (a.eval v);have R: ∃m n,w.heap[B]?=some (.map m n):=by
  obtain⟨m,n,h,_⟩:=l;exact⟨m,n,h⟩
 have r:Qat w w':=by
  refine⟨fun b o u hc=> ?_,by rw [K];exact Nat.le_refl _⟩
  by_cases E:b=B
  ·subst E;obtain⟨m,n,h⟩:=R;unfold World.cell? at hc;simp only [h]at hc
   cases hc
  ·exact(World.cell?_of_block (w:=w) (a:=⟨b,o,none⟩) (M b E)).trans hc
 have S:Below w0.heap.size w0 w':=by
  refine⟨a3.trans h.ext.os,a4.trans h.ext.tape,a5.trans h.ext.output,by rw [K];exact h.ext.size,fun i hi=> ?_⟩;rw [M i Om];exact h.ext.block i hi
 refine wpOp_some H X ?_;unfold Oper.wp;rw [exec_insert (P:=P) Y (w':=w') (by rw [hk];show(Instr.mapUpdate L.t (a.tmps.getD L.dm undef) x.2.1 (a.eval v)).run P w=_;rw [j];exact a2),Oper.upon_skip,W];show L.Inv a0 w0 _ a w';have T:L.im≠x.1:=fun e=>F.apart.2.2 x hx e.symm;have C:(listed.setIfInBounds x.1 true).getD L.im false=listed.getD L.im false:=by
  rw [getD_set,if_neg (fun e=>T e.1.symm)]
 refine⟨h.defers,h.size,S,h.free,fun y d g=> ?_,fun y d g=> ?_,fun _=> ?_,fun y d g=> ?_,fun y d g=> ?_⟩
 ·rcases lists _ g with he|g
  ·exact absurd he.symm ((F.apart.1 y d).2.2 x hx)
  ·exact F.stable.1 y d _ _ _ r (h.vals y d g)
 ·rcases lists _ g with he|g
  ·exact absurd he.symm ((F.apart.2.1 y d).2 x hx)
  ·exact h.cops y d g
 ·refine⟨B,_,j,s,hm,fun y d g=> ?_,fun c u hc=> ?_⟩
  ·rcases lists _ g with he|g
   ·have:=F.i2 y d x hx he;subst this;exact⟨a.eval v,by simp,F.stable.2 y d _ _ _ r hp⟩
   ·have U:y.2.1≠x.2.1:=by
     intro e;rw [F.ii y d x hx e,A]at g
     cases g
    obtain⟨u,g1,g2⟩:=h4 y d g;exact⟨u,by simp only [if_neg U];exact g1,F.stable.2 y d _ _ _ r g2⟩
  ·by_cases G:c=x.2.1
   ·exact⟨x,hx,by rw [getD_set,if_pos ⟨rfl,N⟩],G.symm⟩
   ·simp only [if_neg G]at hc;obtain⟨y,d,g,e⟩:=J c u hc;exact⟨y,d,listed_old _ g,e⟩
 ·rw [C];exact q
 ·rw [C];exact q
theorem all_listed(F:L.Fits ops Q a0 w0)(hs:listed.size=ops.size)(hr:Region.ready .any ops listed= []): ∀i,i<ops.size→listed.getD i false=true:=by
 intro i
 induction i using Nat.strongRecOn with
 |_ i ih=>
  intro a
  cases f:listed.getD i false with
  |true=>rfl
  |false=>
   exfalso;have b:i∈Region.ready .any ops listed:=by
    unfold Region.ready;simp only [List.mem_filter,List.mem_range,Bool.and_eq_true,Bool.not_eq_true'];refine⟨a,?_,?_⟩
    ·simpa [Array.getD,hs,a]using f
    ·have c:ops[i]?=some ops[i]:=Array.getElem?_eq_getElem a;rw [c];simp only [Option.map_some,Option.getD_some,Array.all_eq_true_iff_forall_mem];intro e g;have d:=F.acyclic i _ c e g;rw [ih e.on d Om];simp
   rw [hr]at b
   cases b
theorem wp(F:L.Fits ops Q a0 w0.drew){id:Nat}(hm:P.follows .mixedOrders=true)
  (done: ∀(listed:Array Bool) (a:Act) (w:World),(∀i,i<ops.size→listed.getD i false=true)→L.Inv a0 w0.drew listed a w→Q .normal a w):
  (Code.region id ops true).wp P Q a0 w0:=by
 refine QbJ hm (L.Inv a0 w0.drew) ?_ ?_ ?_
 ·have e: ∀j,(Array.replicate ops.size false).getD j false=false:=by
   intro j;simp only [Array.getD_eq_getD_getElem?,Array.getElem?_replicate]
   split<;>rfl
  refine⟨rfl,rfl,Below.refl _ _,fun _ _=>rfl,fun x _ hl=> ?_,fun x _ hl=> ?_,fun hl=> ?_,fun x _ hl=> ?_,fun x _ hl=> ?_⟩<;>(rw [e]at hl;cases hl)
 ·intro listed a w i c h d;have b:=d;unfold Region.ready at b;simp only [List.mem_filter,List.mem_range,Bool.and_eq_true,Bool.not_eq_true']at b;rcases F.cover i b.1 with rfl|⟨x,hx,rfl⟩|⟨x,hx,rfl⟩|⟨x,hx,rfl⟩
  ·exact step_make F c h b.1 (by have:=b.2.1;simpa [Array.getD,c,b.1]using this)
  ·exact step_value F h hx
  ·exact step_copy F h hx d
  ·exact step_insert F h hx d
 ·intro listed a w c h f;exact done listed a w (all_listed F c f) h
end
end Qfq
abbrev av(k f g:Int)(s n r:Bool):Value:= .agg #[.int .u8 k,.int .i64 f,.int .i64 g,.bool s,.bool n,.bool r]
abbrev cv(d x k t g:Int):Value:= .agg #[.int .u8 d,.int .u8 x,.int .u8 k,.int .i64 t,.int .i64 g]
section
variable (n:Nat)
@[go_sem] theorem Qyf:(n=n+1)=False:=by simp;try omega
@[go_sem] theorem Qw3:(n+1=n)=False:=by simp;try omega
@[go_sem] theorem Qyg:(n=n+1+1)=False:=by simp;try omega
@[go_sem] theorem Qw4:(n+1+1=n)=False:=by simp;try omega
@[go_sem] theorem Qyh:(n=n+1+1+1)=False:=by simp;try omega
@[go_sem] theorem Qw5:(n+1+1+1=n)=False:=by simp;try omega
@[go_sem] theorem Qyi:(n=n+1+1+1+1)=False:=by simp;try omega
@[go_sem] theorem Qw6:(n+1+1+1+1=n)=False:=by simp;try omega
@[go_sem] theorem Qyj:(n=n+1+1+1+1+1)=False:=by simp;try omega
@[go_sem] theorem Qw7:(n+1+1+1+1+1=n)=False:=by simp;try omega
@[go_sem] theorem Qyk:(n=n+1+1+1+1+1+1)=False:=by simp;try omega
@[go_sem] theorem Qw8:(n+1+1+1+1+1+1=n)=False:=by simp;try omega
end
abbrev UpE(B:Nat)(w W w':World):Prop:=(∀b o,Lt b W→b≠B→w'.cell? ⟨b,o,none⟩=W.cell? ⟨b,o,none⟩)∧(∀b o,Lt b W→w'.frozen? ⟨b,o,none⟩=W.frozen? ⟨b,o,none⟩)∧(∀b,Lt b W→Lt b w')∧W.heap.size≤w'.heap.size∧Ext w w'
theorem UpE.start{B:Nat}{W:World}(h:Ext w W):UpE B w W W.drew:=⟨fun _ _ _ _=>rfl,fun _ _ _=>rfl,fun _ h=>h,Nat.le_refl _,Ext.dr h⟩
theorem UpE.next{B:Nat}{W w1 w2:World}(h:UpE B w W w1)(hb:Ext w1 w2):UpE B w W w2:=
  ⟨fun b o hl hn=>(hb.cell (p:=⟨b,o,none⟩) (h.2.2.1 b hl)).trans (h.1 b o hl hn),fun b o hl=>(hb.frozen (p:=⟨b,o,none⟩) (h.2.2.1 b hl)).trans (h.2.1 b o hl),fun b hl=>Xl (h.2.2.1 b hl) hb.size,Xt h.2.2.2.1 hb.size,Ext.tr h.2.2.2.2 hb⟩
theorem UpE.st{B:Nat}{W w1:World}{o:Nat}(v:Value)(hB:w.heap.size≤B)(h:UpE B w W w1):UpE B w W (w1.setCell ⟨B,o,none⟩ v):=
  ⟨fun b o' hl hn=>(World.cell?_of_block (w:=w1) (a:=⟨b,o',none⟩) (Below.heap_setCell _ _ _ _ hn)).trans (h.1 b o' hl hn),fun b o' hl=>(World.frozen?_setCell _ _ _ _).trans (h.2.1 b o' hl),fun b hl=>by rw [Zk];exact h.2.2.1 b hl,by simpa [World.setCell]using h.2.2.2.1,Ext.st v hB h.2.2.2.2⟩
def clo(f:Nat)(n:Int):J7:=fun w v=> ∃b,v= .func (.func f) #[] #[.pointer (some ⟨b,0,none⟩)]∧Lt b w∧w.cell? ⟨b,0,none⟩=some (.int .u8 n)
def isV(u:Value):J7:=fun _ v=>v=u
theorem QeJ(f:Nat)(n:Int):Qc9 (clo f n):=by
  rintro w g v a ⟨b,c,d,e⟩;exact⟨b,c,Xl d a.2,a.1 _ _ _ e⟩
theorem QeK(u:Value):Qc9 (isV u):=fun _ _ _ _ h=>h
def QlO(f:Nat)(n:Int)(w:World)(e:Ending)(w':World):Prop:= ∃b,e= .returned (.func (.func f) #[] #[.pointer (some ⟨b,0,none⟩)])∧Lt b w'∧w'.cell? ⟨b,0,none⟩=some (.int .u8 n)∧Ext w w'
theorem J8(n:Int)(w:World):Calls Tryz.prog 183 #[.int .u8 n] w (QlO 223 n w):=by
  go_enter Tryz.func183,Tryz.ntmps183
  go_wp2;go_ret;exact⟨w.heap.size,rfl,by simp [go_sem],by simp [go_sem],by exact Xe⟩
theorem Z9(n:Int)(w:World):Calls Tryz.prog 111 #[.int .u8 n] w (QlO 187 n w):=by
  go_enter Tryz.func111,Tryz.ntmps111
  go_wp2;go_ret;exact⟨w.heap.size,rfl,by simp [go_sem],by simp [go_sem],by exact Xe⟩
theorem QfY(m:Md)(k f g:Int)(s n r:Bool)(x:Int)(b:Nat)(w:World)(hL:Lt b w)(hx:w.cell? ⟨b,0,none⟩=some (.int .u8 x)):
    Cr 223 #[m.v,av k f g s n r,.pointer (some ⟨b,0,none⟩)] w (cv 3 0 x m.p m.g):=by
  go_enter Tryz.func223,Tryz.ntmps223
  go_wp2_with (fail)
  all_goals first
    | (refine bodyPost_ret (v:=cv 3 0 x m.p m.g) ?_ rfl ⟨?_,?_⟩
       · (simp [results,Tryz.results223,go_sem, *];done)
       · (rfl)
       · (exact Xe))
theorem Z0(m:Md)(k f g:Int)(s n r:Bool)(x:Int)(b:Nat)(w:World)(hL:Lt b w)(hx:w.cell? ⟨b,0,none⟩=some (.int .u8 x)):
    Cr 187 #[m.v,av k f g s n r,.pointer (some ⟨b,0,none⟩)] w (cv 0 x 0 0 0):=by
  go_enter Tryz.func187,Tryz.ntmps187
  go_wp2_with (fail)
  all_goals first
    | (refine bodyPost_ret (v:=cv 0 x 0 0 0) ?_ rfl ⟨?_,?_⟩
       · (simp [results,Tryz.results187,go_sem, *];done)
       · (rfl)
       · (exact Xe))
def QlP(r:Bool):Int:=if r then 2 else 0
def QlQ(r:Bool):Int:=if r then 0 else 18
theorem JC(m:Md)(k f g:Int)(s n r:Bool)(w:World):
    Cr 184 #[m.v,av k f g s n r] w (cv (QlP r) (QlQ r) 0 0 0):=by
  cases r
  · go_enter Tryz.func184,Tryz.ntmps184
    go_wp2;refine QW ?_;intro W o p q t b
    (have l:Ext w W:=Ext.of (w:=w) b Xe);go_region_held3 (UpE (w.heap.size+1+1) w W) (first| with_reducible exact UpE.start (by assumption)| with_reducible exact UpE.next (by assumption) (by assumption)| ((repeat((with_reducible refine UpE.st _ ?_ ?_);focus(first| omega| (simp;omega)| simp)));with_reducible assumption)) (first| (go_at_call 111;(with_reducible refine(Z9 _ _).mono ?_);rintro e c ⟨u,rfl,d,h,a⟩;obtain⟨x,y,z,i,-⟩:=QU a;try simp at i)| (go_at_call 187;(with_reducible refine(Z0 ⟨_,_,_,_⟩ _ _ _ _ _ _ _ _ _ d h).mono ?_);rintro e c ⟨rfl,a⟩;obtain⟨A,B,C,j,-⟩:=QU a;try simp at j))
    all_goals
      go_wp2;refine bodyPost_ret (v:=cv 0 18 0 0 0) ?_ rfl ⟨rfl,?_⟩
      · (simp [results,Tryz.results184,go_sem, *];done)
      · (exact Xe)
  · go_enter Tryz.func184,Tryz.ntmps184
    go_wp2;refine bodyPost_ret (v:=cv 2 0 0 0 0) ?_ rfl ⟨rfl,?_⟩
    · (simp [results,Tryz.results184,go_sem, *];done)
    · (exact Xe)
structure Ac where
  d:Int
  x:Int
  k:Int
  t:Int
  g:Int
  deriving DecidableEq
abbrev Ac.v(c:Ac):Value:=cv c.d c.x c.k c.t c.g
def Y4(r:Bool):Ac:=⟨QlP r,QlQ r,0,0,0⟩
def Zs(why:Int):Ac:=⟨0,why,0,0,0⟩
def J9(m:Md)(f g:Int):Bool:=decide (m.g≤g)&&decide (0≤f)&&decide (f<6)
def Qau(m:Md)(f g:Int):Ac:=if J9 m f g then⟨3,0,4,f,g⟩else Zs 17
def QeL(m:Md)(g:Int)(r:Bool):Ac:=if g==m.g then Y4 r else Zs 17
theorem Qg3{c c':Ac}(h:c=c'):Ending.returned c.v= .returned c'.v:=by rw [h]
theorem QeM(m:Md)(k f g:Int)(s n r:Bool)(w:World):
    Cr 185 #[m.v,av k f g s n r] w (Qau m f g).v:=by
  cases a:J9 m f g
  · have b:=Xh a;clear a
    go_enter Tryz.func185,Tryz.ntmps185
    go_wp2
    all_goals(try (exfalso;have:=b.out;unfold J9 at this;grind))
    all_goals
      refine QW ?_;intro W x y z A d
      (have p:Ext w W:=Ext.of (w:=w) d Xe);go_region_held3 (UpE (w.heap.size+1+1) w W) (first| with_reducible exact UpE.start (by assumption)| with_reducible exact UpE.next (by assumption) (by assumption)| ((repeat((with_reducible refine UpE.st _ ?_ ?_);focus(first| omega| (simp;omega)| simp)));with_reducible assumption)) (first| (go_at_call 111;(with_reducible refine(Z9 _ _).mono ?_);rintro e h ⟨B,rfl,i,j,c⟩;obtain⟨C,D,E,l,-⟩:=QU c;try simp at l)| (go_at_call 187;(with_reducible refine(Z0 ⟨_,_,_,_⟩ _ _ _ _ _ _ _ _ _ i j).mono ?_);rintro e h ⟨rfl,c⟩;obtain⟨F,G,H,o,-⟩:=QU c;try simp at o))
      all_goals
        go_wp2;refine bodyPost_ret (v:=(Zs 17).v) ?_ rfl ⟨Qg3 (by unfold Qau;rw [b.out];rfl),?_⟩
        · (simp [results,Tryz.results185,go_sem,Zs, *];done)
        · (exact Xe)
  · have b:=Xh a;have q:m.g≤g:=by unfold J9 at a;grind
    have t:0≤f:=by unfold J9 at a;grind
    have u:f<6:=by unfold J9 at a;grind
    clear a
    go_enter Tryz.func185,Tryz.ntmps185
    go_wp2;refine bodyPost_ret (v:=(⟨3,0,4,f,g⟩:Ac).v) ?_ rfl ⟨Qg3 (by unfold Qau;rw [b.out];rfl),?_⟩
    · (simp [results,Tryz.results185,go_sem, *];done)
    · (exact Xe)
theorem Qir(m:Md)(k f g:Int)(s n r:Bool)(w:World):
    Cr 186 #[m.v,av k f g s n r] w (QeL m g r).v:=by
  cases c:(g==m.g)
  · have b:=Xh c
    go_enter Tryz.func186,Tryz.ntmps186
    go_wp2;refine QW ?_;intro W i j l d o
    (have x:Ext w W:=Ext.of (w:=w) o Xe);go_region_held3 (UpE (w.heap.size+1+1) w W) (first| with_reducible exact UpE.start (by assumption)| with_reducible exact UpE.next (by assumption) (by assumption)| ((repeat((with_reducible refine UpE.st _ ?_ ?_);focus(first| omega| (simp;omega)| simp)));with_reducible assumption)) (first| (go_at_call 111;(with_reducible refine(Z9 _ _).mono ?_);rintro e h ⟨y,rfl,p,q,a⟩;obtain⟨z,A,B,t,-⟩:=QU a;try simp at t)| (go_at_call 187;(with_reducible refine(Z0 ⟨_,_,_,_⟩ _ _ _ _ _ _ _ _ _ p q).mono ?_);rintro e h ⟨rfl,a⟩;obtain⟨C,D,E,u,-⟩:=QU a;try simp at u))
    all_goals
      go_wp2;refine bodyPost_ret (v:=(Zs 17).v) ?_ rfl ⟨Qg3 (by unfold QeL;rw [b.out];rfl),?_⟩
      · (simp [results,Tryz.results186,go_sem,Zs, *];done)
      · (exact Xe)
  · have b:=Xh c
    go_enter Tryz.func186,Tryz.ntmps186
    go_wp2_with (first| (go_at_call 184;(with_reducible refine(JC ⟨_,_,_,_⟩ _ _ _ _ _ _ _).mono ?_);rintro e h ⟨rfl,a⟩;obtain⟨i,j,l,d,-⟩:=QU a;try simp at d))
    refine bodyPost_ret (v:=(Y4 r).v) ?_ rfl ⟨Qg3 (by unfold QeL;rw [b.out];rfl),?_⟩
    · (simp [results,Tryz.results186,go_sem,Y4, *];done)
    · (exact Xe)
def QT(m:Md):Md:=if m.right then m else⟨0,0,0,false⟩
theorem Qpp{m m':Md}(h:m=m'):Ending.returned m.v= .returned m'.v:=by rw [h]
theorem Zf(m:Md)(w:World)(h0:0≤m.k):
    Cr 109 #[m.v] w ((QT m).v):=by
  go_enter Tryz.func109,Tryz.ntmps109
  go_wp2_with ((go_at_call 73;(with_reducible refine(Qa5 m _ (by assumption)).mono ?_);rintro e c ⟨rfl,a⟩;obtain⟨d,f,g,b,-⟩:=QU a;try simp at b))
  all_goals first
    | (refine bodyPost_ret (v:=m.v) ?_ rfl ⟨?_,?_⟩
       · (simp [results,Tryz.results109,go_sem, *];done)
       · (refine Qpp ?_;grind [QT])
       · (exact Xe))
    | (refine bodyPost_ret (v:=(⟨0,0,0,false⟩:Md).v) ?_ rfl ⟨?_,?_⟩
       · (simp [results,Tryz.results109,go_sem, *];done)
       · (refine Qpp ?_;grind [QT])
       · (exact Xe))
theorem QA2(m:Md)(w:World)(h0:0≤m.k):
    Cr 86 #[m.v] w ((QT m).v):=by
  go_enter Tryz.func86,Tryz.ntmps86
  go_wp2_with ((go_at_call 35;(with_reducible refine(Qw2 m _ (by assumption)).mono ?_);rintro e c ⟨rfl,a⟩;obtain⟨d,f,g,b,-⟩:=QU a;try simp at b))
  all_goals first
    | (refine bodyPost_ret (v:=m.v) ?_ rfl ⟨?_,?_⟩
       · (simp [results,Tryz.results86,go_sem, *];done)
       · (refine Qpp ?_;grind [QT])
       · (exact Xe))
    | (refine bodyPost_ret (v:=(⟨0,0,0,false⟩:Md).v) ?_ rfl ⟨?_,?_⟩
       · (simp [results,Tryz.results86,go_sem, *];done)
       · (refine Qpp ?_;grind [QT])
       · (exact Xe))
abbrev kv(a:Int)(s:Bool)(c:Int):Value:= .agg #[.int .u8 a,.bool s,.int .u8 c]
def Qsv(x:Value):Prop:= ∃a s c,x=kv a s c
def Qvx:Value→Int| .agg #[.int _ a,.bool s,.int _ c]=>a*100+c*10+(if s then 1 else 0)|_=>0
theorem Qpq(a:Int)(s:Bool)(c a':Int)(s':Bool)(c':Int)(w:World):
  (Op.equal 166 (kv a s c) (kv a' s' c')).run Tryz.prog w= .ok (a==a'&&s==s'&&c==c') w:=by
 unfold Op.equal Op.maxDepth;go_simp
 by_cases b:a=a'<;>by_cases d:s=s'<;>by_cases e:c=c'<;>simp [*]
theorem YF:Qfp Tryz.prog 166 Qsv where
 check:=by
  rintro w B x ⟨a,s,c,rfl⟩
  cases B<;>kernel_rfl
 find:=by
  rintro w x ⟨a,s,c,rfl⟩ b u;have v: ∀(b:List MapEntry) (i:Nat),(∀e∈b,Qsv e.key)→
    ((Instr.findAsking 166 (kv a s c) b i).run Tryz.prog w= .ok none w∧ ∀e∈b,e.key≠kv a s c)∨ ∃j e,(Instr.findAsking 166 (kv a s c) b i).run Tryz.prog w= .ok (some (i+j,e.val)) w∧b[j]?=some e∧e.key=kv a s c:=by
   intro b
   induction b with
   |nil=>intro i _;exact .inl ⟨rfl,by simp⟩
   |cons e b ih=>
    intro i h;obtain⟨n,o,p,k⟩:=h e (by simp)
    by_cases m:a=n∧s=o∧c=p
    ·obtain⟨rfl,rfl,rfl⟩:=m;refine .inr ⟨0,e,?_,rfl,k⟩;simp only [Instr.findAsking,Sem.run_bind,k,Qpq,Result.andThen];simp
    ·have q:(a==n&&s==o&&c==p)=false:=by
      by_cases f:a=n<;>by_cases g:s=o<;>by_cases t:c=p<;>simp_all
     have y:e.key≠kv a s c:=by
      rw [k];intro h;simp at h;exact m ⟨h.1.symm,h.2.1.symm,h.2.2.symm⟩
     rcases ih (i+1) (fun d l=>h d (by simp [l]))with⟨f,g⟩|⟨j,d,f,g,t⟩
     ·refine .inl ⟨?_,?_⟩
      ·simp only [Instr.findAsking,Sem.run_bind,k,Qpq,Result.andThen,q];simpa using f
      ·intro d l;rcases List.mem_cons.1 l with rfl|l
       ·exact y
       ·exact g d l
     ·refine .inr ⟨j+1,d,?_,by simpa using g,t⟩;simp only [Instr.findAsking,Sem.run_bind,k,Qpq,Result.andThen,q];have z:i+(j+1)=i+1+j:=by omega
      rw [z];simpa using f
  have r:Tryz.prog.underlying 166=some (.struct (Tryz.prog.fieldsOf 166)):=Kr
  cases b with
  |nil=>exact .inl ⟨by simp [Instr.findKey,run_underlying r,Instr.findNow,Result.andThen],by simp⟩
  |cons e b=>
   have m:Instr.findNow (.struct (Tryz.prog.fieldsOf 166)) (kv a s c) (e::b) 0=none:=by
    obtain⟨n,o,p,k⟩:=u e (by simp);simp [Instr.findNow,Instr.sameNow]
   have A:(Instr.findKey 166 (kv a s c) (e::b)).run Tryz.prog w=(Instr.findAsking 166 (kv a s c) (e::b)).run Tryz.prog w:=by
    simp [Instr.findKey,run_underlying r,m,Result.andThen]
   rw [A];rcases v (e::b) 0 u with h|⟨j,d,f,g⟩
   ·exact .inl h
   ·exact .inr ⟨j,d,by simpa using f,g⟩
theorem QcN{α:Type}{g:α→Nat}{l:List α}(h:(l.map g).Nodup){x y:α}(hx:x∈l)(hy:y∈l)(e:g x=g y):x=y:=by
 induction l with
 |nil=>cases hx
 |cons a l ih=>
  simp only [List.map_cons,List.nodup_cons,List.mem_map,not_exists,not_and]at h;rcases List.mem_cons.1 hx with rfl|hx'<;>rcases List.mem_cons.1 hy with rfl|hy'
  ·rfl
  ·exact absurd e.symm (h.1 y hy')
  ·exact absurd e (h.1 x hx')
  ·exact ih h.2 hx' hy'
theorem Qs6{α:Type}{g:α→Int}{l:List α}(h:(l.map g).Nodup){x y:α}(hx:x∈l)(hy:y∈l)(e:g x=g y):x=y:=by
 induction l with
 |nil=>cases hx
 |cons a l ih=>
  simp only [List.map_cons,List.nodup_cons,List.mem_map,not_exists,not_and]at h;rcases List.mem_cons.1 hx with rfl|hx'<;>rcases List.mem_cons.1 hy with rfl|hy'
  ·rfl
  ·exact absurd e.symm (h.1 y hy')
  ·exact absurd e (h.1 x hx')
  ·exact ih h.2 hx' hy'
theorem QkX{ops:Array Oper}(h:((List.range ops.size).all fun i=>match ops[i]? with|some o=>o.after.all (fun e=>decide (e.on<i))|none=>true)=true):
  ∀(i:Nat) (o:Oper),ops[i]?=some o→ ∀e∈o.after,e.on<i:=by
 intro i o a e c;have b:i<ops.size:=(Array.getElem?_eq_some_iff.1 a).1;have:=List.all_eq_true.1 h i (by simpa using b);rw [a]at this;simp only [Array.all_eq_true_iff_forall_mem,decide_eq_true_eq]at this;exact this e c
def rulesL:Qfq Tryz.prog where
 t:=163
 kt:=166
 et:=162
 K:=Qsv
 im:=0
 dm:=1
 D:= [(1,2,isV (kv 1 false 2)),
  (2,3,clo 223 2),
  (4,4,isV (kv 1 false 3)),
  (5,5,clo 223 2),
  (7,6,isV (kv 1 true 0)),
  (8,7,clo 187 15),
  (10,8,isV (kv 1 true 1)),
  (12,9,isV (kv 1 true 2)),
  (13,10,clo 223 3),
  (15,11,isV (kv 1 true 3)),
  (16,12,clo 223 5),
  (18,13,isV (kv 3 true 0)),
  (20,14,isV (kv 3 true 3)),
  (22,15,isV (kv 4 true 1)),
  (24,16,isV (kv 5 true 1)),
  (26,17,isV (kv 4 true 2)),
  (28,18,isV (kv 5 true 2))]
 C:= [(30,19,1),(31,0,19)]
 I:= [(3,kv 1 false 2,clo 223 2),
  (6,kv 1 false 3,clo 223 2),
  (9,kv 1 true 0,clo 187 15),
  (11,kv 1 true 1,isV (.func (.func 184) #[] #[])),
  (14,kv 1 true 2,clo 223 3),
  (17,kv 1 true 3,clo 223 5),
  (19,kv 3 true 0,isV (.func (.func 185) #[] #[])),
  (21,kv 3 true 3,isV (.func (.func 185) #[] #[])),
  (23,kv 4 true 1,isV (.func (.func 184) #[] #[])),
  (25,kv 5 true 1,isV (.func (.func 184) #[] #[])),
  (27,kv 4 true 2,isV (.func (.func 186) #[] #[])),
  (29,kv 5 true 2,isV (.func (.func 186) #[] #[]))]
def QnF(w:World)(e:Ending)(w':World):Prop:=
 ∃B f,e= .returned (.map (some B))∧Ext w w'∧ZE Qsv w' B f∧(∀x∈rulesL.I,∃v,f x.2.1=some v∧x.2.2 w' v)∧(∀k v,f k=some v→ ∃x∈rulesL.I,x.2.1=k)
theorem QkY{x y:Nat×Value×J7}(hx:x∈rulesL.I)(hy:y∈rulesL.I)(e:x.2.1=y.2.1):x=y:=
 Qs6 (g:=fun x=>Qvx x.2.1) Dc hx hy (by rw [e])
theorem Zu(w:World):Calls Tryz.prog 110 #[] w (QnF w):=by
 go_enter Tryz.func110,Tryz.ntmps110
 go_wp2;refine Qfq.wp (L:=rulesL) ⟨YF,Tryz.underlying163,?cover,?acyclic,?slots,?dd,?cc,?ii,?i2,?apart,?d1,?c1,?stable,?hmk,?hD,?hC,?hI⟩ Kr ?done
 case cover=>
  have: ∀i,i<32→i=rulesL.im∨(∃x∈rulesL.D,x.1=i)∨(∃x∈rulesL.C,x.1=i)∨(∃x∈rulesL.I,x.1=i):=by decide
  exact this
 case acyclic=>exact QkX Kr
 case slots=>
  refine⟨?_,?_,Dc⟩
  ·have: ∀x∈rulesL.D,x.2.1<20∧x.2.1≠rulesL.dm∧ ∀y∈rulesL.C,y.2.1≠x.2.1:=by decide
   exact this
  ·have: ∀x∈rulesL.C,x.2.1<20∧x.2.1≠rulesL.dm:=by decide
   exact this
 case dd=>
  intro x h y j e;rw [QcN (g:=fun x:Nat×Nat×J7=>x.2.1) Dc h j e];exact⟨rfl,rfl⟩
 case cc=>
  intro x h y j e;rw [QcN (g:=fun x:Nat×Nat×Nat=>x.2.1) Dc h j e]
 case ii=>
  intro x h y j e;rw [QkY h j e]
 case i2=>exact fun x h y j e=>QcN (g:=fun x:Nat×Value×J7=>x.1) Dc h j e
 case d1=>exact fun x h y j e=>QcN (g:=fun x:Nat×Nat×J7=>x.1) Dc h j e
 case c1=>exact fun x h y j e=>QcN (g:=fun x:Nat×Nat×Nat=>x.1) Dc h j e
 case apart=>
  refine⟨?_,?_,?_⟩
  ·have: ∀x∈rulesL.D,x.1≠rulesL.im∧(∀y∈rulesL.C,y.1≠x.1)∧(∀y∈rulesL.I,y.1≠x.1):=by decide
   exact this
  ·have: ∀x∈rulesL.C,x.1≠rulesL.im∧(∀y∈rulesL.I,y.1≠x.1):=by decide
   exact this
  ·have: ∀x∈rulesL.I,x.1≠rulesL.im:=by decide
   exact this
 case stable=>
  refine⟨?_,?_⟩<;>intro x h<;>simp only [rulesL,List.mem_cons,List.not_mem_nil,or_false]at h
  ·rcases h with rfl|rfl|rfl|rfl|rfl|rfl|rfl|rfl|rfl|rfl|rfl|rfl|rfl|rfl|rfl|rfl|rfl<;>first|exact QeJ _ _|exact QeK _
  ·rcases h with rfl|rfl|rfl|rfl|rfl|rfl|rfl|rfl|rfl|rfl|rfl|rfl<;>first|exact QeJ _ _|exact QeK _
 case hmk=>exact⟨_,rfl,rfl,rfl,rfl⟩
 case hD=>
  intro x h;simp only [rulesL,List.mem_cons,List.not_mem_nil,or_false]at h;rcases h with rfl|rfl|rfl|rfl|rfl|rfl|rfl|rfl|rfl|rfl|rfl|rfl|rfl|rfl|rfl|rfl|rfl
  ·refine⟨_,rfl,rfl,fun a c Kk _ _ k=> ?_⟩;go_simp;exact k _ _ (Below.refl _ _) rfl
  ·refine⟨_,rfl,rfl,fun a c Kk _ _ k=> ?_⟩;go_simp;refine(J8 _ _).mono ?_;rintro e o ⟨b,rfl,l,n,m⟩;exact k _ _ m ⟨b,rfl,l,n⟩
  ·refine⟨_,rfl,rfl,fun a c Kk _ _ k=> ?_⟩;go_simp;exact k _ _ (Below.refl _ _) rfl
  ·refine⟨_,rfl,rfl,fun a c Kk _ _ k=> ?_⟩;go_simp;refine(J8 _ _).mono ?_;rintro e o ⟨b,rfl,l,n,m⟩;exact k _ _ m ⟨b,rfl,l,n⟩
  ·refine⟨_,rfl,rfl,fun a c Kk _ _ k=> ?_⟩;go_simp;exact k _ _ (Below.refl _ _) rfl
  ·refine⟨_,rfl,rfl,fun a c Kk _ _ k=> ?_⟩;go_simp;refine(Z9 _ _).mono ?_;rintro e o ⟨b,rfl,l,n,m⟩;exact k _ _ m ⟨b,rfl,l,n⟩
  ·refine⟨_,rfl,rfl,fun a c Kk _ _ k=> ?_⟩;go_simp;exact k _ _ (Below.refl _ _) rfl
  ·refine⟨_,rfl,rfl,fun a c Kk _ _ k=> ?_⟩;go_simp;exact k _ _ (Below.refl _ _) rfl
  ·refine⟨_,rfl,rfl,fun a c Kk _ _ k=> ?_⟩;go_simp;refine(J8 _ _).mono ?_;rintro e o ⟨b,rfl,l,n,m⟩;exact k _ _ m ⟨b,rfl,l,n⟩
  ·refine⟨_,rfl,rfl,fun a c Kk _ _ k=> ?_⟩;go_simp;exact k _ _ (Below.refl _ _) rfl
  ·refine⟨_,rfl,rfl,fun a c Kk _ _ k=> ?_⟩;go_simp;refine(J8 _ _).mono ?_;rintro e o ⟨b,rfl,l,n,m⟩;exact k _ _ m ⟨b,rfl,l,n⟩
  ·refine⟨_,rfl,rfl,fun a c Kk _ _ k=> ?_⟩;go_simp;exact k _ _ (Below.refl _ _) rfl
  ·refine⟨_,rfl,rfl,fun a c Kk _ _ k=> ?_⟩;go_simp;exact k _ _ (Below.refl _ _) rfl
  ·refine⟨_,rfl,rfl,fun a c Kk _ _ k=> ?_⟩;go_simp;exact k _ _ (Below.refl _ _) rfl
  ·refine⟨_,rfl,rfl,fun a c Kk _ _ k=> ?_⟩;go_simp;exact k _ _ (Below.refl _ _) rfl
  ·refine⟨_,rfl,rfl,fun a c Kk _ _ k=> ?_⟩;go_simp;exact k _ _ (Below.refl _ _) rfl
  ·refine⟨_,rfl,rfl,fun a c Kk _ _ k=> ?_⟩;go_simp;exact k _ _ (Below.refl _ _) rfl
 case hC=>
  intro x h;simp only [rulesL,List.mem_cons,List.not_mem_nil,or_false]at h;rcases h with rfl|rfl
  ·exact⟨_,rfl,rfl,rfl,Or.inl rfl,Or.inl ⟨rfl,⟨0,.data⟩,by simp,rfl,rfl⟩⟩
  ·exact⟨_,rfl,rfl,rfl,Or.inr rfl,Or.inr ⟨(30,19,1),by simp [rulesL],rfl,⟨30,.data⟩,by simp,rfl,rfl⟩⟩
 case hI=>
  intro x h;simp only [rulesL,List.mem_cons,List.not_mem_nil,or_false]at h;rcases h with rfl|rfl|rfl|rfl|rfl|rfl|rfl|rfl|rfl|rfl|rfl|rfl
  ·refine⟨_,_,_,rfl,rfl,rfl,rfl,⟨_,_,_,rfl⟩,⟨⟨0,.data⟩,by simp,rfl,rfl⟩,fun a c d _ _=>⟨?_,?_⟩⟩
   ·exact d (1,2,isV (kv 1 false 2)) (by simp [rulesL]) ⟨⟨1,.data⟩,by simp,rfl,rfl⟩
   ·exact d (2,3,clo 223 2) (by simp [rulesL]) ⟨⟨2,.data⟩,by simp,rfl,rfl⟩
  ·refine⟨_,_,_,rfl,rfl,rfl,rfl,⟨_,_,_,rfl⟩,⟨⟨0,.data⟩,by simp,rfl,rfl⟩,fun a c d _ _=>⟨?_,?_⟩⟩
   ·exact d (4,4,isV (kv 1 false 3)) (by simp [rulesL]) ⟨⟨4,.data⟩,by simp,rfl,rfl⟩
   ·exact d (5,5,clo 223 2) (by simp [rulesL]) ⟨⟨5,.data⟩,by simp,rfl,rfl⟩
  ·refine⟨_,_,_,rfl,rfl,rfl,rfl,⟨_,_,_,rfl⟩,⟨⟨0,.data⟩,by simp,rfl,rfl⟩,fun a c d _ _=>⟨?_,?_⟩⟩
   ·exact d (7,6,isV (kv 1 true 0)) (by simp [rulesL]) ⟨⟨7,.data⟩,by simp,rfl,rfl⟩
   ·exact d (8,7,clo 187 15) (by simp [rulesL]) ⟨⟨8,.data⟩,by simp,rfl,rfl⟩
  ·refine⟨_,_,_,rfl,rfl,rfl,rfl,⟨_,_,_,rfl⟩,⟨⟨0,.data⟩,by simp,rfl,rfl⟩,fun a c d _ _=>⟨?_,?_⟩⟩
   ·exact d (10,8,isV (kv 1 true 1)) (by simp [rulesL]) ⟨⟨10,.data⟩,by simp,rfl,rfl⟩
   ·rfl
  ·refine⟨_,_,_,rfl,rfl,rfl,rfl,⟨_,_,_,rfl⟩,⟨⟨0,.data⟩,by simp,rfl,rfl⟩,fun a c d _ _=>⟨?_,?_⟩⟩
   ·exact d (12,9,isV (kv 1 true 2)) (by simp [rulesL]) ⟨⟨12,.data⟩,by simp,rfl,rfl⟩
   ·exact d (13,10,clo 223 3) (by simp [rulesL]) ⟨⟨13,.data⟩,by simp,rfl,rfl⟩
  ·refine⟨_,_,_,rfl,rfl,rfl,rfl,⟨_,_,_,rfl⟩,⟨⟨0,.data⟩,by simp,rfl,rfl⟩,fun a c d _ _=>⟨?_,?_⟩⟩
   ·exact d (15,11,isV (kv 1 true 3)) (by simp [rulesL]) ⟨⟨15,.data⟩,by simp,rfl,rfl⟩
   ·exact d (16,12,clo 223 5) (by simp [rulesL]) ⟨⟨16,.data⟩,by simp,rfl,rfl⟩
  ·refine⟨_,_,_,rfl,rfl,rfl,rfl,⟨_,_,_,rfl⟩,⟨⟨0,.data⟩,by simp,rfl,rfl⟩,fun a c d _ _=>⟨?_,?_⟩⟩
   ·exact d (18,13,isV (kv 3 true 0)) (by simp [rulesL]) ⟨⟨18,.data⟩,by simp,rfl,rfl⟩
   ·rfl
  ·refine⟨_,_,_,rfl,rfl,rfl,rfl,⟨_,_,_,rfl⟩,⟨⟨0,.data⟩,by simp,rfl,rfl⟩,fun a c d _ _=>⟨?_,?_⟩⟩
   ·exact d (20,14,isV (kv 3 true 3)) (by simp [rulesL]) ⟨⟨20,.data⟩,by simp,rfl,rfl⟩
   ·rfl
  ·refine⟨_,_,_,rfl,rfl,rfl,rfl,⟨_,_,_,rfl⟩,⟨⟨0,.data⟩,by simp,rfl,rfl⟩,fun a c d _ _=>⟨?_,?_⟩⟩
   ·exact d (22,15,isV (kv 4 true 1)) (by simp [rulesL]) ⟨⟨22,.data⟩,by simp,rfl,rfl⟩
   ·rfl
  ·refine⟨_,_,_,rfl,rfl,rfl,rfl,⟨_,_,_,rfl⟩,⟨⟨0,.data⟩,by simp,rfl,rfl⟩,fun a c d _ _=>⟨?_,?_⟩⟩
   ·exact d (24,16,isV (kv 5 true 1)) (by simp [rulesL]) ⟨⟨24,.data⟩,by simp,rfl,rfl⟩
   ·rfl
  ·refine⟨_,_,_,rfl,rfl,rfl,rfl,⟨_,_,_,rfl⟩,⟨⟨0,.data⟩,by simp,rfl,rfl⟩,fun a c d _ _=>⟨?_,?_⟩⟩
   ·exact d (26,17,isV (kv 4 true 2)) (by simp [rulesL]) ⟨⟨26,.data⟩,by simp,rfl,rfl⟩
   ·rfl
  ·refine⟨_,_,_,rfl,rfl,rfl,rfl,⟨_,_,_,rfl⟩,⟨⟨0,.data⟩,by simp,rfl,rfl⟩,fun a c d _ _=>⟨?_,?_⟩⟩
   ·exact d (28,18,isV (kv 5 true 2)) (by simp [rulesL]) ⟨⟨28,.data⟩,by simp,rfl,rfl⟩
   ·rfl
 case done=>
  intro E a c p hI;obtain⟨B,f,l,n,m,r,A⟩:=hI.map (p 0 Dc);have s:=hI.cops (31,0,19) (by simp [rulesL]) (p 31 Dc);have t:Ext w c:=Ext.tr (Ext.dr (Ext.rf _)) hI.ext;have d:a.defers= []:=hI.defers;have u: ∀x∈rulesL.I,x.1<32:=by decide
  have z: ∀x∈rulesL.I,∃v,f x.2.1=some v∧x.2.2 c v:=fun x h=>r x h (p x.1 (u x h));clear p hI r;go_wp2;refine bodyPost_ret (v:= .map (some B)) ?_ d ⟨B,f,rfl,t,m,z,fun k v hk=> ?_⟩
  ·have q:a.tmps.getD 0 undef= .map (some B):=s.trans l;simp only [Array.getD_eq_getD_getElem?]at q;simp [results,Tryz.results110,q]
  ·obtain⟨x,h,_,e⟩:=A k v hk;exact⟨x,h,e⟩
@[go_sem] theorem Quv(fn:Fn)(x y:Array Value)(w:World):(binOp .eql 162 (.func fn x y) .nilFunc).run Tryz.prog w= .ok (.bool false) w:=Kr
@[go_sem] theorem QvV(w:World):(binOp .eql 162 .nilFunc .nilFunc).run Tryz.prog w= .ok (.bool true) w:=Kr
def QyT:Value→Int| .agg #[.int _ a,.bool _,.int _ _]=>a|_=>0
theorem QcO{i:Nat}{k:Int}{s:Bool}{c:Int}{p:J7}(h:(i,kv k s c,p)∈rulesL.I):(k==2)=false:=by
 have a: ∀x∈rulesL.I,(QyT x.2.1==2)=false:=by decide
 exact a _ h
theorem Qds(m:Md)(k f g:Int)(s r:Bool)(x:Int)(hin: ∃i,(i,kv k s (QT m).k,clo 223 x)∈rulesL.I)(w:World)(h0:0≤m.k)(h1:1≤k)(h2:k<6):
  Cr 47 #[m.v,av k f g s false r] w (⟨3,0,x,(QT m).p,(QT m).g⟩:Ac).v:=by
 have X:(k==0)=false:=by simp;omega
 have Y:(k==2)=false:=by obtain⟨i,J⟩:=hin;exact QcO J
 obtain⟨M,c⟩: ∃M,M=QT m:=⟨_,rfl⟩;rw [←c]at hin;have F:=Xh c;have G:=Xh hin
 (try rw [←c])
 clear c hin
 cases s
 ·go_enter Tryz.func47,Tryz.ntmps47
  go_wp2;refine Qp 0 rfl ?_
  go_wp2_with (go_at_call 109;(refine(Zf m _ h0).mono ?_);rw [←F.out];rintro e K ⟨rfl,h⟩;obtain⟨L,N,O,j,-⟩:=QU h;try simp at j)
  refine QW ?_;intro W l n o b q;have H:Ext w W:=Ext.of (w:=w) q Xe
  go_region_held3 (Up W) (with_reducible refine up ?_;(exact Xu)) (first|(go_at_call 110;(with_reducible refine(Zu _).mono ?_);rintro e t ⟨B,P,rfl,a,u,y,Q⟩;obtain⟨R,z⟩:=G.out;obtain⟨v,A,S,rfl,C,D⟩:=y _ z;have d:=u.look YF Tryz.underlying163 (x:=kv k false M.k) ⟨_,_,_,rfl⟩ .nilFunc Kr;simp only [A,Option.getD_some]at d;obtain⟨T,U,V,E,-⟩:=QU a;try simp at E))
  go_wp2_with (first|(go_at_call 223;(with_reducible refine(QfY ⟨_,_,_,_⟩ _ _ _ _ _ _ _ _ _ C D).mono ?_);rintro e t ⟨rfl,a⟩;obtain⟨l,n,o,b,-⟩:=QU a;try simp at b))
  (try simp only [Exit.jump])
  refine bodyPost_ret (v:=(⟨3,0,x,M.p,M.g⟩:Ac).v) ?_ rfl ⟨rfl,?_⟩
  ·(simp [results,Tryz.results47,go_sem, *];done)
  ·(exact Xe)
 ·go_enter Tryz.func47,Tryz.ntmps47
  go_wp2;refine Qp 0 rfl ?_
  go_wp2_with (go_at_call 109;(refine(Zf m _ h0).mono ?_);rw [←F.out];rintro e K ⟨rfl,h⟩;obtain⟨L,N,O,j,-⟩:=QU h;try simp at j)
  refine QW ?_;intro W l n o b q;have H:Ext w W:=Ext.of (w:=w) q Xe
  go_region_held3 (Up W) (with_reducible refine up ?_;(exact Xu)) (first|(go_at_call 110;(with_reducible refine(Zu _).mono ?_);rintro e t ⟨B,P,rfl,a,u,y,Q⟩;obtain⟨R,z⟩:=G.out;obtain⟨v,A,S,rfl,C,D⟩:=y _ z;have d:=u.look YF Tryz.underlying163 (x:=kv k true M.k) ⟨_,_,_,rfl⟩ .nilFunc Kr;simp only [A,Option.getD_some]at d;obtain⟨T,U,V,E,-⟩:=QU a;try simp at E))
  go_wp2_with (first|(go_at_call 223;(with_reducible refine(QfY ⟨_,_,_,_⟩ _ _ _ _ _ _ _ _ _ C D).mono ?_);rintro e t ⟨rfl,a⟩;obtain⟨l,n,o,b,-⟩:=QU a;try simp at b))
  (try simp only [Exit.jump])
  refine bodyPost_ret (v:=(⟨3,0,x,M.p,M.g⟩:Ac).v) ?_ rfl ⟨rfl,?_⟩
  ·(simp [results,Tryz.results47,go_sem, *];done)
  ·(exact Xe)
theorem QnG(m:Md)(k f g:Int)(s r:Bool)(x:Int)(hin: ∃i,(i,kv k s (QT m).k,clo 187 x)∈rulesL.I)(w:World)(h0:0≤m.k)(h1:1≤k)(h2:k<6):
  Cr 47 #[m.v,av k f g s false r] w (Zs x).v:=by
 have V:(k==0)=false:=by simp;omega
 have X:(k==2)=false:=by obtain⟨i,H⟩:=hin;exact QcO H
 obtain⟨M,c⟩: ∃M,M=QT m:=⟨_,rfl⟩;rw [←c]at hin;have E:=Xh c;have F:=Xh hin
 (try rw [←c])
 clear c hin
 cases s
 ·go_enter Tryz.func47,Tryz.ntmps47
  go_wp2;refine Qp 0 rfl ?_
  go_wp2_with (go_at_call 109;(refine(Zf m _ h0).mono ?_);rw [←E.out];rintro e J ⟨rfl,h⟩;obtain⟨K,L,N,j,-⟩:=QU h;try simp at j)
  refine QW ?_;intro W l n o b p;have G:Ext w W:=Ext.of (w:=w) p Xe
  go_region_held3 (Up W) (with_reducible refine up ?_;(exact Xu)) (first|(go_at_call 110;(with_reducible refine(Zu _).mono ?_);rintro e q ⟨B,O,rfl,a,t,u,P⟩;obtain⟨Q,y⟩:=F.out;obtain⟨v,z,R,rfl,A,C⟩:=u _ y;have d:=t.look YF Tryz.underlying163 (x:=kv k false M.k) ⟨_,_,_,rfl⟩ .nilFunc Kr;simp only [z,Option.getD_some]at d;obtain⟨S,T,U,D,-⟩:=QU a;try simp at D))
  go_wp2_with (first|(go_at_call 187;(with_reducible refine(Z0 ⟨_,_,_,_⟩ _ _ _ _ _ _ _ _ _ A C).mono ?_);rintro e q ⟨rfl,a⟩;obtain⟨l,n,o,b,-⟩:=QU a;try simp at b))
  (try simp only [Exit.jump])
  refine bodyPost_ret (v:=(Zs x).v) ?_ rfl ⟨rfl,?_⟩
  ·(simp [results,Tryz.results47,go_sem,Zs, *];done)
  ·(exact Xe)
 ·go_enter Tryz.func47,Tryz.ntmps47
  go_wp2;refine Qp 0 rfl ?_
  go_wp2_with (go_at_call 109;(refine(Zf m _ h0).mono ?_);rw [←E.out];rintro e J ⟨rfl,h⟩;obtain⟨K,L,N,j,-⟩:=QU h;try simp at j)
  refine QW ?_;intro W l n o b p;have G:Ext w W:=Ext.of (w:=w) p Xe
  go_region_held3 (Up W) (with_reducible refine up ?_;(exact Xu)) (first|(go_at_call 110;(with_reducible refine(Zu _).mono ?_);rintro e q ⟨B,O,rfl,a,t,u,P⟩;obtain⟨Q,y⟩:=F.out;obtain⟨v,z,R,rfl,A,C⟩:=u _ y;have d:=t.look YF Tryz.underlying163 (x:=kv k true M.k) ⟨_,_,_,rfl⟩ .nilFunc Kr;simp only [z,Option.getD_some]at d;obtain⟨S,T,U,D,-⟩:=QU a;try simp at D))
  go_wp2_with (first|(go_at_call 187;(with_reducible refine(Z0 ⟨_,_,_,_⟩ _ _ _ _ _ _ _ _ _ A C).mono ?_);rintro e q ⟨rfl,a⟩;obtain⟨l,n,o,b,-⟩:=QU a;try simp at b))
  (try simp only [Exit.jump])
  refine bodyPost_ret (v:=(Zs x).v) ?_ rfl ⟨rfl,?_⟩
  ·(simp [results,Tryz.results47,go_sem,Zs, *];done)
  ·(exact Xe)
theorem QdR(m:Md)(k f g:Int)(s r:Bool)(hin: ∃i,(i,kv k s (QT m).k,isV (.func (.func 184) #[] #[]))∈rulesL.I)(w:World)(h0:0≤m.k)(h1:1≤k)(h2:k<6):
  Cr 47 #[m.v,av k f g s false r] w (Y4 r).v:=by
 have S:(k==0)=false:=by simp;omega
 have T:(k==2)=false:=by obtain⟨i,F⟩:=hin;exact QcO F
 obtain⟨M,c⟩: ∃M,M=QT m:=⟨_,rfl⟩;rw [←c]at hin;have C:=Xh c;have D:=Xh hin
 (try rw [←c])
 clear c hin
 cases s
 ·go_enter Tryz.func47,Tryz.ntmps47
  go_wp2;refine Qp 0 rfl ?_
  go_wp2_with (go_at_call 109;(refine(Zf m _ h0).mono ?_);rw [←C.out];rintro e G ⟨rfl,h⟩;obtain⟨H,J,K,j,-⟩:=QU h;try simp at j)
  refine QW ?_;intro W l n o b p;have E:Ext w W:=Ext.of (w:=w) p Xe
  go_region_held3 (Up W) (with_reducible refine up ?_;(exact Xu)) (first|(go_at_call 110;(with_reducible refine(Zu _).mono ?_);rintro e q ⟨B,L,rfl,a,t,u,N⟩;obtain⟨O,y⟩:=D.out;obtain⟨v,z,rfl⟩:=u _ y;have d:=t.look YF Tryz.underlying163 (x:=kv k false M.k) ⟨_,_,_,rfl⟩ .nilFunc Kr;simp only [z,Option.getD_some]at d;obtain⟨P,Q,R,A,-⟩:=QU a;try simp at A))
  go_wp2_with (first|(go_at_call 184;(with_reducible refine(JC ⟨_,_,_,_⟩ _ _ _ _ _ _ _).mono ?_);rintro e q ⟨rfl,a⟩;obtain⟨l,n,o,b,-⟩:=QU a;try simp at b))
  (try simp only [Exit.jump])
  refine bodyPost_ret (v:=(Y4 r).v) ?_ rfl ⟨rfl,?_⟩
  ·(simp [results,Tryz.results47,go_sem,Y4, *];done)
  ·(exact Xe)
 ·go_enter Tryz.func47,Tryz.ntmps47
  go_wp2;refine Qp 0 rfl ?_
  go_wp2_with (go_at_call 109;(refine(Zf m _ h0).mono ?_);rw [←C.out];rintro e G ⟨rfl,h⟩;obtain⟨H,J,K,j,-⟩:=QU h;try simp at j)
  refine QW ?_;intro W l n o b p;have E:Ext w W:=Ext.of (w:=w) p Xe
  go_region_held3 (Up W) (with_reducible refine up ?_;(exact Xu)) (first|(go_at_call 110;(with_reducible refine(Zu _).mono ?_);rintro e q ⟨B,L,rfl,a,t,u,N⟩;obtain⟨O,y⟩:=D.out;obtain⟨v,z,rfl⟩:=u _ y;have d:=t.look YF Tryz.underlying163 (x:=kv k true M.k) ⟨_,_,_,rfl⟩ .nilFunc Kr;simp only [z,Option.getD_some]at d;obtain⟨P,Q,R,A,-⟩:=QU a;try simp at A))
  go_wp2_with (first|(go_at_call 184;(with_reducible refine(JC ⟨_,_,_,_⟩ _ _ _ _ _ _ _).mono ?_);rintro e q ⟨rfl,a⟩;obtain⟨l,n,o,b,-⟩:=QU a;try simp at b))
  (try simp only [Exit.jump])
  refine bodyPost_ret (v:=(Y4 r).v) ?_ rfl ⟨rfl,?_⟩
  ·(simp [results,Tryz.results47,go_sem,Y4, *];done)
  ·(exact Xe)
theorem Qi1(m:Md)(k f g:Int)(s r:Bool)(hin: ∃i,(i,kv k s (QT m).k,isV (.func (.func 185) #[] #[]))∈rulesL.I)(w:World)(h0:0≤m.k)(h1:1≤k)(h2:k<6):
  Cr 47 #[m.v,av k f g s false r] w (Qau (QT m) f g).v:=by
 have S:(k==0)=false:=by simp;omega
 have T:(k==2)=false:=by obtain⟨i,F⟩:=hin;exact QcO F
 obtain⟨M,c⟩: ∃M,M=QT m:=⟨_,rfl⟩;rw [←c]at hin;have C:=Xh c;have D:=Xh hin
 (try rw [←c])
 clear c hin
 cases s
 ·go_enter Tryz.func47,Tryz.ntmps47
  go_wp2;refine Qp 0 rfl ?_
  go_wp2_with (go_at_call 109;(refine(Zf m _ h0).mono ?_);rw [←C.out];rintro e G ⟨rfl,h⟩;obtain⟨H,J,K,j,-⟩:=QU h;try simp at j)
  refine QW ?_;intro W l n o b p;have E:Ext w W:=Ext.of (w:=w) p Xe
  go_region_held3 (Up W) (with_reducible refine up ?_;(exact Xu)) (first|(go_at_call 110;(with_reducible refine(Zu _).mono ?_);rintro e q ⟨B,L,rfl,a,t,u,N⟩;obtain⟨O,y⟩:=D.out;obtain⟨v,z,rfl⟩:=u _ y;have d:=t.look YF Tryz.underlying163 (x:=kv k false M.k) ⟨_,_,_,rfl⟩ .nilFunc Kr;simp only [z,Option.getD_some]at d;obtain⟨P,Q,R,A,-⟩:=QU a;try simp at A))
  go_wp2_with (first|(go_at_call 185;(with_reducible refine(QeM M _ _ _ _ _ _ _).mono ?_);rintro e q ⟨rfl,a⟩;obtain⟨l,n,o,b,-⟩:=QU a;try simp at b))
  (try simp only [Exit.jump])
  refine bodyPost_ret (v:=(Qau M f g).v) ?_ rfl ⟨rfl,?_⟩
  ·(simp [results,Tryz.results47,go_sem, *];done)
  ·(exact Xe)
 ·go_enter Tryz.func47,Tryz.ntmps47
  go_wp2;refine Qp 0 rfl ?_
  go_wp2_with (go_at_call 109;(refine(Zf m _ h0).mono ?_);rw [←C.out];rintro e G ⟨rfl,h⟩;obtain⟨H,J,K,j,-⟩:=QU h;try simp at j)
  refine QW ?_;intro W l n o b p;have E:Ext w W:=Ext.of (w:=w) p Xe
  go_region_held3 (Up W) (with_reducible refine up ?_;(exact Xu)) (first|(go_at_call 110;(with_reducible refine(Zu _).mono ?_);rintro e q ⟨B,L,rfl,a,t,u,N⟩;obtain⟨O,y⟩:=D.out;obtain⟨v,z,rfl⟩:=u _ y;have d:=t.look YF Tryz.underlying163 (x:=kv k true M.k) ⟨_,_,_,rfl⟩ .nilFunc Kr;simp only [z,Option.getD_some]at d;obtain⟨P,Q,R,A,-⟩:=QU a;try simp at A))
  go_wp2_with (first|(go_at_call 185;(with_reducible refine(QeM M _ _ _ _ _ _ _).mono ?_);rintro e q ⟨rfl,a⟩;obtain⟨l,n,o,b,-⟩:=QU a;try simp at b))
  (try simp only [Exit.jump])
  refine bodyPost_ret (v:=(Qau M f g).v) ?_ rfl ⟨rfl,?_⟩
  ·(simp [results,Tryz.results47,go_sem, *];done)
  ·(exact Xe)
theorem QnH(m:Md)(k f g:Int)(s r:Bool)(hin: ∃i,(i,kv k s (QT m).k,isV (.func (.func 186) #[] #[]))∈rulesL.I)(w:World)(h0:0≤m.k)(h1:1≤k)(h2:k<6):
  Cr 47 #[m.v,av k f g s false r] w (QeL (QT m) g r).v:=by
 have S:(k==0)=false:=by simp;omega
 have T:(k==2)=false:=by obtain⟨i,F⟩:=hin;exact QcO F
 obtain⟨M,c⟩: ∃M,M=QT m:=⟨_,rfl⟩;rw [←c]at hin;have C:=Xh c;have D:=Xh hin
 (try rw [←c])
 clear c hin
 cases s
 ·go_enter Tryz.func47,Tryz.ntmps47
  go_wp2;refine Qp 0 rfl ?_
  go_wp2_with (go_at_call 109;(refine(Zf m _ h0).mono ?_);rw [←C.out];rintro e G ⟨rfl,h⟩;obtain⟨H,J,K,j,-⟩:=QU h;try simp at j)
  refine QW ?_;intro W l n o b p;have E:Ext w W:=Ext.of (w:=w) p Xe
  go_region_held3 (Up W) (with_reducible refine up ?_;(exact Xu)) (first|(go_at_call 110;(with_reducible refine(Zu _).mono ?_);rintro e q ⟨B,L,rfl,a,t,u,N⟩;obtain⟨O,y⟩:=D.out;obtain⟨v,z,rfl⟩:=u _ y;have d:=t.look YF Tryz.underlying163 (x:=kv k false M.k) ⟨_,_,_,rfl⟩ .nilFunc Kr;simp only [z,Option.getD_some]at d;obtain⟨P,Q,R,A,-⟩:=QU a;try simp at A))
  go_wp2_with (first|(go_at_call 186;(with_reducible refine(Qir M _ _ _ _ _ _ _).mono ?_);rintro e q ⟨rfl,a⟩;obtain⟨l,n,o,b,-⟩:=QU a;try simp at b))
  (try simp only [Exit.jump])
  refine bodyPost_ret (v:=(QeL M g r).v) ?_ rfl ⟨rfl,?_⟩
  ·(simp [results,Tryz.results47,go_sem, *];done)
  ·(exact Xe)
 ·go_enter Tryz.func47,Tryz.ntmps47
  go_wp2;refine Qp 0 rfl ?_
  go_wp2_with (go_at_call 109;(refine(Zf m _ h0).mono ?_);rw [←C.out];rintro e G ⟨rfl,h⟩;obtain⟨H,J,K,j,-⟩:=QU h;try simp at j)
  refine QW ?_;intro W l n o b p;have E:Ext w W:=Ext.of (w:=w) p Xe
  go_region_held3 (Up W) (with_reducible refine up ?_;(exact Xu)) (first|(go_at_call 110;(with_reducible refine(Zu _).mono ?_);rintro e q ⟨B,L,rfl,a,t,u,N⟩;obtain⟨O,y⟩:=D.out;obtain⟨v,z,rfl⟩:=u _ y;have d:=t.look YF Tryz.underlying163 (x:=kv k true M.k) ⟨_,_,_,rfl⟩ .nilFunc Kr;simp only [z,Option.getD_some]at d;obtain⟨P,Q,R,A,-⟩:=QU a;try simp at A))
  go_wp2_with (first|(go_at_call 186;(with_reducible refine(Qir M _ _ _ _ _ _ _).mono ?_);rintro e q ⟨rfl,a⟩;obtain⟨l,n,o,b,-⟩:=QU a;try simp at b))
  (try simp only [Exit.jump])
  refine bodyPost_ret (v:=(QeL M g r).v) ?_ rfl ⟨rfl,?_⟩
  ·(simp [results,Tryz.results47,go_sem, *];done)
  ·(exact Xe)
theorem Qhq{ff:Value→Option Value}{x:Value}(hN: ∀k v,ff k=some v→ ∃x∈rulesL.I,x.2.1=k)(h: ∀y∈rulesL.I,y.2.1≠x):ff x=none:=by
  cases a:ff x with
  | none=>rfl
  | some u=>
    obtain⟨y,b,e⟩:=hN x u a;exact absurd e (h y b)
theorem QnI(m:Md)(k f g:Int)(s n r:Bool)(w:World)(h0:0≤m.k)(hk:k=0∨6≤k):
    Cr 47 #[m.v,av k f g s n r] w (Zs 13).v:=by
  obtain⟨M,t⟩: ∃M,M=QT m:=⟨_,rfl⟩;have q:=Xh t;clear t;rcases hk with hk| hk
  · have u:(k==0)=true:=by simpa using hk
    clear hk
    go_enter Tryz.func47,Tryz.ntmps47
    go_wp2;refine Qp 0 rfl ?_
    go_wp2_with ((go_at_call 109;(with_reducible refine(Zf m _ h0).mono ?_);rw [←q.out];rintro e y ⟨rfl,c⟩;obtain⟨z,A,B,d,-⟩:=QU c;try simp at d))
    go_step3;refine⟨rfl,?_⟩;go_wp2;refine QW ?_;intro b C D E F h
    (have x:Ext w b:=Ext.of (w:=w) h Xe)
    go_region_held3 (UpE (w.heap.size+1+1) w b) (first| with_reducible exact UpE.start (by assumption)| with_reducible exact UpE.next (by assumption) (by assumption)| ((repeat((with_reducible refine UpE.st _ ?_ ?_);focus(first| omega| (simp;omega)| simp)));with_reducible assumption)) (first| (go_at_call 111;(with_reducible refine(Z9 _ _).mono ?_);rintro e i ⟨G,rfl,j,l,a⟩;obtain⟨H,I,J,o,-⟩:=QU a;try simp at o)| (go_at_call 187;(with_reducible refine(Z0 ⟨_,_,_,_⟩ _ _ _ _ _ _ _ _ _ j l).mono ?_);rintro e i ⟨rfl,a⟩;obtain⟨K,L,N,p,-⟩:=QU a;try simp at p))
    all_goals
      go_wp2;rw [Exit.noGoto_ret];refine bodyPost_ret (v:=(Zs 13).v) ?_ rfl ⟨rfl,?_⟩
      · (simp [results,Tryz.results47,go_sem,Zs, *];done)
      · (exact Xe)
  · have u:(k==0)=false:=by simp;omega
    go_enter Tryz.func47,Tryz.ntmps47
    go_wp2;refine Qp 0 rfl ?_
    go_wp2_with ((go_at_call 109;(with_reducible refine(Zf m _ h0).mono ?_);rw [←q.out];rintro e y ⟨rfl,c⟩;obtain⟨z,A,B,d,-⟩:=QU c;try simp at d))
    go_step3;refine⟨rfl,?_⟩;go_wp2;refine QW ?_;intro b C D E F h
    (have x:Ext w b:=Ext.of (w:=w) h Xe)
    go_region_held3 (UpE (w.heap.size+1+1) w b) (first| with_reducible exact UpE.start (by assumption)| with_reducible exact UpE.next (by assumption) (by assumption)| ((repeat((with_reducible refine UpE.st _ ?_ ?_);focus(first| omega| (simp;omega)| simp)));with_reducible assumption)) (first| (go_at_call 111;(with_reducible refine(Z9 _ _).mono ?_);rintro e i ⟨G,rfl,j,l,a⟩;obtain⟨H,I,J,o,-⟩:=QU a;try simp at o)| (go_at_call 187;(with_reducible refine(Z0 ⟨_,_,_,_⟩ _ _ _ _ _ _ _ _ _ j l).mono ?_);rintro e i ⟨rfl,a⟩;obtain⟨K,L,N,p,-⟩:=QU a;try simp at p))
    all_goals
      go_wp2;rw [Exit.noGoto_ret];refine bodyPost_ret (v:=(Zs 13).v) ?_ rfl ⟨rfl,?_⟩
      · (simp [results,Tryz.results47,go_sem,Zs, *];done)
      · (exact Xe)
theorem QkZ(m:Md)(k f g:Int)(s r:Bool)(w:World)(h0:0≤m.k)(h1:1≤k)(h2:k<6):
    Cr 47 #[m.v,av k f g s true r] w (⟨1,0,0,0,0⟩:Ac).v:=by
  obtain⟨M,a⟩: ∃M,M=QT m:=⟨_,rfl⟩;have b:=Xh a;clear a;have h:(k==0)=false:=by simp;omega
  · go_enter Tryz.func47,Tryz.ntmps47
    go_wp2;refine Qp 0 rfl ?_
    go_wp2_with ((go_at_call 109;(with_reducible refine(Zf m _ h0).mono ?_);rw [←b.out];rintro e i ⟨rfl,c⟩;obtain⟨j,l,n,d,-⟩:=QU c;try simp at d))
    (try simp only [Exit.jump])
    refine bodyPost_ret (v:=(⟨1,0,0,0,0⟩:Ac).v) ?_ rfl ⟨rfl,?_⟩
    · (simp [results,Tryz.results47,go_sem, *];done)
    · (exact Xe)
theorem Qk0(m:Md)(k f g:Int)(r:Bool)(w:World)(h0:0≤m.k)(h1:1≤k)(h2:k<6)(hin: ∀y∈rulesL.I,y.2.1≠kv k false (QT m).k):
    Cr 47 #[m.v,av k f g false false r] w (Zs 16).v:=by
  have D:(k==0)=false:=by simp;omega
  obtain⟨M,b⟩: ∃M,M=QT m:=⟨_,rfl⟩;have h:=Xh b;rw [←b]at hin;have i:=Xh hin;clear b hin
  · go_enter Tryz.func47,Tryz.ntmps47
    go_wp2;refine Qp 0 rfl ?_
    go_wp2_with ((go_at_call 109;(with_reducible refine(Zf m _ h0).mono ?_);rw [←h.out];rintro e G ⟨rfl,l⟩;obtain⟨H,J,K,n,-⟩:=QU l;try simp at n))
    refine QW ?_;intro W L N O P o;have E:Ext w W:=Ext.of (w:=w) o Xe
    go_region_held3 (Up W) (with_reducible refine up ?_;(exact Xu)) (first| (go_at_call 110;(with_reducible refine(Zu _).mono ?_);rintro e c ⟨B,Q,rfl,a,p,R,q⟩;have j:=p.look YF Tryz.underlying163 (x:=kv k false M.k) ⟨_,_,_,rfl⟩ .nilFunc Kr;simp only [Qhq q i.out,Option.getD_none]at j;obtain⟨S,T,U,s,-⟩:=QU a;try simp at s))
    go_wp2;go_step3;refine⟨rfl,?_⟩;go_wp2;refine QW ?_;intro d V X Y Z t
    (have F:Ext w d:=Ext.of (w:=w) t Xe)
    go_region_held3 (UpE (w.heap.size+1+1) w d) (first| with_reducible exact UpE.start (by assumption)| with_reducible exact UpE.next (by assumption) (by assumption)| ((repeat((with_reducible refine UpE.st _ ?_ ?_);focus(first| omega| (simp;omega)| simp)));with_reducible assumption)) (first| (go_at_call 111;(with_reducible refine(Z9 _ _).mono ?_);rintro e c ⟨bq,rfl,u,z,a⟩;obtain⟨a0,a1,a2,A,-⟩:=QU a;try simp at A)| (go_at_call 187;(with_reducible refine(Z0 ⟨_,_,_,_⟩ _ _ _ _ _ _ _ _ _ u z).mono ?_);rintro e c ⟨rfl,a⟩;obtain⟨a3,a4,a5,C,-⟩:=QU a;try simp at C))
    all_goals
      go_wp2;rw [Exit.noGoto_ret];refine bodyPost_ret (v:=(Zs 16).v) ?_ rfl ⟨rfl,?_⟩
      · (simp [results,Tryz.results47,go_sem,Zs, *];done)
      · (exact Xe)
theorem Qk1(m:Md)(k f g:Int)(r:Bool)(w:World)(h0:0≤m.k)(h1:1≤k)(h2:k<6)(k2:(k==2)=true)(hin: ∀y∈rulesL.I,y.2.1≠kv k true (QT m).k):
    Cr 47 #[m.v,av k f g true false r] w (Zs 16).v:=by
  have D:(k==0)=false:=by simp;omega
  obtain⟨M,b⟩: ∃M,M=QT m:=⟨_,rfl⟩;have h:=Xh b;rw [←b]at hin;have i:=Xh hin;clear b hin
  · go_enter Tryz.func47,Tryz.ntmps47
    go_wp2;refine Qp 0 rfl ?_
    go_wp2_with ((go_at_call 109;(with_reducible refine(Zf m _ h0).mono ?_);rw [←h.out];rintro e G ⟨rfl,l⟩;obtain⟨H,J,K,n,-⟩:=QU l;try simp at n))
    refine QW ?_;intro W L N O P o;have E:Ext w W:=Ext.of (w:=w) o Xe
    go_region_held3 (Up W) (with_reducible refine up ?_;(exact Xu)) (first| (go_at_call 110;(with_reducible refine(Zu _).mono ?_);rintro e c ⟨B,Q,rfl,a,p,R,q⟩;have j:=p.look YF Tryz.underlying163 (x:=kv k true M.k) ⟨_,_,_,rfl⟩ .nilFunc Kr;simp only [Qhq q i.out,Option.getD_none]at j;obtain⟨S,T,U,s,-⟩:=QU a;try simp at s))
    go_wp2;go_step3;refine⟨rfl,?_⟩;go_wp2;refine QW ?_;intro d V X Y Z t
    (have F:Ext w d:=Ext.of (w:=w) t Xe)
    go_region_held3 (UpE (w.heap.size+1+1) w d) (first| with_reducible exact UpE.start (by assumption)| with_reducible exact UpE.next (by assumption) (by assumption)| ((repeat((with_reducible refine UpE.st _ ?_ ?_);focus(first| omega| (simp;omega)| simp)));with_reducible assumption)) (first| (go_at_call 111;(with_reducible refine(Z9 _ _).mono ?_);rintro e c ⟨bq,rfl,u,z,a⟩;obtain⟨a0,a1,a2,A,-⟩:=QU a;try simp at A)| (go_at_call 187;(with_reducible refine(Z0 ⟨_,_,_,_⟩ _ _ _ _ _ _ _ _ _ u z).mono ?_);rintro e c ⟨rfl,a⟩;obtain⟨a3,a4,a5,C,-⟩:=QU a;try simp at C))
    all_goals
      go_wp2;rw [Exit.noGoto_ret];refine bodyPost_ret (v:=(Zs 16).v) ?_ rfl ⟨rfl,?_⟩
      · (simp [results,Tryz.results47,go_sem,Zs, *];done)
      · (exact Xe)
theorem Qcf(m:Md)(k f g:Int)(r:Bool)(w:World)(h0:0≤m.k)(h1:1≤k)(h2:k<6)(k2:(k==2)=false)(hin: ∀y∈rulesL.I,y.2.1≠kv k true (QT m).k):
    Cr 47 #[m.v,av k f g true false r] w (Zs 17).v:=by
  have D:(k==0)=false:=by simp;omega
  obtain⟨M,b⟩: ∃M,M=QT m:=⟨_,rfl⟩;have h:=Xh b;rw [←b]at hin;have i:=Xh hin;clear b hin
  · go_enter Tryz.func47,Tryz.ntmps47
    go_wp2;refine Qp 0 rfl ?_
    go_wp2_with ((go_at_call 109;(with_reducible refine(Zf m _ h0).mono ?_);rw [←h.out];rintro e G ⟨rfl,l⟩;obtain⟨H,J,K,n,-⟩:=QU l;try simp at n))
    refine QW ?_;intro W L N O P o;have E:Ext w W:=Ext.of (w:=w) o Xe
    go_region_held3 (Up W) (with_reducible refine up ?_;(exact Xu)) (first| (go_at_call 110;(with_reducible refine(Zu _).mono ?_);rintro e c ⟨B,Q,rfl,a,p,R,q⟩;have j:=p.look YF Tryz.underlying163 (x:=kv k true M.k) ⟨_,_,_,rfl⟩ .nilFunc Kr;simp only [Qhq q i.out,Option.getD_none]at j;obtain⟨S,T,U,s,-⟩:=QU a;try simp at s))
    go_wp2;go_step3;refine⟨rfl,?_⟩;go_wp2;refine QW ?_;intro d V X Y Z t
    (have F:Ext w d:=Ext.of (w:=w) t Xe)
    go_region_held3 (UpE (w.heap.size+1+1) w d) (first| with_reducible exact UpE.start (by assumption)| with_reducible exact UpE.next (by assumption) (by assumption)| ((repeat((with_reducible refine UpE.st _ ?_ ?_);focus(first| omega| (simp;omega)| simp)));with_reducible assumption)) (first| (go_at_call 111;(with_reducible refine(Z9 _ _).mono ?_);rintro e c ⟨bq,rfl,u,z,a⟩;obtain⟨a0,a1,a2,A,-⟩:=QU a;try simp at A)| (go_at_call 187;(with_reducible refine(Z0 ⟨_,_,_,_⟩ _ _ _ _ _ _ _ _ _ u z).mono ?_);rintro e c ⟨rfl,a⟩;obtain⟨a3,a4,a5,C,-⟩:=QU a;try simp at C))
    all_goals
      go_wp2;rw [Exit.noGoto_ret];refine bodyPost_ret (v:=(Zs 17).v) ?_ rfl ⟨rfl,?_⟩
      · (simp [results,Tryz.results47,go_sem,Zs, *];done)
      · (exact Xe)
def Quw(M:Md)(k f g:Int)(s r:Bool):Ac:=
 if s=false then(if k=1∧(M.k=2∨M.k=3)then⟨3,0,2,M.p,M.g⟩else Zs 16)
 else if k=1 then
  (if M.k=0 then Zs 15 else if M.k=1 then Y4 r else if M.k=2 then⟨3,0,3,M.p,M.g⟩else if M.k=3 then⟨3,0,5,M.p,M.g⟩else Zs 17)
 else if k=2 then Zs 16
 else if k=3 then(if M.k=0∨M.k=3 then Qau M f g else Zs 17)
 else if M.k=1 then Y4 r else if M.k=2 then QeL M g r else Zs 17
def Qux(m:Md)(k f g:Int)(s n r:Bool):Ac:=
 if k=0∨6≤k then Zs 13 else if n then⟨1,0,0,0,0⟩else Quw (QT m) k f g s r
theorem Qi2(k:Int)(s:Bool)(c:Int)
  (h: ¬((s=false∧k=1∧(c=2∨c=3))∨(s=true∧((k=1∧(c=0∨c=1∨c=2∨c=3))∨(k=3∧(c=0∨c=3))∨((k=4∨k=5)∧(c=1∨c=2)))))):
  ∀y∈rulesL.I,y.2.1≠kv k s c:=by
 intro y a e;simp only [rulesL,List.mem_cons,List.not_mem_nil,or_false]at a
 apply h
 rcases a with rfl|rfl|rfl|rfl|rfl|rfl|rfl|rfl|rfl|rfl|rfl|rfl<;>(simp at e;obtain⟨rfl,rfl,rfl⟩:=e;simp)
theorem QyU(m:Md)(k f g:Int)(s n r:Bool)(w:World)(h0:0≤m.k)(hk0:0≤k):
  Cr 47 #[m.v,av k f g s n r] w (Qux m k f g s n r).v:=by
 unfold Qux
 by_cases i:k=0∨6≤k
 ·rw [if_pos i];exact QnI m k f g s n r w h0 i
 rw [if_neg i];have a:1≤k:=by omega
 have b:k<6:=by omega
 cases n
 case true=>exact QkZ m k f g s r w h0 a b
 rw [if_neg (by simp)];unfold Quw
 cases s
 ·rw [if_pos rfl]
  by_cases d:k=1∧((QT m).k=2∨(QT m).k=3)
  ·rw [if_pos d];obtain⟨rfl,d⟩:=d;refine Qds m 1 f g false r 2 ?_ w h0 a b;rcases d with d|d<;>rw [d]
   ·exact⟨3,by simp [rulesL]⟩
   ·exact⟨6,by simp [rulesL]⟩
  ·rw [if_neg d];exact Qk0 m k f g r w h0 a b (Qi2 _ _ _ (by simp only [reduceCtorEq,false_and,or_false];grind))
 ·rw [if_neg (by simp)]
  by_cases q:k=1
  ·subst q;rw [if_pos rfl]
   by_cases c:(QT m).k=0
   ·rw [if_pos c];exact QnG m 1 f g true r 15 ⟨9,by rw [c];simp [rulesL]⟩ w h0 a b
   rw [if_neg c]
   by_cases e:(QT m).k=1
   ·rw [if_pos e];exact QdR m 1 f g true r ⟨11,by rw [e];simp [rulesL]⟩ w h0 a b
   rw [if_neg e]
   by_cases h:(QT m).k=2
   ·rw [if_pos h];exact Qds m 1 f g true r 3 ⟨14,by rw [h];simp [rulesL]⟩ w h0 a b
   rw [if_neg h]
   by_cases j:(QT m).k=3
   ·rw [if_pos j];exact Qds m 1 f g true r 5 ⟨17,by rw [j];simp [rulesL]⟩ w h0 a b
   rw [if_neg j];exact Qcf m 1 f g r w h0 a b Dc (Qi2 _ _ _ (by grind))
  rw [if_neg q]
  by_cases l:k=2
  ·subst l;rw [if_pos rfl];exact Qk1 m 2 f g r w h0 a b Dc (Qi2 _ _ _ (by grind))
  rw [if_neg l];have o:(k==2)=false:=by simpa using l
  by_cases t:k=3
  ·subst t;rw [if_pos rfl]
   by_cases c:(QT m).k=0∨(QT m).k=3
   ·rw [if_pos c];refine Qi1 m 3 f g true r ?_ w h0 a b;rcases c with c|c<;>rw [c]
    ·exact⟨19,by simp [rulesL]⟩
    ·exact⟨21,by simp [rulesL]⟩
   rw [if_neg c];exact Qcf m 3 f g r w h0 a b o (Qi2 _ _ _ (by grind))
  rw [if_neg t];have p:k=4∨k=5:=by omega
  by_cases e:(QT m).k=1
  ·rw [if_pos e];refine QdR m k f g true r ?_ w h0 a b;rw [e];rcases p with rfl|rfl
   ·exact⟨23,by simp [rulesL]⟩
   ·exact⟨25,by simp [rulesL]⟩
  rw [if_neg e]
  by_cases h:(QT m).k=2
  ·rw [if_pos h];refine QnH m k f g true r ?_ w h0 a b;rw [h];rcases p with rfl|rfl
   ·exact⟨27,by simp [rulesL]⟩
   ·exact⟨29,by simp [rulesL]⟩
  rw [if_neg h];exact Qcf m k f g r w h0 a b o (Qi2 _ _ _ (by grind))
open Go.RowKit
end Go.Proofs.YtpeonbaodnmlnaaGreat.Ru
