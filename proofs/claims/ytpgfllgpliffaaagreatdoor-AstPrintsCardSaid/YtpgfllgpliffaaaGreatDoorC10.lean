/- Contracts of functions that the law reaches, and plain laws. Conditions: those that each contract states. -/
import Derived.Test.YtpgfllgpliffaaaGreatDoorC9
import Derived.Shelf.Strings.Search1
set_option maxHeartbeats 8000000
set_option linter.unusedVariables false
set_option linter.unusedSimpArgs false
variable {p:Prop}
set_option maxRecDepth 100000
namespace Go.Am.Ty
open Go.Proofs Go.Rose Go.Rose.Rose
open Enc (enc dec)
def lJ (o:List (List UInt8)) (x:List UInt8):Bool:=match o.getLast? with
 | none=>true
 | some y=>Op.bytesLess y x
def Pn (o:List (List UInt8)) (s:List UInt8×Bool) (x:List UInt8):List UInt8×Bool:=if (lJ o x&&(!s.2||Op.bytesLess x s.1))=true then (x,true) else s
def Ld (o l:List (List UInt8)):List UInt8×Bool:=l.foldl (Pn o) ([],false)
def kO (l:List (List UInt8)):Nat→List (List UInt8)→List (List UInt8)
 | 0,o=>o
 | f+1,o=>if (Ld o l).2=true then kO l f (o++[(Ld o l).1]) else o
def lU (l:List (List UInt8)):List (List UInt8):=kO l (l.length+1) []
theorem Zat (x:List UInt8):lJ [] x=true:=rfl
theorem D8 (o:List (List UInt8)) (y x:List UInt8):lJ (o++[y]) x=Op.bytesLess y x:=by
 unfold lJ;rw [List.getLast?_append];rfl
theorem Cf (o:List (List UInt8)):∀ (l:List (List UInt8)) (s:List UInt8×Bool),(s.2=true→lJ o s.1=true) →
  ((l.foldl (Pn o) s).2=true→((l.foldl (Pn o) s).1∈l∨s=l.foldl (Pn o) s)∧lJ o (l.foldl (Pn o) s).1=true∧∀ y∈l,lJ o y=true→Op.bytesLess y (l.foldl (Pn o) s).1=false) ∧
  (s.2=true→(l.foldl (Pn o) s).2=true∧Op.bytesLess s.1 (l.foldl (Pn o) s).1=false) ∧
  ((l.foldl (Pn o) s).2=false→∀ y∈l,lJ o y=false)
 | [],s,h=>⟨fun h2=>⟨.inr rfl,h h2,fun y hy=>by cases hy⟩,fun h2=>⟨h2,Pz _⟩,fun _ y hy=>by cases hy⟩
 | x::l,s,h=>by
  have Us:Pn o s x=if (lJ o x&&(!s.2||Op.bytesLess x s.1))=true then (x,true) else s:=rfl
  rw [List.foldl_cons];by_cases hc:(lJ o x&&(!s.2||Op.bytesLess x s.1))=true
  ·rw [if_pos hc] at Us;rw [Us];rw [Zg] at hc;obtain ⟨i1,i2,i3⟩:=Cf o l (x,true) (fun _=>hc.1);obtain ⟨j1,j2⟩:=i2 rfl;simp only at j2;refine ⟨fun h2=>?_,fun h2=>⟨j1,?_⟩,fun h2=>by rw [j1] at h2;cases h2⟩
   ·obtain ⟨k1,k2,k3⟩:=i1 h2;refine ⟨.inl ?_,k2,fun y hy hg=>?_⟩
    ·rcases k1 with k1|k1
     ·exact List.mem_cons_of_mem _ k1
     ·rw [←k1];exact List.mem_cons_self
    ·rcases Z2.1 hy with rfl|hy
     ·exact j2
     ·exact k3 y hy hg
   ·have h3:Op.bytesLess x s.1=true:=by
     have:=hc.2;rw [h2] at this;simpa using this
    cases hb:Op.bytesLess s.1 (l.foldl (Pn o) (x,true)).1 with
    | false=>rfl
    | true =>
     have:=Sa h3 hb;rw [j2] at this;cases this
  ·rw [if_neg hc] at Us;rw [Us];obtain ⟨i1,i2,i3⟩:=Cf o l s h;have hx:∀ (hg:lJ o x=true),s.2=true∧Op.bytesLess x s.1=false:=by
    intro hg;rw [hg,Bool.true_and] at hc;simpa using hc
   refine ⟨fun h2=>?_,i2,fun h2 y hy=>?_⟩
   ·obtain ⟨k1,k2,k3⟩:=i1 h2;refine ⟨?_,k2,fun y hy hg=>?_⟩
    ·rcases k1 with k1|k1
     ·exact .inl (List.mem_cons_of_mem _ k1)
     ·exact .inr k1
    ·rcases Z2.1 hy with rfl|hy
     ·obtain ⟨g1,g2⟩:=hx hg;obtain ⟨g3,g4⟩:=i2 g1;cases hb:Op.bytesLess y (l.foldl (Pn o) s).1 with
      | false=>rfl
      | true =>
       by_cases he:s.1=y
       ·rw [he] at g4;rw [hb] at g4;cases g4
       ·have:=Sa (bW he g2) hb;rw [g4] at this;cases this
     ·exact k3 y hy hg
   ·rcases Z2.1 hy with rfl|hy
    ·cases hg:lJ o y with
     | false=>rfl
     | true =>
      have:=(i2 (hx hg).1).1;rw [h2] at this;cases this
    ·exact i3 h2 y hy
theorem kZ {o l:List (List UInt8)} (h:(Ld o l).2=true):(Ld o l).1∈l∧lJ o (Ld o l).1=true∧∀ y∈l,lJ o y=true→Op.bytesLess y (Ld o l).1=false:=by
 obtain ⟨h1,h2,h3⟩:=(Cf o l ([],false) (fun h=>by cases h)).1 h
 refine ⟨?_,h2,h3⟩;rcases h1 with h1|h1
 ·exact h1
 ·exfalso;have:(Ld o l).2=false:=(congrArg Prod.snd h1).symm;rw [h] at this;cases this
theorem yG {o l:List (List UInt8)} (h:(Ld o l).2=false):∀ y∈l,lJ o y=false:=(Cf o l ([],false) (fun h=>by cases h)).2.2 h
def Zg3 (o l:List (List UInt8)):Nat:=(l.filter (lJ o)).length
theorem nO {p q:List UInt8→Bool}:∀ {l:List (List UInt8)} {b:List UInt8},(∀ x,p x=true→q x=true)→b∈l→q b=true→p b=false→(l.filter p).length<(l.filter q).length
 | [],b,_,h,_,_=>by cases h
 | x::l,b,hpq,hb,h1,h2=>by
  have M8:(l.filter p).length≤(l.filter q).length:=by
   clear hb
   induction l with
   | nil=>simp
   | cons y l ih =>
    rw [List.filter_cons,List.filter_cons];cases hp:p y with
    | true=>rw [hpq y hp];simpa using ih
    | false =>
     cases q y with
     | true=>simp only [if_true,Zd];simp only [Zn,if_false];omega
     | false=>simpa using ih
  rw [List.filter_cons,List.filter_cons];rcases Z2.1 hb with rfl|hb
  ·rw [h1,h2];simp only [Zn,if_false,if_true,Zd];omega
  ·have ih:=nO (l:=l) hpq hb h1 h2;cases hp:p x with
   | true=>rw [hpq x hp];simpa using ih
   | false =>
    cases q x with
    | true=>simp only [Zn,if_false,if_true,Zd];omega
    | false=>simpa using ih
theorem Za9 {o l:List (List UInt8)} (h:(Ld o l).2=true):Zg3 (o++[(Ld o l).1]) l<Zg3 o l:=by
 obtain ⟨h1,h2,h3⟩:=kZ h;refine nO (fun x hx=>?_) h1 h2 ?_
 ·rw [D8] at hx;unfold lJ at h2 ⊢;cases ho:o.getLast? with
  | none=>rfl
  | some y =>
   rw [ho] at h2;exact Sa h2 hx
 ·rw [D8];exact Pz _
theorem Zba {o l:List (List UInt8)}:Zg3 o l≤l.length:=List.length_filter_le _ _
noncomputable def Tl (t:List Part):List (List UInt8):=lU (freeT (Vs Xj t 0) [])
noncomputable def jH:Con:=Ur 10001
theorem tL:Jd Tryz.prog (48,jH):=dM _
def vY (t:List Part):Prop:=Me t∧∃ x,At Xj t 0 x∧(nds x).length≤10000
noncomputable def Fv:Con:=Xh (fun (t:Sl Part)=>vY t.l) (fun t=>Sl.mk (Tl t.l))
class Kin:Prop
theorem Kin.k (_:Kin) (h:p:=by
 first|contradiction|exact ⟨(f,o++[best]),by exact Xa,by simp only;omega,by simp;omega,hs,by simp only;omega⟩|skip):p:=h
class Kio:Prop
theorem Kio.k (_:Kio) (h:p:=by
 first|contradiction|exact ⟨(i+1,x0,true),by exact Xa,by simp only;omega,Y2,by simp only;omega⟩|skip):p:=h
class Kip:Prop
theorem Kip.k (_:Kip) (h:p:=by
 first|contradiction|exact ⟨(i+1,x0,true),by exact Xa,by simp only;omega,Y2,by simp only;omega⟩|skip):p:=h
class Kiq:Prop
theorem Kiq.k (_:Kiq) (h:p:=by
 first|contradiction|exact ⟨(i+1,best,true),by exact Xa,by simp only;omega,Y2,by simp only;omega⟩|skip):p:=h
class Kir:Prop
theorem Kir.k (_:Kir) (h:p:=by
 first|contradiction|exact ⟨(i+1,best,Qcb),by exact Xa,by simp only;omega,Y2,by simp only;omega⟩|skip):p:=h
class Kis:Prop
theorem Kis.k (_:Kis) (h:p:=by
 first|contradiction|exact ⟨(i+1,x0,true),by exact Xa,by simp only;omega,Y2,by simp only;omega⟩|skip):p:=h
class Kit:Prop
theorem Kit.k (_:Kit) (h:p:=by
 first|contradiction|exact ⟨(i+1,x0,true),by exact Xa,by simp only;omega,Y2,by simp only;omega⟩|skip):p:=h
class Kiu:Prop
theorem Kiu.k (_:Kiu) (h:p:=by
 first|contradiction|exact ⟨(i+1,best,true),by exact Xa,by simp only;omega,Y2,by simp only;omega⟩|skip):p:=h
class Kim:Prop
theorem Kim.k (_:Kim) (h:p:=by
 refine Z4 [11,12,13,14,15,16,17,18,19,20,21,22,23,24,25,26,27,28,29,30,31,32,33,34,35,36,37,38,39,40,41,42,43,44,45,46,47,48] (fun q:Nat×List UInt8×Bool=>[(5,.d (.str q.2.1)),(6,.d (.bool q.2.2)),(7,.d (.int .i64 q.1))]) (fun q:Nat×List UInt8×Bool=>[]) (fun q:Nat×List UInt8×Bool=>q.1≤l.length∧(l.drop q.1).foldl (Pn o) q.2=S) (fun q:Nat×List UInt8×Bool=>l.length-q.1) (0,[],false) ?_ ?_ ?_
 ·exact ⟨Nat.zero_le _,Qc1⟩
 ·exact Xa
 rintro ⟨i,best,Qcb⟩ ⟨hi,Y2⟩;simp only at hi Y2;rcases Qh i l.length with ⟨Qg,Qx⟩|⟨Qg,Qx⟩
 rotate_left
 ·have Qh7:i=l.length:=by omega
  rw [Qh7,List.drop_length] at Y2;subst Y2;simp only [List.foldl_nil] at hs zW;cases Qcb with
  | false =>
   simp only [Zn,if_false] at hs;subst hs;exact Ng
  | true =>
   simp only [if_true] at hs;have oH:=zW rfl;have Q3:o.map (enc:List UInt8→D)++[.str best]=(o++[best]).map enc:=Ab;have Kq:Kin:=⟨⟩;exact Qa
 have Ji:=Qc ([]:List UInt8) Qg;rw [List.drop_eq_getElem_cons Qg,List.foldl_cons,show l[i]=l.getD i [] by simp [Qg]] at Y2
 obtain ⟨x0,Zkf⟩:=exq (l.getD i []);rw [Zkf] at Ji Y2;obtain ⟨s',lD⟩:∃ s',Pn o (best,Qcb) x0=s':=⟨_,rfl⟩;rw [lD] at Y2;unfold Pn at lD;simp only at lD;obtain ⟨lb,Jl⟩:=exq (Op.bytesLess x0 best);rw [Jl] at lD;rcases List.eq_nil_or_concat o with Qht|⟨o',y,zY⟩
 ·subst Qht;rw [Zat,Bool.true_and] at lD;have Js:((0:Int)==0)=true:=rfl;cases Qcb with
  | false =>
   rw [if_pos (by simp)] at lD
   subst lD;have Kq:Kio:=⟨⟩;exact Qa
  | true =>
   cases lb with
   | true =>
    rw [if_pos (by simp)] at lD
    subst lD;have Kq:Kip:=⟨⟩;exact Qa
   | false =>
    rw [if_neg (by simp)] at lD
    subst lD;have Kq:Kiq:=⟨⟩;exact Qa
 ·rw [List.concat_eq_append] at zY;rw [show lJ o x0=Op.bytesLess y x0 by rw [zY,D8]] at lD
  have Cm:o.length=o'.length+1:=by rw [zY];simp
  have Js:((o.length:Int)==0)=false:=Za.2 (by omega)
  have Jk:el (o.map enc) o'.length=.str y:=by rw [zY];simp [el]
  have Q7:((o.length:Int)-1)=(o'.length:Int):=by omega
  have Zz:=iC x0 y;obtain ⟨g,Qh9⟩:=exq (Op.bytesLess y x0);rw [Qh9] at Zz lD;cases g with
  | false =>
   rw [if_neg (by simp)] at lD
   subst lD;have Kq:Kir:=⟨⟩;exact Qa
  | true =>
   cases Qcb with
   | false =>
    rw [if_pos (by simp)] at lD
    subst lD;have Kq:Kis:=⟨⟩;exact Qa
   | true =>
    cases lb with
    | true =>
     rw [if_pos (by simp)] at lD
     subst lD;have Kq:Kit:=⟨⟩;exact Qa
    | false =>
     rw [if_neg (by simp)] at lD
     subst lD;have Kq:Kiu:=⟨⟩;exact Qa):p:=h
class Kil:Prop
theorem Kil.k (_:Kil) (h:p:=by
 repeat' first|exact Cg|with_reducible apply Z9|intro _
 all_goals first|exact Qbj|exact hT|omega|skip
 refine Z4 [2,5,6,7,11,12,13,14,15,16,17,18,19,20,21,22,23,24,25,26,27,28,29,30,31,32,33,34,35,36,37,38,39,40,41,42,43,44,45,46,47,48,49,50,51,52,53,54,55] (fun p:Nat×List (List UInt8)=>[(4,.sl 10 (p.2.map (enc:List UInt8→D)).length)]) (fun p:Nat×List (List UInt8)=>[(10,.row 1 (p.2.map enc) 0)]) (fun p:Nat×List (List UInt8)=>Zg3 p.2 l<p.1∧p.2.length+p.1≤l.length+1∧kO l p.1 p.2=R) (fun p:Nat×List (List UInt8)=>p.1) (l.length+1,[]) ?_ ?_ ?_
 ·exact ⟨by have:=Zba (o:=[]) (l:=l);simp only;omega,by simp,Qj⟩
 ·exact Xa
 rintro ⟨f,o⟩ ⟨hc,ho,hs⟩;simp only at hc ho hs;obtain ⟨f,rfl⟩:∃ g,f=g+1:=⟨f-1,by omega⟩
 rw [kO] at hs;obtain ⟨S,hS⟩:=exq (Ld o l);have Qc1:=hS;unfold Ld at Qc1;have zW:=Za9 (o:=o) (l:=l);rw [hS] at hs zW;have Kq:Kim:=⟨⟩;exact Qa):p:=h
theorem good_Free5:Jd Tryz.prog (25,Fv):=by
 obtain ⟨Kx,Kt,Kc,Kd,Kb,Ku,Kw,K,Y0,_⟩:=Yc Qp Z0 [] false (Xu tL jH.eq_def Yb);have Ko:=Fv.eq_def;refine Ve K Tryz.func25 [.tmp 2] rfl 56 rfl (fun c hc J0 Zo=>?_);unfold Fv at Zo;obtain ⟨⟨t⟩,rfl,hT,x,hx,hn⟩:=Qs Zo;simp only at hT hx;clear Zo;have Qz:Vs Xj t 0=x:=Xp hx;obtain ⟨R,Ql⟩:=exq (Tl t);have Qj:=Ql;unfold Tl lU at Qj;rw [Qz] at Qj;have Zx5:=freeT_len x [];obtain ⟨l,Q2⟩:=exq (freeT x []);rw [Q2] at Qj Zx5;have Qbj:(∃ x,At Xj t (0:Int).toNat x∧(nds x).length<10001∧([]:List (List UInt8)).length+2*(nds x).length≤900000):=⟨x,hx,by omega,by simp;omega⟩
 cases hc;refine Ym 3 ?_;have Qi:=@Ur.eq_def;have Kq:Kil:=⟨⟩;exact rT
open Go.Proofs Go.Rose Go.Rose.Rose Gr
noncomputable def dN (t:List Part):List (List UInt8):=Dt (partT (Vs Xj t 0) [] [])
theorem sD {c:Nat}:∀ (x:Rose Part) (b S:List (List UInt8)),(∀ p∈nds x,p.name.length≤c)→(∀ s∈S,s.length≤c)→∀ s∈partT x b S,s.length≤c:=by
 intro x
 induction x using Rose.rec (motive_2:=fun xs=>∀ (p:Part) (k:Nat) (b S:List (List UInt8)),(∀ q∈ndss xs,q.name.length≤c)→(∀ s∈S,s.length≤c)→∀ s∈partTs p xs k b S,s.length≤c) with
 | mk p ks ih =>
  intro b S hn hS s hs;rw [Jt] at hn;rw [partT] at hs;split at hs
  ·split at hs
   ·exact hS s hs
   ·unfold Ha at hs;cases hg:Uv p.name S with
    | true=>rw [hg,cond_true] at hs;exact hS s hs
    | false =>
     rw [hg,cond_false] at hs;rcases List.mem_append.1 hs with hs|hs
     ·exact hS s hs
     ·rw [Qy] at hs;subst hs;exact hn p (List.mem_cons_self ..)
  ·exact ih p 0 b S (fun q hq=>hn q (List.mem_cons_of_mem _ hq)) hS s hs
 | nil=>rename_i p k b S hn hS s hs;exact hS s hs
 | cons x xs ih1 ih2 =>
  rename_i p k b S hn hS s hs;rw [partTs] at hs;rw [ndss] at hn;exact ih2 p (k+1) b _ (fun q hq=>hn q (List.mem_append_right _ hq)) (ih1 _ S (fun q hq=>hn q (List.mem_append_left _ hq)) hS) s hs
noncomputable def Wh:BCon:=Z1 10001
theorem eO:X9 Tryz.prog (44,Wh):=Cx _
noncomputable def Sk:Con:=Xh (fun (t:Sl Part)=>vY t.l∧∀ p∈t.l,p.name.length≤3000000) (fun t=>Sl.mk (dN t.l))
class Kiv:Prop
theorem Kiv.k (_:Kiv) (h:p:=by
 cases H with
 | false =>
  have Qz:Wh.post ⟨t,0,none,[]⟩=pN t j V:=vC;refine Zm (bc:=Wh) ⟨t,0,none,[]⟩ [1,5,4,3,7,6,8] Un rfl (by simp) (by rw [Qz];rfl) ?_ ?_ ?_
  ·show Ze _ _ (pN t 0 []) _;rw [Ms];simp [Ze,lk,Q4,rnA,rnAs,rk,Rb];rfl
  ·show Zj (List.drop (pN t 0 []).length _) _;rw [Ms];simp [Zj,lk]
  have Q3:=@Ms;have Ji:=@Zao;have Jl:=@Za5;have Js:=@Za1;have Jk:=@Zap;have Q7:=@Za6;exact Ng
 | true =>
  have Qz:Wh.post ⟨t,0,none,[]⟩=pB t j [] V:=vC;refine Zm (bc:=Wh) ⟨t,0,none,[]⟩ [1,5,4,3,7,6,8,60000] Un rfl (by simp) (by rw [Qz];rfl) ?_ ?_ ?_
  ·show Ze _ _ (pN t 0 []) _;rw [Ms];simp [Ze,lk,Q4,rnA,rnAs,rk,Rb];rfl
  ·show Zj (List.drop (pN t 0 []).length _) _;rw [Ms];simp [Zj,lk]
  have Q3:=@Yh;have Ji:=@Zao;have Jl:=@Za5;have Js:=@Za1;have Jk:=@Zap;have Q7:=@Za6;exact Ng):p:=h
theorem good_FreeA:Jd Tryz.prog (24,Sk):=by
 obtain ⟨Kx,Kt,Kc,Kd,Kb,Ku,Kw,K,Y0,Xr,eV,_⟩:=Yc Qp Z0 [] false (Xu xS oJ.eq_def (Xu qY La.eq_def (A6 eO Wh.eq_def Yb)));have Ko:=Sk.eq_def;refine Ve K Tryz.func24 [.tmp 2] rfl 16 rfl (fun c hc J0 Zo=>?_);unfold Sk at Zo;obtain ⟨⟨t⟩,rfl,⟨hT,x,hx,hn⟩,Ut⟩:=Qs Zo;simp only at hT hx Ut;clear Zo;have Zxq:Vs Xj t 0=x:=Xp hx;obtain ⟨R,Qx⟩:=exq (dN t);have Ql:=Qx;unfold dN at Ql;rw [Zxq] at Ql;have zJ:=partT_len x [] [];obtain ⟨hw,r,hr⟩:=id hx;have Qcp:=sD (c:=3000000) x [] [] (fun p hp=>Ut p (by rw [List.drop_zero] at hr;rw [hr];exact List.mem_append_left _ hp)) (fun s hs=>by cases hs)
 obtain ⟨V,hV⟩:=exq (partT x [] []);rw [hV] at Ql zJ Qcp;obtain ⟨j,hj⟩:=exq (0+(nds x).length);obtain ⟨H,hH⟩:=exq (hasB x);have vC:Wh.post ⟨t,0,none,[]⟩=pP t j none H V:=Up (n:=10001) (o:=none) hx hj hH hV;have Un:Wh.ok ⟨t,0,none,[]⟩:=⟨hT,x,hx,by omega,by show 0+0+_≤_;omega,by show 0+_≤_;omega⟩
 have Q2:Wh.res ⟨t,0,none,[]⟩=.tup []:=rfl;simp only [List.length_nil] at zJ;have zQ:V.length≤1000000:=by omega
 cases hc;have Kq:Kiv:=⟨⟩;exact Qa
def Zeg (l:List (List UInt8)):Prop:=l.Pairwise fun a b=>Op.bytesLess a b=true
theorem Zf1 {o:List (List UInt8)} {b:List UInt8} (h:Zeg o) (hg:lJ o b=true):Zeg (o++[b]):=by
 unfold Zeg;rw [List.pairwise_append];refine ⟨h,by simp,fun a ha c hc=>?_⟩
 rw [Qy] at hc;subst hc;rcases List.eq_nil_or_concat o with rfl|⟨o',z,rfl⟩
 ·cases ha
 ·rw [List.concat_eq_append] at ha h hg;rw [D8] at hg;rcases List.mem_append.1 ha with ha|ha
  ·unfold Zeg at h;rw [List.pairwise_append] at h;exact Sa (h.2.2 a ha z (by simp)) hg
  ·rw [Qy] at ha;rw [ha];exact hg
theorem Zf2:∀ {a b:List (List UInt8)},Zeg a→Zeg b→(∀ s,s∈a↔s∈b)→a=b
 | [],[],_,_,_=>rfl
 | [],y::b,_,_,h=>by have:=(h y).2 (by simp);cases this
 | x::a,[],_,_,h=>by have:=(h x).1 (by simp);cases this
 | x::a,y::b,ha,hb,h=>by
  unfold Zeg at ha hb;rw [List.pairwise_cons] at ha hb;have Zvd:x=y:=by
   rcases Z2.1 ((h x).1 (by simp)) with e|h1
   ·exact e
   ·rcases Z2.1 ((h y).2 (by simp)) with e|h2
    ·exact e.symm
    ·have h3:=Sa (ha.1 y h2) (hb.1 x h1);rw [Pz] at h3;cases h3
  subst Zvd;rw [Zf2 (a:=a) (b:=b) ha.2 hb.2 fun s=>?_];constructor
  ·intro hs;rcases Z2.1 ((h s).1 (List.mem_cons_of_mem _ hs)) with e|h1
   ·subst e;have:=ha.1 s hs;rw [Pz] at this;cases this
   ·exact h1
  ·intro hs;rcases Z2.1 ((h s).2 (List.mem_cons_of_mem _ hs)) with e|h1
   ·subst e;have:=hb.1 s hs;rw [Pz] at this;cases this
   ·exact h1
theorem mZ {l:List (List UInt8)}:∀ (f:Nat) (o:List (List UInt8)),Zg3 o l<f→Zeg o→(∀ s∈o,s∈l)→(∀ y∈l,lJ o y=false→y∈o)→Zeg (kO l f o)∧∀ s,s∈kO l f o↔s∈l
 | 0,o,h,_,_,_=>by omega
 | f+1,o,hf,h1,h2,h3=>by
  rw [kO];split
  ·rename_i hb;obtain ⟨b1,b2,b3⟩:=kZ hb;have hc:=Za9 hb;refine mZ f _ (by omega) (Zf1 h1 b2) (fun s hs=>?_) (fun y hy hg=>?_)
   ·rcases List.mem_append.1 hs with hs|hs
    ·exact h2 s hs
    ·rw [Qy] at hs;rw [hs];exact b1
   ·rw [D8] at hg;cases Bd:lJ o y with
    | false=>exact List.mem_append_left _ (h3 y hy Bd)
    | true =>
     have h4:=b3 y hy Bd;refine List.mem_append_right _ ?_;rw [Qy];refine Classical.byContradiction fun Hk=>?_;have h5:=bW Hk hg;rw [h4] at h5;cases h5
  ·rename_i hb;have hb:(Ld o l).2=false:=by simpa using hb
   exact ⟨h1,fun s=>⟨h2 s,fun hs=>h3 s hs (yG hb s hs)⟩⟩
theorem wW (l:List (List UInt8)):Zeg (lU l)∧∀ s,s∈lU l↔s∈l:=by
 unfold lU;have:=Zba (o:=[]) (l:=l);exact mZ _ _ (by omega) List.Pairwise.nil (fun s hs=>by cases hs) (fun y _ hg=>by rw [Zat] at hg;cases hg)
theorem wK {l:List (List UInt8)} (hn:l.Nodup):Zeg (Dt l)∧∀ s,s∈Dt l↔s∈l:=by
 have hp:=List.mergeSort_perm l fun x y=>decide (x≤y);have hs:(Dt l).Pairwise fun x y=>decide (x≤y)=true:=by
  refine List.pairwise_mergeSort (fun a b c h1 h2=>?_) (fun a b=>?_) l
  ·rw [decide_eq_true_eq] at *;exact List.le_trans h1 h2
  ·rw [Bool.or_eq_true,decide_eq_true_eq,decide_eq_true_eq];exact List.le_total a b
 have F9:(Dt l).Nodup:=hp.nodup_iff.2 hn;refine ⟨?_,fun s=>hp.mem_iff⟩;unfold Zeg;refine List.Pairwise.imp₂ (fun a b h1 h2=>?_) hs F9;rw [decide_eq_true_eq] at h1;refine bW h2 ?_;rw [bytesLess_eq,decide_eq_false_iff_not];exact fun h=>(List.not_lt.2 h1) h
theorem Bz {b:List (List UInt8)} {x s:List UInt8}:A5 (b++[x]) s=(A5 b s||x==s):=by
 unfold A5;rw [List.any_append,List.any_cons,List.any_nil,Bool.or_false]
theorem Zcs {p:Part} {k:Nat} {b b':List (List UInt8)} (h:∀ s,A5 b s=A5 b' s) (s:List UInt8):A5 (Dz p k b) s=A5 (Cv p k b') s:=by
 unfold Dz Cv;by_cases h2:p.kind=2∨p.kind=8∨(p.kind=4∧k=1)
 ·have h5:¬ p.kind=5:=by omega
  rw [if_pos h2,if_pos (by omega),if_neg h5,List.append_nil,Bz,Bz,h]
 ·rw [if_neg h2];by_cases h5:p.kind=5
  ·rw [if_pos h5,if_pos h5];by_cases hk:k=0
   ·rw [if_pos hk,if_pos (by omega),show b++[p.name,p.bind]=(b++[p.name])++[p.bind] by simp,Bz,Bz,Bz,Bz,h]
    cases A5 b' s<;>cases (p.name==s)<;>cases (p.bind==s)<;>rfl
   ·rw [if_neg hk,if_neg (by omega),Bz,Bz,h]
  ·rw [if_neg h5,if_neg h5,if_neg (by omega),List.append_nil,h]
theorem mM {x s:List UInt8} {S:List (List UInt8)}:s∈Ha x S↔s∈S∨s=x:=by
 unfold Ha;cases hg:Uv x S with
 | true =>
  rw [cond_true];refine ⟨.inl,fun h=>h.elim id fun e=>?_⟩;subst e;clear h
  induction S with
  | nil=>cases hg
  | cons y S ih =>
   simp only [Uv,Bool.or_eq_true,Zi] at hg;rcases hg with rfl|hg
   ·exact List.mem_cons_self ..
   ·exact List.mem_cons_of_mem _ (ih hg)
 | false=>rw [cond_false,List.mem_append,Qy]
theorem Zfn:∀ (x:Rose Part) (b b' S:List (List UInt8)),wf Xj x→(∀ s,A5 b s=A5 b' s)→∀ s,s∈partT x b S↔s∈S∨s∈freeT x b':=by
 intro x
 induction x using Rose.rec (motive_2:=fun xs=>∀ (p:Part) (k:Nat) (b b' S:List (List UInt8)),wfs Xj xs→(∀ s,A5 b s=A5 b' s)→∀ s,s∈partTs p xs k b S↔s∈S∨s∈freeTs p xs k b') with
 | mk p ks ih =>
  intro b b' S hw hb s;obtain ⟨h1,h2⟩:=hw;rw [partT,freeT];by_cases hk:p.kind=1
  ·have hz:ks=[]:=by
    refine List.length_eq_zero_iff.1 (h1.trans ?_);unfold Xj Qu;rw [if_neg (by omega),if_neg (by omega),if_neg (by omega),if_neg (by omega),if_neg (by omega)]
    rfl
   subst hz;rw [if_pos hk,hb];cases aL:A5 b' p.name with
   | true =>
    rw [if_pos rfl,if_neg (by rintro ⟨_,h⟩;cases h),freeTs]
    simp
   | false =>
    rw [if_neg (by simp),if_pos ⟨hk,rfl⟩,mM,Qy]
  ·rw [if_neg hk,if_neg (fun h=>hk h.1)];exact ih p 0 b b' S h2 hb s
 | nil =>
  rename_i p k b b' S hw hb s;rw [partTs,freeTs];simp
 | cons x xs ih1 ih2 =>
  rename_i p k b b' S hw hb s;rw [partTs,freeTs,ih2 p (k+1) b b' _ hw.2 hb s,ih1 _ (Cv p k b') S hw.1 (Zcs hb) s,List.mem_append,or_assoc]
theorem wS:∀ (x:Rose Part) (b S:List (List UInt8)),S.Nodup→(partT x b S).Nodup:=by
 intro x
 induction x using Rose.rec (motive_2:=fun xs=>∀ (p:Part) (k:Nat) (b S:List (List UInt8)),S.Nodup→(partTs p xs k b S).Nodup) with
 | mk p ks ih =>
  intro b S hS;rw [partT];split
  ·split
   ·exact hS
   ·unfold Ha;cases hg:Uv p.name S with
    | true=>exact hS
    | false =>
     rw [cond_false,List.nodup_append];refine ⟨hS,by simp,fun a ha c hc e=>?_⟩
     rw [Qy] at hc;rw [e,hc] at ha;have:p.name∈Ha p.name S:=mM.2 (.inr rfl);clear this;have hx:∀ {S:List (List UInt8)},p.name∈S→Uv p.name S=true:=by
      intro S hm
      induction S with
      | nil=>cases hm
      | cons y S ih =>
       simp only [Uv,Bool.or_eq_true,Zi];rcases Z2.1 hm with h|h
       ·exact .inl h
       ·exact .inr (ih h)
     rw [hx ha] at hg;cases hg
  ·exact ih p 0 b S hS
 | nil=>rename_i p k b S hS;exact hS
 | cons x xs ih1 ih2 =>
  rename_i p k b S hS;rw [partTs];exact ih2 p (k+1) b _ (ih1 _ S hS)
theorem Zdc {t:List Part} {x:Rose Part} (hx:At Xj t 0 x):dN t=Tl t:=by
 unfold dN Tl;rw [Xp hx];obtain ⟨a1,a2⟩:=wK (wS x [] [] List.nodup_nil);obtain ⟨b1,b2⟩:=wW (freeT x []);refine Zf2 a1 b1 fun s=>?_;rw [a2,b2,Zfn x [] [] [] hx.1 (fun _=>rfl)];simp
abbrev Lo (n:Nat):Prop:=n≤9223372036854775807
theorem Zcf {n:Nat} {p:Nat→Bool} (h:∀ j,j<n→p j=true):(List.range n).all p=true:=by
 rw [List.all_eq_true];exact fun x hx=>h x (List.mem_range.1 hx)
theorem wF {n k:Nat} {p:Nat→Bool} (hk:k<n) (h:p k=false):(List.range n).all p=false:=by
 rw [List.all_eq_false];exact ⟨k,List.mem_range.2 hk,by simp [h]⟩
def Qaa {α:Type} (p:α→α→Bool) (d:α) (a b:List α):Bool:=(a.length==b.length)&&(List.range a.length).all fun j=>p (a.getD j d) (b.getD j d)
def Lb:Con:=Vx (fun (x y:Part)=>kW x∧kW y) K9
class Kiw:Prop
theorem Kiw.k (_:Kiw) (h:p:=by
 unfold K9 Zaw;repeat' first|exact Cg|with_reducible apply Z9|intro _
 all_goals first|with_reducible exact Zz5|(simp_all;done)|skip):p:=h
theorem good_SameA_1:Jd Tryz.prog (36,Lb):=by
 obtain ⟨Kx,Kt,Kc,Kd,Kb,Ku,Kw,K,Y0,_⟩:=Yc Qp Z0 [] false (Xu xR Fo.eq_def Yb);have Ko:=Lb.eq_def;refine Ve K Tryz.func36 [.tmp 4] rfl 61 rfl (fun c hc J0 Zo=>?_);unfold Lb at Zo;obtain ⟨x,y,rfl,⟨h1,h2⟩,h3,h4⟩:=Jh Zo;cases hc;refine Ym 3 ?_;have Kq:Kiw:=⟨⟩;exact rT
def Hx:Con:=Ba (fun (a b:Sl (Part)) (_:Fn0 36)=>(Lo a.l.length∧∀ x∈a.l,kW x)∧(Lo b.l.length∧∀ x∈b.l,kW x)) (fun a b _=>Qaa K9 e0 a.l b.l)
class Kiy:Prop
theorem Kiy.k (_:Kiy) (h:p:=by
 first|exact s1|exact s2|exact s1.1|exact s1.2|exact s2.1|exact s2.2|rfl|trivial|skip):p:=h
class Kiz:Prop
theorem Kiz.k (_:Kiz) (h:p:=by
 first|exact s1|exact s2|exact s1.1|exact s1.2|exact s2.1|exact s2.2|exact ⟨k+1,by exact Xa,by omega,Eq.mpr hQ h9,by omega⟩|rfl|trivial|skip):p:=h
class Kix:Prop
theorem Kix.k (_:Kix) (h:p:=by
 refine Z4 [6,7,8,9,18,19,20,21,22,23,24,25,26,27,28,29,30,31] (fun k:Nat=>[(17,.d (.int .i64 k))]) (fun k:Nat=>[]) (fun k:Nat=>k≤a.length∧∀ j,j<k→K9 (a.getD j e0) (b.getD j e0)=true) (fun k:Nat=>a.length-k) 0 ?_ ?_ ?_
 ·exact ⟨by omega,fun j hj=>absurd hj (Nat.not_lt_zero j)⟩
 ·exact Xa
 rintro k ⟨hk,Y3⟩;rcases Qh k a.length with ⟨Qg,Qx⟩|⟨Qg,Qx⟩
 rotate_left
 ·have Ql:R=true:=by rw [←Qj];exact Zcf fun j hj=>Y3 j (by omega)
  clear Y3;exact A4
 have Rd:k<b.length:=by omega
 have Q3:=Qc e0 Qg;have Ji:=Qc e0 Rd;have s1:=hA (a.getD k e0) (by simp [Qg])
 have s2:=hB (b.getD k e0) (by simp [Rd])
 have Us:K9 (a.getD k e0) (b.getD k e0)=true→∀ j,j<k+1→K9 (a.getD j e0) (b.getD j e0)=true:=fun h=>Nf Y3 h;have Xi:K9 (a.getD k e0) (b.getD k e0)=false→R=false:=fun h=>by rw [←Qj];exact wF Qg h
 obtain ⟨Q,hQ⟩:=exq ((∀ j,j<k+1→K9 (a.getD j e0) (b.getD j e0)=true));rw [hQ] at Us;obtain ⟨x,hx⟩:=exq (a.getD k e0);obtain ⟨y,hy⟩:=exq (b.getD k e0);rw [hx] at Q3 s1 Us Xi;rw [hy] at Ji s2 Us Xi;clear Y3;cases Jl:K9 x y with
 | false =>
  have Ql:=Xi Jl;clear Us Xi;have Kq:Kiy:=⟨⟩;exact Qa
 | true =>
  have h9:=Us Jl;clear Us Xi;have Kq:Kiz:=⟨⟩;exact Qa):p:=h
theorem good_equalParts:Jd Tryz.prog (35,Hx):=by
 obtain ⟨Kx,Kt,Kc,Kd,Kb,Ku,Kw,K,Y0,_⟩:=Yc Qp Z0 [] false (Xu good_SameA_1 Lb.eq_def Yb);have Ko:=Hx.eq_def;refine Ve K Tryz.func35 [.tmp 6] rfl 32 rfl (fun c hc J0 Zo=>?_);unfold Hx at Zo;obtain ⟨⟨a⟩,⟨b⟩,f,rfl,⟨ha,hA⟩,hb,hB⟩:=So Zo;simp only at ha hb hA hB;clear Zo;have ha:a.length≤9223372036854775807:=ha;have hb:b.length≤9223372036854775807:=hb;obtain ⟨R,Q2⟩:=exq (Qaa K9 e0 a b);have Qj:=Q2;unfold Qaa at Qj;by_cases Ly:a.length=b.length
 case neg =>
  have Qz:((a.length:Int) != (b.length:Int))=true:=by rw [bne_iff_ne];omega
  have Qb1:(a.length==b.length)=false:=by rw [Za];exact Ly
  rw [Qb1,Bool.false_and] at Qj;subst Qj;cases hc;refine Ym 2 ?_;exact A4
 have Qz:((a.length:Int) != (b.length:Int))=false:=by rw [Ly,bne_self_eq_false]
 have Qb1:(a.length==b.length)=true:=by rw [Zi];exact Ly
 rw [Qb1,Bool.true_and] at Qj;cases hc;refine Ym 2 ?_;have Kq:Kix:=⟨⟩;exact Qa
theorem Zdm (a b:List Part):Qaa K9 e0 a b=Bn a b:=by
 unfold Qaa Bn;rw [Bool.eq_iff_iff];simp only [Zg,Zi,List.all_eq_true,List.mem_range];constructor
 ·rintro ⟨hl,h⟩;refine List.ext_getElem (by simp [hl]) fun j h1 h2=>?_
  rw [Qn] at h1 h2;have:=S6.1 (h j h1);simpa [h1,h2] using this
 ·intro h;have hl:a.length=b.length:=by simpa using congrArg List.length h
  refine ⟨hl,fun j hj=>S6.2 ?_⟩;have lH:j<b.length:=by omega
  have h1:(a.map Vc).getD j e0=(b.map Vc).getD j e0:=by rw [h]
  simpa [hj,lH] using h1
def Fq:Con:=Vx (fun (a b:Sl Part)=>vI a.l∧vI b.l) (fun a b=>Bn a.l b.l)
class KiA:Prop
theorem KiA.k (_:KiA) (h:p:=by
 first|exact Qip|exact rK|exact Qin _ (by assumption)|exact Sy _ (by assumption)|skip):p:=h
theorem good_SameA:Jd Tryz.prog (14,Fq):=by
 obtain ⟨Kx,Kt,Kc,Kd,Kb,Ku,Kw,K,Y0,_⟩:=Yc Qp Z0 [] false (Xu good_equalParts Hx.eq_def Yb);have Ko:=Fq.eq_def;refine Ve K Tryz.func14 [.tmp 4] rfl 8 rfl (fun c hc J0 Zo=>?_);unfold Fq at Zo;obtain ⟨⟨a⟩,⟨b⟩,rfl,ha,hb⟩:=Jh Zo;simp only at ha hb;obtain ⟨Qip,Qin⟩:vI a:=ha;obtain ⟨rK,Sy⟩:vI b:=hb;have Qz:=Zdm a b;cases hc;have Kq:KiA:=⟨⟩;exact Qa
open Go.Proofs Go.Shelf Go.RowKit
def Zz3:Ren:=⟨fun x=>if x=217 then 167 else if x=266 then 175 else x,fun x=>x,fun x=>x⟩
theorem Qdg:Lays.n217 Tryz.prog Zz3:=⟨by kernel_rfl,by show Tryz.prog.funcs[167]?=_;rw [Tryz.func167];kernel_rfl,by show Tryz.prog.funcs[175]?=_;rw [Tryz.func175];kernel_rfl,Tryz.underlying3,Tryz.isAgg3,Tryz.sizeOf3,Tryz.zeroValue3,Tryz.underlying5,Tryz.isAgg5,Tryz.sizeOf5,Tryz.zeroValue5,Tryz.underlying9,Tryz.isAgg9,Tryz.sizeOf9,Tryz.zeroValue9⟩
theorem Qdk {F:Fix} {c:UInt8} {v:Value} (h:R F (enc c) v):v=.int .u8 c.toNat:=h
theorem Qdl {F:Fix} {s:List UInt8} {v:Value} (h:R F (enc s) v):v=Go.Proofs.encStr s:=h
def oY:Con:=Vx (fun (_:List UInt8) (_:UInt8)=>True) (fun s c=>Lib.indexByte s c)
theorem xU:Jd Tryz.prog (167,oY):=by
 refine ⟨J6 Tryz.func167 (by kernel_rfl) rfl,?_⟩
 intro m w J0 vs Zo aD F9 Vm Zia;obtain ⟨s,c,rfl,-⟩:=Jh (id Zo:(Vx (fun (_:List UInt8) (_:UInt8)=>True) (fun s c=>Lib.indexByte s c)).pre J0);simp only [Yk,kD] at aD;obtain ⟨v,r,rfl,hv,v2,r2,rfl,Qdy,rfl⟩:=aD;obtain rfl:=Qdl hv;obtain rfl:=Qdk Qdy;refine Calls.mono (Any.stringslite_IndexByte Qdg ⟨s.toArray⟩ c.toNat w) ?_;rintro e w' ⟨rfl,rfl⟩;have hb:=Below.refl w'.heap.size w';have Qb4:(((c.toNat:Int)).toNat).toUInt8=c:=by simp
 refine ⟨_,m,rfl,⟨hb.os,hb.tape,hb.output,hb.size,fun k hk _=>hb.block k hk⟩,fun b hb _=>rfl,Vm,?_⟩;show rA _ _ _ (.d (enc (Lib.indexByte (dec (enc s):List UInt8) (dec (enc c):UInt8)))) _;rw [Enc.dec_enc,Enc.dec_enc];refine Zfc ?_;rw [Qb4];rfl
def Fu:Con:=Vx (fun (_:List UInt8) (p:List UInt8)=>p=[33]) (fun s _=>Lib.indexByte s 33)
theorem xT:Jd Tryz.prog (157,Fu):=by
 obtain ⟨Kx,Kt,Kc,Kd,Kb,Ku,Kw,K,Y0,_⟩:=Yc Qp Z0 [] false (Xu xU oY.eq_def Yb);have Ko:=Fu.eq_def;refine Ve K Tryz.func157 [.tmp 4] rfl 143 rfl (fun c hc J0 Zo=>?_);unfold Fu at Zo;obtain ⟨s,p,rfl,rfl⟩:=Jh Zo;cases hc;refine Ym 8 ?_;cases Q2:(([33]:List UInt8)==s) with
 | true =>
  have hs:s=[33]:=(Zi.1 Q2).symm;subst hs;have Qz:Lib.indexByte [33] 33=0:=by rw [Lib.indexByte];rfl
  exact Ng
 | false =>
  exact A4
def Ce {A B R S T:Type} [Enc A] [Enc B] [Enc R] [Enc S] [Enc T] (p:A→B→Prop) (f:A→B→R×S×T):Con:=⟨[false,false],[false,false,false],fun c=>match c with
 | [.d x,.d y]=>C5 A x∧C5 B y∧p (dec x) (dec y)
 | _=>False,fun c=>match c with
 | [.d x,.d y]=>.tup [.d (enc (f (dec x) (dec y)).1),.d (enc (f (dec x) (dec y)).2.1),.d (enc (f (dec x) (dec y)).2.2)]
 | _=>.d .nilp⟩
theorem jN {A B R S T:Type} [Enc A] [Enc B] [Enc R] [Enc S] [Enc T] {p:A→B→Prop} {f:A→B→R×S×T} {c:List CV} (h:(Ce p f).pre c):∃ a b,c=[.d (enc a),.d (enc b)]∧p a b:=by
 unfold Ce at h;simp only at h;split at h
 ·next x y=>exact ⟨dec x,dec y,by rw [←h.1,←h.2.1],h.2.2⟩
 ·exact h.elim
theorem Zaq:∀ {s:List UInt8},Lib.indexByte s 33=(match Eg s with
  | some k=>(k:Int)
  | none=>-1)
 | []=>rfl
 | c::s=>by
  rw [Lib.indexByte,Eg];by_cases hc:c=33
  ·rw [if_pos (Zi.2 hc),if_pos hc];rfl
  ·rw [if_neg (by rw [Zi];exact hc),if_neg hc,Zaq (s:=s)]
   cases Eg s with
   | none=>rfl
   | some k =>
    have:(((k:Nat):Int)==-1)=false:=by rw [Za];omega
    simp only [this];rfl
theorem Za7:∀ {s:List UInt8} {k:Nat},Eg s=some k→k<s.length
 | [],k,h=>by simp [Eg] at h
 | c::s,k,h=>by
  rw [Eg] at h;split at h
  ·injection h with h
   subst h;simp
  ·rw [Option.map_eq_some_iff] at h;obtain ⟨j,hj,rfl⟩:=h;have:=Za7 hj;simp only [Zd];omega
def nU (s:List UInt8):List UInt8×List UInt8×Bool:=match Eg s with
 | some k=>(s.take k,s.drop (k+1),true)
 | none=>(s,[],false)
def Fw:Con:=Ce (fun (s p:List UInt8)=>p=[33]∧s.length≤9223372036854775806) (fun s _=>nU s)
theorem yQ:Jd Tryz.prog (133,Fw):=by
 obtain ⟨Kx,Kt,Kc,Kd,Kb,Ku,Kw,K,Y0,_⟩:=Yc Qp Z0 [] false (Xu xT Fu.eq_def Yb);have Ko:=Fw.eq_def;refine Ve K Tryz.func133 [.tmp 4,.tmp 5,.tmp 6] rfl 23 rfl (fun c hc J0 Zo=>?_);unfold Fw at Zo;obtain ⟨s,p,rfl,rfl,hs⟩:=jN Zo;obtain ⟨R,Qz⟩:=exq (nU s);have Qj:=Qz;unfold nU at Qj;have Q2:=Zaq (s:=s);cases hc;cases hq:Eg s with
 | none =>
  rw [hq] at Qj Q2;simp only at Qj Q2;subst Qj;have Ql:=@Ce.eq_def;exact Ng
 | some k =>
  rw [hq] at Qj Q2;simp only at Qj Q2;subst Qj;have hk:=Za7 hq;have Qx:Xn 0 (k:Int)=true:=by rw [N8];omega
  have Ql:=@Ce.eq_def;exact Ng
def O4:Con:=Ce (fun (s p:List UInt8)=>p=[33]∧s.length≤9223372036854775806) (fun s _=>nU s)
class KiB:Prop
theorem KiB.k (_:KiB) (h:p:=by
 first|exact Ue ([33]:List UInt8)|rfl|skip):p:=h
theorem good_CutS:Jd Tryz.prog (98,O4):=by
 obtain ⟨Kx,Kt,Kc,Kd,Kb,Ku,Kw,K,Y0,_⟩:=Yc Qp Z0 [] false (Xu yQ Fw.eq_def Yb);have Ko:=O4.eq_def;refine Ve K Tryz.func98 [.tmp 4,.tmp 5,.tmp 6] rfl 13 rfl (fun c hc J0 Zo=>?_);unfold O4 at Zo;obtain ⟨s,p,rfl,rfl,hs⟩:=jN Zo;obtain ⟨R,Qz⟩:=exq (nU s);obtain ⟨R1,R2,R3⟩:=R;cases hc;have Q2:=@Ce.eq_def;have Kq:KiB:=⟨⟩;exact Qa
def B7:Con:=Xh (fun (s:List UInt8)=>s.length≤9223372036854775806) (fun s=>Cu s)
class KiC:Prop
theorem KiC.k (_:KiC) (h:p:=by
 first|rfl|exact Ue ([33]:List UInt8)|skip):p:=h
class KiD:Prop
theorem KiD.k (_:KiD) (h:p:=by
 first|rfl|exact Ue ([33]:List UInt8)|(symm;rw [←Qx];simp_all;done)|skip):p:=h
theorem good_isNameA:Jd Tryz.prog (77,B7):=by
 obtain ⟨Kx,Kt,Kc,Kd,Kb,Ku,Kw,K,Y0,Xr,_⟩:=Yc Qp Z0 [] false (Xu good_CutS O4.eq_def (Xu Mv Kk.eq_def Yb));have Ko:=B7.eq_def;refine Ve K Tryz.func77 [.tmp 2] rfl 21 rfl (fun c hc J0 Zo=>?_);unfold B7 at Zo;obtain ⟨s,rfl,hs⟩:=Qs Zo;obtain ⟨R,Q2⟩:=exq (Cu s);have Qx:=Q2;unfold Cu at Qx;have Qz:nU s=match Eg s with
  | some k=>(s.take k,s.drop (k+1),true)
  | none=>(s,[],false):=rfl
 cases hc;cases hq:Eg s with
 | none =>
  rw [hq] at Qx Qz;simp only at Qx Qz;have Ql:=@Ce.eq_def;have Kq:KiC:=⟨⟩;exact Qa
 | some k =>
  rw [hq] at Qx Qz;simp only at Qx Qz;have Ql:=@Ce.eq_def;have Kq:KiD:=⟨⟩;exact Qa
def Mz:Con:=Xh (fun (t:Sl Node)=>t.l.length≤1000000∧Sr t.l) (fun t=>Ga t.l)
class KiE:Prop
theorem KiE.k (_:KiE) (h:p:=by
 first|(unfold Ga;simp_all;done)|skip):p:=h
theorem good_isPlainA:Jd Tryz.prog (78,Mz):=by
 obtain ⟨Kx,Kt,Kc,Kd,Kb,Ku,Kw,K,Y0,Xr,_⟩:=Yc Qp Z0 [] false (Xu good_RightT T2.eq_def (Xu tP Cb.eq_def Yb));have Ko:=Mz.eq_def;refine Ve K Tryz.func78 [.tmp 2] rfl 9 rfl (fun c hc J0 Zo=>?_);unfold Mz at Zo;obtain ⟨⟨t⟩,rfl,ht,hN⟩:=Qs Zo;simp only at ht hN;have Qz:=wE t;cases hc;have Kq:KiE:=⟨⟩;exact Qa
def B4:Con:=Xh (fun (_:List UInt8)=>True) (fun s=>Xt s)
theorem qJ:Jd Tryz.prog (75,B4):=by
 obtain ⟨Kx,Kt,Kc,Kd,Kb,Ku,Kw,K,Y0,_⟩:=Yc Qp Z0 [] false (Xu Mv Kk.eq_def Yb);have Ko:=B4.eq_def;refine Ve K Tryz.func75 [.tmp 2] rfl 5 rfl (fun c hc J0 Zo=>?_);unfold B4 at Zo;obtain ⟨s,rfl,-⟩:=Qs Zo;cases hc;exact A4
def Ll (p x:Part) (k:Nat):Bool:=cond ((p.kind==7)&&Jw 0 k) ((x.kind==8)&&Ht x.label) (cond (x.kind==8) false (cond (p.kind==10) (Xt x.label) (x.label==[])))
def M1:Con:=Ba (fun (_:Part) (_:Part) (k:Int)=>0≤k∧k≤1000000) (fun p x k=>Ll p x k.toNat)
class KiF:Prop
theorem KiF.k (_:KiF) (h:p:=by
 first|(rw [←Qj];clear Qj Qz;simp [*,Jw];done)|(rw [←Qj];clear Qj Qz;simp [*,Jw];omega)|(rw [←Qj];clear Qj Qz;rw [Bool.eq_iff_iff];simp [*,Jw];done)|(rw [←Qj];clear Qj Qz;rw [Bool.eq_iff_iff];simp [*,Jw];omega)|(rw [←Qj];clear Qj Qz;simp [*,Jw])|skip):p:=h
theorem good_isLabelA:Jd Tryz.prog (31,M1):=by
 obtain ⟨Kx,Kt,Kc,Kd,Kb,Ku,Kw,K,Y0,Xr,_⟩:=Yc Qp Z0 [] false (Xu Ec Nw.eq_def (Xu Mv Kk.eq_def Yb));have Ko:=M1.eq_def;refine Ve K Tryz.func31 [.tmp 6] rfl 41 rfl (fun c hc J0 Zo=>?_);unfold M1 at Zo;obtain ⟨p,x,k,rfl,hk,Az⟩:=So Zo;obtain ⟨k,rfl⟩:∃ n:Nat,k=n:=⟨k.toNat,by omega⟩
 obtain ⟨R,Qz⟩:=exq (Ll p x k);have Qj:=Qz;unfold Ll at Qj;have Q2:((k:Int)).toNat=k:=rfl;clear Zo;cases hc;refine Ym 2 ?_;have Kq:KiF:=⟨⟩;exact Qa
theorem Zz9 {s:List UInt8}:A5 bY s=Zee s:=rfl
def Fm:Con:=Xh (fun (_:List UInt8)=>True) (fun s=>Zee s)
class KiG:Prop
theorem KiG.k (_:KiG) (h:p:=by
 repeat' first|exact Cg|with_reducible apply Z9|intro _
 ·cases l with
  | nil=>trivial
  | cons x l=>exact ⟨rfl,of_eq_true kY⟩
 subst Ly;refine Zm (bc:=X7) (some bY,s) [3] (by show bY.length≤1000000000;omega) rfl (by simp) rfl ?_ ?_ ?_
 ·show Ze _ _ [Obj.row 1 (bY.map (enc:List UInt8→D)) 0] _;simp [Ze,lk,Q4,rnA,rnAs,rk]
 ·exact trivial
 have Q2:=Tv (o:=(some bY)) (v:=s);rw [show Hr (some bY)=bY from rfl,Qj] at Q2;have Ql:=@As;exact A4):p:=h
theorem good_isOpA:Jd Tryz.prog (79,Fm):=by
 obtain ⟨Kx,Kt,Kc,Kd,Kb,Ku,Kw,K,Y0,_⟩:=Yc Qp Z0 [] false (A6 goodb_containsSt X7.eq_def Yb);have Ko:=Fm.eq_def;refine Ve K Tryz.func79 [.tmp 2] rfl 6 rfl (fun c hc J0 Zo=>?_);unfold Fm at Zo;obtain ⟨s,rfl,-⟩:=Qs Zo;obtain ⟨R,Qx⟩:=exq (Zee s);have hl:bY.length=9:=rfl;have Qz:=Zad;obtain ⟨l,Ly⟩:=exq (bY);have Qj:A5 l s=R:=by rw [←Ly,Zz9,Qx]
 rw [Ly] at hl Qz;have Qh1:(l.length:Int)=9:=by rw [hl];rfl
 cases hc;have Kq:KiG:=⟨⟩;exact rT
theorem tJ {p:Part} {n:Node}:Qk8 p n=true↔(p.t.length=1∧(n.name=[]∧n.n=0)∧0≤p.num∧p.num≤999999999999999999∧((n.kind=1∧p.name=[])∨(n.kind=2∧p.name=[]∧p.num<2)∨(n.kind=3∧p.num=0)∨(n.kind=4∧p.name=[]∧p.num=0))):=by
 unfold Qk8;split
 ·next h =>
  constructor
  ·intro h2;cases h2
  ·rintro ⟨h1,⟨h2,h3⟩,h4,h5,-⟩;exfalso;rcases h with h|h|h|h|h
   ·exact h h1
   ·exact h h2
   ·exact h h3
   ·omega
   ·omega
 ·next h =>
  have h1:p.t.length=1:=Classical.byContradiction fun x=>h (.inl x);have h2:n.name=[]:=Classical.byContradiction fun x=>h (.inr (.inl x));have h3:n.n=0:=Classical.byContradiction fun x=>h (.inr (.inr (.inl x)));have h4:0≤p.num:=Classical.byContradiction fun x=>h (.inr (.inr (.inr (.inl (by omega)))))
  have h5:p.num≤999999999999999999:=Classical.byContradiction fun x=>h (.inr (.inr (.inr (.inr (by omega)))))
  have hg:(p.t.length=1∧(n.name=[]∧n.n=0)∧0≤p.num∧p.num≤999999999999999999):=⟨h1,⟨h2,h3⟩,h4,h5⟩;repeat' split
  all_goals simp [*,Jw]
  all_goals try omega
def Tz:Con:=Xh (fun (p:Part)=>vW p) (fun p=>Vv p)
class KiH:Prop
theorem KiH.k (_:KiH) (h:p:=by
 first|(rw [←Qj,Bool.eq_iff_iff,tJ];clear Qj Qx;simp_all [Xn];done)|(rw [←Qj,Bool.eq_iff_iff,tJ];clear Qj Qx;simp_all [Xn];omega)|skip):p:=h
theorem good_isLitA:Jd Tryz.prog (76,Tz):=by
 obtain ⟨Kx,Kt,Kc,Kd,Kb,Ku,Kw,K,_⟩:=Yc Qp Z0 [] false Yb;have Ko:=Tz.eq_def;refine Ve K Tryz.func76 [.tmp 2] rfl 76 rfl (fun c hc J0 Zo=>?_);unfold Tz at Zo;obtain ⟨p,rfl,hF⟩:=Qs Zo;clear Zo;obtain ⟨R,Qx⟩:=exq (Vv p);have Qj:=Qx;unfold Vv at Qj;cases hc;refine Ym 4 ?_;by_cases h1:p.t.length=1
 ·have Qz:((p.t.length:Int) != 1)=false:=by rw [bne_eq_false_iff_eq];omega
  have Q2:=Qc n0 (show 0<p.t.length by omega)
  obtain ⟨x,hx⟩:=exq (p.t.getD 0 n0);rw [hx] at Q2 Qj;clear hx;have Kq:KiH:=⟨⟩;exact Qa
 ·have Qz:((p.t.length:Int) != 1)=true:=by rw [bne_iff_ne];omega
  unfold Qk8 at Qj;rw [if_pos (.inl h1)] at Qj;subst Qj;exact Ng
def Ua (p:Part) (w tg b t u li na op:Bool):Part×Bool :=
 if p.kind=0 then (⟨p.kind,p.label,p.name,[],0,p.num,p.t,[]⟩,li)
 else if p.kind=1 then (⟨p.kind,p.label,p.name,[],0,0,[],[]⟩,na)
 else if p.kind=2 then (⟨p.kind,p.label,[],p.bind,0,0,p.t,[]⟩,b&&t)
 else if p.kind=3 then (⟨p.kind,p.label,[],[],0,0,[],[]⟩,true)
 else if p.kind=4 then (⟨p.kind,p.label,[],p.bind,0,0,p.t,[]⟩,b&&t)
 else if p.kind=5 then (⟨p.kind,p.label,p.name,p.bind,0,0,p.t,p.u⟩,w&&(b&&(t&&u)))
 else if p.kind=6 then (⟨p.kind,p.label,[],[],0,0,[],[]⟩,true)
 else if p.kind=7 then (⟨p.kind,p.label,[],[],p.many,0,[],[]⟩,Jw 0 p.many&&Xn p.many 50)
 else if p.kind=8 then (⟨p.kind,p.label,[],p.bind,0,0,[],[]⟩,b)
 else if p.kind=9 then (⟨p.kind,p.label,p.name,[],0,0,[],[]⟩,op)
 else if p.kind=10 then (⟨p.kind,p.label,[],[],p.many,0,[],[]⟩,Xn 0 p.many&&Xn p.many 50)
 else if p.kind=11 then (⟨p.kind,p.label,p.name,[],0,0,[],[]⟩,w)
 else if p.kind=12 then (⟨p.kind,p.label,p.name,[],0,0,p.t,[]⟩,tg&&t)
 else if p.kind=13 then (⟨p.kind,p.label,[],[],0,0,p.t,[]⟩,t)
 else if p.kind=14 then (⟨p.kind,p.label,[],[],0,p.num,p.t,p.u⟩,Xn 0 p.num&&(t&&u))
 else (⟨p.kind,p.label,[],[],0,0,[],[]⟩,false)
def Ia (p:Part):Part×Bool:=Ua p (Xt p.name) (Ht p.name) (Xt p.bind) (Ga p.t) (Ga p.u) (Vv p) (Cu p.name) (Zee p.name)
def Zd7 (p:Part):Prop:=(p.t.length≤1000000∧Sr p.t)∧(p.u.length≤1000000∧Sr p.u)∧vW p∧p.name.length≤9223372036854775806
def Fg:Con:=Ry (fun (p:Part)=>Zd7 p) (fun p=>Ia p)
class KiI:Prop
theorem KiI.k (_:KiI) (h:p:=by
 first|rfl|(simp_all [Jw,Xn];done)|(simp_all [Jw,Xn];omega)|skip):p:=h
class KiJ:Prop
theorem KiJ.k (_:KiJ) (h:p:=by
 first|rfl|(simp_all [Jw,Xn];done)|(simp_all [Jw,Xn];omega)|skip):p:=h
class KiK:Prop
theorem KiK.k (_:KiK) (h:p:=by
 first|rfl|(simp_all [Jw,Xn];done)|(simp_all [Jw,Xn];omega)|skip):p:=h
class KiL:Prop
theorem KiL.k (_:KiL) (h:p:=by
 first|rfl|(simp_all [Jw,Xn];done)|(simp_all [Jw,Xn];omega)|skip):p:=h
class KiM:Prop
theorem KiM.k (_:KiM) (h:p:=by
 first|rfl|(simp_all [Jw,Xn];done)|(simp_all [Jw,Xn];omega)|skip):p:=h
class KiN:Prop
theorem KiN.k (_:KiN) (h:p:=by
 first|rfl|(simp_all [Jw,Xn];done)|(simp_all [Jw,Xn];omega)|skip):p:=h
class KiO:Prop
theorem KiO.k (_:KiO) (h:p:=by
 first|rfl|(simp_all [Jw,Xn];done)|(simp_all [Jw,Xn];omega)|skip):p:=h
class KiP:Prop
theorem KiP.k (_:KiP) (h:p:=by
 first|rfl|(simp_all [Jw,Xn];done)|(simp_all [Jw,Xn];omega)|skip):p:=h
class KiQ:Prop
theorem KiQ.k (_:KiQ) (h:p:=by
 first|rfl|(simp_all [Jw,Xn];done)|(simp_all [Jw,Xn];omega)|skip):p:=h
class KiR:Prop
theorem KiR.k (_:KiR) (h:p:=by
 first|rfl|(simp_all [Jw,Xn];done)|(simp_all [Jw,Xn];omega)|skip):p:=h
class KiS:Prop
theorem KiS.k (_:KiS) (h:p:=by
 first|rfl|(simp_all [Jw,Xn];done)|(simp_all [Jw,Xn];omega)|skip):p:=h
class KiT:Prop
theorem KiT.k (_:KiT) (h:p:=by
 first|rfl|(simp_all [Jw,Xn];done)|(simp_all [Jw,Xn];omega)|skip):p:=h
class KiU:Prop
theorem KiU.k (_:KiU) (h:p:=by
 first|rfl|(simp_all [Jw,Xn];done)|(simp_all [Jw,Xn];omega)|skip):p:=h
class KiV:Prop
theorem KiV.k (_:KiV) (h:p:=by
 first|rfl|(simp_all [Jw,Xn];done)|(simp_all [Jw,Xn];omega)|skip):p:=h
class KiW:Prop
theorem KiW.k (_:KiW) (h:p:=by
 first|rfl|(simp_all [Jw,Xn];done)|(simp_all [Jw,Xn];omega)|skip):p:=h
class KiX:Prop
theorem KiX.k (_:KiX) (h:p:=by
 first|rfl|(simp_all [Jw,Xn];done)|(simp_all [Jw,Xn];omega)|skip):p:=h
theorem good_usedA:Jd Tryz.prog (51,Fg):=by
 obtain ⟨Kx,Kt,Kc,Kd,Kb,Ku,Kw,K,Y0,Xr,eV,kB,Zd6,Zhv,_⟩:=Yc Qp Z0 [] false (Xu good_isLitA Tz.eq_def (Xu good_isNameA B7.eq_def (Xu qJ B4.eq_def (Xu good_isPlainA Mz.eq_def (Xu good_isOpA Fm.eq_def (Xu Ec Nw.eq_def Yb))))));have Ko:=Fg.eq_def;refine Ve K Tryz.func51 [.cell 2 39,.tmp 3] rfl 192 rfl (fun c hc J0 Zo=>?_);unfold Fg at Zo;obtain ⟨p,rfl,⟨f1,f2⟩,⟨f3,f4⟩,hF,hn⟩:=Zdu Zo;clear Zo;obtain ⟨R,Jk⟩:=exq (Ia p);have Qj:=Jk;unfold Ia at Qj;obtain ⟨w,Qz⟩:=exq (Xt p.name);obtain ⟨tg,Q2⟩:=exq (Ht p.name);obtain ⟨b,Qx⟩:=exq (Xt p.bind);obtain ⟨t,Ql⟩:=exq (Ga p.t);obtain ⟨u,Q3⟩:=exq (Ga p.u);obtain ⟨li,Ji⟩:=exq (Vv p);obtain ⟨na,Jl⟩:=exq (Cu p.name);obtain ⟨op,Js⟩:=exq (Zee p.name);rw [Qz,Q2,Qx,Ql,Q3,Ji,Jl,Js] at Qj;cases hc;refine Ym 12 ?_;by_cases hc:p.kind=0
 ·have Q7:(p.kind==0)=true:=Zi.2 hc;have Zz:(p.kind==1)=false:=Za.2 (by omega)
  have Qi:(p.kind==2)=false:=Za.2 (by omega)
  have Qo:(p.kind==3)=false:=Za.2 (by omega)
  have Qt:(p.kind==4)=false:=Za.2 (by omega)
  have Qq:(p.kind==5)=false:=Za.2 (by omega)
  have Qe:(p.kind==6)=false:=Za.2 (by omega)
  have Z6:(p.kind==7)=false:=Za.2 (by omega)
  have Qb:(p.kind==8)=false:=Za.2 (by omega)
  have Qk:(p.kind==9)=false:=Za.2 (by omega)
  have Q0:(p.kind==10)=false:=Za.2 (by omega)
  have Q1:(p.kind==11)=false:=Za.2 (by omega)
  have Jg:(p.kind==12)=false:=Za.2 (by omega)
  have Jo:(p.kind==13)=false:=Za.2 (by omega)
  have Q9:(p.kind==14)=false:=Za.2 (by omega)
  have Db:R=(⟨p.kind,p.label,p.name,[],0,p.num,p.t,[]⟩,li):=by
   rw [←Qj];unfold Ua;simp [hc]
  clear Qj;subst Db;have Kq:KiI:=⟨⟩;exact Qa
 have c0:=hc;clear hc;by_cases hc:p.kind=1
 ·have Q7:(p.kind==0)=false:=Za.2 (by omega)
  have Zz:(p.kind==1)=true:=Zi.2 hc;have Qi:(p.kind==2)=false:=Za.2 (by omega)
  have Qo:(p.kind==3)=false:=Za.2 (by omega)
  have Qt:(p.kind==4)=false:=Za.2 (by omega)
  have Qq:(p.kind==5)=false:=Za.2 (by omega)
  have Qe:(p.kind==6)=false:=Za.2 (by omega)
  have Z6:(p.kind==7)=false:=Za.2 (by omega)
  have Qb:(p.kind==8)=false:=Za.2 (by omega)
  have Qk:(p.kind==9)=false:=Za.2 (by omega)
  have Q0:(p.kind==10)=false:=Za.2 (by omega)
  have Q1:(p.kind==11)=false:=Za.2 (by omega)
  have Jg:(p.kind==12)=false:=Za.2 (by omega)
  have Jo:(p.kind==13)=false:=Za.2 (by omega)
  have Q9:(p.kind==14)=false:=Za.2 (by omega)
  have Db:R=(⟨p.kind,p.label,p.name,[],0,0,[],[]⟩,na):=by
   rw [←Qj];unfold Ua;simp [hc]
  clear Qj;subst Db;have Kq:KiJ:=⟨⟩;exact Qa
 have c1:=hc;clear hc;by_cases hc:p.kind=2
 ·have Q7:(p.kind==0)=false:=Za.2 (by omega)
  have Zz:(p.kind==1)=false:=Za.2 (by omega)
  have Qi:(p.kind==2)=true:=Zi.2 hc;have Qo:(p.kind==3)=false:=Za.2 (by omega)
  have Qt:(p.kind==4)=false:=Za.2 (by omega)
  have Qq:(p.kind==5)=false:=Za.2 (by omega)
  have Qe:(p.kind==6)=false:=Za.2 (by omega)
  have Z6:(p.kind==7)=false:=Za.2 (by omega)
  have Qb:(p.kind==8)=false:=Za.2 (by omega)
  have Qk:(p.kind==9)=false:=Za.2 (by omega)
  have Q0:(p.kind==10)=false:=Za.2 (by omega)
  have Q1:(p.kind==11)=false:=Za.2 (by omega)
  have Jg:(p.kind==12)=false:=Za.2 (by omega)
  have Jo:(p.kind==13)=false:=Za.2 (by omega)
  have Q9:(p.kind==14)=false:=Za.2 (by omega)
  have Db:R=(⟨p.kind,p.label,[],p.bind,0,0,p.t,[]⟩,b&&t):=by
   rw [←Qj];unfold Ua;simp [hc]
  clear Qj;subst Db;have Kq:KiK:=⟨⟩;exact Qa
 have c2:=hc;clear hc;by_cases hc:p.kind=3
 ·have Q7:(p.kind==0)=false:=Za.2 (by omega)
  have Zz:(p.kind==1)=false:=Za.2 (by omega)
  have Qi:(p.kind==2)=false:=Za.2 (by omega)
  have Qo:(p.kind==3)=true:=Zi.2 hc;have Qt:(p.kind==4)=false:=Za.2 (by omega)
  have Qq:(p.kind==5)=false:=Za.2 (by omega)
  have Qe:(p.kind==6)=false:=Za.2 (by omega)
  have Z6:(p.kind==7)=false:=Za.2 (by omega)
  have Qb:(p.kind==8)=false:=Za.2 (by omega)
  have Qk:(p.kind==9)=false:=Za.2 (by omega)
  have Q0:(p.kind==10)=false:=Za.2 (by omega)
  have Q1:(p.kind==11)=false:=Za.2 (by omega)
  have Jg:(p.kind==12)=false:=Za.2 (by omega)
  have Jo:(p.kind==13)=false:=Za.2 (by omega)
  have Q9:(p.kind==14)=false:=Za.2 (by omega)
  have Db:R=(⟨p.kind,p.label,[],[],0,0,[],[]⟩,true):=by
   rw [←Qj];unfold Ua;simp [hc]
  clear Qj;subst Db;have Kq:KiL:=⟨⟩;exact Qa
 have c3:=hc;clear hc;by_cases hc:p.kind=4
 ·have Q7:(p.kind==0)=false:=Za.2 (by omega)
  have Zz:(p.kind==1)=false:=Za.2 (by omega)
  have Qi:(p.kind==2)=false:=Za.2 (by omega)
  have Qo:(p.kind==3)=false:=Za.2 (by omega)
  have Qt:(p.kind==4)=true:=Zi.2 hc;have Qq:(p.kind==5)=false:=Za.2 (by omega)
  have Qe:(p.kind==6)=false:=Za.2 (by omega)
  have Z6:(p.kind==7)=false:=Za.2 (by omega)
  have Qb:(p.kind==8)=false:=Za.2 (by omega)
  have Qk:(p.kind==9)=false:=Za.2 (by omega)
  have Q0:(p.kind==10)=false:=Za.2 (by omega)
  have Q1:(p.kind==11)=false:=Za.2 (by omega)
  have Jg:(p.kind==12)=false:=Za.2 (by omega)
  have Jo:(p.kind==13)=false:=Za.2 (by omega)
  have Q9:(p.kind==14)=false:=Za.2 (by omega)
  have Db:R=(⟨p.kind,p.label,[],p.bind,0,0,p.t,[]⟩,b&&t):=by
   rw [←Qj];unfold Ua;simp [hc]
  clear Qj;subst Db;have Kq:KiM:=⟨⟩;exact Qa
 have c4:=hc;clear hc;by_cases hc:p.kind=5
 ·have Q7:(p.kind==0)=false:=Za.2 (by omega)
  have Zz:(p.kind==1)=false:=Za.2 (by omega)
  have Qi:(p.kind==2)=false:=Za.2 (by omega)
  have Qo:(p.kind==3)=false:=Za.2 (by omega)
  have Qt:(p.kind==4)=false:=Za.2 (by omega)
  have Qq:(p.kind==5)=true:=Zi.2 hc;have Qe:(p.kind==6)=false:=Za.2 (by omega)
  have Z6:(p.kind==7)=false:=Za.2 (by omega)
  have Qb:(p.kind==8)=false:=Za.2 (by omega)
  have Qk:(p.kind==9)=false:=Za.2 (by omega)
  have Q0:(p.kind==10)=false:=Za.2 (by omega)
  have Q1:(p.kind==11)=false:=Za.2 (by omega)
  have Jg:(p.kind==12)=false:=Za.2 (by omega)
  have Jo:(p.kind==13)=false:=Za.2 (by omega)
  have Q9:(p.kind==14)=false:=Za.2 (by omega)
  have Db:R=(⟨p.kind,p.label,p.name,p.bind,0,0,p.t,p.u⟩,w&&(b&&(t&&u))):=by
   rw [←Qj];unfold Ua;simp [hc]
  clear Qj;subst Db;have Kq:KiN:=⟨⟩;exact Qa
 have c5:=hc;clear hc;by_cases hc:p.kind=6
 ·have Q7:(p.kind==0)=false:=Za.2 (by omega)
  have Zz:(p.kind==1)=false:=Za.2 (by omega)
  have Qi:(p.kind==2)=false:=Za.2 (by omega)
  have Qo:(p.kind==3)=false:=Za.2 (by omega)
  have Qt:(p.kind==4)=false:=Za.2 (by omega)
  have Qq:(p.kind==5)=false:=Za.2 (by omega)
  have Qe:(p.kind==6)=true:=Zi.2 hc;have Z6:(p.kind==7)=false:=Za.2 (by omega)
  have Qb:(p.kind==8)=false:=Za.2 (by omega)
  have Qk:(p.kind==9)=false:=Za.2 (by omega)
  have Q0:(p.kind==10)=false:=Za.2 (by omega)
  have Q1:(p.kind==11)=false:=Za.2 (by omega)
  have Jg:(p.kind==12)=false:=Za.2 (by omega)
  have Jo:(p.kind==13)=false:=Za.2 (by omega)
  have Q9:(p.kind==14)=false:=Za.2 (by omega)
  have Db:R=(⟨p.kind,p.label,[],[],0,0,[],[]⟩,true):=by
   rw [←Qj];unfold Ua;simp [hc]
  clear Qj;subst Db;have Kq:KiO:=⟨⟩;exact Qa
 have c6:=hc;clear hc;by_cases hc:p.kind=7
 ·have Q7:(p.kind==0)=false:=Za.2 (by omega)
  have Zz:(p.kind==1)=false:=Za.2 (by omega)
  have Qi:(p.kind==2)=false:=Za.2 (by omega)
  have Qo:(p.kind==3)=false:=Za.2 (by omega)
  have Qt:(p.kind==4)=false:=Za.2 (by omega)
  have Qq:(p.kind==5)=false:=Za.2 (by omega)
  have Qe:(p.kind==6)=false:=Za.2 (by omega)
  have Z6:(p.kind==7)=true:=Zi.2 hc;have Qb:(p.kind==8)=false:=Za.2 (by omega)
  have Qk:(p.kind==9)=false:=Za.2 (by omega)
  have Q0:(p.kind==10)=false:=Za.2 (by omega)
  have Q1:(p.kind==11)=false:=Za.2 (by omega)
  have Jg:(p.kind==12)=false:=Za.2 (by omega)
  have Jo:(p.kind==13)=false:=Za.2 (by omega)
  have Q9:(p.kind==14)=false:=Za.2 (by omega)
  have Db:R=(⟨p.kind,p.label,[],[],p.many,0,[],[]⟩,Jw 0 p.many&&Xn p.many 50):=by
   rw [←Qj];unfold Ua;simp [hc]
  clear Qj;subst Db;have Kq:KiP:=⟨⟩;exact Qa
 have c7:=hc;clear hc;by_cases hc:p.kind=8
 ·have Q7:(p.kind==0)=false:=Za.2 (by omega)
  have Zz:(p.kind==1)=false:=Za.2 (by omega)
  have Qi:(p.kind==2)=false:=Za.2 (by omega)
  have Qo:(p.kind==3)=false:=Za.2 (by omega)
  have Qt:(p.kind==4)=false:=Za.2 (by omega)
  have Qq:(p.kind==5)=false:=Za.2 (by omega)
  have Qe:(p.kind==6)=false:=Za.2 (by omega)
  have Z6:(p.kind==7)=false:=Za.2 (by omega)
  have Qb:(p.kind==8)=true:=Zi.2 hc;have Qk:(p.kind==9)=false:=Za.2 (by omega)
  have Q0:(p.kind==10)=false:=Za.2 (by omega)
  have Q1:(p.kind==11)=false:=Za.2 (by omega)
  have Jg:(p.kind==12)=false:=Za.2 (by omega)
  have Jo:(p.kind==13)=false:=Za.2 (by omega)
  have Q9:(p.kind==14)=false:=Za.2 (by omega)
  have Db:R=(⟨p.kind,p.label,[],p.bind,0,0,[],[]⟩,b):=by
   rw [←Qj];unfold Ua;simp [hc]
  clear Qj;subst Db;have Kq:KiQ:=⟨⟩;exact Qa
 have c8:=hc;clear hc;by_cases hc:p.kind=9
 ·have Q7:(p.kind==0)=false:=Za.2 (by omega)
  have Zz:(p.kind==1)=false:=Za.2 (by omega)
  have Qi:(p.kind==2)=false:=Za.2 (by omega)
  have Qo:(p.kind==3)=false:=Za.2 (by omega)
  have Qt:(p.kind==4)=false:=Za.2 (by omega)
  have Qq:(p.kind==5)=false:=Za.2 (by omega)
  have Qe:(p.kind==6)=false:=Za.2 (by omega)
  have Z6:(p.kind==7)=false:=Za.2 (by omega)
  have Qb:(p.kind==8)=false:=Za.2 (by omega)
  have Qk:(p.kind==9)=true:=Zi.2 hc;have Q0:(p.kind==10)=false:=Za.2 (by omega)
  have Q1:(p.kind==11)=false:=Za.2 (by omega)
  have Jg:(p.kind==12)=false:=Za.2 (by omega)
  have Jo:(p.kind==13)=false:=Za.2 (by omega)
  have Q9:(p.kind==14)=false:=Za.2 (by omega)
  have Db:R=(⟨p.kind,p.label,p.name,[],0,0,[],[]⟩,op):=by
   rw [←Qj];unfold Ua;simp [hc]
  clear Qj;subst Db;have Kq:KiR:=⟨⟩;exact Qa
 have c9:=hc;clear hc;by_cases hc:p.kind=10
 ·have Q7:(p.kind==0)=false:=Za.2 (by omega)
  have Zz:(p.kind==1)=false:=Za.2 (by omega)
  have Qi:(p.kind==2)=false:=Za.2 (by omega)
  have Qo:(p.kind==3)=false:=Za.2 (by omega)
  have Qt:(p.kind==4)=false:=Za.2 (by omega)
  have Qq:(p.kind==5)=false:=Za.2 (by omega)
  have Qe:(p.kind==6)=false:=Za.2 (by omega)
  have Z6:(p.kind==7)=false:=Za.2 (by omega)
  have Qb:(p.kind==8)=false:=Za.2 (by omega)
  have Qk:(p.kind==9)=false:=Za.2 (by omega)
  have Q0:(p.kind==10)=true:=Zi.2 hc;have Q1:(p.kind==11)=false:=Za.2 (by omega)
  have Jg:(p.kind==12)=false:=Za.2 (by omega)
  have Jo:(p.kind==13)=false:=Za.2 (by omega)
  have Q9:(p.kind==14)=false:=Za.2 (by omega)
  have Db:R=(⟨p.kind,p.label,[],[],p.many,0,[],[]⟩,Xn 0 p.many&&Xn p.many 50):=by
   rw [←Qj];unfold Ua;simp [hc]
  clear Qj;subst Db;have Kq:KiS:=⟨⟩;exact Qa
 have c10:=hc;clear hc;by_cases hc:p.kind=11
 ·have Q7:(p.kind==0)=false:=Za.2 (by omega)
  have Zz:(p.kind==1)=false:=Za.2 (by omega)
  have Qi:(p.kind==2)=false:=Za.2 (by omega)
  have Qo:(p.kind==3)=false:=Za.2 (by omega)
  have Qt:(p.kind==4)=false:=Za.2 (by omega)
  have Qq:(p.kind==5)=false:=Za.2 (by omega)
  have Qe:(p.kind==6)=false:=Za.2 (by omega)
  have Z6:(p.kind==7)=false:=Za.2 (by omega)
  have Qb:(p.kind==8)=false:=Za.2 (by omega)
  have Qk:(p.kind==9)=false:=Za.2 (by omega)
  have Q0:(p.kind==10)=false:=Za.2 (by omega)
  have Q1:(p.kind==11)=true:=Zi.2 hc;have Jg:(p.kind==12)=false:=Za.2 (by omega)
  have Jo:(p.kind==13)=false:=Za.2 (by omega)
  have Q9:(p.kind==14)=false:=Za.2 (by omega)
  have Db:R=(⟨p.kind,p.label,p.name,[],0,0,[],[]⟩,w):=by
   rw [←Qj];unfold Ua;simp [hc]
  clear Qj;subst Db;have Kq:KiT:=⟨⟩;exact Qa
 have c11:=hc;clear hc;by_cases hc:p.kind=12
 ·have Q7:(p.kind==0)=false:=Za.2 (by omega)
  have Zz:(p.kind==1)=false:=Za.2 (by omega)
  have Qi:(p.kind==2)=false:=Za.2 (by omega)
  have Qo:(p.kind==3)=false:=Za.2 (by omega)
  have Qt:(p.kind==4)=false:=Za.2 (by omega)
  have Qq:(p.kind==5)=false:=Za.2 (by omega)
  have Qe:(p.kind==6)=false:=Za.2 (by omega)
  have Z6:(p.kind==7)=false:=Za.2 (by omega)
  have Qb:(p.kind==8)=false:=Za.2 (by omega)
  have Qk:(p.kind==9)=false:=Za.2 (by omega)
  have Q0:(p.kind==10)=false:=Za.2 (by omega)
  have Q1:(p.kind==11)=false:=Za.2 (by omega)
  have Jg:(p.kind==12)=true:=Zi.2 hc;have Jo:(p.kind==13)=false:=Za.2 (by omega)
  have Q9:(p.kind==14)=false:=Za.2 (by omega)
  have Db:R=(⟨p.kind,p.label,p.name,[],0,0,p.t,[]⟩,tg&&t):=by
   rw [←Qj];unfold Ua;simp [hc]
  clear Qj;subst Db;have Kq:KiU:=⟨⟩;exact Qa
 have c12:=hc;clear hc;by_cases hc:p.kind=13
 ·have Q7:(p.kind==0)=false:=Za.2 (by omega)
  have Zz:(p.kind==1)=false:=Za.2 (by omega)
  have Qi:(p.kind==2)=false:=Za.2 (by omega)
  have Qo:(p.kind==3)=false:=Za.2 (by omega)
  have Qt:(p.kind==4)=false:=Za.2 (by omega)
  have Qq:(p.kind==5)=false:=Za.2 (by omega)
  have Qe:(p.kind==6)=false:=Za.2 (by omega)
  have Z6:(p.kind==7)=false:=Za.2 (by omega)
  have Qb:(p.kind==8)=false:=Za.2 (by omega)
  have Qk:(p.kind==9)=false:=Za.2 (by omega)
  have Q0:(p.kind==10)=false:=Za.2 (by omega)
  have Q1:(p.kind==11)=false:=Za.2 (by omega)
  have Jg:(p.kind==12)=false:=Za.2 (by omega)
  have Jo:(p.kind==13)=true:=Zi.2 hc;have Q9:(p.kind==14)=false:=Za.2 (by omega)
  have Db:R=(⟨p.kind,p.label,[],[],0,0,p.t,[]⟩,t):=by
   rw [←Qj];unfold Ua;simp [hc]
  clear Qj;subst Db;have Kq:KiV:=⟨⟩;exact Qa
 have c13:=hc;clear hc;by_cases hc:p.kind=14
 ·have Q7:(p.kind==0)=false:=Za.2 (by omega)
  have Zz:(p.kind==1)=false:=Za.2 (by omega)
  have Qi:(p.kind==2)=false:=Za.2 (by omega)
  have Qo:(p.kind==3)=false:=Za.2 (by omega)
  have Qt:(p.kind==4)=false:=Za.2 (by omega)
  have Qq:(p.kind==5)=false:=Za.2 (by omega)
  have Qe:(p.kind==6)=false:=Za.2 (by omega)
  have Z6:(p.kind==7)=false:=Za.2 (by omega)
  have Qb:(p.kind==8)=false:=Za.2 (by omega)
  have Qk:(p.kind==9)=false:=Za.2 (by omega)
  have Q0:(p.kind==10)=false:=Za.2 (by omega)
  have Q1:(p.kind==11)=false:=Za.2 (by omega)
  have Jg:(p.kind==12)=false:=Za.2 (by omega)
  have Jo:(p.kind==13)=false:=Za.2 (by omega)
  have Q9:(p.kind==14)=true:=Zi.2 hc;have Db:R=(⟨p.kind,p.label,[],[],0,p.num,p.t,p.u⟩,Xn 0 p.num&&(t&&u)):=by
   rw [←Qj];unfold Ua;simp [hc]
  clear Qj;subst Db;have Kq:KiW:=⟨⟩;exact Qa
 have c14:=hc;clear hc;have Q7:(p.kind==0)=false:=Za.2 (by omega)
 have Zz:(p.kind==1)=false:=Za.2 (by omega)
 have Qi:(p.kind==2)=false:=Za.2 (by omega)
 have Qo:(p.kind==3)=false:=Za.2 (by omega)
 have Qt:(p.kind==4)=false:=Za.2 (by omega)
 have Qq:(p.kind==5)=false:=Za.2 (by omega)
 have Qe:(p.kind==6)=false:=Za.2 (by omega)
 have Z6:(p.kind==7)=false:=Za.2 (by omega)
 have Qb:(p.kind==8)=false:=Za.2 (by omega)
 have Qk:(p.kind==9)=false:=Za.2 (by omega)
 have Q0:(p.kind==10)=false:=Za.2 (by omega)
 have Q1:(p.kind==11)=false:=Za.2 (by omega)
 have Jg:(p.kind==12)=false:=Za.2 (by omega)
 have Jo:(p.kind==13)=false:=Za.2 (by omega)
 have Q9:(p.kind==14)=false:=Za.2 (by omega)
 have Db:R=(⟨p.kind,p.label,[],[],0,0,[],[]⟩,false):=by
  rw [←Qj];unfold Ua;rw [if_neg c0,if_neg c1,if_neg c2,if_neg c3,if_neg c4,if_neg c5,if_neg c6,if_neg c7,if_neg c8,if_neg c9,if_neg c10,if_neg c11,if_neg c12,if_neg c13,if_neg c14]
 clear Qj;subst Db;have Kq:KiX:=⟨⟩;exact Qa
def I1 (p:Part):Bool:=(Ia p).2&&Bn [(Ia p).1] [p]
theorem Zis {c:Prop} [Decidable c] {a b:Part×Bool} (ha:kW a.1) (hb:kW b.1):kW (if c then a else b).1:=by split<;>assumption
theorem Zby {p:Part} (h:Zd7 p):kW (Ia p).1:=by
 obtain ⟨⟨h1,-⟩,⟨h2,-⟩,-⟩:=h;unfold Ia Ua;repeat' refine Zis ?_ ?_
 all_goals exact ⟨by first|exact Nat.zero_le _|exact (show p.t.length≤_ from by omega),by first|exact Nat.zero_le _|exact (show p.u.length≤_ from by omega)⟩
def B5:Con:=Xh (fun (p:Part)=>Zd7 p) (fun p=>I1 p)
class KiY:Prop
theorem KiY.k (_:KiY) (h:p:=by
 first|exact i1|exact i2|exact hF|(rw [←Qj];simp_all;done)|skip):p:=h
theorem good_isPartA:Jd Tryz.prog (29,B5):=by
 obtain ⟨Kx,Kt,Kc,Kd,Kb,Ku,Kw,K,Y0,Xr,_⟩:=Yc Qp Z0 [] false (Xu good_usedA Fg.eq_def (Xu good_SameA Fq.eq_def Yb));have Ko:=B5.eq_def;refine Ve K Tryz.func29 [.tmp 2] rfl 18 rfl (fun c hc J0 Zo=>?_);unfold B5 at Zo;obtain ⟨p,rfl,hF⟩:=Qs Zo;clear Zo;obtain ⟨R,Qx⟩:=exq (I1 p);have Qj:=Qx;unfold I1 at Qj;have h2:=Zby hF;have h3:kW p:=⟨by have:=hF.1.1;omega,by have:=hF.2.1.1;omega⟩
 obtain ⟨W,Qz⟩:=exq (Ia p);obtain ⟨u,ok⟩:=W;rw [Qz] at Qj h2;simp only at Qj h2;obtain ⟨S,Q2⟩:=exq (Bn [u] [p]);rw [Q2] at Qj;cases hc;have i1:vI [u]:=⟨by simp,fun n hn=>by rw [Qy] at hn;subst hn;exact h2⟩
 have i2:vI [p]:=⟨by simp,fun n hn=>by rw [Qy] at hn;subst hn;exact h3⟩
 have Kq:KiY:=⟨⟩;exact Qa
theorem Zcc {x y:Part}:Bn [x] [y]=true↔Vc x=Vc y:=by
 unfold Bn;rw [Zi];simp
theorem Zcr {x y:Part}:Vc x=Vc y↔x.kind=y.kind∧x.label=y.label∧x.name=y.name∧x.bind=y.bind∧x.many=y.many∧x.num=y.num∧x.t.map Gz=y.t.map Gz∧x.u.map Gz=y.u.map Gz:=by
 unfold Vc;rw [Part.mk.injEq]
theorem Xd {l:List Node}:([]:List Node).map Gz=l.map Gz↔l=[]:=by
 cases l<;>simp
theorem Yv {α:Type} {l:List α}:((l.length:Int)==0)=true↔l=[]:=by
 rw [Zi];cases l with
 | nil=>simp
 | cons x l=>simp only [Zd,reduceCtorEq,iff_false];omega
theorem Zcm (p:Part):I1 p=U8 p:=by
 unfold I1 U8 Ia;obtain ⟨w,hw⟩:=exq (Xt p.name);obtain ⟨tg,Qbg⟩:=exq (Ht p.name);obtain ⟨b,hb⟩:=exq (Xt p.bind);obtain ⟨t,ht⟩:=exq (Ga p.t);obtain ⟨u,hu⟩:=exq (Ga p.u);obtain ⟨li,rC⟩:=exq (Vv p);obtain ⟨na,Nh⟩:=exq (Cu p.name);obtain ⟨op,Ja⟩:=exq (Zee p.name);rw [hw,Qbg,hb,ht,hu,rC,Nh,Ja];clear hw Qbg hb ht hu rC Nh Ja;rw [Bool.eq_iff_iff,Zg,Zcc,Zcr];obtain ⟨k,label,name,bind,many,num,pt,pu⟩:=p;unfold Ua Xb;simp only;by_cases h0:k=0
 ·subst h0;simp [Xd,Yv,Jw,Xn];try grind
 by_cases h1:k=1
 ·subst h1;simp [Xd,Yv,Jw,Xn];try grind
 by_cases h2:k=2
 ·subst h2;simp [Xd,Yv,Jw,Xn];try grind
 by_cases h3:k=3
 ·subst h3;simp [Xd,Yv,Jw,Xn];try grind
 by_cases h4:k=4
 ·subst h4;simp [Xd,Yv,Jw,Xn];try grind
 by_cases h5:k=5
 ·subst h5;simp [Xd,Yv,Jw,Xn];try grind
 by_cases h6:k=6
 ·subst h6;simp [Xd,Yv,Jw,Xn];try grind
 by_cases h7:k=7
 ·subst h7;simp [Xd,Yv,Jw,Xn];try grind
 by_cases h8:k=8
 ·subst h8;simp [Xd,Yv,Jw,Xn];try grind
 by_cases h9:k=9
 ·subst h9;simp [Xd,Yv,Jw,Xn];try grind
 by_cases Bf:k=10
 ·subst Bf;simp [Xd,Yv,Jw,Xn];try grind
 by_cases Qi3:k=11
 ·subst Qi3;simp [Xd,Yv,Jw,Xn];try grind
 by_cases Qi2:k=12
 ·subst Qi2;simp [Xd,Yv,Jw,Xn];try grind
 by_cases Qi1:k=13
 ·subst Qi1;simp [Xd,Yv,Jw,Xn];try grind
 by_cases Qi0:k=14
 ·subst Qi0;simp [Xd,Yv,Jw,Xn];try grind
 simp [*]
theorem tS {x:List UInt8}:∀ {S:List (List UInt8)},Zgr x false S (Rb S)=Uv x S
 | []=>rfl
 | y::S=>by
  show cond (x==y) true (Zgr x false S (Rb S))=((x==y)||Uv x S);rw [tS];cases x==y<;>rfl
theorem Zag {x:List UInt8} {z:Bool}:∀ {ks:List (List UInt8)} {vs:List Bool},eM (.str x) (.bool z) (ks.map enc) (vs.map enc)=.bool (Zgr x z ks vs)
 | [],vs=>by cases vs<;>rfl
 | k::ks,[]=>rfl
 | k::ks,v::vs=>by
  show cond (D.eqb (.str x) (.str k)) (D.bool v) (eM (.str x) (.bool z) (ks.map enc) (vs.map enc))=_;rw [Zag,Zu5,Zgr];cases x==k<;>rfl
theorem iW {x:List UInt8} {S:List (List UInt8)}:eM (.str x) (.bool false) (S.map enc) ((Rb S).map enc)=.bool (Uv x S):=by rw [Zag,tS]
def pS (x:List UInt8) (hd:List (List UInt8)):List (List UInt8):=cond (x==[]) hd (Ha x hd)
def Sc (t:List Part) (tr:Nat→Bool×Nat) (p:Part):Nat→Nat→List (List UInt8)→Nat→Bool×Nat
 | 0,_,_,at_=>(true,at_)
 | m+1,k,hd,at_=>cond (Xn (t.length:Int) at_) (false,at_)
   (cond (Ll p (t.getD at_ e0) k)
    (cond (Uv (t.getD at_ e0).label hd) (false,at_)
     (cond (tr at_).1 (Sc t tr p m (k+1) (pS (t.getD at_ e0).label hd) (tr at_).2) (false,(tr at_).2)))
    (false,at_))
def Vr (t:List Part):Nat→Nat→Bool×Nat
 | 0,at_=>(false,at_)
 | f+1,at_=>cond (Xn (t.length:Int) at_) (false,at_)
   (cond (U8 (t.getD at_ e0)) (Sc t (Vr t f) (t.getD at_ e0) (Qu (t.getD at_ e0)).toNat 0 [] (at_+1)) (false,at_))
structure EX where
 t:List Part
 i:Nat
 f:Nat
 d:Int
def Vj (t:List Part) (i:Nat):List Obj:=[.box false [.d (.int .i64 i)],.box false [.d (.list 8 (t.map enc))],.box false [.clo 28 [.ref 90000 0,.ref 90001 0,.ref 90002 0]]]
theorem Wg {t:List Part} {i:Nat}:Vj t i=[.box false [.d (.int .i64 i)],.box false [.d (.list 8 (t.map enc))],.box false [.clo 28 [.ref 90000 0,.ref 90001 0,.ref 90002 0]]]:=rfl
def Zbo (t:List Part):Prop:=∀ p∈t,Zd7 p
def W9 (n:Nat):BCon where
 X:=EX
 ok x:=x.t.length≤1000000∧Zbo x.t∧x.f≤100∧x.d=101-x.f∧x.f<n
 args x:=[.d (.int .i64 x.d),.ref 90000 0,.ref 90001 0,.ref 90002 0]
 objs x:=Vj x.t x.i
 res x:=.bool (Vr x.t x.f x.i).1
 post x:=Vj x.t (Vr x.t x.f x.i).2
theorem eT:∀ x,¬ (W9 0).ok x:=by
 rintro x ⟨_,_,_,_,h⟩;omega
theorem wX {n:Nat} {t:List Part} {i f:Nat} {d:Int}:(W9 n).post ⟨t,i,f,d⟩=Vj t (Vr t f i).2:=rfl
theorem Zb1 {n:Nat} {t:List Part} {i f:Nat} {d:Int}:(W9 n).res ⟨t,i,f,d⟩=.bool (Vr t f i).1:=rfl
theorem N4:aZ 3 [90000,90001,90002]:=by
 intro j hj
 match j,hj with
 | 0,_=>rfl
 | 1,_=>rfl
 | 2,_=>rfl
class KiZ:Prop
theorem KiZ.k (_:KiZ) (h:p:=by
 refine ⟨[90000,90001,90002],by simp,rfl,N4,?_⟩
 simp [Ze,lk,Q4,rnA,rnAs,rk]):p:=h
class Kja:Prop
theorem Kja.k (_:Kja) (h:p:=by
 refine ⟨[90000,90001,90002],by simp,rfl,N4,?_⟩
 simp [Ze,lk,Q4,rnA,rnAs,rk]):p:=h
class Kjb:Prop
theorem Kjb.k (_:Kjb) (h:p:=by
 refine ⟨[90000,90001,90002],by simp,rfl,N4,?_⟩
 simp [Ze,lk,Q4,rnA,rnAs,rk]):p:=h
class Kjc:Prop
theorem Kjc.k (_:Kjc) (h:p:=by
 first|exact Qeb|skip
 refine ⟨[90000,90001,90002],by simp,rfl,N4,?_⟩
 simp [Ze,lk,Q4,rnA,rnAs,rk]):p:=h
class Kje:Prop
theorem Kje.k (_:Kje) (h:p:=by
 refine ⟨[90000,90001,90002],by simp,rfl,N4,?_⟩
 simp [Ze,lk,Q4,rnA,rnAs,rk]):p:=h
class Kjf:Prop
theorem Kjf.k (_:Kjf) (h:p:=by
 refine ⟨[90000,90001,90002],by simp,rfl,N4,?_⟩
 simp [Ze,lk,Q4,rnA,rnAs,rk]):p:=h
class Kjg:Prop
theorem Kjg.k (_:Kjg) (h:p:=by
 refine ⟨[90000,90001,90002],by simp,rfl,N4,?_⟩
 simp [Ze,lk,Q4,rnA,rnAs,rk]):p:=h
class Kji:Prop
theorem Kji.k (_:Kji) (h:p:=by
 refine ⟨[90000,90001,90002],by simp,rfl,N4,?_⟩
 simp [Ze,lk,Q4,rnA,rnAs,rk]):p:=h
class Kjj:Prop
theorem Kjj.k (_:Kjj) (h:p:=by
 refine ⟨(k+1,Hd,w2),by exact Xa,by simp only;omega,by simp only;omega,?_,by simp only;omega⟩
 simp only;rw [show M-(k+1)=m by omega]
 exact hR):p:=h
class Kjh:Prop
theorem Kjh.k (_:Kjh) (h:p:=by
 refine Zm (bc:=W9 n) ⟨t,j,f,d+1⟩ [90000,90001,90002] ⟨ht,hN,by simp only;omega,by simp only;omega,by simp only;omega⟩ rfl (by simp) (by rw [Qo];rfl) ?_ ?_ ?_
 ·show Ze _ _ (Vj t j) _;rw [Wg];simp [Ze,lk,Q4,rnA,rnAs,rk]
 ·show Zj (List.drop (Vj t j).length _) _;rw [Wg];simp [Zj,lk]
 cases w1 with
 | false =>
  rw [cond_false] at hR;injection hR with St Cl
  subst St;subst Cl;have Z6:=@Wg;have Kq:Kji:=⟨⟩;exact Qa
 | true =>
  rw [cond_true] at hR;have Z6:=@Wg;have Kq:Kjj:=⟨⟩;exact Qa):p:=h
class Kjl:Prop
theorem Kjl.k (_:Kjl) (h:p:=by
 refine ⟨[90000,90001,90002],by simp,rfl,N4,?_⟩
 simp [Ze,lk,Q4,rnA,rnAs,rk]):p:=h
class Kjm:Prop
theorem Kjm.k (_:Kjm) (h:p:=by
 refine ⟨(k+1,Y,w2),by exact Xa,by simp only;omega,by simp only;omega,?_,by simp only;omega⟩
 simp only;rw [show M-(k+1)=m by omega]
 exact hR):p:=h
class Kjk:Prop
theorem Kjk.k (_:Kjk) (h:p:=by
 refine Zm (bc:=W9 n) ⟨t,j,f,d+1⟩ [90000,90001,90002] ⟨ht,hN,by simp only;omega,by simp only;omega,by simp only;omega⟩ rfl (by simp) (by rw [Qo];rfl) ?_ ?_ ?_
 ·show Ze _ _ (Vj t j) _;rw [Wg];simp [Ze,lk,Q4,rnA,rnAs,rk]
 ·show Zj (List.drop (Vj t j).length _) _;rw [Wg];simp [Zj,lk]
 cases w1 with
 | false =>
  rw [cond_false] at hR;injection hR with St Cl
  subst St;subst Cl;have Z6:=@Wg;have Kq:Kjl:=⟨⟩;exact Qa
 | true =>
  rw [cond_true] at hR;have Z6:=@Wg;have Kq:Kjm:=⟨⟩;exact Qa):p:=h
class Kjn:Prop
theorem Kjn.k (_:Kjn) (h:p:=by
 refine ⟨[90000,90001,90002],by simp,rfl,N4,?_⟩
 simp [Ze,lk,Q4,rnA,rnAs,rk]):p:=h
class Kjd:Prop
theorem Kjd.k (_:Kjd) (h:p:=by
 first|rfl|exact Qeb|exact u3|skip
 refine Z4 [5,8,35,36,37,38,39,40,41,42,43,44,45,46,47,48,49,50,51,52,53,54,55,56,57,58,59,60,61,62,63,64,65,66,67,68,69,70,71,72,73,74,75,76,77] (fun q:Nat×List (List UInt8)×Nat=>[(34,.d (.int .i64 q.1))]) (fun q:Nat×List (List UInt8)×Nat=>[(90000,.box false [.d (.int .i64 q.2.2)]),(29,.mp (q.2.1.map enc) ((Rb q.2.1).map enc) false)]) (fun q:Nat×List (List UInt8)×Nat=>q.1≤M∧q.2.1.length≤q.1∧Sc t (Vr t f) p (M-q.1) q.1 q.2.1 q.2.2=(r1,r2)) (fun q:Nat×List (List UInt8)×Nat=>M-q.1) (0,[],i+1) ?_ ?_ ?_
 ·exact ⟨Nat.zero_le _,Zl _,hr⟩
 ·refine Qg3 ?_;all_goals rfl
 rintro ⟨k,Hd,j⟩ ⟨hk,Qif,hR⟩;simp only at hk Qif hR;rcases Qh k M with ⟨Qg,Ji⟩|⟨Qg,Ji⟩
 ·obtain ⟨m,hm⟩:∃ m,M-k=m+1:=⟨M-k-1,by omega⟩
  rw [hm,Sc] at hR;rcases G9 t.length j with ⟨Zxy,Jl⟩|⟨Zxy,Jl⟩
  ·rw [Jl,cond_true] at hR;injection hR with St Cl
   subst St;subst Cl;have Kq:Kje:=⟨⟩;exact Qa
  rw [Jl,cond_false] at hR;have Ra:j<t.length:=by omega
  have Js:=Qc e0 Ra;obtain ⟨x,hx⟩:=exq (t.getD j e0);rw [hx] at Js hR;have Q7:((k:Int)).toNat=k:=rfl;cases Jk:Ll p x k with
  | false =>
   rw [Jk,cond_false] at hR;injection hR with St Cl
   subst St;subst Cl;have Kq:Kjf:=⟨⟩;exact Qa
  | true =>
   rw [Jk,cond_true] at hR;cases Zz:Uv x.label Hd with
   | true =>
    rw [Zz,cond_true] at hR;injection hR with St Cl
    subst St;subst Cl;have Z6:=@iW;have Qb:=@Pf;have Kq:Kjg:=⟨⟩;exact Qa
   | false =>
    rw [Zz,cond_false] at hR;obtain ⟨w,hw⟩:=exq (Vr t f j);rw [hw] at hR;obtain ⟨w1,w2⟩:=w;simp only at hR;have Qo:(W9 n).post ⟨t,j,f,d+1⟩=Vj t w2:=by rw [wX,hw]
    have Qt:(W9 n).res ⟨t,j,f,d+1⟩=.bool w1:=by rw [Zb1,hw]
    cases Qi:(x.label==[]) with
    | true =>
     have Qev:pS x.label Hd=Hd:=by unfold pS;rw [Qi];rfl
     rw [Qev] at hR;have Z6:=@iW;have Qb:=@Pf;have Kq:Kjh:=⟨⟩;exact Qa
    | false =>
     have Qev:pS x.label Hd=Ha x.label Hd:=by unfold pS;rw [Qi];rfl
     rw [Qev] at hR;have Zia:=nE (x:=x.label) (S:=Hd);obtain ⟨Y,hY⟩:=exq (Ha x.label Hd);rw [hY] at hR Zia;have Qq:Bt (.str x.label) (.bool true) (Hd.map enc) ((Rb Hd).map enc)=(Rb Y).map enc:=by rw [Is,E4,hY]
     have Qe:=iV hY;have Z6:=@iW;have Qb:=@Pf;have Kq:Kjk:=⟨⟩;exact Qa
 ·have hz:M-k=0:=by omega
  rw [hz,Sc] at hR;injection hR with St Cl
  subst St;subst Cl;have Kq:Kjn:=⟨⟩;exact Qa):p:=h
theorem stepb_treeE (n:Nat) (ih:X9 Tryz.prog (28,W9 n)):X9 Tryz.prog (28,(W9 (n+1))):=by
 obtain ⟨Kx,Kt,Kc,Kd,Kb,Ku,Kw,K,Y0,Xr,eV,kB,_⟩:=Yc Qp Z0 [] false (Xu Tk Ns.eq_def (Xu good_isPartA B5.eq_def (Xu good_isLabelA M1.eq_def (A6 ih (W9.eq_def n) Yb))));refine bR K Tryz.func28 [.tmp 5] rfl 78 rfl (fun c hc x X5=>?_);obtain ⟨t,i,f,d⟩:=x;obtain ⟨ht,hN,hf,hd,hn⟩:=X5;simp only at ht hN hf hd hn;refine ⟨?_,?_,?_,?_,?_⟩
 ·show Xg [.d (.int .i64 d),.ref 90000 0,.ref 90001 0,.ref 90002 0] (Vj t i);rw [Wg];simp [Xg,Jp,Obj.tied,Zr,keptAll,AV.kept,Zq,Jv,lk]
 ·show Zr (Vj t i);rw [Wg];simp [Zr]
 ·show Xg [] (Vj t (Vr t f i).2);rw [Wg];simp [Xg,Jp,Obj.tied,Zr,keptAll,AV.kept,Zq,Jv,lk]
 ·show (Vj t i).length≤(Vj t (Vr t f i).2).length;rw [Wg,Wg];simp
 show U6 Kx c (V5 _ _ (Vj t i).length (.bool (Vr t f i).1) (Vj t (Vr t f i).2)) ⟨[.d (.int .i64 d),.ref 90000 0,.ref 90001 0,.ref 90002 0]++Vf 74,Zq (Vj t i)⟩;rw [Wg,Wg];cases hc;refine Ym 4 ?_;cases f with
 | zero =>
  have h0:Vr t 0 i=(false,i):=rfl;rw [h0];have Q2:Jw 100 d=true:=by rw [Je];omega
  rcases G9 t.length i with ⟨M8,Qz⟩|⟨M8,Qz⟩
  ·have Kq:KiZ:=⟨⟩;exact Qa
  ·have Kq:Kja:=⟨⟩;exact Qa
 | succ f =>
  have Q2:Jw 100 d=false:=by rw [Jj];omega
  have Y2:Vr t (f+1) i=cond (Xn (t.length:Int) i) (false,i)
   (cond (U8 (t.getD i e0)) (Sc t (Vr t f) (t.getD i e0) (Qu (t.getD i e0)).toNat 0 [] (i+1)) (false,i)):=rfl
  rcases G9 t.length i with ⟨M8,Qz⟩|⟨M8,Qz⟩
  ·rw [Qz,cond_true] at Y2;rw [Y2];have Kq:Kjb:=⟨⟩;exact Qa
  rw [Qz,cond_false] at Y2;have Bk:i<t.length:=by omega
  have Qx:=Qc e0 Bk;have Qeb:=hN (t.getD i e0) (by simp [Bk])
  obtain ⟨p,hp⟩:=exq (t.getD i e0);rw [hp] at Qx Y2 Qeb;have Ql:=Zcm p;cases H7:U8 p with
  | false =>
   rw [H7] at Ql;rw [H7,cond_false] at Y2;rw [Y2];have Kq:Kjc:=⟨⟩;exact Qa
  | true =>
   rw [H7] at Ql;obtain ⟨u1,u2,u3⟩:=Ex H7;rw [H7,cond_true] at Y2;rw [Y2];obtain ⟨M,Q3⟩:∃ M:Nat,Qu p=M:=⟨(Qu p).toNat,by omega⟩
   have Qit:M≤60:=by omega
   rw [Q3,Zp];obtain ⟨r,hr⟩:=exq (Sc t (Vr t f) p M 0 [] (i+1));rw [hr];obtain ⟨r1,r2⟩:=r;simp only;have Zei:Rb []=[]:=rfl;have Kq:Kjd:=⟨⟩;exact Qa
theorem I9:∀ n,X9 Tryz.prog (28,W9 n)
 | 0=>P5 (J6 Tryz.func28 (by kernel_rfl) rfl) eT
 | n+1=>stepb_treeE n (I9 n)
theorem Zgu {t:List Part} (h:0<t.length):el (t.map (enc:Part→D)) 0=enc (t.getD 0 e0):=Qc e0 h
def Kr:BCon:=W9 101
theorem pU:X9 Tryz.prog (28,Kr):=I9 _
theorem rL {t:List Part} {i f:Nat} {d:Int}:Kr.post ⟨t,i,f,d⟩=Vj t (Vr t f i).2:=rfl
theorem wJ {t:List Part} {i f:Nat} {d:Int}:Kr.res ⟨t,i,f,d⟩=.bool (Vr t f i).1:=rfl
def Mj (t:List Part):Bool:=!Xc t&&((Vr t 100 0).1&&((Vr t 100 0).2:Int)==(t.length:Int))
def T3:Con:=Xh (fun (t:Sl Part)=>t.l.length≤1000000∧Zbo t.l) (fun t=>Mj t.l)
class Kjo:Prop
theorem Kjo.k (_:Kjo) (h:p:=by
 refine Zm (bc:=Kr) ⟨t,0,100,1⟩ [3,1,4] ⟨ht,hN,by simp only;omega,by simp only;omega,by simp only;omega⟩ rfl (by simp) (by rw [Jl];rfl) ?_ ?_ ?_
 ·show Ze _ _ (Vj t 0) _;rw [Wg];simp [Ze,lk,Q4,rnA,rnAs,rk];rfl
 ·show Zj (List.drop (Vj t 0).length _) _;rw [Wg];simp [Zj,lk]
 cases w1 with
 | false =>
  have Q2:Mj t=false:=by rw [hR];rfl
  have Jk:=@Wg;exact A4
 | true =>
  have Q2:Mj t=((w2:Int)==(t.length:Int)):=by rw [hR];rfl
  have Jk:=@Wg;exact A4):p:=h
theorem good_RightE:Jd Tryz.prog (12,T3):=by
 obtain ⟨Kx,Kt,Kc,Kd,Kb,Ku,Kw,K,Y0,_⟩:=Yc Qp Z0 [] false (A6 pU Kr.eq_def Yb);have Ko:=T3.eq_def;refine Ve K Tryz.func12 [.tmp 2] rfl 36 rfl (fun c hc J0 Zo=>?_);unfold T3 at Zo;obtain ⟨⟨t⟩,rfl,ht,hN⟩:=Qs Zo;simp only at ht hN;obtain ⟨w,hw⟩:=exq (Vr t 100 0);obtain ⟨w1,w2⟩:=w;have hR:Mj t=(!Xc t&&(w1&&(w2:Int)==(t.length:Int))):=by unfold Mj;rw [hw]
 cases hc;refine Ym 2 ?_;by_cases h0:t.length=0
 ·have hb:Xc t=true:=by unfold Xc;simp [h0]
  have Q2:Mj t=false:=by rw [hR,hb];rfl
  have Qz:((t.length:Int)==0)=true:=by rw [Zi];omega
  exact A4
 have Qz:((t.length:Int)==0)=false:=by rw [Za];omega
 have Ni:(t.length==0)=false:=by rw [Za];exact h0
 have Rc:0<t.length:=by omega
 have Ql:=Zgu Rc;rcases Ub 10000 t.length with ⟨hl,Qx⟩|⟨hl,Qx⟩
 ·have hb:Xc t=true:=by unfold Xc;rw [Qx];simp
  have Q2:Mj t=false:=by rw [hR,hb];rfl
  exact A4
 cases Q3:((t.getD 0 e0).label==[]) with
 | false =>
  have hb:Xc t=true:=by unfold Xc;rw [Q3];simp
  have Q2:Mj t=false:=by rw [hR,hb];rfl
  exact Ng
 | true =>
  cases Ji:((t.getD 0 e0).kind==8) with
  | true =>
   have hb:Xc t=true:=by unfold Xc;rw [Ji];simp
   have Q2:Mj t=false:=by rw [hR,hb];rfl
   exact Ng
  | false =>
   have hb:Xc t=false:=by unfold Xc;rw [Ni,Qx,Q3,Ji];rfl
   rw [hb,Bool.not_false,Bool.true_and] at hR;have Jl:Kr.post ⟨t,0,100,1⟩=Vj t w2:=by rw [rL,hw]
   have Js:Kr.res ⟨t,0,100,1⟩=.bool w1:=by rw [wJ,hw]
   have Kq:Kjo:=⟨⟩;exact Qa
def Em (l:List Part):Prop:=∀ n∈l,U8 n=true
mutual
theorem shal5_tree:∀ (x:Rose Part) (l:List Part) (rs:List Int),wf Xj x→Ct (nds x++l) rs=(P8 rs.length (depth x)&&Ct l (Bi 0 rs))
 | mk n ks,l,rs,hw=>by
  have hm:=Yu n;rw [Jt,List.cons_append,Ct,hm,←hw.1];cases ks with
  | nil =>
   have hd:depth (mk n [])=1:=by simp [depth,depths]
   rw [hd];simp only [ndss,List.nil_append,List.length_nil];by_cases h:100≤rs.length
   ·rw [if_pos h,Ml (by omega)];rfl
   ·rw [if_neg h,Lq (by omega)];rfl
  | cons y ys =>
   have hd:depth (mk n (y::ys))=1+depths (y::ys):=by rw [depth]
   rw [hd,Pd (by simp only [Zd];omega),shal5_forest (y::ys) l rs (by simp) hw.2]
   by_cases h:100≤rs.length
   ·rw [if_pos h,Ml (by omega)];rfl
   ·rw [if_neg h]
theorem shal5_forest:∀ (xs:List (Rose Part)) (l:List Part) (rs:List Int),xs≠[]→wfs Xj xs→Ct (ndss xs++l) ((xs.length:Int)::rs)=(P8 rs.length (1+depths xs)&&Ct l (Bi 0 rs))
 | [],_,_,h,_=>absurd rfl h
 | x::ts,l,rs,_,hw=>by
  have h0:=shal5_tree x;cases ts with
  | nil =>
   simp only [ndss,List.append_nil];have hd:depths [x]=depth x:=by simp [depths]
   rw [h0 l _ hw.1,hd];simp only [Zd,List.length_nil];rw [Za4 (r:=rs.length+1) (d:=depth x) (r':=rs.length) (d':=1+depth x) (by omega)]
   rfl
  | cons y ts =>
   have h2:=shal5_forest (y::ts) l rs (by simp) hw.2
   rw [ndss,List.append_assoc,h0 _ _ hw.1];have e:Bi 0 ((((x::y::ts).length:Nat):Int)::rs)=(((y::ts).length:Nat):Int)::rs:=by
    rw [Bi,if_pos rfl,show (((x::y::ts).length:Nat):Int)-1=(((y::ts).length:Nat):Int) by simp only [Zd];omega,Pd (by simp only [Zd];omega)]
   have hd:depths (x::y::ts)=max (depth x) (depths (y::ts)):=by rw [depths]
   rw [e,h2,hd];simp only [Zd];by_cases h1:rs.length+1+depth x≤100
   ·rw [Lq h1,Bool.true_and];by_cases h2:rs.length+(1+depths (y::ts))≤100
    ·rw [Lq h2,Lq (r:=rs.length) (d:=1+max (depth x) (depths (y::ts))) (by omega)]
    ·rw [Ml h2,Ml (r:=rs.length) (d:=1+max (depth x) (depths (y::ts))) (by omega)]
   ·rw [Ml h1,Ml (r:=rs.length) (d:=1+max (depth x) (depths (y::ts))) (by omega)]
    rfl
end
theorem Rj {x:Rose Part} (hw:wf Xj x):Pq (nds x)=P8 0 (depth x):=by
 have:=shal5_tree x [] [] hw;simp only [List.append_nil,List.length_nil] at this;unfold Pq;rw [this,Ct];simp
def bF (ks:List (Rose Part)) (q:Nat):Part:=(ks.getD q (mk e0 [])).root
def Zdq (ks:List (Rose Part)) (s:List UInt8) (k:Nat):Bool:=(List.range k).any fun j=>!(s==[])&&((bF ks j).label==s)
def iF (p:Part) (ks:List (Rose Part)):Bool:=(List.range ks.length).all fun k=>Ro p (bF ks k) ((p.kind==7)&&Jw 0 (k:Int))&&!Zdq ks (bF ks k).label k
mutual
def labT5:Rose Part→Bool
 | mk n ks=>iF n ks&&labTs5 ks
def labTs5:List (Rose Part)→Bool
 | []=>true
 | x::xs=>labT5 x&&labTs5 xs
end
theorem uT {t:List Part}:∀ {xs:List (Rose Part)} {i j:Nat},Ss Xj t i xs→∀ h:j<xs.length,At Xj t (i+(ndss (xs.take j)).length) xs[j]
 | [],_,_,_,h=>by simp at h
 | x::xs,i,0,ha,_=>by simpa [ndss] using ha.head.1
 | x::xs,i,j+1,ha,h=>by
  have:=uT ha.head.2 (j:=j) (by simpa using h)
  simpa [ndss,Nat.add_assoc] using this
theorem Zjd {t:List Part} {i:Nat} {x:Rose Part} (h:At Xj t i x):Iv t i=iF x.root x.kids:=by
 have hk:=h.kids;have hl:=h.lt;have hm:=Yu (t.getD i e0);have hr:=h.root e0;unfold Iv;rw [Iz h,N9,hr];rw [hr] at hm;rw [hm,hk.2];rw [show ((Xj x.root:Int)==(Xj x.root:Int))=true by simp,Bool.true_and]
 unfold iF;rw [hk.2];apply Bool.eq_iff_iff.2;simp only [List.all_eq_true,List.mem_range];have key:∀ k,k<x.kids.length→Jz t (Uz (i+1) x.kids) k=bF x.kids k:=by
  intro k hk';unfold Jz bF;rw [P2 hk',Zp];have:=(uT hk.1 hk').root e0;rw [this];simp [hk']
 have kd:∀ (s:List UInt8) (k:Nat),k≤x.kids.length→((List.range k).any fun j=>!(s==[])&&((Jz t (Uz (i+1) x.kids) j).label==s))=Zdq x.kids s k:=by
  intro s k hk';unfold Zdq;rw [Bool.eq_iff_iff];simp only [List.any_eq_true,List.mem_range];constructor
  ·rintro ⟨j,hj,g⟩;rw [key j (by omega)] at g
   exact ⟨j,hj,g⟩
  ·rintro ⟨j,hj,g⟩;exact ⟨j,hj,by rw [key j (by omega)];exact g⟩
 have e:∀ k,k<Xj x.root→Td t x.root (Uz (i+1) x.kids) k=(Ro x.root (bF x.kids k) ((x.root.kind==7)&&Jw 0 (k:Int))&&!Zdq x.kids (bF x.kids k).label k):=by
  intro k hk';unfold Td yK;rw [key k (by omega),kd _ k (by omega)]
 constructor
 ·intro g k hk';rw [←e k hk'];exact g k hk'
 ·intro g k hk';rw [e k hk'];exact g k hk'
mutual
theorem labT5_at {t:List Part}:∀ {x:Rose Part} {i:Nat},At Xj t i x→(labT5 x=true↔∀ j,i≤j→j<i+(nds x).length→Iv t j=true)
 | mk n ks,i,h=>by
  have h1:=Zjd h;have hk:Ss Xj t (i+1) ks:=h.kids.1;rw [labT5,Zg,labTs5_at hk,Jt,Zd];simp only [root,kids] at h1 ⊢;constructor
  ·rintro ⟨g1,g2⟩ j A0 lH;by_cases V8:j=i
   ·subst V8;rw [h1];exact g1
   ·exact g2 j (by omega) (by omega)
  ·intro g;exact ⟨by rw [←h1];exact g i (Zl _) (by omega),fun j A0 lH=>g j (by omega) (by omega)⟩
theorem labTs5_at {t:List Part}:∀ {xs:List (Rose Part)} {i:Nat},Ss Xj t i xs→(labTs5 xs=true↔∀ j,i≤j→j<i+(ndss xs).length→Iv t j=true)
 | [],i,_=>by simp only [labTs5,ndss,List.length_nil,true_iff];intro j h1 h2;omega
 | x::xs,i,h=>by
  rw [labTs5,Zg,labT5_at h.head.1,labTs5_at h.head.2];simp only [ndss,Zb];constructor
  ·rintro ⟨g1,g2⟩ j A0 lH;rcases Nat.lt_or_ge j (i+(nds x).length) with Qg|Pj
   ·exact g1 j A0 Qg
   ·exact g2 j Pj (by omega)
  ·intro g;exact ⟨fun j A0 lH=>g j A0 (by omega),fun j A0 lH=>g j (by omega) (by omega)⟩
end
structure RP (x:Rose Part):Prop where
 wf:wf Xj x
 uses:Em (nds x)
 depth:depth x≤100
 lab:labT5 x=true
 label:x.root.label=[]
 kind:x.root.kind≠8
 len:(nds x).length≤10000
theorem mV {x:Rose Part} (h:RP x):Y6 (nds x)=true:=by
 have ha:=Yz h.wf;have hp:=Ta x;have hr:=ha.root e0;unfold Y6;have h1:Xc (nds x)=false:=by
  unfold Xc;rw [hr,h.label];have e1:((nds x).length==0)=false:=by rw [Za];omega
  have e2:Jw 10000 ((nds x).length:Int)=false:=by rw [Jj];have:=h.len;omega
  have e3:(x.root.kind==8)=false:=by rw [Za];exact h.kind
  rw [e1,e2,e3];rfl
 have h2:(nds x).all U8=true:=List.all_eq_true.2 h.uses;have h3:Sf (nds x) 0=((nds x).length:Int):=by have:=fG ha;simpa using this
 have h4:Pq (nds x)=true:=by rw [Rj h.wf];exact Lq (by have:=h.depth;omega)
 have h5:((List.range (nds x).length).all fun i=>Iv (nds x) i)=true:=Hp fun j hj=>(labT5_at ha).1 h.lab j (Nat.zero_le _) (by omega)
 rw [h1,h2,h3,h4,h5];simp
theorem Kz {t:List Part} (h:Y6 t=true):∃ x,t=nds x∧RP x:=by
 obtain ⟨x,Zxq,hx⟩:=fU h;unfold Y6 at h;simp only [Zg,Bool.not_eq_true',Zi] at h;obtain ⟨h1,h2,⟨h3,h4⟩,h5⟩:=h;unfold Xc at h1;simp only [Bool.or_eq_false_iff,Za,Bool.not_eq_false',Zi,Jj] at h1;obtain ⟨⟨⟨g1,g2⟩,g3⟩,g4⟩:=h1;have hn:Em t:=List.all_eq_true.1 h2;have hl:∀ i,i<t.length→Iv t i=true:=fun i hi=>List.all_eq_true.1 h5 i (List.mem_range.2 hi);obtain ⟨hw,r,hr⟩:=id hx;have Eo:=hx.root e0;subst Zxq;refine ⟨x,rfl,⟨hw,hn,?_,(labT5_at hx).2 fun j _ hj=>hl j (by omega),by rw [←Eo];exact g3,by rw [←Eo];exact g4,by omega⟩⟩
 rw [Rj hw] at h4;have:=of_decide_eq_true h4;omega
theorem iG {p x:Part} {k:Nat}:Ro p x ((p.kind==7)&&Jw 0 (k:Int))=Ll p x k:=by
 unfold Ro Ll;cases hb:((p.kind==7)&&Jw 0 (k:Int)) with
 | true =>
  rw [Zg,Zi] at hb;have Bf:(p.kind==10)=false:=by rw [Za];omega
  rw [Bf];cases (x.kind==8)<;>cases Ht x.label<;>rfl
 | false =>
  cases (x.kind==8)<;>cases (p.kind==10)<;>cases Xt x.label<;>cases (x.label==[])<;>rfl
def Zc9:List (Rose Part)→List (List UInt8)→List (List UInt8)
 | [],hd=>hd
 | x::xs,hd=>Zc9 xs (pS x.root.label hd)
theorem Zdb {s l:List UInt8} {hd:List (List UInt8)}:Uv s (pS l hd)=(Uv s hd||(!(s==[])&&(l==s))):=by
 unfold pS;cases hl:(l==[]) with
 | true =>
  have hl:=Zi.1 hl;subst hl;rw [cond_true];cases hs:(s==[]) with
  | true=>simp
  | false =>
   have:(([]:List UInt8)==s)=false:=by rw [Za] at hs ⊢;exact fun h=>hs h.symm
   rw [this];simp
 | false =>
  rw [cond_false,Zgq];have hl:=Za.1 hl;by_cases hs:s=l
  ·subst hs;have h1:(s==[])=false:=Za.2 hl;simp [h1]
  ·have h1:(s==l)=false:=Za.2 hs;have h2:(l==s)=false:=Za.2 fun h=>hs h.symm;simp [h1,h2]
theorem nG {s:List UInt8}:∀ {xs:List (Rose Part)} {hd:List (List UInt8)},Uv s (Zc9 xs hd)=(Uv s hd||(!(s==[])&&xs.any fun x=>x.root.label==s))
 | [],hd=>by simp [Zc9]
 | x::xs,hd=>by
  rw [Zc9,nG,Zdb,List.any_cons];cases Uv s hd<;>cases (s==[])<;>cases (x.root.label==s)<;>rfl
theorem uV {ks:List (Rose Part)} {s:List UInt8} {k:Nat} (hk:k≤ks.length):Zdq ks s k=Uv s (Zc9 (ks.take k) []):=by
 rw [nG,show Uv s []=false from rfl,Bool.false_or];unfold Zdq;rw [Bool.eq_iff_iff];simp only [List.any_eq_true,List.mem_range,Zg];constructor
 ·rintro ⟨j,hj,h1,h2⟩;refine ⟨h1,ks[j],?_,?_⟩
  ·rw [List.mem_take_iff_getElem];exact ⟨j,by omega,rfl⟩
  ·unfold bF at h2;simpa [show j<ks.length by omega] using h2
 ·rintro ⟨h1,x,hx,h2⟩;rw [List.mem_take_iff_getElem] at hx;obtain ⟨j,hj,rfl⟩:=hx;refine ⟨j,by omega,h1,?_⟩
  unfold bF;simpa [show j<ks.length by omega] using h2
def Zxk (p:Part) (k:Nat) (hd:List (List UInt8)) (ks:List (Rose Part)):Prop:=∀ q,q<ks.length→Ll p (bF ks q) (k+q)=true∧Uv (bF ks q).label (Zc9 (ks.take q) hd)=false
theorem Zak {p:Part} {ks:List (Rose Part)}:iF p ks=true↔Zxk p 0 [] ks:=by
 unfold iF Zxk;rw [List.all_eq_true];constructor
 ·intro h q hq;have:=h q (List.mem_range.2 hq);rw [iG,uV (by omega),Zg,Bool.not_eq_true'] at this
  rw [Nat.zero_add];exact this
 ·intro h q hq;have hq:=List.mem_range.1 hq;have:=h q hq;rw [Nat.zero_add] at this;rw [iG,uV (by omega),Zg,Bool.not_eq_true']
  exact this
theorem sH {p:Part} {k:Nat} {hd:List (List UInt8)} {x:Rose Part} {xs:List (Rose Part)}:Zxk p k hd (x::xs)↔(Ll p x.root k=true∧Uv x.root.label hd=false)∧Zxk p (k+1) (pS x.root.label hd) xs:=by
 unfold Zxk;constructor
 ·intro h;refine ⟨h 0 (by simp),fun q hq=>?_⟩
  have:=h (q+1) (by simp only [Zd];omega)
  rw [show k+(q+1)=k+1+q by omega] at this
  exact this
 ·rintro ⟨h1,h2⟩ q hq;cases q with
  | zero=>exact h1
  | succ q =>
   have:=h2 q (by simp only [Zd] at hq;omega)
   rw [show k+(q+1)=k+1+q by omega]
   exact this
theorem Zae {t:List Part} {i:Nat} (h:i<t.length):Xn (t.length:Int) (i:Int)=false:=by rw [G8];omega
mutual
theorem treeP_ok {t:List Part} (hN:Em t):∀ {x:Rose Part} {i f:Nat},At Xj t i x→depth x≤f→labT5 x=true→Vr t f i=(true,i+(nds x).length)
 | mk n ks,i,f,h,hd,hl=>by
  cases f with
  | zero=>rw [depth] at hd;omega
  | succ f =>
   have Qg:=h.lt;have Eo:t.getD i e0=n:=h.root e0;obtain ⟨Xs,Wa⟩:=h.kids;simp only [kids,root] at Xs Wa;rw [depth] at hd;rw [labT5,Zg] at hl;have H7:U8 n=true:=by rw [←Eo];exact hN _ (by simp [Qg])
   rw [Vr,Zae Qg,cond_false,Eo,H7,cond_true,show (Qu n).toNat=ks.length from Wa.symm];rw [kidsE_ok hN Xs (by omega) hl.2 (Zak.1 hl.1),Jt,Zd]
   congr 1
   omega
theorem kidsE_ok {t:List Part} (hN:Em t):∀ {ks:List (Rose Part)} {p:Part} {k:Nat} {hd:List (List UInt8)} {j f:Nat},Ss Xj t j ks→depths ks≤f→labTs5 ks=true→Zxk p k hd ks →
  Sc t (Vr t f) p ks.length k hd j=(true,j+(ndss ks).length)
 | [],p,k,hd,j,f,_,_,_,_=>by rw [List.length_nil,Sc];simp [ndss]
 | x::xs,p,k,hd,j,f,h,hdp,hl,hb=>by
  obtain ⟨hx,Aw⟩:=h.head;have hj:=hx.lt;rw [depths] at hdp;rw [labTs5,Zg] at hl;rw [sH] at hb;obtain ⟨⟨rK,Sy⟩,Qe1⟩:=hb;rw [Zd,Sc,Zae hj,cond_false,hx.root e0,rK,cond_true,Sy,cond_false,treeP_ok hN hx (by omega) hl.1]
  simp only [cond_true];rw [kidsE_ok hN Aw (by omega) hl.2 Qe1,ndss,Zb]
  congr 1
  omega
end
theorem Zd3 {t:List Part} {j:Nat} {x:Rose Part} {xs:List (Rose Part)} (hx:At Xj t j x) (Aw:Ss Xj t (j+(nds x).length) xs):Ss Xj t j (x::xs):=by
 obtain ⟨h1,r,h2⟩:=hx;obtain ⟨g1,s,g2⟩:=Aw;refine ⟨⟨h1,g1⟩,s,?_⟩;rw [←List.drop_drop,h2,List.drop_left'] at g2
 ·rw [h2,g2,ndss,List.append_assoc]
 ·rfl
theorem yM {t:List Part} {i:Nat} {ks:List (Rose Part)} (hi:i<t.length) (hk:ks.length=Xj (t.getD i e0)) (h:Ss Xj t (i+1) ks):At Xj t i (mk (t.getD i e0) ks):=by
 obtain ⟨g1,s,g2⟩:=h;refine ⟨⟨hk,g1⟩,s,?_⟩;rw [List.drop_eq_getElem_cons hi,g2,Jt];simp [hi]
theorem iM {t:List Part} {p:Part} {f:Nat} {tr:Nat→Bool×Nat} (Zei:∀ i j,tr i=(true,j)→∃ x,At Xj t i x∧j=i+(nds x).length∧depth x≤f∧labT5 x=true∧Em (nds x)):∀ {m k:Nat} {hd:List (List UInt8)} {j e:Nat},Sc t tr p m k hd j=(true,e)→j≤t.length →
  ∃ ks:List (Rose Part),ks.length=m∧Ss Xj t j ks∧e=j+(ndss ks).length∧depths ks≤f∧labTs5 ks=true∧Em (ndss ks)∧Zxk p k hd ks
 | 0,k,hd,j,e,h,hj=>by
  rw [Sc] at h;injection h with _ h
  exact ⟨[],rfl,⟨trivial,t.drop j,by simp [ndss]⟩,by simp [ndss,h],by simp [depths],rfl,fun n hn=>by simp [ndss] at hn,fun q hq=>by simp at hq⟩
 | m+1,k,hd,j,e,h,hj=>by
  rw [Sc] at h;cases hl:Xn (t.length:Int) (j:Int) with
  | true=>rw [hl,cond_true] at h;cases h
  | false =>
   rw [hl,cond_false] at h;cases hb:Ll p (t.getD j e0) k with
   | false=>rw [hb,cond_false] at h;cases h
   | true =>
    rw [hb,cond_true] at h;cases hg:Uv (t.getD j e0).label hd with
    | true=>rw [hg,cond_true] at h;cases h
    | false =>
     rw [hg,cond_false] at h;obtain ⟨w,hw⟩:=exq (tr j);obtain ⟨w1,w2⟩:=w;rw [hw] at h;simp only at h;cases w1 with
     | false=>rw [cond_false] at h;cases h
     | true =>
      rw [cond_true] at h;obtain ⟨x,hx,rfl,eB,Qen,hn⟩:=Zei j w2 hw;obtain ⟨ks,e1,e2,e3,e4,e5,e6,e7⟩:=iM Zei h hx.le;have Ay:=hx.root e0;refine ⟨x::ks,by simp [e1],Zd3 hx e2,?_,?_,?_,?_,?_⟩
      ·rw [e3,ndss,Zb];omega
      ·rw [depths];omega
      ·rw [labTs5,Qen,e5];rfl
      ·intro n hm;rw [ndss,List.mem_append] at hm;rcases hm with hm|hm
       ·exact hn n hm
       ·exact e6 n hm
      ·rw [Ay] at hb hg e7;exact sH.2 ⟨⟨hb,hg⟩,e7⟩
theorem gZ {t:List Part}:∀ {f i j:Nat},Vr t f i=(true,j)→∃ x,At Xj t i x∧j=i+(nds x).length∧depth x≤f∧labT5 x=true∧Em (nds x)
 | 0,i,j,h=>by rw [Vr] at h;cases h
 | f+1,i,j,h=>by
  rw [Vr] at h;cases hl:Xn (t.length:Int) (i:Int) with
  | true=>rw [hl,cond_true] at h;cases h
  | false =>
   rw [hl,cond_false] at h;rw [G8] at hl;have hi:i<t.length:=by omega
   cases H7:U8 (t.getD i e0) with
   | false=>rw [H7,cond_false] at h;cases h
   | true =>
    rw [H7,cond_true] at h;obtain ⟨ks,e1,e2,e3,e4,e5,e6,e7⟩:=iM (f:=f) (fun i j h=>gZ h) h (by omega)
    refine ⟨mk (t.getD i e0) ks,yM hi e1 e2,?_,?_,?_,?_⟩
    ·rw [e3,Jt,Zd];omega
    ·rw [depth];omega
    ·rw [labT5,Zg];exact ⟨Zak.2 e7,e5⟩
    ·intro n hm;rw [Jt] at hm;rcases Z2.1 hm with rfl|hm
     ·exact H7
     ·exact e6 n hm
theorem sV (t:List Part):Mj t=Y6 t:=by
 rw [Bool.eq_iff_iff];unfold Mj;constructor
 ·intro h;rw [Zg,Zg,Zi,Bool.not_eq_true'] at h;obtain ⟨h1,h2,h3⟩:=h;obtain ⟨x,hx,e,hd,hl,hn⟩:=gZ (t:=t) (f:=100) (i:=0) (j:=(Vr t 100 0).2) (by rw [←h2])
  unfold Xc at h1;simp only [Bool.or_eq_false_iff,Za,Bool.not_eq_false',Zi,Jj] at h1;obtain ⟨⟨⟨g1,g2⟩,g3⟩,g4⟩:=h1;have Ay:=hx.root e0;have ht:t=nds x:=by
   obtain ⟨_,r,h5⟩:=hx;rw [List.drop_zero] at h5;have h6:=congrArg List.length h5;rw [Zb] at h6;have:r=[]:=List.length_eq_zero_iff.1 (by omega)
   rw [h5,this,List.append_nil]
  rw [ht];exact mV ⟨hx.1,hn,hd,hl,by rw [←Ay];exact g3,by rw [←Ay];exact g4,by rw [←ht];omega⟩
 ·intro h;obtain ⟨x,rfl,hx⟩:=Kz h;have ha:=Yz hx.wf;rw [treeP_ok hx.uses ha hx.depth hx.lab];have hh:Xc (nds x)=false:=by
   unfold Y6 at h;rw [Zg,Bool.not_eq_true'] at h;exact h.1
  rw [hh];simp
theorem Zga:([.agg [.int .i64 2,.str [],.str [],.str [120],.int .i64 0,.int .i64 0,.list 3 [.agg [.int .i64 0,.str [],.int .i64 0]],.list 3 []],.agg [.int .i64 9,.str [],.str [43],.str [],.int .i64 0,.int .i64 0,.list 3 [],.list 3 []],.agg [.int .i64 1,.str [],.str [120],.str [],.int .i64 0,.int .i64 0,.list 3 [],.list 3 []],.agg [.int .i64 1,.str [],.str [121],.str [],.int .i64 0,.int .i64 0,.list 3 [],.list 3 []]]:List D)=Uk.map enc:=rfl
theorem Zja:wf Xj Bv:=fC.1
theorem Zcy:Em (nds Bv):=by
 rw [N7];intro p hp;simp only [Uk,Z2,lR,or_false] at hp;rcases hp with rfl|rfl|rfl|rfl<;>decide +kernel
theorem xW:Mj Uk=true:=by
 rw [sV,←N7];refine mV ⟨Zja,Zcy,?_,?_,rfl,by decide,?_⟩
 ·simp [Bv,depth,depths]
 ·decide +kernel
 ·rw [N7];decide
theorem Zf9:Sf Uk 2=3:=by decide +kernel
theorem Zc0:(Vn Uk 1).length=2:=by decide +kernel
theorem xA:dN Uk=[[121]]:=by
 unfold dN;rw [Xp fC];have:partT Bv [] []=[[121]]:=by simp [Bv,partT,partTs,Dz,Gg,A5,Ha,Uv]
 rw [this];simp [Dt]
theorem nQ:Me Uk:=⟨by decide,by
 intro p hp;simp only [Uk,Z2,lR,or_false] at hp;rcases hp with rfl|rfl|rfl|rfl<;>decide⟩
theorem Zc1:Zbo Uk:=by
 intro p hp;simp only [Uk,Z2,lR,or_false] at hp;rcases hp with rfl|rfl|rfl|rfl<;>simp [Zd7,vW,Sr,Gg]
theorem Zcz:vY Uk:=⟨nQ,Bv,fC,by rw [N7];decide⟩
theorem Zgb:cZ Uk 2:=fun _ _=>⟨mk (Gg 1 [120] [] []) [],by simp [wf,wfs,Xj,Qu,Gg],_,rfl⟩
theorem Zgc:cZ Uk 1:=fun _ _=>⟨mk (Gg 9 [43] [] []) [mk (Gg 1 [120] [] []) [],mk (Gg 1 [121] [] []) []],by simp [wf,wfs,Xj,Qu,Gg],[],by simp [Jt,ndss];rfl⟩
theorem xK:∀ p∈Uk,p.name.length≤3000000:=by
 intro p hp;simp only [Uk,Z2,lR,or_false] at hp;rcases hp with rfl|rfl|rfl|rfl<;>simp [Gg]
def B9:Con:=Lu true
class Kjp:Prop
theorem Kjp.k (_:Kjp) (h:p:=by
 first|exact hE.symm|(rw [←hE];exact ⟨rfl,rfl,rfl,rfl,trivial⟩)|skip):p:=h
theorem good_alive05:Jd Tryz.prog (11,B9):=by
 obtain ⟨Kx,Kt,Kc,Kd,Kb,Ku,Kw,K,Y0,Xr,eV,kB,Zd6,_⟩:=Yc Qp Z0 [] false (Xu good_FreeA Sk.eq_def (Xu good_RightE T3.eq_def (Xu tN jL.eq_def (Xu good_EndA Sm.eq_def (Xu good_KidsA Si.eq_def Yb)))));have Ko:=B9.eq_def;refine Ve K Tryz.func11 [.tmp 0] rfl 41 rfl (fun c hc J0 Zo=>?_);unfold B9 at Zo;obtain rfl:=jM Zo;have Qz:=Zga;have Q2:=xW;have Qx:=Zf9;have h3:=Zc0;have Q3:=xA;have h5:=nQ;have h6:=Zc1;have h7:=Zcz;have h8:=Zgb;have h9:=Zgc;have Bf:=xK;have hl:Uk.length=4:=rfl;obtain ⟨E,hE⟩:=exq (Uk);rw [hE] at Qz Q2 Qx h3 Q3 h5 h6 h7 h8 h9 Bf hl;have Qh1:(E.length:Int)=4:=by rw [hl];rfl
 have Ql:((Vn E 1).length:Int)=2:=by rw [h3];rfl
 have Ji:iB=[40,102,117,110,32,40,120,58,32,63,41,32,45,62,32,40,120,32,43,32,121,41,41]:=rfl;cases hc;refine Ym 2 ?_;have Kq:Kjp:=⟨⟩;exact Qa
structure FewE (t:List Part) (m:Nat):Prop where
 len:t.length≤m
 parts:∀ p∈t,jB p=true
theorem Zjl {t:List Part} {m:Nat} (h:Zdl t m=true):FewE t m:=by
 unfold Zdl at h;rw [List.all_eq_true] at h;have hk:∀ k,k<t.length→k≠m∧jB (t.getD k e0)=true:=by
  intro k hk;have:=h k (List.mem_range.2 hk);rw [Zg,Bool.not_eq_true',Za] at this;exact ⟨fun e=>this.1 (by rw [e]),this.2⟩
 refine ⟨?_,fun p hp=>?_⟩
 ·rcases Nat.lt_or_ge m t.length with hl|hl
  ·exact absurd rfl (hk m hl).1
  ·exact hl
 ·obtain ⟨k,Az,rfl⟩:=List.getElem_of_mem hp;have:=(hk k Az).2;simpa [Az] using this
structure ShortP (p:Part):Prop where
 label:p.label.length≤100
 name:p.name.length≤200
 bind:p.bind.length≤100
 t:p.t.length≤60
 u:p.u.length≤60
 tn:∀ n∈p.t,n.name.length≤100
 un:∀ n∈p.u,n.name.length≤100
theorem gY {t:List Node} (h:Lg t=true):∀ n∈t,n.name.length≤100:=by
 intro n hn;unfold Lg at h;have:=List.all_eq_true.1 h n hn;rw [Bool.not_eq_true',Jj] at this;omega
theorem aP {p:Part} (h:jB p=true):ShortP p:=by
 unfold jB Zf4 at h;simp only [Zg,Bool.not_eq_true',Bool.or_eq_false_iff,Jj] at h;obtain ⟨⟨h1,h2,h3,h4,h5⟩,h6,h7⟩:=h;exact ⟨by omega,by omega,by omega,by omega,by omega,gY h6,gY h7⟩
theorem ShortP.fit {p:Part} (h:ShortP p):Zd7 p:=by
 have h1:=h.label;have h2:=h.name;have h3:=h.bind;have h4:=h.t;have h5:=h.u;have n1:Sr p.t:=fun n hn=>by have:=h.tn n hn;omega
 have n2:Sr p.u:=fun n hn=>by have:=h.un n hn;omega
 exact ⟨⟨by omega,n1⟩,⟨by omega,n2⟩,⟨⟨by omega,n1⟩,⟨by omega,n2⟩,by omega,by omega,by omega⟩,by omega⟩
theorem FewE.fits {t:List Part} {m:Nat} (h:FewE t m):Zbo t:=fun p hp=>(aP (h.parts p hp)).fit
theorem FewE.fit6 {t:List Part} {m:Nat} (h:FewE t m):∀ p∈t,Qbe p:=fun p hp=>by
 have:=h.fits p hp;exact ⟨this.2.2.1,this.2.2.2⟩
theorem FewE.in5 {t:List Part} {m:Nat} (h:FewE t m) (hm:m≤1000000):vI t:=⟨by have:=h.len;omega,fun p hp=>by have:=h.fits p hp;exact ⟨by have:=this.1.1;omega,by have:=this.2.1.1;omega⟩⟩
def Qbd (t:List Part):Prop:=t.length≤9223372036854775807∧∀ p∈t,vW p
open Go.Proofs
theorem Zxe {p q r:D→Prop} {ds:List D} (h:Zd8 [p,q,r] ds):∃ a b c,ds=[a,b,c]∧p a∧q b∧r c:=by
 match ds,h with
 | [a,b,c],h=>exact ⟨a,b,c,rfl,h.1,h.2.1,h.2.2.1⟩
theorem Zv5:Zj5 Tryz.prog 41 3 true Node (fun n=>n.name.length≤maxLen) :=
 (mA (ps:=[_,_,_]) Tryz.underlying41 (by kernel_rfl) rfl ⟨rfl,by kernel_rfl,Ey Tryz.underlying3,rfl,by kernel_rfl,fA Tryz.underlying9,rfl,by kernel_rfl,Ey Tryz.underlying3,trivial⟩).mono fun x h=>by
  obtain ⟨ds,rfl,h⟩:=h;obtain ⟨a,b,c,rfl,⟨k,rfl,_⟩,⟨s,rfl,hl⟩,⟨n,rfl,_⟩⟩:=Zxe h;exact ⟨⟨k,s,n⟩,rfl,hl⟩
theorem zU:Zj5 Tryz.prog 37 1 false (Sl Node) (fun a=>a.l.length≤maxLen∧∀ y∈a.l,y.name.length≤maxLen):=Zfd Tryz.underlying37 (by kernel_rfl) rfl (by decide) Zv5
theorem Zxd {p1 p2 p3 p4 p5 p6 p7 p8:D→Prop} {ds:List D} (h:Zd8 [p1,p2,p3,p4,p5,p6,p7,p8] ds):∃ a b c d e f g i,ds=[a,b,c,d,e,f,g,i]∧p1 a∧p2 b∧p3 c∧p4 d∧p5 e∧p6 f∧p7 g∧p8 i:=by
 match ds,h with
 | [a,b,c,d,e,f,g,i],h=>exact ⟨a,b,c,d,e,f,g,i,rfl,h.1,h.2.1,h.2.2.1,h.2.2.2.1,h.2.2.2.2.1,h.2.2.2.2.2.1,h.2.2.2.2.2.2.1,h.2.2.2.2.2.2.2.1⟩
def Zkd (n:Part):Prop:=(n.label.length≤maxLen∧n.name.length≤maxLen∧n.bind.length≤maxLen)∧(n.t.length≤maxLen∧∀ y∈n.t,y.name.length≤maxLen)∧n.u.length≤maxLen∧∀ y∈n.u,y.name.length≤maxLen
theorem Zv4:Zj5 Tryz.prog 39 8 true Part Zkd :=
 (mA (ps:=[_,_,_,_,_,_,_,_]) Tryz.underlying39 (by kernel_rfl) rfl ⟨rfl,by kernel_rfl,Ey Tryz.underlying3,rfl,by kernel_rfl,fA Tryz.underlying9,rfl,by kernel_rfl,fA Tryz.underlying9,rfl,by kernel_rfl,fA Tryz.underlying9,
  rfl,by kernel_rfl,Ey Tryz.underlying3,rfl,by kernel_rfl,Ey Tryz.underlying2,rfl,by kernel_rfl,zU,rfl,by kernel_rfl,zU,trivial⟩).mono fun x h=>by
  obtain ⟨ds,rfl,h⟩:=h;obtain ⟨a,b,c,d,e,f,g,i,rfl,⟨k,rfl,_⟩,⟨s,rfl,hs⟩,⟨n,rfl,hn⟩,⟨o,rfl,ho⟩,⟨m,rfl,_⟩,⟨v,rfl,_⟩,⟨⟨t⟩,rfl,ht⟩,⟨⟨u⟩,rfl,hu⟩⟩:=Zxd h;exact ⟨⟨k,s,n,o,m,v,t,u⟩,rfl,⟨hs,hn,ho⟩,ht,hu⟩
theorem rdParts:Zj5 Tryz.prog 23 1 false (Sl Part) (fun a=>a.l.length≤maxLen∧∀ y∈a.l,Zkd y):=Zfd Tryz.underlying23 (by kernel_rfl) rfl (by decide) Zv4
theorem rdN:Zj5 Tryz.prog 3 1 false Int (fun a=>Aj .i64 a):=Ey Tryz.underlying3
theorem fitE_of {a:Sl Part} (h:a.l.length≤maxLen∧∀ y∈a.l,Zkd y):Qbd a.l:=by
 unfold maxLen Zkd at h;refine ⟨by have:=h.1;omega,fun n hn=>?_⟩
 obtain ⟨⟨h1,h2,h7⟩,⟨h3,h4⟩,h5,h6⟩:=h.2 n hn;unfold maxLen at *;exact ⟨⟨by omega,fun y hy=>by have:=h4 y hy;omega⟩,⟨by omega,fun y hy=>by have:=h6 y hy;omega⟩,by omega,by omega,by omega⟩
mutual
theorem sub_at {t:List Part}:∀ {x:Rose Part} {a:Nat},At Xj t a x→∀ i,a≤i→i<a+(nds x).length→∃ y,At Xj t i y∧depth y≤depth x
 | mk n ks,a,h,i,h1,h2=>by
  by_cases hi:i=a
  ·subst hi;exact ⟨_,h,Zl _⟩
  ·rw [Jt,Zd] at h2;obtain ⟨y,hy,hd⟩:=subs_at h.kids.1 i (by omega) (by simp only [kids];omega)
   refine ⟨y,hy,?_⟩;rw [depth];simp only [kids] at hd;omega
theorem subs_at {t:List Part}:∀ {xs:List (Rose Part)} {a:Nat},Ss Xj t a xs→∀ i,a≤i→i<a+(ndss xs).length→∃ y,At Xj t i y∧depth y≤depths xs
 | [],a,h,i,h1,h2=>by simp only [ndss,List.length_nil] at h2;omega
 | x::xs,a,h,i,h1,h2=>by
  rw [ndss,Zb] at h2;rw [depths];rcases Nat.lt_or_ge i (a+(nds x).length) with Qg|Pj
  ·obtain ⟨y,hy,hd⟩:=sub_at h.head.1 i h1 Qg;exact ⟨y,hy,by omega⟩
  ·obtain ⟨y,hy,hd⟩:=subs_at h.head.2 i Pj (by omega)
   exact ⟨y,hy,by omega⟩
end
structure InR5 (t:List Part) (i:Nat) (y:Rose Part):Prop where
 at_:At Xj t i y
 depth:depth y≤100
 lab:labT5 y=true
 uses:Em (nds y)
 len:(nds y).length≤10000
theorem Zji {t:List Part} (h:Y6 t=true) {i:Nat} (hi:i<t.length):∃ y,InR5 t i y:=by
 obtain ⟨x,rfl,hx⟩:=Kz h;have ha:=Yz hx.wf;obtain ⟨y,hy,hd⟩:=sub_at ha i (Nat.zero_le _) (by omega)
 have M8:=hy.le;have Qgw:=hx.depth;have Z8:=hx.len;refine ⟨y,hy,by omega,(labT5_at hy).2 fun j h1 h2=>(labT5_at ha).1 hx.lab j (Nat.zero_le _) (by omega),fun n hn=>hx.uses n (hy.mem n hn),by omega⟩
theorem InR5.kid {t:List Part} {i:Nat} {y:Rose Part} (h:InR5 t i y) (hr:Y6 t=true) {k:Nat} (hk:k<y.kids.length):∃ z,InR5 t (i+1+(ndss (y.kids.take k)).length) z∧y.kids[k]=z:=by
 have hz:=uT h.at_.kids.1 hk;obtain ⟨z,Qg8⟩:=Zji hr hz.lt;exact ⟨z,Qg8,hz.inj Qg8.at_⟩
theorem drop_take {t:List Part} {i:Nat} {y:Rose Part} (h:At Xj t i y):(t.drop i).take (nds y).length=nds y:=by
 obtain ⟨_,r,hr⟩:=h;rw [hr,List.take_left'];rfl
theorem Rh {t:List Part} (h:Y6 t=true):Me t:=by
 obtain ⟨x,rfl,hx⟩:=Kz h;have hl:=hx.len;exact ⟨by omega,fun n hn=>Ex (hx.uses n hn)⟩
theorem eF {t:List Part} (h:Y6 t=true) (i:Int):cZ t i:=by
 intro h0 h1;obtain ⟨y,hy⟩:=Zji h (show i.toNat<t.length by omega)
 exact ⟨y,hy.at_⟩
theorem Zez {t:List Part} (h:Y6 t=true):vY t:=by
 have ht:=Rh h;obtain ⟨x,rfl,hx⟩:=Kz h;exact ⟨ht,x,Yz hx.wf,hx.len⟩
theorem Zjj {t:List Part} (h:Y6 t=true):dN t=Tl t:=by
 obtain ⟨x,rfl,hx⟩:=Kz h;exact Zdc (Yz hx.wf)
theorem sJ {l:List (List UInt8)}:∀ (f:Nat) (o:List (List UInt8)),(kO l f o).length≤o.length+f
 | 0,o=>by simp [kO]
 | f+1,o=>by
  rw [kO];split
  ·have:=sJ (l:=l) f (o++[(Ld o l).1]);rw [Zb] at this;simp only [Zd,List.length_nil] at this;omega
  ·omega
theorem yZ {t:List Part} (h:vY t):(Tl t).length≤10001:=by
 obtain ⟨_,x,hx,hn⟩:=h;unfold Tl lU;rw [Xp hx];have h1:=sJ (l:=freeT x []) ((freeT x []).length+1) [];have h2:=freeT_len x [];simp only [List.length_nil] at h1;omega
theorem rE {k:Int}:(Bm k).length≤6:=Zbw
theorem Zj2 {k:Int} {a b:List UInt8}:(El k a b).length≤a.length+b.length+6:=by
 unfold El;split<;>simp only [Zb,Zd,List.length_nil]<;>omega
mutual
theorem prN_le:∀ (x:Rose Node),(∀ n∈nds x,n.name.length≤100)→(prN x).length+105≤120*(nds x).length
 | mk n ks,h=>by
  have hk:=fun s (hs:s.length≤3) b=>rowS_le ks (fun m hm=>h m (by rw [Jt];exact List.mem_cons_of_mem _ hm)) s hs b
  have hp:=prNs_le ks (fun m hm=>h m (by rw [Jt];exact List.mem_cons_of_mem _ hm))
  rw [prN,dB,Jt,Zd];split
  ·have:=Zj2 (k:=((ks.map root).getD 0 n0).kind) (a:=(prNs ks).getD 0 []) (b:=(prNs ks).getD 1 []);omega
  split
  ·have:=hk [44,32] (by simp) true
   simp only [Zb,Zd,List.length_nil];omega
  split
  ·have:=hk [32,124,32] (by simp) true
   simp only [Zb,Zd,List.length_nil];omega
  ·have:=rE (k:=n.kind);omega
theorem rowS_le:∀ (ks:List (Rose Node)),(∀ n∈ndss ks,n.name.length≤100)→∀ s:List UInt8,s.length≤3→∀ b,(L4 s b ((ks.map root).map (·.name)) (prNs ks)).length≤120*(ndss ks).length
 | [],_,s,_,b=>by simp [L4]
 | x::ks,h,s,hs,b=>by
  have h1:=prN_le x (fun m hm=>h m (by rw [ndss];exact List.mem_append_left _ hm))
  have h2:=rowS_le ks (fun m hm=>h m (by rw [ndss];exact List.mem_append_right _ hm)) s hs false
  have h3:x.root.name.length≤100:=h x.root (by rw [ndss,E0];exact List.mem_append_left _ (List.mem_cons_self ..))
  rw [List.map_cons,List.map_cons,prNs,L4,ndss];simp only [Zb,Zd,List.length_nil];have h4:(if b=true then ([]:List UInt8) else s).length≤3:=by
   split
   ·simp
   ·exact hs
  omega
theorem prNs_le:∀ (ks:List (Rose Node)),(∀ n∈ndss ks,n.name.length≤100)→((prNs ks).getD 0 []).length+((prNs ks).getD 1 []).length≤120*(ndss ks).length
 | [],_=>by simp [prNs]
 | [x],h=>by
  have h1:=prN_le x (fun m hm=>h m (by rw [ndss];exact List.mem_append_left _ hm))
  simp only [prNs,ndss,List.append_nil,List.getD_cons_zero,List.getD_cons_succ,List.getD_nil,List.length_nil];omega
 | x::y::ks,h=>by
  have h1:=prN_le x (fun m hm=>h m (by rw [ndss];exact List.mem_append_left _ hm))
  have h2:=prN_le y (fun m hm=>h m (by rw [ndss,ndss];exact List.mem_append_right _ (List.mem_append_left _ hm)))
  simp only [prNs,ndss,Zb,List.getD_cons_zero,List.getD_cons_succ];omega
end
theorem Zfm {n:Node} (h:Va n=true) (hp:n.kind≠8∧n.kind≠9):vH n:=by
 have h1:=h;unfold Va at h1;refine ⟨?_,?_,h⟩<;>(split at h1<;>try split at h1)<;>try split at h1
 all_goals first|omega|(split at h1<;>first|omega|simp at h1)|simp at h1
theorem zH {t:List Node} (h:Ga t=true) (hl:t.length≤60) (hn:∀ n∈t,n.name.length≤100):TyOk t:=by
 unfold Ga at h;rw [Zg] at h;obtain ⟨x,rfl,hx⟩:=Ie h.1;have hp:∀ n∈nds x,n.kind≠8∧n.kind≠9:=by
  intro n hm;have:=List.all_eq_true.1 h.2 n hm;rw [Zg,bne_iff_ne,bne_iff_ne] at this;exact this
 have M8:=prN_le x hn;exact ⟨by omega,x,rfl,hx.wf,fun p hm=>Zfm (hx.numb p hm) (hp p hm),by omega⟩
theorem Zew {t:List Node} (h:TyOk t) (hl:t.length≤60) (hn:∀ n∈t,n.name.length≤100):(eE t).length≤7200:=by
 obtain ⟨_,x,rfl,hw,_⟩:=h;rw [oO hw];have:=prN_le x hn;omega
theorem Zg1:∀ (k u:Nat),u<10 ^ (k+1)→(Lib.decDigits u).length≤k+1
 | 0,u,h=>by
  rw [qB (by omega)]
  simp
 | k+1,u,h=>by
  by_cases hu:u<10
  ·rw [qB hu];simp
  ·rw [uW hu,Zb];have:=Zg1 k (u / 10) (by rw [Nat.pow_succ] at h;omega)
   simp only [Zd,List.length_nil];omega
theorem Ze8 {r n:Nat} {c:UInt8}:(Mp r n c).length≤4:=by
 have:=Za0 r;unfold Mp;repeat' split
 all_goals simp
 all_goals omega
theorem Zaa:∀ (k:Nat) (l:List UInt8),(Ii k l).length≤4*k+1
 | 0,l=>by simp [Ii]
 | k+1,l=>by
  rw [Ii];split
  ·simp
  ·rw [Zb];have h1:=Zaa k (l.drop (Lib.decodeL l).2);have h2:=Ze8 (r:=(Lib.decodeL l).1) (n:=(Lib.decodeL l).2) (c:=l.getD 0 0);omega
theorem Zcg (l:List UInt8):(Nn l).length≤4*l.length+2:=by
 unfold Nn;rw [Zd];have:=Zaa l.length l;omega
theorem Zjb {p:Part} (h:Zbm p) (hn:p.name.length≤200):(D2 p).length≤1000:=by
 have h1:=Zcg p.name;have h2:(Lib.itoa p.num).length≤18:=by
  rw [Zam h.2.2.1.1];exact Zg1 17 _ (by have:=h.2.2.1.2;omega)
 unfold D2;split
 ·omega
 split
 ·unfold dU;cases (p.num==1)<;>simp
 split
 ·omega
 ·simp
theorem E1:∀ {TX ks:List (List UInt8)} {m:Nat},(∀ s∈TX,s.length≤m)→(Jf TX ks).length≤m*TX.length+(ks.map List.length).sum
 | [],ks,m,h=>by simp [Jf]
 | s::TX,ks,m,h=>by
  have hs:=h s (List.mem_cons_self ..);have h2:∀ s∈TX,s.length≤m:=fun z hz=>h z (List.mem_cons_of_mem _ hz);rw [Jf];split
  ·cases ks with
   | nil =>
    have:=E1 (TX:=TX) (ks:=[]) h2;simp only [List.headD_nil,List.tail_nil,List.nil_append,Zd,List.map_nil,List.sum_nil] at *;rw [Nat.mul_add,Nat.mul_one];omega
   | cons a ks =>
    have:=E1 (TX:=TX) (ks:=ks) h2;simp only [List.headD_cons,List.tail_cons,Zb,Zd,List.map_cons,List.sum_cons] at *;rw [Nat.mul_add,Nat.mul_one];omega
  ·have:=E1 (TX:=TX) (ks:=ks) h2;simp only [Zb,Zd];rw [Nat.mul_add,Nat.mul_one];omega
theorem gK {s:List UInt8} (hs:s.length≤3):∀ {ks:List (List UInt8)} {b:Bool},(W8 s b ks).length≤(ks.map List.length).sum+3*ks.length
 | [],b=>by simp [W8]
 | a::ks,b=>by
  have:=gK hs (ks:=ks) (b:=false);have h4:(if b=true then ([]:List UInt8) else s).length≤3:=by
   split
   ·simp
   ·exact hs
  simp only [W8,Zb,List.map_cons,List.sum_cons,Zd];omega
structure ShortD (p:Part):Prop where
 label:p.label.length≤100
 name:p.name.length≤200
 bind:p.bind.length≤100
 t:TyOk p.t→(eE p.t).length≤7200
 u:TyOk p.u→(eE p.u).length≤7200
theorem Zca {p:Part} (h:ShortP p):ShortD p:=⟨h.label,h.name,h.bind,fun ht=>Zew ht h.t h.tn,fun hu=>Zew hu h.u h.un⟩
theorem Zit {p:Part} {ks:List (Rose Part)} (hd:OkD p ks) (hs:ShortD p) (h0:p.kind≠0) (h7:p.kind≠7) (Bf:p.kind≠10):(∀ s∈Xz p,s.length≤7200)∧(Xz p).length≤13:=by
 have h1:=hs.name;have h2:=hs.bind;have h3:=hs.label;have h4:=hs.t;have h5:=hs.u;obtain ⟨⟨V7,Yr⟩,-,-,-,-,Wj,Vp,-⟩:=hd.ok;have Yg:p.kind=1∨p.kind=2∨p.kind=3∨p.kind=4∨p.kind=5∨p.kind=6∨p.kind=8∨p.kind=9∨p.kind=11∨p.kind=12∨p.kind=13∨p.kind=14:=by omega
 have ht:(p.kind=2∨p.kind=4∨p.kind=5∨p.kind=12∨p.kind=13∨p.kind=14)→(eE p.t).length≤7200:=fun h=>h4 (Wj h);have hu:(p.kind=5∨p.kind=14)→(eE p.u).length≤7200:=fun h=>h5 (Vp h);rcases Yg with h|h|h|h|h|h|h|h|h|h|h|h<;>rw [h] at ht hu<;>simp only [Xz,h]<;>simp<;>omega
theorem Zfp {p:Part} {ks:List (Rose Part)} (hd:OkD p ks) (hs:ShortD p):(Q5 p (prTs ks)).length≤94000+((prTs ks).map List.length).sum+3*ks.length:=by
 have hl:=gM (ks:=ks);unfold Q5;split
 ·have:=Zjb (hd.li ‹_›) hs.name;omega
 split
 ·cases hq:prTs ks with
  | nil =>
   simp [W8];omega
  | cons a r =>
   have:=gK (s:=[32,124,32]) (by simp) (ks:=r) (b:=true)
   rw [hq,Zd] at hl;simp only [Zb,Zd,List.length_nil,List.headD_cons,List.tail_cons,List.map_cons,List.sum_cons];omega
 split
 ·have:=gK (s:=[44,32]) (by simp) (ks:=prTs ks) (b:=true)
  simp only [Zb,Zd,List.length_nil];omega
 ·rename_i h0 h7 Bf;obtain ⟨g1,g2⟩:=Zit hd hs h0 h7 Bf;have:=E1 (ks:=prTs ks) g1;omega
mutual
theorem prT_le:∀ (x:Rose Part),OkT x→(∀ p∈nds x,ShortD p)→(prT x).length+3≤100000*(nds x).length
 | mk p ks,h,hs=>by
  have h1:=Zfp h.1 (hs p (by rw [Jt];exact List.mem_cons_self ..))
  have h2:=prTs_le ks h.2 (fun q hq=>hs q (by rw [Jt];exact List.mem_cons_of_mem _ hq))
  have h3:(kU p).length≤103:=by
   have:=(hs p (by rw [Jt];exact List.mem_cons_self ..)).label
   unfold kU;split<;>simp;omega
  rw [prT,Zb,Jt,Zd];omega
theorem prTs_le:∀ (ks:List (Rose Part)),OkTs ks→(∀ p∈ndss ks,ShortD p)→((prTs ks).map List.length).sum+3*ks.length≤100000*(ndss ks).length
 | [],_,_=>by simp [prTs]
 | x::ks,h,hs=>by
  have h1:=prT_le x h.1 (fun q hq=>hs q (by rw [ndss];exact List.mem_append_left _ hq))
  have h2:=prTs_le ks h.2 (fun q hq=>hs q (by rw [ndss];exact List.mem_append_right _ hq))
  simp only [prTs,List.map_cons,List.sum_cons,ndss,Zb,Zd];omega
end
theorem oI {s:List UInt8} (h:Xt s=true):s≠[]:=by
 rintro rfl;cases h
theorem Ze1 {s:List UInt8} (h:Ht s=true):s≠[]:=by
 rintro rfl;cases h
theorem Zfu {s:List UInt8} (h:Cu s=true):s≠[]:=by
 rintro rfl;cases h
theorem Zv8 {s:List UInt8} (h:Zee s=true):s≠[]:=by
 rintro rfl;exact absurd h (by decide)
theorem Zwd {p:Part} (h:Vv p=true) (hn:p.name.length≤200):Zbm p∧TyOk p.t:=by
 unfold Vv Qk8 at h;split at h
 ·cases h
 rename_i h1;have g1:p.t.length=1:=by omega
 obtain ⟨n,Zxw⟩:∃ n,p.t=[n]:=by
  match hq:p.t,g1 with
  | [n],_=>exact ⟨n,rfl⟩
 rw [Zxw] at h h1;simp only [List.getD_cons_zero] at h h1;have hk:1≤n.kind∧n.kind≤4:=by
  repeat' split at h
  all_goals first|omega|cases h
 have vP:n.n=0:=by omega
 refine ⟨⟨g1,by rw [Zxw];exact hk,by omega,by omega⟩,by rw [Zxw];simp,mk n [],by rw [Zxw];simp [Jt,ndss],by simp [wf,wfs,Zbg hk.2],fun p hp=>?_,?_⟩
 ·rw [Jt,ndss,Qy] at hp;subst hp;refine ⟨by omega,by omega,?_⟩
  unfold Va;rw [if_neg (by omega),if_pos (by omega),vP]
  rfl
 ·rw [gN hk.2];have:=rE (k:=n.kind);omega
theorem Zv9 {p:Part} {ks:List (Rose Part)} (hu:U8 p=true) (hs:ShortP p) (Bf:p.kind=10→∀ z∈ks,z.root.label≠[]∧z.root.kind≠8) (hn:p.kind≠10→∀ z∈ks,z.root.label=[]∨z.root.kind=8) (h8:p.kind=8→p.label≠[]):OkD p ks:=by
 unfold U8 Xb at hu;have kt:=fun h=>zH (t:=p.t) h hs.t hs.tn;have ku:=fun h=>zH (t:=p.u) h hs.u hs.un;have kl:=fun h=>Zwd (p:=p) h hs.name;have kw:=fun h=>oI (s:=p.name) h;have kg:=fun h=>Ze1 (s:=p.name) h;have kn:=fun h=>Zfu (s:=p.name) h;have ko:=fun h=>Zv8 (s:=p.name) h;have kb:=fun h=>oI (s:=p.bind) h;have Zyo:=hs.name;by_cases Qbm:p.kind≠0∧p.kind≠14∧p.num≠0
 ·rw [if_pos Qbm] at hu;cases hu
 rw [if_neg Qbm] at hu;have Yg:p.kind=0∨p.kind=1∨p.kind=2∨p.kind=3∨p.kind=4∨p.kind=5∨p.kind=6∨p.kind=7∨p.kind=8∨p.kind=9∨p.kind=10∨p.kind=11∨p.kind=12∨p.kind=13∨p.kind=14:=by
  by_cases hh:0≤p.kind∧p.kind≤14
  ·omega
  ·rw [if_neg (by omega),if_neg (by omega),if_neg (by omega),if_neg (by omega),if_neg (by omega),if_neg (by omega),if_neg (by omega),if_neg (by omega),if_neg (by omega),if_neg (by omega),if_neg (by omega),if_neg (by omega),if_neg (by omega)] at hu
   cases hu
 rcases Yg with h|h|h|h|h|h|h|h|h|h|h|h|h|h|h
 ·rw [if_pos (by omega)] at hu
  simp only [Zg,Zi] at hu;obtain ⟨⟨⟨hb,hm⟩,hU⟩,hl⟩:=hu;obtain ⟨q1,q2⟩:=kl hl;have hT:=q2;have hq:=q1.2.2.1;have Qiy:Aj .i64 p.num:=by rw [Xx];omega
  have h3:p.t.length=1∧Aj .i64 p.num∧p.name.length≤1000000:=⟨q1.1,Qiy,by omega⟩
  have Zep:p.u=[]:=List.length_eq_zero_iff.1 (by omega)
  refine ⟨⟨⟨by omega,by omega⟩,fun hh=>?_,fun hh=>?_,fun hh=>?_,fun hh=>?_,fun hh=>?_,fun hh=>?_,fun hh=>?_⟩,fun hh=>?_,fun hh=>?_,fun hh=>?_,fun hh=>?_,fun hh=>?_,Bf,hn⟩
  all_goals first|assumption|(exfalso;unfold Gl at hh;omega)|(exfalso;unfold Gk at hh;omega)|(exfalso;omega)
 ·rw [if_neg (by omega),if_pos (by omega)] at hu
  simp only [Zg,Zi] at hu;obtain ⟨⟨⟨⟨hb,hm⟩,hT⟩,hU⟩,hl⟩:=hu;have g1:=kn hl;have Zvn:p.t=[]:=List.length_eq_zero_iff.1 (by omega)
  have Zep:p.u=[]:=List.length_eq_zero_iff.1 (by omega)
  refine ⟨⟨⟨by omega,by omega⟩,fun hh=>?_,fun hh=>?_,fun hh=>?_,fun hh=>?_,fun hh=>?_,fun hh=>?_,fun hh=>?_⟩,fun hh=>?_,fun hh=>?_,fun hh=>?_,fun hh=>?_,fun hh=>?_,Bf,hn⟩
  all_goals first|assumption|(exfalso;unfold Gl at hh;omega)|(exfalso;unfold Gk at hh;omega)|(exfalso;omega)
 ·rw [if_neg (by omega),if_neg (by omega),if_pos (by omega)] at hu
  simp only [Zg,Zi] at hu;obtain ⟨⟨⟨⟨vP,hm⟩,hb⟩,Zig⟩,hU⟩:=hu;have g1:=kb hb;have hT:=kt Zig;have Zep:p.u=[]:=List.length_eq_zero_iff.1 (by omega)
  refine ⟨⟨⟨by omega,by omega⟩,fun hh=>?_,fun hh=>?_,fun hh=>?_,fun hh=>?_,fun hh=>?_,fun hh=>?_,fun hh=>?_⟩,fun hh=>?_,fun hh=>?_,fun hh=>?_,fun hh=>?_,fun hh=>?_,Bf,hn⟩
  all_goals first|assumption|(exfalso;unfold Gl at hh;omega)|(exfalso;unfold Gk at hh;omega)|(exfalso;omega)
 ·rw [if_neg (by omega),if_neg (by omega),if_neg (by omega),if_pos (by omega)] at hu
  simp only [Zg,Zi] at hu;obtain ⟨⟨⟨vP,hb,hm⟩,hT⟩,hU⟩:=hu;have Zvn:p.t=[]:=List.length_eq_zero_iff.1 (by omega)
  have Zep:p.u=[]:=List.length_eq_zero_iff.1 (by omega)
  refine ⟨⟨⟨by omega,by omega⟩,fun hh=>?_,fun hh=>?_,fun hh=>?_,fun hh=>?_,fun hh=>?_,fun hh=>?_,fun hh=>?_⟩,fun hh=>?_,fun hh=>?_,fun hh=>?_,fun hh=>?_,fun hh=>?_,Bf,hn⟩
  all_goals first|assumption|(exfalso;unfold Gl at hh;omega)|(exfalso;unfold Gk at hh;omega)|(exfalso;omega)
 ·rw [if_neg (by omega),if_neg (by omega),if_pos (by omega)] at hu
  simp only [Zg,Zi] at hu;obtain ⟨⟨⟨⟨vP,hm⟩,hb⟩,Zig⟩,hU⟩:=hu;have g1:=kb hb;have hT:=kt Zig;have Zep:p.u=[]:=List.length_eq_zero_iff.1 (by omega)
  refine ⟨⟨⟨by omega,by omega⟩,fun hh=>?_,fun hh=>?_,fun hh=>?_,fun hh=>?_,fun hh=>?_,fun hh=>?_,fun hh=>?_⟩,fun hh=>?_,fun hh=>?_,fun hh=>?_,fun hh=>?_,fun hh=>?_,Bf,hn⟩
  all_goals first|assumption|(exfalso;unfold Gl at hh;omega)|(exfalso;unfold Gk at hh;omega)|(exfalso;omega)
 ·rw [if_neg (by omega),if_neg (by omega),if_neg (by omega),if_neg (by omega),if_pos (by omega)] at hu
  simp only [Zg,Zi] at hu;obtain ⟨⟨⟨⟨hw,hm⟩,hb⟩,Zig⟩,Qe3⟩:=hu;have g1:=kb hb;have g2:=kw hw;have hT:=kt Zig;have hU:=ku Qe3;refine ⟨⟨⟨by omega,by omega⟩,fun hh=>?_,fun hh=>?_,fun hh=>?_,fun hh=>?_,fun hh=>?_,fun hh=>?_,fun hh=>?_⟩,fun hh=>?_,fun hh=>?_,fun hh=>?_,fun hh=>?_,fun hh=>?_,Bf,hn⟩
  all_goals first|assumption|(exfalso;unfold Gl at hh;omega)|(exfalso;unfold Gk at hh;omega)|(exfalso;omega)
 ·rw [if_neg (by omega),if_neg (by omega),if_neg (by omega),if_pos (by omega)] at hu
  simp only [Zg,Zi] at hu;obtain ⟨⟨⟨vP,hb,hm⟩,hT⟩,hU⟩:=hu;have Zvn:p.t=[]:=List.length_eq_zero_iff.1 (by omega)
  have Zep:p.u=[]:=List.length_eq_zero_iff.1 (by omega)
  refine ⟨⟨⟨by omega,by omega⟩,fun hh=>?_,fun hh=>?_,fun hh=>?_,fun hh=>?_,fun hh=>?_,fun hh=>?_,fun hh=>?_⟩,fun hh=>?_,fun hh=>?_,fun hh=>?_,fun hh=>?_,fun hh=>?_,Bf,hn⟩
  all_goals first|assumption|(exfalso;unfold Gl at hh;omega)|(exfalso;unfold Gk at hh;omega)|(exfalso;omega)
 ·rw [if_neg (by omega),if_neg (by omega),if_neg (by omega),if_neg (by omega),if_neg (by omega),if_pos (by omega)] at hu
  simp only [Zg,Zi] at hu;obtain ⟨⟨⟨⟨⟨vP,hb⟩,Qbr⟩,Sv⟩,hT⟩,hU⟩:=hu;have g1:0≤p.many∧p.many≤1000000:=by rw [N8] at Qbr Sv;omega
  have Zvn:p.t=[]:=List.length_eq_zero_iff.1 (by omega)
  have Zep:p.u=[]:=List.length_eq_zero_iff.1 (by omega)
  refine ⟨⟨⟨by omega,by omega⟩,fun hh=>?_,fun hh=>?_,fun hh=>?_,fun hh=>?_,fun hh=>?_,fun hh=>?_,fun hh=>?_⟩,fun hh=>?_,fun hh=>?_,fun hh=>?_,fun hh=>?_,fun hh=>?_,Bf,hn⟩
  all_goals first|assumption|(exfalso;unfold Gl at hh;omega)|(exfalso;unfold Gk at hh;omega)|(exfalso;omega)
 ·rw [if_neg (by omega),if_neg (by omega),if_neg (by omega),if_neg (by omega),if_neg (by omega),if_neg (by omega),if_pos (by omega)] at hu
  simp only [Zg,Zi] at hu;obtain ⟨⟨⟨⟨vP,hm⟩,hb⟩,hT⟩,hU⟩:=hu;have g1:=kb hb;have g2:=h8 h;have Zvn:p.t=[]:=List.length_eq_zero_iff.1 (by omega)
  have Zep:p.u=[]:=List.length_eq_zero_iff.1 (by omega)
  refine ⟨⟨⟨by omega,by omega⟩,fun hh=>?_,fun hh=>?_,fun hh=>?_,fun hh=>?_,fun hh=>?_,fun hh=>?_,fun hh=>?_⟩,fun hh=>?_,fun hh=>?_,fun hh=>?_,fun hh=>?_,fun hh=>?_,Bf,hn⟩
  all_goals first|assumption|(exfalso;unfold Gl at hh;omega)|(exfalso;unfold Gk at hh;omega)|(exfalso;omega)
 ·rw [if_neg (by omega),if_neg (by omega),if_neg (by omega),if_neg (by omega),if_neg (by omega),if_neg (by omega),if_neg (by omega),if_pos (by omega)] at hu
  simp only [Zg,Zi] at hu;obtain ⟨⟨⟨Ja,hb,hm⟩,hT⟩,hU⟩:=hu;have g1:=ko Ja;have Zvn:p.t=[]:=List.length_eq_zero_iff.1 (by omega)
  have Zep:p.u=[]:=List.length_eq_zero_iff.1 (by omega)
  refine ⟨⟨⟨by omega,by omega⟩,fun hh=>?_,fun hh=>?_,fun hh=>?_,fun hh=>?_,fun hh=>?_,fun hh=>?_,fun hh=>?_⟩,fun hh=>?_,fun hh=>?_,fun hh=>?_,fun hh=>?_,fun hh=>?_,Bf,hn⟩
  all_goals first|assumption|(exfalso;unfold Gl at hh;omega)|(exfalso;unfold Gk at hh;omega)|(exfalso;omega)
 ·rw [if_neg (by omega),if_neg (by omega),if_neg (by omega),if_neg (by omega),if_neg (by omega),if_neg (by omega),if_neg (by omega),if_neg (by omega),if_pos (by omega)] at hu
  simp only [Zg,Zi] at hu;obtain ⟨⟨⟨⟨⟨vP,hb⟩,Qbr⟩,Sv⟩,hT⟩,hU⟩:=hu;have g1:0≤p.many∧p.many≤1000000:=by rw [N8] at Qbr Sv;omega
  have Zvn:p.t=[]:=List.length_eq_zero_iff.1 (by omega)
  have Zep:p.u=[]:=List.length_eq_zero_iff.1 (by omega)
  refine ⟨⟨⟨by omega,by omega⟩,fun hh=>?_,fun hh=>?_,fun hh=>?_,fun hh=>?_,fun hh=>?_,fun hh=>?_,fun hh=>?_⟩,fun hh=>?_,fun hh=>?_,fun hh=>?_,fun hh=>?_,fun hh=>?_,Bf,hn⟩
  all_goals first|assumption|(exfalso;unfold Gl at hh;omega)|(exfalso;unfold Gk at hh;omega)|(exfalso;omega)
 ·rw [if_neg (by omega),if_neg (by omega),if_neg (by omega),if_neg (by omega),if_neg (by omega),if_neg (by omega),if_neg (by omega),if_neg (by omega),if_neg (by omega),if_pos (by omega)] at hu
  simp only [Zg,Zi] at hu;obtain ⟨⟨⟨hw,hb,hm⟩,hT⟩,hU⟩:=hu;have g1:=kw hw;have Zvn:p.t=[]:=List.length_eq_zero_iff.1 (by omega)
  have Zep:p.u=[]:=List.length_eq_zero_iff.1 (by omega)
  refine ⟨⟨⟨by omega,by omega⟩,fun hh=>?_,fun hh=>?_,fun hh=>?_,fun hh=>?_,fun hh=>?_,fun hh=>?_,fun hh=>?_⟩,fun hh=>?_,fun hh=>?_,fun hh=>?_,fun hh=>?_,fun hh=>?_,Bf,hn⟩
  all_goals first|assumption|(exfalso;unfold Gl at hh;omega)|(exfalso;unfold Gk at hh;omega)|(exfalso;omega)
 ·rw [if_neg (by omega),if_neg (by omega),if_neg (by omega),if_neg (by omega),if_neg (by omega),if_neg (by omega),if_neg (by omega),if_neg (by omega),if_neg (by omega),if_neg (by omega),if_pos (by omega)] at hu
  simp only [Zg,Zi] at hu;obtain ⟨⟨⟨hw,hb,hm⟩,Zig⟩,hU⟩:=hu;have g1:=kg hw;have hT:=kt Zig;have Zep:p.u=[]:=List.length_eq_zero_iff.1 (by omega)
  refine ⟨⟨⟨by omega,by omega⟩,fun hh=>?_,fun hh=>?_,fun hh=>?_,fun hh=>?_,fun hh=>?_,fun hh=>?_,fun hh=>?_⟩,fun hh=>?_,fun hh=>?_,fun hh=>?_,fun hh=>?_,fun hh=>?_,Bf,hn⟩
  all_goals first|assumption|(exfalso;unfold Gl at hh;omega)|(exfalso;unfold Gk at hh;omega)|(exfalso;omega)
 ·rw [if_neg (by omega),if_neg (by omega),if_neg (by omega),if_neg (by omega),if_neg (by omega),if_neg (by omega),if_neg (by omega),if_neg (by omega),if_neg (by omega),if_neg (by omega),if_neg (by omega),if_pos (by omega)] at hu
  simp only [Zg,Zi] at hu;obtain ⟨⟨⟨vP,hb,hm⟩,Zig⟩,hU⟩:=hu;have hT:=kt Zig;have Zep:p.u=[]:=List.length_eq_zero_iff.1 (by omega)
  refine ⟨⟨⟨by omega,by omega⟩,fun hh=>?_,fun hh=>?_,fun hh=>?_,fun hh=>?_,fun hh=>?_,fun hh=>?_,fun hh=>?_⟩,fun hh=>?_,fun hh=>?_,fun hh=>?_,fun hh=>?_,fun hh=>?_,Bf,hn⟩
  all_goals first|assumption|(exfalso;unfold Gl at hh;omega)|(exfalso;unfold Gk at hh;omega)|(exfalso;omega)
 ·rw [if_neg (by omega),if_neg (by omega),if_neg (by omega),if_neg (by omega),if_neg (by omega),if_neg (by omega),if_neg (by omega),if_neg (by omega),if_neg (by omega),if_neg (by omega),if_neg (by omega),if_neg (by omega),if_pos (by omega)] at hu
  simp only [Zg,Zi] at hu;obtain ⟨⟨⟨⟨vP,hb,hm⟩,Zig⟩,Qe3⟩,hq⟩:=hu;have hT:=kt Zig;have hU:=ku Qe3;refine ⟨⟨⟨by omega,by omega⟩,fun hh=>?_,fun hh=>?_,fun hh=>?_,fun hh=>?_,fun hh=>?_,fun hh=>?_,fun hh=>?_⟩,fun hh=>?_,fun hh=>?_,fun hh=>?_,fun hh=>?_,fun hh=>?_,Bf,hn⟩
  all_goals first|assumption|(exfalso;unfold Gl at hh;omega)|(exfalso;unfold Gk at hh;omega)|(exfalso;omega)
theorem Zgf {p:Part} {ks:List (Rose Part)} (h:iF p ks=true):(p.kind=10→∀ z∈ks,z.root.label≠[]∧z.root.kind≠8)∧(p.kind≠10→∀ z∈ks,z.root.label=[]∨z.root.kind=8)∧∀ z∈ks,z.root.kind=8→z.root.label≠[]:=by
 have key:∀ z∈ks,∃ br:Bool,Ro p z.root br=true∧(br=true→p.kind=7):=by
  intro z hz;obtain ⟨k,hk,rfl⟩:=List.getElem_of_mem hz;unfold iF at h;have:=List.all_eq_true.1 h k (List.mem_range.2 hk);rw [Zg] at this;refine ⟨(p.kind==7)&&Jw 0 (k:Int),?_,fun hb=>?_⟩
  ·have h1:=this.1;have Zvi:bF ks k=ks[k].root:=by simp [bF,hk]
   rw [Zvi] at h1;exact h1
  ·rw [Zg,Zi] at hb;exact hb.1
 refine ⟨fun Bf z hz=>?_,fun Bf z hz=>?_,fun z hz h8=>?_⟩
 ·obtain ⟨br,h1,h2⟩:=key z hz;have hb:br=false:=by
   cases br with
   | false=>rfl
   | true=>have:=h2 rfl;omega
  subst hb;unfold Ro at h1;simp [Bf] at h1;exact ⟨oI h1.2,h1.1⟩
 ·obtain ⟨br,h1,h2⟩:=key z hz;unfold Ro at h1;cases br with
  | true =>
   simp at h1;exact .inr h1.1
  | false =>
   simp [Bf] at h1;exact .inl h1.2
 ·obtain ⟨br,h1,h2⟩:=key z hz;unfold Ro at h1;cases br with
  | true =>
   simp at h1;exact Ze1 h1.2.1
  | false =>
   simp at h1;exact absurd h8 h1.1
mutual
theorem okT_of:∀ (x:Rose Part),Em (nds x)→(∀ p∈nds x,ShortP p)→labT5 x=true→(x.root.kind=8→x.root.label≠[])→OkT x
 | mk p ks,hu,hs,hl,h8=>by
  rw [labT5,Zg] at hl;obtain ⟨g1,g2,g3⟩:=Zgf hl.1;refine ⟨Zv9 (hu p (by rw [Jt];exact List.mem_cons_self ..)) (hs p (by rw [Jt];exact List.mem_cons_self ..)) g1 g2 h8,?_⟩
  exact okTs_of ks (fun q hq=>hu q (by rw [Jt];exact List.mem_cons_of_mem _ hq)) (fun q hq=>hs q (by rw [Jt];exact List.mem_cons_of_mem _ hq)) hl.2 g3
theorem okTs_of:∀ (ks:List (Rose Part)),Em (ndss ks)→(∀ p∈ndss ks,ShortP p)→labTs5 ks=true→(∀ z∈ks,z.root.kind=8→z.root.label≠[])→OkTs ks
 | [],_,_,_,_=>trivial
 | x::ks,hu,hs,hl,h8=>by
  rw [labTs5,Zg] at hl;exact ⟨okT_of x (fun q hq=>hu q (by rw [ndss];exact List.mem_append_left _ hq)) (fun q hq=>hs q (by rw [ndss];exact List.mem_append_left _ hq)) hl.1 (h8 x (List.mem_cons_self ..)),
   okTs_of ks (fun q hq=>hu q (by rw [ndss];exact List.mem_append_right _ hq)) (fun q hq=>hs q (by rw [ndss];exact List.mem_append_right _ hq)) hl.2 (fun z hz=>h8 z (List.mem_cons_of_mem _ hz))⟩
end
theorem Zcp:∀ {x:Rose Part},OkT x→∀ p∈nds x,fB p:=by
 have key:(∀ x:Rose Part,OkT x→∀ p∈nds x,fB p)∧∀ ks:List (Rose Part),OkTs ks→∀ p∈ndss ks,fB p:=by
  refine ⟨fun x=>?_,fun ks=>?_⟩
  ·exact Rose.rec (motive_1:=fun x=>OkT x→∀ p∈nds x,fB p) (motive_2:=fun ks=>OkTs ks→∀ p∈ndss ks,fB p)
    (fun n ks ih h p hp=>by
     rw [Jt] at hp;rcases Z2.1 hp with rfl|hp
     ·exact h.1.ok
     ·exact ih h.2 p hp)
    (fun _ p hp=>by simp [ndss] at hp)
    (fun x ks ih1 ih2 h p hp=>by
     rw [ndss] at hp;rcases List.mem_append.1 hp with hp|hp
     ·exact ih1 h.1 p hp
     ·exact ih2 h.2 p hp) x
  ·exact Rose.rec_1 (motive_1:=fun x=>OkT x→∀ p∈nds x,fB p) (motive_2:=fun ks=>OkTs ks→∀ p∈ndss ks,fB p)
    (fun n ks ih h p hp=>by
     rw [Jt] at hp;rcases Z2.1 hp with rfl|hp
     ·exact h.1.ok
     ·exact ih h.2 p hp)
    (fun _ p hp=>by simp [ndss] at hp)
    (fun x ks ih1 ih2 h p hp=>by
     rw [ndss] at hp;rcases List.mem_append.1 hp with hp|hp
     ·exact ih1 h.1 p hp
     ·exact ih2 h.2 p hp) ks
 exact fun {x}=>key.1 x
theorem Zfo {p:Part} {ps:List (List UInt8)} (h:fB p):Q5 p ps≠[]:=by
 obtain ⟨⟨V7,Yr⟩,-,Ut,H6,Qem,Wj,Vp,-⟩:=h;unfold Q5;split
 ·unfold D2;split
  ·unfold Lib.itoa;split
   ·simp
   ·rw [Lib.decDigits];split<;>simp
  split
  ·unfold dU;cases (p.num==1)<;>simp
  split
  ·simp [Nn]
  ·simp
 split
 ·simp
 split
 ·simp
 rename_i h0 h7 Bf;have Yg:p.kind=1∨p.kind=2∨p.kind=3∨p.kind=4∨p.kind=5∨p.kind=6∨p.kind=8∨p.kind=9∨p.kind=11∨p.kind=12∨p.kind=13∨p.kind=14:=by omega
 rcases Yg with h|h|h|h|h|h|h|h|h|h|h|h
 all_goals simp only [Xz,h]
 all_goals simp [Jf,Ut,h,Qem]
theorem Zv6 {t:List Part} {m:Nat} (hm:m≤1000) (h:Y6 t=true) (hf:FewE t m):Qdm t∧Qa9 t∧Zv7 t=Zck t:=by
 obtain ⟨x,rfl,hx⟩:=Kz h;have hs:∀ p∈nds x,ShortP p:=fun p hp=>aP (hf.parts p hp);have X5:=okT_of x hx.uses hs hx.lab (fun h8=>absurd h8 hx.kind);have M8:=prT_le x X5 (fun p hp=>Zca (hs p hp));have Z8:=hf.len;have hD:prT x=Bg x:=J4 (.inl hx.label);have Hk:prT x≠[]:=by
  obtain ⟨p,ks⟩:=x;rw [hD,wL];exact Zfo X5.1.ok
 have e1:Zv7 (nds x)=prT x:=wI hx.wf;have e2:Zck (nds x)=Bg x:=by
  unfold Zck;rw [Xp (Yz hx.wf)]
 refine ⟨⟨by omega,x,rfl,hx.wf,Zcp X5,by omega,Hk⟩,⟨⟨by omega,fun n hn=>Ex (hx.uses n hn)⟩,x,rfl,hx.wf,X5,by rw [←hD];omega⟩,by rw [e1,e2,hD]⟩
theorem xB {α:Type} (d:α) {a b:List α} (hl:a.length=b.length) (h:∀ j,j<a.length→a.getD j d=b.getD j d):a=b:=by
 refine List.ext_getElem hl fun j h1 h2=>?_;have:=h j h1;simpa [h1,h2] using this
def Cd:Con:=Vx (fun (a b:Sl Int)=>a.l.length≤1000000∧b.l.length≤1000000) (fun a b=>a.l==b.l)
class Kjr:Prop
theorem Kjr.k (_:Kjr) (h:p:=by
 first|exact ⟨k+1,by exact Xa,by omega,h2,by omega⟩|skip):p:=h
class Kjq:Prop
theorem Kjq.k (_:Kjq) (h:p:=by
 refine Z4 [4,11,12,13,14,15,16,17,18,19,20,21,22,23,24,25] (fun k:Nat=>[(5,.d (.int .i64 k))]) (fun k:Nat=>[]) (fun k:Nat=>k≤a.length∧∀ j,j<k→a.getD j 0=b.getD j 0) (fun k:Nat=>a.length-k) 0 ?_ ?_ ?_
 ·simp
 ·exact Xa
 rintro k ⟨hk,Y3⟩;rcases Qh k a.length with ⟨Qg,Qx⟩|⟨Qg,Qx⟩
 ·have Ql:=Qc (0:Int) Qg;have Q3:=Qc (0:Int) (show k<b.length by omega)
  have Us:a.getD k 0=b.getD k 0→∀ j,j<k+1→a.getD j 0=b.getD j 0:=by
   intro h j hj;by_cases e:j=k
   ·subst e;exact h
   ·exact Y3 j (by omega)
  have Xi:a.getD k 0≠b.getD k 0→(a==b)=false:=by
   intro h;rw [Za];intro e;exact h (by rw [e])
  obtain ⟨x,hx⟩:=exq (a.getD k 0);obtain ⟨y,hy⟩:=exq (b.getD k 0);rw [hx] at Ql Us Xi;rw [hy] at Q3 Us Xi;cases Ji:(x != y) with
  | true =>
   have Q2:=Xi (by simpa using Ji)
   exact Ng
  | false =>
   have h2:=Us (by simpa using Ji)
   have Kq:Kjr:=⟨⟩;exact Qa
 ·have Q2:(a==b)=true:=by
   rw [Zi];refine List.ext_getElem Z8 fun j h1 h2=>?_;have:=Y3 j (by omega)
   simpa [h1,h2] using this
  exact A4):p:=h
theorem good_Ints03:Jd Tryz.prog (18,Cd):=by
 obtain ⟨Kx,Kt,Kc,Kd,Kb,Ku,Kw,K,_⟩:=Yc Qp Z0 [] false Yb;have Ko:=Cd.eq_def;refine Ve K Tryz.func18 [.tmp 4] rfl 26 rfl (fun c hc J0 Zo=>?_);unfold Cd at Zo;obtain ⟨⟨a⟩,⟨b⟩,rfl,ha,hb⟩:=Jh Zo;simp only at ha hb;obtain ⟨R,hR⟩:=exq ((a==b));by_cases Z8:a.length=b.length
 case neg =>
  have Qz:((a.length:Int) != (b.length:Int))=true:=by rw [bne_iff_ne];omega
  have Q2:(a==b)=false:=by rw [Za];intro e;exact Z8 (by rw [e])
  cases hc;exact A4
 have Qz:((a.length:Int) != (b.length:Int))=false:=by rw [Z8,bne_self_eq_false]
 cases hc;have Kq:Kjq:=⟨⟩;exact Qa
def M4:Con:=Vx (fun (a b:Sl (List UInt8))=>a.l.length≤1000000∧b.l.length≤1000000) (fun a b=>a.l==b.l)
class Kjt:Prop
theorem Kjt.k (_:Kjt) (h:p:=by
 first|exact ⟨k+1,by exact Xa,by omega,h2,by omega⟩|skip):p:=h
class Kjs:Prop
theorem Kjs.k (_:Kjs) (h:p:=by
 refine Z4 [4,11,12,13,14,15,16,17,18,19,20,21,22,23,24,25] (fun k:Nat=>[(5,.d (.int .i64 k))]) (fun k:Nat=>[]) (fun k:Nat=>k≤a.length∧∀ j,j<k→a.getD j []=b.getD j []) (fun k:Nat=>a.length-k) 0 ?_ ?_ ?_
 ·exact ⟨by omega,fun j hj=>absurd hj (Nat.not_lt_zero j)⟩
 ·exact Xa
 rintro k ⟨hk,Y3⟩;rcases Qh k a.length with ⟨Qg,Qx⟩|⟨Qg,Qx⟩
 ·have Ql:=Qc ([]:List UInt8) Qg;have Q3:=Qc ([]:List UInt8) (show k<b.length by omega)
  have Us:a.getD k []=b.getD k []→∀ j,j<k+1→a.getD j []=b.getD j []:=fun h=>Nf Y3 h;have Xi:a.getD k []≠b.getD k []→(a==b)=false:=by
   intro h;rw [Za];intro e;exact h (by rw [e])
  obtain ⟨x,hx⟩:=exq (a.getD k []);obtain ⟨y,hy⟩:=exq (b.getD k []);rw [hx] at Ql Us Xi;rw [hy] at Q3 Us Xi;cases Ji:(x==y) with
  | false =>
   have Q2:=Xi (by simpa using Ji)
   exact Ng
  | true =>
   have h2:=Us (by simpa using Ji)
   have Kq:Kjt:=⟨⟩;exact Qa
 ·have Q2:(a==b)=true:=by
   rw [Zi];exact xB [] Z8 fun j hj=>Y3 j (by omega)
  exact A4):p:=h
theorem good_Strings5:Jd Tryz.prog (23,M4):=by
 obtain ⟨Kx,Kt,Kc,Kd,Kb,Ku,Kw,K,_⟩:=Yc Qp Z0 [] false Yb;have Ko:=M4.eq_def;refine Ve K Tryz.func23 [.tmp 4] rfl 26 rfl (fun c hc J0 Zo=>?_);unfold M4 at Zo;obtain ⟨⟨a⟩,⟨b⟩,rfl,ha,hb⟩:=Jh Zo;simp only at ha hb;by_cases Z8:a.length=b.length
 case neg =>
  have Qz:((a.length:Int) != (b.length:Int))=true:=by rw [bne_iff_ne];omega
  have Q2:(a==b)=false:=by rw [Za];intro e;exact Z8 (by rw [e])
  cases hc;exact A4
 have Qz:((a.length:Int) != (b.length:Int))=false:=by rw [Z8,bne_self_eq_false]
 cases hc;have Kq:Kjs:=⟨⟩;exact Qa
theorem Zgj {t:List Part} (h:Me t) (i:Int):(Vn t i).length≤60:=by
 unfold Vn;split
 ·simp
 ·rename_i hi;have h1:=Lk t (Qu (t.getD i.toNat e0)).toNat (i.toNat+1);have h2:=h.2 (t.getD i.toNat e0) (by
   rw [Zk,Zh (by omega)]
   exact List.getElem_mem _)
  omega
def con_AstTells:Con:=Vx (fun (a:Sl Part) (i:Int)=>Qbd a.l∧Aj .i64 i) (fun _ _=>true)
theorem good_AstTells:Jd Tryz.prog (4,con_AstTells):=by
 obtain ⟨Kx,Kt,Kc,Kd,Kb,Ku,Kw,K,Y0,Xr,eV,kB,Zd6,Zhv,Zkc,Zkb,Zka,Zj9,rZ,rQ,qU,qT,_⟩:=Yc Qp Z0 [] false (Xu good_Few5 O3.eq_def (Xu good_Right5 T4.eq_def (Xu good_alive05 B9.eq_def (Xu good_EndA Sm.eq_def (Xu good_End5 Sn.eq_def (Xu good_KidsA Si.eq_def (Xu good_Kids5 Nv.eq_def (Xu good_Ints03 Cd.eq_def (Xu good_PrintG T8.eq_def (Xu tO T9.eq_def (Xu good_FreeA Sk.eq_def (Xu good_Free5 Fv.eq_def (Xu good_Strings5 M4.eq_def (Xu good_One5 O1.eq_def Yb))))))))))))));have Ko:=con_AstTells.eq_def;refine Ve K Tryz.func4 [.tmp 4] rfl 58 rfl (fun c hc J0 Zo=>?_);unfold con_AstTells at Zo;obtain ⟨⟨t⟩,i,rfl,⟨ha,hA⟩,hi⟩:=Jh Zo;simp only at ha hA;clear Zo;cases Qz:Zdl t 120 with
 | false =>
  cases hc;refine Ym 3 ?_;exact Ng
 | true =>
 have ea:FewE t 120:=Zjl Qz;have a2:=ea.fit6;have a4:=ea.len;cases Q2:Y6 t with
 | false =>
  cases hc;refine Ym 3 ?_;exact Ng
 | true =>
 have hT:=Rh Q2;have Qjg:=eF Q2 i;have Qiq:=Zez Q2;have Js:=Zjj Q2;have Ly:=yZ Qiq;have Wa:=Zgj hT i;have hI:=ea.in5 (by omega)
 obtain ⟨vO,vC,Jl⟩:=Zv6 (by omega) Q2 ea
 have Qjd:∀ p∈t,p.name.length≤3000000:=fun p hp=>by have:=(aP (ea.parts p hp)).name;omega
 obtain ⟨E,Qx⟩:=exq (Sf t i);obtain ⟨K,Ql⟩:=exq (Vn t i);obtain ⟨S,Q3⟩:=exq (Zck t);obtain ⟨F,Ji⟩:=exq (Tl t);rw [Q3] at Jl;rw [Ji] at Js Ly;rw [Ql] at Wa;have Jk:(E==E)=true:=beq_self_eq_true _;have Q7:(K==K)=true:=beq_self_eq_true _;have Zz:(S==S)=true:=beq_self_eq_true _;have Qi:(F==F)=true:=beq_self_eq_true _;have Qo:(t==t)=true:=beq_self_eq_true _;cases hc;refine Ym 3 ?_;exact Ng
def Ql6:List (List UInt8):=[[105,109,112,111,114,116],[100,101,102],[102,117,110],[108,101,116],[114,101,99],[105,110],[105,102],[116,104,101,110],[101,108,115,101],[99,97,115,101],[111,102],[101,110,100],[116,114,117,101],[102,97,108,115,101],[117,110,105,116],[105,110,116],[98,111,111,108],[115,116,114,105,110,103]]
def Qj9 (s:List UInt8):Bool:=Ql6.any fun o=>o==s
def Qkc:Con:=Lu (Sl.mk Ql6)
theorem Qly:Jd Tryz.prog (74,Qkc):=by
 obtain ⟨Kx,Kt,Kc,Kd,Kb,Ku,Kw,K,_⟩:=Yc Qp Z0 [] false Yb;have Ko:=Qkc.eq_def;refine Ve K Tryz.func74 [.tmp 0] rfl 2 rfl (fun c hc J0 Zo=>?_);unfold Qkc at Zo;obtain rfl:=jM Zo;cases hc;exact Ng
def Qj5:Con:=Xh (fun (_:List UInt8)=>True) (fun s=>Qj9 s)
class Kjv:Prop
theorem Kjv.k (_:Kjv) (h:p:=by
 repeat' first|exact Cg|with_reducible apply Z9|intro _
 all_goals first|with_reducible exact Zz5|omega|exact ⟨k+1,by exact Xa,by omega,h2,by omega⟩|skip):p:=h
class Kju:Prop
theorem Kju.k (_:Kju) (h:p:=by
 repeat' first|exact Cg|with_reducible apply Z9|intro _
 refine Z4 [2,6,7,8,9,10,11,12,13,14,15,16,17] (fun k:Nat=>[(4,.d (.int .i64 k))]) (fun k:Nat=>[]) (fun k:Nat=>k≤18∧∀ j,j<k→l.getD j []≠s) (fun k:Nat=>18-k) 0 ?_ ?_ ?_
 ·simp
 ·exact Xa
 rintro k ⟨hk,Y3⟩;by_cases Qg:k<18
 ·have Qx:Jw (k:Int) 18=true:=by rw [Je];omega
  have Ql:=Qc ([]:List UInt8) (show k<l.length by omega)
  have Us:l.getD k []≠s→∀ j,j<k+1→l.getD j []≠s:=fun h=>Nf Y3 h;have C3:(l.getD k []==s)=true→R=true:=fun h=>by rw [←Qj];exact Zhp (p:=fun o=>o==s) [] k (by omega) h
  obtain ⟨y,hy⟩:=exq (l.getD k []);rw [hy] at Ql Us C3;cases Q3:(y==s) with
  | true =>
   have hr:=C3 Q3;subst hr;exact Ng
  | false =>
   have h2:=Us (Za.1 Q3);have Kq:Kjv:=⟨⟩;exact rT
 ·have Qx:Jw (k:Int) 18=false:=by rw [Jj];omega
  have hr:R=false:=by rw [←Qj];exact Zbh (p:=fun o=>o==s) [] fun j hj=>Za.2 (Y3 j (by omega))
  subst hr;exact A4):p:=h
theorem good_IsKey2:Jd Tryz.prog (50,Qj5):=by
 obtain ⟨Kx,Kt,Kc,Kd,Kb,Ku,Kw,K,Y0,_⟩:=Yc Qp Z0 [] false (Xu Qly Qkc.eq_def Yb);have Ko:=Qj5.eq_def;refine Ve K Tryz.func50 [.tmp 2] rfl 18 rfl (fun c hc J0 Zo=>?_);unfold Qj5 at Zo;obtain ⟨s,rfl,-⟩:=Qs Zo;clear Zo;obtain ⟨R,Ji⟩:=exq (Qj9 s);have Qj:=Ji;unfold Qj9 at Qj;have hl:Ql6.length=18:=rfl;obtain ⟨l,Qz⟩:=exq (Ql6);rw [Qz] at Qj hl;have Q2:(l.length:Int)=18:=by rw [hl];rfl
 cases hc;have Kq:Kju:=⟨⟩;exact rT
def Qkr (p:Part):Bool:=(p.kind==14)||((p.kind==1)&&Qj9 p.name)
def Qj2 (t:List Part):Bool:=!(t.any Qkr)
def Qj1:Con:=Xh (fun (t:Sl Part)=>t.l.length≤1000000) (fun t=>Qj2 t.l)
class Kjx:Prop
theorem Kjx.k (_:Kjx) (h:p:=by
 repeat' first|exact Cg|with_reducible apply Z9|intro _
 all_goals first|contradiction|with_reducible exact Zz5|omega|exact ⟨k+1,by exact Xa,by omega,h2,by omega⟩|skip):p:=h
class Kjy:Prop
theorem Kjy.k (_:Kjy) (h:p:=by
 repeat' first|exact Cg|with_reducible apply Z9|intro _
 all_goals first|contradiction|with_reducible exact Zz5|omega|exact ⟨k+1,by exact Xa,by omega,h2,by omega⟩|skip):p:=h
class Kjw:Prop
theorem Kjw.k (_:Kjw) (h:p:=by
 repeat' first|exact Cg|with_reducible apply Z9|intro _
 refine Z4 [2,4,5,6,7,8,9,10,11,12,13,14,15,16,17,18,19,20,21,22,23,24,25,26,27,28,29,30,31] (fun k:Nat=>[(3,.d (.int .i64 k))]) (fun k:Nat=>[]) (fun k:Nat=>k≤t.length∧∀ j,j<k→Qkr (t.getD j e0)=false) (fun k:Nat=>t.length-k) 0 ?_ ?_ ?_
 ·exact ⟨Nat.zero_le _,fun j hj=>absurd hj (Nat.not_lt_zero j)⟩
 ·exact Xa
 rintro k ⟨hk,Y3⟩;rcases Qh k t.length with ⟨Qg,Q2⟩|⟨Qg,Q2⟩
 ·have Qx:=Qc e0 Qg;have Us:Qkr (t.getD k e0)=false→∀ j,j<k+1→Qkr (t.getD j e0)=false:=by
   intro h j hj;by_cases e:j=k
   ·subst e;exact h
   ·exact Y3 j (by omega)
  have C3:Qkr (t.getD k e0)=true→R=false:=fun h=>by
   rw [←Qz];unfold Qj2;rw [Zhp (p:=Qkr) e0 k (by omega) h]
   rfl
  obtain ⟨x,hx⟩:=exq (t.getD k e0);rw [hx] at Qx Us C3;obtain ⟨xk,xl,xn,xb,xm,xu,xt,xv⟩:=x;cases Ql:(xk==14) with
  | true =>
   have hr:=C3 (by unfold Qkr;simp [Ql])
   subst hr;exact Ng
  | false =>
  cases Q3:(xk==1) with
  | false =>
   have h2:=Us (by unfold Qkr;simp [Ql,Q3])
   have Kq:Kjx:=⟨⟩;exact rT
  | true =>
  cases Ji:Qj9 xn with
  | true =>
   have hr:=C3 (by unfold Qkr;simp [Q3,Ji])
   subst hr;exact Ng
  | false =>
   have h2:=Us (by unfold Qkr;simp [Ql,Ji])
   have Kq:Kjy:=⟨⟩;exact rT
 ·have hr:R=true:=by
   rw [←Qz];unfold Qj2;rw [Zbh (p:=Qkr) e0 fun j hj=>Y3 j (by omega)]
   rfl
  subst hr;exact A4):p:=h
theorem good_plainL5:Jd Tryz.prog (27,Qj1):=by
 obtain ⟨Kx,Kt,Kc,Kd,Kb,Ku,Kw,K,Y0,_⟩:=Yc Qp Z0 [] false (Xu good_IsKey2 Qj5.eq_def Yb);have Ko:=Qj1.eq_def;refine Ve K Tryz.func27 [.tmp 2] rfl 32 rfl (fun c hc J0 Zo=>?_);unfold Qj1 at Zo;obtain ⟨⟨t⟩,rfl,ht⟩:=Qs Zo;simp only at ht;clear Zo;obtain ⟨R,Qz⟩:=exq (Qj2 t);cases hc;refine Ym 2 ?_;have Kq:Kjw:=⟨⟩;exact rT
end Go.Am.Ty
