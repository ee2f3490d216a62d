/- Contracts of functions that the law reaches, and plain laws. Conditions: those that each contract states. -/
import Derived.Test.YtilpfkjhahnfaaaGreatP6
set_option maxHeartbeats 4000000
set_option linter.unusedVariables false
set_option linter.unusedSimpArgs false
variable {p:Prop}
set_option maxRecDepth 100000
namespace Go.Am.Ty
open Go.Proofs
open Enc (enc dec)
def Zcq:List Part→List Int→Bool
 | [],_=>true
 | n::l,rs=>if 100≤rs.length then false else Zcq l (dF (Vr n) rs)
def nQ (t:List Part):Bool:=Zcq t []
def Qk1 (rs:List Int):Prop:=(∀ x∈rs,0≤x∧x≤60)∧∀ x∈rs.tail,1≤x
def Dq:Con:=Xj (fun (t:Sl Part)=>uW t.l) (fun t=>nQ t.l)
class KcQ:Prop
theorem KcQ.k (_:KcQ) (h:p:=by
 simp only [Qc0] at g4;exact ⟨(k+1,[]),by exact Qt,by simp only;omega,by simp,by simp,by simp only;rw [←h4,e1,g4],by simp only;omega⟩):p:=h
class KcR:Prop
theorem KcR.k (_:KcR) (h:p:=by
 exact ⟨[],by exact Qt,⟨by simp,by simp⟩,by simp,by rw [←g4];rfl,by simp⟩):p:=h
class KcS:Prop
theorem KcS.k (_:KcS) (h:p:=by
 refine ⟨(y-1)::r,by exact Qt,⟨fun z Qi=>?_,fun z Qi=>g2 z (List.mem_cons_of_mem _ Qi)⟩,by simp only [Zi];omega,by rw [←g4];simp only [Qc0,dF,if_true],by simp only [Zi];omega⟩
 rcases Zs.1 Qi with rfl|Qi
 ·omega
 ·exact g1 z (List.mem_cons_of_mem _ (List.mem_cons_of_mem _ Qi))):p:=h
class KcT:Prop
theorem KcT.k (_:KcT) (h:p:=by
 have e3:dF M rs=x::r:=by rw [←g4];exact gQ sI
 refine ⟨(k+1,x::r),by exact Qt,by simp only;omega,by simp only [Zi];omega,fun z Qi=>?_,by simp only;rw [←h4,e1,e3],by simp only;omega⟩
 rcases Zs.1 Qi with rfl|Qi
 ·omega
 ·exact ⟨g2 z Qi,(g1 z (List.mem_cons_of_mem _ Qi)).2⟩):p:=h
class KcP:Prop
theorem KcP.k (_:KcP) (h:p:=by
 revert e1 Qis;generalize Vr (t.getD k e0)=M;intro Qis e1;repeat' first|exact M7|with_reducible apply Zw|intro _
 ·rw [if_pos (by omega)] at e1
  rw [←h4,e1]
 ·rw [if_neg (by omega)] at e1
  have e2:rs.reverse++[M]=(M::rs).reverse:=by simp
  have hS:∀ (q:List Int),q≠[]→((q.length:Nat):Int)-1=((q.length-1:Nat):Int):=by
   intro q hq;have:=List.length_pos_iff.2 hq;omega
  refine Zm [23,24,25,26,27,28,29,30,31,32,33,34,35,36,37,38,39,40,41,42,43,44,45,46,47,48,49,50] (fun q:List Int=>[(3,.sl 5 (q.reverse.map enc).length),(5,.dead),(12,.dead),(15,.dead),(22,.dead)]) (fun q:List Int=>[(5,.row 1 (q.reverse.map enc) 0)]) (fun q:List Int=>Qk1 q∧q.length≤101∧Qc0 q=dF M rs) (fun q:List Int=>q.length) (M::rs) ?_ ?_ ?_
  ·refine ⟨⟨fun x hx=>?_,fun x hx=>(h3 x hx).1⟩,by simp only [Zi];omega,rfl⟩
   rcases Zs.1 hx with rfl|hx
   ·exact Qis
   ·have:=h3 x hx;omega
  ·exact Qt
  rintro q ⟨⟨g1,g2⟩,g3,g4⟩;cases q with
  | nil =>
   have Qi:Wd 0 ((0:Nat):Int)=false:=rfl;have Z6:=@List.length_reverse.{0};have Z7:=@List.reverse_nil.{0};have Qq:=@Z5;have Qj:=@Qa;have Qx:=@Qb;have Qm:=@Qe;have Qg:=@U0;have Kq:KcQ:=⟨⟩;exact Xv
  | cons x r =>
   have Qi:Wd 0 ((r.length+1:Nat):Int)=true:=by rw [Jj];omega
   have Qn:((r.length+1:Nat):Int)-1=(r.length:Int):=by omega
   have Zb4:=g1 x (by simp)
   have Ql:el (List.map enc (x::r).reverse) r.length=.int .i64 x:=nV;have Qp:List.take r.length (List.map (enc:Int→D) (x::r).reverse)=List.map enc r.reverse:=Zja;simp only [Zi] at g3;by_cases sI:x=0
   ·subst sI;cases r with
    | nil =>
     have Qv:Wd 0 ((0:Nat):Int)=false:=rfl;simp only [List.length_nil] at Qi Qn Ql Qp;have Z6:=@List.length_reverse.{0};have Z7:=@List.reverse_nil.{0};have Qq:=@Z5;have Qj:=@Qa;have Qx:=@Qb;have Qm:=@Qe;have Qg:=@U0;have Kq:KcR:=⟨⟩;exact Xv
    | cons y r =>
     have Jak:=g2 y (by simp)
     have Jaj:=g1 y (by simp)
     have Q3:Wd 0 ((r.length+1:Nat):Int)=true:=by rw [Jj];omega
     have Jh:((r.length+1:Nat):Int)-1=(r.length:Int):=by omega
     have Jb:el (List.map enc (y::r).reverse) r.length=.int .i64 y:=nV;simp only [Zi] at Qi Qn Ql Qp g3;have Z6:=@List.length_reverse.{0};have Z7:=@Z5;have Qq:=@Qa;have Qj:=@Qb;have Qx:=@Qe;have Qm:=@U0;have Kq:KcS:=⟨⟩;exact Xv
   ·have Z3:(x==(0:Int))=false:=by simpa using sI
    have Z6:=@List.length_reverse.{0};have Z7:=@Z5;have Qq:=@Qa;have Qj:=@Qb;have Qx:=@Qe;have Qm:=@U0;have Kq:KcT:=⟨⟩;exact Xv):p:=h
class KcU:Prop
theorem KcU.k (_:KcU) (h:p:=by
 rw [←h4,List.drop_eq_nil_of_le Zv];rfl):p:=h
class KcO:Prop
theorem KcO.k (_:KcO) (h:p:=by
 refine Zm [2,6,7,8,9,10,11,12,13,14,15,16,17,18,19,20,21,22,23,24,25,26,27,28,29,30,31,32,33,34,35,36,37,38,39,40,41,42,43,44,45,46,47,48,49,50] (fun p:Nat×List Int=>[(3,.sl 5 (p.2.reverse.map enc).length),(4,.d (.int .i64 p.1)),(5,.dead)]) (fun p:Nat×List Int=>[(5,.row 1 (p.2.reverse.map enc) 0)]) (fun p:Nat×List Int=>p.1≤t.length∧p.2.length≤101∧(∀ x∈p.2,1≤x∧x≤60)∧Zcq (t.drop p.1) p.2=nQ t) (fun p:Nat×List Int=>t.length-p.1) (0,[]) ?_ ?_ ?_
 ·exact ⟨Nat.zero_le _,by simp,by simp,rfl⟩
 ·exact Qt
 rintro ⟨k,rs⟩ ⟨h1,h2,h3,h4⟩;simp only at h1 h2 h3 h4;rcases Zn k t.length with ⟨Zv,Qk⟩|⟨Zv,Qk⟩
 ·have Ja6:=(hm (t.getD k e0) (by simp [Zv])).2.2
  have Qis:0≤Vr (t.getD k e0)∧Vr (t.getD k e0)≤60:=⟨(hm (t.getD k e0) (by simp [Zv])).1,(hm (t.getD k e0) (by simp [Zv])).2.1⟩
  have e1:Zcq (t.drop k) rs=if 100≤rs.length then false else Zcq (t.drop (k+1)) (dF (Vr (t.getD k e0)) rs):=by
   rw [List.drop_eq_getElem_cons Zv,Zcq];simp [Zv]
  have Qo:=Zp (e0:Part) Zv;have Z6:=@List.length_reverse.{0};have Z7:=@Z5;have Qq:=@Qa;have Qj:=@Qb;have Qx:=@Qe;have Qm:=@U0;have Kq:KcP:=⟨⟩;exact Ae
 ·have Z6:=@Z5;have Z7:=@Qa;have Qq:=@Qb;have Qj:=@Qe;have Qx:=@U0;have Kq:KcU:=⟨⟩;exact Ae):p:=h
theorem good_shallow5:Qc Tryz.prog (151,Dq):=by
 obtain ⟨Kx,Kt,Kc,Kd,Kb,Ku,Kw,K,X4,_⟩:=J7 Zx Zo [39] false (Q1 good_Many5 Tg.eq_def J5);have Ko:=Dq.eq_def;refine J9 K Tryz.func151 [.tmp 2] rfl 51 rfl (fun c hc Ji Zh=>?_);unfold Dq at Zh;obtain ⟨⟨t⟩,rfl,⟨ht,hm⟩⟩:=Q8 Zh;simp only at ht hm;cases hc;refine W5 3 ?_;have Z6:=@Z5;have Z7:=@Qa;have Qq:=@Qb;have Qj:=@Qe;have Qx:=@U0;have Kq:KcO:=⟨⟩;exact Ae
def Xb (t:List Part) (l:List Int) (k:Nat):Part:=t.getD (l.getD k 0).toNat e0
def Qhk (t:List Part) (l:List Int) (x:Part) (k:Nat):Bool:=(List.range k).any fun j=>!(x.label==[])&&((Xb t l j).label==x.label)
def Ql3 (p x:Part) (br:Bool):Bool:=((x.kind==8)==br)&&!((br&&!Mm x.label)||(((p.kind==10)&&!Wr x.label)||((!br&&!(p.kind==10))&&!(x.label==[]))))
def lI (t:List Part) (p:Part) (l:List Int) (k:Nat):Bool:=Ql3 p (Xb t l k) ((p.kind==7)&&Wd 0 k)&&!Qhk t l (Xb t l k) k
def Zkk (t:List Part) (i:Nat):Bool:=(((Cb t i).length:Int)==Vr (t.getD i e0))&&(List.range (Cb t i).length).all fun k=>lI t (t.getD i e0) (Cb t i) k
theorem oZ (t:List Part):∀ (m q:Nat),∀ x∈Wb t m q,(q:Int)≤x∧x<t.length
 | 0,q,x,hx=>by simp [Wb] at hx
 | m+1,q,x,hx=>by
  unfold Wb at hx;split at hx
  ·rcases Zs.1 hx with rfl|hx
   ·omega
   ·have:=oZ t m _ x hx;omega
  ·cases hx
theorem Qg1 {t:List Part} {i:Nat}:∀ x∈Cb t i,(i:Int)<x∧x<t.length:=by
 intro x hx;unfold Cb at hx;split at hx
 ·cases hx
 ·have:=oZ t _ _ x hx;omega
theorem kQ (t:List Part):∀ (m q:Nat),(Wb t m q).length≤m
 | 0,q=>by simp [Wb]
 | m+1,q=>by
  unfold Wb;split
  ·simp only [Zi];have:=kQ t m (q+dH (t.drop q) 1);omega
  ·simp
def Qsm (t:List Part):Prop:=∀ n∈t,n.label.length≤9223372036854775807
theorem Eo {p:Nat→Bool} {l:List Nat} (h:∀ m∈l,p m=false):l.any p=false:=by
 rw [List.any_eq_false];intro x hx;rw [h x hx];simp
def To:Con:=Jy (fun (t:Sl Part) (i:Int)=>uW t.l∧Qsm t.l∧0≤i∧i<t.l.length) (fun t i=>Zkk t.l i.toNat)
class KcW:Prop
theorem KcW.k (_:KcW) (h:p:=by
 first|assumption|trivial|rfl|(exfalso;clear hE Jl Qn Zq fN hT hN Qo Qp Qv K Qb6 Zh5;simp_all;done)|(exfalso;clear Jl Qn Zq fN hT hN Qo Qp Qv K Qb6 Zh5;simp_all;done)|skip):p:=h
class KcY:Prop
theorem KcY.k (_:KcY) (h:p:=by
 first|exact ⟨j+1,by exact Qt,by omega,by omega⟩|skip):p:=h
class KcZ:Prop
theorem KcZ.k (_:KcZ) (h:p:=by
 first|exact ⟨k+1,by exact Qt,by omega,Eq.mpr hQ hs,by omega⟩|skip):p:=h
class KcX:Prop
theorem KcX.k (_:KcX) (h:p:=by
 first|assumption|skip
 refine Zm [4,85,86,87,88,89,90,91,92,93,94,95,96,97,98,99,100,101,102,103,104,105] (fun j:Nat=>[(10,.d (.int .i64 j))]) (fun j:Nat=>[]) (fun j:Nat=>j≤k∧∀ m,m<j→(!true&&((Xb t l m).label==x.label))=false) (fun j:Nat=>k-j) 0 ?_ ?_ ?_
 ·simp
 ·exact Qt
 rintro j ⟨hj,Ze5⟩;rcases Zn j k with ⟨C6,Qj⟩|⟨C6,Qj⟩
 ·have Za9:(!true&&((Xb t l j).label==x.label))=false→∀ m,m<j+1→(!true&&((Xb t l m).label==x.label))=false:=fun h=>Vd Ze5 h;have dD:(!true&&((Xb t l j).label==x.label))=true→R=false:=fun h=>Qs (by rw [List.any_eq_true];exact ⟨j,List.mem_range.2 C6,h⟩)
  have Ka:j<l.length:=by omega
  have Ha:=fN (l.getD j 0) (by simp [Ka])
  have Cp:(l.getD j 0).toNat<t.length:=by omega
  have Qx:=Zp (0:Int) Ka;have Qm:=Zp e0 Cp
  change el _ _=enc (Xb t l j) at Qm
  obtain ⟨u,hu⟩:=exq (l.getD j 0);rw [hu] at Qx Qm Ha Cp;obtain ⟨u,rfl⟩:∃ n:Nat,u=n:=⟨u.toNat,by omega⟩
  rw [Zl] at Qm Cp;obtain ⟨y,hy⟩:=exq (Xb t l j);rw [hy] at Qm Za9 dD;obtain ⟨ee,Qg⟩:=exq ((y.label==x.label));rw [Qg] at Za9 dD;have Qr:=@Z5;have Qw:=@Qa;have Q4:=@Qb;have Jf:=@Qe;have Jk:=@U0;have Kq:KcY:=⟨⟩;exact Xv
 ·have hs:=Vx (Eo fun m hm=>Ze5 m (by have:=List.mem_range.1 hm;omega))
  have Qr:=@Z5;have Qw:=@Qa;have Q4:=@Qb;have Jf:=@Qe;have Jk:=@U0;have Kq:KcZ:=⟨⟩;exact Xv):p:=h
class Kdb:Prop
theorem Kdb.k (_:Kdb) (h:p:=by
 first|exact ⟨j+1,by exact Qt,by omega,fun m hm=>by simpa using h2 m hm,by omega⟩|skip):p:=h
class Kdc:Prop
theorem Kdc.k (_:Kdc) (h:p:=by
 first|exact ⟨k+1,by exact Qt,by omega,Eq.mpr hQ hs,by omega⟩|skip):p:=h
class Kda:Prop
theorem Kda.k (_:Kda) (h:p:=by
 first|assumption|skip
 refine Zm [4,85,86,87,88,89,90,91,92,93,94,95,96,97,98,99,100,101,102,103,104,105] (fun j:Nat=>[(10,.d (.int .i64 j))]) (fun j:Nat=>[]) (fun j:Nat=>j≤k∧∀ m,m<j→(!false&&((Xb t l m).label==x.label))=false) (fun j:Nat=>k-j) 0 ?_ ?_ ?_
 ·simp
 ·exact Qt
 rintro j ⟨hj,Ze5⟩;rcases Zn j k with ⟨C6,Qj⟩|⟨C6,Qj⟩
 ·have Za9:(!false&&((Xb t l j).label==x.label))=false→∀ m,m<j+1→(!false&&((Xb t l m).label==x.label))=false:=fun h=>Vd Ze5 h;have dD:(!false&&((Xb t l j).label==x.label))=true→R=false:=fun h=>Qs (by rw [List.any_eq_true];exact ⟨j,List.mem_range.2 C6,h⟩)
  have Ka:j<l.length:=by omega
  have Ha:=fN (l.getD j 0) (by simp [Ka])
  have Cp:(l.getD j 0).toNat<t.length:=by omega
  have Qx:=Zp (0:Int) Ka;have Qm:=Zp e0 Cp
  change el _ _=enc (Xb t l j) at Qm
  obtain ⟨u,hu⟩:=exq (l.getD j 0);rw [hu] at Qx Qm Ha Cp;obtain ⟨u,rfl⟩:∃ n:Nat,u=n:=⟨u.toNat,by omega⟩
  rw [Zl] at Qm Cp;obtain ⟨y,hy⟩:=exq (Xb t l j);rw [hy] at Qm Za9 dD;obtain ⟨ee,Qg⟩:=exq ((y.label==x.label));rw [Qg] at Za9 dD;cases ee with
  | true =>
   have hr:=dD rfl;subst hr;have Qr:=@Z5;have Qw:=@Qa;have Q4:=@Qb;have Jf:=@Qe;have Jk:=@U0;exact U3
  | false =>
   have h2:=Za9 rfl;have Qr:=@Z5;have Qw:=@Qa;have Q4:=@Qb;have Jf:=@Qe;have Jk:=@U0;have Kq:Kdb:=⟨⟩;exact Xv
 ·have hs:=Vx (Eo fun m hm=>Ze5 m (by have:=List.mem_range.1 hm;omega))
  have Qr:=@Z5;have Qw:=@Qa;have Q4:=@Qb;have Jf:=@Qe;have Jk:=@U0;have Kq:Kdc:=⟨⟩;exact Xv):p:=h
class Kde:Prop
theorem Kde.k (_:Kde) (h:p:=by
 first|exact ⟨j+1,by exact Qt,by omega,by omega⟩|skip):p:=h
class Kdf:Prop
theorem Kdf.k (_:Kdf) (h:p:=by
 first|exact ⟨k+1,by exact Qt,by omega,Eq.mpr hQ hs,by omega⟩|skip):p:=h
class Kdd:Prop
theorem Kdd.k (_:Kdd) (h:p:=by
 first|assumption|skip
 refine Zm [4,85,86,87,88,89,90,91,92,93,94,95,96,97,98,99,100,101,102,103,104,105] (fun j:Nat=>[(10,.d (.int .i64 j))]) (fun j:Nat=>[]) (fun j:Nat=>j≤k∧∀ m,m<j→(!true&&((Xb t l m).label==x.label))=false) (fun j:Nat=>k-j) 0 ?_ ?_ ?_
 ·simp
 ·exact Qt
 rintro j ⟨hj,Ze5⟩;rcases Zn j k with ⟨C6,Qj⟩|⟨C6,Qj⟩
 ·have Za9:(!true&&((Xb t l j).label==x.label))=false→∀ m,m<j+1→(!true&&((Xb t l m).label==x.label))=false:=fun h=>Vd Ze5 h;have dD:(!true&&((Xb t l j).label==x.label))=true→R=false:=fun h=>Qs (by rw [List.any_eq_true];exact ⟨j,List.mem_range.2 C6,h⟩)
  have Ka:j<l.length:=by omega
  have Ha:=fN (l.getD j 0) (by simp [Ka])
  have Cp:(l.getD j 0).toNat<t.length:=by omega
  have Qx:=Zp (0:Int) Ka;have Qm:=Zp e0 Cp
  change el _ _=enc (Xb t l j) at Qm
  obtain ⟨u,hu⟩:=exq (l.getD j 0);rw [hu] at Qx Qm Ha Cp;obtain ⟨u,rfl⟩:∃ n:Nat,u=n:=⟨u.toNat,by omega⟩
  rw [Zl] at Qm Cp;obtain ⟨y,hy⟩:=exq (Xb t l j);rw [hy] at Qm Za9 dD;obtain ⟨ee,Qg⟩:=exq ((y.label==x.label));rw [Qg] at Za9 dD;have Qr:=@Z5;have Qw:=@Qa;have Q4:=@Qb;have Jf:=@Qe;have Jk:=@U0;have Kq:Kde:=⟨⟩;exact Xv
 ·have hs:=Vx (Eo fun m hm=>Ze5 m (by have:=List.mem_range.1 hm;omega))
  have Qr:=@Z5;have Qw:=@Qa;have Q4:=@Qb;have Jf:=@Qe;have Jk:=@U0;have Kq:Kdf:=⟨⟩;exact Xv):p:=h
class Kdh:Prop
theorem Kdh.k (_:Kdh) (h:p:=by
 first|exact ⟨j+1,by exact Qt,by omega,fun m hm=>by simpa using h2 m hm,by omega⟩|skip):p:=h
class Kdi:Prop
theorem Kdi.k (_:Kdi) (h:p:=by
 first|exact ⟨k+1,by exact Qt,by omega,Eq.mpr hQ hs,by omega⟩|skip):p:=h
class Kdg:Prop
theorem Kdg.k (_:Kdg) (h:p:=by
 first|assumption|skip
 refine Zm [4,85,86,87,88,89,90,91,92,93,94,95,96,97,98,99,100,101,102,103,104,105] (fun j:Nat=>[(10,.d (.int .i64 j))]) (fun j:Nat=>[]) (fun j:Nat=>j≤k∧∀ m,m<j→(!false&&((Xb t l m).label==x.label))=false) (fun j:Nat=>k-j) 0 ?_ ?_ ?_
 ·simp
 ·exact Qt
 rintro j ⟨hj,Ze5⟩;rcases Zn j k with ⟨C6,Qj⟩|⟨C6,Qj⟩
 ·have Za9:(!false&&((Xb t l j).label==x.label))=false→∀ m,m<j+1→(!false&&((Xb t l m).label==x.label))=false:=fun h=>Vd Ze5 h;have dD:(!false&&((Xb t l j).label==x.label))=true→R=false:=fun h=>Qs (by rw [List.any_eq_true];exact ⟨j,List.mem_range.2 C6,h⟩)
  have Ka:j<l.length:=by omega
  have Ha:=fN (l.getD j 0) (by simp [Ka])
  have Cp:(l.getD j 0).toNat<t.length:=by omega
  have Qx:=Zp (0:Int) Ka;have Qm:=Zp e0 Cp
  change el _ _=enc (Xb t l j) at Qm
  obtain ⟨u,hu⟩:=exq (l.getD j 0);rw [hu] at Qx Qm Ha Cp;obtain ⟨u,rfl⟩:∃ n:Nat,u=n:=⟨u.toNat,by omega⟩
  rw [Zl] at Qm Cp;obtain ⟨y,hy⟩:=exq (Xb t l j);rw [hy] at Qm Za9 dD;obtain ⟨ee,Qg⟩:=exq ((y.label==x.label));rw [Qg] at Za9 dD;cases ee with
  | true =>
   have hr:=dD rfl;subst hr;have Qr:=@Z5;have Qw:=@Qa;have Q4:=@Qb;have Jf:=@Qe;have Jk:=@U0;exact U3
  | false =>
   have h2:=Za9 rfl;have Qr:=@Z5;have Qw:=@Qa;have Q4:=@Qb;have Jf:=@Qe;have Jk:=@U0;have Kq:Kdh:=⟨⟩;exact Xv
 ·have hs:=Vx (Eo fun m hm=>Ze5 m (by have:=List.mem_range.1 hm;omega))
  have Qr:=@Z5;have Qw:=@Qa;have Q4:=@Qb;have Jf:=@Qe;have Jk:=@U0;have Kq:Kdi:=⟨⟩;exact Xv):p:=h
class Kdk:Prop
theorem Kdk.k (_:Kdk) (h:p:=by
 first|exact ⟨j+1,by exact Qt,by omega,by omega⟩|skip):p:=h
class Kdl:Prop
theorem Kdl.k (_:Kdl) (h:p:=by
 first|exact ⟨k+1,by exact Qt,by omega,Eq.mpr hQ hs,by omega⟩|skip):p:=h
class Kdj:Prop
theorem Kdj.k (_:Kdj) (h:p:=by
 first|assumption|skip
 refine Zm [4,85,86,87,88,89,90,91,92,93,94,95,96,97,98,99,100,101,102,103,104,105] (fun j:Nat=>[(10,.d (.int .i64 j))]) (fun j:Nat=>[]) (fun j:Nat=>j≤k∧∀ m,m<j→(!true&&((Xb t l m).label==x.label))=false) (fun j:Nat=>k-j) 0 ?_ ?_ ?_
 ·simp
 ·exact Qt
 rintro j ⟨hj,Ze5⟩;rcases Zn j k with ⟨C6,Qj⟩|⟨C6,Qj⟩
 ·have Za9:(!true&&((Xb t l j).label==x.label))=false→∀ m,m<j+1→(!true&&((Xb t l m).label==x.label))=false:=fun h=>Vd Ze5 h;have dD:(!true&&((Xb t l j).label==x.label))=true→R=false:=fun h=>Qs (by rw [List.any_eq_true];exact ⟨j,List.mem_range.2 C6,h⟩)
  have Ka:j<l.length:=by omega
  have Ha:=fN (l.getD j 0) (by simp [Ka])
  have Cp:(l.getD j 0).toNat<t.length:=by omega
  have Qx:=Zp (0:Int) Ka;have Qm:=Zp e0 Cp
  change el _ _=enc (Xb t l j) at Qm
  obtain ⟨u,hu⟩:=exq (l.getD j 0);rw [hu] at Qx Qm Ha Cp;obtain ⟨u,rfl⟩:∃ n:Nat,u=n:=⟨u.toNat,by omega⟩
  rw [Zl] at Qm Cp;obtain ⟨y,hy⟩:=exq (Xb t l j);rw [hy] at Qm Za9 dD;obtain ⟨ee,Qg⟩:=exq ((y.label==x.label));rw [Qg] at Za9 dD;have Qr:=@Z5;have Qw:=@Qa;have Q4:=@Qb;have Jf:=@Qe;have Jk:=@U0;have Kq:Kdk:=⟨⟩;exact Xv
 ·have hs:=Vx (Eo fun m hm=>Ze5 m (by have:=List.mem_range.1 hm;omega))
  have Qr:=@Z5;have Qw:=@Qa;have Q4:=@Qb;have Jf:=@Qe;have Jk:=@U0;have Kq:Kdl:=⟨⟩;exact Xv):p:=h
class Kdn:Prop
theorem Kdn.k (_:Kdn) (h:p:=by
 first|exact ⟨j+1,by exact Qt,by omega,by omega⟩|skip):p:=h
class Kdo:Prop
theorem Kdo.k (_:Kdo) (h:p:=by
 first|exact ⟨k+1,by exact Qt,by omega,Eq.mpr hQ hs,by omega⟩|skip):p:=h
class Kdm:Prop
theorem Kdm.k (_:Kdm) (h:p:=by
 first|assumption|skip
 refine Zm [4,85,86,87,88,89,90,91,92,93,94,95,96,97,98,99,100,101,102,103,104,105] (fun j:Nat=>[(10,.d (.int .i64 j))]) (fun j:Nat=>[]) (fun j:Nat=>j≤k∧∀ m,m<j→(!true&&((Xb t l m).label==x.label))=false) (fun j:Nat=>k-j) 0 ?_ ?_ ?_
 ·simp
 ·exact Qt
 rintro j ⟨hj,Ze5⟩;rcases Zn j k with ⟨C6,Qj⟩|⟨C6,Qj⟩
 ·have Za9:(!true&&((Xb t l j).label==x.label))=false→∀ m,m<j+1→(!true&&((Xb t l m).label==x.label))=false:=fun h=>Vd Ze5 h;have dD:(!true&&((Xb t l j).label==x.label))=true→R=false:=fun h=>Qs (by rw [List.any_eq_true];exact ⟨j,List.mem_range.2 C6,h⟩)
  have Ka:j<l.length:=by omega
  have Ha:=fN (l.getD j 0) (by simp [Ka])
  have Cp:(l.getD j 0).toNat<t.length:=by omega
  have Qx:=Zp (0:Int) Ka;have Qm:=Zp e0 Cp
  change el _ _=enc (Xb t l j) at Qm
  obtain ⟨u,hu⟩:=exq (l.getD j 0);rw [hu] at Qx Qm Ha Cp;obtain ⟨u,rfl⟩:∃ n:Nat,u=n:=⟨u.toNat,by omega⟩
  rw [Zl] at Qm Cp;obtain ⟨y,hy⟩:=exq (Xb t l j);rw [hy] at Qm Za9 dD;obtain ⟨ee,Qg⟩:=exq ((y.label==x.label));rw [Qg] at Za9 dD;have Qr:=@Z5;have Qw:=@Qa;have Q4:=@Qb;have Jf:=@Qe;have Jk:=@U0;have Kq:Kdn:=⟨⟩;exact Xv
 ·have hs:=Vx (Eo fun m hm=>Ze5 m (by have:=List.mem_range.1 hm;omega))
  have Qr:=@Z5;have Qw:=@Qa;have Q4:=@Qb;have Jf:=@Qe;have Jk:=@U0;have Kq:Kdo:=⟨⟩;exact Xv):p:=h
class KcV:Prop
theorem KcV.k (_:KcV) (h:p:=by
 repeat' first|exact M7|with_reducible apply Zw|intro _
 all_goals try assumption
 refine Zm [4,7,8,9,10,22,23,24,25,26,27,28,29,30,31,32,33,34,35,36,37,38,39,40,41,42,43,44,45,46,47,48,49,50,51,52,53,54,55,56,57,58,59,60,61,62,63,64,65,66,67,68,69,70,71,72,73,74,75,76,77,78,79,80,81,82,83,84,85,86,87,88,89,90,91,92,93,94,95,96,97,98,99,100,101,102,103,104,105] (fun k:Nat=>[(6,.d (.int .i64 k))]) (fun k:Nat=>[]) (fun k:Nat=>k≤l.length∧∀ j,j<k→lI t p l j=true) (fun k:Nat=>l.length-k) 0 ?_ ?_ ?_
 ·simp
 ·exact Qt
 rintro k ⟨hk,Jl⟩;rcases Zn k l.length with ⟨Zv,Ql⟩|⟨Zv,Ql⟩
 ·have Qb6:=fN (l.getD k 0) (by simp [Zv])
  have Zh5:(l.getD k 0).toNat<t.length:=by omega
  have Qfl:(Xb t l k).label.length≤9223372036854775807:=hN (Xb t l k) (by
   show t.getD _ e0∈t;rw [Zd,Zk Zh5];exact List.getElem_mem Zh5)
  have Vx:lI t p l k=true→∀ j,j<k+1→lI t p l j=true:=fun h=>Vd Jl h;have Qs:lI t p l k=false→R=false:=by
   intro h;rw [←Zq,Bool.eq_false_iff];intro hc;rw [List.all_eq_true] at hc;have:=hc k (List.mem_range.2 Zv);rw [h] at this;cases this
  obtain ⟨Q,hQ⟩:=exq ((∀ j,j<k+1→lI t p l j=true));rw [hQ] at Vx;unfold lI at Vx Qs;have Qp:=Zp (0:Int) Zv;have Qv:=Zp e0 Zh5
  change el _ _=enc (Xb t l k) at Qv
  obtain ⟨v,hv⟩:=exq (l.getD k 0);rw [hv] at Qp Qv Qb6 Zh5;obtain ⟨v,rfl⟩:∃ n:Nat,v=n:=⟨v.toNat,by omega⟩
  rw [Zl] at Qv Zh5;obtain ⟨x,hx⟩:=exq (Xb t l k);rw [hx] at Qfl Vx Qs Qv;unfold Ql3 at Vx Qs;obtain ⟨kb,Q3⟩:=exq (Wd 0 (k:Int));rw [Q3] at Vx Qs;obtain ⟨a7,Jh⟩:=exq ((p.kind==7));obtain ⟨a10,Jb⟩:=exq ((p.kind==10));obtain ⟨a8,Z3⟩:=exq ((x.kind==8));obtain ⟨tg,Z6⟩:=exq (Mm x.label);obtain ⟨w,Z7⟩:=exq (Wr x.label);obtain ⟨le,Qq⟩:=exq ((x.label==[]));rw [Jh,Jb,Z3,Z6,Z7,Qq] at Vx Qs;have hE:a7=true→a10=false:=fun e=>by rw [←Jh,Zj] at e;rw [←Jb,e];rfl
  cases hA:((a8==(a7&&kb))&&!(((a7&&kb)&&!tg)||((a10&&!w)||((!(a7&&kb)&&!a10)&&!le)))) with
  | false =>
   have hr:=Qs (by rw [hA,Bool.false_and])
   subst hr;clear Qs Vx;have Qr:=@Z5;have Qw:=@Qa;have Q4:=@Qb;have Jf:=@Qe;have Jk:=@U0;have Kq:KcW:=⟨⟩;exact Xv
  | true =>
   rw [hA,Bool.true_and,Bool.not_eq_true'] at Vx;rw [hA,Bool.true_and,Bool.not_eq_false'] at Qs;unfold Qhk at Vx Qs;rw [Qq] at Vx Qs;have Qs1:(a7=true∧kb=true∧a10=false∧a8=true∧tg=true)∨(a7=false∧a10=true∧a8=false∧w=true)∨(a7=false∧a10=false∧a8=false∧le=true)∨(a7=true∧kb=false∧a10=false∧a8=false∧le=true):=by
    clear Qs Vx Jl Qn Zq fN hT hN Qo Qp Qv Jh Jb Z3 Z6 Z7 Qq Q3;revert hA hE;cases a7<;>cases kb<;>cases a10<;>cases a8<;>cases tg<;>cases w<;>cases le<;>simp
   clear hA hE;rcases Qs1 with ⟨rfl,rfl,rfl,rfl,rfl⟩|⟨rfl,rfl,rfl,rfl⟩|⟨rfl,rfl,rfl,rfl⟩|⟨rfl,rfl,rfl,rfl,rfl⟩
   ·cases le with
    | true =>
     have Qr:=@Z5;have Qw:=@Qa;have Q4:=@Qb;have Jf:=@Qe;have Jk:=@U0;have Kq:KcX:=⟨⟩;exact Xv
    | false =>
     have Qr:=@Z5;have Qw:=@Qa;have Q4:=@Qb;have Jf:=@Qe;have Jk:=@U0;have Kq:Kda:=⟨⟩;exact Xv
   ·cases le with
    | true =>
     have Qr:=@Z5;have Qw:=@Qa;have Q4:=@Qb;have Jf:=@Qe;have Jk:=@U0;have Kq:Kdd:=⟨⟩;exact Xv
    | false =>
     have Qr:=@Z5;have Qw:=@Qa;have Q4:=@Qb;have Jf:=@Qe;have Jk:=@U0;have Kq:Kdg:=⟨⟩;exact Xv
   ·have Qr:=@Z5;have Qw:=@Qa;have Q4:=@Qb;have Jf:=@Qe;have Jk:=@U0;have Kq:Kdj:=⟨⟩;exact Xv
   ·have Qr:=@Z5;have Qw:=@Qa;have Q4:=@Qb;have Jf:=@Qe;have Jk:=@U0;have Kq:Kdm:=⟨⟩;exact Xv
 ·have hr:R=true:=by
   rw [←Zq,List.all_eq_true];intro j hj;exact Jl j (by have:=List.mem_range.1 hj;omega)
  subst hr;exact qB):p:=h
theorem good_labelled5:Qc Tryz.prog (152,To):=by
 obtain ⟨Kx,Kt,Kc,Kd,Kb,Ku,Kw,K,X4,V2,Mo,Tx,_⟩:=J7 Zx Zo [] false (Q1 good_Kids5 O5.eq_def (Q1 good_Many5 Tg.eq_def (Q1 good_IsTag1 wY (Q1 good_IsWord1 Aj J5))));have Ko:=To.eq_def;refine J9 K Tryz.func152 [.tmp 4] rfl 106 rfl (fun c hc Ji Zh=>?_);unfold To at Zh;obtain ⟨⟨t⟩,i,rfl,hT,hN,Znb,Zbb⟩:=Qf Zh;simp only at hT hN Znb Zbb;clear Zh;obtain ⟨i,rfl⟩:∃ n:Nat,i=n:=⟨i.toNat,by omega⟩
 have Ai:i<t.length:=by omega
 have Q5:=hT.1;obtain ⟨R,Qn⟩:=exq (Zkk t i);have Zq:=Qn;unfold Zkk at Zq;obtain ⟨l,Qk⟩:=exq (Cb t i);have fN:∀ x∈l,(i:Int)<x∧x<t.length:=by rw [←Qk];exact Qg1
 have Qo:=Zp e0 Ai;have Qus:=hT.2 (t.getD i e0) (by simp [Ai])
 have Is:l.length≤100000:=by
  rw [←Qk];unfold Cb;split
  ·simp
  ·have h1:=kQ t (Vr (t.getD (Int.toNat i) e0)).toNat ((Int.toNat i)+1);have h2:=Qus.2.1;simp only [Zl] at h1 ⊢;omega
 rw [Qk] at Zq;obtain ⟨p,hp⟩:=exq (t.getD i e0);rw [hp] at Zq Qo Qus;have Jck:=Qus.2.2;cases Zb8:((l.length:Int)==Vr p) with
 | false =>
  rw [Zb8,Bool.false_and] at Zq;subst Zq;have Qi:((l.length:Int) != Vr p)=true:=by rw [bne,Zb8];rfl
  cases hc;refine W5 6 ?_;have Qr:=@Z5;have Qw:=@Qa;have Q4:=@Qb;have Jf:=@Qe;have Jk:=@U0;exact U3
 | true =>
 rw [Zb8,Bool.true_and] at Zq;have Qi:((l.length:Int) != Vr p)=false:=by rw [bne,Zb8];rfl
 cases hc;refine W5 6 ?_;have Qr:=@Z5;have Qw:=@Qa;have Q4:=@Qb;have Jf:=@Qe;have Jk:=@U0;have Kq:KcV:=⟨⟩;exact Ae
theorem Zw2 {p:Part} {w tg b t u li na op:Bool} (h:Xq p w tg b t u li na op=true):p.many≤50∧(p.kind=7→1≤p.many)∧(p.kind=10→0≤p.many):=by
 unfold Xq at h;by_cases h0:p.kind≠0∧p.kind≠14∧p.num≠0
 ·rw [if_pos h0] at h;cases h
 rw [if_neg h0] at h;by_cases h1:p.kind=0
 ·rw [if_pos h1] at h;simp only [Zg,Zj] at h;omega
 rw [if_neg h1] at h;by_cases h2:p.kind=1
 ·rw [if_pos h2] at h;simp only [Zg,Zj] at h;omega
 rw [if_neg h2] at h;by_cases h3:p.kind=2∨p.kind=4
 ·rw [if_pos h3] at h;simp only [Zg,Zj] at h;omega
 rw [if_neg h3] at h;by_cases h4:p.kind=3∨p.kind=6
 ·rw [if_pos h4] at h;simp only [Zg,Zj] at h;omega
 rw [if_neg h4] at h;by_cases h5:p.kind=5
 ·rw [if_pos h5] at h;simp only [Zg,Zj] at h;omega
 rw [if_neg h5] at h;by_cases h6:p.kind=7
 ·rw [if_pos h6] at h;simp only [Zg,Zj,Q9] at h;omega
 rw [if_neg h6] at h;by_cases h7:p.kind=8
 ·rw [if_pos h7] at h;simp only [Zg,Zj] at h;omega
 rw [if_neg h7] at h;by_cases h8:p.kind=9
 ·rw [if_pos h8] at h;simp only [Zg,Zj] at h;omega
 rw [if_neg h8] at h;by_cases h9:p.kind=10
 ·rw [if_pos h9] at h;simp only [Zg,Zj,Q9] at h;omega
 rw [if_neg h9] at h;by_cases ha:p.kind=11
 ·rw [if_pos ha] at h;simp only [Zg,Zj] at h;omega
 rw [if_neg ha] at h;by_cases hb:p.kind=12
 ·rw [if_pos hb] at h;simp only [Zg,Zj] at h;omega
 rw [if_neg hb] at h;by_cases hc:p.kind=13
 ·rw [if_pos hc] at h;simp only [Zg,Zj] at h;omega
 rw [if_neg hc] at h;by_cases hd:p.kind=14
 ·rw [if_pos hd] at h;simp only [Zg,Zj] at h;omega
 rw [if_neg hd] at h;cases h
theorem Qcf {n:Part} (h:Ak n=true):n.many≤50∧(n.kind=7→1≤n.many)∧(n.kind=10→0≤n.many):=by
 unfold Ak at h;exact Zw2 h
theorem Zcl {n:Part} (h:Ak n=true):0≤Vr n∧Vr n≤60∧n.many≤1000000:=by
 obtain ⟨h1,h2,h3⟩:=Qcf h;have hm:Zj9 n.many 0=if n.many<0 then 0 else n.many:=rfl
 unfold Vr;rw [hm];refine ⟨?_,?_,by omega⟩
 ·repeat' (split;first|omega|skip)
  all_goals omega
 ·repeat' (split;first|omega|skip)
  all_goals omega
def M3 (t:List Part):Bool:=t.length==0||Wd 10000 t.length||!((t.getD 0 e0).label==[])||(t.getD 0 e0).kind==8
def Ke (t:List Part):Bool:=!M3 t&&(t.all Ak&&((pX t 0==(t.length:Int)&&nQ t)&&(List.range t.length).all fun i=>Zkk t i))
def Qnw (p:Part):Prop:=Qnx p∧p.name.length≤9223372036854775806
def cV:Con:=Xj (fun (t:Sl Part)=>t.l.length≤9223372036854775807∧∀ p∈t.l,Qnw p) (fun t=>Ke t.l)
class Kdp:Prop
theorem Kdp.k (_:Kdp) (h:p:=by
 unfold Ke M3;simp [h0]):p:=h
class Kdr:Prop
theorem Kdr.k (_:Kdr) (h:p:=by
 repeat' first|exact M7|with_reducible apply Zw|intro _
 ·rename_i hb;rw [hr,Ec (p:=Ak) e0 k Zv hb];rfl
 ·rename_i hb;refine ⟨k+1,by exact Qt,by omega,fun j hj=>?_,by omega⟩
  by_cases Oe:j=k
  ·subst Oe;exact hb
  ·exact Jl j (by omega)):p:=h
class Kdt:Prop
theorem Kdt.k (_:Kdt) (h:p:=by
 repeat' first|exact M7|with_reducible apply Zw|intro _
 ·rename_i hb;rw [jJ,Hc k Mx hb]
 ·rename_i hb;refine ⟨k+1,by exact Qt,by omega,fun j hj=>?_,by omega⟩
  by_cases Oe:j=k
  ·subst Oe;exact hb
  ·exact Zzs j (by omega)):p:=h
class Kdu:Prop
theorem Kdu.k (_:Kdu) (h:p:=by
 rw [jJ,U4 fun j hj=>Zzs j (by omega)]):p:=h
class Kds:Prop
theorem Kds.k (_:Kds) (h:p:=by
 repeat' first|exact M7|with_reducible apply Zw|intro _
 ·rename_i he hs;rw [hr,hs];simp
 ·rename_i he hs;have jJ:Ke t=(List.range t.length).all fun i=>Zkk t i:=by
   rw [hr,hs,show (pX t 0==(t.length:Int))=true by simpa using he]
   rfl
  refine Zm [2,49,50,51,52,53,54,55,56,57,58] (fun k:Nat=>[(4,.d (.int .i64 k))]) (fun k:Nat=>[]) (fun k:Nat=>k≤t.length∧∀ j,j<k→Zkk t j=true) (fun k:Nat=>t.length-k) 0 ?_ ?_ ?_
  ·simp
  ·exact Qt
  rintro k ⟨Qol,Zzs⟩;rcases Zn k t.length with ⟨Mx,Ql⟩|⟨Mx,Ql⟩
  ·have Qp:=@Z5;have Qv:=@Qa;have Q3:=@Qb;have Jh:=@Qe;have Jb:=@U0;have Kq:Kdt:=⟨⟩;exact Ae
  ·have Qp:=@Z5;have Qv:=@Qa;have Q3:=@Qb;have Jh:=@Qe;have Jb:=@U0;have Kq:Kdu:=⟨⟩;exact Ae
 ·rename_i he;rw [hr,show (pX t 0==(t.length:Int))=false by simpa using he]
  rfl):p:=h
class Kdq:Prop
theorem Kdq.k (_:Kdq) (h:p:=by
 repeat' first|exact M7|with_reducible apply Zw|intro _
 ·rename_i h1 h2 h9;exact Qos (by unfold M3;rw [show ((t.getD 0 e0).kind==8)=true by rw [Zj];exact h9];simp only [Bool.or_true])
 ·rename_i h1 h3 h9;have Er:t.length≤10000:=by omega
  have uB:M3 t=false:=by
   unfold M3;simp only [Bool.or_eq_false_iff,Q7,Za];refine ⟨⟨⟨by omega,by omega⟩,?_⟩,h9⟩
   simpa using h3
  have hr:Ke t=(t.all Ak&&((pX t 0==(t.length:Int)&&nQ t)&&(List.range t.length).all fun i=>Zkk t i)):=by
   unfold Ke;rw [uB];rfl
  refine Zm [2,27,28,29,30,31,32,33,34,35,36,37,38] (fun k:Nat=>[(3,.d (.int .i64 k))]) (fun k:Nat=>[]) (fun k:Nat=>k≤t.length∧∀ j,j<k→Ak (t.getD j e0)=true) (fun k:Nat=>t.length-k) 0 ?_ ?_ ?_
  ·simp
  ·exact Qt
  rintro k ⟨hk,Jl⟩;rcases Zn k t.length with ⟨Zv,Qi⟩|⟨Zv,Qi⟩
  ·obtain ⟨Zhw,Ze9⟩:=hN (t.getD k e0) (by simp [Zv])
   have Qn:=Zp e0 Zv;have Qp:=@Z5;have Qv:=@Qa;have Q3:=@Qb;have Jh:=@Qe;have Jb:=@U0;have Kq:Kdr:=⟨⟩;exact Ae
  ·have Od:t.all Ak=true:=Mk (p:=Ak) e0 fun j hj=>Jl j (by omega)
   have hT:uW t:=⟨by omega,fun n hn=>Zcl (List.all_eq_true.1 Od n hn)⟩
   have hL:Qsm t:=fun n hn=>(hN n hn).1.2.2.1;rw [Od,Bool.true_and] at hr;have Qp:=@Z5;have Qv:=@Qa;have Q3:=@Qb;have Jh:=@Qe;have Jb:=@U0;have Kq:Kds:=⟨⟩;exact Ae
 ·rename_i h1 h3;exact Qos (by unfold M3;rw [show ((t.getD 0 e0).label==[])=false by rw [Za];exact h3];simp only [Bool.not_false,Bool.or_true,Bool.true_or])
 ·rename_i h1;exact Qos (by unfold M3;rw [show Wd 10000 (t.length:Int)=true by rw [Jj];exact h1];simp only [Bool.or_true,Bool.true_or])):p:=h
theorem good_Right5:Qc Tryz.prog (105,cV):=by
 obtain ⟨Kx,Kt,Kc,Kd,Kb,Ku,Kw,K,X4,V2,Mo,Tx,_⟩:=J7 Zx Zo [] false (Q1 good_End5 fW.eq_def (Q1 good_uses5 gR.eq_def (Q1 good_shallow5 Dq.eq_def (Q1 good_labelled5 To.eq_def J5))));have Ko:=cV.eq_def;refine J9 K Tryz.func105 [.tmp 2] rfl 59 rfl (fun c hc Ji Zh=>?_);unfold cV at Zh;obtain ⟨⟨t⟩,rfl,ht,hN⟩:=Q8 Zh;simp only at ht hN;cases hc;refine W5 3 ?_;by_cases h0:t.length=0
 ·have Qk:((t.length:Int)==0)=true:=by simp [h0]
  have Qp:=@Z5;have Qv:=@Qa;have Q3:=@Qb;have Jh:=@Qe;have Jb:=@U0;have Kq:Kdp:=⟨⟩;exact Ae
 have Qk:((t.length:Int)==0)=false:=by rw [Za];omega
 have Zzu:0<t.length:=by omega
 have Qos:M3 t=true→false=Ke t:=by
  intro h;unfold Ke;rw [h];rfl
 have Qo:=Zp e0 Zzu;have Qp:=@Z5;have Qv:=@Qa;have Q3:=@Qb;have Jh:=@Qe;have Jb:=@U0;have Kq:Kdq:=⟨⟩;exact Ae
def Hn (n:Part):Part:=⟨n.kind,n.label,n.name,n.bind,n.many,n.num,n.t.map Cy,n.u.map Cy⟩
def Qbb (x y:Part):Bool:=(x.kind==y.kind)&&((x.label==y.label)&&((x.name==y.name)&&((x.bind==y.bind)&&((x.many==y.many)&&(x.num==y.num)))))
def Mr (x y:Part):Bool:=Qbb x y&&(Lk x.t y.t&&Lk x.u y.u)
theorem aM {x y:Part}:Mr x y=true↔Hn x=Hn y:=by
 cases x;cases y;unfold Mr Qbb Hn Lk;simp [and_assoc]
def T5 (a b:List Part):Bool:=a.map Hn==b.map Hn
def Qe1 (n:Part):Prop:=n.t.length≤9223372036854775807∧n.u.length≤9223372036854775807
def Zmn (a:List Part):Prop:=a.length≤9223372036854775807∧∀ n∈a,Qe1 n
def Em:Con:=Jy (fun (a b:Sl Part)=>Zmn a.l∧Zmn b.l) (fun a b=>T5 a.l b.l)
class Kdw:Prop
theorem Kdw.k (_:Kdw) (h:p:=by
 first|assumption|(symm;apply Qs;clear Qs Vx Jl Qo Zq hQ Qn Ql K hA hB;simp_all;done)|(refine ⟨k+1,by exact Qt,by omega,Eq.mpr hQ (Vx ?_),by omega⟩;clear Qs Vx Jl Qo Zq hQ Qn Ql K hA hB;simp_all;done)|skip):p:=h
class Kdv:Prop
theorem Kdv.k (_:Kdv) (h:p:=by
 refine Zm [4,6,7,13,14,15,16,17,18,19,20,21,22,23,24,25,26,27,28,29,30,31,32,33,34,35,36,37,38,39,40,41,42,43,44,45,46,47,48,49,50,51,52,53,54,55,56,57,58,59,60,61,62,63,64,65,66,67,68,69,70,71,72,73,74,75,76,77,78,79,80] (fun k:Nat=>[(5,.d (.int .i64 k))]) (fun k:Nat=>[]) (fun k:Nat=>k≤a.length∧∀ j,j<k→Hn (a.getD j e0)=Hn (b.getD j e0)) (fun k:Nat=>a.length-k) 0 ?_ ?_ ?_
 ·simp
 ·exact Qt
 rintro k ⟨hk,Jl⟩;rcases Zn k a.length with ⟨Zv,Qi⟩|⟨Zv,Qi⟩
 ·have Mx:k<b.length:=by omega
  have Qn:=Zp e0 Zv;have Ql:=Zp e0 Mx;obtain ⟨s1,s2⟩:=hA (a.getD k e0) (by simp [Zv])
  obtain ⟨s3,s4⟩:=hB (b.getD k e0) (by simp [Mx])
  have Qs:Mr (a.getD k e0) (b.getD k e0)=false→R=false:=by
   intro h;rw [←Zq,Za];intro e;have h1:(a.map Hn).getD k e0=(b.map Hn).getD k e0:=by rw [e]
   have h2:Hn (a.getD k e0)=Hn (b.getD k e0):=by simpa [Zv,Mx] using h1
   rw [aM.2 h2] at h;cases h
  have Vx:Mr (a.getD k e0) (b.getD k e0)=true→∀ j,j<k+1→Hn (a.getD j e0)=Hn (b.getD j e0):=fun h=>Vd Jl (aM.1 h);obtain ⟨Q,hQ⟩:=exq ((∀ j,j<k+1→Hn (a.getD j e0)=Hn (b.getD j e0)));rw [hQ] at Vx;obtain ⟨x,hx⟩:=exq (a.getD k e0);obtain ⟨y,hy⟩:=exq (b.getD k e0);rw [hx] at Qn s1 s2 Qs Vx;rw [hy] at Ql s3 s4 Qs Vx;unfold Mr Qbb at Qs Vx;obtain ⟨b1,h1⟩:=exq ((x.kind==y.kind));obtain ⟨b5,h5⟩:=exq ((x.many==y.many));obtain ⟨b6,h6⟩:=exq ((x.num==y.num));obtain ⟨b7,Jh⟩:=exq (Lk x.t y.t);obtain ⟨b8,Jb⟩:=exq (Lk x.u y.u);have Qp:(x.kind != y.kind)=!b1:=by rw [bne,h1]
  have Qv:(x.many != y.many)=!b5:=by rw [bne,h5]
  have Q3:(x.num != y.num)=!b6:=by rw [bne,h6]
  rw [h1,h5,h6,Jh,Jb] at Qs Vx;have Z3:=@Z5;have Z6:=@U0;have Kq:Kdw:=⟨⟩;exact Xv
 ·have hr:R=true:=by
   rw [←Zq,Zj];refine List.ext_getElem (by simp [Tz]) fun j h1 h2=>?_
   rw [Zf] at h1 h2;have:=Jl j (by omega)
   simpa [h1,h2] using this
  subst hr;have Z3:=@U0;exact qB):p:=h
theorem good_Same5:Qc Tryz.prog (131,Em):=by
 obtain ⟨Kx,Kt,Kc,Kd,Kb,Ku,Kw,K,X4,_⟩:=J7 Zx Zo [] false (Q1 good_Same3 O4.eq_def J5);have Ko:=Em.eq_def;refine J9 K Tryz.func131 [.tmp 4] rfl 81 rfl (fun c hc Ji Zh=>?_);unfold Em at Zh;obtain ⟨⟨a⟩,⟨b⟩,rfl,Qpd,Qpc⟩:=Qf Zh;obtain ⟨ha,hA⟩:Zmn a:=Qpd;obtain ⟨hb,hB⟩:Zmn b:=Qpc;clear Zh;obtain ⟨R,Qo⟩:=exq (T5 a b);have Zq:=Qo;unfold T5 at Zq;by_cases Tz:a.length=b.length
 case neg =>
  have hr:R=false:=by
   rw [←Zq,Za];intro h;have:=congrArg List.length h;rw [Zf,Zf] at this;exact Tz this
  have Qk:((a.length:Int) != (b.length:Int))=true:=by rw [bne_iff_ne];omega
  subst hr;cases hc;refine W5 5 ?_;have Z3:=@U0;exact qB
 have Qk:((a.length:Int) != (b.length:Int))=false:=by rw [bne_eq_false_iff_eq];omega
 cases hc;refine W5 5 ?_;have Z3:=@U0;have Kq:Kdv:=⟨⟩;exact Xv
theorem Qhr {a b:List Part} (h:(a==b)=true):T5 a b=true:=by
 rw [eq_of_beq h];unfold T5;exact beq_self_eq_true _
theorem Zgg {a:List Part} (h:a.length≤9223372036854775807) (h2:∀ n∈a,Qe1 n):Zmn a:=⟨h,h2⟩
def pI:Con:=Jy (fun (a b:Sl Part)=>Zmn a.l∧Zmn b.l) (fun a b=>a.l==b.l)
class Kdx:Prop
theorem Kdx.k (_:Kdx) (h:p:=by
 first|exact Zgg ha hA|exact Zgg hb hB|skip):p:=h
class Kdz:Prop
theorem Kdz.k (_:Kdz) (h:p:=by
 first|assumption|(symm;apply Qs;clear Qs Vx Jl Qo hQ Qn Ql K hA hB;simp_all;done)|(refine ⟨k+1,by exact Qt,by omega,Eq.mpr hQ (Vx ?_),by omega⟩;clear Qs Vx Jl Qo hQ Qn Ql K hA hB;simp_all;done)|skip):p:=h
class Kdy:Prop
theorem Kdy.k (_:Kdy) (h:p:=by
 repeat' first|exact M7|with_reducible apply Zw|intro _
 all_goals first|exact Zgg ha hA|exact Zgg hb hB|skip
 refine Zm [4,10,11,12,13,14,15,16,17,18,19,20,21,22,23,24,25,26,27,28,29,30,31,32,33,34,35,36,37,38,39,40,41] (fun k:Nat=>[(5,.d (.int .i64 k))]) (fun k:Nat=>[]) (fun k:Nat=>k≤a.length∧∀ j,j<k→a.getD j e0=b.getD j e0) (fun k:Nat=>a.length-k) 0 ?_ ?_ ?_
 ·simp
 ·exact Qt
 rintro k ⟨hk,Jl⟩;rcases Zn k a.length with ⟨Zv,Qi⟩|⟨Zv,Qi⟩
 ·have Mx:k<b.length:=by omega
  have Qn:=Zp e0 Zv;have Ql:=Zp e0 Mx;obtain ⟨s1,s2⟩:=hA (a.getD k e0) (by simp [Zv])
  obtain ⟨s3,s4⟩:=hB (b.getD k e0) (by simp [Mx])
  have Qfk:Hn (a.getD k e0)=Hn (b.getD k e0):=by
   have Qp:(a.map Hn).getD k e0=(b.map Hn).getD k e0:=by rw [Qk7]
   simpa [Zv,Mx] using Qp
  have Qs:a.getD k e0≠b.getD k e0→R=false:=by
   intro h;rw [←Qo,Za];intro e;exact h (by rw [e])
  have Vx:a.getD k e0=b.getD k e0→∀ j,j<k+1→a.getD j e0=b.getD j e0:=fun h=>Vd Jl h;obtain ⟨Q,hQ⟩:=exq ((∀ j,j<k+1→a.getD j e0=b.getD j e0));rw [hQ] at Vx;obtain ⟨x,hx⟩:=exq (a.getD k e0);obtain ⟨y,hy⟩:=exq (b.getD k e0);rw [hx] at Qn s1 s2 Qs Vx Qfk;rw [hy] at Ql s3 s4 Qs Vx Qfk;have Qfi:x=y↔((x.t==y.t)&&(x.u==y.u))=true:=by
   constructor
   ·rintro rfl;simp
   ·intro h;rw [Zg,Zj,Zj] at h;cases x;cases y;unfold Hn at Qfk;simp only [Part.mk.injEq] at Qfk h ⊢;exact ⟨Qfk.1,Qfk.2.1,Qfk.2.2.1,Qfk.2.2.2.1,Qfk.2.2.2.2.1,Qfk.2.2.2.2.2.1,h.1,h.2⟩
  obtain ⟨b1,Qp⟩:=exq ((x.t==y.t));obtain ⟨b2,Qv⟩:=exq ((x.u==y.u));rw [Qp,Qv] at Qfi;rw [ne_eq,Qfi] at Qs;rw [Qfi] at Vx;clear Qfi;have Q3:=@Z5;have Jh:=@U0;have Kq:Kdz:=⟨⟩;exact Xv
 ·have hr:R=true:=by
   rw [←Qo,Zj];refine List.ext_getElem Tz fun j Qp Qv=>?_;have:=Jl j (by omega)
   simpa [Qp,Qv] using this
  subst hr;have Q3:=@U0;exact qB):p:=h
theorem good_One5:Qc Tryz.prog (93,pI):=by
 obtain ⟨Kx,Kt,Kc,Kd,Kb,Ku,Kw,K,X4,V2,_⟩:=J7 Zx Zo [] false (Q1 good_One3 fJ.eq_def (Q1 good_Same5 Em.eq_def J5));have Ko:=pI.eq_def;refine J9 K Tryz.func93 [.tmp 4] rfl 42 rfl (fun c hc Ji Zh=>?_);unfold pI at Zh;obtain ⟨⟨a⟩,⟨b⟩,rfl,Qpd,Qpc⟩:=Qf Zh;obtain ⟨ha,hA⟩:Zmn a:=Qpd;obtain ⟨hb,hB⟩:Zmn b:=Qpc;clear Zh;obtain ⟨R,Qo⟩:=exq ((a==b));cases Qk:T5 a b with
 | false =>
  have hr:R=false:=by
   rw [←Qo,Bool.eq_false_iff];intro h;rw [Qhr h] at Qk;cases Qk
  subst hr;cases hc;refine W5 2 ?_;have Q3:=@U0;have Kq:Kdx:=⟨⟩;exact Xv
 | true =>
 have Qk7:a.map Hn=b.map Hn:=by unfold T5 at Qk;exact eq_of_beq Qk
 have Tz:a.length=b.length:=by have:=congrArg List.length Qk7;rwa [Zf,Zf] at this
 cases hc;refine W5 2 ?_;have Q3:=@U0;have Kq:Kdy:=⟨⟩;exact Ae
theorem Zcm {p:Nat→Prop} {k:Nat} (h:∀ j,j<k→p j) (hk:p k):∀ j,j<k+1→p j:=fun j hj=>by
 rcases Nat.lt_or_ge j k with h1|h1
 ·exact h j h1
 ·have:j=k:=by omega
  exact this▸hk
structure Ch where
 site:Int
 t:List Node
 deriving DecidableEq
instance encCh:Enc Ch:=⟨fun a=>.agg [.int .i64 a.site,.list 3 (a.t.map enc)],fun x=>match x with
 | .agg [a,b]=>⟨a.i,b.l.map dec⟩
 | _=>⟨0,[]⟩,fun a=>by
  have h:∀ l:List Node,(l.map (enc:Node→D)).map dec=l:=fun l=>Jx;cases a;simp [D.l,D.i,h]⟩
instance szCh:Sz Ch:=⟨2⟩
theorem dR:Sz.sz Ch=2:=rfl
theorem eS {n:Ch}:(enc n:D)=.agg [.int .i64 n.site,.list 3 (n.t.map enc)]:=rfl
def c0:Ch:=⟨0,[]⟩
abbrev ty (l:List Ch) (k:Nat):List Node:=(l.getD k c0).t
abbrev si (l:List Ch) (k:Nat):Int:=(l.getD k c0).site
def Zzj (l:List Ch):Prop:=l.length≤9223372036854775807∧∀ c∈l,c.t.length≤9223372036854775807∧Ym c.t
def N7 (t:List Node):Bool:=t.all fun n=>n.kind != 0
def Ig:Con:=Xj (fun (t:Sl Node)=>t.l.length≤9223372036854775807) (fun t=>N7 t.l)
class KdB:Prop
theorem KdB.k (_:KdB) (h:p:=by
 exact ⟨k+1,by exact Qt,by omega,hs,by omega⟩):p:=h
class KdA:Prop
theorem KdA.k (_:KdA) (h:p:=by
 refine Zm [2,4,5,6,7,8,9,10,11,12,13,14,15] (fun k:Nat=>[(3,.d (.int .i64 k))]) (fun k:Nat=>[]) (fun k:Nat=>k≤t.length∧∀ j,j<k→((t.getD j n0).kind != 0)=true) (fun k:Nat=>t.length-k) 0 ?_ ?_ ?_
 ·simp
 ·exact Qt
 rintro k ⟨hk,Jl⟩;rcases Zn k t.length with ⟨Zv,Qk⟩|⟨Zv,Qk⟩
 ·have Qo:=Zp n0 Zv;have Jg:((t.getD k n0).kind != 0)=true→∀ j,j<k+1→((t.getD j n0).kind != 0)=true:=fun h=>Zcm Jl h;have Qs:((t.getD k n0).kind != 0)=false→false=N7 t:=fun h=>by
   unfold N7;rw [Ec (p:=fun n:Node=>n.kind != 0) n0 k Zv h]
  obtain ⟨x,hx⟩:=exq (t.getD k n0);rw [hx] at Qo Jg Qs;cases Qi:(x.kind==0) with
  | true =>
   have Qn:=Qs (by rw [bne,Qi];rfl)
   rw [eq_comm] at Qn;exact U3
  | false =>
   have hs:=Jg (by rw [bne,Qi];rfl)
   simp only [bne_iff_ne,ne_eq] at hs;have Kq:KdB:=⟨⟩;exact Xv
 ·have Qn:N7 t=true:=by
   unfold N7;rw [Mk (p:=fun n:Node=>n.kind != 0) n0 fun j hj=>Jl j (by omega)]
  exact qB):p:=h
theorem good_Static3:Qc Tryz.prog (39,Ig):=by
 obtain ⟨Kx,Kt,Kc,Kd,Kb,Ku,Kw,K,_⟩:=J7 Zx Zo [] false J5;have Ko:=Ig.eq_def;refine J9 K Tryz.func39 [.tmp 2] rfl 16 rfl (fun c hc Ji Zh=>?_);unfold Ig at Zh;obtain ⟨⟨t⟩,rfl,ht⟩:=Q8 Zh;simp only at ht;cases hc;have Kq:KdA:=⟨⟩;exact Ae
theorem Ziy (t:List Node):(!t.any (So [0]))=N7 t:=by
 unfold N7;rw [List.not_any_eq_all_not]
 congr 1
 funext n
 simp [So,Qi7,bne]
def Ie:Con:=Xj (fun (t:Sl Node)=>t.l.length≤9223372036854775807) (fun t=>N7 t.l)
theorem Zgk:Qc Tryz.prog (118,Ie):=by
 obtain ⟨Kx,Kt,Kc,Kd,Kb,Ku,Kw,K,X4,_⟩:=J7 Zx Zo [] false (Q1 yO O1.eq_def J5);have Ko:=Ie.eq_def;refine J9 K Tryz.func118 [.tmp 2] rfl 6 rfl (fun c hc Ji Zh=>?_);unfold Ie at Zh;obtain ⟨⟨t⟩,rfl,ht⟩:=Q8 Zh;simp only at ht;have Qk:=Ziy t;cases hc;exact U3
def Zlf (t:List Node):Bool:=Wg t&&(Ya t&&N7 t)
def Qam (l:List Ch) (k:Nat):Bool:=!(Wd (si l k) 1||(Wd 0 (k:Int)&&Xp (si l k) (si l (k-1))))&&Zlf (ty l k)
def Xy (l:List Ch):Bool:=(List.range l.length).all (Qam l)
def Ik:Con:=Xj (fun (l:Sl Ch)=>Zzj l.l) (fun l=>Xy l.l)
class KdD:Prop
theorem KdD.k (_:KdD) (h:p:=by
 first|assumption|(have:=kH ‹_›;omega)|(rw [Xt];omega)|(symm;apply Qs;clear Qs Jg Jl;simp_all;done)|(refine ⟨k+1,by exact Qt,by omega,Jg ?_,by omega⟩;clear Qs Jg Jl;simp_all;done)|skip):p:=h
class KdC:Prop
theorem KdC.k (_:KdC) (h:p:=by
 refine Zm [2,4,5,6,7,8,9,10,11,12,13,14,15,16,17,18,19,20,21,22,23,24,25,26,27,28,29,30,31,32,33,34,35,36,37,38,39,40,41,42,43,44,45,46,47,48,49,50,51,52,53,54,55,56,57,58] (fun k:Nat=>[(3,.d (.int .i64 k))]) (fun k:Nat=>[]) (fun k:Nat=>k≤l.length∧∀ j,j<k→Qam l j=true) (fun k:Nat=>l.length-k) 0 ?_ ?_ ?_
 ·simp
 ·exact Qt
 rintro k ⟨hk,Jl⟩;rcases Zn k l.length with ⟨Zv,Qk⟩|⟨Zv,Qk⟩
 ·have Qo:=Zp c0 Zv;have Jg:Qam l k=true→∀ j,j<k+1→Qam l j=true:=fun h=>Zcm Jl h;have Qs:Qam l k=false→R=false:=fun h=>by rw [←Zq];exact Hc k Zv h
  obtain ⟨Zhw,Ze9⟩:=hC (l.getD k c0) (by simp [Zv])
  unfold Qam si ty Zlf at Jg Qs;have Qi:=Zp c0 (show k-1<l.length by omega)
  have Qn:((k:Int)-1).toNat=k-1:=by omega
  obtain ⟨y,hy⟩:=exq (l.getD (k-1) c0);obtain ⟨x,hx⟩:=exq (l.getD k c0);rw [hx] at Qo Jg Qs Zhw Ze9;rw [hy] at Qi Jg Qs;obtain ⟨b1,Ql⟩:=exq (Wd x.site 1);obtain ⟨b2,Qp⟩:=exq (Wd 0 (k:Int));obtain ⟨b3,Qv⟩:=exq (Xp x.site y.site);obtain ⟨b4,Q3⟩:=exq (Wg x.t);obtain ⟨b5,Jh⟩:=exq (Ya x.t);obtain ⟨b6,Jb⟩:=exq (N7 x.t);rw [Ql,Qp,Qv,Q3,Jh,Jb] at Jg Qs;have kH:b2=true→0≤(k:Int)-1∧(k:Int)-1<l.length:=fun e=>by rw [e,Jj] at Qp;omega
  have Z6:=@eS;have Z7:=@dR;have Kq:KdD:=⟨⟩;exact Xv
 ·have hr:R=true:=by
   rw [←Zq];exact U4 fun j hj=>Jl j (by omega)
  subst hr;have Z6:=@dR;exact qB):p:=h
theorem good_Right11:Qc Tryz.prog (61,Ik):=by
 obtain ⟨Kx,Kt,Kc,Kd,Kb,Ku,Kw,K,X4,V2,Mo,_⟩:=J7 Zx Zo [] false (Q1 good_Static3 Ig.eq_def (Q1 good_Right3 Bx.eq_def (Q1 good_Plain3 Tf.eq_def J5)));have Ko:=Ik.eq_def;refine J9 K Tryz.func61 [.tmp 2] rfl 59 rfl (fun c hc Ji Zh=>?_);unfold Ik at Zh;obtain ⟨⟨l⟩,rfl,hF⟩:=Q8 Zh;obtain ⟨hl,hC⟩:Zzj l:=hF;clear Zh;obtain ⟨R,Z3⟩:=exq (Xy l);have Zq:=Z3;unfold Xy at Zq;cases hc;refine W5 3 ?_;have Z6:=@dR;have Kq:KdC:=⟨⟩;exact Xv
def Zdm (l:List Ch):Nat→Int
 | 0=>0
 | k+1=>si l k
def Qjv (l:List Ch) (k:Nat):Bool:=!(Xp (si l k) (Zdm l k))&&Zlf (ty l k)
def Zxg (l:List Ch):Bool:=(List.range l.length).all (Qjv l)
theorem Qjm (l:List Ch):Zxg l=Xy l:=by
 have h:∀ n,(∀ j,j<n→Qjv l j=true)↔∀ j,j<n→Qam l j=true:=by
  intro n
  induction n with
  | zero=>exact ⟨fun _ j hj=>by omega,fun _ j hj=>by omega⟩
  | succ n ih =>
   have Ir:(∀ j,j<n→Qam l j=true)→Qjv l n=Qam l n:=by
    intro Jl;unfold Qjv Qam
    congr 2
    cases n with
    | zero =>
     show Xp (si l 0) 0=_;rw [show Wd 0 ((0:Nat):Int)=false from rfl,Bool.false_and,Bool.or_false,Bool.eq_iff_iff,Q9,Jj];omega
    | succ m =>
     show Xp (si l (m+1)) (si l m)=_;rw [show Wd 0 ((m+1:Nat):Int)=true by rw [Jj];omega,Bool.true_and,Nat.add_sub_cancel]
     have h1:=Jl m (by omega)
     unfold Qam at h1;simp only [Zg,Bool.not_eq_true',Bool.or_eq_false_iff] at h1;have h2:=h1.1.1;rw [Q7] at h2;rw [Bool.eq_iff_iff,Bool.or_eq_true,Q9,Jj];omega
   constructor
   ·intro hA;have hC:=ih.1 fun j hj=>hA j (by omega)
    exact Zcm hC (by rw [←Ir hC];exact hA n (by omega))
   ·intro hC;have Qz6:∀ j,j<n→Qam l j=true:=fun j hj=>hC j (by omega)
    exact Zcm (ih.2 Qz6) (by rw [Ir Qz6];exact hC n (by omega))
 unfold Zxg Xy;rw [Bool.eq_iff_iff,List.all_eq_true,List.all_eq_true];constructor
 ·intro hA j hj;exact (h l.length).1 (fun j hj=>hA j (List.mem_range.2 hj)) j (List.mem_range.1 hj)
 ·intro hC j hj;exact (h l.length).2 (fun j hj=>hC j (List.mem_range.2 hj)) j (List.mem_range.1 hj)
def Zhg (l:List Ch):Prop:=l.length≤1000000∧∀ c∈l,c.t.length≤1000000∧Ym c.t
def cY:Con:=Xj (fun (l:Sl Ch)=>Zhg l.l) (fun l=>Xy l.l)
class KdF:Prop
theorem KdF.k (_:KdF) (h:p:=by
 first|assumption|(symm;apply Qs;clear Qs Jg Jl;simp_all;done)|(refine ⟨k+1,by rw [Zmy];exact Qt,by omega,Jg ?_,by omega⟩;clear Qs Jg Jl;simp_all;done)|skip):p:=h
class KdE:Prop
theorem KdE.k (_:KdE) (h:p:=by
 refine Zm [2,5,9,10,11,12,13,14,15,16,17,18,19,20,21,22,23,24,25,26,27,28,29,30,31,32,33,34,35,36] (fun k:Nat=>[(3,.d (.int .i64 (Zdm l k))),(8,.d (.int .i64 k))]) (fun k:Nat=>[]) (fun k:Nat=>k≤l.length∧∀ j,j<k→Qjv l j=true) (fun k:Nat=>l.length-k) 0 ?_ ?_ ?_
 ·simp
 ·have Vc:=@Zdm.eq_1;have Cs:=@Zdm.eq_2;exact Qt
 rintro k ⟨hk,Jl⟩;rcases Zn k l.length with ⟨Zv,Qk⟩|⟨Zv,Qk⟩
 ·have Qo:=Zp c0 Zv;have Jg:Qjv l k=true→∀ j,j<k+1→Qjv l j=true:=fun h=>Zcm Jl h;have Qs:Qjv l k=false→R=false:=fun h=>by rw [←Qu6];exact Hc k Zv h
  obtain ⟨Zhw,Ze9⟩:=hC (l.getD k c0) (by simp [Zv])
  have Qn:=Zxf (l.getD k c0).t;have Zmy:Zdm l (k+1)=(l.getD k c0).site:=rfl;unfold Qjv si ty Zlf at Jg Qs;obtain ⟨la,Qtg⟩:=exq (Zdm l k);obtain ⟨x,hx⟩:=exq (l.getD k c0);rw [hx] at Qo Jg Qs Zhw Ze9 Qn Zmy;rw [Qtg] at Jg Qs;rw [Qtg];obtain ⟨b1,Qi⟩:=exq (Xp x.site la);obtain ⟨b4,h4⟩:=exq (Wg x.t);obtain ⟨b5,Ql⟩:=exq (Ya x.t);obtain ⟨b6,Qp⟩:=exq (N7 x.t);rw [h4] at Qn;rw [Qi,h4,Ql,Qp] at Jg Qs;have Q3:=@eS;have Jh:=@dR;have Kq:KdF:=⟨⟩;exact Xv
 ·have hr:R=true:=by
   rw [←Qu6];exact U4 fun j hj=>Jl j (by omega)
  subst hr;have Q3:=@dR;exact qB):p:=h
theorem good_RightA:Qc Tryz.prog (64,cY):=by
 obtain ⟨Kx,Kt,Kc,Kd,Kb,Ku,Kw,K,X4,V2,Mo,_⟩:=J7 Zx Zo [] false (Q1 good_RightT cJ.eq_def (Q1 Zk3 cK.eq_def (Q1 Zgk Ie.eq_def J5)));have Ko:=cY.eq_def;refine J9 K Tryz.func64 [.tmp 2] rfl 37 rfl (fun c hc Ji Zh=>?_);unfold cY at Zh;obtain ⟨⟨l⟩,rfl,hF⟩:=Q8 Zh;obtain ⟨hl,hC⟩:Zhg l:=hF;clear Zh;have Qu6:=Qjm l;obtain ⟨R,Qv⟩:=exq (Xy l);rw [Qv] at Qu6;unfold Zxg at Qu6;cases hc;refine W5 2 ?_;have Q3:=@dR;have Kq:KdE:=⟨⟩;exact Xv
def Zea (l:List Ch) (most:Int):Bool:=!Wd most (l.length:Int)&&(l.all (fun c=>Sm c.t 30)&&Xy l)
def iO:Con:=Jy (fun (l:Sl Ch) (_:Int)=>Zzj l.l) (fun l m=>Zea l.l m)
class KdH:Prop
theorem KdH.k (_:KdH) (h:p:=by
 first|assumption|exact ⟨k+1,by exact Qt,by omega,hs,by omega⟩|skip):p:=h
class KdG:Prop
theorem KdG.k (_:KdG) (h:p:=by
 refine Zm [4,10,11,12,13,14,15,16,17,18,19,20,21,22] (fun k:Nat=>[(5,.d (.int .i64 k))]) (fun k:Nat=>[]) (fun k:Nat=>k≤l.length∧∀ j,j<k→Sm (ty l j) 30=true) (fun k:Nat=>l.length-k) 0 ?_ ?_ ?_
 ·simp
 ·exact Qt
 rintro k ⟨hk,Jl⟩;rcases Zn k l.length with ⟨Zv,Qi⟩|⟨Zv,Qi⟩
 ·have Qn:=Zp c0 Zv;have Jg:Sm (ty l k) 30=true→∀ j,j<k+1→Sm (ty l j) 30=true:=fun h=>Zcm Jl h;have Qs:Sm (ty l k) 30=false→R=false:=fun h=>by rw [←Qp,Ec (p:=fun c:Ch=>Sm c.t 30) c0 k Zv h,Bool.false_and]
  obtain ⟨Zhw,Ze9⟩:=hC (l.getD k c0) (by simp [Zv])
  unfold ty at Jg Qs;obtain ⟨x,hx⟩:=exq (l.getD k c0);rw [hx] at Qn Jg Qs Zhw Ze9;cases Ql:Sm x.t 30 with
  | true =>
   have hs:=Jg Ql;have Qv:=@eS;have Q3:=@dR;have Kq:KdH:=⟨⟩;exact Xv
  | false =>
   have hr:=Qs Ql;subst hr;have Qv:=@eS;have Q3:=@dR;exact U3
 ·rw [Mk (p:=fun c:Ch=>Sm c.t 30) c0 fun j hj=>Jl j (by omega),Bool.true_and] at Qp
  have Qp5:Zzj l:=⟨hl,hC⟩;have Qv:=@dR;exact U3):p:=h
theorem good_Few11:Qc Tryz.prog (29,iO):=by
 obtain ⟨Kx,Kt,Kc,Kd,Kb,Ku,Kw,K,X4,V2,_⟩:=J7 Zx Zo [] false (Q1 good_Plain7 cA.eq_def (Q1 good_Right11 Ik.eq_def J5));have Ko:=iO.eq_def;refine J9 K Tryz.func29 [.tmp 4] rfl 25 rfl (fun c hc Ji Zh=>?_);unfold iO at Zh;obtain ⟨⟨l⟩,m,rfl,hF⟩:=Qf Zh;obtain ⟨hl,hC⟩:Zzj l:=hF;clear Zh;obtain ⟨R,Qo⟩:=exq (Zea l m);have Qp:=Qo;unfold Zea at Qp;cases Qk:Wd m (l.length:Int) with
 | true =>
  rw [Qk,Bool.not_true,Bool.false_and] at Qp;subst Qp;cases hc;have Qv:=@dR;exact qB
 | false =>
 rw [Qk,Bool.not_false,Bool.true_and] at Qp;cases hc;have Qv:=@dR;have Kq:KdG:=⟨⟩;exact Xv
section
variable {α β:Type} [BEq α]
def M4 (x:α):List α→Bool
 | []=>false
 | y::l=>(x==y)||M4 x l
def eN (x:α) (z:β):List α→List β→β
 | y::ks,v::vs=>cond (x==y) v (eN x z ks vs)
 | _,_=>z
def Mn (x:α) (ks:List α):List α:=cond (M4 x ks) ks (ks++[x])
def Db (x:α) (v:β):List α→List β→List β
 | y::ks,u::vs=>cond (x==y) (v::vs) (u::Db x v ks vs)
 | _,_=>[v]
theorem Zdz {x y:α}:∀ {l:List α},M4 x (l++[y])=(M4 x l||(x==y))
 | []=>by simp [M4]
 | z::l=>by simp only [List.cons_append,M4,Zdz (l:=l),Bool.or_assoc]
theorem Zdy {x:α} {v:β}:∀ {ks:List α} {vs:List β},ks.length=vs.length→(Db x v ks vs).length=(Mn x ks).length
 | [],[],_=>rfl
 | [],_::_,h=>by simp at h
 | _::_,[],h=>by simp at h
 | k::ks,u::vs,h=>by
  have h':ks.length=vs.length:=by simpa using h
  have ih:=Zdy (x:=x) (v:=v) h';unfold Mn at ih ⊢;simp only [Db,M4];cases hx:(x==k) with
  | true=>simp only [cond_true,Bool.true_or,Zi,h']
  | false =>
   simp only [cond_false,Bool.false_or,Zi,ih];cases M4 x ks<;>simp
variable [LawfulBEq α]
theorem Qhb {x y:α} {ks:List α}:M4 x (Mn y ks)=(M4 x ks||(x==y)):=by
 unfold Mn;cases h:M4 y ks with
 | false=>rw [cond_false,Zdz]
 | true =>
  rw [cond_true];cases Qfi:(x==y) with
  | false=>rw [Bool.or_false]
  | true=>rw [eq_of_beq Qfi,h];rfl
theorem Zk6 {x y:α} {z v:β}:∀ {ks:List α} {vs:List β},ks.length=vs.length→eN x z (Mn y ks) (Db y v ks vs)=cond (x==y) v (eN x z ks vs)
 | [],[],_=>by
  show eN x z [y] [v]=_;cases h:x==y<;>simp [eN,h]
 | [],_::_,h=>by simp at h
 | _::_,[],h=>by simp at h
 | k::ks,u::vs,h=>by
  have h':ks.length=vs.length:=by simpa using h
  have ih:=Zk6 (x:=x) (y:=y) (z:=z) (v:=v) h';unfold Mn at ih ⊢;simp only [Db,M4];cases hk:(y==k) with
  | true =>
   have e:=eq_of_beq hk;subst e;simp only [cond_true,Bool.true_or,eN];cases x==y<;>rfl
  | false =>
   simp only [cond_false,Bool.false_or];cases hh:M4 y ks with
   | true =>
    rw [hh] at ih;simp only [cond_true] at ih ⊢;simp only [eN,ih];cases Qn3:(x==k) with
    | true =>
     have e:=eq_of_beq Qn3;subst e;have:(x==y)=false:=by rw [Za] at hk ⊢;exact fun e=>hk e.symm
     rw [this];rfl
    | false=>rfl
   | false =>
    rw [hh] at ih;simp only [cond_false] at ih ⊢;simp only [List.cons_append,eN,ih];cases Qn3:(x==k) with
    | true =>
     have e:=eq_of_beq Qn3;subst e;have:(x==y)=false:=by rw [Za] at hk ⊢;exact fun e=>hk e.symm
     rw [this];rfl
    | false=>rfl
end
theorem Qbg {x y:Int}:D.eqb (.int .i64 x) (.int .i64 y)=(x==y):=by
 show ((IntKind.i64==IntKind.i64)&&(x==y))=_;rfl
theorem W7:∀ {ks:List Int},Gk (.int .i64) (ks.map enc)=True
 | []=>rfl
 | k::ks=>by
  show ((IntKind.i64=IntKind.i64)∧Gk (.int .i64) (ks.map enc))=True;rw [W7];simp
theorem Hj {x:Int}:∀ {ks:List Int},Oo (.int .i64 x) (ks.map enc)=M4 x ks
 | []=>rfl
 | k::ks=>by
  show (D.eqb (.int .i64 x) (.int .i64 k)||Oo (.int .i64 x) (ks.map enc))=_;rw [Hj,Qbg,M4]
abbrev Lp (t:List Node):D:=.list 3 (t.map enc)
theorem Qau {x:Int} {z:List Node}:∀ {ks:List Int} {vs:List (List Node)},uO (.int .i64 x) (Lp z) (ks.map enc) (vs.map Lp)=Lp (eN x z ks vs)
 | [],vs=>by cases vs<;>rfl
 | k::ks,[]=>rfl
 | k::ks,v::vs=>by
  show cond (D.eqb (.int .i64 x) (.int .i64 k)) (Lp v) (uO (.int .i64 x) (Lp z) (ks.map enc) (vs.map Lp))=_;rw [Qau,Qbg,eN];cases x==k<;>rfl
theorem yJ {x:Int} {ks:List Int} {vs:List (List Node)}:uO (.int .i64 x) (.list 3 []) (ks.map enc) (vs.map Lp)=Lp (eN x [] ks vs):=Qau (z:=[])
theorem Qat {x:Int} {ks:List Int}:tB (.int .i64 x) (ks.map enc)=(Mn x ks).map enc:=by
 unfold tB Mn;rw [Hj];cases M4 x ks
 ·simp only [cond_false,List.map_append,List.map_cons,List.map_nil];rfl
 ·rfl
theorem Zkd {x:Int} {v:List Node}:∀ {ks:List Int} {vs:List (List Node)},Fx (.int .i64 x) (Lp v) (ks.map enc) (vs.map Lp)=(Db x v ks vs).map Lp
 | [],vs=>by cases vs<;>rfl
 | k::ks,[]=>rfl
 | k::ks,u::vs=>by
  show cond (D.eqb (.int .i64 x) (.int .i64 k)) (Lp v::vs.map Lp) (Lp u::Fx (.int .i64 x) (Lp v) (ks.map enc) (vs.map Lp))=_;rw [Zkd,Qbg,Db];cases x==k<;>rfl
theorem Qdo {x:Int} {v:List Node} {ks:List Int} {vs:List (List Node)}:Fx (.int .i64 x) (.list 3 (v.map enc)) (ks.map enc) (vs.map Lp)=(Db x v ks vs).map Lp:=Zkd
structure MT where
 ks:List Int
 vs:List (List Node)
def Wt (l:List Ch):Nat→MT
 | 0=>⟨[],[]⟩
 | k+1=>⟨Mn (si l k) (Wt l k).ks,Db (si l k) (ty l k) (Wt l k).ks (Wt l k).vs⟩
structure Fil where
 m:MT
theorem Zlp {l:List (List Node)}:(l.map Lp).map (fun x:D=>(x.l.map dec:List Node))=l:=by
 rw [List.map_map];have:((fun x:D=>(x.l.map dec:List Node))∘Lp)=id:=by
  funext t
  show (t.map (enc:Node→D)).map dec=t;exact Jx
 rw [this,List.map_id]
instance encFil:Enc Fil:=⟨fun a=>.clo 120 [.ptr 1 (.map (a.m.ks.map enc) (a.m.vs.map Lp))],fun x=>match x with
 | .clo _ [.ptr _ (.map a b)]=>⟨⟨a.map dec,b.map fun x=>x.l.map dec⟩⟩
 | _=>⟨⟨[],[]⟩⟩,fun a=>by
  obtain ⟨k,v⟩:=a;have h1:(k.map (enc:Int→D)).map dec=k:=Jx;simp only [h1,Zlp]⟩
theorem U8 {a:Fil}:(enc a:D)=.clo 120 [.ptr 1 (.map (a.m.ks.map enc) (a.m.vs.map Lp))]:=rfl
theorem Pc {ks:List Int} {vs:List (List Node)}:Ul Fil (.clo 120 [.ptr 1 (.map (ks.map enc) (vs.map Lp))])=True:=eq_true (Wc (⟨⟨ks,vs⟩⟩:Fil))
theorem Pd {ks:List Int} {vs:List (List Node)}:(dec (.clo 120 [.ptr 1 (.map (ks.map enc) (vs.map Lp))]):Fil)=⟨⟨ks,vs⟩⟩:=Enc.dec_enc (⟨⟨ks,vs⟩⟩:Fil)
def Ru:Con:=Xj (fun (l:Sl Ch)=>l.l.length≤1000000) (fun l=>Fil.mk (Wt l.l l.l.length))
class KdJ:Prop
theorem KdJ.k (_:KdJ) (h:p:=by
 first|exact ⟨k+1,by rw [Qi3,Qfd];exact Qt,by omega,by omega⟩|skip):p:=h
class KdI:Prop
theorem KdI.k (_:KdI) (h:p:=by
 refine Zm [5,10,11,12,13,14,15,16,17,18] (fun k:Nat=>[(9,.d (.int .i64 k))]) (fun k:Nat=>[(6,.mp ((Wt l k).ks.map enc) ((Wt l k).vs.map Lp) false)]) (fun k:Nat=>k≤l.length) (fun k:Nat=>l.length-k) 0 ?_ ?_ ?_
 ·omega
 ·have Vc:=@Wt.eq_1;have Cs:=@Wt.eq_2;exact Qt
 rintro k hk;rcases Zn k l.length with ⟨Zv,Qk⟩|⟨Zv,Qk⟩
 ·have Qo:=Zp c0 Zv;have Qi3:(Wt l (k+1)).ks=Mn (si l k) (Wt l k).ks:=rfl;have Qfd:(Wt l (k+1)).vs=Db (si l k) (ty l k) (Wt l k).ks (Wt l k).vs:=rfl;unfold si at Qi3 Qfd;unfold ty at Qfd;obtain ⟨x,hx⟩:=exq (l.getD k c0);rw [hx] at Qo Qi3 Qfd;obtain ⟨⟨ks,vs⟩,Qi⟩:=exq (Wt l k);rw [Qi] at Qi3 Qfd;rw [Qi];simp only at Qi3 Qfd;have Qn:=@W7;have Ql:=@Hj;have Qp:=@Qat;have Qv:=@Qdo;have Q3:=@eS;have Jh:=@dR;have Kq:KdJ:=⟨⟩;exact Xv
 ·have Ni:k=l.length:=by omega
  rw [Ni];rw [Ni] at Qk;obtain ⟨⟨ks,vs⟩,Qi⟩:=exq (Wt l l.length);rw [Qi];have Qn:=@U8;have Ql:=@dR;exact U3):p:=h
theorem good_filler:Qc Tryz.prog (66,Ru):=by
 obtain ⟨Kx,Kt,Kc,Kd,Kb,Ku,Kw,K,_⟩:=J7 Zx Zo [] false J5;have Ko:=Ru.eq_def;refine J9 K Tryz.func66 [.tmp 2] rfl 20 rfl (fun c hc Ji Zh=>?_);unfold Ru at Zh;obtain ⟨⟨l⟩,rfl,hl⟩:=Q8 Zh;simp only at hl;clear Zh;cases hc;have Qn:=@dR;have Kq:KdI:=⟨⟩;exact Xv
def named (s:List UInt8):List Node→List Node
 | []=>[]
 | n::r=>⟨n.kind,s,n.n⟩::r
theorem Mb {s:List UInt8} {l:List Node}:(named s l).length=l.length:=by cases l<;>rfl
def tR (m:MT) (n:Node):List Node:=cond (n.kind==0&&M4 n.n m.ks) (named n.name (eN n.n [] m.ks m.vs)) [n]
def Y8 (m:MT) (t:List Node):List Node:=t.flatMap (tR m)
def kG (m:MT):Prop:=∀ s,M4 s m.ks=true→eN s [] m.ks m.vs≠[]∧(eN s [] m.ks m.vs).length≤1000
theorem Zyq {m:MT} {t:List Node} {k:Nat} (h:k<t.length):Y8 m (t.take (k+1))=Y8 m (t.take k)++tR m (t.getD k n0):=by
 unfold Y8;rw [Y0 n0 h,List.flatMap_append];simp
theorem Qd7 {m:MT} (hm:kG m) (n:Node):(tR m n).length≤1000:=by
 unfold tR;cases hc:n.kind==0&&M4 n.n m.ks with
 | false=>exact Nat.le_succ_of_le (by show 1≤999;omega)
 | true =>
  rw [cond_true,Mb];rw [Zg] at hc;exact (hm _ hc.2).2
theorem Zd9 {m:MT} (hm:kG m):∀ t:List Node,(Y8 m t).length≤1000*t.length
 | []=>Zr _
 | n::t=>by
  have ih:=Zd9 hm t;have h1:=Qd7 hm n;unfold Y8 at ih ⊢;rw [List.flatMap_cons,Ze,Zi];omega
theorem Og {P:List Node} {n:Node} {r:List Node} {s:List UInt8}:((P++n::r).map (enc:Node→D)).set P.length (.agg [.int .i64 n.kind,.str s,.int .i64 n.n])=(P++named s (n::r)).map enc:=by
 rw [List.map_append,List.map_append,List.set_append];simp [named,Zz]
theorem eT {P:List Node} {n:Node} {r:List Node}:el ((P++n::r).map (enc:Node→D)) P.length=enc n:=by
 unfold el;simp
structure PtrT where
 m:MT
instance encPtrT:Enc PtrT:=⟨fun a=>.ptr 1 (.map (a.m.ks.map enc) (a.m.vs.map Lp)),fun x=>match x with
 | .ptr _ (.map a b)=>⟨⟨a.map dec,b.map fun x=>x.l.map dec⟩⟩
 | _=>⟨⟨[],[]⟩⟩,fun a=>by
  obtain ⟨k,v⟩:=a;have h1:(k.map (enc:Int→D)).map dec=k:=Jx;simp only [h1,Zlp]⟩
theorem Vs {a:PtrT}:(enc a:D)=.ptr 1 (.map (a.m.ks.map enc) (a.m.vs.map Lp)):=rfl
theorem Uc {ks:List Int} {vs:List (List Node)}:Ul PtrT (.ptr 1 (.map (ks.map enc) (vs.map Lp)))=True:=eq_true (Wc (⟨⟨ks,vs⟩⟩:PtrT))
theorem Ud {ks:List Int} {vs:List (List Node)}:(dec (.ptr 1 (.map (ks.map enc) (vs.map Lp))):PtrT)=⟨⟨ks,vs⟩⟩:=Enc.dec_enc (⟨⟨ks,vs⟩⟩:PtrT)
def Mg:Con:=Jy (fun (t:Sl Node) (p:PtrT)=>t.l.length≤200000∧kG p.m) (fun t p=>Sl.mk (Y8 p.m t.l))
class KdL:Prop
theorem KdL.k (_:KdL) (h:p:=by
 first|exact ⟨k+1,by rw [Qmx,Z3];(have Vc:=Qo4;exact Qt),by omega,by omega⟩|skip):p:=h
class KdM:Prop
theorem KdM.k (_:KdM) (h:p:=by
 first|exact ⟨k+1,by rw [Qmx,Z3];(have Vc:=Qo4;exact Qt),by omega,by omega⟩|skip):p:=h
class KdN:Prop
theorem KdN.k (_:KdN) (h:p:=by
 first|exact ⟨k+1,by rw [Qmx];(have Vc:=Q5;have Cs:=Qi4;exact Qt),by omega,by omega⟩|skip):p:=h
class KdK:Prop
theorem KdK.k (_:KdK) (h:p:=by
 refine Zm [6,7,8,9,13,14,15,16,17,18,19,20,21,22,23,24,25,26,27,28,29,30,31,32,33,34,35,36,37,38,39,40,41,42,43,44,45] (fun k:Nat=>[(4,.sl 33 ((Y8 ⟨ks,vs⟩ (t.take k)).map (enc:Node→D)).length),(12,.d (.int .i64 k))]) (fun k:Nat=>[(33,.row 3 ((Y8 ⟨ks,vs⟩ (t.take k)).map enc) 0)]) (fun k:Nat=>k≤t.length) (fun k:Nat=>t.length-k) 0 ?_ ?_ ?_
 ·omega
 ·have Vc:=@Y8.eq_1;exact Qt
 rintro k hk;have hb:=mM k hk;rcases Zn k t.length with ⟨Zv,Qk⟩|⟨Zv,Qk⟩
 ·have hS:=Zyq (m:=⟨ks,vs⟩) Zv;have aB:=mM (k+1) (by omega)
  have Qo:=Zp n0 Zv;obtain ⟨x,hx⟩:=exq (t.getD k n0);rw [hx] at Qo hS;have Qmp:=hm x.n;unfold tR at hS;simp only at hS Qmp;obtain ⟨P,Z6⟩:=exq (Y8 ⟨ks,vs⟩ (t.take k));obtain ⟨P2,Qmx⟩:=exq (Y8 ⟨ks,vs⟩ (t.take (k+1)));rw [Z6] at hS hb;rw [Qmx] at hS aB;rw [Z6];have Q3:(P.map (enc:Node→D)).length=P.length:=Zf ..;cases h0:(x.kind==0) with
  | false =>
   rw [h0,Bool.false_and,cond_false] at hS;have Z3:P2.map (enc:Node→D)=P.map enc++[.agg [.int .i64 x.kind,.str x.name,.int .i64 x.n]]:=by rw [hS];simp [Zz]
   have Qo4:P2.length=P.length+1:=by rw [hS];simp
   have Qi:(x.kind != 0)=true:=by rw [bne,h0];rfl
   have Z7:=@W7;have Qq:=@Hj;have Qj:=@yJ;have Kq:KdL:=⟨⟩;exact Xv
  | true =>
   have Qi:(x.kind != 0)=false:=by rw [bne,h0];rfl
   cases Qn:M4 x.n ks with
   | false =>
    rw [h0,Qn,Bool.and_false,cond_false] at hS;have Z3:P2.map (enc:Node→D)=P.map enc++[.agg [.int .i64 x.kind,.str x.name,.int .i64 x.n]]:=by rw [hS];simp [Zz]
    have Qo4:P2.length=P.length+1:=by rw [hS];simp
    have Z7:=@W7;have Qq:=@Hj;have Qj:=@yJ;have Kq:KdM:=⟨⟩;exact Xv
   | true =>
    rw [h0,Qn,Bool.and_self,cond_true] at hS;obtain ⟨Tz,Qpo⟩:=Qmp Qn;obtain ⟨u,Ql⟩:=exq (eN x.n [] ks vs);rw [Ql] at hS Tz Qpo;cases u with
    | nil=>exact absurd rfl Tz
    | cons y r =>
     have Z3:=Og (P:=P) (n:=y) (r:=r) (s:=x.name);rw [←hS] at Z3;have Qv:=eT (P:=P) (n:=y) (r:=r);have Qp:P.map (enc:Node→D)++(y::r).map enc=(P++y::r).map enc:=by simp
     have Q5:(P++y::r).length=P.length+r.length+1:=by simp [Nat.add_assoc]
     have Jh:((P++y::r).map (enc:Node→D)).length=P.length+r.length+1:=by rw [Zf,Q5]
     have Qi4:P2.length=P.length+r.length+1:=by rw [hS,Ze,Mb,Zi];omega
     have Jb0:(P2.map (enc:Node→D)).length=P.length+r.length+1:=by rw [Zf,hS,Ze,Mb,Zi];omega
     simp only [Zi] at Qpo;obtain ⟨Q,hQ⟩:=exq (P++y::r);rw [hQ] at Z3 Qv Qp Q5 Jh;obtain ⟨yr,Qmc⟩:=exq (y::r);rw [Qmc] at Ql Qp;have Qsr:yr.length=r.length+1:=by rw [←Qmc];rfl
     have Jb:(yr.map (enc:Node→D)).length=r.length+1:=by rw [Zf,Qsr]
     have Z7:=@W7;have Qq:=@Hj;have Qj:=@yJ;have Kq:KdN:=⟨⟩;exact Xv
 ·have Ni:k=t.length:=by omega
  rw [Ni,List.take_length] at hb;rw [Ni,List.take_length];rw [Ni] at Qk;obtain ⟨P,Z6⟩:=exq (Y8 ⟨ks,vs⟩ t);rw [Z6];have Z7:=@Ud;have Qq:=@Uc;have Qj:=@Vs;exact U3):p:=h
theorem good_filler_1:Qc Tryz.prog (120,Mg):=by
 obtain ⟨Kx,Kt,Kc,Kd,Kb,Ku,Kw,K,_⟩:=J7 Zx Zo [] false J5;have Ko:=Mg.eq_def;refine J9 K Tryz.func120 [.tmp 3] rfl 47 rfl (fun c hc Ji Zh=>?_);unfold Mg at Zh;obtain ⟨⟨t⟩,⟨m⟩,rfl,ht,hm⟩:=Qf Zh;simp only at ht hm;clear Zh;obtain ⟨R,hR⟩:=exq (Y8 m t);have mM:∀ k,k≤t.length→(Y8 m (t.take k)).length≤400000000:=fun k hk=>by
  have:=Zd9 hm (t.take k);rw [List.length_take] at this;omega
 obtain ⟨ks,vs⟩:=m;cases hc;refine W5 2 ?_;have Z7:=@Vs;have Kq:KdK:=⟨⟩;exact Xv
def Kz (l:List Ch):MT:=Wt l l.length
def iA:Con:=Jy (fun (t:Sl Node) (l:Sl Ch)=>t.l.length≤200000∧l.l.length≤1000000∧kG (Kz l.l)) (fun t l=>Sl.mk (Y8 (Kz l.l) t.l))
theorem Zyf:Qc Tryz.prog (63,iA):=by
 obtain ⟨Kx,Kt,Kc,Kd,Kb,Ku,Kw,K,X4,V2,_⟩:=J7 Zx Zo [] false (Q1 good_filler Ru.eq_def (Q1 good_filler_1 Mg.eq_def J5));have Ko:=iA.eq_def;refine J9 K Tryz.func63 [.tmp 4] rfl 9 rfl (fun c hc Ji Zh=>?_);unfold iA at Zh;obtain ⟨⟨t⟩,⟨l⟩,rfl,ht,hl,hm⟩:=Qf Zh;simp only at ht hl hm;clear Zh;unfold Kz at hm;have Qo:Kz l=Wt l l.length:=rfl;obtain ⟨⟨ks,vs⟩,Qk⟩:=exq (Wt l l.length);rw [Qk] at hm Qo;cases hc;have Qi:=@U8;have Qn:=@Ud;have Ql:=@Uc;have Qp:=@Vs;have Qv:=@dR;exact U3
def Zkv (l:List Ch) (n:Node) (k:Nat):Bool:=(n.kind==0)&&(n.n==si l k)
def B5 (l:List Ch) (n:Node):Nat→List Node
 | 0=>[]
 | k+1=>B5 l n k++cond (Zkv l n k) (ty l k) []
def Zyy (l:List Ch) (n:Node):List Node:=named n.name (match B5 l n l.length with|[]=>[n]|y::r=>y::r)
def Sb (l:List Ch) (t:List Node):List Node:=t.flatMap (Zyy l)
def Zmo (l:List Ch):Prop:=l.length≤100∧∀ c∈l,c.t.length≤1000
theorem Qbd {l:List Ch} (h:Zmo l) {k:Nat} (hk:k<l.length):(l.getD k c0).t.length≤1000:=h.2 _ (by simp [hk])
theorem rY {l:List Ch} (h:Zmo l) (n:Node):∀ k,k≤l.length→(B5 l n k).length≤1000*k
 | 0,_=>Zr _
 | k+1,hk=>by
  have ih:=rY h n k (by omega)
  have h1:=Qbd h (k:=k) (by omega)
  rw [B5,Ze];cases Zkv l n k
  ·rw [cond_false,List.length_nil];omega
  ·rw [cond_true];unfold ty;omega
theorem Qhl {l:List Ch} (h:Zmo l) (n:Node):(Zyy l n).length≤100001:=by
 have h1:=rY h n l.length (Zr _);have h2:=h.1;unfold Zyy;rw [Mb];revert h1;cases B5 l n l.length with
 | nil=>intro _;show 1≤_;omega
 | cons y r=>intro h1;show (y::r).length≤_;omega
theorem Zlr {l:List Ch} (h:Zmo l):∀ t:List Node,(Sb l t).length≤100001*t.length
 | []=>Zr _
 | n::t=>by
  have ih:=Zlr h t;have h1:=Qhl h n;unfold Sb at ih ⊢;rw [List.flatMap_cons,Ze,Zi];omega
theorem Qee {l:List Ch} {t:List Node} {k:Nat} (h:k<t.length):Sb l (t.take (k+1))=Sb l (t.take k)++Zyy l (t.getD k n0):=by
 unfold Sb;rw [Y0 n0 h,List.flatMap_append];simp
def Rw:Con:=Jy (fun (t:Sl Node) (l:Sl Ch)=>t.l.length≤200000∧Zmo l.l) (fun t l=>Sl.mk (Sb l.l t.l))
class KdQ:Prop
theorem KdQ.k (_:KdQ) (h:p:=by
 first|exact ⟨j+1,by rw [Qfp] at Zhz;(try rw [Ze] at Zhz);rw [Qmw,Zhz,Qfp];exact Qt,by omega,by omega⟩|skip):p:=h
class KdR:Prop
theorem KdR.k (_:KdR) (h:p:=by
 first|exact ⟨j+1,by rw [Qfp] at Zhz;(try rw [Ze] at Zhz);rw [Qmw,Zhz,Qfp];exact Qt,by omega,by omega⟩|skip):p:=h
class KdS:Prop
theorem KdS.k (_:KdS) (h:p:=by
 first|exact ⟨j+1,by rw [Qfp] at Zhz;(try rw [Ze] at Zhz);rw [Qmw,Zhz,Qfp];exact Qt,by omega,by omega⟩|skip):p:=h
class KdT:Prop
theorem KdT.k (_:KdT) (h:p:=by
 first|exact ⟨k+1,by rw [Qmx];(have Vc:=Q5;have Cs:=Qi4;exact Qt),by omega,by omega⟩|skip):p:=h
class KdU:Prop
theorem KdU.k (_:KdU) (h:p:=by
 first|exact ⟨k+1,by rw [Qmx];(have Vc:=Q5;have Cs:=Qi4;exact Qt),by omega,by omega⟩|skip):p:=h
class KdP:Prop
theorem KdP.k (_:KdP) (h:p:=by
 refine Zm [18,19,20,21,22,23,24,25,26,27,28,29,30,31,32,33,34,35,36,37,38,39,40,41,42,43,44,45,46,47,48,49] (fun j:Nat=>[(5,.sl 9 ((P++B5 l x j).map (enc:Node→D)).length),(8,.d (.int .i64 j))]) (fun j:Nat=>[(9,.row 3 ((P++B5 l x j).map enc) 0)]) (fun j:Nat=>j≤l.length) (fun j:Nat=>l.length-j) 0 ?_ ?_ ?_
 ·omega
 ·have Vc:=@B5.eq_1;have Cs:=@B5.eq_2;exact Qt
 rintro j hj;have Qs0:=Qip j hj;rcases Zn j l.length with ⟨Cp,Qo⟩|⟨Cp,Qo⟩
 ·have Qn:=Zp c0 Cp;have Jbb:=Qbd hF Cp;have Qfp:P++B5 l x (j+1)=(P++B5 l x j)++cond (Zkv l x j) (ty l j) []:=by rw [B5,List.append_assoc]
  unfold Zkv si ty at Qfp;obtain ⟨y,hy⟩:=exq (l.getD j c0);rw [hy] at Qn Qfp Jbb;have Jbz:(P++B5 l x j).length=P.length+(B5 l x j).length:=Ze ..;obtain ⟨Q,hQ⟩:=exq (P++B5 l x j);obtain ⟨Q2,Qmw⟩:=exq (P++B5 l x (j+1));have Zhz:P.length+(B5 l x (j+1)).length=Q2.length:=by rw [←Qmw,Ze]
  rw [hQ,Qmw] at Qfp;rw [hQ] at Jbz;rw [hQ];have Qv:Q.map (enc:Node→D)++y.t.map enc=(Q++y.t).map enc:=by rw [List.map_append]
  cases Ql:(x.kind==0) with
  | false =>
   rw [Ql,Bool.false_and,cond_false,List.append_nil] at Qfp;have Qx:=@eS;have Qm:=@dR;have Kq:KdQ:=⟨⟩;exact Xv
  | true =>
   cases Qp:(x.n==y.site) with
   | false =>
    rw [Ql,Qp,Bool.and_false,cond_false,List.append_nil] at Qfp;have Qx:=@eS;have Qm:=@dR;have Kq:KdR:=⟨⟩;exact Xv
   | true =>
    rw [Ql,Qp,Bool.and_self,cond_true] at Qfp;have Qx:=@eS;have Qm:=@dR;have Kq:KdS:=⟨⟩;exact Xv
 ·have wZ:j=l.length:=by omega
  rw [wZ];rw [wZ] at Qo Qs0;obtain ⟨u,hu⟩:=exq (B5 l x l.length);rw [hu] at hS Qs0;rw [hu];cases u with
  | nil =>
   have Z7:=Og (P:=P) (n:=x) (r:=[]) (s:=x.name);have Z3:=eT (P:=P) (n:=x) (r:=[]);simp only at hS;rw [←hS] at Z7;have Jb:P.map (enc:Node→D)++[.agg [.int .i64 x.kind,.str x.name,.int .i64 x.n]]=(P++[x]).map enc:=by rw [List.map_append];rfl
   have Q5:(P++[x]).length=P.length+1:=by simp
   have Z6:((P++[x]).map (enc:Node→D)).length=P.length+1:=by rw [Zf,Q5]
   have Qi4:P2.length=P.length+1:=by rw [hS,Ze,Mb];rfl
   have Q3:P++[]=P:=List.append_nil P;obtain ⟨Q,hQ⟩:=exq (P++[x]);rw [hQ] at Z7 Z3 Jb Q5 Z6;have Qx:=@dR;have Kq:KdT:=⟨⟩;exact Xv
  | cons y r =>
   have Z7:=Og (P:=P) (n:=y) (r:=r) (s:=x.name);have Z3:=eT (P:=P) (n:=y) (r:=r);simp only at hS;rw [←hS] at Z7;have Q5:(P++y::r).length=P.length+(r.length+1):=by simp
   have Z6:((P++y::r).map (enc:Node→D)).length=P.length+(r.length+1):=by rw [Zf,Q5]
   have Qi4:P2.length=P.length+(r.length+1):=by rw [hS,Ze,Mb];rfl
   simp only [Zi] at Qs0;obtain ⟨Q,hQ⟩:=exq (P++y::r);rw [hQ] at Z7 Z3 Q5 Z6;rw [hQ];have Qq:((P.length:Int)==((P.length+(r.length+1):Nat):Int))=false:=by rw [Za];omega
   have Qx:=@dR;have Kq:KdU:=⟨⟩;exact Xv):p:=h
class KdO:Prop
theorem KdO.k (_:KdO) (h:p:=by
 refine Zm [7,8,10,11,12,13,14,15,16,17,18,19,20,21,22,23,24,25,26,27,28,29,30,31,32,33,34,35,36,37,38,39,40,41,42,43,44,45,46,47,48,49,50,51,52,53,54,55,56,57,58,59,60,61,62,63,64,65,66,67,68,69] (fun k:Nat=>[(5,.sl 9 ((Sb l (t.take k)).map (enc:Node→D)).length),(6,.d (.int .i64 k))]) (fun k:Nat=>[(9,.row 3 ((Sb l (t.take k)).map enc) 0)]) (fun k:Nat=>k≤t.length) (fun k:Nat=>t.length-k) 0 ?_ ?_ ?_
 ·omega
 ·have Vc:=@Sb.eq_1;exact Qt
 rintro k hk;have hb:=mM k hk;rcases Zn k t.length with ⟨Zv,Qk⟩|⟨Zv,Qk⟩
 ·have hS:=Qee (l:=l) Zv;have aB:=mM (k+1) (by omega)
  have Qi:=Zp n0 Zv;obtain ⟨x,hx⟩:=exq (t.getD k n0);rw [hx] at Qi hS;unfold Zyy at hS;obtain ⟨P,Qj⟩:=exq (Sb l (t.take k));obtain ⟨P2,Qmx⟩:=exq (Sb l (t.take (k+1)));rw [Qj] at hS hb;rw [Qmx] at hS aB;rw [Qj];have Jh:(P.map (enc:Node→D)).length=P.length:=Zf ..;have Qip:=rY hF x;have Kq:KdP:=⟨⟩;exact Xv
 ·have Ni:k=t.length:=by omega
  rw [Ni,List.take_length] at hb;rw [Ni,List.take_length];rw [Ni] at Qk;obtain ⟨P,Qj⟩:=exq (Sb l t);rw [Qj];exact U3):p:=h
theorem good_Type11:Qc Tryz.prog (67,Rw):=by
 obtain ⟨Kx,Kt,Kc,Kd,Kb,Ku,Kw,K,_⟩:=J7 Zx Zo [] false J5;have Ko:=Rw.eq_def;refine J9 K Tryz.func67 [.tmp 4] rfl 71 rfl (fun c hc Ji Zh=>?_);unfold Rw at Zh;obtain ⟨⟨t⟩,⟨l⟩,rfl,ht,hF⟩:=Qf Zh;simp only at ht hF;clear Zh;have hl:=hF.1;obtain ⟨R,hR⟩:=exq (Sb l t);have mM:∀ k,k≤t.length→(Sb l (t.take k)).length≤20000400000:=fun k hk=>by
  have:=Zlr hF (t.take k);rw [List.length_take] at this;omega
 cases hc;refine W5 4 ?_;have Kq:KdO:=⟨⟩;exact Xv
def Hs (m:MT) (p:Part):Part:=⟨p.kind,p.label,p.name,p.bind,p.many,p.num,Y8 m p.t,Y8 m p.u⟩
def I1 (f:Part→Part) (e:List Part) (k:Nat):List Part:=(e.take k).map f++e.drop k
theorem nM {f:Part→Part} {e:List Part} {k:Nat} (h:k≤e.length):(I1 f e k).length=e.length:=by
 unfold I1;rw [Ze,Zf,List.length_take,List.length_drop];omega
theorem Zc9 {f:Part→Part} {e:List Part}:I1 f e 0=e:=by simp [I1]
theorem Zj8 {f:Part→Part} {e:List Part}:I1 f e e.length=e.map f:=by simp [I1]
theorem xR {f:Part→Part} {e:List Part} {k:Nat} (h:k<e.length):I1 f e k=(e.take k).map f++e.getD k e0::e.drop (k+1):=by
 unfold I1;rw [List.drop_eq_getElem_cons h];simp [h]
theorem Qap {f:Part→Part} {e:List Part} {k:Nat} (h:k<e.length):el ((I1 f e k).map (enc:Part→D)) k=enc (e.getD k e0):=by
 rw [xR h];have hl:((e.take k).map f).length=k:=by rw [Zf,List.length_take];omega
 obtain ⟨P,hP⟩:=exq ((e.take k).map f);rw [hP] at hl ⊢;rw [←hl];unfold el;simp
def lD (f:Part→Part) (e:List Part) (k:Nat) (q:Part):List Part:=(e.take k).map f++q::e.drop (k+1)
theorem Zj6 {f:Part→Part} {e:List Part} {k:Nat} {q:Part} (h:k<e.length):(lD f e k q).length=e.length:=by
 unfold lD;rw [Ze,Zf,List.length_take,Zi,List.length_drop];omega
theorem Zj7 {f:Part→Part} {e:List Part} {k:Nat} (h:k<e.length) (q:Part):((I1 f e k).map (enc:Part→D)).set k (enc q)=(lD f e k q).map enc:=by
 rw [xR h];unfold lD;have hl:((e.take k).map f).length=k:=by rw [Zf,List.length_take];omega
 obtain ⟨P,hP⟩:=exq ((e.take k).map f);rw [hP] at hl ⊢;rw [←hl,List.map_append,List.map_append,List.set_append];simp
theorem Zj5 {f:Part→Part} {e:List Part} {k:Nat} (h:k<e.length) (p q:Part):((lD f e k p).map (enc:Part→D)).set k (enc q)=(lD f e k q).map enc:=by
 unfold lD;have hl:((e.take k).map f).length=k:=by rw [Zf,List.length_take];omega
 obtain ⟨P,hP⟩:=exq ((e.take k).map f);rw [hP] at hl ⊢;rw [←hl,List.map_append,List.map_append,List.set_append];simp
theorem Qao {f:Part→Part} {e:List Part} {k:Nat} (h:k<e.length) (q:Part):el ((lD f e k q).map (enc:Part→D)) k=enc q:=by
 unfold lD;have hl:((e.take k).map f).length=k:=by rw [Zf,List.length_take];omega
 obtain ⟨P,hP⟩:=exq ((e.take k).map f);rw [hP] at hl ⊢;rw [←hl];unfold el;simp
theorem Zc8 {f:Part→Part} {e:List Part} {k:Nat} (h:k<e.length):lD f e k (f (e.getD k e0))=I1 f e (k+1):=by
 unfold lD I1;rw [Y0 e0 h,List.map_append,List.append_assoc];rfl
def N1:Con:=Gd (fun (t:Sl Part)=>t.l≠[]∧t.l.length≤1000000000) (fun t=>t.l)
theorem sK:N1=Gd (fun (t:Sl Part)=>t.l≠[]∧t.l.length≤1000000000) (fun t=>t.l):=rfl
class KdV:Prop
theorem KdV.k (_:KdV) (h:p:=by
 repeat' first|exact M7|with_reducible apply Zw|intro _
 all_goals simp_all):p:=h
theorem good_cloneParts:Qc Tryz.prog (46,N1):=by
 obtain ⟨Kx,Kt,Kc,Kd,Kb,Ku,Kw,K,_⟩:=J7 Zx Zo [] false J5;have Ko:=N1.eq_def;refine J9 K Tryz.func46 [.tmp 2] rfl 8 rfl (fun c hc Ji Zh=>?_);unfold N1 at Zh;obtain ⟨⟨t⟩,rfl,hn,ht⟩:=iP Zh;simp only at hn ht;cases hc;have Qk:t.map (enc:Part→D)≠[]:=by simpa using hn
 have Qo:=@U0;have Kq:KdV:=⟨⟩;exact Ae
def Zzi (e:List Part):Prop:=e≠[]∧e.length≤1000000∧∀ p∈e,p.t.length≤200000∧p.u.length≤200000
def iJ:Con:=Jy (fun (e:Sl Part) (f:Fil)=>Zzi e.l∧kG f.m) (fun e f=>Sl.mk (e.l.map (Hs f.m)))
class KdX:Prop
theorem KdX.k (_:KdX) (h:p:=by
 first|assumption|exact Qv|exact ⟨k+1,by rw [Qo8];(have Vc:=Qo7;have Cs:=Qt2;have Zm3:=Qv;exact Qt),by omega,by omega⟩|skip):p:=h
class KdY:Prop
theorem KdY.k (_:KdY) (h:p:=by
 first|trivial|exact congrArg (fun f:Fil=>List.map (enc:Part→D) (List.map (Hs f.m) e)) hd.symm|skip):p:=h
class KdW:Prop
theorem KdW.k (_:KdW) (h:p:=by
 repeat' first|exact M7|with_reducible apply Zw|intro _
 all_goals try assumption
 refine Zm [6,7,13,14,15,16,17,18,19,20,21,22,23,24,25,26,27,28,29,30,31,32,33] (fun k:Nat=>[(5,.sl 9 ((I1 (Hs ⟨ks,vs⟩) e k).map (enc:Part→D)).length),(10,.sl 9 ((I1 (Hs ⟨ks,vs⟩) e k).map (enc:Part→D)).length),(12,.d (.int .i64 k))]) (fun k:Nat=>[(9,.row 8 ((I1 (Hs ⟨ks,vs⟩) e k).map enc) 0)]) (fun k:Nat=>k≤e.length) (fun k:Nat=>e.length-k) 0 ?_ ?_ ?_
 ·omega
 ·have Vc:=@Zc9;exact Qt
 rintro k hk;have Qo7:=nM (f:=Hs ⟨ks,vs⟩) hk;rcases Zn k e.length with ⟨Zv,Qk⟩|⟨Zv,Qk⟩
 ·have Qn:=Qap (f:=Hs ⟨ks,vs⟩) Zv;have q2:=Zj7 (f:=Hs ⟨ks,vs⟩) Zv;have q3:=Zj5 (f:=Hs ⟨ks,vs⟩) Zv;have q4:=Qao (f:=Hs ⟨ks,vs⟩) Zv;have q5:=Zc8 (f:=Hs ⟨ks,vs⟩) Zv;have q6:=fun q=>Zj6 (f:=Hs ⟨ks,vs⟩) (q:=q) Zv;have Qt2:=nM (f:=Hs ⟨ks,vs⟩) (show k+1≤e.length by omega)
  obtain ⟨s1,s2⟩:=Qwx (e.getD k e0) (by simp [Zv])
  obtain ⟨x,hx⟩:=exq (e.getD k e0);rw [hx] at Qn q5 s1 s2;obtain ⟨M,hM⟩:=exq (I1 (Hs ⟨ks,vs⟩) e k);rw [hM] at Qn q2 Qo7;rw [hM];have Qo:(M.map (enc:Part→D)).length=e.length:=by rw [Zf,Qo7]
  have q10:=q6 ⟨x.kind,x.label,x.name,x.bind,x.many,x.num,Y8 ⟨ks,vs⟩ x.t,x.u⟩;have Qp:el ((lD (Hs ⟨ks,vs⟩) e k ⟨x.kind,x.label,x.name,x.bind,x.many,x.num,Y8 ⟨ks,vs⟩ x.t,x.u⟩).map (enc:Part→D)) k=.agg [.int .i64 x.kind,.str x.label,.str x.name,.str x.bind,.int .i64 x.many,.int .i64 x.num,enc (Sl.mk (Y8 ⟨ks,vs⟩ x.t)),.list 3 (x.u.map enc)]:=q4 _;obtain ⟨M1,Qo9⟩:=exq (lD (Hs ⟨ks,vs⟩) e k ⟨x.kind,x.label,x.name,x.bind,x.many,x.num,Y8 ⟨ks,vs⟩ x.t,x.u⟩);obtain ⟨M2,Qo8⟩:=exq (I1 (Hs ⟨ks,vs⟩) e (k+1));have Ql:(M.map (enc:Part→D)).set k (.agg [.int .i64 x.kind,.str x.label,.str x.name,.str x.bind,.int .i64 x.many,.int .i64 x.num,enc (Sl.mk (Y8 ⟨ks,vs⟩ x.t)),.list 3 (x.u.map enc)])=M1.map enc:=by
   rw [←Qo9];exact q2 ⟨x.kind,x.label,x.name,x.bind,x.many,x.num,Y8 ⟨ks,vs⟩ x.t,x.u⟩
  have Qv:(M1.map (enc:Part→D)).set k (.agg [.int .i64 x.kind,.str x.label,.str x.name,.str x.bind,.int .i64 x.many,.int .i64 x.num,enc (Sl.mk (Y8 ⟨ks,vs⟩ x.t)),enc (Sl.mk (Y8 ⟨ks,vs⟩ x.u))])=M2.map enc:=by
   rw [←Qo9,←Qo8,←q5];exact q3 _ (Hs ⟨ks,vs⟩ x)
  rw [Qo9] at Qp q10;rw [Qo8] at Qt2;have Qi:(M1.map (enc:Part→D)).length=e.length:=by rw [Zf,q10]
  clear q2 q3 q4 q5 q6;have Jh:=@Ud;have Jb:=@Uc;have Z3:=@Vs;have Z6:=@U8;have Z7:=@Z5;have Qq:=@U0;have Kq:KdX:=⟨⟩;exact Xv
 ·have Ni:k=e.length:=by omega
  rw [Ni,Od];rw [Ni] at Qk;have Q3:(e.map (Hs ⟨ks,vs⟩)).length=e.length:=Zf ..;have hd:(dec (enc (Fil.mk ⟨ks,vs⟩)):Fil)=⟨⟨ks,vs⟩⟩:=Enc.dec_enc _;have Jh:=@U8;have Jb:=@U0;have Kq:KdY:=⟨⟩;exact Xv):p:=h
theorem good_exprA:Qc Tryz.prog (119,iJ):=by
 obtain ⟨Kx,Kt,Kc,Kd,Kb,Ku,Kw,K,X4,V2,_⟩:=J7 Zx Zo [] false (Q1 good_cloneParts N1.eq_def (Q1 good_filler_1 Mg.eq_def J5));have Ko:=iJ.eq_def;refine J9 K Tryz.func119 [.tmp 4] rfl 35 rfl (fun c hc Ji Zh=>?_);unfold iJ at Zh;obtain ⟨⟨e⟩,⟨m⟩,rfl,hE,hm⟩:=Qf Zh;obtain ⟨Qpz,aA,Qwx⟩:Zzi e:=hE;simp only at hm;clear Zh;obtain ⟨ks,vs⟩:=m;have Od:=Zj8 (f:=Hs ⟨ks,vs⟩) (e:=e);have mH:0<e.length:=List.length_pos_iff.2 Qpz;cases hc;refine W5 2 ?_;have Jh:=@sK;have Jb:=@U8;have Z3:=@U0;have Kq:KdW:=⟨⟩;exact Ae
def Ag (l:List Ch) (p:Part):Part:=⟨p.kind,p.label,p.name,p.bind,p.many,p.num,Sb l p.t,Sb l p.u⟩
def Zhf (e:List Part):Prop:=e.length≤1000000∧∀ p∈e,p.t.length≤200000∧p.u.length≤200000
def cI:Con:=Jy (fun (e:Sl Part) (l:Sl Ch)=>Zhf e.l∧Zmo l.l) (fun e l=>Sl.mk (e.l.map (Ag l.l)))
class Kea:Prop
theorem Kea.k (_:Kea) (h:p:=by
 first|assumption|exact Q3|exact ⟨k+1,by rw [Qo8];(have Vc:=Qo7;have Cs:=Qt2;have Zm3:=Q3;exact Qt),by omega,by omega⟩|skip):p:=h
class KdZ:Prop
theorem KdZ.k (_:KdZ) (h:p:=by
 refine Zm [10,11,12,13,14,15,16,17,18,19,20,21,22,23,24,25,26,27,28,29,30,31,32,33,34,35,36,37] (fun k:Nat=>[(5,.sl 7 ((I1 (Ag l) e k).map (enc:Part→D)).length),(6,.d (.int .i64 k))]) (fun k:Nat=>[(7,.row 8 ((I1 (Ag l) e k).map enc) 0)]) (fun k:Nat=>k≤e.length) (fun k:Nat=>e.length-k) 0 ?_ ?_ ?_
 ·omega
 ·have Vc:=@Zc9;exact Qt
 rintro k hk;have Qo7:=nM (f:=Ag l) hk;rcases Zn k e.length with ⟨Zv,Qk⟩|⟨Zv,Qk⟩
 ·have Qn:=Zp e0 Zv;have Ql:=Qap (f:=Ag l) Zv;have q2:=Zj7 (f:=Ag l) Zv;have q3:=Zj5 (f:=Ag l) Zv;have q4:=Qao (f:=Ag l) Zv;have q5:=Zc8 (f:=Ag l) Zv;have q6:=fun q=>Zj6 (f:=Ag l) (q:=q) Zv;have Qt2:=nM (f:=Ag l) (show k+1≤e.length by omega)
  obtain ⟨s1,s2⟩:=Qwx (e.getD k e0) (by simp [Zv])
  obtain ⟨x,hx⟩:=exq (e.getD k e0);rw [hx] at Qn Ql q5 s1 s2;obtain ⟨M,hM⟩:=exq (I1 (Ag l) e k);rw [hM] at Ql q2 Qo7;rw [hM];have Qo:(M.map (enc:Part→D)).length=e.length:=by rw [Zf,Qo7]
  have q10:=q6 ⟨x.kind,x.label,x.name,x.bind,x.many,x.num,Sb l x.t,x.u⟩;have Qv:el ((lD (Ag l) e k ⟨x.kind,x.label,x.name,x.bind,x.many,x.num,Sb l x.t,x.u⟩).map (enc:Part→D)) k=.agg [.int .i64 x.kind,.str x.label,.str x.name,.str x.bind,.int .i64 x.many,.int .i64 x.num,enc (Sl.mk (Sb l x.t)),.list 3 (x.u.map enc)]:=q4 _;obtain ⟨M1,Qo9⟩:=exq (lD (Ag l) e k ⟨x.kind,x.label,x.name,x.bind,x.many,x.num,Sb l x.t,x.u⟩);obtain ⟨M2,Qo8⟩:=exq (I1 (Ag l) e (k+1));have Qp:(M.map (enc:Part→D)).set k (.agg [.int .i64 x.kind,.str x.label,.str x.name,.str x.bind,.int .i64 x.many,.int .i64 x.num,enc (Sl.mk (Sb l x.t)),.list 3 (x.u.map enc)])=M1.map enc:=by
   rw [←Qo9];exact q2 ⟨x.kind,x.label,x.name,x.bind,x.many,x.num,Sb l x.t,x.u⟩
  have Q3:(M1.map (enc:Part→D)).set k (.agg [.int .i64 x.kind,.str x.label,.str x.name,.str x.bind,.int .i64 x.many,.int .i64 x.num,enc (Sl.mk (Sb l x.t)),enc (Sl.mk (Sb l x.u))])=M2.map enc:=by
   rw [←Qo9,←Qo8,←q5];exact q3 _ (Ag l x)
  rw [Qo9] at Qv q10;rw [Qo8] at Qt2;have Qi:(M1.map (enc:Part→D)).length=e.length:=by rw [Zf,q10]
  clear q2 q3 q4 q5 q6;have Jb:=@Z5;have Z3:=@U0;have Z6:=@dR;have Kq:Kea:=⟨⟩;exact Xv
 ·have Ni:k=e.length:=by omega
  rw [Ni,Od];rw [Ni] at Qk;have Jh:((e.map (Ag l)).map (enc:Part→D)).length=e.length:=by rw [Zf,Zf]
  have Jb:=@U0;have Z3:=@dR;exact U3):p:=h
theorem good_Expr11:Qc Tryz.prog (68,cI):=by
 obtain ⟨Kx,Kt,Kc,Kd,Kb,Ku,Kw,K,X4,_⟩:=J7 Zx Zo [] false (Q1 good_Type11 Rw.eq_def J5);have Ko:=cI.eq_def;refine J9 K Tryz.func68 [.tmp 4] rfl 39 rfl (fun c hc Ji Zh=>?_);unfold cI at Zh;obtain ⟨⟨e⟩,⟨l⟩,rfl,hE,hF⟩:=Qf Zh;obtain ⟨aA,Qwx⟩:Zhf e:=hE;simp only at hF;clear Zh;have Od:=Zj8 (f:=Ag l) (e:=e);have Jco:(e.map (enc:Part→D)).length=e.length:=Zf ..;cases hc;refine W5 2 ?_;have Jb:=@U0;have Kq:KdZ:=⟨⟩;exact Xv
def Ua:List Ch→Int→Option (List Node)
 | [],_=>none
 | c::l,s=>if c.site=s then some c.t else Ua l s
theorem lG (s:Int) (c:Ch):∀ l:List Ch,Ua (l++[c]) s=match Ua l s with
  | some u=>some u
  | none=>if c.site=s then some c.t else none
 | []=>by simp [Ua]
 | b::l=>by
  simp only [List.cons_append,Ua,lG s c l];split<;>rfl
theorem lH {s:Int}:∀ {l:List Ch},(∀ c∈l,c.site≠s)→Ua l s=none
 | [],_=>rfl
 | c::l,h=>by
  rw [Ua,if_neg (h c (by simp)),lH fun b hb=>h b (List.mem_cons_of_mem _ hb)]
theorem Ss {s:Int} {u:List Node}:∀ {l:List Ch},Ua l s=some u→∃ c∈l,c.site=s∧c.t=u
 | [],h=>by cases h
 | c::l,h=>by
  unfold Ua at h;split at h
  ·exact ⟨c,by simp,‹_›,Option.some.inj h⟩
  ·obtain ⟨b,hb,h1⟩:=Ss h;exact ⟨b,List.mem_cons_of_mem _ hb,h1⟩
def Zas (l:List Ch):Prop:=∀ i j,i<j→j<l.length→si l i<si l j
theorem fU {l:List Ch} (h:Xy l=true):Zas l:=by
 unfold Xy at h;rw [List.all_eq_true] at h;have step:∀ j,j+1<l.length→si l j<si l (j+1):=by
  intro j hj;have:=h (j+1) (List.mem_range.2 hj);unfold Qam at this;simp only [Zg,Bool.not_eq_true',Bool.or_eq_false_iff,Bool.and_eq_false_iff,Q7] at this;have h2:=this.1.2;simp only [Nat.add_sub_cancel] at h2;rcases h2 with h2|h2
  ·omega
  ·rw [←Bool.not_eq_true,Q9] at h2;omega
 intro i j fO
 induction j with
 | zero=>omega
 | succ j ih =>
  intro hj;have:=step j hj;rcases Nat.lt_or_ge i j with h1|h1
  ·have:=ih h1 (by omega)
   omega
  ·have:i=j:=by omega
   subst this;exact step i hj
theorem vL {l:List Ch} (h:Xy l=true):∀ c∈l,1≤c.site∧Wg c.t=true∧Ya c.t=true∧N7 c.t=true:=by
 unfold Xy at h;rw [List.all_eq_true] at h;intro c hc;obtain ⟨k,hk,rfl⟩:=List.mem_iff_getElem.1 hc;have:=h k (List.mem_range.2 hk);unfold Qam Zlf si ty at this;have hg:l.getD k c0=l[k]:=by simp [hk]
 rw [hg] at this;simp only [Zg,Bool.not_eq_true',Bool.or_eq_false_iff,Q7] at this;exact ⟨this.1.1,this.2.1,this.2.2.1,this.2.2.2⟩
theorem lK {t:List Node} (h:Wg t=true):0<t.length:=by
 unfold Wg Wl at h;cases t with
 | nil=>simp at h
 | cons n t=>simp
theorem fB {l:List Ch} (hr:Zas l):∀ k,k≤l.length→(Wt l k).ks.length=(Wt l k).vs.length∧∀ s,M4 s (Wt l k).ks=(Ua (l.take k) s).isSome∧eN s [] (Wt l k).ks (Wt l k).vs=(Ua (l.take k) s).getD []
 | 0,_=>⟨rfl,fun s=>⟨rfl,rfl⟩⟩
 | k+1,hk=>by
  obtain ⟨ih1,ih2⟩:=fB hr k (by omega)
  have Qof:Ua (l.take k) (si l k)=none:=lH fun c hc=>by
   obtain ⟨j,hj,rfl⟩:=List.mem_iff_getElem.1 hc;rw [List.length_take] at hj;have:=hr j k (by omega) (by omega)
   unfold si at this;rw [List.getElem_take];have hg:l.getD j c0=l[j]'(by omega):=by simp [show j<l.length by omega]
   rw [hg] at this;exact Int.ne_of_lt this
  refine ⟨?_,fun s=>?_⟩
  ·show (Mn (si l k) (Wt l k).ks).length=(Db (si l k) (ty l k) (Wt l k).ks (Wt l k).vs).length;rw [Zdy ih1]
  ·show M4 s (Mn (si l k) (Wt l k).ks)=_∧eN s [] (Mn (si l k) (Wt l k).ks) (Db (si l k) (ty l k) (Wt l k).ks (Wt l k).vs)=_;rw [Qhb,Zk6 ih1,(ih2 s).1,(ih2 s).2,Y0 c0 (show k<l.length by omega),lG]
   show ((Ua (l.take k) s).isSome||(s==si l k))=_∧cond (s==si l k) (ty l k) ((Ua (l.take k) s).getD [])=_;cases hs:(s==si l k) with
   | true =>
    rw [eq_of_beq hs,Qof];have:(l.getD k c0).site=si l k:=rfl;rw [if_pos this];exact ⟨rfl,rfl⟩
   | false =>
    rw [Za] at hs;have:¬ (l.getD k c0).site=s:=fun e=>hs e.symm;rw [if_neg this];cases Ua (l.take k) s<;>exact ⟨rfl,rfl⟩
theorem xW {l:List Ch} (hr:Zas l) (n:Node):∀ k,k≤l.length→B5 l n k=if n.kind=0 then (Ua (l.take k) n.n).getD [] else []
 | 0,_=>by
  show ([]:List Node)=_;split<;>rfl
 | k+1,hk=>by
  have Qof:Ua (l.take k) (si l k)=none:=lH fun c hc=>by
   obtain ⟨j,hj,rfl⟩:=List.mem_iff_getElem.1 hc;rw [List.length_take] at hj;have:=hr j k (by omega) (by omega)
   unfold si at this;rw [List.getElem_take];have hg:l.getD j c0=l[j]'(by omega):=by simp [show j<l.length by omega]
   rw [hg] at this;exact Int.ne_of_lt this
  rw [B5,xW hr n k (by omega),Y0 c0 (show k<l.length by omega),lG]
  unfold Zkv;by_cases h0:n.kind=0
  ·have hb:(n.kind==0)=true:=Zj.2 h0;rw [if_pos h0,if_pos h0,hb,Bool.true_and];cases hs:(n.n==si l k) with
   | true =>
    rw [eq_of_beq hs,Qof];have:(l.getD k c0).site=si l k:=rfl;rw [if_pos this];rfl
   | false =>
    rw [Za] at hs;have:¬ (l.getD k c0).site=n.n:=fun e=>hs e.symm;rw [if_neg this,cond_false,List.append_nil];cases Ua (l.take k) n.n<;>rfl
  ·have hb:(n.kind==0)=false:=Za.2 h0;rw [if_neg h0,if_neg h0,hb];rfl
def fillN (l:List Ch) (n:Node):List Node:=if n.kind=0 then (match Ua l n.n with
 | some u=>named n.name u
 | none=>[n]) else [n]
theorem mZ {l:List Ch} (hr:Zas l) (n:Node):tR (Kz l) n=fillN l n:=by
 have h:=(fB hr l.length (Zr _)).2 n.n;rw [List.take_length] at h;unfold tR Kz fillN;rw [h.1,h.2];by_cases h0:n.kind=0
 ·rw [if_pos h0,Zj.2 h0,Bool.true_and];cases Ua l n.n<;>rfl
 ·rw [if_neg h0,Za.2 h0];rfl
theorem Qef {l:List Ch} (hr:Zas l) (hf:∀ c∈l,c.t≠[]) (n:Node):Zyy l n=fillN l n:=by
 unfold Zyy fillN;rw [xW hr n l.length (Zr _),List.take_length];by_cases h0:n.kind=0
 ·rw [if_pos h0,if_pos h0];cases hl:Ua l n.n with
  | none=>rfl
  | some u =>
   obtain ⟨c,hc,-,rfl⟩:=Ss hl;have:=hf c hc;show named n.name (match c.t with|[]=>[n]|y::r=>y::r)=named n.name c.t
   cases ht:c.t with
   | nil=>exact absurd ht this
   | cons y r=>rfl
 ·rw [if_neg h0,if_neg h0];rfl
theorem Zd7 {l:List Ch} (h:Xy l=true):Sb l=Y8 (Kz l):=by
 have hr:=fU h;have hf:∀ c∈l,c.t≠[]:=fun c hc e=>by
  have:=lK (vL h c hc).2.1;rw [e] at this;exact absurd this (by simp)
 funext t
 unfold Sb Y8
 congr 1
 funext n
 rw [Qef hr hf,mZ hr]
theorem Qhe {l:List Ch} {m:Int} (h:Zea l m=true):(l.length:Int)≤m∧(∀ c∈l,c.t.length≤30)∧Xy l=true:=by
 unfold Zea at h;simp only [Zg,Bool.not_eq_true',Q7,List.all_eq_true] at h;refine ⟨h.1,fun c hc=>?_,h.2.2⟩;have:=h.2.1 c hc;unfold Sm at this;simp only [Zg,Bool.not_eq_true',Q7] at this;omega
theorem Zk8 {l:List Ch} (h:Xy l=true) (hs:∀ c∈l,c.t.length≤1000):kG (Kz l):=by
 intro s hh;have hl:=(fB (fU h) l.length (Zr _)).2 s;rw [List.take_length] at hl;unfold Kz at hh ⊢;rw [hl.1] at hh;rw [hl.2];cases hq:Ua l s with
 | none=>rw [hq] at hh;cases hh
 | some u =>
  obtain ⟨c,hc,-,rfl⟩:=Ss hq;have:=lK (vL h c hc).2.1;refine ⟨fun e=>?_,hs c hc⟩;simp only [Option.getD_some] at e;rw [e] at this;simp at this
theorem Qkn {a:Int} {m:Nat} {l:List D}:(dec (.agg [.int .i64 a,.list m l]):Ch)=⟨a,l.map dec⟩:=rfl
theorem Qkc {a x y:Int} {s:List UInt8}:Ul Ch (.agg [.int .i64 a,.list 3 [.agg [.int .i64 x,.str s,.int .i64 y]]])=True:=eq_true (Wc (Ch.mk a [⟨x,s,y⟩]))
def Ia:Con:=Mw true
theorem Zgj:Qc Tryz.prog (30,Ia):=by
 obtain ⟨Kx,Kt,Kc,Kd,Kb,Ku,Kw,K,X4,V2,Mo,_⟩:=J7 Zx Zo [] false (Q1 Zyf iA.eq_def (Q1 Zk2 cW.eq_def (Q1 good_RightA cY.eq_def J5)));have Ko:=Ia.eq_def;refine J9 K Tryz.func30 [.tmp 0] rfl 28 rfl (fun c hc Ji Zh=>?_);unfold Ia at Zh;obtain rfl:=Zab Zh;have Qk:Xy [⟨2,[⟨1,[],0⟩]⟩]=true:=by decide
 have Qo:Xy [⟨1,[⟨0,[],0⟩]⟩]=false:=by decide
 have Qi:Y8 (Kz [⟨2,[⟨1,[],0⟩]⟩]) [⟨5,[],0⟩,⟨0,[],1⟩,⟨0,[],2⟩]=[⟨5,[],0⟩,⟨0,[],1⟩,⟨1,[],0⟩]:=by rfl
 have m1:kG (Kz [⟨2,[⟨1,[],0⟩]⟩]):=Zk8 Qk (by intro c hc;simp at hc;subst hc;simp)
 have hA:vU [⟨5,[],0⟩,⟨0,[],1⟩,⟨1,[],0⟩]:=⟨_,_,_,rfl,rfl,⟨by simp,by simp⟩,⟨by simp,by simp⟩⟩
 have Qn:Zg7 ⟨0,[],1⟩ ⟨1,[],0⟩=[63,32,45,62,32,105,110,116]:=rfl;have s1:Zhg [⟨2,[⟨1,[],0⟩]⟩]:=⟨by simp,by intro c hc;simp at hc;subst hc;exact ⟨by simp,by intro n hn;simp at hn;subst hn;simp⟩⟩
 have s2:Zhg [⟨1,[⟨0,[],0⟩]⟩]:=⟨by simp,by intro c hc;simp at hc;subst hc;exact ⟨by simp,by intro n hn;simp at hn;subst hn;simp⟩⟩
 cases hc;have Ql:=@Qkn;have Qp:=@Qkc;have Qv:=@dR;exact U3
theorem Zli {l:List Ch} (hl:∀ c∈l,c.t.length≤30) (hr:Xy l=true) (t:List Node):(Y8 (Kz l) t).length≤30*t.length:=by
 have h1:∀ n,(tR (Kz l) n).length≤30:=by
  intro n;rw [mZ (fU hr)];unfold fillN;split
  ·cases hq:Ua l n.n with
   | none=>exact (by show 1≤30;omega)
   | some u =>
    obtain ⟨c,hc,-,rfl⟩:=Ss hq;show (named n.name c.t).length≤30;rw [Mb];exact hl c hc
  ·exact (by show 1≤30;omega)
 induction t with
 | nil=>exact Zr _
 | cons n t ih =>
  have:=h1 n;unfold Y8 at ih ⊢;rw [List.flatMap_cons,Ze,Zi];omega
theorem bF {l:List Ch} (h:Xy l=true) (t:List Node):Y8 (Kz l) t=t.flatMap (fillN l):=by
 unfold Y8
 congr 1
 funext n
 exact mZ (fU h) n
theorem map_snoc {B:List Ch} {x:Ch}:(B++[x]).map (enc:Ch→D)=B.map enc++[.agg [.int .i64 x.site,.list 3 (x.t.map enc)]]:=by rw [List.map_append];rfl
open Go.Proofs Go.Rose Go.Rose.Rose
theorem xH {s:List UInt8} {t:List Node} (h:Ga t):Ga (named s t):=by
 cases t with
 | nil=>exact h
 | cons a t =>
  intro n hn;rcases Zs.1 hn with rfl|hn
  ·exact h a (by simp)
  ·exact h n (by simp [hn])
theorem Zxt {l:List Ch} (hr:Xy l=true) {n:Node} (h:V0 n=true):Ga (fillN l n):=by
 have h1:Ga [n]:=fun m hm=>by rw [Zt] at hm;subst hm;exact h
 unfold fillN;split
 ·cases hq:Ua l n.n with
  | none=>exact h1
  | some u =>
   obtain ⟨c,hc,-,rfl⟩:=Ss hq;obtain ⟨x,hx,hR⟩:=Dg (vL hr c hc).2.1;exact xH (by rw [hx];exact hR.numb)
 ·exact h1
theorem Qc9 {l:List Ch} (hr:Xy l=true) {t:List Node} (h:Ga t):Ga (Y8 (Kz l) t):=by
 rw [bF hr];intro m hm;obtain ⟨n,hn,Qjd⟩:=List.mem_flatMap.1 hm;exact Zxt hr (h n hn) m Qjd
def vR {A B C E R:Type} [Enc A] [Enc B] [Enc C] [Enc E] [Enc R] (p:A→B→C→E→Prop) (f:A→B→C→E→R):Con:=⟨[false,false,false,false],[false],fun c=>match c with
 | [.d x,.d y,.d z,.d w]=>Ul A x∧Ul B y∧Ul C z∧Ul E w∧p (dec x) (dec y) (dec z) (dec w)
 | _=>False,fun c=>match c with
 | [.d x,.d y,.d z,.d w]=>.d (enc (f (dec x) (dec y) (dec z) (dec w)))
 | _=>.d .nilp⟩
theorem qK:type_of% @vR.eq_def:=@vR.eq_def
theorem Zg2 {A B C E R:Type} [Enc A] [Enc B] [Enc C] [Enc E] [Enc R] {p:A→B→C→E→Prop} {f:A→B→C→E→R} {c:List CV} (h:(vR p f).pre c):∃ a b d e,c=[.d (enc a),.d (enc b),.d (enc d),.d (enc e)]∧p a b d e:=by
 unfold vR at h;simp only at h;split at h
 ·next x y z w=>exact ⟨dec x,dec y,dec z,dec w,by rw [←h.1,←h.2.1,←h.2.2.1,←h.2.2.2.1],h.2.2.2.2⟩
 ·exact h.elim
def Se (s:List UInt8) (i:Int) (a b:UInt8):Bool:=Wd i s.length&&X8 (s.getD i.toNat 0) a b
def iW:Con:=vR (fun (s:List UInt8) (i:Int) (_ _:UInt8)=>s.length≤1000000∧0≤i∧i≤2000000) (fun s i a b=>Se s i a b)
theorem Zye:Qc Tryz.prog (246,iW):=by
 obtain ⟨Kx,Kt,Kc,Kd,Kb,Ku,Kw,K,X4,_⟩:=J7 Zx Zo [] false (Q1 good_within wJ J5);have Ko:=iW.eq_def;refine J9 K Tryz.func246 [.tmp 8] rfl 21 rfl (fun c hc Ji Zh=>?_);unfold iW at Zh;obtain ⟨s,i,a,b,rfl,hs,Znb,Zbb⟩:=Zg2 Zh;obtain ⟨i,rfl⟩:∃ n:Nat,i=n:=⟨i.toNat,by omega⟩
 obtain ⟨R,Qi⟩:=exq (Se s i a b);have Qo:=Qi;unfold Se at Qo;rw [Zl] at Qo;rcases Zn i s.length with ⟨Zv,Qk⟩|⟨Zv,Qk⟩
 ·rw [Qk,Bool.true_and] at Qo;cases hc;have Qn:=@vR.eq_def;exact U3
 ·rw [Qk,Bool.false_and] at Qo;subst Qo;cases hc;have Qn:=@vR.eq_def;exact qB
def Zxz (s:List UInt8) (i:Nat) (c:UInt8):Nat :=
 if c<128 then 1
 else if (X8 c 194 223&&Se s (i+1) 128 191)=true then 2
 else if (X8 c 224 239&&(Se s (i+1) (if c=224 then 160 else 128) (if c=237 then 159 else 191)&&Se s (i+2) 128 191))=true then 3
 else if (X8 c 240 244&&(Se s (i+1) (if c=240 then 144 else 128) (if c=244 then 143 else 191)&&(Se s (i+2) 128 191&&Se s (i+3) 128 191)))=true then 4
 else 0
def nP (s:List UInt8) (i:Nat):Nat:=Zxz s i (s.getD i 0)
theorem zI {s:List UInt8} {i:Int} {a b:UInt8} (h:Se s i a b=true):i<s.length:=by
 unfold Se at h;rw [Zg,Jj] at h;exact h.1
theorem Zkf {s:List UInt8} {i:Nat} (hi:i<s.length):i+nP s i≤s.length:=by
 unfold nP Zxz;obtain ⟨a,ha⟩:=exq ((if s.getD i 0=224 then (160:UInt8) else 128))
 obtain ⟨b,hb⟩:=exq ((if s.getD i 0=237 then (159:UInt8) else 191))
 obtain ⟨c,hc⟩:=exq ((if s.getD i 0=240 then (144:UInt8) else 128))
 obtain ⟨d,hd⟩:=exq ((if s.getD i 0=244 then (143:UInt8) else 191))
 rw [ha,hb,hc,hd];split
 ·omega
 split
 ·rename_i h;rw [Zg] at h;have:=zI h.2;omega
 split
 ·rename_i h;simp only [Zg] at h;have:=zI h.2.2;omega
 split
 ·rename_i h;simp only [Zg] at h;have:=zI h.2.2.2;omega
 ·omega
def uH (c:UInt8):Int:=if X8 c 48 57=true then (c.toNat:Int)-48 else if X8 c 97 102=true then (c.toNat:Int)-97+10 else -1
theorem Zz9 {c:UInt8}:-1≤uH c∧uH c≤15:=by
 unfold uH X8;split
 ·rename_i h;simp only [Zg,decide_eq_true_eq,UInt8.le_iff_toNat_le] at h;have h1:(48:UInt8).toNat=48:=rfl;have h2:(57:UInt8).toNat=57:=rfl;omega
 split
 ·rename_i h;simp only [Zg,decide_eq_true_eq,UInt8.le_iff_toNat_le] at h;have h1:(97:UInt8).toNat=97:=rfl;have h2:(102:UInt8).toNat=102:=rfl;omega
 ·omega
def Qne (s:List UInt8) (i:Nat) (c:UInt8):List UInt8×Int :=
 if c=92∨c=34 then ((s.take (i+2)).drop (i+1),2)
 else if c=110 then ([10],2)
 else if c=116 then ([9],2)
 else if c=120∧i+3<s.length∧0≤uH (s.getD (i+2) 0)∧0≤uH (s.getD (i+3) 0) then ([UInt8.ofNat (16*uH (s.getD (i+2) 0)+uH (s.getD (i+3) 0)).toNat],4)
 else ([],0)
def uT (s:List UInt8) (i:Nat):List UInt8×Int:=if s.length≤i+1 then ([],0) else Qne s i (s.getD (i+1) 0)
theorem Qbf {s:List UInt8} {i:Nat} (hi:i<s.length):0≤(uT s i).2∧i+(uT s i).2.toNat≤s.length∧(uT s i).1.length≤(uT s i).2.toNat:=by
 unfold uT;split
 ·exact ⟨by simp,by simp;omega,by simp⟩
 unfold Qne;split
 ·exact ⟨by simp,by simp;omega,by simp;omega⟩
 split
 ·exact ⟨by simp,by simp;omega,by simp⟩
 split
 ·exact ⟨by simp,by simp;omega,by simp⟩
 split
 ·rename_i h;exact ⟨by simp,by simp;omega,by simp⟩
 ·exact ⟨by simp,by simp;omega,by simp⟩
def kL:Nat→List UInt8→Nat→List UInt8→List UInt8×Int×Int
 | 0,_,_,_=>([],0,2)
 | f+1,s,i,out =>
  if s.length≤i then ([],0,2)
  else if s.getD i 0=34 then (out,(i:Int)+1,0)
  else if nP s i=0∨s.getD i 0<32∨s.getD i 0=127 then ([],0,2)
  else if s.getD i 0=92 then (if (uT s i).2=0 then ([],0,2) else kL f s (i+(uT s i).2.toNat) (out++(uT s i).1))
  else kL f s (i+nP s i) (out++(s.take (i+nP s i)).drop i)
def dE (s:List UInt8):List UInt8×Int×Int:=if s.length=0∨s.getD 0 0≠34 then ([],0,2) else kL s.length s 1 []
theorem Zfi {s:List UInt8}:∀ {f i:Nat} {out:List UInt8},1≤i→i≤s.length→out.length≤i→(kL f s i out).2.2=0→1≤(kL f s i out).2.1∧(kL f s i out).2.1≤s.length∧(kL f s i out).1.length≤s.length
 | 0,i,out,_,_,_,h=>by simp [kL] at h
 | f+1,i,out,h1,h2,h3,h=>by
  unfold kL at h ⊢;split at h
  ·simp at h
  rename_i hi;rw [if_neg hi];split at h
  ·rename_i h4;rw [if_pos h4];exact ⟨by simp only;omega,by simp only;omega,by simp only;omega⟩
  rename_i h4;rw [if_neg h4];split at h
  ·simp at h
  rename_i h5;rw [if_neg h5];split at h
  ·rename_i h6;rw [if_pos h6];split at h
   ·simp at h
   rename_i h7;rw [if_neg h7];have hE:=Qbf (s:=s) (i:=i) (by omega)
   exact Zfi (by omega) hE.2.1 (by rw [Ze];omega) h
  ·rename_i h6;rw [if_neg h6];have hE:=Zkf (s:=s) (i:=i) (by omega)
   exact Zfi (by omega) hE (by simp only [Ze,List.length_drop,List.length_take];omega) h
theorem Zfj {s:List UInt8} (h:(dE s).2.2=0):1≤(dE s).2.1∧(dE s).2.1≤s.length∧(dE s).1.length≤s.length:=by
 unfold dE at h ⊢;split at h
 ·simp at h
 rename_i h1;rw [if_neg h1];exact Zfi (by omega) (by omega) (by simp) h
structure Tok where
 kind:Int
 text:List UInt8
 frm:Int
 to:Int
 deriving DecidableEq
instance encTok:Enc Tok:=⟨fun a=>.agg [.int .i64 a.kind,.str a.text,.int .i64 a.frm,.int .i64 a.to],fun x=>match x with
 | .agg [a,b,c,d]=>⟨a.i,b.s,c.i,d.i⟩
 | _=>⟨0,[],0,0⟩,fun a=>rfl⟩
instance szTok:Sz Tok:=⟨4⟩
theorem Bh:Sz.sz Tok=4:=rfl
theorem Jp {n:Tok}:(enc n:D)=.agg [.int .i64 n.kind,.str n.text,.int .i64 n.frm,.int .i64 n.to]:=rfl
theorem W0 {a c d:Int} {b:List UInt8}:(dec (.agg [.int .i64 a,.str b,.int .i64 c,.int .i64 d]):Tok)=⟨a,b,c,d⟩:=rfl
theorem Ww {a c d:Int} {b:List UInt8}:Ul Tok (.agg [.int .i64 a,.str b,.int .i64 c,.int .i64 d])=True:=eq_true rfl
theorem Wv {n:Tok}:Tok.mk n.kind n.text n.frm n.to=n:=rfl
def Us:Tok:=⟨0,[],0,0⟩
def Qaz:List (List UInt8):=[[105,109,112,111,114,116],[100,101,102],[102,117,110],[108,101,116],[114,101,99],[105,110],[105,102],[116,104,101,110],[101,108,115,101],[99,97,115,101],[111,102],[101,110,100],[116,114,117,101],[102,97,108,115,101],[117,110,105,116],[105,110,116],[98,111,111,108],[115,116,114,105,110,103]]
def lX:List (List UInt8):=[[45,62],[61,61],[38,38],[124,124],[43,43],[40],[41],[123],[125],[91],[93],[44],[59],[58],[46],[61],[124],[43],[45],[42],[47],[60],[63],[33]]
def rM (s:List UInt8):Bool:=Qaz.any fun o=>o==s
def Zdw (c:UInt8):Bool:=X8 c 97 122||(X8 c 65 90||(X8 c 48 57||c==95))
def Wy (c:UInt8):Bool:=X8 c 48 57
def Oz:Bool→List UInt8→Nat
 | _,[]=>0
 | true,c::r=>if c=10 then 1+Oz false r else 1+Oz true r
 | false,c::r=>if c=32∨c=9∨c=10 then 1+Oz false r else if c=35 then 1+Oz true r else 0
def dW (s:List UInt8) (i:Nat):Nat:=i+Oz false (s.drop i)
theorem oH:∀ (b:Bool) (s:List UInt8),Oz b s≤s.length
 | _,[]=>by simp [Oz]
 | true,c::r=>by
  have h1:=oH true r;have h2:=oH false r;unfold Oz;split<;>simp only [Zi]<;>omega
 | false,c::r=>by
  have h1:=oH true r;have h2:=oH false r;unfold Oz;split
  ·simp only [Zi];omega
  split<;>simp only [Zi]<;>omega
theorem fC {s:List UInt8} {i:Nat} (h:i≤s.length):i≤dW s i∧dW s i≤s.length:=by
 unfold dW;have:=oH false (s.drop i);rw [List.length_drop] at this;omega
def qS (s:List UInt8) (i:Nat) (x:List UInt8):Bool:=Xp ((i+x.length:Nat):Int) s.length&&((s.take (i+x.length)).drop i==x)
def Cu (s:List UInt8) (i:Nat):List (List UInt8)→List UInt8
 | []=>[]
 | x::l=>cond (qS s i x) x (Cu s i l)
def C8 (s:List UInt8) (i:Nat):List UInt8:=Cu s i lX
def Km:List UInt8→Nat
 | []=>0
 | c::r=>cond (Zdw c) (1+Km r) 0
theorem mO:∀ s:List UInt8,Km s≤s.length
 | []=>by simp [Km]
 | c::r=>by
  have:=mO r;unfold Km;cases Zdw c
  ·exact Nat.zero_le _
  ·rw [cond_true,Zi];omega
def Ks (s:List UInt8) (i:Nat):List UInt8:=(s.take (i+Km (s.drop i))).drop i
def nD (s:List UInt8) (i:Nat):Tok×Bool :=
 if s.getD i 0=34 then (⟨4,(dE (s.drop i)).1,i,i+(dE (s.drop i)).2.1⟩,(dE (s.drop i)).2.2==0)
 else if Mm (Ks s i)=true then (⟨2,Ks s i,i,i+Km (s.drop i)⟩,true)
 else if rM (Ks s i)=true then (⟨6,Ks s i,i,i+Km (s.drop i)⟩,true)
 else if Wr (Ks s i)=true then (⟨1,Ks s i,i,i+Km (s.drop i)⟩,true)
 else if 0<Km (s.drop i) then
  (if (Ks s i).all Wy=true then (⟨3,Ks s i,i,i+Km (s.drop i)⟩,Xp ((Km (s.drop i):Nat):Int) 18) else (⟨1,Ks s i,i,i+Km (s.drop i)⟩,false))
 else (⟨5,C8 s i,i,i+(C8 s i).length⟩,!(C8 s i==[]))
def Iv:Nat→List UInt8→Nat→List Tok→List Tok×Int×Int
 | 0,_,_,_=>([],0,2)
 | f+1,s,i,out =>
  if s.length≤i then (out++[⟨0,[],s.length,s.length⟩],0,0)
  else if (nD s i).2=false then ([],i,2)
  else Iv f s (dW s (nD s i).1.to.toNat) (out++[(nD s i).1])
def Lh (s:List UInt8):List Tok×Int×Int:=if 100000<s.length then ([],0,3) else Iv (s.length+1) s (dW s 0) []
structure Site where
 frm:Int
 to:Int
 miss:Bool
 deriving DecidableEq
instance encSite:Enc Site:=⟨fun a=>.agg [.int .i64 a.frm,.int .i64 a.to,.bool a.miss],fun x=>match x with
 | .agg [a,b,c]=>⟨a.i,b.i,c.b⟩
 | _=>⟨0,0,false⟩,fun a=>rfl⟩
instance szSite:Sz Site:=⟨3⟩
theorem qO:Sz.sz Site=3:=rfl
theorem G5 {n:Site}:(enc n:D)=.agg [.int .i64 n.frm,.int .i64 n.to,.bool n.miss]:=rfl
structure St4 where
 at_:Int
 site:Int
 sites:List Site
 e:Int
 deriving DecidableEq
instance encSt4:Enc St4:=⟨fun a=>.agg [.int .i64 a.at_,.int .i64 a.site,.list 3 (a.sites.map enc),.int .i64 a.e],fun x=>match x with
 | .agg [a,b,c,d]=>⟨a.i,b.i,c.l.map dec,d.i⟩
 | _=>⟨0,0,[],0⟩,fun a=>by
  have h:∀ l:List Site,(l.map (enc:Site→D)).map dec=l:=fun l=>Jx;cases a;simp [D.l,D.i,h]⟩
theorem A3 {n:St4}:(enc n:D)=.agg [.int .i64 n.at_,.int .i64 n.site,.list 3 (n.sites.map enc),.int .i64 n.e]:=rfl
theorem W3 {a b d:Int} {c:List Site}:(dec (.agg [.int .i64 a,.int .i64 b,.list 3 (c.map enc),.int .i64 d]):St4)=⟨a,b,c,d⟩:=Enc.dec_enc (St4.mk a b c d)
theorem Wx {a b d:Int} {c:List Site}:Ul St4 (.agg [.int .i64 a,.int .i64 b,.list 3 (c.map enc),.int .i64 d])=True:=eq_true (Wc (St4.mk a b c d))
theorem Al {n:St4}:St4.mk n.at_ n.site n.sites n.e=n:=rfl
def tk (l:List Tok) (i:Int):Tok:=l.getD i.toNat Us
def Da (l:List Tok) (i:Int) (x:List UInt8):Bool:=Wd i l.length&&((tk l i).kind==5&&(tk l i).text==x)
def Ur (s:St4) (i e:Int):St4:=⟨i,s.site,s.sites,e⟩
def kE (t:Tok):Int:=if t.kind≠6 then -1 else if t.text=[105,110,116] then 1 else if t.text=[98,111,111,108] then 2 else if t.text=[115,116,114,105,110,103] then 3 else if t.text=[117,110,105,116] then 4 else -1
def Yv (s:St4):St4:=⟨s.at_+1,s.site,s.sites,s.e⟩
def Vu (l:List Tok) (s:St4) (x:List UInt8):St4:=if s.e≠0 then s else if Da l s.at_ x=false then Ur s s.at_ 2 else Yv s
def Vm (labels:List (List UInt8)) (done:List UInt8):Nat→Int
 | 0=>-1
 | k+1=>cond (Op.bytesLess done (labels.getD k [])&&(Wd (Vm labels done k) 0||Op.bytesLess (labels.getD k []) (labels.getD (Vm labels done k).toNat []))) (k:Int) (Vm labels done k)
def nZ (labels:List (List UInt8)) (types:List (List Node)):Nat→List UInt8→List Node→List Node×Int
 | 0,_,out=>(out,0)
 | k+1,done,out =>
  if Vm labels done types.length<0 then ([],7)
  else nZ labels types k (labels.getD (Vm labels done types.length).toNat []) (out++named (labels.getD (Vm labels done types.length).toNat []) (types.getD (Vm labels done types.length).toNat []))
def Ub (kind:Int) (s:List UInt8):Bool:=if kind=7 then Mm s else Wr s
def jK (kind:Int) (labels:List (List UInt8)) (types:List (List Node)):List Node×Int :=
 if ((kind≠6∧kind≠7)∨labels.length≠types.length)∨(50<types.length∨kind=7∧types.length=0) then ([],1)
 else if ((List.range types.length).all fun k=>Ub kind (labels.getD k []))=false then ([],1)
 else nZ labels types types.length [] [⟨kind,[],types.length⟩]
def Zck (kind:Int):Int:=if kind=7 then 2 else 1
def uJ (l:List Tok) (kind:Int) (s:St4):Bool:=Xp l.length s.at_||(!((tk l s.at_).kind==Zck kind)||((Zck kind==1&&!Wr (tk l s.at_).text)||(Zck kind==2&&!Mm (tk l s.at_).text)))
section
variable (w:List Tok→St4→List Node×St4)
def Cv (l:List Tok) (kind:Int) (between fin:List UInt8):Nat→St4→List (List UInt8)→List (List Node)→List Node×St4
 | 0,s,_,_=>([],s)
 | f+1,s,labels,types =>
  if uJ l kind s=true then ([],Ur s s.at_ 2)
  else if (labels.any fun x=>x==(tk l s.at_).text)=true then ([],Ur s s.at_ 7)
  else if labels.length=50 then ([],Ur s s.at_ 3)
  else if (w l (Vu l (Yv s) [58])).2.e≠0 then ([],(w l (Vu l (Yv s) [58])).2)
  else if Da l (w l (Vu l (Yv s) [58])).2.at_ between=false then ((jK kind (labels++[(tk l s.at_).text]) (types++[(w l (Vu l (Yv s) [58])).1])).1,Vu l (w l (Vu l (Yv s) [58])).2 fin)
  else Cv l kind between fin f (Yv (w l (Vu l (Yv s) [58])).2) (labels++[(tk l s.at_).text]) (types++[(w l (Vu l (Yv s) [58])).1])
def tQ (l:List Tok) (s:St4) (kind:Int) (between fin:List UInt8):List Node×St4:=Cv w l kind between fin 51 s [] []
def La (d:Nat) (l:List Tok) (s:St4):List Node×St4 :=
 if s.e≠0 then ([],s)
 else if (l.length:Int)≤s.at_ then ([],Ur s l.length 2)
 else if Da l s.at_ [63]=true then ([⟨0,[],s.site⟩],⟨s.at_+1,s.site+1,s.sites++[⟨(tk l s.at_).frm,(tk l s.at_).to,false⟩],0⟩)
 else if 0≤kE (tk l s.at_) then ([⟨kE (tk l s.at_),[],0⟩],Yv s)
 else if Da l s.at_ [40]=false∧Da l s.at_ [123]=false∧Da l s.at_ [91]=false then ([],Ur s s.at_ 2)
 else if d=0 then ([],Ur s s.at_ 4)
 else if (tk l s.at_).text=[123]∧Da l (s.at_+1) [125]=true then ([⟨6,[],0⟩],Yv (Yv s))
 else if (tk l s.at_).text=[123] then tQ w l (Yv s) 6 [44] [125]
 else if (tk l s.at_).text=[91] then tQ w l (Yv s) 7 [124] [93]
 else ((w l (Yv s)).1,Vu l (w l (Yv s)).2 [41])
end
def Xo:Nat→List Tok→St4→List Node×St4
 | 0,_,s=>([],s)
 | d+1,l,s =>
  if (La (Xo d) d l s).2.e≠0∨Da l (La (Xo d) d l s).2.at_ [45,62]=false then La (Xo d) d l s
  else if d=0 then ([],Ur (La (Xo d) d l s).2 (La (Xo d) d l s).2.at_ 4)
  else (I8 (La (Xo d) d l s).1 (Xo d l (Yv (La (Xo d) d l s).2)).1,(Xo d l (Yv (La (Xo d) d l s).2)).2)
def Vz (l:List Tok) (i site level:Int):List Node×Int×List Site×Int×Int :=
 if i<0∨site<1∨level<1 then ([],0,[],0,1)
 else
  let at_:=if (l.length:Int)<i then (l.length:Int) else i
  let r:=Xo (101-level).toNat l ⟨at_,site,[],0⟩
  if r.2.e≠0 then ([],0,[],r.2.at_,r.2.e)
  else if 10000<r.1.length then ([],0,[],at_,3)
  else if Wg r.1=false then ([],0,[],at_,4)
  else (r.1,r.2.at_,r.2.sites,0,0)
theorem Qj1 {x y:List UInt8}:Op.bytesLess x y=true↔x<y:=by rw [bytesLess_eq,decide_eq_true_eq]
theorem Oq {a b c:List UInt8} (h1:Op.bytesLess a b=true) (h2:Op.bytesLess b c=true):Op.bytesLess a c=true:=by
 rw [Qj1] at *;exact List.lt_trans h1 h2
theorem Fy (a:List UInt8):Op.bytesLess a a=false:=by
 rw [bytesLess_eq,decide_eq_false_iff_not];exact List.lt_irrefl a
theorem rE {a b:List UInt8} (h1:a≠b) (h2:Op.bytesLess b a=false):Op.bytesLess a b=true:=by
 have h:=less_not a b;rw [h2] at h;cases hb:Op.bytesLess a b with
 | true=>rfl
 | false=>rw [hb,Za.2 h1] at h;cases h
theorem Qjy {s:List UInt8} (h:s≠[]):Op.bytesLess [] s=true:=rE (Ne.symm h) (Zkh s)
def Zw1 (labels:List (List UInt8)) (done:List UInt8) (f:Nat→Nat):Nat→Nat
 | 0=>0
 | k+1=>Zw1 labels done f k+cond (Op.bytesLess done (labels.getD k [])) (f k) 0
theorem Rz (labels:List (List UInt8)) (done:List UInt8):∀ k,(Vm labels done k=-1∧∀ j,j<k→Op.bytesLess done (labels.getD j [])=false) ∨
  ∃ b,b<k∧Vm labels done k=(b:Int)∧Op.bytesLess done (labels.getD b [])=true∧∀ j,j<k→Op.bytesLess done (labels.getD j [])=true→Op.bytesLess (labels.getD j []) (labels.getD b [])=false
 | 0=>.inl ⟨rfl,by omega⟩
 | k+1=>by
  rw [Vm];cases hd:Op.bytesLess done (labels.getD k []) with
  | false =>
   rw [Bool.false_and,cond_false];rcases Rz labels done k with ⟨h1,h2⟩|⟨b,h1,h2,h3,h4⟩
   ·exact .inl ⟨h1,Vd h2 hd⟩
   ·refine .inr ⟨b,by omega,h2,h3,fun j hj hq=>?_⟩
    rcases Nat.lt_or_ge j k with h|h
    ·exact h4 j h hq
    ·have:j=k:=by omega
     subst this;rw [hd] at hq;cases hq
  | true =>
   rw [Bool.true_and];rcases Rz labels done k with ⟨h1,h2⟩|⟨b,h1,h2,h3,h4⟩
   ·rw [h1];refine .inr ⟨k,by omega,rfl,hd,fun j hj hq=>?_⟩
    rcases Nat.lt_or_ge j k with h|h
    ·rw [h2 j h] at hq;cases hq
    ·have:j=k:=by omega
     subst this;exact Fy _
   ·rw [h2,Zl];have Qi2:Wd (b:Int) 0=false:=by rw [Q7];omega
    rw [Qi2,Bool.false_or];cases hl:Op.bytesLess (labels.getD k []) (labels.getD b []) with
    | false =>
     refine .inr ⟨b,by omega,rfl,h3,fun j hj hq=>?_⟩
     rcases Nat.lt_or_ge j k with h|h
     ·exact h4 j h hq
     ·have:j=k:=by omega
      subst this;exact hl
    | true =>
     refine .inr ⟨k,by omega,rfl,hd,fun j hj hq=>?_⟩
     rcases Nat.lt_or_ge j k with h|h
     ·cases hz:Op.bytesLess (labels.getD j []) (labels.getD k []) with
      | false=>rfl
      | true =>
       have:=Oq hz hl;rw [h4 j h hq] at this;cases this
     ·have:j=k:=by omega
      subst this;exact Fy _
def Zau (labels:List (List UInt8)) (n:Nat):Prop:=∀ i j,i<n→j<n→labels.getD i []=labels.getD j []→i=j
theorem wK {labels:List (List UInt8)} {done:List UInt8} {b:Nat} (h3:Op.bytesLess done (labels.getD b [])=true) (f:Nat→Nat):∀ k,Zau labels (max k (b+1))→(∀ j,j<k→Op.bytesLess done (labels.getD j [])=true→Op.bytesLess (labels.getD j []) (labels.getD b [])=false) →
  Zw1 labels done f k=Zw1 labels (labels.getD b []) f k+(if b<k then f b else 0)
 | 0,_,_=>rfl
 | k+1,hA,h4=>by
  have ih:=wK h3 f k (fun i j hi hj=>hA i j (by omega) (by omega)) fun j hj=>h4 j (by omega)
  rw [Zw1,Zw1,ih];by_cases Qiv:k=b
  ·subst Qiv;rw [h3,Fy,if_neg (by omega),if_pos (by omega)]
   simp
  ·have e:Op.bytesLess done (labels.getD k [])=Op.bytesLess (labels.getD b []) (labels.getD k []):=by
    cases hd:Op.bytesLess done (labels.getD k []) with
    | true =>
     have h5:=h4 k (by omega) hd
     symm;refine rE (fun e=>?_) h5;have:=hA b k (by omega) (by omega) e
     omega
    | false =>
     cases hz:Op.bytesLess (labels.getD b []) (labels.getD k []) with
     | false=>rfl
     | true=>rw [Oq h3 hz] at hd;cases hd
   rw [e];by_cases hb:b<k
   ·rw [if_pos hb,if_pos (by omega)];omega
   ·rw [if_neg hb,if_neg (by omega)];omega
theorem Zfg {labels:List (List UInt8)} (f:Nat→Nat):∀ k,(∀ j,j<k→labels.getD j []≠[])→Zw1 labels [] f k=((List.range k).map f).sum
 | 0,_=>rfl
 | k+1,h=>by
  rw [Zw1,Zfg f k fun j hj=>h j (by omega),Qjy (h k (by omega)),List.range_succ,List.map_append,List.sum_append]
  simp
def J0 (g:Node→Nat) (t:List Node):Nat:=(t.map g).sum
def sH (g:Node→Nat):Prop:=∀ n s,g ⟨n.kind,s,n.n⟩=g n
theorem Zf7 (g:Node→Nat) (a b:List Node):J0 g (a++b)=J0 g a+J0 g b:=by unfold J0;rw [List.map_append,List.sum_append]
theorem Zju {g:Node→Nat} (hg:sH g) (s:List UInt8) (t:List Node):J0 g (named s t)=J0 g t:=by
 cases t with
 | nil=>rfl
 | cons n t=>unfold J0 named;rw [List.map_cons,List.map_cons,hg]
theorem Zi7 {labels:List (List UInt8)} {types:List (List Node)} {n:Nat} (hn:types.length=n) (hA:Zau labels n) {g:Node→Nat} (hg:sH g):∀ (k:Nat) (done:List UInt8) (out:List Node),Zw1 labels done (fun _=>1) n=k →
  (nZ labels types k done out).2=0∧J0 g (nZ labels types k done out).1=J0 g out+Zw1 labels done (fun j=>J0 g (types.getD j [])) n∧(out≠[]→(nZ labels types k done out).1≠[])
 | 0,done,out,hk=>by
  refine ⟨rfl,?_,fun h=>h⟩;have:∀ (f:Nat→Nat) m,Zw1 labels done (fun _=>1) m=0→Zw1 labels done f m=0:=by
   intro f m
   induction m with
   | zero=>intro _;rfl
   | succ m ih =>
    intro h;rw [Zw1] at h ⊢;cases hb:Op.bytesLess done (labels.getD m []) with
    | true=>rw [hb,cond_true] at h;omega
    | false=>rw [cond_false,ih (by omega)]
  show J0 g out=_;rw [this _ n hk];rfl
 | k+1,done,out,hk=>by
  rw [nZ,hn];rcases Rz labels done n with ⟨h1,h2⟩|⟨b,h1,h2,h3,h4⟩
  ·exfalso;have:∀ m,m≤n→Zw1 labels done (fun _=>1) m=0:=by
    intro m
    induction m with
    | zero=>intro _;rfl
    | succ m ih=>intro hm;rw [Zw1,ih (by omega),h2 m (by omega)];rfl
   rw [this n (Zr _)] at hk;omega
  ·have hA':Zau labels (max n (b+1)):=fun i j hi hj=>hA i j (by omega) (by omega)
   have p1:=wK h3 (fun _=>1) n hA' h4;have p2:=wK h3 (fun j=>J0 g (types.getD j [])) n hA' h4;rw [if_pos h1] at p1 p2;rw [h2,Zl,if_neg (by omega)]
   obtain ⟨r1,r2,r3⟩:=Zi7 hn hA hg k (labels.getD b []) (out++named (labels.getD b []) (types.getD b [])) (by omega)
   refine ⟨r1,?_,fun ho=>r3 (by simp [ho])⟩
   rw [r2,Zf7,Zju hg];omega
theorem Zdq {s:List UInt8} (h:Wr s=true):s≠[]:=by rintro rfl;cases h
theorem Zkq {s:List UInt8} (h:Mm s=true):s≠[]:=by rintro rfl;cases h
theorem Qci {f:List Node→Nat}:∀ (types:List (List Node)),((List.range types.length).map fun j=>f (types.getD j [])).sum=(types.map f).sum:=by
 intro types
 congr 1
 refine List.ext_getElem (by simp) fun j h1 h2=>?_
 simp at h1 h2;simp [h1]
theorem Qgf {kind:Int} {labels:List (List UInt8)} {types:List (List Node)} (hk:kind=6∨kind=7) (hl:labels.length=types.length) (Qfr:types.length≤50) (h1:1≤types.length) (hA:Zau labels types.length)
  (hv:∀ j,j<types.length→Ub kind (labels.getD j [])=true) {g:Node→Nat} (hg:sH g) :
  (jK kind labels types).2=0∧J0 g (jK kind labels types).1=g ⟨kind,[],types.length⟩+(types.map (J0 g)).sum∧(jK kind labels types).1≠[]:=by
 unfold jK;rw [if_neg (by omega),if_neg (by rw [U4 hv];simp)]
 have Tz:∀ j,j<types.length→labels.getD j []≠[]:=fun j hj=>by
  have:=hv j hj;unfold Ub at this;split at this
  ·exact Zkq this
  ·exact Zdq this
 have hw:Zw1 labels [] (fun _=>1) types.length=types.length:=by
  rw [Zfg _ _ Tz];have:∀ n:Nat,((List.range n).map fun _=>1).sum=n:=by
   intro n
   induction n with
   | zero=>rfl
   | succ n ih=>rw [List.range_succ,List.map_append,List.sum_append,ih];rfl
  exact this _
 obtain ⟨r1,r2,r3⟩:=Zi7 rfl hA hg types.length [] [⟨kind,[],types.length⟩] hw;refine ⟨r1,?_,r3 (by simp)⟩
 rw [r2,Zfg _ _ Tz,Qci (f:=J0 g)];rfl
def Ys (z:Int) (n:Node):Nat:=if n.kind=0∧n.n=z then 1 else 0
theorem Zxu (z:Int):sH (Ys z):=fun _ _=>rfl
theorem xL:sH fun _=>1:=fun _ _=>rfl
theorem Zc6 (t:List Node):J0 (fun _=>1) t=t.length:=by
 unfold J0
 induction t with
 | nil=>rfl
 | cons n t ih=>rw [List.map_cons,List.sum_cons,ih,Zi];omega
structure Eats (l:List Tok) (s:St4) (r:List Node×St4):Prop where
 lo:0≤r.2.at_
 hi:r.2.at_≤l.length
 err:s.e≠0→r.2.e≠0
 len:(r.1.length:Int)≤l.length-s.at_
 ok:r.2.e=0→(r.1.length:Int)≤r.2.at_-s.at_∧r.2.at_≤l.length∧r.1≠[]
 sites:r.2.e=0→s.sites.length≤r.2.sites.length∧(r.2.sites.length:Int)≤s.sites.length+(r.2.at_-s.at_)∧r.2.site=s.site+(r.2.sites.length-s.sites.length)
 cnt:r.2.e=0→∀ z,J0 (Ys z) r.1=if s.site≤z∧z<r.2.site then 1 else 0
theorem Eats.bad {l:List Tok} {s:St4} {i e:Int} (h1:s.at_≤l.length) (h2:0≤i) (h3:e≠0) {q:St4} (hq:q.at_=i) (wQ:q.e=e) (h4:i≤l.length:=by omega):Eats l s ([],q) :=
 ⟨by rw [hq];exact h2,by rw [hq];exact h4,fun _=>by rw [wQ];exact h3,by show (0:Int)≤_;omega,fun h=>absurd h (by rw [wQ];exact h3),fun h=>absurd h (by rw [wQ];exact h3),fun h=>absurd h (by rw [wQ];exact h3)⟩
theorem F9 {l:List Tok} {i:Int} {x:List UInt8} (h:Da l i x=true):i<l.length:=by
 unfold Da at h;rw [Zg,Jj] at h;exact h.1
theorem Ma (l:List Tok) (s:St4) (x:List UInt8):(s.e≠0∧Vu l s x=s)∨(s.e=0∧Vu l s x=Ur s s.at_ 2)∨(s.e=0∧Da l s.at_ x=true∧Vu l s x=Yv s):=by
 unfold Vu;by_cases h:s.e=0
 ·rw [if_neg (by simpa using h)]
  cases hi:Da l s.at_ x with
  | false=>exact .inr (.inl ⟨h,if_pos rfl⟩)
  | true=>exact .inr (.inr ⟨h,rfl,if_neg (by simp)⟩)
 ·exact .inl ⟨h,if_pos h⟩
structure Had4 (l:List Tok) (kind:Int) (a s:St4) (labels:List (List UInt8)) (types:List (List Node)):Prop where
 e:s.e=0
 hi:s.at_≤l.length
 lo:0≤a.at_
 len:1+((types.map List.length).sum:Int)≤s.at_-a.at_
 s1:a.sites.length≤s.sites.length
 s2:(s.sites.length:Int)≤a.sites.length+(s.at_-a.at_)
 s3:s.site=a.site+(s.sites.length-a.sites.length)
 cnt:∀ z,(types.map (J0 (Ys z))).sum=if a.site≤z∧z<s.site then 1 else 0
 ll:labels.length=types.length
 apart:Zau labels labels.length
 ok:∀ j,j<labels.length→Ub kind (labels.getD j [])=true
theorem Qjj (types:List (List Node)):(types.map (J0 fun _=>1)).sum=(types.map List.length).sum:=by
 congr 1
 exact List.map_congr_left fun t _=>Zc6 t
theorem fA {a b c z:Int} (h1:a≤b) (h2:b≤c):((if a≤z∧z<b then 1 else 0)+(if b≤z∧z<c then 1 else 0):Nat)=if a≤z∧z<c then 1 else 0:=by
 by_cases h3:a≤z∧z<b
 ·rw [if_pos h3,if_neg (by omega),if_pos (by omega)]
 ·rw [if_neg h3];by_cases h4:b≤z∧z<c
  ·rw [if_pos h4,if_pos (by omega)]
  ·rw [if_neg h4,if_neg (by omega)]
theorem Zzb {labels:List (List UInt8)} {x:List UInt8} (h:Zau labels labels.length) (hx:(labels.any fun y=>y==x)=false):Zau (labels++[x]) (labels++[x]).length:=by
 rw [List.any_eq_false] at hx;have Jl:∀ i,i<labels.length→labels.getD i []≠x:=fun i hi e=>by
  have:=hx (labels.getD i []) (by simp [hi])
  rw [e,beq_self_eq_true] at this;exact this rfl
 have g1:∀ i,i<labels.length→(labels++[x]).getD i []=labels.getD i []:=fun i hi=>by simp [Zd,List.getElem?_append_left hi]
 have g2:(labels++[x]).getD labels.length []=x:=by simp
 intro i j hi hj fO;rw [Ze,List.length_singleton] at hi hj;rcases Nat.lt_or_ge i labels.length with h1|h1
 ·rcases Nat.lt_or_ge j labels.length with h2|h2
  ·rw [g1 i h1,g1 j h2] at fO;exact h i j h1 h2 fO
  ·have:j=labels.length:=by omega
   subst this;rw [g1 i h1,g2] at fO;exact absurd fO (Jl i h1)
 ·have e1:i=labels.length:=by omega
  subst e1;rcases Nat.lt_or_ge j labels.length with h2|h2
  ·rw [g1 j h2,g2] at fO;exact absurd fO.symm (Jl j h2)
  ·omega
theorem Qht {l:List Tok} {kind:Int} (hk:kind=6∨kind=7) {s:St4} (h:uJ l kind s=false):s.at_<l.length∧Ub kind (tk l s.at_).text=true:=by
 unfold uJ at h;have h1:Xp l.length s.at_=false:=by
  cases hb:Xp l.length s.at_ with
  | false=>rfl
  | true=>rw [hb,Bool.true_or] at h;cases h
 rw [h1,Bool.false_or,Bool.or_eq_false_iff,Bool.or_eq_false_iff] at h;refine ⟨by rw [←Bool.not_eq_true,Q9] at h1;omega,?_⟩
 unfold Ub Zck at *;rcases hk with rfl|rfl
 ·rw [if_neg (by decide)] at h ⊢
  have:=h.2.1;simpa using this
 ·rw [if_pos rfl] at h ⊢;have:=h.2.2;simpa using this
section
variable {w:List Tok→St4→List Node×St4} {l:List Tok}
theorem sQ (hw:∀ s:St4,0≤s.at_→s.at_≤l.length→Eats l s (w l s)) {kind:Int} (hk:kind=6∨kind=7) {between fin:List UInt8} {a:St4} (ha:a.e=0):∀ (f:Nat) (s:St4) (labels:List (List UInt8)) (types:List (List Node)),
  Had4 l kind a s labels types→labels.length≤50→f+labels.length=51→Eats l a (Cv w l kind between fin f s labels types)
 | 0,s,labels,types,h,h51,hf=>by omega
 | f+1,s,labels,types,h,h51,hf=>by
  have mN:=h.lo;have Ob:=h.hi;have Jaq:=h.len;have mF:a.at_≤l.length:=by omega
  have h0:0≤s.at_:=by omega
  rw [Cv];cases hb:uJ l kind s with
  | true=>rw [if_pos rfl];exact Eats.bad (e:=2) mF h0 (by decide) rfl rfl
  | false =>
  rw [if_neg (by simp)]
  obtain ⟨Zv,Zb9⟩:=Qht hk hb;cases Za2:labels.any fun x=>x==(tk l s.at_).text with
  | true=>rw [if_pos rfl];exact Eats.bad (e:=7) mF h0 (by decide) rfl rfl
  | false =>
  rw [if_neg (by simp)]
  by_cases Qfr:labels.length=50
  ·rw [if_pos Qfr];exact Eats.bad (e:=3) mF h0 (by decide) rfl rfl
  rw [if_neg Qfr];have hA:(Yv s).at_=s.at_+1:=rfl;have Jab:(Yv s).e=0:=h.e;have Jcu:(Yv s).sites=s.sites:=rfl;have Qlk:(Yv s).site=s.site:=rfl;obtain ⟨N,hN⟩:=exq (Vu l (Yv s) [58]);have hc:=Ma l (Yv s) [58];rw [hN] at hc ⊢;have Qt1:0≤N.at_∧N.at_≤l.length:=by
   rcases hc with ⟨h1,_⟩|⟨_,h2⟩|⟨_,h2,h3⟩
   ·exact absurd Jab h1
   ·rw [h2];exact ⟨by show 0≤(Yv s).at_;omega,by show (Yv s).at_≤_;omega⟩
   ·have:=F9 h2;rw [h3];exact ⟨by show 0≤(Yv s).at_+1;omega,by show (Yv s).at_+1≤_;omega⟩
  have hE:=hw N Qt1.1 Qt1.2;obtain ⟨r,hr⟩:=exq (w l N);rw [hr] at hE ⊢;by_cases jE:r.2.e=0
  case neg=>rw [if_pos jE];exact Eats.bad mF hE.lo jE rfl rfl hE.hi
  rw [if_neg (by simpa using jE)]
  have Qzv:N.e=0:=Classical.byContradiction fun e=>hE.err e jE;have Qxd:Da l (Yv s).at_ [58]=true∧N=Yv (Yv s):=by
   rcases hc with ⟨h1,_⟩|⟨_,h2⟩|⟨_,h2,h3⟩
   ·exact absurd Jab h1
   ·rw [h2] at Qzv;exact absurd Qzv (by show (2:Int)≠0;decide)
   ·exact ⟨h2,h3⟩
  have e1:N.at_=s.at_+2:=by rw [Qxd.2];show s.at_+1+1=_;omega
  have e2:N.sites=s.sites:=by rw [Qxd.2];rfl
  have e3:N.site=s.site:=by rw [Qxd.2];rfl
  obtain ⟨k1,k2,k3⟩:=hE.ok jE;obtain ⟨g1,g2,g3⟩:=hE.sites jE;have g4:=hE.cnt jE;rw [e1] at k1;rw [e2] at g1 g2 g3;rw [e1] at g2;rw [e3] at g3 g4;have m1:=h.s1;have m2:=h.s2;have m3:=h.s3;have Qil:((types++[r.1]).map List.length).sum=(types.map List.length).sum+r.1.length:=by simp
  have hH:Had4 l kind a r.2 (labels++[(tk l s.at_).text]) (types++[r.1]):=by
   refine ⟨jE,k2,mN,?_,by omega,by omega,by omega,fun z=>?_,by simp [h.ll],Zzb h.apart Za2,fun j hj=>?_⟩
   ·rw [Qil];omega
   ·rw [List.map_append,List.sum_append,h.cnt,List.map_singleton,List.sum_singleton,g4];exact fA (by omega) (by omega)
   ·rw [Ze,List.length_singleton] at hj;rcases Nat.lt_or_ge j labels.length with h1|h1
    ·have:(labels++[(tk l s.at_).text]).getD j []=labels.getD j []:=by simp [Zd,List.getElem?_append_left h1]
     rw [this];exact h.ok j h1
    ·have:j=labels.length:=by omega
     subst this;have:(labels++[(tk l s.at_).text]).getD labels.length []=(tk l s.at_).text:=by simp
     rw [this];exact Zb9
  have Is:(labels++[(tk l s.at_).text]).length=(types++[r.1]).length:=hH.ll;have Qmm:(labels++[(tk l s.at_).text]).length=labels.length+1:=by simp
  cases Qo0:Da l r.2.at_ between with
  | false =>
   rw [if_pos rfl];have hR:=fun {g:Node→Nat} (hg:sH g)=>Qgf (labels:=labels++[(tk l s.at_).text]) (types:=types++[r.1]) hk Is (by omega) (by omega) (by rw [←Is];exact hH.apart) (by rw [←Is];exact hH.ok) hg
   have Zhq:=(hR xL).2.1;rw [Zc6,Qjj,Qil] at Zhq;obtain ⟨row,mG⟩:=exq (jK kind (labels++[(tk l s.at_).text]) (types++[r.1]));rw [mG] at Zhq ⊢;have hz:=fun z=>(hR (Zxu z)).2.1;rw [mG] at hz;have Tz:=(hR xL).2.2;rw [mG] at Tz;have Jbl:∀ z,Ys z ⟨kind,[],(types++[r.1]).length⟩=0:=by
    intro z;unfold Ys;rw [if_neg (by intro hh;simp only at hh;omega)]
   have Qfb:=fun z=>hH.cnt z;rcases Ma l r.2 fin with ⟨q1,q2⟩|⟨q1,q2⟩|⟨q1,q2,q3⟩
   ·exact absurd jE q1
   ·rw [q2];refine ⟨hE.lo,hE.hi,fun _=>by show (2:Int)≠0;decide,by show (row.1.length:Int)≤_;omega,fun h=>absurd h (by show (2:Int)≠0;decide),fun h=>absurd h (by show (2:Int)≠0;decide),fun h=>absurd h (by show (2:Int)≠0;decide)⟩
   ·have q4:=F9 q2;rw [q3];refine ⟨by show 0≤r.2.at_+1;have:=hE.lo;omega,by show r.2.at_+1≤_;omega,fun h=>absurd ha h,by show (row.1.length:Int)≤_;omega,fun _=>⟨by show (row.1.length:Int)≤r.2.at_+1-a.at_;omega,by show r.2.at_+1≤_;omega,Tz⟩,fun _=>⟨hH.s1,by show (r.2.sites.length:Int)≤_+(r.2.at_+1-a.at_);have:=hH.s2;omega,hH.s3⟩,fun _ z=>?_⟩
    show J0 (Ys z) row.1=_;rw [hz z,Jbl,Nat.zero_add];exact Qfb z
  | true =>
   rw [if_neg (by simp)]
   have q4:=F9 Qo0;refine sQ hw hk ha f (Yv r.2) _ _ ?_ (by rw [Qmm];omega) (by rw [Qmm];omega)
   exact ⟨jE,by show r.2.at_+1≤_;omega,mN,by show _≤r.2.at_+1-a.at_;have:=hH.len;omega,hH.s1,by show (r.2.sites.length:Int)≤_+(r.2.at_+1-a.at_);have:=hH.s2;omega,hH.s3,hH.cnt,hH.ll,hH.apart,hH.ok⟩
theorem Zed {d:Nat} (hw:d≠0→∀ s:St4,0≤s.at_→s.at_≤l.length→Eats l s (w l s)) {s:St4} (h0:0≤s.at_) (hL:s.at_≤l.length):Eats l s (La w d l s):=by
 unfold La;by_cases he:s.e=0
 case neg=>rw [if_pos he];exact Eats.bad hL h0 he rfl rfl
 rw [if_neg (by simpa using he)]
 by_cases Zv:(l.length:Int)≤s.at_
 ·rw [if_pos Zv];exact Eats.bad (e:=2) hL (show (0:Int)≤l.length by omega) (by decide) rfl rfl (Int.le_refl _)
 rw [if_neg Zv];have hz:∀ (k:Int) z,k≠0→J0 (Ys z) [⟨k,[],0⟩]=0:=by
  intro k z hk;unfold J0 Ys;simp [hk]
 cases h1:Da l s.at_ [63] with
 | true =>
  rw [if_pos rfl];refine ⟨by show 0≤s.at_+1;omega,by show s.at_+1≤(l.length:Int);omega,fun h=>absurd he h,by show (1:Int)≤_;omega,fun _=>⟨by show (1:Int)≤s.at_+1-s.at_;omega,by show s.at_+1≤_;omega,by simp⟩,fun _=>⟨by show _≤(s.sites++_).length;simp,by show ((s.sites++_).length:Int)≤_+(s.at_+1-s.at_);simp;omega,by show s.site+1=s.site+(((s.sites++_).length:Int)-_);simp;omega⟩,fun _ z=>?_⟩
  show J0 (Ys z) [⟨0,[],s.site⟩]=if s.site≤z∧z<s.site+1 then 1 else 0
  unfold J0 Ys;simp only [List.map_cons,List.map_nil,List.sum_cons,List.sum_nil,true_and,Nat.add_zero];by_cases hq:s.site=z
  ·rw [if_pos hq,if_pos (by omega)]
  ·rw [if_neg hq,if_neg (by omega)]
 | false =>
 rw [if_neg (by simp)]
 have Zhq:∀ (k n:Int) (q:St4),k≠0→q.e=0→s.at_<q.at_→q.at_≤l.length→q.sites=s.sites→q.site=s.site→Eats l s ([⟨k,[],n⟩],q):=by
  intro k n q hk Qv8 wQ Qy6 Qv7 Jau;refine ⟨by show 0≤q.at_;omega,Qy6,fun h=>absurd he h,by show (1:Int)≤_;omega,fun _=>⟨by show (1:Int)≤q.at_-s.at_;omega,Qy6,by simp⟩,fun _=>⟨by show _≤q.sites.length;rw [Qv7];omega,by show (q.sites.length:Int)≤_+(q.at_-s.at_);rw [Qv7];omega,by show q.site=s.site+((q.sites.length:Int)-_);rw [Qv7,Jau];omega⟩,fun _ z=>?_⟩
  show J0 (Ys z) [⟨k,[],n⟩]=if s.site≤z∧z<q.site then 1 else 0
  rw [if_neg (by omega)]
  unfold J0 Ys;simp [hk]
 by_cases hb:0≤kE (tk l s.at_)
 ·rw [if_pos hb];refine Zhq _ _ _ ?_ he (by show s.at_<s.at_+1;omega) (by show s.at_+1≤_;omega) rfl rfl
  unfold kE at hb ⊢;repeat' split
  all_goals first|decide|(exfalso;simp_all;done)
 rw [if_neg hb];by_cases ho:Da l s.at_ [40]=false∧Da l s.at_ [123]=false∧Da l s.at_ [91]=false
 ·rw [if_pos ho];exact Eats.bad (e:=2) hL h0 (by decide) rfl rfl
 rw [if_neg ho];by_cases hd:d=0
 ·rw [if_pos hd];exact Eats.bad (e:=4) hL h0 (by decide) rfl rfl
 rw [if_neg hd];have hw':=hw hd;by_cases hr:(tk l s.at_).text=[123]∧Da l (s.at_+1) [125]=true
 ·rw [if_pos hr];have:=F9 hr.2;exact Zhq _ _ _ (by decide) he (by show s.at_<s.at_+1+1;omega) (by show s.at_+1+1≤_;omega) rfl rfl
 rw [if_neg hr];have hH:∀ kind,Had4 l kind s (Yv s) [] []:=fun kind=>⟨he,by show s.at_+1≤_;omega,h0,by show (1:Int)+0≤s.at_+1-s.at_;omega,Zr _,by show (s.sites.length:Int)≤_+(s.at_+1-s.at_);omega,by show s.site=s.site+((s.sites.length:Int)-_);omega,
  fun z=>by show 0=if s.site≤z∧z<s.site then 1 else 0;rw [if_neg (by omega)],rfl,fun i j hi=>absurd hi (by simp),fun j hj=>absurd hj (by simp)⟩
 by_cases Zz1:(tk l s.at_).text=[123]
 ·rw [if_pos Zz1];exact sQ hw' (.inl rfl) he 51 (Yv s) [] [] (hH 6) (by simp) rfl
 rw [if_neg Zz1];by_cases Jac:(tk l s.at_).text=[91]
 ·rw [if_pos Jac];exact sQ hw' (.inr rfl) he 51 (Yv s) [] [] (hH 7) (by simp) rfl
 rw [if_neg Jac];have hE:=hw' (Yv s) (by show 0≤s.at_+1;omega) (by show s.at_+1≤_;omega)
 obtain ⟨r,Quq⟩:=exq (w l (Yv s));rw [Quq] at hE ⊢;have e1:(Yv s).at_=s.at_+1:=rfl;have e2:(Yv s).sites=s.sites:=rfl;have e3:(Yv s).site=s.site:=rfl;have Q5:=hE.len;rw [e1] at Q5;rcases Ma l r.2 [41] with ⟨q1,q2⟩|⟨q1,q2⟩|⟨q1,q2,q3⟩
 ·rw [q2];exact ⟨hE.lo,hE.hi,fun h=>absurd he h,by show (r.1.length:Int)≤_;omega,fun h=>absurd h q1,fun h=>absurd h q1,fun h=>absurd h q1⟩
 ·rw [q2];exact ⟨hE.lo,hE.hi,fun h=>absurd he h,by show (r.1.length:Int)≤_;omega,fun h=>absurd h (by show (2:Int)≠0;decide),fun h=>absurd h (by show (2:Int)≠0;decide),fun h=>absurd h (by show (2:Int)≠0;decide)⟩
 ·rw [q3];have q4:=F9 q2;obtain ⟨k1,k2,k3⟩:=hE.ok q1;obtain ⟨g1,g2,g3⟩:=hE.sites q1;have g4:=hE.cnt q1;rw [e1] at k1 g2;rw [e2] at g1 g2 g3;rw [e3] at g3 g4;exact ⟨by show 0≤r.2.at_+1;have:=hE.lo;omega,by show r.2.at_+1≤(l.length:Int);omega,fun h=>absurd he h,by show (r.1.length:Int)≤_;omega,fun _=>⟨by show (r.1.length:Int)≤r.2.at_+1-s.at_;omega,by show r.2.at_+1≤_;omega,k3⟩,fun _=>⟨g1,by show (r.2.sites.length:Int)≤_+(r.2.at_+1-s.at_);omega,g3⟩,fun _=>g4⟩
end
theorem Qh6 (g:Node→Nat) (a b:List Node):J0 g (I8 a b)=g ⟨5,[],0⟩+J0 g a+J0 g b:=by
 unfold I8 J0;rw [List.map_cons,List.sum_cons,List.map_append,List.sum_append];omega
theorem Ny {l:List Tok}:∀ (d:Nat) (s:St4),d≠0→0≤s.at_→s.at_≤l.length→Eats l s (Xo d l s)
 | 0,s,h,_,_=>absurd rfl h
 | d+1,s,_,h0,hL=>by
  have hA:=Zed (w:=Xo d) (d:=d) (fun hd s' h1 h2=>Ny d s' hd h1 h2) h0 hL;rw [Xo];obtain ⟨r,hr⟩:=exq (La (Xo d) d l s);rw [hr] at hA ⊢;by_cases h1:r.2.e≠0∨Da l r.2.at_ [45,62]=false
  ·rw [if_pos h1];exact hA
  rw [if_neg h1];have jE:r.2.e=0:=Classical.byContradiction fun e=>h1 (.inl e);have Zhv:Da l r.2.at_ [45,62]=true:=by
   cases hb:Da l r.2.at_ [45,62] with
   | true=>rfl
   | false=>exact absurd (.inr hb) h1
  have Zv:=F9 Zhv;obtain ⟨k1,k2,k3⟩:=hA.ok jE;obtain ⟨g1,g2,g3⟩:=hA.sites jE;have g4:=hA.cnt jE;have Qpp:s.e=0:=Classical.byContradiction fun e=>hA.err e jE;have mN:=hA.lo;by_cases hd:d=0
  ·rw [if_pos hd];exact Eats.bad (e:=4) hL mN (by decide) rfl rfl hA.hi
  rw [if_neg hd];have hB:=Ny d (Yv r.2) hd (by show 0≤r.2.at_+1;omega) (by show r.2.at_+1≤(l.length:Int);omega)
  obtain ⟨q,hq⟩:=exq (Xo d l (Yv r.2));rw [hq] at hB ⊢;have Q5:=hB.len;have e1:(Yv r.2).at_=r.2.at_+1:=rfl;have e2:(Yv r.2).sites=r.2.sites:=rfl;have e3:(Yv r.2).site=r.2.site:=rfl;rw [e1] at Q5;have Qle:((I8 r.1 q.1).length:Int)=r.1.length+q.1.length+1:=by unfold I8;simp
  refine ⟨hB.lo,hB.hi,fun h=>absurd Qpp h,by show ((I8 r.1 q.1).length:Int)≤l.length-s.at_;omega,fun vC=>?_,fun vC=>?_,fun vC z=>?_⟩
  ·obtain ⟨j1,j2,j3⟩:=hB.ok vC;rw [e1] at j1;exact ⟨by show ((I8 r.1 q.1).length:Int)≤q.2.at_-s.at_;omega,j2,by unfold I8;simp⟩
  ·obtain ⟨j1,j2,j3⟩:=hB.sites vC;rw [e2] at j1 j2 j3;rw [e1] at j2;rw [e3] at j3;have j5:=(hB.ok vC).2.1;exact ⟨by show s.sites.length≤q.2.sites.length;omega,by show (q.2.sites.length:Int)≤s.sites.length+(q.2.at_-s.at_);omega,by show q.2.site=s.site+((q.2.sites.length:Int)-s.sites.length);omega⟩
  ·obtain ⟨j1,j2,j3⟩:=hB.sites vC;have j4:=hB.cnt vC;rw [e3] at j4 j3;rw [e2] at j1 j3;show J0 (Ys z) (I8 r.1 q.1)=_;rw [Qh6,g4,j4];have:Ys z ⟨5,[],0⟩=0:=by unfold Ys;rw [if_neg (fun h=>absurd h.1 (by decide))]
   rw [this,Nat.zero_add];exact fA (by omega) (by omega)
theorem Qgw {a b:UInt8}:Wd (a.toNat:Int) (b.toNat:Int)=decide (a<b):=by
 unfold Wd
 congr 1
 rw [UInt8.lt_iff_toNat_lt];exact propext (by omega)
theorem Qh4:D.int .u8 128=enc (128:UInt8):=rfl
theorem Qhz:D.int .u8 191=enc (191:UInt8):=rfl
theorem Qh0:D.int .u8 160=enc (160:UInt8):=rfl
theorem Qh1:D.int .u8 159=enc (159:UInt8):=rfl
theorem Qh2:D.int .u8 144=enc (144:UInt8):=rfl
theorem Qh3:D.int .u8 143=enc (143:UInt8):=rfl
theorem Qhy:D.int .u8 194=enc (194:UInt8):=rfl
theorem Qhx:D.int .u8 223=enc (223:UInt8):=rfl
theorem Qhw:D.int .u8 224=enc (224:UInt8):=rfl
theorem Qhv:D.int .u8 239=enc (239:UInt8):=rfl
theorem Qhu:D.int .u8 240=enc (240:UInt8):=rfl
theorem Qsf:D.int .u8 102=enc (102:UInt8):=rfl
theorem Zl8:D.int .u8 244=enc (244:UInt8):=rfl
def iL:Con:=Jy (fun (s:List UInt8) (i:Int)=>s.length≤1000000∧0≤i∧i<s.length) (fun s i=>(nP s i.toNat:Int))
class Keb:Prop
theorem Keb.k (_:Keb) (h:p:=by
 first|(rw [Xt];omega)|(symm;rw [←Zq];clear Zq Ql K;simp_all;done)|(rw [←Zq];clear Zq Ql K;simp_all;done)|skip):p:=h
class Kec:Prop
theorem Kec.k (_:Kec) (h:p:=by
 first|(rw [Xt];omega)|(symm;rw [←Zq];clear Zq Ql K;simp_all;done)|(rw [←Zq];clear Zq Ql K;simp_all;done)|skip):p:=h
class Ked:Prop
theorem Ked.k (_:Ked) (h:p:=by
 first|(rw [Xt];omega)|(symm;rw [←Zq];clear Zq Ql K;simp_all;done)|(rw [←Zq];clear Zq Ql K;simp_all;done)|skip):p:=h
class Kee:Prop
theorem Kee.k (_:Kee) (h:p:=by
 first|(rw [Xt];omega)|(symm;rw [←Zq];clear Zq Ql K;simp_all;done)|(rw [←Zq];clear Zq Ql K;simp_all;done)|skip):p:=h
class Kef:Prop
theorem Kef.k (_:Kef) (h:p:=by
 first|(rw [Xt];omega)|(symm;rw [←Zq];clear Zq Ql K;simp_all;done)|(rw [←Zq];clear Zq Ql K;simp_all;done)|skip):p:=h
theorem good_Long1:Qc Tryz.prog (218,iL):=by
 obtain ⟨Kx,Kt,Kc,Kd,Kb,Ku,Kw,K,X4,V2,_⟩:=J7 Zx Zo [] false (Q1 good_within wJ (Q1 Zye iW.eq_def J5));have Ko:=iL.eq_def;refine J9 K Tryz.func218 [.tmp 4] rfl 67 rfl (fun c hc Ji Zh=>?_);unfold iL at Zh;obtain ⟨s,i,rfl,hs,Znb,Zbb⟩:=Qf Zh;obtain ⟨i,rfl⟩:∃ n:Nat,i=n:=⟨i.toNat,by omega⟩
 have Qk:Wd (i:Int) (s.length:Int)=true:=by rw [Jj];exact Zbb
 clear Zh;obtain ⟨R,Ql⟩:=exq (nP s i);have Zq:=Ql;unfold nP Zxz at Zq;obtain ⟨c,Qo⟩:=exq (s.getD i 0);rw [Qo] at Zq;have Qi:Wd (c.toNat:Int) 128=decide (c<128):=Qgw (b:=128);have Qp:((c.toNat:Int)==224)=(c==224):=Nw (b:=224);have Qv:((c.toNat:Int)==237)=(c==237):=Nw (b:=237);have Q3:((c.toNat:Int)==240)=(c==240):=Nw (b:=240);have Jh:((c.toNat:Int)==244)=(c==244):=Nw (b:=244);have Jb:Wd (c.toNat:Int) ((128:UInt8).toNat:Int)=decide (c<128):=Qgw;have Z3:((c.toNat:Int)==((224:UInt8).toNat:Int))=(c==224):=Nw;have Z6:((c.toNat:Int)==((240:UInt8).toNat:Int))=(c==240):=Nw;by_cases Qlm:c<128
 ·rw [if_pos Qlm] at Zq;subst Zq;have Qn:decide (c<128)=true:=decide_eq_true Qlm;cases hc;refine W5 4 ?_;exact U3
 rw [if_neg Qlm] at Zq;have Qn:decide (c<128)=false:=decide_eq_false Qlm;obtain ⟨p2,Qm⟩:=exq (X8 c 194 223);obtain ⟨q2,Qg⟩:=exq (Se s ((i:Int)+1) 128 191);obtain ⟨p3,Qr⟩:=exq (X8 c 224 239);obtain ⟨r3,Qw⟩:=exq (Se s ((i:Int)+2) 128 191);obtain ⟨p4,Q4⟩:=exq (X8 c 240 244);obtain ⟨t4,Jf⟩:=exq (Se s ((i:Int)+3) 128 191);rw [Qm,Qg,Qr,Qw,Q4,Jf] at Zq;by_cases Zcf:c=224
 ·have Z7:(c==224)=true:=Zj.2 Zcf;have Qq:(c==237)=false:=Za.2 (by rw [Zcf];decide)
  have Qj:(c==240)=false:=Za.2 (by rw [Zcf];decide)
  have Qx:(c==244)=false:=Za.2 (by rw [Zcf];decide)
  rw [if_pos Zcf] at Zq;rw [if_neg (show ¬ c=237 by rw [Zcf];decide)] at Zq
  rw [if_neg (show ¬ c=240 by rw [Zcf];decide)] at Zq
  rw [if_neg (show ¬ c=244 by rw [Zcf];decide)] at Zq
  obtain ⟨q3,Jk⟩:=exq (Se s ((i:Int)+1) 160 191);rw [Jk] at Zq;try rw [Qg] at Zq
  cases hc;refine W5 4 ?_;have Xf:=@vR.eq_def;have Xe:=@Qh4;have Wm:=@Qhz;have Wz:=@Qh0;have Yj:=@Qh1;have Yr:=@Qh2;have Yq:=@Qh3;have Mf:=@Qhy;have Me:=@Qhx;have M6:=@Qhw;have M5:=@Qhv;have Mv:=@Qhu;have Mu:=@Zl8;have Kq:Keb:=⟨⟩;exact Xv
 by_cases Zce:c=237
 ·have Z7:(c==224)=false:=Za.2 (by rw [Zce];decide)
  have Qq:(c==237)=true:=Zj.2 Zce;have Qj:(c==240)=false:=Za.2 (by rw [Zce];decide)
  have Qx:(c==244)=false:=Za.2 (by rw [Zce];decide)
  rw [if_neg (show ¬ c=224 by rw [Zce];decide)] at Zq
  rw [if_pos Zce] at Zq;rw [if_neg (show ¬ c=240 by rw [Zce];decide)] at Zq
  rw [if_neg (show ¬ c=244 by rw [Zce];decide)] at Zq
  obtain ⟨q3,Jk⟩:=exq (Se s ((i:Int)+1) 128 159);rw [Jk] at Zq;try rw [Qg] at Zq
  cases hc;refine W5 4 ?_;have Xf:=@vR.eq_def;have Xe:=@Qh4;have Wm:=@Qhz;have Wz:=@Qh0;have Yj:=@Qh1;have Yr:=@Qh2;have Yq:=@Qh3;have Mf:=@Qhy;have Me:=@Qhx;have M6:=@Qhw;have M5:=@Qhv;have Mv:=@Qhu;have Mu:=@Zl8;have Kq:Kec:=⟨⟩;exact Xv
 by_cases Zcd:c=240
 ·have Z7:(c==224)=false:=Za.2 (by rw [Zcd];decide)
  have Qq:(c==237)=false:=Za.2 (by rw [Zcd];decide)
  have Qj:(c==240)=true:=Zj.2 Zcd;have Qx:(c==244)=false:=Za.2 (by rw [Zcd];decide)
  rw [if_neg (show ¬ c=224 by rw [Zcd];decide)] at Zq
  rw [if_neg (show ¬ c=237 by rw [Zcd];decide)] at Zq
  rw [if_pos Zcd] at Zq;rw [if_neg (show ¬ c=244 by rw [Zcd];decide)] at Zq
  obtain ⟨q4,Ju⟩:=exq (Se s ((i:Int)+1) 144 191);rw [Ju] at Zq;try rw [Qg] at Zq
  cases hc;refine W5 4 ?_;have Xf:=@vR.eq_def;have Xe:=@Qh4;have Wm:=@Qhz;have Wz:=@Qh0;have Yj:=@Qh1;have Yr:=@Qh2;have Yq:=@Qh3;have Mf:=@Qhy;have Me:=@Qhx;have M6:=@Qhw;have M5:=@Qhv;have Mv:=@Qhu;have Mu:=@Zl8;have Kq:Ked:=⟨⟩;exact Xv
 by_cases Zcc:c=244
 ·have Z7:(c==224)=false:=Za.2 (by rw [Zcc];decide)
  have Qq:(c==237)=false:=Za.2 (by rw [Zcc];decide)
  have Qj:(c==240)=false:=Za.2 (by rw [Zcc];decide)
  have Qx:(c==244)=true:=Zj.2 Zcc;rw [if_neg (show ¬ c=224 by rw [Zcc];decide)] at Zq
  rw [if_neg (show ¬ c=237 by rw [Zcc];decide)] at Zq
  rw [if_neg (show ¬ c=240 by rw [Zcc];decide)] at Zq
  rw [if_pos Zcc] at Zq;obtain ⟨q4,Ju⟩:=exq (Se s ((i:Int)+1) 128 143);rw [Ju] at Zq;try rw [Qg] at Zq
  cases hc;refine W5 4 ?_;have Xf:=@vR.eq_def;have Xe:=@Qh4;have Wm:=@Qhz;have Wz:=@Qh0;have Yj:=@Qh1;have Yr:=@Qh2;have Yq:=@Qh3;have Mf:=@Qhy;have Me:=@Qhx;have M6:=@Qhw;have M5:=@Qhv;have Mv:=@Qhu;have Mu:=@Zl8;have Kq:Kee:=⟨⟩;exact Xv
 have Z7:(c==224)=false:=Za.2 Zcf;have Qq:(c==237)=false:=Za.2 Zce;have Qj:(c==240)=false:=Za.2 Zcd;have Qx:(c==244)=false:=Za.2 Zcc;rw [if_neg Zcf] at Zq;rw [if_neg Zce] at Zq;rw [if_neg Zcd] at Zq;rw [if_neg Zcc] at Zq;try rw [Qg] at Zq
 cases hc;refine W5 4 ?_;have Xf:=@vR.eq_def;have Xe:=@Qh4;have Wm:=@Qhz;have Wz:=@Qh0;have Yj:=@Qh1;have Yr:=@Qh2;have Yq:=@Qh3;have Mf:=@Qhy;have Me:=@Qhx;have M6:=@Qhw;have M5:=@Qhv;have Mv:=@Qhu;have Mu:=@Zl8;have Kq:Kef:=⟨⟩;exact Xv
theorem Zgf {n:Int}:Za4 .u8 n↔0≤n∧n≤255:=by
 unfold Za4;have h1:IntKind.min .u8=0:=by decide
 have h2:IntKind.max .u8=255:=by decide
 rw [h1,h2]
def Dn:Con:=Xj (fun (_:UInt8)=>True) (fun c=>uH c)
class Keg:Prop
theorem Keg.k (_:Keg) (h:p:=by
 first|(rw [Zgf];omega)|skip):p:=h
class Keh:Prop
theorem Keh.k (_:Keh) (h:p:=by
 first|(rw [Zgf];omega)|skip):p:=h
theorem good_sixteen1:Qc Tryz.prog (247,Dn):=by
 obtain ⟨Kx,Kt,Kc,Kd,Kb,Ku,Kw,K,X4,_⟩:=J7 Zx Zo [] false (Q1 good_within wJ J5);have Ko:=Dn.eq_def;refine J9 K Tryz.func247 [.tmp 2] rfl 14 rfl (fun c hc Ji Zh=>?_);unfold Dn at Zh;obtain ⟨c,rfl,-⟩:=Q8 Zh;clear Zh;obtain ⟨R,Qi⟩:=exq (uH c);have Zq:=Qi;unfold uH at Zq;have Qo:((48:UInt8).toNat:Int)=48:=rfl;have Ql:((97:UInt8).toNat:Int)=97:=rfl;have w1:X8 c 48 57=true→48≤c.toNat∧c.toNat≤57:=fun h=>by
  unfold X8 at h;simp only [Zg,decide_eq_true_eq,UInt8.le_iff_toNat_le] at h;exact h
 have w2:X8 c 97 102=true→97≤c.toNat∧c.toNat≤102:=fun h=>by
  unfold X8 at h;simp only [Zg,decide_eq_true_eq,UInt8.le_iff_toNat_le] at h;exact h
 cases Qk:X8 c 48 57 with
 | true =>
  have w3:=w1 Qk;rw [if_pos Qk] at Zq;cases hc;have Qp:=@Quj;have Qv:=@Qui;have Kq:Keg:=⟨⟩;exact Xv
 | false =>
  rw [if_neg (by rw [Qk];simp)] at Zq
  cases Qn:X8 c 97 102 with
  | true =>
   have w3:=w2 Qn;rw [if_pos Qn] at Zq;cases hc;have Qp:=@Quj;have Qv:=@Qui;have Q3:=@Quh;have Jh:=@Qsf;have Kq:Keh:=⟨⟩;exact Xv
  | false =>
   rw [if_neg (by rw [Qn];simp)] at Zq
   subst Zq;cases hc;have Qp:=@Quj;have Qv:=@Qui;have Q3:=@Quh;have Jh:=@Qsf;exact qB
end Go.Am.Ty
