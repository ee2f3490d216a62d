/- Contracts of functions that the law reaches, and plain laws. Conditions: those that each contract states. -/
import Derived.Test.YtpgfllgpliffaaaGreatDoorC5
import Derived.Sort.Walk0
import Derived.Lib.Builder
import Derived.Lib.AppendStr
import Derived.Lib.UnsafeStr
import Derived.Laws.Externs
import Derived.Laws.Tables
import Derived.WalkKit
import Derived.WalkSmall
import Derived.BigCall
set_option maxHeartbeats 4000000
set_option linter.unusedVariables false
set_option linter.unusedSimpArgs false
variable {p:Prop}
set_option maxRecDepth 100000
namespace Go.Am.Ty
open Go.Proofs Go.Rose Go.Rose.Rose
open Enc (enc dec)
def M7 (p:Node) (k:Nat) (x:Node) (last:List UInt8):Bool :=
 cond (x.kind==9) (cond (!Ud p) true (cond (Jw (k:Int) (p.n-1)) true (!(x.name==[]))))
  (cond (!xC p.kind x.name) true (cond (Ud p) (Op.bytesLess x.name last||x.name==last) false))
def Sb (t:List Node) (tr:Nat→Bool×Nat) (p:Node):Nat→Nat→List UInt8→Nat→Bool×Nat
 | 0,_,_,at_=>(true,at_)
 | m+1,k,last,at_=>cond (Xn (t.length:Int) at_) (false,at_)
   (cond (M7 p k (t.getD at_ n0) last) (false,at_)
    (cond (tr at_).1 (Sb t tr p m (k+1) (t.getD at_ n0).name (tr at_).2) (false,(tr at_).2)))
def Y8 (t:List Node):Nat→Nat→Bool×Nat
 | 0,at_=>(false,at_)
 | f+1,at_=>cond (Xn (t.length:Int) at_) (false,at_)
   (cond (Va (t.getD at_ n0)) (Sb t (Y8 t f) (t.getD at_ n0) (ar (t.getD at_ n0)) 0 [] (at_+1)) (false,at_))
structure TX where
 t:List Node
 i:Nat
 f:Nat
 d:Int
def W7 (t:List Node) (i:Nat):List Obj:=[.box false [.d (.int .i64 i)],.box false [.d (.list 3 (t.map enc))],.box false [.clo 134 [.ref 90000 0,.ref 90001 0,.ref 90002 0]]]
theorem Xk {t:List Node} {i:Nat}:W7 t i=[.box false [.d (.int .i64 i)],.box false [.d (.list 3 (t.map enc))],.box false [.clo 134 [.ref 90000 0,.ref 90001 0,.ref 90002 0]]]:=rfl
def Xl (n:Nat):BCon where
 X:=TX
 ok x:=x.t.length≤1000000∧Sr x.t∧x.f≤100∧x.d=101-x.f∧x.f<n
 args x:=[.d (.int .i64 x.d),.ref 90000 0,.ref 90001 0,.ref 90002 0]
 objs x:=W7 x.t x.i
 res x:=.bool (Y8 x.t x.f x.i).1
 post x:=W7 x.t (Y8 x.t x.f x.i).2
theorem eS:∀ x,¬ (Xl 0).ok x:=by
 rintro x ⟨_,_,_,_,h⟩;omega
theorem Aa {n:Nat} {t:List Node} {i f:Nat} {d:Int}:(Xl n).post ⟨t,i,f,d⟩=W7 t (Y8 t f i).2:=rfl
theorem aO {n:Nat} {t:List Node} {i f:Nat} {d:Int}:(Xl n).res ⟨t,i,f,d⟩=.bool (Y8 t f i).1:=rfl
theorem sI {p:Node} (h:Va p=true) (hr:Ud p=true):0≤p.n∧p.n≤50:=by
 unfold Ud at hr;rw [Bool.or_eq_true,Zi,Zi] at hr;unfold Va at h;rw [if_neg (by omega),if_neg (by omega)] at h
 split at h
 ·simp only [Zg,decide_eq_true_eq] at h;exact h
 ·rw [if_pos (by omega)] at h
  simp only [Zg,decide_eq_true_eq] at h;omega
theorem H2:aZ 3 [90000,90001,90002]:=by
 intro j hj
 match j,hj with
 | 0,_=>rfl
 | 1,_=>rfl
 | 2,_=>rfl
class Kbc:Prop
theorem Kbc.k (_:Kbc) (h:p:=by
 refine ⟨[90000,90001,90002],by simp,rfl,H2,?_⟩
 simp [Ze,lk,Q4,rnA,rnAs,rk]):p:=h
class Kbd:Prop
theorem Kbd.k (_:Kbd) (h:p:=by
 refine ⟨[90000,90001,90002],by simp,rfl,H2,?_⟩
 simp [Ze,lk,Q4,rnA,rnAs,rk]):p:=h
class Kbe:Prop
theorem Kbe.k (_:Kbe) (h:p:=by
 refine ⟨[90000,90001,90002],by simp,rfl,H2,?_⟩
 simp [Ze,lk,Q4,rnA,rnAs,rk]):p:=h
class Kbf:Prop
theorem Kbf.k (_:Kbf) (h:p:=by
 refine ⟨[90000,90001,90002],by simp,rfl,H2,?_⟩
 simp [Ze,lk,Q4,rnA,rnAs,rk]):p:=h
class Kbh:Prop
theorem Kbh.k (_:Kbh) (h:p:=by
 refine ⟨[90000,90001,90002],by simp,rfl,H2,?_⟩
 simp [Ze,lk,Q4,rnA,rnAs,rk]):p:=h
class Kbi:Prop
theorem Kbi.k (_:Kbi) (h:p:=by
 refine ⟨[90000,90001,90002],by simp,rfl,H2,?_⟩
 simp [Ze,lk,Q4,rnA,rnAs,rk]):p:=h
class Kbj:Prop
theorem Kbj.k (_:Kbj) (h:p:=by
 refine ⟨[90000,90001,90002],by simp,rfl,H2,?_⟩
 simp [Ze,lk,Q4,rnA,rnAs,rk]):p:=h
class Kbk:Prop
theorem Kbk.k (_:Kbk) (h:p:=by
 refine ⟨[90000,90001,90002],by simp,rfl,H2,?_⟩
 simp [Ze,lk,Q4,rnA,rnAs,rk]):p:=h
class Kbm:Prop
theorem Kbm.k (_:Kbm) (h:p:=by
 refine ⟨[90000,90001,90002],by simp,rfl,H2,?_⟩
 simp [Ze,lk,Q4,rnA,rnAs,rk]):p:=h
class Kbn:Prop
theorem Kbn.k (_:Kbn) (h:p:=by
 refine ⟨(k+1,x.name,w2),by exact Xa,by simp only;omega,?_,by simp only;omega⟩
 simp only;rw [show ar p-(k+1)=m by omega]
 exact hR):p:=h
class Kbl:Prop
theorem Kbl.k (_:Kbl) (h:p:=by
 refine Zm (bc:=Xl n) ⟨t,j,f,d+1⟩ [90000,90001,90002] ⟨ht,hN,by simp only;omega,by simp only;omega,by simp only;omega⟩ rfl (by simp) (by rw [Qi];rfl) ?_ ?_ ?_
 ·show Ze _ _ (W7 t j) _;rw [Xk];simp [Ze,lk,Q4,rnA,rnAs,rk]
 ·show Zj (List.drop (W7 t j).length _) _;rw [Xk];simp [Zj,lk]
 cases w1 with
 | false =>
  rw [cond_false] at hR;injection hR with St Cl
  subst St;subst Cl;have Qe:=@Xk;have Z6:=@Zx;have Qb:=@Zv;have Qk:=@Zy;have Q0:=@Zu;have Q1:=@Y4;have Jg:=@Zw;have Kq:Kbm:=⟨⟩;exact Cs
 | true =>
  rw [cond_true] at hR;have Qe:=@Xk;have Z6:=@Zx;have Qb:=@Zv;have Qk:=@Zy;have Q0:=@Zu;have Q1:=@Y4;have Jg:=@Zw;have Kq:Kbn:=⟨⟩;exact Cs):p:=h
class Kbo:Prop
theorem Kbo.k (_:Kbo) (h:p:=by
 refine ⟨[90000,90001,90002],by simp,rfl,H2,?_⟩
 simp [Ze,lk,Q4,rnA,rnAs,rk]):p:=h
class Kbq:Prop
theorem Kbq.k (_:Kbq) (h:p:=by
 refine ⟨[90000,90001,90002],by simp,rfl,H2,?_⟩
 simp [Ze,lk,Q4,rnA,rnAs,rk]):p:=h
class Kbr:Prop
theorem Kbr.k (_:Kbr) (h:p:=by
 refine ⟨(k+1,x.name,w2),by exact Xa,by simp only;omega,?_,by simp only;omega⟩
 simp only;rw [show ar p-(k+1)=m by omega]
 exact hR):p:=h
class Kbp:Prop
theorem Kbp.k (_:Kbp) (h:p:=by
 refine Zm (bc:=Xl n) ⟨t,j,f,d+1⟩ [90000,90001,90002] ⟨ht,hN,by simp only;omega,by simp only;omega,by simp only;omega⟩ rfl (by simp) (by rw [Qi];rfl) ?_ ?_ ?_
 ·show Ze _ _ (W7 t j) _;rw [Xk];simp [Ze,lk,Q4,rnA,rnAs,rk]
 ·show Zj (List.drop (W7 t j).length _) _;rw [Xk];simp [Zj,lk]
 cases w1 with
 | false =>
  rw [cond_false] at hR;injection hR with St Cl
  subst St;subst Cl;have Qe:=@Xk;have Z6:=@Zx;have Qb:=@Zv;have Qk:=@Zy;have Q0:=@Zu;have Q1:=@Y4;have Jg:=@Zw;have Kq:Kbq:=⟨⟩;exact Cs
 | true =>
  rw [cond_true] at hR;have Qe:=@Xk;have Z6:=@Zx;have Qb:=@Zv;have Qk:=@Zy;have Q0:=@Zu;have Q1:=@Y4;have Jg:=@Zw;have Kq:Kbr:=⟨⟩;exact Cs):p:=h
class Kbs:Prop
theorem Kbs.k (_:Kbs) (h:p:=by
 refine ⟨[90000,90001,90002],by simp,rfl,H2,?_⟩
 simp [Ze,lk,Q4,rnA,rnAs,rk]):p:=h
class Kbu:Prop
theorem Kbu.k (_:Kbu) (h:p:=by
 refine ⟨[90000,90001,90002],by simp,rfl,H2,?_⟩
 simp [Ze,lk,Q4,rnA,rnAs,rk]):p:=h
class Kbv:Prop
theorem Kbv.k (_:Kbv) (h:p:=by
 refine ⟨(k+1,x.name,w2),by exact Xa,by simp only;omega,?_,by simp only;omega⟩
 simp only;rw [show ar p-(k+1)=m by omega]
 exact hR):p:=h
class Kbt:Prop
theorem Kbt.k (_:Kbt) (h:p:=by
 refine Zm (bc:=Xl n) ⟨t,j,f,d+1⟩ [90000,90001,90002] ⟨ht,hN,by simp only;omega,by simp only;omega,by simp only;omega⟩ rfl (by simp) (by rw [Qi];rfl) ?_ ?_ ?_
 ·show Ze _ _ (W7 t j) _;rw [Xk];simp [Ze,lk,Q4,rnA,rnAs,rk]
 ·show Zj (List.drop (W7 t j).length _) _;rw [Xk];simp [Zj,lk]
 cases w1 with
 | false =>
  rw [cond_false] at hR;injection hR with St Cl
  subst St;subst Cl;have Qe:=@Xk;have Z6:=@Zx;have Qb:=@Zv;have Qk:=@Zy;have Q0:=@Zu;have Q1:=@Y4;have Jg:=@Zw;have Kq:Kbu:=⟨⟩;exact Cs
 | true =>
  rw [cond_true] at hR;have Qe:=@Xk;have Z6:=@Zx;have Qb:=@Zv;have Qk:=@Zy;have Q0:=@Zu;have Q1:=@Y4;have Jg:=@Zw;have Kq:Kbv:=⟨⟩;exact Cs):p:=h
class Kbw:Prop
theorem Kbw.k (_:Kbw) (h:p:=by
 refine ⟨[90000,90001,90002],by simp,rfl,H2,?_⟩
 simp [Ze,lk,Q4,rnA,rnAs,rk]):p:=h
class Kbg:Prop
theorem Kbg.k (_:Kbg) (h:p:=by
 refine Z4 [5,8,9,35,36,37,38,39,40,41,42,43,44,45,46,47,48,49,50,51,52,53,54,55,56,57,58,59,60,61,62,63,64,65,66,67,68,69,70,71,72,73,74,75,76,77,78,79,80,81,82,83,84,85,86,87,88] (fun q:Nat×List UInt8×Nat=>[(7,.d (.str q.2.1)),(34,.d (.int .i64 q.1))]) (fun q:Nat×List UInt8×Nat=>[(90000,.box false [.d (.int .i64 q.2.2)])]) (fun q:Nat×List UInt8×Nat=>q.1≤ar p∧Sb t (Y8 t f) p (ar p-q.1) q.1 q.2.1 q.2.2=(r1,r2)) (fun q:Nat×List UInt8×Nat=>ar p-q.1) (0,[],i+1) ?_ ?_ ?_
 ·exact ⟨Nat.zero_le _,hr⟩
 ·exact Xa
 rintro ⟨k,last,j⟩ ⟨hk,hR⟩;simp only at hk hR;rcases Qh k (ar p) with ⟨Qg,Q3⟩|⟨Qg,Q3⟩
 ·obtain ⟨m,hm⟩:∃ m,ar p-k=m+1:=⟨ar p-k-1,by omega⟩
  rw [hm,Sb] at hR;rcases G9 t.length j with ⟨Zxy,Ji⟩|⟨Zxy,Ji⟩
  ·rw [Ji,cond_true] at hR;injection hR with St Cl
   subst St;subst Cl;have Qe:=@Zx;have Z6:=@Zv;have Qb:=@Zy;have Qk:=@Zu;have Q0:=@Y4;have Q1:=@Zw;have Kq:Kbh:=⟨⟩;exact Cs
  rw [Ji,cond_false] at hR;have Ra:j<t.length:=by omega
  have Jl:=Qc n0 Ra;obtain ⟨x,hx⟩:=exq (t.getD j n0);rw [hx] at Jl hR;cases Js:(x.kind==9) with
  | true =>
   cases Jk:Ud p with
   | false =>
    have hb:M7 p k x last=true:=by simp only [M7,Js,Jk,cond_true,cond_false,Bool.not_true,Bool.not_false]
    rw [hb,cond_true] at hR;injection hR with St Cl
    subst St;subst Cl;have Qe:=@Zx;have Z6:=@Zv;have Qb:=@Zy;have Qk:=@Zu;have Q0:=@Y4;have Q1:=@Zw;have Kq:Kbi:=⟨⟩;exact Cs
   | true =>
    have zX:=sI Ql Jk;cases Q7:Jw (k:Int) (p.n-1) with
    | true =>
     have hb:M7 p k x last=true:=by simp only [M7,Js,Jk,Q7,cond_true,cond_false,Bool.not_true,Bool.not_false]
     rw [hb,cond_true] at hR;injection hR with St Cl
     subst St;subst Cl;have Qe:=@Zx;have Z6:=@Zv;have Qb:=@Zy;have Qk:=@Zu;have Q0:=@Y4;have Q1:=@Zw;have Kq:Kbj:=⟨⟩;exact Cs
    | false =>
     cases Zz:(x.name==[]) with
     | false =>
      have hb:M7 p k x last=true:=by simp only [M7,Js,Jk,Q7,Zz,cond_true,cond_false,Bool.not_true,Bool.not_false]
      rw [hb,cond_true] at hR;injection hR with St Cl
      subst St;subst Cl;have Qe:=@Zx;have Z6:=@Zv;have Qb:=@Zy;have Qk:=@Zu;have Q0:=@Y4;have Q1:=@Zw;have Kq:Kbk:=⟨⟩;exact Cs
     | true =>
      have hb:M7 p k x last=false:=by simp only [M7,Js,Jk,Q7,Zz,cond_true,cond_false,Bool.not_true,Bool.not_false]
      rw [hb,cond_false] at hR;obtain ⟨w,hw⟩:=exq (Y8 t f j);rw [hw] at hR;obtain ⟨w1,w2⟩:=w;simp only at hR;have Qi:(Xl n).post ⟨t,j,f,d+1⟩=W7 t w2:=by rw [Aa,hw]
      have Qo:(Xl n).res ⟨t,j,f,d+1⟩=.bool w1:=by rw [aO,hw]
      have Qe:=@Zx;have Z6:=@Zv;have Qb:=@Zy;have Qk:=@Zu;have Q0:=@Y4;have Q1:=@Zw;have Kq:Kbl:=⟨⟩;exact Cs
  | false =>
   cases Qt:xC p.kind x.name with
   | false =>
    have hb:M7 p k x last=true:=by simp only [M7,Js,Qt,cond_true,cond_false,Bool.not_true,Bool.not_false]
    rw [hb,cond_true] at hR;injection hR with St Cl
    subst St;subst Cl;have Qe:=@Zx;have Z6:=@Zv;have Qb:=@Zy;have Qk:=@Zu;have Q0:=@Y4;have Q1:=@Zw;have Kq:Kbo:=⟨⟩;exact Cs
   | true =>
    cases Jk:Ud p with
    | false =>
     have hb:M7 p k x last=false:=by simp only [M7,Js,Qt,Jk,cond_true,cond_false,Bool.not_true,Bool.not_false]
     rw [hb,cond_false] at hR;obtain ⟨w,hw⟩:=exq (Y8 t f j);rw [hw] at hR;obtain ⟨w1,w2⟩:=w;simp only at hR;have Qi:(Xl n).post ⟨t,j,f,d+1⟩=W7 t w2:=by rw [Aa,hw]
     have Qo:(Xl n).res ⟨t,j,f,d+1⟩=.bool w1:=by rw [aO,hw]
     have Qe:=@Zx;have Z6:=@Zv;have Qb:=@Zy;have Qk:=@Zu;have Q0:=@Y4;have Q1:=@Zw;have Kq:Kbp:=⟨⟩;exact Cs
    | true =>
     cases Qq:(Op.bytesLess x.name last||x.name==last) with
     | true =>
      have hb:M7 p k x last=true:=by simp only [M7,Js,Qt,Jk,Qq,cond_true,cond_false,Bool.not_true,Bool.not_false]
      rw [hb,cond_true] at hR;injection hR with St Cl
      subst St;subst Cl;have Qe:=@Zx;have Z6:=@Zv;have Qb:=@Zy;have Qk:=@Zu;have Q0:=@Y4;have Q1:=@Zw;have Kq:Kbs:=⟨⟩;exact Cs
     | false =>
      have hb:M7 p k x last=false:=by simp only [M7,Js,Qt,Jk,Qq,cond_true,cond_false,Bool.not_true,Bool.not_false]
      rw [hb,cond_false] at hR;obtain ⟨w,hw⟩:=exq (Y8 t f j);rw [hw] at hR;obtain ⟨w1,w2⟩:=w;simp only at hR;have Qi:(Xl n).post ⟨t,j,f,d+1⟩=W7 t w2:=by rw [Aa,hw]
      have Qo:(Xl n).res ⟨t,j,f,d+1⟩=.bool w1:=by rw [aO,hw]
      have Qe:=@Zx;have Z6:=@Zv;have Qb:=@Zy;have Qk:=@Zu;have Q0:=@Y4;have Q1:=@Zw;have Kq:Kbt:=⟨⟩;exact Cs
 ·have hz:ar p-k=0:=by omega
  rw [hz,Sb] at hR;injection hR with St Cl
  subst St;subst Cl;have Qe:=@Zx;have Z6:=@Zv;have Qb:=@Zy;have Qk:=@Zu;have Q0:=@Y4;have Q1:=@Zw;have Kq:Kbw:=⟨⟩;exact Cs):p:=h
theorem stepb_treeT (n:Nat) (ih:X9 Tryz.prog (134,Xl n)):X9 Tryz.prog (134,(Xl (n+1))):=by
 obtain ⟨Kx,Kt,Kc,Kd,Kb,Ku,Kw,K,Y0,Xr,eV,kB,Zd6,_⟩:=Yc Qp Z0 [] false (Xu good_manyT Fk.eq_def (Xu good_isRowT P9.eq_def (Xu good_isNodeT B6.eq_def (Xu good_isLabelT M0.eq_def (A6 ih (Xl.eq_def n) Yb)))));refine bR K Tryz.func134 [.tmp 5] rfl 89 rfl (fun c hc x X5=>?_);obtain ⟨t,i,f,d⟩:=x;obtain ⟨ht,hN,hf,hd,hn⟩:=X5;simp only at ht hN hf hd hn;refine ⟨?_,?_,?_,?_,?_⟩
 ·show Xg [.d (.int .i64 d),.ref 90000 0,.ref 90001 0,.ref 90002 0] (W7 t i);rw [Xk];simp [Xg,Jp,Obj.tied,Zr,keptAll,AV.kept,Zq,Jv,lk]
 ·show Zr (W7 t i);rw [Xk];simp [Zr]
 ·show Xg [] (W7 t (Y8 t f i).2);rw [Xk];simp [Xg,Jp,Obj.tied,Zr,keptAll,AV.kept,Zq,Jv,lk]
 ·show (W7 t i).length≤(W7 t (Y8 t f i).2).length;rw [Xk,Xk];simp
 show U6 Kx c (V5 _ _ (W7 t i).length (.bool (Y8 t f i).1) (W7 t (Y8 t f i).2)) ⟨[.d (.int .i64 d),.ref 90000 0,.ref 90001 0,.ref 90002 0]++Vf 85,Zq (W7 t i)⟩;rw [Xk,Xk];cases hc;refine Ym 5 ?_;cases f with
 | zero =>
  have h0:Y8 t 0 i=(false,i):=rfl;rw [h0];have Q2:Jw 100 d=true:=by rw [Je];omega
  rcases G9 t.length i with ⟨M8,Qz⟩|⟨M8,Qz⟩
  ·have Qe:=@Zx;have Z6:=@Zv;have Qb:=@Zy;have Qk:=@Zu;have Q0:=@Y4;have Q1:=@Zw;have Kq:Kbc:=⟨⟩;exact Cs
  ·have Qe:=@Zx;have Z6:=@Zv;have Qb:=@Zy;have Qk:=@Zu;have Q0:=@Y4;have Q1:=@Zw;have Kq:Kbd:=⟨⟩;exact Cs
 | succ f =>
  have Q2:Jw 100 d=false:=by rw [Jj];omega
  have Y2:Y8 t (f+1) i=cond (Xn (t.length:Int) i) (false,i)
   (cond (Va (t.getD i n0)) (Sb t (Y8 t f) (t.getD i n0) (ar (t.getD i n0)) 0 [] (i+1)) (false,i)):=rfl
  rcases G9 t.length i with ⟨M8,Qz⟩|⟨M8,Qz⟩
  ·rw [Qz,cond_true] at Y2;rw [Y2];have Qe:=@Zx;have Z6:=@Zv;have Qb:=@Zy;have Qk:=@Zu;have Q0:=@Y4;have Q1:=@Zw;have Kq:Kbe:=⟨⟩;exact Cs
  rw [Qz,cond_false] at Y2;have Bk:i<t.length:=by omega
  have Qx:=Qc n0 Bk;obtain ⟨p,hp⟩:=exq (t.getD i n0);rw [hp] at Qx Y2;cases Ql:Va p with
  | false =>
   rw [Ql,cond_false] at Y2;rw [Y2];have Qe:=@Zx;have Z6:=@Zv;have Qb:=@Zy;have Qk:=@Zu;have Q0:=@Y4;have Q1:=@Zw;have Kq:Kbf:=⟨⟩;exact Cs
  | true =>
   have Qim:ar p≤50:=by have:=(Pw Ql).2;rw [Tc Ql] at this;omega
   rw [Ql,cond_true] at Y2;rw [Y2];obtain ⟨r,hr⟩:=exq (Sb t (Y8 t f) p (ar p) 0 [] (i+1));rw [hr];obtain ⟨r1,r2⟩:=r;simp only;have Qe:=@Zx;have Z6:=@Zv;have Qb:=@Zy;have Qk:=@Zu;have Q0:=@Y4;have Q1:=@Zw;have Kq:Kbg:=⟨⟩;exact Cs
theorem I8:∀ n,X9 Tryz.prog (134,Xl n)
 | 0=>P5 (J6 Tryz.func134 (by kernel_rfl) rfl) eS
 | n+1=>stepb_treeT n (I8 n)
theorem Zjo {l:List Node} (h:0<l.length):el (l.map (enc:Node→D)) 0=enc (l.getD 0 n0):=Qc n0 h
def A5 (l:List (List UInt8)) (x:List UInt8):Bool:=l.any fun y=>y==x
def Kn:BCon:=Xl 101
theorem Qln:X9 Tryz.prog (134,Kn):=I8 _
theorem rI {t:List Node} {i f:Nat} {d:Int}:Kn.post ⟨t,i,f,d⟩=W7 t (Y8 t f i).2:=rfl
theorem wZ {t:List Node} {i f:Nat} {d:Int}:Kn.res ⟨t,i,f,d⟩=.bool (Y8 t f i).1:=rfl
def Pt (t:List Node):Bool:=!X6 t&&((Y8 t 100 0).1&&((Y8 t 100 0).2:Int)==(t.length:Int))
def T2:Con:=Xh (fun (t:Sl Node)=>t.l.length≤1000000∧Sr t.l) (fun t=>Pt t.l)
class Kbx:Prop
theorem Kbx.k (_:Kbx) (h:p:=by
 refine Zm (bc:=Kn) ⟨t,0,100,1⟩ [3,1,4] ⟨ht,hN,by simp only;omega,by simp only;omega,by simp only;omega⟩ rfl (by simp) (by rw [Jl];rfl) ?_ ?_ ?_
 ·show Ze _ _ (W7 t 0) _;rw [Xk];simp [Ze,lk,Q4,rnA,rnAs,rk];rfl
 ·show Zj (List.drop (W7 t 0).length _) _;rw [Xk];simp [Zj,lk]
 cases w1 with
 | false =>
  have Q2:Pt t=false:=by rw [hR];rfl
  have Jk:=@Xk;have Q7:=@Zx;have Zz:=@Zv;have Qi:=@Zy;have Qo:=@Zu;have Qt:=@Y4;have Qq:=@Zw;exact Zix
 | true =>
  have Q2:Pt t=((w2:Int)==(t.length:Int)):=by rw [hR];rfl
  have Jk:=@Xk;have Q7:=@Zx;have Zz:=@Zv;have Qi:=@Zy;have Qo:=@Zu;have Qt:=@Y4;have Qq:=@Zw;exact Zix):p:=h
theorem good_RightT:Jd Tryz.prog (99,T2):=by
 obtain ⟨Kx,Kt,Kc,Kd,Kb,Ku,Kw,K,Y0,_⟩:=Yc Qp Z0 [] false (A6 Qln Kn.eq_def Yb);have Ko:=T2.eq_def;refine Ve K Tryz.func99 [.tmp 2] rfl 36 rfl (fun c hc J0 Zo=>?_);unfold T2 at Zo;obtain ⟨⟨t⟩,rfl,ht,hN⟩:=Qs Zo;simp only at ht hN;obtain ⟨w,hw⟩:=exq (Y8 t 100 0);obtain ⟨w1,w2⟩:=w;have hR:Pt t=(!X6 t&&(w1&&(w2:Int)==(t.length:Int))):=by unfold Pt;rw [hw]
 cases hc;refine Ym 2 ?_;by_cases h0:t.length=0
 ·have hb:X6 t=true:=by unfold X6;simp [h0]
  have Q2:Pt t=false:=by rw [hR,hb];rfl
  have Qz:((t.length:Int)==0)=true:=by rw [Zi];omega
  have Jk:=@Zx;have Q7:=@Zv;have Zz:=@Zy;have Qi:=@Zu;have Qo:=@Y4;have Qt:=@Zw;exact Zix
 have Qz:((t.length:Int)==0)=false:=by rw [Za];omega
 have Ni:(t.length==0)=false:=by rw [Za];exact h0
 have Rc:0<t.length:=by omega
 have Ql:=Zjo Rc;rcases Ub 10000 t.length with ⟨hl,Qx⟩|⟨hl,Qx⟩
 ·have hb:X6 t=true:=by unfold X6;rw [Qx];simp
  have Q2:Pt t=false:=by rw [hR,hb];rfl
  have Jk:=@Zx;have Q7:=@Zv;have Zz:=@Zy;have Qi:=@Zu;have Qo:=@Y4;have Qt:=@Zw;exact Zix
 cases Q3:((t.getD 0 n0).name==[]) with
 | false =>
  have hb:X6 t=true:=by unfold X6;rw [Q3];simp
  have Q2:Pt t=false:=by rw [hR,hb];rfl
  have Jk:=@Zx;have Q7:=@Zv;have Zz:=@Zy;have Qi:=@Zu;have Qo:=@Y4;have Qt:=@Zw;exact Zcd
 | true =>
  cases Ji:((t.getD 0 n0).kind==9) with
  | true =>
   have hb:X6 t=true:=by unfold X6;rw [Ji];simp
   have Q2:Pt t=false:=by rw [hR,hb];rfl
   have Jk:=@Zx;have Q7:=@Zv;have Zz:=@Zy;have Qi:=@Zu;have Qo:=@Y4;have Qt:=@Zw;exact Zcd
  | false =>
   have hb:X6 t=false:=by unfold X6;rw [Ni,Qx,Q3,Ji];rfl
   rw [hb,Bool.not_false,Bool.true_and] at hR;have Jl:Kn.post ⟨t,0,100,1⟩=W7 t w2:=by rw [rI,hw]
   have Js:Kn.res ⟨t,0,100,1⟩=.bool w1:=by rw [wZ,hw]
   have Jk:=@Zx;have Q7:=@Zv;have Zz:=@Zy;have Qi:=@Zu;have Qo:=@Y4;have Qt:=@Zw;have Kq:Kbx:=⟨⟩;exact Cs
theorem iC (x y:List UInt8):(Op.bytesLess x y||x==y)=!Op.bytesLess y x:=by
 rw [bytesLess_eq,bytesLess_eq,Bool.eq_iff_iff];simp only [Bool.or_eq_true,decide_eq_true_eq,Zi,Bool.not_eq_true',decide_eq_false_iff_not,List.not_lt];constructor
 ·rintro (h|rfl)
  ·exact List.le_of_lt h
  ·exact List.le_refl _
 ·intro h;rcases List.le_iff_lt_or_eq.1 h with h|h
  ·exact .inl h
  ·exact .inr h
theorem Zge (x:List UInt8):Op.bytesLess x []=false:=by
 rw [bytesLess_eq];simp
theorem Zgm (p:Node):bG p=Ud p:=rfl
theorem Zaj {p x prev:Node} {k m:Nat} {last:List UInt8} (hn:Va p=true) (hm:m=ar p) (hk:k<m) (Ni:k=0→last=[]) (Mn:0<k→last=prev.name) :
  labK p x prev (Jw 0 (k:Int)) ((k:Int)==(m:Int)-1)=!M7 p k x last:=by
 unfold labK M7;rw [Zgm];cases h9:(x.kind==9) with
 | true =>
  simp only [cond_true];cases hr:Ud p with
  | false=>rfl
  | true =>
   have zX:=sI hn hr;have Qcw:(m:Int)=p.n:=by
    have h1:=Tc hn;rw [hm,←h1];unfold Yf;unfold Ud at hr;rw [Bool.or_eq_true,Zi,Zi] at hr;rw [if_neg (by omega),if_pos hr]
   rcases Ub (k:Int) (p.n-1) with ⟨h1,h2⟩|⟨h1,h2⟩
   ·have:((k:Int)==(m:Int)-1)=false:=by rw [Za];omega
    rw [h2,this];rfl
   ·have:((k:Int)==(m:Int)-1)=true:=by rw [Zi];omega
    rw [h2,this];simp
 | false =>
  simp only [cond_false];have Zvk:∀ q:Bool,(q=true→x.name≠[])→(!(!q)&&(!(!true&&!(x.name==[]))&&!(true&&(Jw 0 (k:Int)&&!Op.bytesLess prev.name x.name))))=!cond (!q) true (Op.bytesLess x.name last||x.name==last):=by
   intro q hq;cases q with
   | false=>rfl
   | true =>
    rcases Nat.eq_zero_or_pos k with rfl|V7
    ·rw [Ni rfl,Zge];have:(x.name==[])=false:=by rw [Za];exact hq rfl
     rw [this];rfl
    ·have:Jw 0 (k:Int)=true:=by rw [Je];omega
     rw [this,Mn V7,iC];simp
  by_cases h6:p.kind=6
  ·have hr:Ud p=true:=by unfold Ud;simp [h6]
   have:=Zvk (Xt x.name) (fun h e=>by rw [e] at h;cases h)
   simp only [xC,h6,hr,cond_true] at this ⊢;simpa using this
  ·by_cases h7:p.kind=7
   ·have hr:Ud p=true:=by unfold Ud;simp [h7]
    have:=Zvk (Ht x.name) (fun h e=>by rw [e] at h;cases h)
    simp only [xC,h7,hr,cond_true] at this ⊢;simpa using this
   ·have hr:Ud p=false:=by unfold Ud;simp [h6,h7]
    simp only [xC,if_neg h6,if_neg h7,hr,cond_false,Za.2 h6,Za.2 h7];cases (x.name==[])<;>rfl
def Zc5 (ks:List (Rose Node)) (q:Nat):Node:=(ks.getD q (mk n0 [])).root
def Rn (ks:List (Rose Node)) (last:List UInt8) (q:Nat):List UInt8:=if q=0 then last else (Zc5 ks (q-1)).name
theorem iE {x:Rose Node} {xs:List (Rose Node)} {last:List UInt8} {q:Nat}:Rn (x::xs) last (q+1)=Rn xs x.root.name q:=by
 unfold Rn Zc5;rw [if_neg (by omega)]
 cases q with
 | zero=>rfl
 | succ q=>rw [if_neg (by omega)];rfl
theorem tA {p:Node} {ks:List (Rose Node)} (hn:Va p=true) (hk:ks.length=ar p):Zgg p ks=true↔∀ q,q<ks.length→M7 p q (Zc5 ks q) (Rn ks [] q)=false:=by
 unfold Zgg;rw [List.all_eq_true];constructor
 ·intro h q hq;have:=h q (List.mem_range.2 hq);rw [Zaj hn hk hq (last:=Rn ks [] q) (fun e=>by subst e;rfl) (fun e=>by unfold Rn;rw [if_neg (by omega)];rfl)] at this
  rw [Bool.not_eq_true'] at this;exact this
 ·intro h q hq;have hq:=List.mem_range.1 hq;rw [Zaj hn hk hq (last:=Rn ks [] q) (fun e=>by subst e;rfl) (fun e=>by unfold Rn;rw [if_neg (by omega)];rfl)]
  have:=h q hq;unfold Zc5 at this;rw [this];rfl
theorem Zft {t:List Node} {i:Nat} (h:i<t.length):Xn (t.length:Int) (i:Int)=false:=by rw [G8];omega
mutual
theorem treeR_ok {t:List Node} (hN:Bb t):∀ {x:Rose Node} {i f:Nat},At ar t i x→depth x≤f→labT x=true→Y8 t f i=(true,i+(nds x).length)
 | mk n ks,i,f,h,hd,hl=>by
  cases f with
  | zero=>rw [depth] at hd;omega
  | succ f =>
   have Qg:=h.lt;have Eo:t.getD i n0=n:=h.root n0;obtain ⟨Xs,Wa⟩:=h.kids;simp only [kids,root] at Xs Wa;rw [depth] at hd;rw [labT,Zg] at hl;have H7:Va n=true:=by rw [←Eo];exact hN _ (by simp [Qg])
   rw [Y8,Zft Qg,cond_false,Eo,H7,cond_true,←Wa];rw [kidsR_ok hN Xs (by omega) hl.2 (fun q hq=>by rw [Nat.zero_add];exact (tA H7 Wa).1 hl.1 q hq),Jt,Zd]
   congr 1
   omega
theorem kidsR_ok {t:List Node} (hN:Bb t):∀ {ks:List (Rose Node)} {p:Node} {k:Nat} {last:List UInt8} {j f:Nat},Ss ar t j ks→depths ks≤f→labTs ks=true→(∀ q,q<ks.length→M7 p (k+q) (Zc5 ks q) (Rn ks last q)=false) →
  Sb t (Y8 t f) p ks.length k last j=(true,j+(ndss ks).length)
 | [],p,k,last,j,f,_,_,_,_=>by rw [List.length_nil,Sb];simp [ndss]
 | x::xs,p,k,last,j,f,h,hd,hl,hb=>by
  obtain ⟨hx,Aw⟩:=h.head;have hj:=hx.lt;rw [depths] at hd;rw [labTs,Zg] at hl;have Qil:M7 p k x.root last=false:=hb 0 (by simp)
  rw [Zd,Sb,Zft hj,cond_false,hx.root n0,Qil,cond_false,treeR_ok hN hx (by omega) hl.1]
  simp only [cond_true];rw [kidsR_ok hN Aw (by omega) hl.2 (fun q hq=>by
   have:=hb (q+1) (by simp only [Zd];omega)
   rw [iE] at this;rw [show k+1+q=k+(q+1) by omega]
   exact this),ndss,Zb]
  congr 1
  omega
end
theorem Zhl {t:List Node} {j:Nat} {x:Rose Node} {xs:List (Rose Node)} (hx:At ar t j x) (Aw:Ss ar t (j+(nds x).length) xs):Ss ar t j (x::xs):=by
 obtain ⟨h1,r,h2⟩:=hx;obtain ⟨g1,s,g2⟩:=Aw;refine ⟨⟨h1,g1⟩,s,?_⟩;rw [←List.drop_drop,h2,List.drop_left'] at g2
 ·rw [h2,g2,ndss,List.append_assoc]
 ·rfl
theorem Zd4 {t:List Node} {i:Nat} {ks:List (Rose Node)} (hi:i<t.length) (hk:ks.length=ar (t.getD i n0)) (h:Ss ar t (i+1) ks):At ar t i (mk (t.getD i n0) ks):=by
 obtain ⟨g1,s,g2⟩:=h;refine ⟨⟨hk,g1⟩,s,?_⟩;rw [List.drop_eq_getElem_cons hi,g2,Jt];simp [hi]
theorem iL {t:List Node} {p:Node} {f:Nat} {tr:Nat→Bool×Nat} (Zei:∀ i j,tr i=(true,j)→∃ x,At ar t i x∧j=i+(nds x).length∧depth x≤f∧labT x=true∧Bb (nds x)):∀ {m k:Nat} {last:List UInt8} {j e:Nat},Sb t tr p m k last j=(true,e)→j≤t.length →
  ∃ ks:List (Rose Node),ks.length=m∧Ss ar t j ks∧e=j+(ndss ks).length∧depths ks≤f∧labTs ks=true∧Bb (ndss ks)∧∀ q,q<ks.length→M7 p (k+q) (Zc5 ks q) (Rn ks last q)=false
 | 0,k,last,j,e,h,hj=>by
  rw [Sb] at h;injection h with _ h
  exact ⟨[],rfl,⟨trivial,t.drop j,by simp [ndss]⟩,by simp [ndss,h],by simp [depths],rfl,fun n hn=>by simp [ndss] at hn,fun q hq=>by simp at hq⟩
 | m+1,k,last,j,e,h,hj=>by
  rw [Sb] at h;cases hl:Xn (t.length:Int) (j:Int) with
  | true=>rw [hl,cond_true] at h;cases h
  | false =>
   rw [hl,cond_false] at h;cases hb:M7 p k (t.getD j n0) last with
   | true=>rw [hb,cond_true] at h;cases h
   | false =>
    rw [hb,cond_false] at h;obtain ⟨w,hw⟩:=exq (tr j);obtain ⟨w1,w2⟩:=w;rw [hw] at h;simp only at h;cases w1 with
    | false=>rw [cond_false] at h;cases h
    | true =>
     rw [cond_true] at h;obtain ⟨x,hx,rfl,hd,Qen,hn⟩:=Zei j w2 hw;obtain ⟨ks,e1,e2,e3,e4,e5,e6,e7⟩:=iL Zei h hx.le;have Ay:=hx.root n0;refine ⟨x::ks,by simp [e1],Zhl hx e2,?_,?_,?_,?_,fun q hq=>?_⟩
     ·rw [e3,ndss,Zb];omega
     ·rw [depths];omega
     ·rw [labTs,Qen,e5];rfl
     ·intro n hm;rw [ndss,List.mem_append] at hm;rcases hm with hm|hm
      ·exact hn n hm
      ·exact e6 n hm
     ·cases q with
      | zero=>rw [Ay] at hb;exact hb
      | succ q =>
       rw [iE,←Ay,show k+(q+1)=k+1+q by omega]
       exact e7 q (by simpa using hq)
theorem gQ {t:List Node}:∀ {f i j:Nat},Y8 t f i=(true,j)→∃ x,At ar t i x∧j=i+(nds x).length∧depth x≤f∧labT x=true∧Bb (nds x)
 | 0,i,j,h=>by rw [Y8] at h;cases h
 | f+1,i,j,h=>by
  rw [Y8] at h;cases hl:Xn (t.length:Int) (i:Int) with
  | true=>rw [hl,cond_true] at h;cases h
  | false =>
   rw [hl,cond_false] at h;rw [G8] at hl;have hi:i<t.length:=by omega
   cases H7:Va (t.getD i n0) with
   | false=>rw [H7,cond_false] at h;cases h
   | true =>
    rw [H7,cond_true] at h;obtain ⟨ks,e1,e2,e3,e4,e5,e6,e7⟩:=iL (f:=f) (fun i j h=>gQ h) h (by omega)
    refine ⟨mk (t.getD i n0) ks,Zd4 hi e1 e2,?_,?_,?_,?_⟩
    ·rw [e3,Jt,Zd];omega
    ·rw [depth];omega
    ·rw [labT,Zg];exact ⟨(tA H7 e1).2 fun q hq=>by have:=e7 q hq;rwa [Nat.zero_add] at this,e5⟩
    ·intro n hm;rw [Jt] at hm;rcases Z2.1 hm with rfl|hm
     ·exact H7
     ·exact e6 n hm
theorem wE (t:List Node):Pt t=Ho t:=by
 rw [Bool.eq_iff_iff];unfold Pt;constructor
 ·intro h;rw [Zg,Zg,Zi,Bool.not_eq_true'] at h;obtain ⟨h1,h2,h3⟩:=h;obtain ⟨x,hx,e,hd,hl,hn⟩:=gQ (t:=t) (f:=100) (i:=0) (j:=(Y8 t 100 0).2) (by rw [←h2])
  unfold X6 at h1;simp only [Bool.or_eq_false_iff,Za,Bool.not_eq_false',Zi,Jj] at h1;obtain ⟨⟨⟨g1,g2⟩,g3⟩,g4⟩:=h1;have Ay:=hx.root n0;have ht:t=nds x:=by
   obtain ⟨_,r,h5⟩:=hx;rw [List.drop_zero] at h5;have h6:=congrArg List.length h5;rw [Zb] at h6;have:r=[]:=List.length_eq_zero_iff.1 (by omega)
   rw [h5,this,List.append_nil]
  rw [ht];exact Zce ⟨hx.1,hn,hd,hl,by rw [←Ay];exact g3,by rw [←Ay];exact g4,by rw [←ht];omega⟩
 ·intro h;obtain ⟨x,rfl,hx⟩:=Ie h;have ha:=Yz hx.wf;have Ay:=ha.root n0;rw [treeR_ok hx.numb ha hx.depth hx.lab];have hh:X6 (nds x)=false:=by
   unfold Ho at h;rw [Zg,Bool.not_eq_true'] at h;exact h.1
  rw [hh];simp
open Go.Proofs
structure Part where
 kind:Int
 label:List UInt8
 name:List UInt8
 bind:List UInt8
 many:Int
 num:Int
 t:List Node
 u:List Node
 deriving DecidableEq
instance encPart:Enc Part:=⟨fun a=>.agg [.int .i64 a.kind,.str a.label,.str a.name,.str a.bind,.int .i64 a.many,.int .i64 a.num,.list 3 (a.t.map enc),.list 3 (a.u.map enc)],fun x=>match x with
 | .agg [a,b,c,d,e,f,g,h]=>⟨a.i,b.s,c.s,d.s,e.i,f.i,g.l.map dec,h.l.map dec⟩
 | _=>⟨0,[],[],[],0,0,[],[]⟩,fun a=>by
  have h:∀ l:List Node,(l.map (enc:Node→D)).map dec=l:=fun l=>Vd;cases a;simp [D.l,D.i,D.s,h]⟩
instance szPart:Sz Part:=⟨8⟩
theorem wY:Sz.sz Part=8:=rfl
theorem Yx {n:Part}:(enc n:D)=.agg [.int .i64 n.kind,.str n.label,.str n.name,.str n.bind,.int .i64 n.many,.int .i64 n.num,.list 3 (n.t.map enc),.list 3 (n.u.map enc)]:=rfl
theorem Yy {a:Int} {b c d:List UInt8} {e f:Int} {g h:List Node}:(dec (.agg [.int .i64 a,.str b,.str c,.str d,.int .i64 e,.int .i64 f,.list 3 (g.map enc),.list 3 (h.map enc)]):Part)=⟨a,b,c,d,e,f,g,h⟩:=Enc.dec_enc (Part.mk a b c d e f g h)
theorem Yw {a:Int} {b c d:List UInt8} {e f:Int} {g h:List Node}:C5 Part (.agg [.int .i64 a,.str b,.str c,.str d,.int .i64 e,.int .i64 f,.list 3 (g.map enc),.list 3 (h.map enc)])=True:=eq_true (Ue (Part.mk a b c d e f g h))
theorem Yt {n:Part}:Part.mk n.kind n.label n.name n.bind n.many n.num n.t n.u=n:=rfl
def e0:Part:=⟨0,[],[],[],0,0,[],[]⟩
def vW (p:Part):Prop:=(p.t.length≤9223372036854775807∧Sr p.t)∧(p.u.length≤9223372036854775807∧Sr p.u)∧p.label.length≤9223372036854775807∧p.name.length≤9223372036854775807∧p.bind.length≤9223372036854775807
theorem Nf {p:Nat→Prop} {k:Nat} (h:∀ j,j<k→p j) (hk:p k):∀ j,j<k+1→p j:=fun j hj=>by
 rcases Nat.lt_or_ge j k with h1|h1
 ·exact h j h1
 ·have:j=k:=by omega
  exact this▸hk
def Qu (p:Part):Int :=
 if p.kind=2∨p.kind=8∨p.kind=11∨p.kind=12∨p.kind=13∨p.kind=14 then 1
 else if p.kind=3∨p.kind=4∨p.kind=5∨p.kind=9 then 2
 else if p.kind=6 then 3
 else if p.kind=7 then Mt p.many 0+1
 else if p.kind=10 then Mt p.many 0
 else 0
def Nu:Con:=Xh (fun (p:Part)=>p.many≤1000000) (fun p=>Qu p)
class Kby:Prop
theorem Kby.k (_:Kby) (h:p:=by
 first|(rw [Xx,Zh7];split<;>omega)|(unfold Qu;simp_all;done)):p:=h
theorem good_Many5:Jd Tryz.prog (39,Nu):=by
 obtain ⟨Kx,Kt,Kc,Kd,Kb,Ku,Kw,K,_⟩:=Yc Qp Z0 [] false Yb;have Ko:=Nu.eq_def;refine Ve K Tryz.func39 [.tmp 2] rfl 30 rfl (fun c hc J0 Zo=>?_);unfold Nu at Zo;obtain ⟨p,rfl,hm⟩:=Qs Zo;have Zh7:Mt p.many 0=if p.many<0 then 0 else p.many:=rfl
 cases hc;have Qz:=@Yx;have Q2:=@Yw;have Qx:=@Yy;have Ql:=@Yt;have Q3:=@wY;have Kq:Kby:=⟨⟩;exact Cs
def C6:List Part→Int→Nat
 | [],_=>0
 | n::l,o=>if o-1+Qu n=0 then 1 else 1+C6 l (o-1+Qu n)
def Sf (t:List Part) (i:Int):Int:=if i<0∨(t.length:Int)≤i then -1 else i+C6 (t.drop i.toNat) 1
def Me (t:List Part):Prop:=t.length≤100000∧∀ n∈t,0≤Qu n∧Qu n≤60∧n.many≤1000000
def Sn:Con:=Vx (fun (t:Sl Part) (i:Int)=>Me t.l∧Aj .i64 i) (fun t i=>Sf t.l i)
class KbA:Prop
theorem KbA.k (_:KbA) (h:p:=by
 repeat' first|exact Cg|with_reducible apply Z9|intro _
 ·rename_i hz;rw [if_pos hz] at he;rw [e00];omega
 ·rename_i hz;rw [if_neg hz] at he;exact ⟨(k+1,o-1+Qu x),by exact Xa,by simp only;omega,by simp only;omega,by simp only;omega,by simp only;omega,by simp only;omega,by simp only;omega⟩):p:=h
class KbB:Prop
theorem KbB.k (_:KbB) (h:p:=by
 rw [e00];omega):p:=h
class Kbz:Prop
theorem Kbz.k (_:Kbz) (h:p:=by
 repeat' first|exact Cg|with_reducible apply Z9|intro _
 ·unfold Sf;rw [if_pos (.inr ‹_›)]
 ·obtain ⟨i,rfl⟩:∃ n:Nat,i=n:=⟨i.toNat,by omega⟩
  have Bk:i<t.length:=by omega
  have e00:Sf t i=i+C6 (t.drop i) 1:=by
   unfold Sf;rw [if_neg (by omega)]
   rfl
  refine Z4 [4,16,17,18,19,20,21,22,23,24,25,26,27,28,29,30,31,32,33] (fun p:Nat×Int=>[(5,.d (.int .i64 p.2)),(6,.d (.int .i64 p.1))]) (fun p:Nat×Int=>[]) (fun p:Nat×Int=>i≤p.1∧p.1≤t.length∧1≤p.2∧p.2≤1+60*p.1∧i+C6 (t.drop i) 1=p.1+C6 (t.drop p.1) p.2) (fun p:Nat×Int=>t.length-p.1) (i,1) ?_ ?_ ?_
  ·exact ⟨Zl _,by simp only;omega,by simp,by simp only;omega,rfl⟩
  ·exact Xa
  rintro ⟨k,o⟩ ⟨h1,h2,h3,h4,h5⟩;simp only at h1 h2 h3 h4 h5;rcases Qh k t.length with ⟨Qg,Qz⟩|⟨Qg,Qz⟩
  ·have Zin:=hm (t.getD k e0) (by simp [Qg])
   have Q2:=Qc e0 Qg;have he:C6 (t.drop k) o=if o-1+Qu (t.getD k e0)=0 then 1 else 1+C6 (t.drop (k+1)) (o-1+Qu (t.getD k e0)):=by
    rw [List.drop_eq_getElem_cons Qg,C6];simp [Qg]
   obtain ⟨x,hx⟩:=exq (t.getD k e0);rw [hx] at Zin Q2 he;have Qx:=@Yx;have Ql:=@Yw;have Q3:=@Yy;have Ji:=@Yt;have Jl:=@wY;have Kq:KbA:=⟨⟩;exact Pm
  ·have hd:t.drop k=[]:=List.drop_eq_nil_of_le Qg;rw [hd,C6] at h5;have Qx:=@Yx;have Ql:=@Yw;have Q3:=@Yy;have Ji:=@Yt;have Jl:=@wY;have Kq:KbB:=⟨⟩;exact Pm
 ·unfold Sf;rw [if_pos (.inl ‹_›)]):p:=h
theorem good_End5:Jd Tryz.prog (17,Sn):=by
 obtain ⟨Kx,Kt,Kc,Kd,Kb,Ku,Kw,K,Y0,_⟩:=Yc Qp Z0 [] false (Xu good_Many5 Nu.eq_def Yb);have Ko:=Sn.eq_def;refine Ve K Tryz.func17 [.tmp 4] rfl 36 rfl (fun c hc J0 Zo=>?_);unfold Sn at Zo;obtain ⟨⟨t⟩,i,rfl,⟨ht,hm⟩,hi⟩:=Jh Zo;simp only at ht hm;rw [Xx] at hi;cases hc;refine Ym 2 ?_;have Qx:=@Yx;have Ql:=@Yw;have Q3:=@Yy;have Ji:=@Yt;have Jl:=@wY;have Kq:Kbz:=⟨⟩;exact Pm
theorem Za3:∀ (l:List Part) (o:Int),C6 l o≤l.length
 | [],_=>Zl _
 | n::l,o=>by
  have:=Za3 l (o-1+Qu n);simp only [C6,Zd];split<;>omega
def Xq (t:List Part):Nat→Nat→List Int
 | 0,_=>[]
 | m+1,at_=>if at_<t.length then (at_:Int)::Xq t m (at_+C6 (t.drop at_) 1) else []
def Vn (t:List Part) (i:Int):List Int:=if i<0∨(t.length:Int)≤i then [] else Xq t (Qu (t.getD i.toNat e0)).toNat (i.toNat+1)
def Nv:Con:=Vx (fun (t:Sl Part) (i:Int)=>Me t.l∧Aj .i64 i) (fun t i=>Sl.mk (Vn t.l i))
class KbD:Prop
theorem KbD.k (_:KbD) (h:p:=by
 refine ⟨(k+1,q+C6 (t.drop q) 1,out++[(q:Int)]),by exact Xa,by simp only;omega,by simp only;omega,by simp [h3],?_,by simp only;omega⟩
 simp only;rw [←h4,show M-(k+1)=M-k-1 by omega]
 simp):p:=h
class KbE:Prop
theorem KbE.k (_:KbE) (h:p:=by
 rw [e00,h4]):p:=h
class KbF:Prop
theorem KbF.k (_:KbF) (h:p:=by
 rw [e00,h4]):p:=h
class KbC:Prop
theorem KbC.k (_:KbC) (h:p:=by
 repeat' first|exact Cg|with_reducible apply Z9|intro _
 ·unfold Vn;rw [if_pos (.inr ‹_›)];rfl
 ·obtain ⟨i,rfl⟩:∃ n:Nat,i=n:=⟨i.toNat,by omega⟩
  have Bk:i<t.length:=by omega
  have Qbq:=hm (t.getD i e0) (by simp [Bk])
  have Q3:=Qc e0 Bk;obtain ⟨M,Qx⟩:∃ M:Nat,Qu (t.getD i e0)=M:=⟨(Qu (t.getD i e0)).toNat,by omega⟩
  have e00:Vn t i=Xq t M (i+1):=by
   unfold Vn;rw [if_neg (by omega)]
   simp only [Zp,Qx]
  obtain ⟨x,hx⟩:=exq (t.getD i e0);rw [hx] at Qbq Q3 Qx;refine Z4 [20,21,22,23,24,25,26,27,28,29,30,31,32,33,34,35,36,37,38,39,40,41] (fun p:Nat×Nat×List Int=>[(5,.sl 8 (p.2.2.map enc).length),(6,.d (.int .i64 p.2.1)),(7,.d (.int .i64 p.1))]) (fun p:Nat×Nat×List Int=>[(8,.row 1 (p.2.2.map enc) 0)]) (fun p:Nat×Nat×List Int=>p.1≤M∧p.2.1≤t.length∧p.2.2.length=p.1∧p.2.2++Xq t (M-p.1) p.2.1=Xq t M (i+1)) (fun p:Nat×Nat×List Int=>M-p.1) (0,i+1,[]) ?_ ?_ ?_
  ·exact ⟨Nat.zero_le _,Bk,rfl,rfl⟩
  ·exact Xa
  rintro ⟨k,q,out⟩ ⟨h1,h2,h3,h4⟩;simp only at h1 h2 h3 h4;rcases Qh k M with ⟨hk,Qz⟩|⟨hk,Qz⟩
  ·rcases Qh q t.length with ⟨hq,Q2⟩|⟨hq,Q2⟩
   ·have e1:M-k=(M-k-1)+1:=by omega
    rw [e1,Xq,if_pos hq] at h4;have M8:=Za3 (t.drop q) 1;rw [List.length_drop] at M8;have Ql:Sf t q=((q+C6 (t.drop q) 1:Nat):Int):=by
     unfold Sf;rw [if_neg (by omega)]
     simp
    have hT:Me t:=⟨ht,hm⟩;have Ji:=@Yx;have Jl:=@Yw;have Js:=@Yy;have Jk:=@Yt;have Q7:=@wY;have Kq:KbD:=⟨⟩;exact Cs
   ·have hz:Xq t (M-k) q=[]:=by
     cases hc:M-k with
     | zero=>rfl
     | succ c=>rw [Xq,if_neg (by omega)]
    rw [hz,List.append_nil] at h4;have Ji:=@Yx;have Jl:=@Yw;have Js:=@Yy;have Jk:=@Yt;have Q7:=@wY;have Kq:KbE:=⟨⟩;exact Cs
  ·have hz:Xq t (M-k) q=[]:=by
    rw [show M-k=0 by omega]
    rfl
   rw [hz,List.append_nil] at h4;have Ji:=@Yx;have Jl:=@Yw;have Js:=@Yy;have Jk:=@Yt;have Q7:=@wY;have Kq:KbF:=⟨⟩;exact Cs
 ·unfold Vn;rw [if_pos (.inl ‹_›)];rfl):p:=h
theorem good_Kids5:Jd Tryz.prog (20,Nv):=by
 obtain ⟨Kx,Kt,Kc,Kd,Kb,Ku,Kw,K,Y0,Xr,_⟩:=Yc Qp Z0 [] false (Xu good_End5 Sn.eq_def (Xu good_Many5 Nu.eq_def Yb));have Ko:=Nv.eq_def;refine Ve K Tryz.func20 [.tmp 4] rfl 43 rfl (fun c hc J0 Zo=>?_);unfold Nv at Zo;obtain ⟨⟨t⟩,i,rfl,⟨ht,hm⟩,hi⟩:=Jh Zo;simp only at ht hm;rw [Xx] at hi;cases hc;refine Ym 2 ?_;have Ji:=@Yx;have Jl:=@Yw;have Js:=@Yy;have Jk:=@Yt;have Q7:=@wY;have Kq:KbC:=⟨⟩;exact Pm
def bY:List (List UInt8):=[[43],[45],[42],[47],[60],[61,61],[38,38],[124,124],[43,43]]
def Zee (s:List UInt8):Bool:=bY.any fun o=>o==s
theorem Zad:([.str [43],.str [45],.str [42],.str [47],.str [60],.str [61,61],.str [38,38],.str [124,124],.str [43,43]]:List D)=bY.map enc:=rfl
theorem kY:∀ {l:List (List UInt8)},Lx 1 (l.map enc)=True
 | []=>rfl
 | x::l=>by
  show (D.fits 1 (.str x)∧Lx 1 (l.map enc))=True;rw [kY,and_true];exact eq_true rfl
def fL:Con:=Xh (fun (_:List UInt8)=>True) (fun s=>Zee s)
class KbH:Prop
theorem KbH.k (_:KbH) (h:p:=by
 first|exact ⟨k+1,by exact Xa,by omega,h2,by omega⟩|skip):p:=h
class KbG:Prop
theorem KbG.k (_:KbG) (h:p:=by
 repeat' first|exact Cg|with_reducible apply Z9|intro _
 ·cases l with
  | nil=>trivial
  | cons x l=>exact ⟨rfl,of_eq_true kY⟩
 refine Z4 [2,6,7,8,9,10,11,12,13,14,15,16,17] (fun k:Nat=>[(4,.d (.int .i64 k))]) (fun k:Nat=>[]) (fun k:Nat=>k≤9∧∀ j,j<k→l.getD j []≠s) (fun k:Nat=>9-k) 0 ?_ ?_ ?_
 ·simp
 ·exact Xa
 rintro k ⟨hk,Y3⟩;by_cases Qg:k<9
 ·have Qx:Jw (k:Int) 9=true:=by rw [Je];omega
  have Ql:=Qc ([]:List UInt8) (show k<l.length by omega)
  have Us:l.getD k []≠s→∀ j,j<k+1→l.getD j []≠s:=fun h=>Nf Y3 h;have C3:(l.getD k []==s)=true→R=true:=fun h=>by rw [←Qj];exact Zhp (p:=fun o=>o==s) [] k (by omega) h
  obtain ⟨y,hy⟩:=exq (l.getD k []);rw [hy] at Ql Us C3;cases Q3:(y==s) with
  | true =>
   have hr:=C3 Q3;subst hr;exact Zcd
  | false =>
   have h2:=Us (Za.1 Q3);have Kq:KbH:=⟨⟩;exact Cs
 ·have Qx:Jw (k:Int) 9=false:=by rw [Jj];omega
  have hr:R=false:=by rw [←Qj];exact Zbh (p:=fun o=>o==s) [] fun j hj=>Za.2 (Y3 j (by omega))
  subst hr;exact Zcd):p:=h
theorem good_op5:Jd Tryz.prog (60,fL):=by
 obtain ⟨Kx,Kt,Kc,Kd,Kb,Ku,Kw,K,_⟩:=Yc Qp Z0 [] false Yb;have Ko:=fL.eq_def;refine Ve K Tryz.func60 [.tmp 2] rfl 18 rfl (fun c hc J0 Zo=>?_);unfold fL at Zo;obtain ⟨s,rfl,-⟩:=Qs Zo;obtain ⟨R,Ji⟩:=exq (Zee s);have Qj:=Ji;unfold Zee at Qj;have hl:bY.length=9:=rfl;have Qz:=Zad;obtain ⟨l,Ly⟩:=exq (bY);rw [Ly] at Qj hl Qz;have Q2:(l.length:Int)=9:=by rw [hl];rfl
 cases hc;have Kq:KbG:=⟨⟩;exact Pm
def Eg:List UInt8→Option Nat
 | []=>none
 | c::s=>if c=33 then some 0 else (Eg s).map (·+1)
theorem Za8:∀ {s:List UInt8} {k:Nat},k<s.length→(∀ j,j<k→s.getD j 0≠33)→s.getD k 0=33→Eg s=some k
 | [],k,h,_,_=>by simp at h
 | c::s,0,_,_,h=>by
  simp only [List.getD_cons_zero] at h;simp [Eg,h]
 | c::s,k+1,h,Y3,hk=>by
  have h0:=Y3 0 (by omega)
  simp only [List.getD_cons_zero] at h0;rw [Eg,if_neg h0,Za8 (k:=k) (by simpa using h) (fun j hj=>by simpa using Y3 (j+1) (by omega)) (by simpa using hk)]
  rfl
theorem oQ:∀ {s:List UInt8},(∀ j,j<s.length→s.getD j 0≠33)→Eg s=none
 | [],_=>rfl
 | c::s,Y3=>by
  have h0:=Y3 0 (by simp)
  simp only [List.getD_cons_zero] at h0;rw [Eg,if_neg h0,oQ fun j hj=>by simpa using Y3 (j+1) (by simpa using hj)]
  rfl
def Cu (s:List UInt8):Bool:=match Eg s with
 | some k=>Xt (s.take k)&&Xt (s.drop (k+1))
 | none=>Xt s
theorem Zuu {c:UInt8}:((c.toNat:Int)==33)=true↔c=33:=by
 rw [Zi];constructor
 ·intro h;have:c.toNat=33:=by omega
  exact UInt8.toNat_inj.1 (by rw [this];rfl)
 ·rintro rfl;rfl
def Fj:Con:=Xh (fun (s:List UInt8)=>s.length≤9223372036854775806) (fun s=>Cu s)
theorem A4 {p:Prop} (h:p:=by (sym=>simp [Kt,Kc,Kd,Kb,Ku,Kw,Ko,Y0,Xr,eV,kB,Zd6,Zhv,Zkc,Zkb,Zka,Zj9,rZ,rQ,qU,qT,Qz,Q2,Qx,Ql,Q3,Ji,Jl,Js,Jk,Q7,Zz,Qi,Qo,Qt,Qq,Qe,Z6,Qb,Qk,Q0,Q1,Jg,Jo,Q9,Ju,J1,P7,Sh,Lp,Sg,Bj,Tt,Ts,Tq,Tp,To,Tn,Zp,H0,Nd,Nc,Ry.eq_def,Nb,Zy,Yy,Nz,Zx,Yx,Zw,Hu,iU,Ny,Zv,Yw,Kf,Mq,Zu,Yt,Bq,Y4,wY,Mi,Zun,Zum,Zul,Zuk,Zuj,Zui,Zuh,Zug,Zuf,Zue,Zud,Zuc,Zub,Zua,Zt9,Zt8,Zt7,Zt6,Zt5,Zt4,Zt3,Zt2,Zt1,Zt0,Ztz,Zty,Ztx,Ztw,Ztv,Ztu,Ztt,Zts,Ztr,Ztq,Ztp,Zto,Ztn,Ztm,Ztl,Ztk,Ztj,Zti,Zth,Ztg,Ztf,Zte,Ztd,Ztc,Ztb,Zta,Zs9,Zs8,Zs7,Zs6,Zs5,Zs4,Zs3,Zs2,Zs1,Zs0,Zsz,Zsy,Zsx,Zsw,Zsv,Zsu,Zst,Zss,Zsr,Zsq,Zsp,Zso,Zsn,Zsm,Zsl,Zsk,Zsj,Zsi,Zsh,Zsg,Zsf,Zse,Zsd,Zsc,Zsb,Zsa,Zr9,Zr8,Zr7,Zr6,Zr5,Zr4,Zr3,Zr2,Zr1,Zr0,Zrz,Zry,Zrx,Zrw,Zrv,Zru,Zrt,Zrs,Zrr,Zrq,Zrp,Zro,Zrn,Zrm,Zrl,Zrk,Zrj,Zri,Zrh,Zrg,Zrf,Zre,Zrd,Zrc,Zrb,Zra,Zq9,Zq8,Zq7,Zq6,Zq5,Zq4,Zq3,Zq2,Zq1,Zq0,Zqz,Zqy,Zqx,Zqw,Zqv,Zqu,Zqt,Zqs,Zqr,Zqq,Zqp,Zqo,Zqn,Zqm,Zql,Zqk,Zqj,Zqi,Zqh,Zqg,Zqf,Zqe,Zqd,Zqc,Zqb,Zqa,Zp9,Zp8,Zp7,Zp6,Zp5,Zp4,Zp3,Zp2,Zp1,Zp0,Zpz,Zpy,Zpx,Zpw,Zpv,Zpu,Zpt,Zps,Zpr,Zpq,Zpp,Zpo,Zpn,Zpm,Zpl,Zpk,Zpj,Zpi,Zph,Zpg,Zpf,Zpe,Zpd,Zpc,Zpb,Zpa,Zo9,Zo8,Zo7,Zo6,Zo5,Zo4,Zo3,Zo2,Zo1,Zo0,Zoz,Zoy,Zox,Zow,Zov,Zou,Zot,Zos,Zor,Zoq,Zop,Zoo,Zon,Zom,Zol,Zok,Zoj,Zoi,Zoh,Zog,Zof,Zoe,Zod,Zoc,Zob,Zoa,Zn9,Zn8,Zn7,Zn6,Zn5,Zn4,Zn3,Zn2,Zn1,Zn0,Znz,Zny,Znx,Znw,Znv,Znu,Znt,Zns,Znr,Znq,Znp,Zno,Znn,Znm,Znl,Znk,Znj,Zni,Znh,Zng,Znf,Zne,Znd,Znc,Znb,Zna,Zm9,Zm8,Zm7,Zm6,Zm5,Zm4,Zm3,Zm2,Zm1,Zm0,Zmz,Zmy,Zmx,Zmw,Zmv,Zmu,Zmt,Zms,Zmr,Zmq,Zmp,Zmo,Zmn,Zmm,Zml,Zmk,Zmj,Zmi,Zmh,Zmg,Zmf,Zme,Zmd,Zmc,Zmb,Zma,Zl9,Zl8,Zl7,Zl6,Zl5,Zl4,Zl3,Zl2,Zl1,Zl0,Zlz,Zly,Zlx,Zlw,Zlv,Zlu,Zlt,Zls,Zlr,Zlq,Zlp,Zlo,Zln,Zlm,Zll,Zlk,Zlj,Zli,Zlh,Zlg,Zlf,Zle,Zld,Zlc,Zlb,Zla,Zk9,Zk8,Zk7,Zk6,Zk5,Zk4,Zk3,Zk2,Zk1,Zk0,Zkz,Zky,Zkx,Zkw,Zkv,rS,rR,rP,rO,oR,rN,dX,dZ,dQ,cU,cT,cR,cP,cO,cN,cM,cL,cI,cH,cG,cF,cE,cD,cC,cB,cA,cK,cW,cV,cY,Ds,Dr,Dq,Dp,Dn,Dm,Dl,Dk,Dj,Di,Dh,Dg,Df,De])):p:=h
theorem rT {p:Prop} (h:p:=by
 (sym=>simp [Kt,Kc,Kd,Kb,Ku,Kw,Ko,Y0,Xr,eV,kB,Zd6,Zhv,Zkc,Zkb,Zka,Zj9,rZ,rQ,qU,qT,Qz,Q2,Qx,Ql,Q3,Ji,Jl,Js,Jk,Q7,Zz,Qi,Qo,Qt,Qq,Qe,Z6,Qb,Qk,Q0,Q1,Jg,Jo,Q9,Ju,J1,P7,Sh,Lp,Sg,Bj,Tt,Ts,Tq,Tp,To,Tn,Zp,H0,Nd,Nc,Ry.eq_def,Nb,Zy,Yy,Nz,Zx,Yx,Zw,Hu,iU,Ny,Zv,Yw,Kf,Mq,Zu,Yt,Bq,Y4,wY,Mi,Zun,Zum,Zul,Zuk,Zuj,Zui,Zuh,Zug,Zuf,Zue,Zud,Zuc,Zub,Zua,Zt9,Zt8,Zt7,Zt6,Zt5,Zt4,Zt3,Zt2,Zt1,Zt0,Ztz,Zty,Ztx,Ztw,Ztv,Ztu,Ztt,Zts,Ztr,Ztq,Ztp,Zto,Ztn,Ztm,Ztl,Ztk,Ztj,Zti,Zth,Ztg,Ztf,Zte,Ztd,Ztc,Ztb,Zta,Zs9,Zs8,Zs7,Zs6,Zs5,Zs4,Zs3,Zs2,Zs1,Zs0,Zsz,Zsy,Zsx,Zsw,Zsv,Zsu,Zst,Zss,Zsr,Zsq,Zsp,Zso,Zsn,Zsm,Zsl,Zsk,Zsj,Zsi,Zsh,Zsg,Zsf,Zse,Zsd,Zsc,Zsb,Zsa,Zr9,Zr8,Zr7,Zr6,Zr5,Zr4,Zr3,Zr2,Zr1,Zr0,Zrz,Zry,Zrx,Zrw,Zrv,Zru,Zrt,Zrs,Zrr,Zrq,Zrp,Zro,Zrn,Zrm,Zrl,Zrk,Zrj,Zri,Zrh,Zrg,Zrf,Zre,Zrd,Zrc,Zrb,Zra,Zq9,Zq8,Zq7,Zq6,Zq5,Zq4,Zq3,Zq2,Zq1,Zq0,Zqz,Zqy,Zqx,Zqw,Zqv,Zqu,Zqt,Zqs,Zqr,Zqq,Zqp,Zqo,Zqn,Zqm,Zql,Zqk,Zqj,Zqi,Zqh,Zqg,Zqf,Zqe,Zqd,Zqc,Zqb,Zqa,Zp9,Zp8,Zp7,Zp6,Zp5,Zp4,Zp3,Zp2,Zp1,Zp0,Zpz,Zpy,Zpx,Zpw,Zpv,Zpu,Zpt,Zps,Zpr,Zpq,Zpp,Zpo,Zpn,Zpm,Zpl,Zpk,Zpj,Zpi,Zph,Zpg,Zpf,Zpe,Zpd,Zpc,Zpb,Zpa,Zo9,Zo8,Zo7,Zo6,Zo5,Zo4,Zo3,Zo2,Zo1,Zo0,Zoz,Zoy,Zox,Zow,Zov,Zou,Zot,Zos,Zor,Zoq,Zop,Zoo,Zon,Zom,Zol,Zok,Zoj,Zoi,Zoh,Zog,Zof,Zoe,Zod,Zoc,Zob,Zoa,Zn9,Zn8,Zn7,Zn6,Zn5,Zn4,Zn3,Zn2,Zn1,Zn0,Znz,Zny,Znx,Znw,Znv,Znu,Znt,Zns,Znr,Znq,Znp,Zno,Znn,Znm,Znl,Znk,Znj,Zni,Znh,Zng,Znf,Zne,Znd,Znc,Znb,Zna,Zm9,Zm8,Zm7,Zm6,Zm5,Zm4,Zm3,Zm2,Zm1,Zm0,Zmz,Zmy,Zmx,Zmw,Zmv,Zmu,Zmt,Zms,Zmr,Zmq,Zmp,Zmo,Zmn,Zmm,Zml,Zmk,Zmj,Zmi,Zmh,Zmg,Zmf,Zme,Zmd,Zmc,Zmb,Zma,Zl9,Zl8,Zl7,Zl6,Zl5,Zl4,Zl3,Zl2,Zl1,Zl0,Zlz,Zly,Zlx,Zlw,Zlv,Zlu,Zlt,Zls,Zlr,Zlq,Zlp,Zlo,Zln,Zlm,Zll,Zlk,Zlj,Zli,Zlh,Zlg,Zlf,Zle,Zld,Zlc,Zlb,Zla,Zk9,Zk8,Zk7,Zk6,Zk5,Zk4,Zk3,Zk2,Zk1,Zk0,Zkz,Zky,Zkx,Zkw,Zkv,rS,rR,rP,rO,oR,rN,dX,dZ,dQ,cU,cT,cR,cP,cO,cN,cM,cL,cI,cH,cG,cF,cE,cD,cC,cB,cA,cK,cW,cV,cY,Ds,Dr,Dq,Dp,Dn,Dm,Dl,Dk,Dj,Di,Dh,Dg,Df,De];tactic =>
   try simp only [mG] at *
   try simp only [Zyh] at *
   try simp (maxSteps:=4000000) only [Qz,Q2,Qx,Ql,Q3,Ji,Jl,Js,Jk,Q7,Zz,Qi,Qo,Qt,Qq,Qe,Z6,Qb,Qk,Q0,Q1,Jg,Jo,Q9,Ju,J1,P7,Sh,Lp,Sg,Bj,Tt,Ts,Tq,Tp,To,Tn,Zp,H0,Nd,Nc,Ry.eq_def,Nb,Zy,Yy,Nz,Zx,Yx,Zw,Hu,iU,Ny,Zv,Yw,Kf,Mq,Zu,Yt,Bq,Y4,wY,Mi,Zb3]
   first|done|exact Kq.k)):p:=h
theorem Qa {p:Prop} (h:p:=by
 (sym=>simp [Kt,Kc,Kd,Kb,Ku,Kw,Ko,Y0,Xr,eV,kB,Zd6,Zhv,Zkc,Zkb,Zka,Zj9,rZ,rQ,qU,qT,Qz,Q2,Qx,Ql,Q3,Ji,Jl,Js,Jk,Q7,Zz,Qi,Qo,Qt,Qq,Qe,Z6,Qb,Qk,Q0,Q1,Jg,Jo,Q9,Ju,J1,P7,Sh,Lp,Sg,Bj,Tt,Ts,Tq,Tp,To,Tn,Zp,H0,Nd,Nc,Ry.eq_def,Nb,Zy,Yy,Nz,Zx,Yx,Zw,Hu,iU,Ny,Zv,Yw,Kf,Mq,Zu,Yt,Bq,Y4,wY,Mi,Zun,Zum,Zul,Zuk,Zuj,Zui,Zuh,Zug,Zuf,Zue,Zud,Zuc,Zub,Zua,Zt9,Zt8,Zt7,Zt6,Zt5,Zt4,Zt3,Zt2,Zt1,Zt0,Ztz,Zty,Ztx,Ztw,Ztv,Ztu,Ztt,Zts,Ztr,Ztq,Ztp,Zto,Ztn,Ztm,Ztl,Ztk,Ztj,Zti,Zth,Ztg,Ztf,Zte,Ztd,Ztc,Ztb,Zta,Zs9,Zs8,Zs7,Zs6,Zs5,Zs4,Zs3,Zs2,Zs1,Zs0,Zsz,Zsy,Zsx,Zsw,Zsv,Zsu,Zst,Zss,Zsr,Zsq,Zsp,Zso,Zsn,Zsm,Zsl,Zsk,Zsj,Zsi,Zsh,Zsg,Zsf,Zse,Zsd,Zsc,Zsb,Zsa,Zr9,Zr8,Zr7,Zr6,Zr5,Zr4,Zr3,Zr2,Zr1,Zr0,Zrz,Zry,Zrx,Zrw,Zrv,Zru,Zrt,Zrs,Zrr,Zrq,Zrp,Zro,Zrn,Zrm,Zrl,Zrk,Zrj,Zri,Zrh,Zrg,Zrf,Zre,Zrd,Zrc,Zrb,Zra,Zq9,Zq8,Zq7,Zq6,Zq5,Zq4,Zq3,Zq2,Zq1,Zq0,Zqz,Zqy,Zqx,Zqw,Zqv,Zqu,Zqt,Zqs,Zqr,Zqq,Zqp,Zqo,Zqn,Zqm,Zql,Zqk,Zqj,Zqi,Zqh,Zqg,Zqf,Zqe,Zqd,Zqc,Zqb,Zqa,Zp9,Zp8,Zp7,Zp6,Zp5,Zp4,Zp3,Zp2,Zp1,Zp0,Zpz,Zpy,Zpx,Zpw,Zpv,Zpu,Zpt,Zps,Zpr,Zpq,Zpp,Zpo,Zpn,Zpm,Zpl,Zpk,Zpj,Zpi,Zph,Zpg,Zpf,Zpe,Zpd,Zpc,Zpb,Zpa,Zo9,Zo8,Zo7,Zo6,Zo5,Zo4,Zo3,Zo2,Zo1,Zo0,Zoz,Zoy,Zox,Zow,Zov,Zou,Zot,Zos,Zor,Zoq,Zop,Zoo,Zon,Zom,Zol,Zok,Zoj,Zoi,Zoh,Zog,Zof,Zoe,Zod,Zoc,Zob,Zoa,Zn9,Zn8,Zn7,Zn6,Zn5,Zn4,Zn3,Zn2,Zn1,Zn0,Znz,Zny,Znx,Znw,Znv,Znu,Znt,Zns,Znr,Znq,Znp,Zno,Znn,Znm,Znl,Znk,Znj,Zni,Znh,Zng,Znf,Zne,Znd,Znc,Znb,Zna,Zm9,Zm8,Zm7,Zm6,Zm5,Zm4,Zm3,Zm2,Zm1,Zm0,Zmz,Zmy,Zmx,Zmw,Zmv,Zmu,Zmt,Zms,Zmr,Zmq,Zmp,Zmo,Zmn,Zmm,Zml,Zmk,Zmj,Zmi,Zmh,Zmg,Zmf,Zme,Zmd,Zmc,Zmb,Zma,Zl9,Zl8,Zl7,Zl6,Zl5,Zl4,Zl3,Zl2,Zl1,Zl0,Zlz,Zly,Zlx,Zlw,Zlv,Zlu,Zlt,Zls,Zlr,Zlq,Zlp,Zlo,Zln,Zlm,Zll,Zlk,Zlj,Zli,Zlh,Zlg,Zlf,Zle,Zld,Zlc,Zlb,Zla,Zk9,Zk8,Zk7,Zk6,Zk5,Zk4,Zk3,Zk2,Zk1,Zk0,Zkz,Zky,Zkx,Zkw,Zkv,rS,rR,rP,rO,oR,rN,dX,dZ,dQ,cU,cT,cR,cP,cO,cN,cM,cL,cI,cH,cG,cF,cE,cD,cC,cB,cA,cK,cW,cV,cY,Ds,Dr,Dq,Dp,Dn,Dm,Dl,Dk,Dj,Di,Dh,Dg,Df,De];tactic =>
   try simp only [mG] at *
   try simp only [Zyh] at *
   try simp (maxSteps:=4000000) only [Qz,Q2,Qx,Ql,Q3,Ji,Jl,Js,Jk,Q7,Zz,Qi,Qo,Qt,Qq,Qe,Z6,Qb,Qk,Q0,Q1,Jg,Jo,Q9,Ju,J1,P7,Sh,Lp,Sg,Bj,Tt,Ts,Tq,Tp,To,Tn,Zp,H0,Nd,Nc,Ry.eq_def,Nb,Zy,Yy,Nz,Zx,Yx,Zw,Hu,iU,Ny,Zv,Yw,Kf,Mq,Zu,Yt,Bq,Y4,wY,Mi,Zb3]
   repeat' first|with_reducible assumption|with_reducible apply Z9|intro _|omega|(rw [Xx];omega)
   all_goals first|with_reducible exact Zz5|omega|exact Kq.k)):p:=h
theorem Ng {p:Prop} (h:p:=by
 first|(sym=>simp [Kt,Kc,Kd,Kb,Ku,Kw,Ko,Y0,Xr,eV,kB,Zd6,Zhv,Zkc,Zkb,Zka,Zj9,rZ,rQ,qU,qT,Qz,Q2,Qx,Ql,Q3,Ji,Jl,Js,Jk,Q7,Zz,Qi,Qo,Qt,Qq,Qe,Z6,Qb,Qk,Q0,Q1,Jg,Jo,Q9,Ju,J1,P7,Sh,Lp,Sg,Bj,Tt,Ts,Tq,Tp,To,Tn,Zp,H0,Nd,Nc,Ry.eq_def,Nb,Zy,Yy,Nz,Zx,Yx,Zw,Hu,iU,Ny,Zv,Yw,Kf,Mq,Zu,Yt,Bq,Y4,wY,Mi,Zun,Zum,Zul,Zuk,Zuj,Zui,Zuh,Zug,Zuf,Zue,Zud,Zuc,Zub,Zua,Zt9,Zt8,Zt7,Zt6,Zt5,Zt4,Zt3,Zt2,Zt1,Zt0,Ztz,Zty,Ztx,Ztw,Ztv,Ztu,Ztt,Zts,Ztr,Ztq,Ztp,Zto,Ztn,Ztm,Ztl,Ztk,Ztj,Zti,Zth,Ztg,Ztf,Zte,Ztd,Ztc,Ztb,Zta,Zs9,Zs8,Zs7,Zs6,Zs5,Zs4,Zs3,Zs2,Zs1,Zs0,Zsz,Zsy,Zsx,Zsw,Zsv,Zsu,Zst,Zss,Zsr,Zsq,Zsp,Zso,Zsn,Zsm,Zsl,Zsk,Zsj,Zsi,Zsh,Zsg,Zsf,Zse,Zsd,Zsc,Zsb,Zsa,Zr9,Zr8,Zr7,Zr6,Zr5,Zr4,Zr3,Zr2,Zr1,Zr0,Zrz,Zry,Zrx,Zrw,Zrv,Zru,Zrt,Zrs,Zrr,Zrq,Zrp,Zro,Zrn,Zrm,Zrl,Zrk,Zrj,Zri,Zrh,Zrg,Zrf,Zre,Zrd,Zrc,Zrb,Zra,Zq9,Zq8,Zq7,Zq6,Zq5,Zq4,Zq3,Zq2,Zq1,Zq0,Zqz,Zqy,Zqx,Zqw,Zqv,Zqu,Zqt,Zqs,Zqr,Zqq,Zqp,Zqo,Zqn,Zqm,Zql,Zqk,Zqj,Zqi,Zqh,Zqg,Zqf,Zqe,Zqd,Zqc,Zqb,Zqa,Zp9,Zp8,Zp7,Zp6,Zp5,Zp4,Zp3,Zp2,Zp1,Zp0,Zpz,Zpy,Zpx,Zpw,Zpv,Zpu,Zpt,Zps,Zpr,Zpq,Zpp,Zpo,Zpn,Zpm,Zpl,Zpk,Zpj,Zpi,Zph,Zpg,Zpf,Zpe,Zpd,Zpc,Zpb,Zpa,Zo9,Zo8,Zo7,Zo6,Zo5,Zo4,Zo3,Zo2,Zo1,Zo0,Zoz,Zoy,Zox,Zow,Zov,Zou,Zot,Zos,Zor,Zoq,Zop,Zoo,Zon,Zom,Zol,Zok,Zoj,Zoi,Zoh,Zog,Zof,Zoe,Zod,Zoc,Zob,Zoa,Zn9,Zn8,Zn7,Zn6,Zn5,Zn4,Zn3,Zn2,Zn1,Zn0,Znz,Zny,Znx,Znw,Znv,Znu,Znt,Zns,Znr,Znq,Znp,Zno,Znn,Znm,Znl,Znk,Znj,Zni,Znh,Zng,Znf,Zne,Znd,Znc,Znb,Zna,Zm9,Zm8,Zm7,Zm6,Zm5,Zm4,Zm3,Zm2,Zm1,Zm0,Zmz,Zmy,Zmx,Zmw,Zmv,Zmu,Zmt,Zms,Zmr,Zmq,Zmp,Zmo,Zmn,Zmm,Zml,Zmk,Zmj,Zmi,Zmh,Zmg,Zmf,Zme,Zmd,Zmc,Zmb,Zma,Zl9,Zl8,Zl7,Zl6,Zl5,Zl4,Zl3,Zl2,Zl1,Zl0,Zlz,Zly,Zlx,Zlw,Zlv,Zlu,Zlt,Zls,Zlr,Zlq,Zlp,Zlo,Zln,Zlm,Zll,Zlk,Zlj,Zli,Zlh,Zlg,Zlf,Zle,Zld,Zlc,Zlb,Zla,Zk9,Zk8,Zk7,Zk6,Zk5,Zk4,Zk3,Zk2,Zk1,Zk0,Zkz,Zky,Zkx,Zkw,Zkv,rS,rR,rP,rO,oR,rN,dX,dZ,dQ,cU,cT,cR,cP,cO,cN,cM,cL,cI,cH,cG,cF,cE,cD,cC,cB,cA,cK,cW,cV,cY,Ds,Dr,Dq,Dp,Dn,Dm,Dl,Dk,Dj,Di,Dh,Dg,Df,De];tactic =>
   try simp only [mG] at *
   try simp only [Zyh] at *
   try simp (maxSteps:=4000000) only [Qz,Q2,Qx,Ql,Q3,Ji,Jl,Js,Jk,Q7,Zz,Qi,Qo,Qt,Qq,Qe,Z6,Qb,Qk,Q0,Q1,Jg,Jo,Q9,Ju,J1,P7,Sh,Lp,Sg,Bj,Tt,Ts,Tq,Tp,To,Tn,Zp,H0,Nd,Nc,Ry.eq_def,Nb,Zy,Yy,Nz,Zx,Yx,Zw,Hu,iU,Ny,Zv,Yw,Kf,Mq,Zu,Yt,Bq,Y4,wY,Mi,Zb3]
   repeat' first|with_reducible assumption|with_reducible apply Z9|intro _|omega|(rw [Xx];omega)
   all_goals first|with_reducible exact Zz5|omega|rfl|trivial|exact Or.inr trivial|assumption|contradiction|exact Xa)|exact A4):p:=h
class KbJ:Prop
theorem KbJ.k (_:KbJ) (h:p:=by
 first|exact ⟨k+1,by exact Xa,by omega,h2,by omega⟩|skip):p:=h
class KbI:Prop
theorem KbI.k (_:KbI) (h:p:=by
 refine Z4 [2,4,5,6,7,8,9,10,11,12,13,14,15,16,17,18,19,20,21,22,23,24] (fun k:Nat=>[(3,.d (.int .i64 k))]) (fun k:Nat=>[]) (fun k:Nat=>k≤s.length∧∀ j,j<k→s.getD j 0≠33) (fun k:Nat=>s.length-k) 0 ?_ ?_ ?_
 ·simp
 ·exact Xa
 rintro k ⟨hk,Y3⟩;rcases Qh k s.length with ⟨Qg,Qz⟩|⟨Qg,Qz⟩
 ·have Us:s.getD k 0≠33→∀ j,j<k+1→s.getD j 0≠33:=fun h=>Nf Y3 h;have C3:s.getD k 0=33→R=(Xt (s.take k)&&Xt (s.drop (k+1))):=fun h=>by
   rw [Za8 Qg Y3 h] at Qj;exact Qj.symm
  obtain ⟨y,Q2⟩:=exq (s.getD k 0);rw [Q2] at Us C3;have Q3:(k:Int)+1=((k+1:Nat):Int):=rfl;cases Qx:((y.toNat:Int)==33) with
  | true =>
   have hr:=C3 (Zuu.1 Qx);have l1:(s.take k).length≤9223372036854775807:=by rw [List.length_take];omega
   have l2:(s.drop (k+1)).length≤9223372036854775807:=by rw [List.length_drop];omega
   obtain ⟨w1,Ql⟩:=exq (Xt (s.take k));obtain ⟨w2,Ji⟩:=exq (Xt (s.drop (k+1)));rw [Ql,Ji] at hr;cases w1 with
   | true =>
    rw [Bool.true_and] at hr;subst hr;exact Ng
   | false =>
    rw [Bool.false_and] at hr;subst hr;exact Ng
  | false =>
   have h2:=Us (fun e=>by rw [Zuu.2 e] at Qx;cases Qx)
   have Kq:KbJ:=⟨⟩;exact Qa
 ·have hr:R=Xt s:=by
   rw [oQ fun j hj=>Y3 j (by omega)] at Qj
   exact Qj.symm
  subst hr;exact Ng):p:=h
theorem good_name5:Jd Tryz.prog (59,Fj):=by
 obtain ⟨Kx,Kt,Kc,Kd,Kb,Ku,Kw,K,Y0,_⟩:=Yc Qp Z0 [] false (Xu good_IsWord1 Kl.eq_def Yb);have Ko:=Fj.eq_def;refine Ve K Tryz.func59 [.tmp 2] rfl 27 rfl (fun c hc J0 Zo=>?_);unfold Fj at Zo;obtain ⟨s,rfl,hs⟩:=Qs Zo;obtain ⟨R,Jl⟩:=exq (Cu s);have Qj:=Jl;unfold Cu at Qj;cases hc;have Kq:KbI:=⟨⟩;exact Qa
def Ga (t:List Node):Bool:=Ho t&&Dy t
def Tx:Con:=Xh (fun (t:Sl Node)=>t.l.length≤9223372036854775807∧Sr t.l) (fun t=>Ga t.l)
class KbK:Prop
theorem KbK.k (_:KbK) (h:p:=by
 repeat' first|exact Cg|with_reducible apply Z9|intro _
 all_goals (unfold Ga;simp_all)):p:=h
theorem good_plain5:Jd Tryz.prog (57,Tx):=by
 obtain ⟨Kx,Kt,Kc,Kd,Kb,Ku,Kw,K,Y0,Xr,_⟩:=Yc Qp Z0 [] false (Xu good_Right3 T5.eq_def (Xu good_Plain3 Cc.eq_def Yb));have Ko:=Tx.eq_def;refine Ve K Tryz.func57 [.tmp 2] rfl 9 rfl (fun c hc J0 Zo=>?_);unfold Tx at Zo;obtain ⟨⟨t⟩,rfl,ht,hN⟩:=Qs Zo;simp only at ht hN;cases hc;have Kq:KbK:=⟨⟩;exact rT
def Qk8 (p:Part) (n:Node):Bool :=
 if p.t.length≠1∨n.name≠[]∨n.n≠0∨p.num<0∨999999999999999999<p.num then false
 else if n.kind=1 then p.name==[]
 else if n.kind=2 then p.name==[]&&Jw p.num 2
 else if n.kind=3 then p.num==0
 else if n.kind=4 then p.name==[]&&p.num==0
 else false
def Vv (p:Part):Bool:=Qk8 p (p.t.getD 0 n0)
def My:Con:=Xh (fun (p:Part)=>vW p) (fun p=>Vv p)
class KbL:Prop
theorem KbL.k (_:KbL) (h:p:=by
 first|(symm;rw [←Qj];clear Qj Qx;unfold Qk8;simp_all;done)|(symm;rw [←Qj];clear Qj Qx;unfold Qk8;simp_all;omega)|(symm;rw [←Qj];clear Qj Qx;unfold Qk8;rw [if_neg (by simp_all;omega)];simp_all [Jw];done)|skip):p:=h
theorem good_literal5:Jd Tryz.prog (58,My):=by
 obtain ⟨Kx,Kt,Kc,Kd,Kb,Ku,Kw,K,_⟩:=Yc Qp Z0 [] false Yb;have Ko:=My.eq_def;refine Ve K Tryz.func58 [.tmp 2] rfl 68 rfl (fun c hc J0 Zo=>?_);unfold My at Zo;obtain ⟨p,rfl,hF⟩:=Qs Zo;clear Zo;obtain ⟨R,Qx⟩:=exq (Vv p);have Qj:=Qx;unfold Vv at Qj;cases hc;refine Ym 4 ?_;by_cases h1:p.t.length=1
 ·have Qz:((p.t.length:Int) != 1)=false:=by rw [bne_eq_false_iff_eq];omega
  have Q2:=Qc n0 (show 0<p.t.length by omega)
  obtain ⟨x,hx⟩:=exq (p.t.getD 0 n0);rw [hx] at Q2 Qj;clear hx;have Kq:KbL:=⟨⟩;exact Qa
 ·have Qz:((p.t.length:Int) != 1)=true:=by rw [bne_iff_ne];omega
  unfold Qk8 at Qj;rw [if_pos (.inl h1)] at Qj;subst Qj;exact A4
def Xb (p:Part) (w tg b t u li na op:Bool):Bool :=
 if p.kind≠0∧p.kind≠14∧p.num≠0 then false
 else if p.kind=0 then ((p.bind==[]&&p.many==0)&&((p.u.length:Int)==0))&&li
 else if p.kind=1 then (((p.bind==[]&&p.many==0)&&((p.t.length:Int)==0))&&((p.u.length:Int)==0))&&na
 else if p.kind=2∨p.kind=4 then (((p.name==[]&&p.many==0)&&b)&&t)&&((p.u.length:Int)==0)
 else if p.kind=3∨p.kind=6 then ((p.name==[]&&(p.bind==[]&&p.many==0))&&((p.t.length:Int)==0))&&((p.u.length:Int)==0)
 else if p.kind=5 then (((w&&p.many==0)&&b)&&t)&&u
 else if p.kind=7 then ((((p.name==[]&&p.bind==[])&&Xn 1 p.many)&&Xn p.many 50)&&((p.t.length:Int)==0))&&((p.u.length:Int)==0)
 else if p.kind=8 then (((p.name==[]&&p.many==0)&&b)&&((p.t.length:Int)==0))&&((p.u.length:Int)==0)
 else if p.kind=9 then ((op&&(p.bind==[]&&p.many==0))&&((p.t.length:Int)==0))&&((p.u.length:Int)==0)
 else if p.kind=10 then ((((p.name==[]&&p.bind==[])&&Xn 0 p.many)&&Xn p.many 50)&&((p.t.length:Int)==0))&&((p.u.length:Int)==0)
 else if p.kind=11 then ((w&&(p.bind==[]&&p.many==0))&&((p.t.length:Int)==0))&&((p.u.length:Int)==0)
 else if p.kind=12 then ((tg&&(p.bind==[]&&p.many==0))&&t)&&((p.u.length:Int)==0)
 else if p.kind=13 then ((p.name==[]&&(p.bind==[]&&p.many==0))&&t)&&((p.u.length:Int)==0)
 else if p.kind=14 then (((p.name==[]&&(p.bind==[]&&p.many==0))&&t)&&u)&&Xn 0 p.num
 else false
def U8 (p:Part):Bool:=Xb p (Xt p.name) (Ht p.name) (Xt p.bind) (Ga p.t) (Ga p.u) (Vv p) (Cu p.name) (Zee p.name)
def Ff:Con:=Xh (fun (p:Part)=>vW p∧p.name.length≤9223372036854775806) (fun p=>U8 p)
class KbM:Prop
theorem KbM.k (_:KbM) (h:p:=by
 first|(symm;rw [←Qj];clear Qj Jk hF f1 f2 f3 f4 f5 f6 f7 hn K Qz Q2 Qx Ql Q3 Ji Jl Js Q7 Zz Qi Qo Qt Qq Qe Z6 Qb Qk Q0 Q1 Jg Jo Q9 Ju J1;unfold Xb;simp_all;done)|(symm;rw [←Qj];clear Qj Jk hF f1 f2 f3 f4 f5 f6 f7 hn K Qz Q2 Qx Ql Q3 Ji Jl Js Q7 Zz Qi Qo Qt Qq Qe Z6 Qb Qk Q0 Q1 Jg Jo Q9 Ju J1;unfold Xb Xn;simp_all;done)|(symm;rw [←Qj];clear Qj Jk hF f1 f2 f3 f4 f5 f6 f7 hn K Qz Q2 Qx Ql Q3 Ji Jl Js Q7 Zz Qi Qo Qt Qq Qe Z6 Qb Qk Q0 Q1 Jg Jo Q9 Ju J1;unfold Xb Xn;simp_all;omega)|skip):p:=h
class KbN:Prop
theorem KbN.k (_:KbN) (h:p:=by
 first|(symm;rw [←Qj];clear Qj Jk hF f1 f2 f3 f4 f5 f6 f7 hn K Qz Q2 Qx Ql Q3 Ji Jl Js Q7 Zz Qi Qo Qt Qq Qe Z6 Qb Qk Q0 Q1 Jg Jo Q9 Ju J1;unfold Xb;simp_all;done)|(symm;rw [←Qj];clear Qj Jk hF f1 f2 f3 f4 f5 f6 f7 hn K Qz Q2 Qx Ql Q3 Ji Jl Js Q7 Zz Qi Qo Qt Qq Qe Z6 Qb Qk Q0 Q1 Jg Jo Q9 Ju J1;unfold Xb Xn;simp_all;done)|(symm;rw [←Qj];clear Qj Jk hF f1 f2 f3 f4 f5 f6 f7 hn K Qz Q2 Qx Ql Q3 Ji Jl Js Q7 Zz Qi Qo Qt Qq Qe Z6 Qb Qk Q0 Q1 Jg Jo Q9 Ju J1;unfold Xb Xn;simp_all;omega)|skip):p:=h
class KbO:Prop
theorem KbO.k (_:KbO) (h:p:=by
 first|(symm;rw [←Qj];clear Qj Jk hF f1 f2 f3 f4 f5 f6 f7 hn K Qz Q2 Qx Ql Q3 Ji Jl Js Q7 Zz Qi Qo Qt Qq Qe Z6 Qb Qk Q0 Q1 Jg Jo Q9 Ju J1;unfold Xb;simp_all;done)|(symm;rw [←Qj];clear Qj Jk hF f1 f2 f3 f4 f5 f6 f7 hn K Qz Q2 Qx Ql Q3 Ji Jl Js Q7 Zz Qi Qo Qt Qq Qe Z6 Qb Qk Q0 Q1 Jg Jo Q9 Ju J1;unfold Xb Xn;simp_all;done)|(symm;rw [←Qj];clear Qj Jk hF f1 f2 f3 f4 f5 f6 f7 hn K Qz Q2 Qx Ql Q3 Ji Jl Js Q7 Zz Qi Qo Qt Qq Qe Z6 Qb Qk Q0 Q1 Jg Jo Q9 Ju J1;unfold Xb Xn;simp_all;omega)|skip):p:=h
class KbP:Prop
theorem KbP.k (_:KbP) (h:p:=by
 first|(symm;rw [←Qj];clear Qj Jk hF f1 f2 f3 f4 f5 f6 f7 hn K Qz Q2 Qx Ql Q3 Ji Jl Js Q7 Zz Qi Qo Qt Qq Qe Z6 Qb Qk Q0 Q1 Jg Jo Q9 Ju J1;unfold Xb;simp_all;done)|(symm;rw [←Qj];clear Qj Jk hF f1 f2 f3 f4 f5 f6 f7 hn K Qz Q2 Qx Ql Q3 Ji Jl Js Q7 Zz Qi Qo Qt Qq Qe Z6 Qb Qk Q0 Q1 Jg Jo Q9 Ju J1;unfold Xb Xn;simp_all;done)|(symm;rw [←Qj];clear Qj Jk hF f1 f2 f3 f4 f5 f6 f7 hn K Qz Q2 Qx Ql Q3 Ji Jl Js Q7 Zz Qi Qo Qt Qq Qe Z6 Qb Qk Q0 Q1 Jg Jo Q9 Ju J1;unfold Xb Xn;simp_all;omega)|skip):p:=h
class KbQ:Prop
theorem KbQ.k (_:KbQ) (h:p:=by
 first|(symm;rw [←Qj];clear Qj Jk hF f1 f2 f3 f4 f5 f6 f7 hn K Qz Q2 Qx Ql Q3 Ji Jl Js Q7 Zz Qi Qo Qt Qq Qe Z6 Qb Qk Q0 Q1 Jg Jo Q9 Ju J1;unfold Xb;simp_all;done)|(symm;rw [←Qj];clear Qj Jk hF f1 f2 f3 f4 f5 f6 f7 hn K Qz Q2 Qx Ql Q3 Ji Jl Js Q7 Zz Qi Qo Qt Qq Qe Z6 Qb Qk Q0 Q1 Jg Jo Q9 Ju J1;unfold Xb Xn;simp_all;done)|(symm;rw [←Qj];clear Qj Jk hF f1 f2 f3 f4 f5 f6 f7 hn K Qz Q2 Qx Ql Q3 Ji Jl Js Q7 Zz Qi Qo Qt Qq Qe Z6 Qb Qk Q0 Q1 Jg Jo Q9 Ju J1;unfold Xb Xn;simp_all;omega)|skip):p:=h
class KbR:Prop
theorem KbR.k (_:KbR) (h:p:=by
 first|(symm;rw [←Qj];clear Qj Jk hF f1 f2 f3 f4 f5 f6 f7 hn K Qz Q2 Qx Ql Q3 Ji Jl Js Q7 Zz Qi Qo Qt Qq Qe Z6 Qb Qk Q0 Q1 Jg Jo Q9 Ju J1;unfold Xb;simp_all;done)|(symm;rw [←Qj];clear Qj Jk hF f1 f2 f3 f4 f5 f6 f7 hn K Qz Q2 Qx Ql Q3 Ji Jl Js Q7 Zz Qi Qo Qt Qq Qe Z6 Qb Qk Q0 Q1 Jg Jo Q9 Ju J1;unfold Xb Xn;simp_all;done)|(symm;rw [←Qj];clear Qj Jk hF f1 f2 f3 f4 f5 f6 f7 hn K Qz Q2 Qx Ql Q3 Ji Jl Js Q7 Zz Qi Qo Qt Qq Qe Z6 Qb Qk Q0 Q1 Jg Jo Q9 Ju J1;unfold Xb Xn;simp_all;omega)|skip):p:=h
class KbS:Prop
theorem KbS.k (_:KbS) (h:p:=by
 first|(symm;rw [←Qj];clear Qj Jk hF f1 f2 f3 f4 f5 f6 f7 hn K Qz Q2 Qx Ql Q3 Ji Jl Js Q7 Zz Qi Qo Qt Qq Qe Z6 Qb Qk Q0 Q1 Jg Jo Q9 Ju J1;unfold Xb;simp_all;done)|(symm;rw [←Qj];clear Qj Jk hF f1 f2 f3 f4 f5 f6 f7 hn K Qz Q2 Qx Ql Q3 Ji Jl Js Q7 Zz Qi Qo Qt Qq Qe Z6 Qb Qk Q0 Q1 Jg Jo Q9 Ju J1;unfold Xb Xn;simp_all;done)|(symm;rw [←Qj];clear Qj Jk hF f1 f2 f3 f4 f5 f6 f7 hn K Qz Q2 Qx Ql Q3 Ji Jl Js Q7 Zz Qi Qo Qt Qq Qe Z6 Qb Qk Q0 Q1 Jg Jo Q9 Ju J1;unfold Xb Xn;simp_all;omega)|skip):p:=h
class KbT:Prop
theorem KbT.k (_:KbT) (h:p:=by
 first|(symm;rw [←Qj];clear Qj Jk hF f1 f2 f3 f4 f5 f6 f7 hn K Qz Q2 Qx Ql Q3 Ji Jl Js Q7 Zz Qi Qo Qt Qq Qe Z6 Qb Qk Q0 Q1 Jg Jo Q9 Ju J1;unfold Xb;simp_all;done)|(symm;rw [←Qj];clear Qj Jk hF f1 f2 f3 f4 f5 f6 f7 hn K Qz Q2 Qx Ql Q3 Ji Jl Js Q7 Zz Qi Qo Qt Qq Qe Z6 Qb Qk Q0 Q1 Jg Jo Q9 Ju J1;unfold Xb Xn;simp_all;done)|(symm;rw [←Qj];clear Qj Jk hF f1 f2 f3 f4 f5 f6 f7 hn K Qz Q2 Qx Ql Q3 Ji Jl Js Q7 Zz Qi Qo Qt Qq Qe Z6 Qb Qk Q0 Q1 Jg Jo Q9 Ju J1;unfold Xb Xn;simp_all;omega)|skip):p:=h
class KbU:Prop
theorem KbU.k (_:KbU) (h:p:=by
 first|(symm;rw [←Qj];clear Qj Jk hF f1 f2 f3 f4 f5 f6 f7 hn K Qz Q2 Qx Ql Q3 Ji Jl Js Q7 Zz Qi Qo Qt Qq Qe Z6 Qb Qk Q0 Q1 Jg Jo Q9 Ju J1;unfold Xb;simp_all;done)|(symm;rw [←Qj];clear Qj Jk hF f1 f2 f3 f4 f5 f6 f7 hn K Qz Q2 Qx Ql Q3 Ji Jl Js Q7 Zz Qi Qo Qt Qq Qe Z6 Qb Qk Q0 Q1 Jg Jo Q9 Ju J1;unfold Xb Xn;simp_all;done)|(symm;rw [←Qj];clear Qj Jk hF f1 f2 f3 f4 f5 f6 f7 hn K Qz Q2 Qx Ql Q3 Ji Jl Js Q7 Zz Qi Qo Qt Qq Qe Z6 Qb Qk Q0 Q1 Jg Jo Q9 Ju J1;unfold Xb Xn;simp_all;omega)|skip):p:=h
class KbV:Prop
theorem KbV.k (_:KbV) (h:p:=by
 first|(symm;rw [←Qj];clear Qj Jk hF f1 f2 f3 f4 f5 f6 f7 hn K Qz Q2 Qx Ql Q3 Ji Jl Js Q7 Zz Qi Qo Qt Qq Qe Z6 Qb Qk Q0 Q1 Jg Jo Q9 Ju J1;unfold Xb;simp_all;done)|(symm;rw [←Qj];clear Qj Jk hF f1 f2 f3 f4 f5 f6 f7 hn K Qz Q2 Qx Ql Q3 Ji Jl Js Q7 Zz Qi Qo Qt Qq Qe Z6 Qb Qk Q0 Q1 Jg Jo Q9 Ju J1;unfold Xb Xn;simp_all;done)|(symm;rw [←Qj];clear Qj Jk hF f1 f2 f3 f4 f5 f6 f7 hn K Qz Q2 Qx Ql Q3 Ji Jl Js Q7 Zz Qi Qo Qt Qq Qe Z6 Qb Qk Q0 Q1 Jg Jo Q9 Ju J1;unfold Xb Xn;simp_all;omega)|skip):p:=h
class KbW:Prop
theorem KbW.k (_:KbW) (h:p:=by
 first|(symm;rw [←Qj];clear Qj Jk hF f1 f2 f3 f4 f5 f6 f7 hn K Qz Q2 Qx Ql Q3 Ji Jl Js Q7 Zz Qi Qo Qt Qq Qe Z6 Qb Qk Q0 Q1 Jg Jo Q9 Ju J1;unfold Xb;simp_all;done)|(symm;rw [←Qj];clear Qj Jk hF f1 f2 f3 f4 f5 f6 f7 hn K Qz Q2 Qx Ql Q3 Ji Jl Js Q7 Zz Qi Qo Qt Qq Qe Z6 Qb Qk Q0 Q1 Jg Jo Q9 Ju J1;unfold Xb Xn;simp_all;done)|(symm;rw [←Qj];clear Qj Jk hF f1 f2 f3 f4 f5 f6 f7 hn K Qz Q2 Qx Ql Q3 Ji Jl Js Q7 Zz Qi Qo Qt Qq Qe Z6 Qb Qk Q0 Q1 Jg Jo Q9 Ju J1;unfold Xb Xn;simp_all;omega)|skip):p:=h
class KbX:Prop
theorem KbX.k (_:KbX) (h:p:=by
 first|(symm;rw [←Qj];clear Qj Jk hF f1 f2 f3 f4 f5 f6 f7 hn K Qz Q2 Qx Ql Q3 Ji Jl Js Q7 Zz Qi Qo Qt Qq Qe Z6 Qb Qk Q0 Q1 Jg Jo Q9 Ju J1;unfold Xb;simp_all;done)|(symm;rw [←Qj];clear Qj Jk hF f1 f2 f3 f4 f5 f6 f7 hn K Qz Q2 Qx Ql Q3 Ji Jl Js Q7 Zz Qi Qo Qt Qq Qe Z6 Qb Qk Q0 Q1 Jg Jo Q9 Ju J1;unfold Xb Xn;simp_all;done)|(symm;rw [←Qj];clear Qj Jk hF f1 f2 f3 f4 f5 f6 f7 hn K Qz Q2 Qx Ql Q3 Ji Jl Js Q7 Zz Qi Qo Qt Qq Qe Z6 Qb Qk Q0 Q1 Jg Jo Q9 Ju J1;unfold Xb Xn;simp_all;omega)|skip):p:=h
class KbY:Prop
theorem KbY.k (_:KbY) (h:p:=by
 first|(symm;rw [←Qj];clear Qj Jk hF f1 f2 f3 f4 f5 f6 f7 hn K Qz Q2 Qx Ql Q3 Ji Jl Js Q7 Zz Qi Qo Qt Qq Qe Z6 Qb Qk Q0 Q1 Jg Jo Q9 Ju J1;unfold Xb;simp_all;done)|(symm;rw [←Qj];clear Qj Jk hF f1 f2 f3 f4 f5 f6 f7 hn K Qz Q2 Qx Ql Q3 Ji Jl Js Q7 Zz Qi Qo Qt Qq Qe Z6 Qb Qk Q0 Q1 Jg Jo Q9 Ju J1;unfold Xb Xn;simp_all;done)|(symm;rw [←Qj];clear Qj Jk hF f1 f2 f3 f4 f5 f6 f7 hn K Qz Q2 Qx Ql Q3 Ji Jl Js Q7 Zz Qi Qo Qt Qq Qe Z6 Qb Qk Q0 Q1 Jg Jo Q9 Ju J1;unfold Xb Xn;simp_all;omega)|skip):p:=h
class KbZ:Prop
theorem KbZ.k (_:KbZ) (h:p:=by
 first|(symm;rw [←Qj];clear Qj Jk hF f1 f2 f3 f4 f5 f6 f7 hn K Qz Q2 Qx Ql Q3 Ji Jl Js Q7 Zz Qi Qo Qt Qq Qe Z6 Qb Qk Q0 Q1 Jg Jo Q9 Ju J1;unfold Xb;simp_all;done)|(symm;rw [←Qj];clear Qj Jk hF f1 f2 f3 f4 f5 f6 f7 hn K Qz Q2 Qx Ql Q3 Ji Jl Js Q7 Zz Qi Qo Qt Qq Qe Z6 Qb Qk Q0 Q1 Jg Jo Q9 Ju J1;unfold Xb Xn;simp_all;done)|(symm;rw [←Qj];clear Qj Jk hF f1 f2 f3 f4 f5 f6 f7 hn K Qz Q2 Qx Ql Q3 Ji Jl Js Q7 Zz Qi Qo Qt Qq Qe Z6 Qb Qk Q0 Q1 Jg Jo Q9 Ju J1;unfold Xb Xn;simp_all;omega)|skip):p:=h
class Kca:Prop
theorem Kca.k (_:Kca) (h:p:=by
 first|(symm;rw [←Qj];clear Qj Jk hF f1 f2 f3 f4 f5 f6 f7 hn K Qz Q2 Qx Ql Q3 Ji Jl Js Q7 Zz Qi Qo Qt Qq Qe Z6 Qb Qk Q0 Q1 Jg Jo Q9 Ju J1;unfold Xb;simp_all;done)|(symm;rw [←Qj];clear Qj Jk hF f1 f2 f3 f4 f5 f6 f7 hn K Qz Q2 Qx Ql Q3 Ji Jl Js Q7 Zz Qi Qo Qt Qq Qe Z6 Qb Qk Q0 Q1 Jg Jo Q9 Ju J1;unfold Xb Xn;simp_all;done)|(symm;rw [←Qj];clear Qj Jk hF f1 f2 f3 f4 f5 f6 f7 hn K Qz Q2 Qx Ql Q3 Ji Jl Js Q7 Zz Qi Qo Qt Qq Qe Z6 Qb Qk Q0 Q1 Jg Jo Q9 Ju J1;unfold Xb Xn;simp_all;omega)|skip):p:=h
class Kcb:Prop
theorem Kcb.k (_:Kcb) (h:p:=by
 first|(symm;rw [←Qj];clear Qj Jk hF f1 f2 f3 f4 f5 f6 f7 hn K Qz Q2 Qx Ql Q3 Ji Jl Js Q7 Zz Qi Qo Qt Qq Qe Z6 Qb Qk Q0 Q1 Jg Jo Q9 Ju J1;unfold Xb;simp_all;done)|(symm;rw [←Qj];clear Qj Jk hF f1 f2 f3 f4 f5 f6 f7 hn K Qz Q2 Qx Ql Q3 Ji Jl Js Q7 Zz Qi Qo Qt Qq Qe Z6 Qb Qk Q0 Q1 Jg Jo Q9 Ju J1;unfold Xb Xn;simp_all;done)|(symm;rw [←Qj];clear Qj Jk hF f1 f2 f3 f4 f5 f6 f7 hn K Qz Q2 Qx Ql Q3 Ji Jl Js Q7 Zz Qi Qo Qt Qq Qe Z6 Qb Qk Q0 Q1 Jg Jo Q9 Ju J1;unfold Xb Xn;simp_all;omega)|skip):p:=h
theorem good_uses5:Jd Tryz.prog (32,Ff):=by
 obtain ⟨Kx,Kt,Kc,Kd,Kb,Ku,Kw,K,Y0,Xr,eV,kB,Zd6,Zhv,_⟩:=Yc Qp Z0 [] false (Xu good_IsWord1 Kl.eq_def (Xu good_IsTag1 Nx.eq_def (Xu good_plain5 Tx.eq_def (Xu good_literal5 My.eq_def (Xu good_name5 Fj.eq_def (Xu good_op5 fL.eq_def Yb))))));have Ko:=Ff.eq_def;refine Ve K Tryz.func32 [.tmp 2] rfl 275 rfl (fun c hc J0 Zo=>?_);unfold Ff at Zo;obtain ⟨p,rfl,hF,hn⟩:=Qs Zo;clear Zo;have Zys:=hF;obtain ⟨⟨f1,f2⟩,⟨f3,f4⟩,f5,f6,f7⟩:=Zys;obtain ⟨R,Jk⟩:=exq (U8 p);have Qj:=Jk;unfold U8 at Qj;obtain ⟨w,Qz⟩:=exq (Xt p.name);obtain ⟨tg,Q2⟩:=exq (Ht p.name);obtain ⟨b,Qx⟩:=exq (Xt p.bind);obtain ⟨t,Ql⟩:=exq (Ga p.t);obtain ⟨u,Q3⟩:=exq (Ga p.u);obtain ⟨li,Ji⟩:=exq (Vv p);obtain ⟨na,Jl⟩:=exq (Cu p.name);obtain ⟨op,Js⟩:=exq (Zee p.name);rw [Qz,Q2,Qx,Ql,Q3,Ji,Jl,Js] at Qj;cases hc;refine Ym 17 ?_;by_cases hc:p.kind=0
 ·have Q7:(p.kind==0)=true:=Zi.2 hc;have Zz:(p.kind==1)=false:=Za.2 (by omega)
  have Qi:(p.kind==2)=false:=Za.2 (by omega)
  have Qo:(p.kind==3)=false:=Za.2 (by omega)
  have Qt:(p.kind==4)=false:=Za.2 (by omega)
  have Qq:(p.kind==5)=false:=Za.2 (by omega)
  have Qe:(p.kind==6)=false:=Za.2 (by omega)
  have Z6:(p.kind==7)=false:=Za.2 (by omega)
  have Qb:(p.kind==8)=false:=Za.2 (by omega)
  have Qk:(p.kind==9)=false:=Za.2 (by omega)
  have Q0:(p.kind==10)=false:=Za.2 (by omega)
  have Q1:(p.kind==11)=false:=Za.2 (by omega)
  have Jg:(p.kind==12)=false:=Za.2 (by omega)
  have Jo:(p.kind==13)=false:=Za.2 (by omega)
  have Q9:(p.kind==14)=false:=Za.2 (by omega)
  have Ju:(p.kind != 0)=false:=by rw [bne,Q7];rfl
  have J1:(p.kind != 14)=true:=by rw [bne,Q9];rfl
  have Kq:KbM:=⟨⟩;exact Qa
 have c0:=hc;clear hc;by_cases hc:p.kind=1
 ·have Q7:(p.kind==0)=false:=Za.2 (by omega)
  have Zz:(p.kind==1)=true:=Zi.2 hc;have Qi:(p.kind==2)=false:=Za.2 (by omega)
  have Qo:(p.kind==3)=false:=Za.2 (by omega)
  have Qt:(p.kind==4)=false:=Za.2 (by omega)
  have Qq:(p.kind==5)=false:=Za.2 (by omega)
  have Qe:(p.kind==6)=false:=Za.2 (by omega)
  have Z6:(p.kind==7)=false:=Za.2 (by omega)
  have Qb:(p.kind==8)=false:=Za.2 (by omega)
  have Qk:(p.kind==9)=false:=Za.2 (by omega)
  have Q0:(p.kind==10)=false:=Za.2 (by omega)
  have Q1:(p.kind==11)=false:=Za.2 (by omega)
  have Jg:(p.kind==12)=false:=Za.2 (by omega)
  have Jo:(p.kind==13)=false:=Za.2 (by omega)
  have Q9:(p.kind==14)=false:=Za.2 (by omega)
  have Ju:(p.kind != 0)=true:=by rw [bne,Q7];rfl
  have J1:(p.kind != 14)=true:=by rw [bne,Q9];rfl
  have Kq:KbN:=⟨⟩;exact Qa
 have c1:=hc;clear hc;by_cases hc:p.kind=2
 ·have Q7:(p.kind==0)=false:=Za.2 (by omega)
  have Zz:(p.kind==1)=false:=Za.2 (by omega)
  have Qi:(p.kind==2)=true:=Zi.2 hc;have Qo:(p.kind==3)=false:=Za.2 (by omega)
  have Qt:(p.kind==4)=false:=Za.2 (by omega)
  have Qq:(p.kind==5)=false:=Za.2 (by omega)
  have Qe:(p.kind==6)=false:=Za.2 (by omega)
  have Z6:(p.kind==7)=false:=Za.2 (by omega)
  have Qb:(p.kind==8)=false:=Za.2 (by omega)
  have Qk:(p.kind==9)=false:=Za.2 (by omega)
  have Q0:(p.kind==10)=false:=Za.2 (by omega)
  have Q1:(p.kind==11)=false:=Za.2 (by omega)
  have Jg:(p.kind==12)=false:=Za.2 (by omega)
  have Jo:(p.kind==13)=false:=Za.2 (by omega)
  have Q9:(p.kind==14)=false:=Za.2 (by omega)
  have Ju:(p.kind != 0)=true:=by rw [bne,Q7];rfl
  have J1:(p.kind != 14)=true:=by rw [bne,Q9];rfl
  have Kq:KbO:=⟨⟩;exact Qa
 have c2:=hc;clear hc;by_cases hc:p.kind=3
 ·have Q7:(p.kind==0)=false:=Za.2 (by omega)
  have Zz:(p.kind==1)=false:=Za.2 (by omega)
  have Qi:(p.kind==2)=false:=Za.2 (by omega)
  have Qo:(p.kind==3)=true:=Zi.2 hc;have Qt:(p.kind==4)=false:=Za.2 (by omega)
  have Qq:(p.kind==5)=false:=Za.2 (by omega)
  have Qe:(p.kind==6)=false:=Za.2 (by omega)
  have Z6:(p.kind==7)=false:=Za.2 (by omega)
  have Qb:(p.kind==8)=false:=Za.2 (by omega)
  have Qk:(p.kind==9)=false:=Za.2 (by omega)
  have Q0:(p.kind==10)=false:=Za.2 (by omega)
  have Q1:(p.kind==11)=false:=Za.2 (by omega)
  have Jg:(p.kind==12)=false:=Za.2 (by omega)
  have Jo:(p.kind==13)=false:=Za.2 (by omega)
  have Q9:(p.kind==14)=false:=Za.2 (by omega)
  have Ju:(p.kind != 0)=true:=by rw [bne,Q7];rfl
  have J1:(p.kind != 14)=true:=by rw [bne,Q9];rfl
  have Kq:KbP:=⟨⟩;exact Qa
 have c3:=hc;clear hc;by_cases hc:p.kind=4
 ·have Q7:(p.kind==0)=false:=Za.2 (by omega)
  have Zz:(p.kind==1)=false:=Za.2 (by omega)
  have Qi:(p.kind==2)=false:=Za.2 (by omega)
  have Qo:(p.kind==3)=false:=Za.2 (by omega)
  have Qt:(p.kind==4)=true:=Zi.2 hc;have Qq:(p.kind==5)=false:=Za.2 (by omega)
  have Qe:(p.kind==6)=false:=Za.2 (by omega)
  have Z6:(p.kind==7)=false:=Za.2 (by omega)
  have Qb:(p.kind==8)=false:=Za.2 (by omega)
  have Qk:(p.kind==9)=false:=Za.2 (by omega)
  have Q0:(p.kind==10)=false:=Za.2 (by omega)
  have Q1:(p.kind==11)=false:=Za.2 (by omega)
  have Jg:(p.kind==12)=false:=Za.2 (by omega)
  have Jo:(p.kind==13)=false:=Za.2 (by omega)
  have Q9:(p.kind==14)=false:=Za.2 (by omega)
  have Ju:(p.kind != 0)=true:=by rw [bne,Q7];rfl
  have J1:(p.kind != 14)=true:=by rw [bne,Q9];rfl
  have Kq:KbQ:=⟨⟩;exact Qa
 have c4:=hc;clear hc;by_cases hc:p.kind=5
 ·have Q7:(p.kind==0)=false:=Za.2 (by omega)
  have Zz:(p.kind==1)=false:=Za.2 (by omega)
  have Qi:(p.kind==2)=false:=Za.2 (by omega)
  have Qo:(p.kind==3)=false:=Za.2 (by omega)
  have Qt:(p.kind==4)=false:=Za.2 (by omega)
  have Qq:(p.kind==5)=true:=Zi.2 hc;have Qe:(p.kind==6)=false:=Za.2 (by omega)
  have Z6:(p.kind==7)=false:=Za.2 (by omega)
  have Qb:(p.kind==8)=false:=Za.2 (by omega)
  have Qk:(p.kind==9)=false:=Za.2 (by omega)
  have Q0:(p.kind==10)=false:=Za.2 (by omega)
  have Q1:(p.kind==11)=false:=Za.2 (by omega)
  have Jg:(p.kind==12)=false:=Za.2 (by omega)
  have Jo:(p.kind==13)=false:=Za.2 (by omega)
  have Q9:(p.kind==14)=false:=Za.2 (by omega)
  have Ju:(p.kind != 0)=true:=by rw [bne,Q7];rfl
  have J1:(p.kind != 14)=true:=by rw [bne,Q9];rfl
  have Kq:KbR:=⟨⟩;exact Qa
 have c5:=hc;clear hc;by_cases hc:p.kind=6
 ·have Q7:(p.kind==0)=false:=Za.2 (by omega)
  have Zz:(p.kind==1)=false:=Za.2 (by omega)
  have Qi:(p.kind==2)=false:=Za.2 (by omega)
  have Qo:(p.kind==3)=false:=Za.2 (by omega)
  have Qt:(p.kind==4)=false:=Za.2 (by omega)
  have Qq:(p.kind==5)=false:=Za.2 (by omega)
  have Qe:(p.kind==6)=true:=Zi.2 hc;have Z6:(p.kind==7)=false:=Za.2 (by omega)
  have Qb:(p.kind==8)=false:=Za.2 (by omega)
  have Qk:(p.kind==9)=false:=Za.2 (by omega)
  have Q0:(p.kind==10)=false:=Za.2 (by omega)
  have Q1:(p.kind==11)=false:=Za.2 (by omega)
  have Jg:(p.kind==12)=false:=Za.2 (by omega)
  have Jo:(p.kind==13)=false:=Za.2 (by omega)
  have Q9:(p.kind==14)=false:=Za.2 (by omega)
  have Ju:(p.kind != 0)=true:=by rw [bne,Q7];rfl
  have J1:(p.kind != 14)=true:=by rw [bne,Q9];rfl
  have Kq:KbS:=⟨⟩;exact Qa
 have c6:=hc;clear hc;by_cases hc:p.kind=7
 ·have Q7:(p.kind==0)=false:=Za.2 (by omega)
  have Zz:(p.kind==1)=false:=Za.2 (by omega)
  have Qi:(p.kind==2)=false:=Za.2 (by omega)
  have Qo:(p.kind==3)=false:=Za.2 (by omega)
  have Qt:(p.kind==4)=false:=Za.2 (by omega)
  have Qq:(p.kind==5)=false:=Za.2 (by omega)
  have Qe:(p.kind==6)=false:=Za.2 (by omega)
  have Z6:(p.kind==7)=true:=Zi.2 hc;have Qb:(p.kind==8)=false:=Za.2 (by omega)
  have Qk:(p.kind==9)=false:=Za.2 (by omega)
  have Q0:(p.kind==10)=false:=Za.2 (by omega)
  have Q1:(p.kind==11)=false:=Za.2 (by omega)
  have Jg:(p.kind==12)=false:=Za.2 (by omega)
  have Jo:(p.kind==13)=false:=Za.2 (by omega)
  have Q9:(p.kind==14)=false:=Za.2 (by omega)
  have Ju:(p.kind != 0)=true:=by rw [bne,Q7];rfl
  have J1:(p.kind != 14)=true:=by rw [bne,Q9];rfl
  have Kq:KbT:=⟨⟩;exact Qa
 have c7:=hc;clear hc;by_cases hc:p.kind=8
 ·have Q7:(p.kind==0)=false:=Za.2 (by omega)
  have Zz:(p.kind==1)=false:=Za.2 (by omega)
  have Qi:(p.kind==2)=false:=Za.2 (by omega)
  have Qo:(p.kind==3)=false:=Za.2 (by omega)
  have Qt:(p.kind==4)=false:=Za.2 (by omega)
  have Qq:(p.kind==5)=false:=Za.2 (by omega)
  have Qe:(p.kind==6)=false:=Za.2 (by omega)
  have Z6:(p.kind==7)=false:=Za.2 (by omega)
  have Qb:(p.kind==8)=true:=Zi.2 hc;have Qk:(p.kind==9)=false:=Za.2 (by omega)
  have Q0:(p.kind==10)=false:=Za.2 (by omega)
  have Q1:(p.kind==11)=false:=Za.2 (by omega)
  have Jg:(p.kind==12)=false:=Za.2 (by omega)
  have Jo:(p.kind==13)=false:=Za.2 (by omega)
  have Q9:(p.kind==14)=false:=Za.2 (by omega)
  have Ju:(p.kind != 0)=true:=by rw [bne,Q7];rfl
  have J1:(p.kind != 14)=true:=by rw [bne,Q9];rfl
  have Kq:KbU:=⟨⟩;exact Qa
 have c8:=hc;clear hc;by_cases hc:p.kind=9
 ·have Q7:(p.kind==0)=false:=Za.2 (by omega)
  have Zz:(p.kind==1)=false:=Za.2 (by omega)
  have Qi:(p.kind==2)=false:=Za.2 (by omega)
  have Qo:(p.kind==3)=false:=Za.2 (by omega)
  have Qt:(p.kind==4)=false:=Za.2 (by omega)
  have Qq:(p.kind==5)=false:=Za.2 (by omega)
  have Qe:(p.kind==6)=false:=Za.2 (by omega)
  have Z6:(p.kind==7)=false:=Za.2 (by omega)
  have Qb:(p.kind==8)=false:=Za.2 (by omega)
  have Qk:(p.kind==9)=true:=Zi.2 hc;have Q0:(p.kind==10)=false:=Za.2 (by omega)
  have Q1:(p.kind==11)=false:=Za.2 (by omega)
  have Jg:(p.kind==12)=false:=Za.2 (by omega)
  have Jo:(p.kind==13)=false:=Za.2 (by omega)
  have Q9:(p.kind==14)=false:=Za.2 (by omega)
  have Ju:(p.kind != 0)=true:=by rw [bne,Q7];rfl
  have J1:(p.kind != 14)=true:=by rw [bne,Q9];rfl
  have Kq:KbV:=⟨⟩;exact Qa
 have c9:=hc;clear hc;by_cases hc:p.kind=10
 ·have Q7:(p.kind==0)=false:=Za.2 (by omega)
  have Zz:(p.kind==1)=false:=Za.2 (by omega)
  have Qi:(p.kind==2)=false:=Za.2 (by omega)
  have Qo:(p.kind==3)=false:=Za.2 (by omega)
  have Qt:(p.kind==4)=false:=Za.2 (by omega)
  have Qq:(p.kind==5)=false:=Za.2 (by omega)
  have Qe:(p.kind==6)=false:=Za.2 (by omega)
  have Z6:(p.kind==7)=false:=Za.2 (by omega)
  have Qb:(p.kind==8)=false:=Za.2 (by omega)
  have Qk:(p.kind==9)=false:=Za.2 (by omega)
  have Q0:(p.kind==10)=true:=Zi.2 hc;have Q1:(p.kind==11)=false:=Za.2 (by omega)
  have Jg:(p.kind==12)=false:=Za.2 (by omega)
  have Jo:(p.kind==13)=false:=Za.2 (by omega)
  have Q9:(p.kind==14)=false:=Za.2 (by omega)
  have Ju:(p.kind != 0)=true:=by rw [bne,Q7];rfl
  have J1:(p.kind != 14)=true:=by rw [bne,Q9];rfl
  have Kq:KbW:=⟨⟩;exact Qa
 have c10:=hc;clear hc;by_cases hc:p.kind=11
 ·have Q7:(p.kind==0)=false:=Za.2 (by omega)
  have Zz:(p.kind==1)=false:=Za.2 (by omega)
  have Qi:(p.kind==2)=false:=Za.2 (by omega)
  have Qo:(p.kind==3)=false:=Za.2 (by omega)
  have Qt:(p.kind==4)=false:=Za.2 (by omega)
  have Qq:(p.kind==5)=false:=Za.2 (by omega)
  have Qe:(p.kind==6)=false:=Za.2 (by omega)
  have Z6:(p.kind==7)=false:=Za.2 (by omega)
  have Qb:(p.kind==8)=false:=Za.2 (by omega)
  have Qk:(p.kind==9)=false:=Za.2 (by omega)
  have Q0:(p.kind==10)=false:=Za.2 (by omega)
  have Q1:(p.kind==11)=true:=Zi.2 hc;have Jg:(p.kind==12)=false:=Za.2 (by omega)
  have Jo:(p.kind==13)=false:=Za.2 (by omega)
  have Q9:(p.kind==14)=false:=Za.2 (by omega)
  have Ju:(p.kind != 0)=true:=by rw [bne,Q7];rfl
  have J1:(p.kind != 14)=true:=by rw [bne,Q9];rfl
  have Kq:KbX:=⟨⟩;exact Qa
 have c11:=hc;clear hc;by_cases hc:p.kind=12
 ·have Q7:(p.kind==0)=false:=Za.2 (by omega)
  have Zz:(p.kind==1)=false:=Za.2 (by omega)
  have Qi:(p.kind==2)=false:=Za.2 (by omega)
  have Qo:(p.kind==3)=false:=Za.2 (by omega)
  have Qt:(p.kind==4)=false:=Za.2 (by omega)
  have Qq:(p.kind==5)=false:=Za.2 (by omega)
  have Qe:(p.kind==6)=false:=Za.2 (by omega)
  have Z6:(p.kind==7)=false:=Za.2 (by omega)
  have Qb:(p.kind==8)=false:=Za.2 (by omega)
  have Qk:(p.kind==9)=false:=Za.2 (by omega)
  have Q0:(p.kind==10)=false:=Za.2 (by omega)
  have Q1:(p.kind==11)=false:=Za.2 (by omega)
  have Jg:(p.kind==12)=true:=Zi.2 hc;have Jo:(p.kind==13)=false:=Za.2 (by omega)
  have Q9:(p.kind==14)=false:=Za.2 (by omega)
  have Ju:(p.kind != 0)=true:=by rw [bne,Q7];rfl
  have J1:(p.kind != 14)=true:=by rw [bne,Q9];rfl
  have Kq:KbY:=⟨⟩;exact Qa
 have c12:=hc;clear hc;by_cases hc:p.kind=13
 ·have Q7:(p.kind==0)=false:=Za.2 (by omega)
  have Zz:(p.kind==1)=false:=Za.2 (by omega)
  have Qi:(p.kind==2)=false:=Za.2 (by omega)
  have Qo:(p.kind==3)=false:=Za.2 (by omega)
  have Qt:(p.kind==4)=false:=Za.2 (by omega)
  have Qq:(p.kind==5)=false:=Za.2 (by omega)
  have Qe:(p.kind==6)=false:=Za.2 (by omega)
  have Z6:(p.kind==7)=false:=Za.2 (by omega)
  have Qb:(p.kind==8)=false:=Za.2 (by omega)
  have Qk:(p.kind==9)=false:=Za.2 (by omega)
  have Q0:(p.kind==10)=false:=Za.2 (by omega)
  have Q1:(p.kind==11)=false:=Za.2 (by omega)
  have Jg:(p.kind==12)=false:=Za.2 (by omega)
  have Jo:(p.kind==13)=true:=Zi.2 hc;have Q9:(p.kind==14)=false:=Za.2 (by omega)
  have Ju:(p.kind != 0)=true:=by rw [bne,Q7];rfl
  have J1:(p.kind != 14)=true:=by rw [bne,Q9];rfl
  have Kq:KbZ:=⟨⟩;exact Qa
 have c13:=hc;clear hc;by_cases hc:p.kind=14
 ·have Q7:(p.kind==0)=false:=Za.2 (by omega)
  have Zz:(p.kind==1)=false:=Za.2 (by omega)
  have Qi:(p.kind==2)=false:=Za.2 (by omega)
  have Qo:(p.kind==3)=false:=Za.2 (by omega)
  have Qt:(p.kind==4)=false:=Za.2 (by omega)
  have Qq:(p.kind==5)=false:=Za.2 (by omega)
  have Qe:(p.kind==6)=false:=Za.2 (by omega)
  have Z6:(p.kind==7)=false:=Za.2 (by omega)
  have Qb:(p.kind==8)=false:=Za.2 (by omega)
  have Qk:(p.kind==9)=false:=Za.2 (by omega)
  have Q0:(p.kind==10)=false:=Za.2 (by omega)
  have Q1:(p.kind==11)=false:=Za.2 (by omega)
  have Jg:(p.kind==12)=false:=Za.2 (by omega)
  have Jo:(p.kind==13)=false:=Za.2 (by omega)
  have Q9:(p.kind==14)=true:=Zi.2 hc;have Ju:(p.kind != 0)=true:=by rw [bne,Q7];rfl
  have J1:(p.kind != 14)=false:=by rw [bne,Q9];rfl
  have Kq:Kca:=⟨⟩;exact Qa
 have c14:=hc;clear hc;have Q7:(p.kind==0)=false:=Za.2 (by omega)
 have Zz:(p.kind==1)=false:=Za.2 (by omega)
 have Qi:(p.kind==2)=false:=Za.2 (by omega)
 have Qo:(p.kind==3)=false:=Za.2 (by omega)
 have Qt:(p.kind==4)=false:=Za.2 (by omega)
 have Qq:(p.kind==5)=false:=Za.2 (by omega)
 have Qe:(p.kind==6)=false:=Za.2 (by omega)
 have Z6:(p.kind==7)=false:=Za.2 (by omega)
 have Qb:(p.kind==8)=false:=Za.2 (by omega)
 have Qk:(p.kind==9)=false:=Za.2 (by omega)
 have Q0:(p.kind==10)=false:=Za.2 (by omega)
 have Q1:(p.kind==11)=false:=Za.2 (by omega)
 have Jg:(p.kind==12)=false:=Za.2 (by omega)
 have Jo:(p.kind==13)=false:=Za.2 (by omega)
 have Q9:(p.kind==14)=false:=Za.2 (by omega)
 have Ju:(p.kind != 0)=true:=by rw [bne,Q7];rfl
 have J1:(p.kind != 14)=true:=by rw [bne,Q9];rfl
 have Kq:Kcb:=⟨⟩;exact Qa
def Ct:List Part→List Int→Bool
 | [],_=>true
 | n::l,rs=>if 100≤rs.length then false else Ct l (Bi (Qu n) rs)
def Pq (t:List Part):Bool:=Ct t []
def Zj7 (rs:List Int):Prop:=(∀ x∈rs,0≤x∧x≤60)∧∀ x∈rs.tail,1≤x
def Mw:Con:=Xh (fun (t:Sl Part)=>Me t.l) (fun t=>Pq t.l)
class Kce:Prop
theorem Kce.k (_:Kce) (h:p:=by
 simp only [Zcl] at g4;exact ⟨(k+1,[]),by exact Xa,by simp only;omega,by simp,by simp,by simp only;rw [←h4,e1,g4],by simp only;omega⟩):p:=h
class Kcf:Prop
theorem Kcf.k (_:Kcf) (h:p:=by
 exact ⟨[],by exact Xa,⟨by simp,by simp⟩,by simp,by rw [←g4];rfl,by simp⟩):p:=h
class Kcg:Prop
theorem Kcg.k (_:Kcg) (h:p:=by
 refine ⟨(y-1)::r,by exact Xa,⟨fun z Qx=>?_,fun z Qx=>g2 z (List.mem_cons_of_mem _ Qx)⟩,by simp only [Zd];omega,by rw [←g4];simp only [Zcl,Bi,if_true],by simp only [Zd];omega⟩
 rcases Z2.1 Qx with rfl|Qx
 ·omega
 ·exact g1 z (List.mem_cons_of_mem _ (List.mem_cons_of_mem _ Qx))):p:=h
class Kch:Prop
theorem Kch.k (_:Kch) (h:p:=by
 have e3:Bi M rs=x::r:=by rw [←g4];exact Pd Zkf
 refine ⟨(k+1,x::r),by exact Xa,by simp only;omega,by simp only [Zd];omega,fun z Qx=>?_,by simp only;rw [←h4,e1,e3],by simp only;omega⟩
 rcases Z2.1 Qx with rfl|Qx
 ·omega
 ·exact ⟨g2 z Qx,(g1 z (List.mem_cons_of_mem _ Qx)).2⟩):p:=h
class Kcd:Prop
theorem Kcd.k (_:Kcd) (h:p:=by
 revert e1 Zin;generalize Qu (t.getD k e0)=M;intro Zin e1;repeat' first|exact Cg|with_reducible apply Z9|intro _
 ·rw [if_pos (by omega)] at e1
  rw [←h4,e1]
 ·rw [if_neg (by omega)] at e1
  have e2:rs.reverse++[M]=(M::rs).reverse:=by simp
  have hS:∀ (q:List Int),q≠[]→((q.length:Nat):Int)-1=((q.length-1:Nat):Int):=by
   intro q hq;have:=List.length_pos_iff.2 hq;omega
  refine Z4 [23,24,25,26,27,28,29,30,31,32,33,34,35,36,37,38,39,40,41,42,43,44,45,46,47,48,49,50] (fun q:List Int=>[(3,.sl 5 (q.reverse.map enc).length),(5,.dead),(12,.dead),(15,.dead),(22,.dead)]) (fun q:List Int=>[(5,.row 1 (q.reverse.map enc) 0)]) (fun q:List Int=>Zj7 q∧q.length≤101∧Zcl q=Bi M rs) (fun q:List Int=>q.length) (M::rs) ?_ ?_ ?_
  ·refine ⟨⟨fun x hx=>?_,fun x hx=>(h3 x hx).1⟩,by simp only [Zd];omega,rfl⟩
   rcases Z2.1 hx with rfl|hx
   ·exact Zin
   ·have:=h3 x hx;omega
  ·exact Xa
  rintro q ⟨⟨g1,g2⟩,g3,g4⟩;cases q with
  | nil =>
   have Qx:Jw 0 ((0:Nat):Int)=false:=rfl;have Qi:=@List.length_reverse.{0};have Qo:=@List.reverse_nil.{0};have Kq:Kce:=⟨⟩;exact Qa
  | cons x r =>
   have Qx:Jw 0 ((r.length+1:Nat):Int)=true:=by rw [Je];omega
   have Ql:((r.length+1:Nat):Int)-1=(r.length:Int):=by omega
   have vM:=g1 x (by simp)
   have Q3:el (List.map enc (x::r).reverse) r.length=.int .i64 x:=Ih;have Ji:List.take r.length (List.map (enc:Int→D) (x::r).reverse)=List.map enc r.reverse:=sW;simp only [Zd] at g3;by_cases Zkf:x=0
   ·subst Zkf;cases r with
    | nil =>
     have Jl:Jw 0 ((0:Nat):Int)=false:=rfl;simp only [List.length_nil] at Qx Ql Q3 Ji;have Qi:=@List.length_reverse.{0};have Qo:=@List.reverse_nil.{0};have Kq:Kcf:=⟨⟩;exact Qa
    | cons y r =>
     have Qhc:=g2 y (by simp)
     have Qhb:=g1 y (by simp)
     have Js:Jw 0 ((r.length+1:Nat):Int)=true:=by rw [Je];omega
     have Jk:((r.length+1:Nat):Int)-1=(r.length:Int):=by omega
     have Q7:el (List.map enc (y::r).reverse) r.length=.int .i64 y:=Ih;simp only [Zd] at Qx Ql Q3 Ji g3;have Qi:=@List.length_reverse.{0};have Kq:Kcg:=⟨⟩;exact Qa
   ·have Zz:(x==(0:Int))=false:=by simpa using Zkf
    have Qi:=@List.length_reverse.{0};have Kq:Kch:=⟨⟩;exact Qa):p:=h
class Kci:Prop
theorem Kci.k (_:Kci) (h:p:=by
 rw [←h4,List.drop_eq_nil_of_le Qg];rfl):p:=h
class Kcc:Prop
theorem Kcc.k (_:Kcc) (h:p:=by
 refine Z4 [2,6,7,8,9,10,11,12,13,14,15,16,17,18,19,20,21,22,23,24,25,26,27,28,29,30,31,32,33,34,35,36,37,38,39,40,41,42,43,44,45,46,47,48,49,50] (fun p:Nat×List Int=>[(3,.sl 5 (p.2.reverse.map enc).length),(4,.d (.int .i64 p.1)),(5,.dead)]) (fun p:Nat×List Int=>[(5,.row 1 (p.2.reverse.map enc) 0)]) (fun p:Nat×List Int=>p.1≤t.length∧p.2.length≤101∧(∀ x∈p.2,1≤x∧x≤60)∧Ct (t.drop p.1) p.2=Pq t) (fun p:Nat×List Int=>t.length-p.1) (0,[]) ?_ ?_ ?_
 ·exact ⟨Nat.zero_le _,by simp,by simp,rfl⟩
 ·exact Xa
 rintro ⟨k,rs⟩ ⟨h1,h2,h3,h4⟩;simp only at h1 h2 h3 h4;rcases Qh k t.length with ⟨Qg,Qz⟩|⟨Qg,Qz⟩
 ·have Qhw:=(hm (t.getD k e0) (by simp [Qg])).2.2
  have Zin:0≤Qu (t.getD k e0)∧Qu (t.getD k e0)≤60:=⟨(hm (t.getD k e0) (by simp [Qg])).1,(hm (t.getD k e0) (by simp [Qg])).2.1⟩
  have e1:Ct (t.drop k) rs=if 100≤rs.length then false else Ct (t.drop (k+1)) (Bi (Qu (t.getD k e0)) rs):=by
   rw [List.drop_eq_getElem_cons Qg,Ct];simp [Qg]
  have Q2:=Qc (e0:Part) Qg;have Qi:=@List.length_reverse.{0};have Kq:Kcd:=⟨⟩;exact rT
 ·have Kq:Kci:=⟨⟩;exact rT):p:=h
theorem good_shallow5:Jd Tryz.prog (33,Mw):=by
 obtain ⟨Kx,Kt,Kc,Kd,Kb,Ku,Kw,K,Y0,_⟩:=Yc Qp Z0 [39] false (Xu good_Many5 Nu.eq_def Yb);have Ko:=Mw.eq_def;refine Ve K Tryz.func33 [.tmp 2] rfl 51 rfl (fun c hc J0 Zo=>?_);unfold Mw at Zo;obtain ⟨⟨t⟩,rfl,⟨ht,hm⟩⟩:=Qs Zo;simp only at ht hm;cases hc;refine Ym 3 ?_;have Kq:Kcc:=⟨⟩;exact rT
def Jz (t:List Part) (l:List Int) (k:Nat):Part:=t.getD (l.getD k 0).toNat e0
def yK (t:List Part) (l:List Int) (x:Part) (k:Nat):Bool:=(List.range k).any fun j=>!(x.label==[])&&((Jz t l j).label==x.label)
def Ro (p x:Part) (br:Bool):Bool:=((x.kind==8)==br)&&!((br&&!Ht x.label)||(((p.kind==10)&&!Xt x.label)||((!br&&!(p.kind==10))&&!(x.label==[]))))
def Td (t:List Part) (p:Part) (l:List Int) (k:Nat):Bool:=Ro p (Jz t l k) ((p.kind==7)&&Jw 0 k)&&!yK t l (Jz t l k) k
def Iv (t:List Part) (i:Nat):Bool:=(((Vn t i).length:Int)==Qu (t.getD i e0))&&(List.range (Vn t i).length).all fun k=>Td t (t.getD i e0) (Vn t i) k
theorem Iy (t:List Part):∀ (m q:Nat),∀ x∈Xq t m q,(q:Int)≤x∧x<t.length
 | 0,q,x,hx=>by simp [Xq] at hx
 | m+1,q,x,hx=>by
  unfold Xq at hx;split at hx
  ·rcases Z2.1 hx with rfl|hx
   ·omega
   ·have:=Iy t m _ x hx;omega
  ·cases hx
theorem Zgk {t:List Part} {i:Nat}:∀ x∈Vn t i,(i:Int)<x∧x<t.length:=by
 intro x hx;unfold Vn at hx;split at hx
 ·cases hx
 ·have:=Iy t _ _ x hx;omega
theorem Lk (t:List Part):∀ (m q:Nat),(Xq t m q).length≤m
 | 0,q=>by simp [Xq]
 | m+1,q=>by
  unfold Xq;split
  ·simp only [Zd];have:=Lk t m (q+C6 (t.drop q) 1);omega
  ·simp
def Qbc (t:List Part):Prop:=∀ n∈t,n.label.length≤9223372036854775807
theorem Pg {p:Nat→Bool} {l:List Nat} (h:∀ m∈l,p m=false):l.any p=false:=by
 rw [List.any_eq_false];intro x hx;rw [h x hx];simp
def N1:Con:=Vx (fun (t:Sl Part) (i:Int)=>Me t.l∧Qbc t.l∧0≤i∧i<t.l.length) (fun t i=>Iv t.l i.toNat)
class Kck:Prop
theorem Kck.k (_:Kck) (h:p:=by
 first|assumption|trivial|rfl|(exfalso;clear hE Y3 Ql Qj aL hT hN Q2 Ji Jl K Zbs rD;simp_all;done)|(exfalso;clear Y3 Ql Qj aL hT hN Q2 Ji Jl K Zbs rD;simp_all;done)|skip):p:=h
class Kcm:Prop
theorem Kcm.k (_:Kcm) (h:p:=by
 first|exact ⟨j+1,by exact Xa,by omega,by omega⟩|skip):p:=h
class Kcn:Prop
theorem Kcn.k (_:Kcn) (h:p:=by
 first|exact ⟨k+1,by exact Xa,by omega,Eq.mpr hQ hs,by omega⟩|skip):p:=h
class Kcl:Prop
theorem Kcl.k (_:Kcl) (h:p:=by
 first|assumption|skip
 refine Z4 [4,85,86,87,88,89,90,91,92,93,94,95,96,97,98,99,100,101,102,103,104,105] (fun j:Nat=>[(10,.d (.int .i64 j))]) (fun j:Nat=>[]) (fun j:Nat=>j≤k∧∀ m,m<j→(!true&&((Jz t l m).label==x.label))=false) (fun j:Nat=>k-j) 0 ?_ ?_ ?_
 ·simp
 ·exact Xa
 rintro j ⟨hj,vE⟩;rcases Qh j k with ⟨Ra,Qq⟩|⟨Ra,Qq⟩
 ·have rX:(!true&&((Jz t l j).label==x.label))=false→∀ m,m<j+1→(!true&&((Jz t l m).label==x.label))=false:=fun h=>Nf vE h;have Cr:(!true&&((Jz t l j).label==x.label))=true→R=false:=fun h=>Xi (by rw [List.any_eq_true];exact ⟨j,List.mem_range.2 Ra,h⟩)
  have Es:j<l.length:=by omega
  have V8:=aL (l.getD j 0) (by simp [Es])
  have kH:(l.getD j 0).toNat<t.length:=by omega
  have Qe:=Qc (0:Int) Es;have Z6:=Qc e0 kH
  change el _ _=enc (Jz t l j) at Z6
  obtain ⟨u,hu⟩:=exq (l.getD j 0);rw [hu] at Qe Z6 V8 kH;obtain ⟨u,rfl⟩:∃ n:Nat,u=n:=⟨u.toNat,by omega⟩
  rw [Zp] at Z6 kH;obtain ⟨y,hy⟩:=exq (Jz t l j);rw [hy] at Z6 rX Cr;obtain ⟨ee,Qb⟩:=exq ((y.label==x.label));rw [Qb] at rX Cr;have Kq:Kcm:=⟨⟩;exact Qa
 ·have hs:=Wi (Pg fun m hm=>vE m (by have:=List.mem_range.1 hm;omega))
  have Kq:Kcn:=⟨⟩;exact Qa):p:=h
class Kcp:Prop
theorem Kcp.k (_:Kcp) (h:p:=by
 first|exact ⟨j+1,by exact Xa,by omega,fun m hm=>by simpa using h2 m hm,by omega⟩|skip):p:=h
class Kcq:Prop
theorem Kcq.k (_:Kcq) (h:p:=by
 first|exact ⟨k+1,by exact Xa,by omega,Eq.mpr hQ hs,by omega⟩|skip):p:=h
class Kco:Prop
theorem Kco.k (_:Kco) (h:p:=by
 first|assumption|skip
 refine Z4 [4,85,86,87,88,89,90,91,92,93,94,95,96,97,98,99,100,101,102,103,104,105] (fun j:Nat=>[(10,.d (.int .i64 j))]) (fun j:Nat=>[]) (fun j:Nat=>j≤k∧∀ m,m<j→(!false&&((Jz t l m).label==x.label))=false) (fun j:Nat=>k-j) 0 ?_ ?_ ?_
 ·simp
 ·exact Xa
 rintro j ⟨hj,vE⟩;rcases Qh j k with ⟨Ra,Qq⟩|⟨Ra,Qq⟩
 ·have rX:(!false&&((Jz t l j).label==x.label))=false→∀ m,m<j+1→(!false&&((Jz t l m).label==x.label))=false:=fun h=>Nf vE h;have Cr:(!false&&((Jz t l j).label==x.label))=true→R=false:=fun h=>Xi (by rw [List.any_eq_true];exact ⟨j,List.mem_range.2 Ra,h⟩)
  have Es:j<l.length:=by omega
  have V8:=aL (l.getD j 0) (by simp [Es])
  have kH:(l.getD j 0).toNat<t.length:=by omega
  have Qe:=Qc (0:Int) Es;have Z6:=Qc e0 kH
  change el _ _=enc (Jz t l j) at Z6
  obtain ⟨u,hu⟩:=exq (l.getD j 0);rw [hu] at Qe Z6 V8 kH;obtain ⟨u,rfl⟩:∃ n:Nat,u=n:=⟨u.toNat,by omega⟩
  rw [Zp] at Z6 kH;obtain ⟨y,hy⟩:=exq (Jz t l j);rw [hy] at Z6 rX Cr;obtain ⟨ee,Qb⟩:=exq ((y.label==x.label));rw [Qb] at rX Cr;cases ee with
  | true =>
   have hr:=Cr rfl;subst hr;exact Ng
  | false =>
   have h2:=rX rfl;have Kq:Kcp:=⟨⟩;exact Qa
 ·have hs:=Wi (Pg fun m hm=>vE m (by have:=List.mem_range.1 hm;omega))
  have Kq:Kcq:=⟨⟩;exact Qa):p:=h
class Kcs:Prop
theorem Kcs.k (_:Kcs) (h:p:=by
 first|exact ⟨j+1,by exact Xa,by omega,by omega⟩|skip):p:=h
class Kct:Prop
theorem Kct.k (_:Kct) (h:p:=by
 first|exact ⟨k+1,by exact Xa,by omega,Eq.mpr hQ hs,by omega⟩|skip):p:=h
class Kcr:Prop
theorem Kcr.k (_:Kcr) (h:p:=by
 first|assumption|skip
 refine Z4 [4,85,86,87,88,89,90,91,92,93,94,95,96,97,98,99,100,101,102,103,104,105] (fun j:Nat=>[(10,.d (.int .i64 j))]) (fun j:Nat=>[]) (fun j:Nat=>j≤k∧∀ m,m<j→(!true&&((Jz t l m).label==x.label))=false) (fun j:Nat=>k-j) 0 ?_ ?_ ?_
 ·simp
 ·exact Xa
 rintro j ⟨hj,vE⟩;rcases Qh j k with ⟨Ra,Qq⟩|⟨Ra,Qq⟩
 ·have rX:(!true&&((Jz t l j).label==x.label))=false→∀ m,m<j+1→(!true&&((Jz t l m).label==x.label))=false:=fun h=>Nf vE h;have Cr:(!true&&((Jz t l j).label==x.label))=true→R=false:=fun h=>Xi (by rw [List.any_eq_true];exact ⟨j,List.mem_range.2 Ra,h⟩)
  have Es:j<l.length:=by omega
  have V8:=aL (l.getD j 0) (by simp [Es])
  have kH:(l.getD j 0).toNat<t.length:=by omega
  have Qe:=Qc (0:Int) Es;have Z6:=Qc e0 kH
  change el _ _=enc (Jz t l j) at Z6
  obtain ⟨u,hu⟩:=exq (l.getD j 0);rw [hu] at Qe Z6 V8 kH;obtain ⟨u,rfl⟩:∃ n:Nat,u=n:=⟨u.toNat,by omega⟩
  rw [Zp] at Z6 kH;obtain ⟨y,hy⟩:=exq (Jz t l j);rw [hy] at Z6 rX Cr;obtain ⟨ee,Qb⟩:=exq ((y.label==x.label));rw [Qb] at rX Cr;have Kq:Kcs:=⟨⟩;exact Qa
 ·have hs:=Wi (Pg fun m hm=>vE m (by have:=List.mem_range.1 hm;omega))
  have Kq:Kct:=⟨⟩;exact Qa):p:=h
class Kcv:Prop
theorem Kcv.k (_:Kcv) (h:p:=by
 first|exact ⟨j+1,by exact Xa,by omega,fun m hm=>by simpa using h2 m hm,by omega⟩|skip):p:=h
class Kcw:Prop
theorem Kcw.k (_:Kcw) (h:p:=by
 first|exact ⟨k+1,by exact Xa,by omega,Eq.mpr hQ hs,by omega⟩|skip):p:=h
class Kcu:Prop
theorem Kcu.k (_:Kcu) (h:p:=by
 first|assumption|skip
 refine Z4 [4,85,86,87,88,89,90,91,92,93,94,95,96,97,98,99,100,101,102,103,104,105] (fun j:Nat=>[(10,.d (.int .i64 j))]) (fun j:Nat=>[]) (fun j:Nat=>j≤k∧∀ m,m<j→(!false&&((Jz t l m).label==x.label))=false) (fun j:Nat=>k-j) 0 ?_ ?_ ?_
 ·simp
 ·exact Xa
 rintro j ⟨hj,vE⟩;rcases Qh j k with ⟨Ra,Qq⟩|⟨Ra,Qq⟩
 ·have rX:(!false&&((Jz t l j).label==x.label))=false→∀ m,m<j+1→(!false&&((Jz t l m).label==x.label))=false:=fun h=>Nf vE h;have Cr:(!false&&((Jz t l j).label==x.label))=true→R=false:=fun h=>Xi (by rw [List.any_eq_true];exact ⟨j,List.mem_range.2 Ra,h⟩)
  have Es:j<l.length:=by omega
  have V8:=aL (l.getD j 0) (by simp [Es])
  have kH:(l.getD j 0).toNat<t.length:=by omega
  have Qe:=Qc (0:Int) Es;have Z6:=Qc e0 kH
  change el _ _=enc (Jz t l j) at Z6
  obtain ⟨u,hu⟩:=exq (l.getD j 0);rw [hu] at Qe Z6 V8 kH;obtain ⟨u,rfl⟩:∃ n:Nat,u=n:=⟨u.toNat,by omega⟩
  rw [Zp] at Z6 kH;obtain ⟨y,hy⟩:=exq (Jz t l j);rw [hy] at Z6 rX Cr;obtain ⟨ee,Qb⟩:=exq ((y.label==x.label));rw [Qb] at rX Cr;cases ee with
  | true =>
   have hr:=Cr rfl;subst hr;exact Ng
  | false =>
   have h2:=rX rfl;have Kq:Kcv:=⟨⟩;exact Qa
 ·have hs:=Wi (Pg fun m hm=>vE m (by have:=List.mem_range.1 hm;omega))
  have Kq:Kcw:=⟨⟩;exact Qa):p:=h
class Kcy:Prop
theorem Kcy.k (_:Kcy) (h:p:=by
 first|exact ⟨j+1,by exact Xa,by omega,by omega⟩|skip):p:=h
class Kcz:Prop
theorem Kcz.k (_:Kcz) (h:p:=by
 first|exact ⟨k+1,by exact Xa,by omega,Eq.mpr hQ hs,by omega⟩|skip):p:=h
class Kcx:Prop
theorem Kcx.k (_:Kcx) (h:p:=by
 first|assumption|skip
 refine Z4 [4,85,86,87,88,89,90,91,92,93,94,95,96,97,98,99,100,101,102,103,104,105] (fun j:Nat=>[(10,.d (.int .i64 j))]) (fun j:Nat=>[]) (fun j:Nat=>j≤k∧∀ m,m<j→(!true&&((Jz t l m).label==x.label))=false) (fun j:Nat=>k-j) 0 ?_ ?_ ?_
 ·simp
 ·exact Xa
 rintro j ⟨hj,vE⟩;rcases Qh j k with ⟨Ra,Qq⟩|⟨Ra,Qq⟩
 ·have rX:(!true&&((Jz t l j).label==x.label))=false→∀ m,m<j+1→(!true&&((Jz t l m).label==x.label))=false:=fun h=>Nf vE h;have Cr:(!true&&((Jz t l j).label==x.label))=true→R=false:=fun h=>Xi (by rw [List.any_eq_true];exact ⟨j,List.mem_range.2 Ra,h⟩)
  have Es:j<l.length:=by omega
  have V8:=aL (l.getD j 0) (by simp [Es])
  have kH:(l.getD j 0).toNat<t.length:=by omega
  have Qe:=Qc (0:Int) Es;have Z6:=Qc e0 kH
  change el _ _=enc (Jz t l j) at Z6
  obtain ⟨u,hu⟩:=exq (l.getD j 0);rw [hu] at Qe Z6 V8 kH;obtain ⟨u,rfl⟩:∃ n:Nat,u=n:=⟨u.toNat,by omega⟩
  rw [Zp] at Z6 kH;obtain ⟨y,hy⟩:=exq (Jz t l j);rw [hy] at Z6 rX Cr;obtain ⟨ee,Qb⟩:=exq ((y.label==x.label));rw [Qb] at rX Cr;have Kq:Kcy:=⟨⟩;exact Qa
 ·have hs:=Wi (Pg fun m hm=>vE m (by have:=List.mem_range.1 hm;omega))
  have Kq:Kcz:=⟨⟩;exact Qa):p:=h
class KcB:Prop
theorem KcB.k (_:KcB) (h:p:=by
 first|exact ⟨j+1,by exact Xa,by omega,by omega⟩|skip):p:=h
class KcC:Prop
theorem KcC.k (_:KcC) (h:p:=by
 first|exact ⟨k+1,by exact Xa,by omega,Eq.mpr hQ hs,by omega⟩|skip):p:=h
class KcA:Prop
theorem KcA.k (_:KcA) (h:p:=by
 first|assumption|skip
 refine Z4 [4,85,86,87,88,89,90,91,92,93,94,95,96,97,98,99,100,101,102,103,104,105] (fun j:Nat=>[(10,.d (.int .i64 j))]) (fun j:Nat=>[]) (fun j:Nat=>j≤k∧∀ m,m<j→(!true&&((Jz t l m).label==x.label))=false) (fun j:Nat=>k-j) 0 ?_ ?_ ?_
 ·simp
 ·exact Xa
 rintro j ⟨hj,vE⟩;rcases Qh j k with ⟨Ra,Qq⟩|⟨Ra,Qq⟩
 ·have rX:(!true&&((Jz t l j).label==x.label))=false→∀ m,m<j+1→(!true&&((Jz t l m).label==x.label))=false:=fun h=>Nf vE h;have Cr:(!true&&((Jz t l j).label==x.label))=true→R=false:=fun h=>Xi (by rw [List.any_eq_true];exact ⟨j,List.mem_range.2 Ra,h⟩)
  have Es:j<l.length:=by omega
  have V8:=aL (l.getD j 0) (by simp [Es])
  have kH:(l.getD j 0).toNat<t.length:=by omega
  have Qe:=Qc (0:Int) Es;have Z6:=Qc e0 kH
  change el _ _=enc (Jz t l j) at Z6
  obtain ⟨u,hu⟩:=exq (l.getD j 0);rw [hu] at Qe Z6 V8 kH;obtain ⟨u,rfl⟩:∃ n:Nat,u=n:=⟨u.toNat,by omega⟩
  rw [Zp] at Z6 kH;obtain ⟨y,hy⟩:=exq (Jz t l j);rw [hy] at Z6 rX Cr;obtain ⟨ee,Qb⟩:=exq ((y.label==x.label));rw [Qb] at rX Cr;have Kq:KcB:=⟨⟩;exact Qa
 ·have hs:=Wi (Pg fun m hm=>vE m (by have:=List.mem_range.1 hm;omega))
  have Kq:KcC:=⟨⟩;exact Qa):p:=h
class Kcj:Prop
theorem Kcj.k (_:Kcj) (h:p:=by
 repeat' first|exact Cg|with_reducible apply Z9|intro _
 all_goals try assumption
 refine Z4 [4,7,8,9,10,22,23,24,25,26,27,28,29,30,31,32,33,34,35,36,37,38,39,40,41,42,43,44,45,46,47,48,49,50,51,52,53,54,55,56,57,58,59,60,61,62,63,64,65,66,67,68,69,70,71,72,73,74,75,76,77,78,79,80,81,82,83,84,85,86,87,88,89,90,91,92,93,94,95,96,97,98,99,100,101,102,103,104,105] (fun k:Nat=>[(6,.d (.int .i64 k))]) (fun k:Nat=>[]) (fun k:Nat=>k≤l.length∧∀ j,j<k→Td t p l j=true) (fun k:Nat=>l.length-k) 0 ?_ ?_ ?_
 ·simp
 ·exact Xa
 rintro k ⟨hk,Y3⟩;rcases Qh k l.length with ⟨Qg,Q3⟩|⟨Qg,Q3⟩
 ·have Zbs:=aL (l.getD k 0) (by simp [Qg])
  have rD:(l.getD k 0).toNat<t.length:=by omega
  have Qcx:(Jz t l k).label.length≤9223372036854775807:=hN (Jz t l k) (by
   show t.getD _ e0∈t;rw [Zk,Zh rD];exact List.getElem_mem rD)
  have Wi:Td t p l k=true→∀ j,j<k+1→Td t p l j=true:=fun h=>Nf Y3 h;have Xi:Td t p l k=false→R=false:=by
   intro h;rw [←Qj,Bool.eq_false_iff];intro hc;rw [List.all_eq_true] at hc;have:=hc k (List.mem_range.2 Qg);rw [h] at this;cases this
  obtain ⟨Q,hQ⟩:=exq ((∀ j,j<k+1→Td t p l j=true));rw [hQ] at Wi;unfold Td at Wi Xi;have Ji:=Qc (0:Int) Qg;have Jl:=Qc e0 rD
  change el _ _=enc (Jz t l k) at Jl
  obtain ⟨v,hv⟩:=exq (l.getD k 0);rw [hv] at Ji Jl Zbs rD;obtain ⟨v,rfl⟩:∃ n:Nat,v=n:=⟨v.toNat,by omega⟩
  rw [Zp] at Jl rD;obtain ⟨x,hx⟩:=exq (Jz t l k);rw [hx] at Qcx Wi Xi Jl;unfold Ro at Wi Xi;obtain ⟨kb,Js⟩:=exq (Jw 0 (k:Int));rw [Js] at Wi Xi;obtain ⟨a7,Jk⟩:=exq ((p.kind==7));obtain ⟨a10,Q7⟩:=exq ((p.kind==10));obtain ⟨a8,Zz⟩:=exq ((x.kind==8));obtain ⟨tg,Qi⟩:=exq (Ht x.label);obtain ⟨w,Qo⟩:=exq (Xt x.label);obtain ⟨le,Qt⟩:=exq ((x.label==[]));rw [Jk,Q7,Zz,Qi,Qo,Qt] at Wi Xi;have hE:a7=true→a10=false:=fun e=>by rw [←Jk,Zi] at e;rw [←Q7,e];rfl
  cases hA:((a8==(a7&&kb))&&!(((a7&&kb)&&!tg)||((a10&&!w)||((!(a7&&kb)&&!a10)&&!le)))) with
  | false =>
   have hr:=Xi (by rw [hA,Bool.false_and])
   subst hr;clear Xi Wi;have Kq:Kck:=⟨⟩;exact Qa
  | true =>
   rw [hA,Bool.true_and,Bool.not_eq_true'] at Wi;rw [hA,Bool.true_and,Bool.not_eq_false'] at Xi;unfold yK at Wi Xi;rw [Qt] at Wi Xi;have Qbk:(a7=true∧kb=true∧a10=false∧a8=true∧tg=true)∨(a7=false∧a10=true∧a8=false∧w=true)∨(a7=false∧a10=false∧a8=false∧le=true)∨(a7=true∧kb=false∧a10=false∧a8=false∧le=true):=by
    clear Xi Wi Y3 Ql Qj aL hT hN Q2 Ji Jl Jk Q7 Zz Qi Qo Qt Js;revert hA hE;cases a7<;>cases kb<;>cases a10<;>cases a8<;>cases tg<;>cases w<;>cases le<;>simp
   clear hA hE;rcases Qbk with ⟨rfl,rfl,rfl,rfl,rfl⟩|⟨rfl,rfl,rfl,rfl⟩|⟨rfl,rfl,rfl,rfl⟩|⟨rfl,rfl,rfl,rfl,rfl⟩
   ·cases le with
    | true =>
     have Kq:Kcl:=⟨⟩;exact Qa
    | false =>
     have Kq:Kco:=⟨⟩;exact Qa
   ·cases le with
    | true =>
     have Kq:Kcr:=⟨⟩;exact Qa
    | false =>
     have Kq:Kcu:=⟨⟩;exact Qa
   ·have Kq:Kcx:=⟨⟩;exact Qa
   ·have Kq:KcA:=⟨⟩;exact Qa
 ·have hr:R=true:=by
   rw [←Qj,List.all_eq_true];intro j hj;exact Y3 j (by have:=List.mem_range.1 hj;omega)
  subst hr;exact A4):p:=h
theorem good_labelled5:Jd Tryz.prog (34,N1):=by
 obtain ⟨Kx,Kt,Kc,Kd,Kb,Ku,Kw,K,Y0,Xr,eV,kB,_⟩:=Yc Qp Z0 [] false (Xu good_Kids5 Nv.eq_def (Xu good_Many5 Nu.eq_def (Xu good_IsWord1 Kl.eq_def (Xu good_IsTag1 Nx.eq_def Yb))));have Ko:=N1.eq_def;refine Ve K Tryz.func34 [.tmp 4] rfl 106 rfl (fun c hc J0 Zo=>?_);unfold N1 at Zo;obtain ⟨⟨t⟩,i,rfl,hT,hN,Zio,Zbt⟩:=Jh Zo;simp only at hT hN Zio Zbt;clear Zo;obtain ⟨i,rfl⟩:∃ n:Nat,i=n:=⟨i.toNat,by omega⟩
 have Bk:i<t.length:=by omega
 have Z8:=hT.1;obtain ⟨R,Ql⟩:=exq (Iv t i);have Qj:=Ql;unfold Iv at Qj;obtain ⟨l,Qz⟩:=exq (Vn t i);have aL:∀ x∈l,(i:Int)<x∧x<t.length:=by rw [←Qz];exact Zgk
 have Q2:=Qc e0 Bk;have Qcs:=hT.2 (t.getD i e0) (by simp [Bk])
 have Ly:l.length≤100000:=by
  rw [←Qz];unfold Vn;split
  ·simp
  ·have h1:=Lk t (Qu (t.getD (Int.toNat i) e0)).toNat ((Int.toNat i)+1);have h2:=Qcs.2.1;simp only [Zp] at h1 ⊢;omega
 rw [Qz] at Qj;obtain ⟨p,hp⟩:=exq (t.getD i e0);rw [hp] at Qj Q2 Qcs;have Qd9:=Qcs.2.2;cases U4:((l.length:Int)==Qu p) with
 | false =>
  rw [U4,Bool.false_and] at Qj;subst Qj;have Qx:((l.length:Int) != Qu p)=true:=by rw [bne,U4];rfl
  cases hc;refine Ym 6 ?_;exact Ng
 | true =>
 rw [U4,Bool.true_and] at Qj;have Qx:((l.length:Int) != Qu p)=false:=by rw [bne,U4];rfl
 cases hc;refine Ym 6 ?_;have Kq:Kcj:=⟨⟩;exact rT
theorem wQ {p:Part} {w tg b t u li na op:Bool} (h:Xb p w tg b t u li na op=true):p.many≤50∧(p.kind=7→1≤p.many)∧(p.kind=10→0≤p.many):=by
 unfold Xb at h;by_cases h0:p.kind≠0∧p.kind≠14∧p.num≠0
 ·rw [if_pos h0] at h;cases h
 rw [if_neg h0] at h;by_cases h1:p.kind=0
 ·rw [if_pos h1] at h;simp only [Zg,Zi] at h;omega
 rw [if_neg h1] at h;by_cases h2:p.kind=1
 ·rw [if_pos h2] at h;simp only [Zg,Zi] at h;omega
 rw [if_neg h2] at h;by_cases h3:p.kind=2∨p.kind=4
 ·rw [if_pos h3] at h;simp only [Zg,Zi] at h;omega
 rw [if_neg h3] at h;by_cases h4:p.kind=3∨p.kind=6
 ·rw [if_pos h4] at h;simp only [Zg,Zi] at h;omega
 rw [if_neg h4] at h;by_cases h5:p.kind=5
 ·rw [if_pos h5] at h;simp only [Zg,Zi] at h;omega
 rw [if_neg h5] at h;by_cases h6:p.kind=7
 ·rw [if_pos h6] at h;simp only [Zg,Zi,N8] at h;omega
 rw [if_neg h6] at h;by_cases h7:p.kind=8
 ·rw [if_pos h7] at h;simp only [Zg,Zi] at h;omega
 rw [if_neg h7] at h;by_cases h8:p.kind=9
 ·rw [if_pos h8] at h;simp only [Zg,Zi] at h;omega
 rw [if_neg h8] at h;by_cases h9:p.kind=10
 ·rw [if_pos h9] at h;simp only [Zg,Zi,N8] at h;omega
 rw [if_neg h9] at h;by_cases ha:p.kind=11
 ·rw [if_pos ha] at h;simp only [Zg,Zi] at h;omega
 rw [if_neg ha] at h;by_cases hb:p.kind=12
 ·rw [if_pos hb] at h;simp only [Zg,Zi] at h;omega
 rw [if_neg hb] at h;by_cases hc:p.kind=13
 ·rw [if_pos hc] at h;simp only [Zg,Zi] at h;omega
 rw [if_neg hc] at h;by_cases hd:p.kind=14
 ·rw [if_pos hd] at h;simp only [Zg,Zi] at h;omega
 rw [if_neg hd] at h;cases h
theorem Zbx {n:Part} (h:U8 n=true):n.many≤50∧(n.kind=7→1≤n.many)∧(n.kind=10→0≤n.many):=by
 unfold U8 at h;exact wQ h
theorem Ex {n:Part} (h:U8 n=true):0≤Qu n∧Qu n≤60∧n.many≤1000000:=by
 obtain ⟨h1,h2,h3⟩:=Zbx h;have hm:Mt n.many 0=if n.many<0 then 0 else n.many:=rfl
 unfold Qu;rw [hm];refine ⟨?_,?_,by omega⟩
 ·repeat' (split;first|omega|skip)
  all_goals omega
 ·repeat' (split;first|omega|skip)
  all_goals omega
def Xc (t:List Part):Bool:=t.length==0||Jw 10000 t.length||!((t.getD 0 e0).label==[])||(t.getD 0 e0).kind==8
def Y6 (t:List Part):Bool:=!Xc t&&(t.all U8&&((Sf t 0==(t.length:Int)&&Pq t)&&(List.range t.length).all fun i=>Iv t i))
def Qbe (p:Part):Prop:=vW p∧p.name.length≤9223372036854775806
def T4:Con:=Xh (fun (t:Sl Part)=>t.l.length≤9223372036854775807∧∀ p∈t.l,Qbe p) (fun t=>Y6 t.l)
class KcD:Prop
theorem KcD.k (_:KcD) (h:p:=by
 unfold Y6 Xc;simp [h0]):p:=h
class KcF:Prop
theorem KcF.k (_:KcF) (h:p:=by
 repeat' first|exact Cg|with_reducible apply Z9|intro _
 ·rename_i hb;rw [hr,aV (p:=U8) e0 k Qg hb];rfl
 ·rename_i hb;refine ⟨k+1,by exact Xa,by omega,fun j hj=>?_,by omega⟩
  by_cases aC:j=k
  ·subst aC;exact hb
  ·exact Y3 j (by omega)):p:=h
class KcH:Prop
theorem KcH.k (_:KcH) (h:p:=by
 repeat' first|exact Cg|with_reducible apply Z9|intro _
 ·rename_i hb;rw [Cl,Lj k Rd hb]
 ·rename_i hb;refine ⟨k+1,by exact Xa,by omega,fun j hj=>?_,by omega⟩
  by_cases aC:j=k
  ·subst aC;exact hb
  ·exact Zh5 j (by omega)):p:=h
class KcI:Prop
theorem KcI.k (_:KcI) (h:p:=by
 rw [Cl,Hp fun j hj=>Zh5 j (by omega)]):p:=h
class KcG:Prop
theorem KcG.k (_:KcG) (h:p:=by
 repeat' first|exact Cg|with_reducible apply Z9|intro _
 ·rename_i he hs;rw [hr,hs];simp
 ·rename_i he hs;have Cl:Y6 t=(List.range t.length).all fun i=>Iv t i:=by
   rw [hr,hs,show (Sf t 0==(t.length:Int))=true by simpa using he]
   rfl
  refine Z4 [2,49,50,51,52,53,54,55,56,57,58] (fun k:Nat=>[(4,.d (.int .i64 k))]) (fun k:Nat=>[]) (fun k:Nat=>k≤t.length∧∀ j,j<k→Iv t j=true) (fun k:Nat=>t.length-k) 0 ?_ ?_ ?_
  ·simp
  ·exact Xa
  rintro k ⟨Az,Zh5⟩;rcases Qh k t.length with ⟨Rd,Q3⟩|⟨Rd,Q3⟩
  ·have Kq:KcH:=⟨⟩;exact rT
  ·have Kq:KcI:=⟨⟩;exact rT
 ·rename_i he;rw [hr,show (Sf t 0==(t.length:Int))=false by simpa using he]
  rfl):p:=h
class KcE:Prop
theorem KcE.k (_:KcE) (h:p:=by
 repeat' first|exact Cg|with_reducible apply Z9|intro _
 ·rename_i h1 h2 h9;exact Zx8 (by unfold Xc;rw [show ((t.getD 0 e0).kind==8)=true by rw [Zi];exact h9];simp only [Bool.or_true])
 ·rename_i h1 h3 h9;have M8:t.length≤10000:=by omega
  have H7:Xc t=false:=by
   unfold Xc;simp only [Bool.or_eq_false_iff,Jj,Za];refine ⟨⟨⟨by omega,by omega⟩,?_⟩,h9⟩
   simpa using h3
  have hr:Y6 t=(t.all U8&&((Sf t 0==(t.length:Int)&&Pq t)&&(List.range t.length).all fun i=>Iv t i)):=by
   unfold Y6;rw [H7];rfl
  refine Z4 [2,27,28,29,30,31,32,33,34,35,36,37,38] (fun k:Nat=>[(3,.d (.int .i64 k))]) (fun k:Nat=>[]) (fun k:Nat=>k≤t.length∧∀ j,j<k→U8 (t.getD j e0)=true) (fun k:Nat=>t.length-k) 0 ?_ ?_ ?_
  ·simp
  ·exact Xa
  rintro k ⟨hk,Y3⟩;rcases Qh k t.length with ⟨Qg,Qx⟩|⟨Qg,Qx⟩
  ·obtain ⟨Qcz,Qex⟩:=hN (t.getD k e0) (by simp [Qg])
   have Ql:=Qc e0 Qg;have Kq:KcF:=⟨⟩;exact rT
  ·have J8:t.all U8=true:=Sq (p:=U8) e0 fun j hj=>Y3 j (by omega)
   have hT:Me t:=⟨by omega,fun n hn=>Ex (List.all_eq_true.1 J8 n hn)⟩
   have hL:Qbc t:=fun n hn=>(hN n hn).1.2.2.1;rw [J8,Bool.true_and] at hr;have Kq:KcG:=⟨⟩;exact rT
 ·rename_i h1 h3;exact Zx8 (by unfold Xc;rw [show ((t.getD 0 e0).label==[])=false by rw [Za];exact h3];simp only [Bool.not_false,Bool.or_true,Bool.true_or])
 ·rename_i h1;exact Zx8 (by unfold Xc;rw [show Jw 10000 (t.length:Int)=true by rw [Je];exact h1];simp only [Bool.or_true,Bool.true_or])):p:=h
theorem good_Right5:Jd Tryz.prog (13,T4):=by
 obtain ⟨Kx,Kt,Kc,Kd,Kb,Ku,Kw,K,Y0,Xr,eV,kB,_⟩:=Yc Qp Z0 [] false (Xu good_End5 Sn.eq_def (Xu good_uses5 Ff.eq_def (Xu good_shallow5 Mw.eq_def (Xu good_labelled5 N1.eq_def Yb))));have Ko:=T4.eq_def;refine Ve K Tryz.func13 [.tmp 2] rfl 59 rfl (fun c hc J0 Zo=>?_);unfold T4 at Zo;obtain ⟨⟨t⟩,rfl,ht,hN⟩:=Qs Zo;simp only at ht hN;cases hc;refine Ym 3 ?_;by_cases h0:t.length=0
 ·have Qz:((t.length:Int)==0)=true:=by simp [h0]
  have Kq:KcD:=⟨⟩;exact rT
 have Qz:((t.length:Int)==0)=false:=by rw [Za];omega
 have zW:0<t.length:=by omega
 have Zx8:Xc t=true→false=Y6 t:=by
  intro h;unfold Y6;rw [h];rfl
 have Q2:=Qc e0 zW;have Kq:KcE:=⟨⟩;exact rT
def Vc (n:Part):Part:=⟨n.kind,n.label,n.name,n.bind,n.many,n.num,n.t.map Gz,n.u.map Gz⟩
def Zaw (x y:Part):Bool:=(x.kind==y.kind)&&((x.label==y.label)&&((x.name==y.name)&&((x.bind==y.bind)&&((x.many==y.many)&&(x.num==y.num)))))
def K9 (x y:Part):Bool:=Zaw x y&&(Mo x.t y.t&&Mo x.u y.u)
theorem S6 {x y:Part}:K9 x y=true↔Vc x=Vc y:=by
 cases x;cases y;unfold K9 Zaw Vc Mo;simp [and_assoc]
def Bn (a b:List Part):Bool:=a.map Vc==b.map Vc
def kW (n:Part):Prop:=n.t.length≤9223372036854775807∧n.u.length≤9223372036854775807
def vI (a:List Part):Prop:=a.length≤9223372036854775807∧∀ n∈a,kW n
def Fr:Con:=Vx (fun (a b:Sl Part)=>vI a.l∧vI b.l) (fun a b=>Bn a.l b.l)
class KcK:Prop
theorem KcK.k (_:KcK) (h:p:=by
 first|assumption|(symm;apply Xi;clear Xi Wi Y3 Q2 Qj hQ Ql Q3 K hA hB;simp_all;done)|(refine ⟨k+1,by exact Xa,by omega,Eq.mpr hQ (Wi ?_),by omega⟩;clear Xi Wi Y3 Q2 Qj hQ Ql Q3 K hA hB;simp_all;done)|skip):p:=h
class KcJ:Prop
theorem KcJ.k (_:KcJ) (h:p:=by
 refine Z4 [4,6,7,13,14,15,16,17,18,19,20,21,22,23,24,25,26,27,28,29,30,31,32,33,34,35,36,37,38,39,40,41,42,43,44,45,46,47,48,49,50,51,52,53,54,55,56,57,58,59,60,61,62,63,64,65,66,67,68,69,70,71,72,73,74,75,76,77,78,79,80] (fun k:Nat=>[(5,.d (.int .i64 k))]) (fun k:Nat=>[]) (fun k:Nat=>k≤a.length∧∀ j,j<k→Vc (a.getD j e0)=Vc (b.getD j e0)) (fun k:Nat=>a.length-k) 0 ?_ ?_ ?_
 ·simp
 ·exact Xa
 rintro k ⟨hk,Y3⟩;rcases Qh k a.length with ⟨Qg,Qx⟩|⟨Qg,Qx⟩
 ·have Rd:k<b.length:=by omega
  have Ql:=Qc e0 Qg;have Q3:=Qc e0 Rd;obtain ⟨s1,s2⟩:=hA (a.getD k e0) (by simp [Qg])
  obtain ⟨s3,s4⟩:=hB (b.getD k e0) (by simp [Rd])
  have Xi:K9 (a.getD k e0) (b.getD k e0)=false→R=false:=by
   intro h;rw [←Qj,Za];intro e;have h1:(a.map Vc).getD k e0=(b.map Vc).getD k e0:=by rw [e]
   have h2:Vc (a.getD k e0)=Vc (b.getD k e0):=by simpa [Qg,Rd] using h1
   rw [S6.2 h2] at h;cases h
  have Wi:K9 (a.getD k e0) (b.getD k e0)=true→∀ j,j<k+1→Vc (a.getD j e0)=Vc (b.getD j e0):=fun h=>Nf Y3 (S6.1 h);obtain ⟨Q,hQ⟩:=exq ((∀ j,j<k+1→Vc (a.getD j e0)=Vc (b.getD j e0)));rw [hQ] at Wi;obtain ⟨x,hx⟩:=exq (a.getD k e0);obtain ⟨y,hy⟩:=exq (b.getD k e0);rw [hx] at Ql s1 s2 Xi Wi;rw [hy] at Q3 s3 s4 Xi Wi;unfold K9 Zaw at Xi Wi;obtain ⟨b1,h1⟩:=exq ((x.kind==y.kind));obtain ⟨b5,h5⟩:=exq ((x.many==y.many));obtain ⟨b6,h6⟩:=exq ((x.num==y.num));obtain ⟨b7,Jk⟩:=exq (Mo x.t y.t);obtain ⟨b8,Q7⟩:=exq (Mo x.u y.u);have Ji:(x.kind != y.kind)=!b1:=by rw [bne,h1]
  have Jl:(x.many != y.many)=!b5:=by rw [bne,h5]
  have Js:(x.num != y.num)=!b6:=by rw [bne,h6]
  rw [h1,h5,h6,Jk,Q7] at Xi Wi;have Kq:KcK:=⟨⟩;exact Qa
 ·have hr:R=true:=by
   rw [←Qj,Zi];refine List.ext_getElem (by simp [Hk]) fun j h1 h2=>?_
   rw [Qn] at h1 h2;have:=Y3 j (by omega)
   simpa [h1,h2] using this
  subst hr;exact A4):p:=h
theorem good_Same5:Jd Tryz.prog (15,Fr):=by
 obtain ⟨Kx,Kt,Kc,Kd,Kb,Ku,Kw,K,Y0,_⟩:=Yc Qp Z0 [] false (Xu good_Same3 Fs.eq_def Yb);have Ko:=Fr.eq_def;refine Ve K Tryz.func15 [.tmp 4] rfl 81 rfl (fun c hc J0 Zo=>?_);unfold Fr at Zo;obtain ⟨⟨a⟩,⟨b⟩,rfl,Qe7,Qe6⟩:=Jh Zo;obtain ⟨ha,hA⟩:vI a:=Qe7;obtain ⟨hb,hB⟩:vI b:=Qe6;clear Zo;obtain ⟨R,Q2⟩:=exq (Bn a b);have Qj:=Q2;unfold Bn at Qj;by_cases Hk:a.length=b.length
 case neg =>
  have hr:R=false:=by
   rw [←Qj,Za];intro h;have:=congrArg List.length h;rw [Qn,Qn] at this;exact Hk this
  have Qz:((a.length:Int) != (b.length:Int))=true:=by rw [bne_iff_ne];omega
  subst hr;cases hc;refine Ym 5 ?_;exact A4
 have Qz:((a.length:Int) != (b.length:Int))=false:=by rw [bne_eq_false_iff_eq];omega
 cases hc;refine Ym 5 ?_;have Kq:KcJ:=⟨⟩;exact Qa
theorem Zg6 {a b:List Part} (h:(a==b)=true):Bn a b=true:=by
 rw [eq_of_beq h];unfold Bn;exact beq_self_eq_true _
theorem pL {a:List Part} (h:a.length≤9223372036854775807) (h2:∀ n∈a,kW n):vI a:=⟨h,h2⟩
def O1:Con:=Vx (fun (a b:Sl Part)=>vI a.l∧vI b.l) (fun a b=>a.l==b.l)
class KcL:Prop
theorem KcL.k (_:KcL) (h:p:=by
 first|exact pL ha hA|exact pL hb hB|skip):p:=h
class KcN:Prop
theorem KcN.k (_:KcN) (h:p:=by
 first|assumption|(symm;apply Xi;clear Xi Wi Y3 Q2 hQ Ql Q3 K hA hB;simp_all;done)|(refine ⟨k+1,by exact Xa,by omega,Eq.mpr hQ (Wi ?_),by omega⟩;clear Xi Wi Y3 Q2 hQ Ql Q3 K hA hB;simp_all;done)|skip):p:=h
class KcM:Prop
theorem KcM.k (_:KcM) (h:p:=by
 repeat' first|exact Cg|with_reducible apply Z9|intro _
 all_goals first|exact pL ha hA|exact pL hb hB|skip
 refine Z4 [4,10,11,12,13,14,15,16,17,18,19,20,21,22,23,24,25,26,27,28,29,30,31,32,33,34,35,36,37,38,39,40,41] (fun k:Nat=>[(5,.d (.int .i64 k))]) (fun k:Nat=>[]) (fun k:Nat=>k≤a.length∧∀ j,j<k→a.getD j e0=b.getD j e0) (fun k:Nat=>a.length-k) 0 ?_ ?_ ?_
 ·simp
 ·exact Xa
 rintro k ⟨hk,Y3⟩;rcases Qh k a.length with ⟨Qg,Qx⟩|⟨Qg,Qx⟩
 ·have Rd:k<b.length:=by omega
  have Ql:=Qc e0 Qg;have Q3:=Qc e0 Rd;obtain ⟨s1,s2⟩:=hA (a.getD k e0) (by simp [Qg])
  obtain ⟨s3,s4⟩:=hB (b.getD k e0) (by simp [Rd])
  have Zim:Vc (a.getD k e0)=Vc (b.getD k e0):=by
   have Ji:(a.map Vc).getD k e0=(b.map Vc).getD k e0:=by rw [Zkl]
   simpa [Qg,Rd] using Ji
  have Xi:a.getD k e0≠b.getD k e0→R=false:=by
   intro h;rw [←Q2,Za];intro e;exact h (by rw [e])
  have Wi:a.getD k e0=b.getD k e0→∀ j,j<k+1→a.getD j e0=b.getD j e0:=fun h=>Nf Y3 h;obtain ⟨Q,hQ⟩:=exq ((∀ j,j<k+1→a.getD j e0=b.getD j e0));rw [hQ] at Wi;obtain ⟨x,hx⟩:=exq (a.getD k e0);obtain ⟨y,hy⟩:=exq (b.getD k e0);rw [hx] at Ql s1 s2 Xi Wi Zim;rw [hy] at Q3 s3 s4 Xi Wi Zim;have Zvd:x=y↔((x.t==y.t)&&(x.u==y.u))=true:=by
   constructor
   ·rintro rfl;simp
   ·intro h;rw [Zg,Zi,Zi] at h;cases x;cases y;unfold Vc at Zim;simp only [Part.mk.injEq] at Zim h ⊢;exact ⟨Zim.1,Zim.2.1,Zim.2.2.1,Zim.2.2.2.1,Zim.2.2.2.2.1,Zim.2.2.2.2.2.1,h.1,h.2⟩
  obtain ⟨b1,Ji⟩:=exq ((x.t==y.t));obtain ⟨b2,Jl⟩:=exq ((x.u==y.u));rw [Ji,Jl] at Zvd;rw [ne_eq,Zvd] at Xi;rw [Zvd] at Wi;clear Zvd;have Kq:KcN:=⟨⟩;exact Qa
 ·have hr:R=true:=by
   rw [←Q2,Zi];refine List.ext_getElem Hk fun j Ji Jl=>?_;have:=Y3 j (by omega)
   simpa [Ji,Jl] using this
  subst hr;exact A4):p:=h
theorem good_One5:Jd Tryz.prog (26,O1):=by
 obtain ⟨Kx,Kt,Kc,Kd,Kb,Ku,Kw,K,Y0,Xr,_⟩:=Yc Qp Z0 [] false (Xu good_Same5 Fr.eq_def (Xu good_One3 O2.eq_def Yb));have Ko:=O1.eq_def;refine Ve K Tryz.func26 [.tmp 4] rfl 42 rfl (fun c hc J0 Zo=>?_);unfold O1 at Zo;obtain ⟨⟨a⟩,⟨b⟩,rfl,Qe7,Qe6⟩:=Jh Zo;obtain ⟨ha,hA⟩:vI a:=Qe7;obtain ⟨hb,hB⟩:vI b:=Qe6;clear Zo;obtain ⟨R,Q2⟩:=exq ((a==b));cases Qz:Bn a b with
 | false =>
  have hr:R=false:=by
   rw [←Q2,Bool.eq_false_iff];intro h;rw [Zg6 h] at Qz;cases Qz
  subst hr;cases hc;refine Ym 2 ?_;have Kq:KcL:=⟨⟩;exact Qa
 | true =>
 have Zkl:a.map Vc=b.map Vc:=by unfold Bn at Qz;exact eq_of_beq Qz
 have Hk:a.length=b.length:=by have:=congrArg List.length Zkl;rwa [Qn,Qn] at this
 cases hc;refine Ym 2 ?_;have Kq:KcM:=⟨⟩;exact rT
def Zf4 (n:Part):Bool:=Jw 100 n.label.length||(Jw 200 n.name.length||(Jw 100 n.bind.length||(Jw 60 n.t.length||Jw 60 n.u.length)))
def Lg (t:List Node):Bool:=t.all fun n=>!Jw 100 n.name.length
def jB (n:Part):Bool:=!Zf4 n&&(Lg n.t&&Lg n.u)
def Zdl (t:List Part) (most:Int):Bool:=(List.range t.length).all fun k=>!((k:Int)==most)&&jB (t.getD k e0)
def O3:Con:=Vx (fun (t:Sl Part) (_:Int)=>t.l.length≤9223372036854775807∧∀ p∈t.l,vW p) (fun t m=>Zdl t.l m)
theorem mQ {t:List Node} {k:Nat} (h:k<t.length) (hb:Jw 100 (t.getD k n0).name.length=true):Lg t=false:=by
 unfold Lg;exact aV (p:=fun n:Node=>!Jw 100 n.name.length) n0 k h (by rw [hb];rfl)
theorem gV {t:List Node} (h:∀ j,j<t.length→Jw 100 (t.getD j n0).name.length=false):Lg t=true:=by
 unfold Lg;exact Sq (p:=fun n:Node=>!Jw 100 n.name.length) n0 fun j hj=>by rw [h j hj];rfl
class KcP:Prop
theorem KcP.k (_:KcP) (h:p:=by
 first|assumption|trivial|rfl|(exfalso;clear Y3 Jk Qj hQ Q2 K hT;simp_all;done)|skip):p:=h
class KcR:Prop
theorem KcR.k (_:KcR) (h:p:=by
 first|exact ⟨i+1,by exact Xa,by omega,fun j hj=>by have Ji:=Q3 j hj;rw [Jj] at Ji;exact Ji,by omega⟩|skip):p:=h
class KcT:Prop
theorem KcT.k (_:KcT) (h:p:=by
 first|exact ⟨i2+1,by exact Xa,by omega,fun j hj=>by have Ji:=Q3 j hj;rw [Jj] at Ji;exact Ji,by omega⟩|skip):p:=h
class KcU:Prop
theorem KcU.k (_:KcU) (h:p:=by
 first|exact ⟨k+1,by exact Xa,by omega,Eq.mpr hQ hq,by omega⟩|skip):p:=h
class KcS:Prop
theorem KcS.k (_:KcS) (h:p:=by
 refine Z4 [4,83,84,85,86,87,88,89,90,91,92,93,94,95,96,97,98,99,100,101,102,103] (fun i:Nat=>[(7,.d (.int .i64 i))]) (fun i:Nat=>[]) (fun i:Nat=>i≤x.u.length∧∀ j,j<i→Jw 100 (x.u.getD j n0).name.length=false) (fun i:Nat=>x.u.length-i) 0 ?_ ?_ ?_
 ·simp
 ·exact Xa
 rintro i2 ⟨Zyp,Qbo⟩;rcases Qh i2 x.u.length with ⟨Cp,Qo⟩|⟨Cp,Qo⟩
 ·have Zz:=Qc n0 Cp;have Zir:Jw 100 (x.u.getD i2 n0).name.length=true→R=false:=fun h=>Xi (by rw [mQ Cp h];rfl)
  have Zxs:Jw 100 (x.u.getD i2 n0).name.length=false→∀ j,j<i2+1→Jw 100 (x.u.getD j n0).name.length=false:=fun h=>Nf Qbo h;have Ut:=f4 _ (show x.u.getD i2 n0∈x.u by simp [Cp])
  obtain ⟨y,hy⟩:=exq (x.u.getD i2 n0);rw [hy] at Zz Zir Zxs Ut;obtain ⟨b,Qi⟩:=exq (Jw 100 y.name.length);rw [Qi] at Zir Zxs;cases b with
  | true =>
   have hr:=Zir rfl;subst hr;exact Ng
  | false =>
   have Q3:=Zxs rfl;have Kq:KcT:=⟨⟩;exact Qa
 ·have Qhj:Lg x.u=true:=gV fun j hj=>Qbo j (by omega)
  have hq:=Wi (by rw [Qhj];rfl)
  have Kq:KcU:=⟨⟩;exact Qa):p:=h
class KcQ:Prop
theorem KcQ.k (_:KcQ) (h:p:=by
 refine Z4 [4,62,63,64,65,66,67,68,69,70,71,72,73,74,75,76,77,78,79,80,81,82] (fun i:Nat=>[(6,.d (.int .i64 i))]) (fun i:Nat=>[]) (fun i:Nat=>i≤x.t.length∧∀ j,j<i→Jw 100 (x.t.getD j n0).name.length=false) (fun i:Nat=>x.t.length-i) 0 ?_ ?_ ?_
 ·simp
 ·exact Xa
 rintro i ⟨hi,Qcv⟩;rcases Qh i x.t.length with ⟨C3,Q7⟩|⟨C3,Q7⟩
 ·have Zz:=Qc n0 C3;have Zir:Jw 100 (x.t.getD i n0).name.length=true→R=false:=fun h=>Xi (by rw [mQ C3 h];rfl)
  have Zxs:Jw 100 (x.t.getD i n0).name.length=false→∀ j,j<i+1→Jw 100 (x.t.getD j n0).name.length=false:=fun h=>Nf Qcv h;have Ut:=f2 _ (show x.t.getD i n0∈x.t by simp [C3])
  obtain ⟨y,hy⟩:=exq (x.t.getD i n0);rw [hy] at Zz Zir Zxs Ut;obtain ⟨b,Qi⟩:=exq (Jw 100 y.name.length);rw [Qi] at Zir Zxs;cases b with
  | true =>
   have hr:=Zir rfl;subst hr;exact Ng
  | false =>
   have Q3:=Zxs rfl;have Kq:KcR:=⟨⟩;exact Qa
 ·have Us:Lg x.t=true:=gV fun j hj=>Qcv j (by omega)
  rw [Us] at Xi Wi;have Kq:KcS:=⟨⟩;exact Qa):p:=h
class KcO:Prop
theorem KcO.k (_:KcO) (h:p:=by
 refine Z4 [4,6,7,8,9,10,11,12,13,14,15,16,17,18,19,20,21,22,23,24,25,26,27,28,29,30,31,32,33,34,35,36,37,38,39,40,41,42,43,44,45,46,47,48,49,50,51,52,53,54,55,56,57,58,59,60,61,62,63,64,65,66,67,68,69,70,71,72,73,74,75,76,77,78,79,80,81,82,83,84,85,86,87,88,89,90,91,92,93,94,95,96,97,98,99,100,101,102,103] (fun k:Nat=>[(5,.d (.int .i64 k))]) (fun k:Nat=>[]) (fun k:Nat=>k≤t.length∧∀ j,j<k→(!((j:Int)==m)&&jB (t.getD j e0))=true) (fun k:Nat=>t.length-k) 0 ?_ ?_ ?_
 ·simp
 ·exact Xa
 rintro k ⟨hk,Y3⟩;rcases Qh k t.length with ⟨Qg,Qz⟩|⟨Qg,Qz⟩
 ·have Q2:=Qc e0 Qg;obtain ⟨⟨f1,f2⟩,⟨f3,f4⟩,f5,f6,f7⟩:=hT (t.getD k e0) (by simp [Qg])
  have Xi:(!((k:Int)==m)&&jB (t.getD k e0))=false→R=false:=fun h=>by
   rw [←Qj];exact Lj k Qg h
  have Wi:(!((k:Int)==m)&&jB (t.getD k e0))=true→∀ j,j<k+1→(!((j:Int)==m)&&jB (t.getD j e0))=true:=fun h=>Nf Y3 h;obtain ⟨Q,hQ⟩:=exq ((∀ j,j<k+1→(!((j:Int)==m)&&jB (t.getD j e0))=true));rw [hQ] at Wi;obtain ⟨x,hx⟩:=exq (t.getD k e0);rw [hx] at Q2 f1 f2 f3 f4 f5 f6 f7 Xi Wi;unfold jB Zf4 at Xi Wi;obtain ⟨b0,Qx⟩:∃ b,((k:Int)==m)=b:=⟨_,rfl⟩;obtain ⟨b1,Ql⟩:=exq (Jw 100 x.label.length);obtain ⟨b2,Q3⟩:=exq (Jw 200 x.name.length);obtain ⟨b3,Ji⟩:=exq (Jw 100 x.bind.length);obtain ⟨b4,Jl⟩:=exq (Jw 60 x.t.length);obtain ⟨b5,Js⟩:=exq (Jw 60 x.u.length);rw [Qx,Ql,Q3,Ji,Jl,Js] at Xi Wi;cases hl:b0||(b1||(b2||(b3||(b4||b5)))) with
  | true =>
   have hr:=Xi (by clear Xi Wi Y3 Jk Qj hQ Q2;revert hl;cases b0<;>cases b1<;>cases b2<;>cases b3<;>cases b4<;>cases b5<;>simp)
   subst hr;clear Xi Wi;have Kq:KcP:=⟨⟩;exact Qa
  | false =>
   simp only [Bool.or_eq_false_iff] at hl;obtain ⟨rfl,rfl,rfl,rfl,rfl,rfl⟩:=hl;have Kq:KcQ:=⟨⟩;exact Qa
 ·have hr:R=true:=by
   rw [←Qj];exact Hp fun j hj=>Y3 j (by omega)
  subst hr;exact A4):p:=h
theorem good_Few5:Jd Tryz.prog (10,O3):=by
 obtain ⟨Kx,Kt,Kc,Kd,Kb,Ku,Kw,K,_⟩:=Yc Qp Z0 [] false Yb;have Ko:=O3.eq_def;refine Ve K Tryz.func10 [.tmp 4] rfl 104 rfl (fun c hc J0 Zo=>?_);unfold O3 at Zo;obtain ⟨⟨t⟩,m,rfl,ht,hT⟩:=Jh Zo;simp only at ht hT;clear Zo;obtain ⟨R,Jk⟩:=exq (Zdl t m);have Qj:=Jk;unfold Zdl at Qj;cases hc;refine Ym 6 ?_;have Kq:KcO:=⟨⟩;exact Qa
def Xj (p:Part):Nat:=(Qu p).toNat
theorem Zcw (p:Part):0≤Qu p:=by
 unfold Qu Mt;repeat' split
 all_goals omega
theorem Yu (p:Part):Qu p=(Xj p:Int):=by
 have:=Zcw p;unfold Xj;omega
theorem nT:∀ {l:List Part} {o k:Nat},1≤o→Hw Xj l o=some k→C6 l o=k
 | [],o+1,k,_,h=>by simp [Hw] at h
 | n::l,o+1,k,_,h=>by
  rw [Hw,Option.map_eq_some_iff] at h;obtain ⟨k',h1,rfl⟩:=h;have hm:=Yu n;have e:((o+1:Nat):Int)-1+Qu n=((o+Xj n:Nat):Int):=by rw [hm];omega
  rw [C6,e];by_cases hz:o+Xj n=0
  ·rw [if_pos (by omega)]
   rw [hz] at h1;cases l<;>(simp only [Hw,Zc] at h1;omega)
  ·rw [if_neg (by omega),nT (by omega) h1]
   omega
theorem qW {t:List Part} {i:Nat} {x:Rose Part} (h:At Xj t i x):C6 (t.drop i) 1=(nds x).length:=nT (o:=1) (Zl _) (qH h)
theorem fG {t:List Part} {i:Nat} {x:Rose Part} (h:At Xj t i x):Sf t i=((i+(nds x).length:Nat):Int):=by
 unfold Sf;have:=h.lt;rw [if_neg (by omega),Zp,qW h]
 simp
def Uz:Nat→List (Rose Part)→List Int
 | _,[]=>[]
 | q,x::ks=>(q:Int)::Uz (q+(nds x).length) ks
theorem N9:∀ {q:Nat} {ks:List (Rose Part)},(Uz q ks).length=ks.length
 | _,[]=>rfl
 | q,x::ks=>by rw [Uz,Zd,N9,Zd]
theorem Rq {t:List Part}:∀ {ks:List (Rose Part)} {q:Nat},Ss Xj t q ks→Xq t ks.length q=Uz q ks
 | [],_,_=>rfl
 | x::ks,q,h=>by
  have hx:=h.head;rw [Zd,Xq,if_pos hx.1.lt,qW hx.1,Uz,Rq hx.2]
theorem Iz {t:List Part} {i:Nat} {x:Rose Part} (h:At Xj t i x):Vn t i=Uz (i+1) x.kids:=by
 unfold Vn;have hl:=h.lt;have hk:=h.kids;have hm:=Yu (t.getD i e0);rw [if_neg (by omega)]
 simp only [Zp];rw [hm,h.root e0,Zp,←hk.2,Rq hk.1]
theorem aJ {t:List Part}:∀ {m q:Nat},(Xq t m q).length=m→(∀ j,q≤j→j<t.length→∃ z,At Xj t j z)→q≤t.length→∃ ks:List (Rose Part),ks.length=m∧Ss Xj t q ks
 | 0,q,_,_,hq=>⟨[],rfl,trivial,t.drop q,by simp [ndss]⟩
 | m+1,q,h,hz,hq=>by
  rw [Xq] at h;by_cases Qg:q<t.length
  ·rw [if_pos Qg] at h;obtain ⟨x,hx⟩:=hz q (Zl _) Qg;rw [qW hx] at h;obtain ⟨ks,h1,h2,r,h3⟩:=aJ (m:=m) (q:=q+(nds x).length) (by simpa using h) (fun j hj=>hz j (by omega)) hx.le
   obtain ⟨h4,r',h5⟩:=hx;refine ⟨x::ks,by simp [h1],⟨h4,h2⟩,r,?_⟩
   rw [←List.drop_drop,h5,List.drop_left'] at h3
   ·rw [h5,h3,ndss,List.append_assoc]
   ·rfl
  ·rw [if_neg Qg] at h;simp at h
theorem Dc {t:List Part} (h:∀ i,i<t.length→((Vn t i).length:Int)=Qu (t.getD i e0)):∀ (m i:Nat),t.length-i≤m→i<t.length→∃ z,At Xj t i z
 | 0,i,hm,hi=>by omega
 | m+1,i,hm,hi=>by
  have h1:=h i hi;have Qcw:=Yu (t.getD i e0);unfold Vn at h1;rw [if_neg (by omega)] at h1
  simp only [Zp] at h1;rw [Qcw,Zp] at h1;obtain ⟨ks,k1,k2,r,k3⟩:=aJ (m:=Xj (t.getD i e0)) (q:=i+1) (by omega) (fun j hj Ra=>Dc h m j (by omega) Ra) (by omega)
  refine ⟨mk (t.getD i e0) ks,⟨k1,k2⟩,r,?_⟩;rw [List.drop_eq_getElem_cons hi,k3,Jt];simp [hi]
theorem fU {t:List Part} (h:Y6 t=true):∃ x,t=nds x∧At Xj t 0 x:=by
 unfold Y6 at h;simp only [Zg,Bool.not_eq_true',Zi] at h;obtain ⟨h1,h2,⟨h3,h4⟩,h5⟩:=h;have Hk:0<t.length:=by
  rcases Nat.eq_zero_or_pos t.length with h0|h0
  ·exfalso;unfold Xc at h1;simp [h0] at h1
  ·exact h0
 have hk:∀ i,i<t.length→((Vn t i).length:Int)=Qu (t.getD i e0):=by
  intro i hi;have:=List.all_eq_true.1 h5 i (List.mem_range.2 hi);unfold Iv at this;rw [Zg,Zi] at this;exact this.1
 obtain ⟨x,hx⟩:=Dc hk t.length 0 (by omega) Hk
 have he':Sf t 0=((0+(nds x).length:Nat):Int):=fG hx;rw [h3] at he';obtain ⟨hw,r,hr⟩:=id hx;refine ⟨x,?_,hx⟩;rw [List.drop_zero] at hr;have:=congrArg List.length hr;rw [Zb] at this;have Zym:r=[]:=List.length_eq_zero_iff.1 (by omega)
 rw [hr,Zym,List.append_nil]
instance:Inhabited Part:=⟨e0⟩
def Cv (p:Part) (k:Nat) (b:List (List UInt8)):List (List UInt8) :=
 (if p.kind=2∨p.kind=8∨(p.kind=4∧k=1)∨(p.kind=5∧k=0) then b++[p.bind] else b)++(if p.kind=5 then [p.name] else [])
mutual
def freeT:Rose Part→List (List UInt8)→List (List UInt8)
 | mk p ks,b=>if p.kind=1∧A5 b p.name=false then [p.name] else freeTs p ks 0 b
def freeTs (p:Part):List (Rose Part)→Nat→List (List UInt8)→List (List UInt8)
 | [],_,_=>[]
 | x::xs,k,b=>freeT x (Cv p k b)++freeTs p xs (k+1) b
end
theorem Zct (p:Part) (k:Nat) (b:List (List UInt8)):(Cv p k b).length≤b.length+2:=by
 unfold Cv;split<;>split<;>simp
mutual
theorem freeT_len:∀ (x:Rose Part) (b:List (List UInt8)),(freeT x b).length≤(nds x).length
 | mk p ks,b=>by
  rw [freeT,Jt];split
  ·simp
  ·have:=freeTs_len p ks 0 b;simp only [Zd];omega
theorem freeTs_len (p:Part):∀ (xs:List (Rose Part)) (k:Nat) (b:List (List UInt8)),(freeTs p xs k b).length≤(ndss xs).length
 | [],_,_=>by simp [freeTs]
 | x::xs,k,b=>by
  have h1:=freeT_len x (Cv p k b);have h2:=freeTs_len p xs (k+1) b;rw [freeTs,ndss,Zb,Zb];omega
end
open Go.Proofs Go.RowKit
structure KA where
 l:List Int
instance encKA:Enc KA:=⟨fun a=>.agg (a.l.map enc),fun x=>match x with
 | .agg l=>⟨l.map dec⟩
 | _=>⟨[]⟩,fun a=>by
  have h1:∀ l:List Int,(l.map (enc:Int→D)).map dec=l:=fun l=>Vd;cases a;simp [h1]⟩
def Zgi:KA:=⟨[0,0,1,2,2,2,3,1,1,2,0,1,1,1,1]⟩
theorem nJ:(enc Zgi:D)=.agg [.int .i64 0,.int .i64 0,.int .i64 1,.int .i64 2,.int .i64 2,.int .i64 2,.int .i64 3,.int .i64 1,.int .i64 1,.int .i64 2,.int .i64 0,.int .i64 1,.int .i64 1,.int .i64 1,.int .i64 1]:=rfl
def Fl:Con:=Lu Zgi
theorem xM:Jd Tryz.prog (52,Fl):=by
 obtain ⟨Kx,Kt,Kc,Kd,Kb,Ku,Kw,K,_⟩:=Yc Qp Z0 [] false Yb;have Ko:=Fl.eq_def;refine Ve K Tryz.func52 [.cell 0 71] rfl 2 rfl (fun c hc J0 Zo=>?_);unfold Fl at Zo;obtain rfl:=jM Zo;have Q2:=nJ;obtain ⟨k,Qz⟩:=exq (Zgi);rw [Qz] at Q2;cases hc;exact Ng
def Ns:Con:=Xh (fun (p:Part)=>p.many≤1000000) (fun p=>Qu p)
theorem Tk:Jd Tryz.prog (30,Ns):=by
 obtain ⟨Kx,Kt,Kc,Kd,Kb,Ku,Kw,K,Y0,_⟩:=Yc Qp Z0 [] false (Xu xM Fl.eq_def Yb);have Ko:=Ns.eq_def;refine Ve K Tryz.func30 [.tmp 2] rfl 30 rfl (fun c hc J0 Zo=>?_);unfold Ns at Zo;obtain ⟨p,rfl,hm⟩:=Qs Zo;obtain ⟨pk,pl,pn,pb,pm,pq,pt,pu⟩:=p;simp only at hm;clear Zo;obtain ⟨R,Q2⟩:=exq (Qu ⟨pk,pl,pn,pb,pm,pq,pt,pu⟩);have Qj:=Q2;unfold Qu at Qj;simp only at Qj;have Zh7:Mt pm 0=if pm<0 then 0 else pm:=rfl
 have Qgt:0≤Mt pm 0:=by rw [Zh7];split<;>omega
 have Qbr:Mt pm 0≤1000000:=by rw [Zh7];split<;>omega
 obtain ⟨X,Ji⟩:=exq (Mt pm 0);rw [Ji] at Qj Qgt Qbr;clear Zh7;have Q3:=nJ;cases hc;rcases Ub pk 0 with ⟨h1,Qz⟩|⟨h1,Qz⟩
 ·have hr:R=0:=by
   rw [←Qj]
   repeat rw [if_neg (by omega)]
  subst hr;exact Ng
 rcases Ub 14 pk with ⟨h2,Qx⟩|⟨h2,Qx⟩
 ·have hr:R=0:=by
   rw [←Qj]
   repeat rw [if_neg (by omega)]
  subst hr;exact Ng
 have hc:pk=0∨pk=1∨pk=2∨pk=3∨pk=4∨pk=5∨pk=6∨pk=7∨pk=8∨pk=9∨pk=10∨pk=11∨pk=12∨pk=13∨pk=14:=by omega
 rcases hc with rfl|rfl|rfl|rfl|rfl|rfl|rfl|rfl|rfl|rfl|rfl|rfl|rfl|rfl|rfl
 ·have Ql:el [.int .i64 0,.int .i64 0,.int .i64 1,.int .i64 2,.int .i64 2,.int .i64 2,.int .i64 3,.int .i64 1,.int .i64 1,.int .i64 2,.int .i64 0,.int .i64 1,.int .i64 1,.int .i64 1,.int .i64 1] (Int.toNat (0:Int))=.int .i64 0:=rfl;have hr:R=0:=by
   rw [←Qj];simp
  subst hr;exact Ng
 ·have Ql:el [.int .i64 0,.int .i64 0,.int .i64 1,.int .i64 2,.int .i64 2,.int .i64 2,.int .i64 3,.int .i64 1,.int .i64 1,.int .i64 2,.int .i64 0,.int .i64 1,.int .i64 1,.int .i64 1,.int .i64 1] (Int.toNat (1:Int))=.int .i64 0:=rfl;have hr:R=0:=by
   rw [←Qj];simp
  subst hr;exact Ng
 ·have Ql:el [.int .i64 0,.int .i64 0,.int .i64 1,.int .i64 2,.int .i64 2,.int .i64 2,.int .i64 3,.int .i64 1,.int .i64 1,.int .i64 2,.int .i64 0,.int .i64 1,.int .i64 1,.int .i64 1,.int .i64 1] (Int.toNat (2:Int))=.int .i64 1:=rfl;have hr:R=1:=by
   rw [←Qj];simp
  subst hr;exact Ng
 ·have Ql:el [.int .i64 0,.int .i64 0,.int .i64 1,.int .i64 2,.int .i64 2,.int .i64 2,.int .i64 3,.int .i64 1,.int .i64 1,.int .i64 2,.int .i64 0,.int .i64 1,.int .i64 1,.int .i64 1,.int .i64 1] (Int.toNat (3:Int))=.int .i64 2:=rfl;have hr:R=2:=by
   rw [←Qj];simp
  subst hr;exact Ng
 ·have Ql:el [.int .i64 0,.int .i64 0,.int .i64 1,.int .i64 2,.int .i64 2,.int .i64 2,.int .i64 3,.int .i64 1,.int .i64 1,.int .i64 2,.int .i64 0,.int .i64 1,.int .i64 1,.int .i64 1,.int .i64 1] (Int.toNat (4:Int))=.int .i64 2:=rfl;have hr:R=2:=by
   rw [←Qj];simp
  subst hr;exact Ng
 ·have Ql:el [.int .i64 0,.int .i64 0,.int .i64 1,.int .i64 2,.int .i64 2,.int .i64 2,.int .i64 3,.int .i64 1,.int .i64 1,.int .i64 2,.int .i64 0,.int .i64 1,.int .i64 1,.int .i64 1,.int .i64 1] (Int.toNat (5:Int))=.int .i64 2:=rfl;have hr:R=2:=by
   rw [←Qj];simp
  subst hr;exact Ng
 ·have Ql:el [.int .i64 0,.int .i64 0,.int .i64 1,.int .i64 2,.int .i64 2,.int .i64 2,.int .i64 3,.int .i64 1,.int .i64 1,.int .i64 2,.int .i64 0,.int .i64 1,.int .i64 1,.int .i64 1,.int .i64 1] (Int.toNat (6:Int))=.int .i64 3:=rfl;have hr:R=3:=by
   rw [←Qj];simp
  subst hr;exact Ng
 ·have Ql:el [.int .i64 0,.int .i64 0,.int .i64 1,.int .i64 2,.int .i64 2,.int .i64 2,.int .i64 3,.int .i64 1,.int .i64 1,.int .i64 2,.int .i64 0,.int .i64 1,.int .i64 1,.int .i64 1,.int .i64 1] (Int.toNat (7:Int))=.int .i64 1:=rfl;have hr:R=X+1:=by
   rw [←Qj];simp
  have Jl:(1:Int)+X=R:=by omega
  exact Ng
 ·have Ql:el [.int .i64 0,.int .i64 0,.int .i64 1,.int .i64 2,.int .i64 2,.int .i64 2,.int .i64 3,.int .i64 1,.int .i64 1,.int .i64 2,.int .i64 0,.int .i64 1,.int .i64 1,.int .i64 1,.int .i64 1] (Int.toNat (8:Int))=.int .i64 1:=rfl;have hr:R=1:=by
   rw [←Qj];simp
  subst hr;exact Ng
 ·have Ql:el [.int .i64 0,.int .i64 0,.int .i64 1,.int .i64 2,.int .i64 2,.int .i64 2,.int .i64 3,.int .i64 1,.int .i64 1,.int .i64 2,.int .i64 0,.int .i64 1,.int .i64 1,.int .i64 1,.int .i64 1] (Int.toNat (9:Int))=.int .i64 2:=rfl;have hr:R=2:=by
   rw [←Qj];simp
  subst hr;exact Ng
 ·have Ql:el [.int .i64 0,.int .i64 0,.int .i64 1,.int .i64 2,.int .i64 2,.int .i64 2,.int .i64 3,.int .i64 1,.int .i64 1,.int .i64 2,.int .i64 0,.int .i64 1,.int .i64 1,.int .i64 1,.int .i64 1] (Int.toNat (10:Int))=.int .i64 0:=rfl;have hr:R=X:=by
   rw [←Qj];simp
  have Jl:(0:Int)+X=R:=by omega
  exact Ng
 ·have Ql:el [.int .i64 0,.int .i64 0,.int .i64 1,.int .i64 2,.int .i64 2,.int .i64 2,.int .i64 3,.int .i64 1,.int .i64 1,.int .i64 2,.int .i64 0,.int .i64 1,.int .i64 1,.int .i64 1,.int .i64 1] (Int.toNat (11:Int))=.int .i64 1:=rfl;have hr:R=1:=by
   rw [←Qj];simp
  subst hr;exact Ng
 ·have Ql:el [.int .i64 0,.int .i64 0,.int .i64 1,.int .i64 2,.int .i64 2,.int .i64 2,.int .i64 3,.int .i64 1,.int .i64 1,.int .i64 2,.int .i64 0,.int .i64 1,.int .i64 1,.int .i64 1,.int .i64 1] (Int.toNat (12:Int))=.int .i64 1:=rfl;have hr:R=1:=by
   rw [←Qj];simp
  subst hr;exact Ng
 ·have Ql:el [.int .i64 0,.int .i64 0,.int .i64 1,.int .i64 2,.int .i64 2,.int .i64 2,.int .i64 3,.int .i64 1,.int .i64 1,.int .i64 2,.int .i64 0,.int .i64 1,.int .i64 1,.int .i64 1,.int .i64 1] (Int.toNat (13:Int))=.int .i64 1:=rfl;have hr:R=1:=by
   rw [←Qj];simp
  subst hr;exact Ng
 ·have Ql:el [.int .i64 0,.int .i64 0,.int .i64 1,.int .i64 2,.int .i64 2,.int .i64 2,.int .i64 3,.int .i64 1,.int .i64 1,.int .i64 2,.int .i64 0,.int .i64 1,.int .i64 1,.int .i64 1,.int .i64 1] (Int.toNat (14:Int))=.int .i64 1:=rfl;have hr:R=1:=by
   rw [←Qj];simp
  subst hr;exact Ng
section
variable {P:Program} {base:Nat} {pass:Nat→Prop} {F0:Anc} {m:Nat→Nat} {G:Gh} {st:AS} {a:Act} {w:World}
def aX (l:List UInt8):List Value:=l.map fun u=>Value.int .u8 u.toNat
theorem Le {l:List UInt8}:(aX l).length=l.length:=by simp [aX]
theorem Zbd {l s:List UInt8}:aX (l++s)=aX l++aX s:=by simp [aX]
theorem Ziv {tx:Nat} (hx:P.underlying tx=some .string) (s:List UInt8):Src P 1 tx (.string ⟨s.toArray⟩) s.length (aX s) w:=by
 have:=Src.ofString (P:=P) w hx ⟨s.toArray⟩;simpa [byteCells,ByteArray.size,aX] using this
theorem Zg8 {l:List UInt8} {cs:Array Value} (h:cs.toList.take l.length=aX l) {b t:Nat} (hg:w.heap[b]?=some (.cells cs t (0,0))):∀ j u,(aX l)[j]?=some u→w.cell? ((⟨b,0,none⟩:Addr).add j)=some u:=by
 intro j u hu;rw [Md,Nat.zero_add];rw [←h,List.getElem?_take] at hu;split at hu
 ·simp only [World.cell?,hg];simpa using hu
 ·cases hu
theorem Zj3 (h:SRg base pass F0 m G st a w) {i U t tx:Nat} {l s:List UInt8} (hi:lk st.objs i=some (.brow U l)) {ii:TypeInfo} (hd:P.underlying t=some (.slice U)) (hx:P.underlying tx=some .string)
  (i1:P.info? U=some ii) (i2:ii.size=1) (i3:ii.bytes=1) (i4:ii.zero=some (.int .u8 0)) (hb:l.length+s.length≤140737488355328) (ty:TypeId) :
  ∃ v' w' G',(Builtin.append_ #[t,tx] ty #[G.hd i,.string ⟨s.toArray⟩]).run P w=.ok v' w'∧G'.hd i=v'∧(∀ j,j≠i→G'.γ j=G.γ j∧G'.hd j=G.hd j) ∧
   SRg base pass F0 m G' ⟨st.tmps,upd st.objs i (.brow U (l++s))⟩ a w'∧(∀ b,b<w.heap.size→G.γ i≠some b→w'.heap[b]?=w.heap[b]?)∧Fix.le ⟨w,m⟩ ⟨w',m⟩:=by
 have kE:Src P ii.size tx (.string ⟨s.toArray⟩) s.length (aX s) w:=by rw [i2];exact Ziv hx s
 have X5:=h.objs i _ hi;simp only [Qf] at X5;have hM:(140737488355328:Nat)≤maxLen:=by unfold maxLen;omega
 by_cases oF:s=[]
 ·subst oF;have hL:lk (upd st.objs i (.brow U (l++[])))=lk st.objs:=funext fun j=>by
   rw [J2];split
   ·next e=>subst e;rw [hi,List.append_nil]
   ·rfl
  obtain ⟨A,cap,hv,M8⟩:∃ A cap,G.hd i=.slice A l.length cap∧l.length≤cap:=by
   rcases X5 with ⟨_,h2,rfl⟩|⟨b,cap,cs,_,h2,h3,_⟩
   ·exact ⟨none,0,by rw [h2];rfl,Zl _⟩
   ·exact ⟨_,cap,h2,h3⟩
  have hr:=Hn (w:=w) t tx ty U ii hd i1 A l.length cap kE M8;exact ⟨_,w,G,by rw [hv];exact hr,hv,fun _ _=>⟨rfl,rfl⟩,⟨h.defers,by simp only [hL];exact h.tmps,by simp only [hL];exact h.objs,by simp only [hL];exact h.apart,by simp only [hL];exact h.mine,h.frame,h.old,h.new,h.small,by simp only [hL];exact h.lent⟩,fun _ _ _=>rfl,Fix.le_refl _⟩
 have Rc:0<s.length:=List.length_pos_iff.2 oF;have Z8:(l++s).length=l.length+s.length:=Zb;have Bd:∀ o,lk st.objs i=some o→∀ G':Gh,((Obj.brow U (l++s)).isBox=true→o.isBox=true∧G'.γ i=G.γ i)∧(∀ s' els' k',Obj.brow U (l++s)=.row s' els' k'→∃ els k,o=.row s' els k∧els.length≤els'.length∧(els'.length=els.length→G'.γ i=G.γ i∧G'.hd i=G.hd i)) ∧
   ∀ t l',Obj.brow U (l++s)=.brow t l'→∃ l,o=.brow t l∧l.length≤l'.length∧(l'.length=l.length→G'.γ i=G.γ i∧G'.hd i=G.hd i):=by
  intro o ho G';rw [hi] at ho;injection ho with ho
  subst ho;refine ⟨by simp [Obj.isBox],by simp,fun t l' he=>?_⟩
  simp only [Obj.brow.injEq] at he;obtain ⟨rfl,rfl⟩:=he;exact ⟨l,rfl,by omega,fun e=>by omega⟩
 have grow:∀ (cap':Nat) (cs':Array Value),cs'.size=cap'→(l++s).length≤cap'→cap'≤maxLen→cs'.toList.take (l++s).length=aX (l++s) →
   ∃ G',G'.hd i=.slice (some ⟨w.heap.size,0,none⟩) (l++s).length cap'∧(∀ j,j≠i→G'.γ j=G.γ j∧G'.hd j=G.hd j)∧SRg base pass F0 m G' ⟨st.tmps,upd st.objs i (.brow U (l++s))⟩ a (w.drew.alloc (.cells cs' U)) ∧
    (∀ b,b<w.heap.size→G.γ i≠some b→(w.drew.alloc (.cells cs' U)).heap[b]?=w.heap[b]?)∧Fix.le ⟨w,m⟩ ⟨w.drew.alloc (.cells cs' U),m⟩:=by
  intro cap' cs' A3 Zyc hm' Zkj;have hF:Fix.le ⟨w,m⟩ ⟨w.drew.alloc (.cells cs' U),m⟩:=Fix.le_alloc (w:=w.drew) (m:=m) h.new (.cells cs' U);obtain ⟨q1,q2⟩:=h.objG i (.brow U (l++s)) (w':=w.drew.alloc (.cells cs' U)) (m':=m)
   (G':=⟨fun j=>if j=i then some w.heap.size else G.γ j,fun j=>if j=i then .slice (some ⟨w.heap.size,0,none⟩) (l++s).length cap' else G.hd j⟩) hF
   (fun j hj=>by simp [hj]) (fun o ho=>Bd o ho _)
   (fun hg=>by
    simp only [Qf];exact .inr ⟨w.heap.size,cap',cs',by simp,by simp,Zyc,hm',heap_alloc_new w.drew _,A3,Zkj,h.new _ (Zl _)⟩)
   (fun j o hj hl ho b' hb'=>⟨Below.heap_alloc w.drew _ b' (h.mine j o b' hl ho hb').1,rfl⟩)
   (fun _ b' hb'=>by
    simp only [if_true,Zc] at hb';subst hb';refine ⟨by simp,.inl h.small,fun j o hj hl ho Cr=>?_⟩
    have:=(h.mine j o _ hl ho Cr).1;omega)
   ⟨rfl,rfl,rfl,by simp,fun b' hb' _=>Below.heap_alloc w.drew _ b' (Nat.lt_of_lt_of_le hb' h.small)⟩
   (fun _ _ _=>rfl) (fun b' hb'=>h.new b' (by simp at hb';omega))
  exact ⟨_,by simp,fun j hj=>by simp [hj],q2,fun b hb _=>Below.heap_alloc w.drew _ b hb,hF⟩
 rcases X5 with ⟨h1,h2,rfl⟩|⟨bb,cap,cs,h1,h2,h3,h4,h5,h6,h7,h8⟩
 ·
  have hr:=run_append_grow_src (P:=P) w t tx ty U ii (.int .u8 0) hd i1 i4 none 0 0 [] (run_firstCells_none w.drew ii.size 0 0 0) _ s.length (aX s) kE (by omega) (by simp at hb;omega) (growslice_fits (by omega) (by rw [i3];simpa using hb))
  simp only [Nat.zero_add,List.nil_append] at hr;have aE:=grownCap_le_maxLen w s.length 0 U (by simp at hb;omega)
  have Cq:=grownCap_ge w s.length 0 U;obtain ⟨G',g1,g2,g3,g4,g5⟩:=grow (grownCap w s.length 0 U) ((aX s).toArray++Builtin.zeroCells (Value.int .u8 0).cells (grownCap w s.length 0 U-s.length))
   (by rw [Array.size_append,Ui];simp [Le,Value.cells];omega) (by simpa using Cq) aE (by
    have e:(([]:List UInt8)++s).length=(aX s).length:=by simp [Le]
    rw [e];simp only [Array.toList_append,List.take_left',List.nil_append])
  refine ⟨_,_,G',by rw [h2];exact hr,?_,g2,g3,g4,g5⟩
  simpa using g1
 ·by_cases eW:l.length+s.length≤cap
  ·
   have Sx:l.length*ii.size+(aX s).length≤cs.size:=by rw [i2,Le,h6];omega
   have hr:=Bp (w:=w) t tx ty U U ii hd i1 bb l.length cap cs h5 kE eW Sx;rw [i2,Nat.mul_one] at hr;have U4:=h.mine i _ bb hi rfl h1;have Qgt:m bb=0:=h8;have hF:Fix.le ⟨w,m⟩ ⟨w.setRow bb (cs.toList.take l.length++aX s++cs.toList.drop (l.length+(aX s).length)).toArray,m⟩:=Fix.le_setRow h5 (fun o ho=>by omega)
   obtain ⟨q1,q2⟩:=h.objG i (.brow U (l++s)) (w':=w.setRow bb (cs.toList.take l.length++aX s++cs.toList.drop (l.length+(aX s).length)).toArray) (m':=m)
    (G':=⟨G.γ,fun j=>if j=i then .slice (some ⟨bb,0,none⟩) (l++s).length cap else G.hd j⟩) hF
    (fun j hj=>by simp [hj]) (fun o ho=>Bd o ho _)
    (fun hg=>by
     simp only [Qf];refine .inr ⟨bb,cap,_,h1,by simp,by rw [Z8];exact eW,h4,setRow_heap w bb cs _ U (0,0) h5,?_,?_,h8⟩
     ·simp [Le];omega
     ·have e:(l++s).length=(cs.toList.take l.length++aX s).length:=by
       rw [Zb,Zb,List.length_take,Le];simp;omega
      rw [e];simp only [List.take_left'];have h7':cs.toList.take l.length=aX l:=h7;rw [h7',←Zbd];rfl)
    (fun j o hj hl ho b' hb'=>by
     have:b'≠bb:=fun e=>hj (h.apart j i o _ bb hl hi ho rfl (e▸hb') h1);exact ⟨setRow_other w bb b' _ this,rfl⟩)
    (fun _ b' hb'=>by
     simp only [h1,Zc] at hb';subst hb';exact ⟨by simpa using U4.1,U4.2,fun j o hj hl ho Cr=>hj (h.apart j i o _ bb hl hi ho rfl Cr h1)⟩)
    ⟨rfl,rfl,rfl,by simp,fun b' Qg hp=>setRow_other w bb b' _ (fun e=>by
     subst e;rcases U4.2 with h1|h1
     ·omega
     ·exact hp h1)⟩
    (fun _ _ _=>rfl) (fun b' Pj=>h.new b' (by simpa using Pj))
   refine ⟨_,_,_,by rw [h2];exact hr,by simp,fun j hj=>by simp [hj],q2,fun b hb Hk=>setRow_other w bb b _ (fun e=>Hk (by rw [h1,e])),hF⟩
  ·
   have hr:=run_append_grow_src (P:=P) w t tx ty U ii (.int .u8 0) hd i1 i4 (some ⟨bb,0,none⟩) l.length cap (aX l) (run_firstCells_some (P:=P) w.drew ii.size l.length ⟨bb,0,none⟩ l.length cap _ (by rw [Le,i2,Nat.mul_one]) (fun j u hu=>by
     show w.cell? _=_;exact Zg8 h7 h5 j u hu)) _ s.length (aX s) kE (by omega) (by omega) (growslice_fits (by omega) (by rw [i3];omega))
   have aE:=grownCap_le_maxLen w (l.length+s.length) cap U (by omega)
   have Cq:=grownCap_ge w (l.length+s.length) cap U;obtain ⟨G',g1,g2,g3,g4,g5⟩:=grow (grownCap w (l.length+s.length) cap U) ((aX l++aX s).toArray++Builtin.zeroCells (Value.int .u8 0).cells (grownCap w (l.length+s.length) cap U-(l.length+s.length)))
    (by rw [Array.size_append,Ui];simp [Le,Value.cells];omega) (by rw [Z8];exact Cq) aE (by
     have e:(l++s).length=(aX l++aX s).length:=by simp [Le]
     rw [e];simp only [Array.toList_append,List.take_left',Zbd])
   refine ⟨_,_,G',by rw [h2];exact hr,?_,g2,g3,g4,g5⟩
   rw [g1,Z8]
end
end Go.Am.Ty
