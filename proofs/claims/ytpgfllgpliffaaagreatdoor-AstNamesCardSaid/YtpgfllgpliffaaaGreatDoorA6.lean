/- Contracts of functions that the law reaches, and plain laws. Conditions: those that each contract states. -/
import Derived.Test.YtpgfllgpliffaaaGreatDoorA5
import Derived.Sort.Walk0
import Derived.Lib.Builder
import Derived.Lib.AppendStr
import Derived.Lib.UnsafeStr
import Derived.Laws.Externs
import Derived.Laws.Tables
import Derived.WalkKit
import Derived.WalkSmall
import Derived.BigCall
set_option maxHeartbeats 4000000
set_option linter.unusedVariables false
set_option linter.unusedSimpArgs false
variable {p:Prop}
set_option maxRecDepth 100000
namespace Go.Am.Ty
open Go.Proofs Go.Rose Go.Rose.Rose
open Enc (enc dec)
def H5 (p:Node) (k:Nat) (x:Node) (last:List UInt8):Bool :=
 cond (x.kind==9) (cond (!Yj p) true (cond (Jw (k:Int) (p.n-1)) true (!(x.name==[]))))
  (cond (!qB p.kind x.name) true (cond (Yj p) (Op.bytesLess x.name last||x.name==last) false))
def Pu (t:List Node) (tr:Nat→Bool×Nat) (p:Node):Nat→Nat→List UInt8→Nat→Bool×Nat
 | 0,_,_,at_=>(true,at_)
 | m+1,k,last,at_=>cond (Ju (t.length:Int) at_) (false,at_)
   (cond (H5 p k (t.getD at_ n0) last) (false,at_)
    (cond (tr at_).1 (Pu t tr p m (k+1) (t.getD at_ n0).name (tr at_).2) (false,(tr at_).2)))
def Ws (t:List Node):Nat→Nat→Bool×Nat
 | 0,at_=>(false,at_)
 | f+1,at_=>cond (Ju (t.length:Int) at_) (false,at_)
   (cond (Y1 (t.getD at_ n0)) (Pu t (Ws t f) (t.getD at_ n0) (ar (t.getD at_ n0)) 0 [] (at_+1)) (false,at_))
structure TX where
 t:List Node
 i:Nat
 f:Nat
 d:Int
def Xx (t:List Node) (i:Nat):List Obj:=[.box false [.d (.int .i64 i)],.box false [.d (.list 3 (t.map enc))],.box false [.clo 134 [.ref 90000 0,.ref 90001 0,.ref 90002 0]]]
theorem Jv {t:List Node} {i:Nat}:Xx t i=[.box false [.d (.int .i64 i)],.box false [.d (.list 3 (t.map enc))],.box false [.clo 134 [.ref 90000 0,.ref 90001 0,.ref 90002 0]]]:=rfl
def Jx (n:Nat):BCon where
 X:=TX
 ok x:=x.t.length≤1000000∧P6 x.t∧x.f≤100∧x.d=101-x.f∧x.f<n
 args x:=[.d (.int .i64 x.d),.ref 90000 0,.ref 90001 0,.ref 90002 0]
 objs x:=Xx x.t x.i
 res x:=.bool (Ws x.t x.f x.i).1
 post x:=Xx x.t (Ws x.t x.f x.i).2
theorem Ov:∀ x,¬ (Jx 0).ok x:=by
 rintro x ⟨_,_,_,_,h⟩;omega
theorem Du {n:Nat} {t:List Node} {i f:Nat} {d:Int}:(Jx n).post ⟨t,i,f,d⟩=Xx t (Ws t f i).2:=rfl
theorem R6 {n:Nat} {t:List Node} {i f:Nat} {d:Int}:(Jx n).res ⟨t,i,f,d⟩=.bool (Ws t f i).1:=rfl
theorem mV {p:Node} (h:Y1 p=true) (hr:Yj p=true):0≤p.n∧p.n≤50:=by
 unfold Yj at hr;rw [Bool.or_eq_true,Zi,Zi] at hr;unfold Y1 at h;rw [if_neg (by omega),if_neg (by omega)] at h
 split at h
 ·simp only [Ze,decide_eq_true_eq] at h;exact h
 ·rw [if_pos (by omega)] at h
  simp only [Ze,decide_eq_true_eq] at h;omega
theorem Kh:Rk 3 [90000,90001,90002]:=by
 intro j hj
 match j,hj with
 | 0,_=>rfl
 | 1,_=>rfl
 | 2,_=>rfl
class Kbc:Prop
theorem Kbc.k (_:Kbc) (h:p:=by
 refine ⟨[90000,90001,90002],by simp,rfl,Kh,?_⟩
 simp [Zh,lk,J7,rnA,rnAs,rk]):p:=h
class Kbd:Prop
theorem Kbd.k (_:Kbd) (h:p:=by
 refine ⟨[90000,90001,90002],by simp,rfl,Kh,?_⟩
 simp [Zh,lk,J7,rnA,rnAs,rk]):p:=h
class Kbe:Prop
theorem Kbe.k (_:Kbe) (h:p:=by
 refine ⟨[90000,90001,90002],by simp,rfl,Kh,?_⟩
 simp [Zh,lk,J7,rnA,rnAs,rk]):p:=h
class Kbf:Prop
theorem Kbf.k (_:Kbf) (h:p:=by
 refine ⟨[90000,90001,90002],by simp,rfl,Kh,?_⟩
 simp [Zh,lk,J7,rnA,rnAs,rk]):p:=h
class Kbh:Prop
theorem Kbh.k (_:Kbh) (h:p:=by
 refine ⟨[90000,90001,90002],by simp,rfl,Kh,?_⟩
 simp [Zh,lk,J7,rnA,rnAs,rk]):p:=h
class Kbi:Prop
theorem Kbi.k (_:Kbi) (h:p:=by
 refine ⟨[90000,90001,90002],by simp,rfl,Kh,?_⟩
 simp [Zh,lk,J7,rnA,rnAs,rk]):p:=h
class Kbj:Prop
theorem Kbj.k (_:Kbj) (h:p:=by
 refine ⟨[90000,90001,90002],by simp,rfl,Kh,?_⟩
 simp [Zh,lk,J7,rnA,rnAs,rk]):p:=h
class Kbk:Prop
theorem Kbk.k (_:Kbk) (h:p:=by
 refine ⟨[90000,90001,90002],by simp,rfl,Kh,?_⟩
 simp [Zh,lk,J7,rnA,rnAs,rk]):p:=h
class Kbm:Prop
theorem Kbm.k (_:Kbm) (h:p:=by
 refine ⟨[90000,90001,90002],by simp,rfl,Kh,?_⟩
 simp [Zh,lk,J7,rnA,rnAs,rk]):p:=h
class Kbn:Prop
theorem Kbn.k (_:Kbn) (h:p:=by
 refine ⟨(k+1,x.name,w2),by exact J0,by simp only;omega,?_,by simp only;omega⟩
 simp only;rw [show ar p-(k+1)=m by omega]
 exact hR):p:=h
class Kbl:Prop
theorem Kbl.k (_:Kbl) (h:p:=by
 refine Z6 (bc:=Jx n) ⟨t,j,f,d+1⟩ [90000,90001,90002] ⟨ht,hN,by simp only;omega,by simp only;omega,by simp only;omega⟩ rfl (by simp) (by rw [Qc];rfl) ?_ ?_ ?_
 ·show Zh _ _ (Xx t j) _;rw [Jv];simp [Zh,lk,J7,rnA,rnAs,rk]
 ·show Zy (List.drop (Xx t j).length _) _;rw [Jv];simp [Zy,lk]
 cases w1 with
 | false =>
  rw [cond_false] at hR;injection hR with Ej Le
  subst Ej;subst Le;have Qa:=@Jv;have Z2:=@Zt;have Z7:=@Zr;have Qk:=@Zu;have Qm:=@Zp;have Qr:=@Wt;have Q1:=@Zs;have Kq:Kbm:=⟨⟩;exact Lj
 | true =>
  rw [cond_true] at hR;have Qa:=@Jv;have Z2:=@Zt;have Z7:=@Zr;have Qk:=@Zu;have Qm:=@Zp;have Qr:=@Wt;have Q1:=@Zs;have Kq:Kbn:=⟨⟩;exact Lj):p:=h
class Kbo:Prop
theorem Kbo.k (_:Kbo) (h:p:=by
 refine ⟨[90000,90001,90002],by simp,rfl,Kh,?_⟩
 simp [Zh,lk,J7,rnA,rnAs,rk]):p:=h
class Kbq:Prop
theorem Kbq.k (_:Kbq) (h:p:=by
 refine ⟨[90000,90001,90002],by simp,rfl,Kh,?_⟩
 simp [Zh,lk,J7,rnA,rnAs,rk]):p:=h
class Kbr:Prop
theorem Kbr.k (_:Kbr) (h:p:=by
 refine ⟨(k+1,x.name,w2),by exact J0,by simp only;omega,?_,by simp only;omega⟩
 simp only;rw [show ar p-(k+1)=m by omega]
 exact hR):p:=h
class Kbp:Prop
theorem Kbp.k (_:Kbp) (h:p:=by
 refine Z6 (bc:=Jx n) ⟨t,j,f,d+1⟩ [90000,90001,90002] ⟨ht,hN,by simp only;omega,by simp only;omega,by simp only;omega⟩ rfl (by simp) (by rw [Qc];rfl) ?_ ?_ ?_
 ·show Zh _ _ (Xx t j) _;rw [Jv];simp [Zh,lk,J7,rnA,rnAs,rk]
 ·show Zy (List.drop (Xx t j).length _) _;rw [Jv];simp [Zy,lk]
 cases w1 with
 | false =>
  rw [cond_false] at hR;injection hR with Ej Le
  subst Ej;subst Le;have Qa:=@Jv;have Z2:=@Zt;have Z7:=@Zr;have Qk:=@Zu;have Qm:=@Zp;have Qr:=@Wt;have Q1:=@Zs;have Kq:Kbq:=⟨⟩;exact Lj
 | true =>
  rw [cond_true] at hR;have Qa:=@Jv;have Z2:=@Zt;have Z7:=@Zr;have Qk:=@Zu;have Qm:=@Zp;have Qr:=@Wt;have Q1:=@Zs;have Kq:Kbr:=⟨⟩;exact Lj):p:=h
class Kbs:Prop
theorem Kbs.k (_:Kbs) (h:p:=by
 refine ⟨[90000,90001,90002],by simp,rfl,Kh,?_⟩
 simp [Zh,lk,J7,rnA,rnAs,rk]):p:=h
class Kbu:Prop
theorem Kbu.k (_:Kbu) (h:p:=by
 refine ⟨[90000,90001,90002],by simp,rfl,Kh,?_⟩
 simp [Zh,lk,J7,rnA,rnAs,rk]):p:=h
class Kbv:Prop
theorem Kbv.k (_:Kbv) (h:p:=by
 refine ⟨(k+1,x.name,w2),by exact J0,by simp only;omega,?_,by simp only;omega⟩
 simp only;rw [show ar p-(k+1)=m by omega]
 exact hR):p:=h
class Kbt:Prop
theorem Kbt.k (_:Kbt) (h:p:=by
 refine Z6 (bc:=Jx n) ⟨t,j,f,d+1⟩ [90000,90001,90002] ⟨ht,hN,by simp only;omega,by simp only;omega,by simp only;omega⟩ rfl (by simp) (by rw [Qc];rfl) ?_ ?_ ?_
 ·show Zh _ _ (Xx t j) _;rw [Jv];simp [Zh,lk,J7,rnA,rnAs,rk]
 ·show Zy (List.drop (Xx t j).length _) _;rw [Jv];simp [Zy,lk]
 cases w1 with
 | false =>
  rw [cond_false] at hR;injection hR with Ej Le
  subst Ej;subst Le;have Qa:=@Jv;have Z2:=@Zt;have Z7:=@Zr;have Qk:=@Zu;have Qm:=@Zp;have Qr:=@Wt;have Q1:=@Zs;have Kq:Kbu:=⟨⟩;exact Lj
 | true =>
  rw [cond_true] at hR;have Qa:=@Jv;have Z2:=@Zt;have Z7:=@Zr;have Qk:=@Zu;have Qm:=@Zp;have Qr:=@Wt;have Q1:=@Zs;have Kq:Kbv:=⟨⟩;exact Lj):p:=h
class Kbw:Prop
theorem Kbw.k (_:Kbw) (h:p:=by
 refine ⟨[90000,90001,90002],by simp,rfl,Kh,?_⟩
 simp [Zh,lk,J7,rnA,rnAs,rk]):p:=h
class Kbg:Prop
theorem Kbg.k (_:Kbg) (h:p:=by
 refine Z1 [5,8,9,35,36,37,38,39,40,41,42,43,44,45,46,47,48,49,50,51,52,53,54,55,56,57,58,59,60,61,62,63,64,65,66,67,68,69,70,71,72,73,74,75,76,77,78,79,80,81,82,83,84,85,86,87,88] (fun q:Nat×List UInt8×Nat=>[(7,.d (.str q.2.1)),(34,.d (.int .i64 q.1))]) (fun q:Nat×List UInt8×Nat=>[(90000,.box false [.d (.int .i64 q.2.2)])]) (fun q:Nat×List UInt8×Nat=>q.1≤ar p∧Pu t (Ws t f) p (ar p-q.1) q.1 q.2.1 q.2.2=(r1,r2)) (fun q:Nat×List UInt8×Nat=>ar p-q.1) (0,[],i+1) ?_ ?_ ?_
 ·exact ⟨Nat.zero_le _,hr⟩
 ·exact J0
 rintro ⟨k,last,j⟩ ⟨hk,hR⟩;simp only at hk hR;rcases Z5 k (ar p) with ⟨Qd,Q6⟩|⟨Qd,Q6⟩
 ·obtain ⟨m,hm⟩:∃ m,ar p-k=m+1:=⟨ar p-k-1,by omega⟩
  rw [hm,Pu] at hR;rcases Vv t.length j with ⟨Zo3,Q5⟩|⟨Zo3,Q5⟩
  ·rw [Q5,cond_true] at hR;injection hR with Ej Le
   subst Ej;subst Le;have Qa:=@Zt;have Z2:=@Zr;have Z7:=@Zu;have Qk:=@Zp;have Qm:=@Wt;have Qr:=@Zs;have Kq:Kbh:=⟨⟩;exact Lj
  rw [Q5,cond_false] at hR;have Cw:j<t.length:=by omega
  have Ja:=Z9 n0 Cw;obtain ⟨x,hx⟩:=exq (t.getD j n0);rw [hx] at Ja hR;cases Jq:(x.kind==9) with
  | true =>
   cases Q9:Yj p with
   | false =>
    have hb:H5 p k x last=true:=by simp only [H5,Jq,Q9,cond_true,cond_false,Bool.not_true,Bool.not_false]
    rw [hb,cond_true] at hR;injection hR with Ej Le
    subst Ej;subst Le;have Qa:=@Zt;have Z2:=@Zr;have Z7:=@Zu;have Qk:=@Zp;have Qm:=@Wt;have Qr:=@Zs;have Kq:Kbi:=⟨⟩;exact Lj
   | true =>
    have Zoz:=mV Q0 Q9;cases Je:Jw (k:Int) (p.n-1) with
    | true =>
     have hb:H5 p k x last=true:=by simp only [H5,Jq,Q9,Je,cond_true,cond_false,Bool.not_true,Bool.not_false]
     rw [hb,cond_true] at hR;injection hR with Ej Le
     subst Ej;subst Le;have Qa:=@Zt;have Z2:=@Zr;have Z7:=@Zu;have Qk:=@Zp;have Qm:=@Wt;have Qr:=@Zs;have Kq:Kbj:=⟨⟩;exact Lj
    | false =>
     cases Qe:(x.name==[]) with
     | false =>
      have hb:H5 p k x last=true:=by simp only [H5,Jq,Q9,Je,Qe,cond_true,cond_false,Bool.not_true,Bool.not_false]
      rw [hb,cond_true] at hR;injection hR with Ej Le
      subst Ej;subst Le;have Qa:=@Zt;have Z2:=@Zr;have Z7:=@Zu;have Qk:=@Zp;have Qm:=@Wt;have Qr:=@Zs;have Kq:Kbk:=⟨⟩;exact Lj
     | true =>
      have hb:H5 p k x last=false:=by simp only [H5,Jq,Q9,Je,Qe,cond_true,cond_false,Bool.not_true,Bool.not_false]
      rw [hb,cond_false] at hR;obtain ⟨w,hw⟩:=exq (Ws t f j);rw [hw] at hR;obtain ⟨w1,w2⟩:=w;simp only at hR;have Qc:(Jx n).post ⟨t,j,f,d+1⟩=Xx t w2:=by rw [Du,hw]
      have Qg:(Jx n).res ⟨t,j,f,d+1⟩=.bool w1:=by rw [R6,hw]
      have Qa:=@Zt;have Z2:=@Zr;have Z7:=@Zu;have Qk:=@Zp;have Qm:=@Wt;have Qr:=@Zs;have Kq:Kbl:=⟨⟩;exact Lj
  | false =>
   cases Qi:qB p.kind x.name with
   | false =>
    have hb:H5 p k x last=true:=by simp only [H5,Jq,Qi,cond_true,cond_false,Bool.not_true,Bool.not_false]
    rw [hb,cond_true] at hR;injection hR with Ej Le
    subst Ej;subst Le;have Qa:=@Zt;have Z2:=@Zr;have Z7:=@Zu;have Qk:=@Zp;have Qm:=@Wt;have Qr:=@Zs;have Kq:Kbo:=⟨⟩;exact Lj
   | true =>
    cases Q9:Yj p with
    | false =>
     have hb:H5 p k x last=false:=by simp only [H5,Jq,Qi,Q9,cond_true,cond_false,Bool.not_true,Bool.not_false]
     rw [hb,cond_false] at hR;obtain ⟨w,hw⟩:=exq (Ws t f j);rw [hw] at hR;obtain ⟨w1,w2⟩:=w;simp only at hR;have Qc:(Jx n).post ⟨t,j,f,d+1⟩=Xx t w2:=by rw [Du,hw]
     have Qg:(Jx n).res ⟨t,j,f,d+1⟩=.bool w1:=by rw [R6,hw]
     have Qa:=@Zt;have Z2:=@Zr;have Z7:=@Zu;have Qk:=@Zp;have Qm:=@Wt;have Qr:=@Zs;have Kq:Kbp:=⟨⟩;exact Lj
    | true =>
     cases Qh:(Op.bytesLess x.name last||x.name==last) with
     | true =>
      have hb:H5 p k x last=true:=by simp only [H5,Jq,Qi,Q9,Qh,cond_true,cond_false,Bool.not_true,Bool.not_false]
      rw [hb,cond_true] at hR;injection hR with Ej Le
      subst Ej;subst Le;have Qa:=@Zt;have Z2:=@Zr;have Z7:=@Zu;have Qk:=@Zp;have Qm:=@Wt;have Qr:=@Zs;have Kq:Kbs:=⟨⟩;exact Lj
     | false =>
      have hb:H5 p k x last=false:=by simp only [H5,Jq,Qi,Q9,Qh,cond_true,cond_false,Bool.not_true,Bool.not_false]
      rw [hb,cond_false] at hR;obtain ⟨w,hw⟩:=exq (Ws t f j);rw [hw] at hR;obtain ⟨w1,w2⟩:=w;simp only at hR;have Qc:(Jx n).post ⟨t,j,f,d+1⟩=Xx t w2:=by rw [Du,hw]
      have Qg:(Jx n).res ⟨t,j,f,d+1⟩=.bool w1:=by rw [R6,hw]
      have Qa:=@Zt;have Z2:=@Zr;have Z7:=@Zu;have Qk:=@Zp;have Qm:=@Wt;have Qr:=@Zs;have Kq:Kbt:=⟨⟩;exact Lj
 ·have hz:ar p-k=0:=by omega
  rw [hz,Pu] at hR;injection hR with Ej Le
  subst Ej;subst Le;have Qa:=@Zt;have Z2:=@Zr;have Z7:=@Zu;have Qk:=@Zp;have Qm:=@Wt;have Qr:=@Zs;have Kq:Kbw:=⟨⟩;exact Lj):p:=h
theorem stepb_treeT (n:Nat) (ih:Wm Tryz.prog (134,Jx n)):Wm Tryz.prog (134,(Jx (n+1))):=by
 obtain ⟨Kx,Kt,Kc,Kd,Kb,Ku,Kw,K,Y6,P7,aV,dF,oD,_⟩:=W5 Qj Z0 [] false (Xa good_manyT Cd.eq_def (Xa good_isRowT N6.eq_def (Xa good_isNodeT Mw.eq_def (Xa good_isLabelT Hz.eq_def (kW ih (Jx.eq_def n) W4)))));refine jU K Tryz.func134 [.tmp 5] rfl 89 rfl (fun c hc x Xr=>?_);obtain ⟨t,i,f,d⟩:=x;obtain ⟨ht,hN,hf,hd,hn⟩:=Xr;simp only at ht hN hf hd hn;refine ⟨?_,?_,?_,?_,?_⟩
 ·show Xg [.d (.int .i64 d),.ref 90000 0,.ref 90001 0,.ref 90002 0] (Xx t i);rw [Jv];simp [Xg,Jm,Obj.tied,Zx,keptAll,AV.kept,Zq,Jn,lk]
 ·show Zx (Xx t i);rw [Jv];simp [Zx]
 ·show Xg [] (Xx t (Ws t f i).2);rw [Jv];simp [Xg,Jm,Obj.tied,Zx,keptAll,AV.kept,Zq,Jn,lk]
 ·show (Xx t i).length≤(Xx t (Ws t f i).2).length;rw [Jv,Jv];simp
 show V4 Kx c (V9 _ _ (Xx t i).length (.bool (Ws t f i).1) (Xx t (Ws t f i).2)) ⟨[.d (.int .i64 d),.ref 90000 0,.ref 90001 0,.ref 90002 0]++Yp 85,Zq (Xx t i)⟩;rw [Jv,Jv];cases hc;refine Kn 5 ?_;cases f with
 | zero =>
  have h0:Ws t 0 i=(false,i):=rfl;rw [h0];have Qz:Jw 100 d=true:=by rw [Xs];omega
  rcases Vv t.length i with ⟨Pj,Qu⟩|⟨Pj,Qu⟩
  ·have Qa:=@Zt;have Z2:=@Zr;have Z7:=@Zu;have Qk:=@Zp;have Qm:=@Wt;have Qr:=@Zs;have Kq:Kbc:=⟨⟩;exact Lj
  ·have Qa:=@Zt;have Z2:=@Zr;have Z7:=@Zu;have Qk:=@Zp;have Qm:=@Wt;have Qr:=@Zs;have Kq:Kbd:=⟨⟩;exact Lj
 | succ f =>
  have Qz:Jw 100 d=false:=by rw [Jl];omega
  have Hf:Ws t (f+1) i=cond (Ju (t.length:Int) i) (false,i)
   (cond (Y1 (t.getD i n0)) (Pu t (Ws t f) (t.getD i n0) (ar (t.getD i n0)) 0 [] (i+1)) (false,i)):=rfl
  rcases Vv t.length i with ⟨Pj,Qu⟩|⟨Pj,Qu⟩
  ·rw [Qu,cond_true] at Hf;rw [Hf];have Qa:=@Zt;have Z2:=@Zr;have Z7:=@Zu;have Qk:=@Zp;have Qm:=@Wt;have Qr:=@Zs;have Kq:Kbe:=⟨⟩;exact Lj
  rw [Qu,cond_false] at Hf;have L4:i<t.length:=by omega
  have Qs:=Z9 n0 L4;obtain ⟨p,hp⟩:=exq (t.getD i n0);rw [hp] at Qs Hf;cases Q0:Y1 p with
  | false =>
   rw [Q0,cond_false] at Hf;rw [Hf];have Qa:=@Zt;have Z2:=@Zr;have Z7:=@Zu;have Qk:=@Zp;have Qm:=@Wt;have Qr:=@Zs;have Kq:Kbf:=⟨⟩;exact Lj
  | true =>
   have Zzp:ar p≤50:=by have:=(Dz Q0).2;rw [Bk Q0] at this;omega
   rw [Q0,cond_true] at Hf;rw [Hf];obtain ⟨r,hr⟩:=exq (Pu t (Ws t f) p (ar p) 0 [] (i+1));rw [hr];obtain ⟨r1,r2⟩:=r;simp only;have Qa:=@Zt;have Z2:=@Zr;have Z7:=@Zu;have Qk:=@Zp;have Qm:=@Wt;have Qr:=@Zs;have Kq:Kbg:=⟨⟩;exact Lj
theorem Fo:∀ n,Wm Tryz.prog (134,Jx n)
 | 0=>Br (Xc Tryz.func134 (by kernel_rfl) rfl) Ov
 | n+1=>stepb_treeT n (Fo n)
theorem Zcd {l:List Node} (h:0<l.length):el (l.map (enc:Node→D)) 0=enc (l.getD 0 n0):=Z9 n0 h
def Uc (l:List (List UInt8)) (x:List UInt8):Bool:=l.any fun y=>y==x
def Vn:BCon:=Jx 101
theorem jN:Wm Tryz.prog (134,Vn):=Fo _
theorem lB {t:List Node} {i f:Nat} {d:Int}:Vn.post ⟨t,i,f,d⟩=Xx t (Ws t f i).2:=rfl
theorem pW {t:List Node} {i f:Nat} {d:Int}:Vn.res ⟨t,i,f,d⟩=.bool (Ws t f i).1:=rfl
def Nr (t:List Node):Bool:=!J8 t&&((Ws t 100 0).1&&((Ws t 100 0).2:Int)==(t.length:Int))
def B2:Con:=Xd (fun (t:Sl Node)=>t.l.length≤1000000∧P6 t.l) (fun t=>Nr t.l)
class Kbx:Prop
theorem Kbx.k (_:Kbx) (h:p:=by
 refine Z6 (bc:=Vn) ⟨t,0,100,1⟩ [3,1,4] ⟨ht,hN,by simp only;omega,by simp only;omega,by simp only;omega⟩ rfl (by simp) (by rw [Ja];rfl) ?_ ?_ ?_
 ·show Zh _ _ (Xx t 0) _;rw [Jv];simp [Zh,lk,J7,rnA,rnAs,rk];rfl
 ·show Zy (List.drop (Xx t 0).length _) _;rw [Jv];simp [Zy,lk]
 cases w1 with
 | false =>
  have Qz:Nr t=false:=by rw [hR];rfl
  have Q9:=@Jv;have Je:=@Zt;have Qe:=@Zr;have Qc:=@Zu;have Qg:=@Zp;have Qi:=@Wt;have Qh:=@Zs;exact Zbp
 | true =>
  have Qz:Nr t=((w2:Int)==(t.length:Int)):=by rw [hR];rfl
  have Q9:=@Jv;have Je:=@Zt;have Qe:=@Zr;have Qc:=@Zu;have Qg:=@Zp;have Qi:=@Wt;have Qh:=@Zs;exact Zbp):p:=h
theorem good_RightT:Jc Tryz.prog (99,B2):=by
 obtain ⟨Kx,Kt,Kc,Kd,Kb,Ku,Kw,K,Y6,_⟩:=W5 Qj Z0 [] false (kW jN Vn.eq_def W4);have Ko:=B2.eq_def;refine Yv K Tryz.func99 [.tmp 2] rfl 36 rfl (fun c hc Jj Zo=>?_);unfold B2 at Zo;obtain ⟨⟨t⟩,rfl,ht,hN⟩:=Qp Zo;simp only at ht hN;obtain ⟨w,hw⟩:=exq (Ws t 100 0);obtain ⟨w1,w2⟩:=w;have hR:Nr t=(!J8 t&&(w1&&(w2:Int)==(t.length:Int))):=by unfold Nr;rw [hw]
 cases hc;refine Kn 2 ?_;by_cases h0:t.length=0
 ·have hb:J8 t=true:=by unfold J8;simp [h0]
  have Qz:Nr t=false:=by rw [hR,hb];rfl
  have Qu:((t.length:Int)==0)=true:=by rw [Zi];omega
  have Q9:=@Zt;have Je:=@Zr;have Qe:=@Zu;have Qc:=@Zp;have Qg:=@Wt;have Qi:=@Zs;exact Zbp
 have Qu:((t.length:Int)==0)=false:=by rw [Za];omega
 have Zcw:(t.length==0)=false:=by rw [Za];exact h0
 have Ax:0<t.length:=by omega
 have Q0:=Zcd Ax;rcases Xy 10000 t.length with ⟨hl,Qs⟩|⟨hl,Qs⟩
 ·have hb:J8 t=true:=by unfold J8;rw [Qs];simp
  have Qz:Nr t=false:=by rw [hR,hb];rfl
  have Q9:=@Zt;have Je:=@Zr;have Qe:=@Zu;have Qc:=@Zp;have Qg:=@Wt;have Qi:=@Zs;exact Zbp
 cases Q6:((t.getD 0 n0).name==[]) with
 | false =>
  have hb:J8 t=true:=by unfold J8;rw [Q6];simp
  have Qz:Nr t=false:=by rw [hR,hb];rfl
  have Q9:=@Zt;have Je:=@Zr;have Qe:=@Zu;have Qc:=@Zp;have Qg:=@Wt;have Qi:=@Zs;exact uN
 | true =>
  cases Q5:((t.getD 0 n0).kind==9) with
  | true =>
   have hb:J8 t=true:=by unfold J8;rw [Q5];simp
   have Qz:Nr t=false:=by rw [hR,hb];rfl
   have Q9:=@Zt;have Je:=@Zr;have Qe:=@Zu;have Qc:=@Zp;have Qg:=@Wt;have Qi:=@Zs;exact uN
  | false =>
   have hb:J8 t=false:=by unfold J8;rw [Zcw,Qs,Q6,Q5];rfl
   rw [hb,Bool.not_false,Bool.true_and] at hR;have Ja:Vn.post ⟨t,0,100,1⟩=Xx t w2:=by rw [lB,hw]
   have Jq:Vn.res ⟨t,0,100,1⟩=.bool w1:=by rw [pW,hw]
   have Q9:=@Zt;have Je:=@Zr;have Qe:=@Zu;have Qc:=@Zp;have Qg:=@Wt;have Qi:=@Zs;have Kq:Kbx:=⟨⟩;exact Lj
theorem mN (x y:List UInt8):(Op.bytesLess x y||x==y)=!Op.bytesLess y x:=by
 rw [bytesLess_eq,bytesLess_eq,Bool.eq_iff_iff];simp only [Bool.or_eq_true,decide_eq_true_eq,Zi,Bool.not_eq_true',decide_eq_false_iff_not,List.not_lt];constructor
 ·rintro (h|rfl)
  ·exact List.le_of_lt h
  ·exact List.le_refl _
 ·intro h;rcases List.le_iff_lt_or_eq.1 h with h|h
  ·exact .inl h
  ·exact .inr h
theorem zE (x:List UInt8):Op.bytesLess x []=false:=by
 rw [bytesLess_eq];simp
theorem zO (p:Node):Ak p=Yj p:=rfl
theorem sE {p x prev:Node} {k m:Nat} {last:List UInt8} (hn:Y1 p=true) (hm:m=ar p) (hk:k<m) (Zcw:k=0→last=[]) (oO:0<k→last=prev.name) :
  jG p x prev (Jw 0 (k:Int)) ((k:Int)==(m:Int)-1)=!H5 p k x last:=by
 unfold jG H5;rw [zO];cases h9:(x.kind==9) with
 | true =>
  simp only [cond_true];cases hr:Yj p with
  | false=>rfl
  | true =>
   have Zoz:=mV hn hr;have Ztz:(m:Int)=p.n:=by
    have h1:=Bk hn;rw [hm,←h1];unfold Wa;unfold Yj at hr;rw [Bool.or_eq_true,Zi,Zi] at hr;rw [if_neg (by omega),if_pos hr]
   rcases Xy (k:Int) (p.n-1) with ⟨h1,h2⟩|⟨h1,h2⟩
   ·have:((k:Int)==(m:Int)-1)=false:=by rw [Za];omega
    rw [h2,this];rfl
   ·have:((k:Int)==(m:Int)-1)=true:=by rw [Zi];omega
    rw [h2,this];simp
 | false =>
  simp only [cond_false];have Znq:∀ q:Bool,(q=true→x.name≠[])→(!(!q)&&(!(!true&&!(x.name==[]))&&!(true&&(Jw 0 (k:Int)&&!Op.bytesLess prev.name x.name))))=!cond (!q) true (Op.bytesLess x.name last||x.name==last):=by
   intro q hq;cases q with
   | false=>rfl
   | true =>
    rcases Nat.eq_zero_or_pos k with rfl|Lf
    ·rw [Zcw rfl,zE];have:(x.name==[])=false:=by rw [Za];exact hq rfl
     rw [this];rfl
    ·have:Jw 0 (k:Int)=true:=by rw [Xs];omega
     rw [this,oO Lf,mN];simp
  by_cases h6:p.kind=6
  ·have hr:Yj p=true:=by unfold Yj;simp [h6]
   have:=Znq (J4 x.name) (fun h e=>by rw [e] at h;cases h)
   simp only [qB,h6,hr,cond_true] at this ⊢;simpa using this
  ·by_cases h7:p.kind=7
   ·have hr:Yj p=true:=by unfold Yj;simp [h7]
    have:=Znq (K1 x.name) (fun h e=>by rw [e] at h;cases h)
    simp only [qB,h7,hr,cond_true] at this ⊢;simpa using this
   ·have hr:Yj p=false:=by unfold Yj;simp [h6,h7]
    simp only [qB,if_neg h6,if_neg h7,hr,cond_false,Za.2 h6,Za.2 h7];cases (x.name==[])<;>rfl
def vL (ks:List (Rose Node)) (q:Nat):Node:=(ks.getD q (mk n0 [])).root
def Da (ks:List (Rose Node)) (last:List UInt8) (q:Nat):List UInt8:=if q=0 then last else (vL ks (q-1)).name
theorem bM {x:Rose Node} {xs:List (Rose Node)} {last:List UInt8} {q:Nat}:Da (x::xs) last (q+1)=Da xs x.root.name q:=by
 unfold Da vL;rw [if_neg (by omega)]
 cases q with
 | zero=>rfl
 | succ q=>rw [if_neg (by omega)];rfl
theorem mP {p:Node} {ks:List (Rose Node)} (hn:Y1 p=true) (hk:ks.length=ar p):zF p ks=true↔∀ q,q<ks.length→H5 p q (vL ks q) (Da ks [] q)=false:=by
 unfold zF;rw [List.all_eq_true];constructor
 ·intro h q hq;have:=h q (List.mem_range.2 hq);rw [sE hn hk hq (last:=Da ks [] q) (fun e=>by subst e;rfl) (fun e=>by unfold Da;rw [if_neg (by omega)];rfl)] at this
  rw [Bool.not_eq_true'] at this;exact this
 ·intro h q hq;have hq:=List.mem_range.1 hq;rw [sE hn hk hq (last:=Da ks [] q) (fun e=>by subst e;rfl) (fun e=>by unfold Da;rw [if_neg (by omega)];rfl)]
  have:=h q hq;unfold vL at this;rw [this];rfl
theorem yT {t:List Node} {i:Nat} (h:i<t.length):Ju (t.length:Int) (i:Int)=false:=by rw [Vu];omega
mutual
theorem treeR_ok {t:List Node} (hN:Md t):∀ {x:Rose Node} {i f:Nat},At ar t i x→depth x≤f→labT x=true→Ws t f i=(true,i+(nds x).length)
 | mk n ks,i,f,h,hd,hl=>by
  cases f with
  | zero=>rw [depth] at hd;omega
  | succ f =>
   have Qd:=h.lt;have Th:t.getD i n0=n:=h.root n0;obtain ⟨Pk,eS⟩:=h.kids;simp only [kids,root] at Pk eS;rw [depth] at hd;rw [labT,Ze] at hl;have Ls:Y1 n=true:=by rw [←Th];exact hN _ (by simp [Qd])
   rw [Ws,yT Qd,cond_false,Th,Ls,cond_true,←eS];rw [kidsR_ok hN Pk (by omega) hl.2 (fun q hq=>by rw [Nat.zero_add];exact (mP Ls eS).1 hl.1 q hq),Jt,Zf]
   congr 1
   omega
theorem kidsR_ok {t:List Node} (hN:Md t):∀ {ks:List (Rose Node)} {p:Node} {k:Nat} {last:List UInt8} {j f:Nat},Rx ar t j ks→depths ks≤f→labTs ks=true→(∀ q,q<ks.length→H5 p (k+q) (vL ks q) (Da ks last q)=false) →
  Pu t (Ws t f) p ks.length k last j=(true,j+(ndss ks).length)
 | [],p,k,last,j,f,_,_,_,_=>by rw [List.length_nil,Pu];simp [ndss]
 | x::xs,p,k,last,j,f,h,hd,hl,hb=>by
  obtain ⟨hx,dG⟩:=h.head;have hj:=hx.lt;rw [depths] at hd;rw [labTs,Ze] at hl;have Zzo:H5 p k x.root last=false:=hb 0 (by simp)
  rw [Zf,Pu,yT hj,cond_false,hx.root n0,Zzo,cond_false,treeR_ok hN hx (by omega) hl.1]
  simp only [cond_true];rw [kidsR_ok hN dG (by omega) hl.2 (fun q hq=>by
   have:=hb (q+1) (by simp only [Zf];omega)
   rw [bM] at this;rw [show k+1+q=k+(q+1) by omega]
   exact this),ndss,Zj]
  congr 1
  omega
end
theorem Zan {t:List Node} {j:Nat} {x:Rose Node} {xs:List (Rose Node)} (hx:At ar t j x) (dG:Rx ar t (j+(nds x).length) xs):Rx ar t j (x::xs):=by
 obtain ⟨h1,r,h2⟩:=hx;obtain ⟨g1,s,g2⟩:=dG;refine ⟨⟨h1,g1⟩,s,?_⟩;rw [←List.drop_drop,h2,List.drop_left'] at g2
 ·rw [h2,g2,ndss,List.append_assoc]
 ·rfl
theorem xK {t:List Node} {i:Nat} {ks:List (Rose Node)} (hi:i<t.length) (hk:ks.length=ar (t.getD i n0)) (h:Rx ar t (i+1) ks):At ar t i (mk (t.getD i n0) ks):=by
 obtain ⟨g1,s,g2⟩:=h;refine ⟨⟨hk,g1⟩,s,?_⟩;rw [List.drop_eq_getElem_cons hi,g2,Jt];simp [hi]
theorem bR {t:List Node} {p:Node} {f:Nat} {tr:Nat→Bool×Nat} (Hg:∀ i j,tr i=(true,j)→∃ x,At ar t i x∧j=i+(nds x).length∧depth x≤f∧labT x=true∧Md (nds x)):∀ {m k:Nat} {last:List UInt8} {j e:Nat},Pu t tr p m k last j=(true,e)→j≤t.length →
  ∃ ks:List (Rose Node),ks.length=m∧Rx ar t j ks∧e=j+(ndss ks).length∧depths ks≤f∧labTs ks=true∧Md (ndss ks)∧∀ q,q<ks.length→H5 p (k+q) (vL ks q) (Da ks last q)=false
 | 0,k,last,j,e,h,hj=>by
  rw [Pu] at h;injection h with _ h
  exact ⟨[],rfl,⟨trivial,t.drop j,by simp [ndss]⟩,by simp [ndss,h],by simp [depths],rfl,fun n hn=>by simp [ndss] at hn,fun q hq=>by simp at hq⟩
 | m+1,k,last,j,e,h,hj=>by
  rw [Pu] at h;cases hl:Ju (t.length:Int) (j:Int) with
  | true=>rw [hl,cond_true] at h;cases h
  | false =>
   rw [hl,cond_false] at h;cases hb:H5 p k (t.getD j n0) last with
   | true=>rw [hb,cond_true] at h;cases h
   | false =>
    rw [hb,cond_false] at h;obtain ⟨w,hw⟩:=exq (tr j);obtain ⟨w1,w2⟩:=w;rw [hw] at h;simp only at h;cases w1 with
    | false=>rw [cond_false] at h;cases h
    | true =>
     rw [cond_true] at h;obtain ⟨x,hx,rfl,hd,Zvs,hn⟩:=Hg j w2 hw;obtain ⟨ks,e1,e2,e3,e4,e5,e6,e7⟩:=bR Hg h hx.le;have Cz:=hx.root n0;refine ⟨x::ks,by simp [e1],Zan hx e2,?_,?_,?_,?_,fun q hq=>?_⟩
     ·rw [e3,ndss,Zj];omega
     ·rw [depths];omega
     ·rw [labTs,Zvs,e5];rfl
     ·intro n hm;rw [ndss,List.mem_append] at hm;rcases hm with hm|hm
      ·exact hn n hm
      ·exact e6 n hm
     ·cases q with
      | zero=>rw [Cz] at hb;exact hb
      | succ q =>
       rw [bM,←Cz,show k+(q+1)=k+1+q by omega]
       exact e7 q (by simpa using hq)
theorem aF {t:List Node}:∀ {f i j:Nat},Ws t f i=(true,j)→∃ x,At ar t i x∧j=i+(nds x).length∧depth x≤f∧labT x=true∧Md (nds x)
 | 0,i,j,h=>by rw [Ws] at h;cases h
 | f+1,i,j,h=>by
  rw [Ws] at h;cases hl:Ju (t.length:Int) (i:Int) with
  | true=>rw [hl,cond_true] at h;cases h
  | false =>
   rw [hl,cond_false] at h;rw [Vu] at hl;have hi:i<t.length:=by omega
   cases Ls:Y1 (t.getD i n0) with
   | false=>rw [Ls,cond_false] at h;cases h
   | true =>
    rw [Ls,cond_true] at h;obtain ⟨ks,e1,e2,e3,e4,e5,e6,e7⟩:=bR (f:=f) (fun i j h=>aF h) h (by omega)
    refine ⟨mk (t.getD i n0) ks,xK hi e1 e2,?_,?_,?_,?_⟩
    ·rw [e3,Jt,Zf];omega
    ·rw [depth];omega
    ·rw [labT,Ze];exact ⟨(mP Ls e1).2 fun q hq=>by have:=e7 q hq;rwa [Nat.zero_add] at this,e5⟩
    ·intro n hm;rw [Jt] at hm;rcases Zm.1 hm with rfl|hm
     ·exact Ls
     ·exact e6 n hm
theorem pG (t:List Node):Nr t=U2 t:=by
 rw [Bool.eq_iff_iff];unfold Nr;constructor
 ·intro h;rw [Ze,Ze,Zi,Bool.not_eq_true'] at h;obtain ⟨h1,h2,h3⟩:=h;obtain ⟨x,hx,e,hd,hl,hn⟩:=aF (t:=t) (f:=100) (i:=0) (j:=(Ws t 100 0).2) (by rw [←h2])
  unfold J8 at h1;simp only [Bool.or_eq_false_iff,Za,Bool.not_eq_false',Zi,Jl] at h1;obtain ⟨⟨⟨g1,g2⟩,g3⟩,g4⟩:=h1;have Cz:=hx.root n0;have ht:t=nds x:=by
   obtain ⟨_,r,h5⟩:=hx;rw [List.drop_zero] at h5;have h6:=congrArg List.length h5;rw [Zj] at h6;have:r=[]:=List.length_eq_zero_iff.1 (by omega)
   rw [h5,this,List.append_nil]
  rw [ht];exact uO ⟨hx.1,hn,hd,hl,by rw [←Cz];exact g3,by rw [←Cz];exact g4,by rw [←ht];omega⟩
 ·intro h;obtain ⟨x,rfl,hx⟩:=jK h;have ha:=Wx hx.wf;have Cz:=ha.root n0;rw [treeR_ok hx.numb ha hx.depth hx.lab];have hh:J8 (nds x)=false:=by
   unfold U2 at h;rw [Ze,Bool.not_eq_true'] at h;exact h.1
  rw [hh];simp
open Go.Proofs
structure Part where
 kind:Int
 label:List UInt8
 name:List UInt8
 bind:List UInt8
 many:Int
 num:Int
 t:List Node
 u:List Node
 deriving DecidableEq
instance encPart:Enc Part:=⟨fun a=>.agg [.int .i64 a.kind,.str a.label,.str a.name,.str a.bind,.int .i64 a.many,.int .i64 a.num,.list 3 (a.t.map enc),.list 3 (a.u.map enc)],fun x=>match x with
 | .agg [a,b,c,d,e,f,g,h]=>⟨a.i,b.s,c.s,d.s,e.i,f.i,g.l.map dec,h.l.map dec⟩
 | _=>⟨0,[],[],[],0,0,[],[]⟩,fun a=>by
  have h:∀ l:List Node,(l.map (enc:Node→D)).map dec=l:=fun l=>Wv;cases a;simp [D.l,D.i,D.s,h]⟩
instance szPart:Sz Part:=⟨8⟩
theorem pC:Sz.sz Part=8:=rfl
theorem Wi {n:Part}:(enc n:D)=.agg [.int .i64 n.kind,.str n.label,.str n.name,.str n.bind,.int .i64 n.many,.int .i64 n.num,.list 3 (n.t.map enc),.list 3 (n.u.map enc)]:=rfl
theorem Wj {a:Int} {b c d:List UInt8} {e f:Int} {g h:List Node}:(dec (.agg [.int .i64 a,.str b,.str c,.str d,.int .i64 e,.int .i64 f,.list 3 (g.map enc),.list 3 (h.map enc)]):Part)=⟨a,b,c,d,e,f,g,h⟩:=Enc.dec_enc (Part.mk a b c d e f g h)
theorem Wh {a:Int} {b c d:List UInt8} {e f:Int} {g h:List Node}:Tu Part (.agg [.int .i64 a,.str b,.str c,.str d,.int .i64 e,.int .i64 f,.list 3 (g.map enc),.list 3 (h.map enc)])=True:=eq_true (Xi (Part.mk a b c d e f g h))
theorem We {n:Part}:Part.mk n.kind n.label n.name n.bind n.many n.num n.t n.u=n:=rfl
def e0:Part:=⟨0,[],[],[],0,0,[],[]⟩
def oF (p:Part):Prop:=(p.t.length≤9223372036854775807∧P6 p.t)∧(p.u.length≤9223372036854775807∧P6 p.u)∧p.label.length≤9223372036854775807∧p.name.length≤9223372036854775807∧p.bind.length≤9223372036854775807
theorem Nh {p:Nat→Prop} {k:Nat} (h:∀ j,j<k→p j) (hk:p k):∀ j,j<k+1→p j:=fun j hj=>by
 rcases Nat.lt_or_ge j k with h1|h1
 ·exact h j h1
 ·have:j=k:=by omega
  exact this▸hk
def Jk (p:Part):Int :=
 if p.kind=2∨p.kind=8∨p.kind=11∨p.kind=12∨p.kind=13∨p.kind=14 then 1
 else if p.kind=3∨p.kind=4∨p.kind=5∨p.kind=9 then 2
 else if p.kind=6 then 3
 else if p.kind=7 then E3 p.many 0+1
 else if p.kind=10 then E3 p.many 0
 else 0
def Ge:Con:=Xd (fun (p:Part)=>p.many≤1000000) (fun p=>Jk p)
class Kby:Prop
theorem Kby.k (_:Kby) (h:p:=by
 first|(rw [Qn,Za4];split<;>omega)|(unfold Jk;simp_all;done)):p:=h
theorem good_Many5:Jc Tryz.prog (39,Ge):=by
 obtain ⟨Kx,Kt,Kc,Kd,Kb,Ku,Kw,K,_⟩:=W5 Qj Z0 [] false W4;have Ko:=Ge.eq_def;refine Yv K Tryz.func39 [.tmp 2] rfl 30 rfl (fun c hc Jj Zo=>?_);unfold Ge at Zo;obtain ⟨p,rfl,hm⟩:=Qp Zo;have Za4:E3 p.many 0=if p.many<0 then 0 else p.many:=rfl
 cases hc;have Qu:=@Wi;have Qz:=@Wh;have Qs:=@Wj;have Q0:=@We;have Q6:=@pC;have Kq:Kby:=⟨⟩;exact Lj
def Lu:List Part→Int→Nat
 | [],_=>0
 | n::l,o=>if o-1+Jk n=0 then 1 else 1+Lu l (o-1+Jk n)
def M9 (t:List Part) (i:Int):Int:=if i<0∨(t.length:Int)≤i then -1 else i+Lu (t.drop i.toNat) 1
def P5 (t:List Part):Prop:=t.length≤100000∧∀ n∈t,0≤Jk n∧Jk n≤60∧n.many≤1000000
def Tc:Con:=Vy (fun (t:Sl Part) (i:Int)=>P5 t.l∧eD .i64 i) (fun t i=>M9 t.l i)
class KbA:Prop
theorem KbA.k (_:KbA) (h:p:=by
 repeat' first|exact Lz|with_reducible apply Z3|intro _
 ·rename_i hz;rw [if_pos hz] at he;rw [e00];omega
 ·rename_i hz;rw [if_neg hz] at he;exact ⟨(k+1,o-1+Jk x),by exact J0,by simp only;omega,by simp only;omega,by simp only;omega,by simp only;omega,by simp only;omega,by simp only;omega⟩):p:=h
class KbB:Prop
theorem KbB.k (_:KbB) (h:p:=by
 rw [e00];omega):p:=h
class Kbz:Prop
theorem Kbz.k (_:Kbz) (h:p:=by
 repeat' first|exact Lz|with_reducible apply Z3|intro _
 ·unfold M9;rw [if_pos (.inr ‹_›)]
 ·obtain ⟨i,rfl⟩:∃ n:Nat,i=n:=⟨i.toNat,by omega⟩
  have L4:i<t.length:=by omega
  have e00:M9 t i=i+Lu (t.drop i) 1:=by
   unfold M9;rw [if_neg (by omega)]
   rfl
  refine Z1 [4,16,17,18,19,20,21,22,23,24,25,26,27,28,29,30,31,32,33] (fun p:Nat×Int=>[(5,.d (.int .i64 p.2)),(6,.d (.int .i64 p.1))]) (fun p:Nat×Int=>[]) (fun p:Nat×Int=>i≤p.1∧p.1≤t.length∧1≤p.2∧p.2≤1+60*p.1∧i+Lu (t.drop i) 1=p.1+Lu (t.drop p.1) p.2) (fun p:Nat×Int=>t.length-p.1) (i,1) ?_ ?_ ?_
  ·exact ⟨Zk _,by simp only;omega,by simp,by simp only;omega,rfl⟩
  ·exact J0
  rintro ⟨k,o⟩ ⟨h1,h2,h3,h4,h5⟩;simp only at h1 h2 h3 h4 h5;rcases Z5 k t.length with ⟨Qd,Qu⟩|⟨Qd,Qu⟩
  ·have Zbf:=hm (t.getD k e0) (by simp [Qd])
   have Qz:=Z9 e0 Qd;have he:Lu (t.drop k) o=if o-1+Jk (t.getD k e0)=0 then 1 else 1+Lu (t.drop (k+1)) (o-1+Jk (t.getD k e0)):=by
    rw [List.drop_eq_getElem_cons Qd,Lu];simp [Qd]
   obtain ⟨x,hx⟩:=exq (t.getD k e0);rw [hx] at Zbf Qz he;have Qs:=@Wi;have Q0:=@Wh;have Q6:=@Wj;have Q5:=@We;have Ja:=@pC;have Kq:KbA:=⟨⟩;exact Nj
  ·have hd:t.drop k=[]:=List.drop_eq_nil_of_le Qd;rw [hd,Lu] at h5;have Qs:=@Wi;have Q0:=@Wh;have Q6:=@Wj;have Q5:=@We;have Ja:=@pC;have Kq:KbB:=⟨⟩;exact Nj
 ·unfold M9;rw [if_pos (.inl ‹_›)]):p:=h
theorem good_End5:Jc Tryz.prog (17,Tc):=by
 obtain ⟨Kx,Kt,Kc,Kd,Kb,Ku,Kw,K,Y6,_⟩:=W5 Qj Z0 [] false (Xa good_Many5 Ge.eq_def W4);have Ko:=Tc.eq_def;refine Yv K Tryz.func17 [.tmp 4] rfl 36 rfl (fun c hc Jj Zo=>?_);unfold Tc at Zo;obtain ⟨⟨t⟩,i,rfl,⟨ht,hm⟩,hi⟩:=Jd Zo;simp only at ht hm;rw [Qn] at hi;cases hc;refine Kn 2 ?_;have Qs:=@Wi;have Q0:=@Wh;have Q6:=@Wj;have Q5:=@We;have Ja:=@pC;have Kq:Kbz:=⟨⟩;exact Nj
theorem tY:∀ (l:List Part) (o:Int),Lu l o≤l.length
 | [],_=>Zk _
 | n::l,o=>by
  have:=tY l (o-1+Jk n);simp only [Lu,Zf];split<;>omega
def Jz (t:List Part):Nat→Nat→List Int
 | 0,_=>[]
 | m+1,at_=>if at_<t.length then (at_:Int)::Jz t m (at_+Lu (t.drop at_) 1) else []
def Ve (t:List Part) (i:Int):List Int:=if i<0∨(t.length:Int)≤i then [] else Jz t (Jk (t.getD i.toNat e0)).toNat (i.toNat+1)
def Ck:Con:=Vy (fun (t:Sl Part) (i:Int)=>P5 t.l∧eD .i64 i) (fun t i=>Sl.mk (Ve t.l i))
class KbD:Prop
theorem KbD.k (_:KbD) (h:p:=by
 refine ⟨(k+1,q+Lu (t.drop q) 1,out++[(q:Int)]),by exact J0,by simp only;omega,by simp only;omega,by simp [h3],?_,by simp only;omega⟩
 simp only;rw [←h4,show M-(k+1)=M-k-1 by omega]
 simp):p:=h
class KbE:Prop
theorem KbE.k (_:KbE) (h:p:=by
 rw [e00,h4]):p:=h
class KbF:Prop
theorem KbF.k (_:KbF) (h:p:=by
 rw [e00,h4]):p:=h
class KbC:Prop
theorem KbC.k (_:KbC) (h:p:=by
 repeat' first|exact Lz|with_reducible apply Z3|intro _
 ·unfold Ve;rw [if_pos (.inr ‹_›)];rfl
 ·obtain ⟨i,rfl⟩:∃ n:Nat,i=n:=⟨i.toNat,by omega⟩
  have L4:i<t.length:=by omega
  have Zsw:=hm (t.getD i e0) (by simp [L4])
  have Q6:=Z9 e0 L4;obtain ⟨M,Qs⟩:∃ M:Nat,Jk (t.getD i e0)=M:=⟨(Jk (t.getD i e0)).toNat,by omega⟩
  have e00:Ve t i=Jz t M (i+1):=by
   unfold Ve;rw [if_neg (by omega)]
   simp only [Zn,Qs]
  obtain ⟨x,hx⟩:=exq (t.getD i e0);rw [hx] at Zsw Q6 Qs;refine Z1 [20,21,22,23,24,25,26,27,28,29,30,31,32,33,34,35,36,37,38,39,40,41] (fun p:Nat×Nat×List Int=>[(5,.sl 8 (p.2.2.map enc).length),(6,.d (.int .i64 p.2.1)),(7,.d (.int .i64 p.1))]) (fun p:Nat×Nat×List Int=>[(8,.row 1 (p.2.2.map enc) 0)]) (fun p:Nat×Nat×List Int=>p.1≤M∧p.2.1≤t.length∧p.2.2.length=p.1∧p.2.2++Jz t (M-p.1) p.2.1=Jz t M (i+1)) (fun p:Nat×Nat×List Int=>M-p.1) (0,i+1,[]) ?_ ?_ ?_
  ·exact ⟨Nat.zero_le _,L4,rfl,rfl⟩
  ·exact J0
  rintro ⟨k,q,out⟩ ⟨h1,h2,h3,h4⟩;simp only at h1 h2 h3 h4;rcases Z5 k M with ⟨hk,Qu⟩|⟨hk,Qu⟩
  ·rcases Z5 q t.length with ⟨hq,Qz⟩|⟨hq,Qz⟩
   ·have e1:M-k=(M-k-1)+1:=by omega
    rw [e1,Jz,if_pos hq] at h4;have Pj:=tY (t.drop q) 1;rw [List.length_drop] at Pj;have Q0:M9 t q=((q+Lu (t.drop q) 1:Nat):Int):=by
     unfold M9;rw [if_neg (by omega)]
     simp
    have hT:P5 t:=⟨ht,hm⟩;have Q5:=@Wi;have Ja:=@Wh;have Jq:=@Wj;have Q9:=@We;have Je:=@pC;have Kq:KbD:=⟨⟩;exact Lj
   ·have hz:Jz t (M-k) q=[]:=by
     cases hc:M-k with
     | zero=>rfl
     | succ c=>rw [Jz,if_neg (by omega)]
    rw [hz,List.append_nil] at h4;have Q5:=@Wi;have Ja:=@Wh;have Jq:=@Wj;have Q9:=@We;have Je:=@pC;have Kq:KbE:=⟨⟩;exact Lj
  ·have hz:Jz t (M-k) q=[]:=by
    rw [show M-k=0 by omega]
    rfl
   rw [hz,List.append_nil] at h4;have Q5:=@Wi;have Ja:=@Wh;have Jq:=@Wj;have Q9:=@We;have Je:=@pC;have Kq:KbF:=⟨⟩;exact Lj
 ·unfold Ve;rw [if_pos (.inl ‹_›)];rfl):p:=h
theorem good_Kids5:Jc Tryz.prog (20,Ck):=by
 obtain ⟨Kx,Kt,Kc,Kd,Kb,Ku,Kw,K,Y6,P7,_⟩:=W5 Qj Z0 [] false (Xa good_End5 Tc.eq_def (Xa good_Many5 Ge.eq_def W4));have Ko:=Ck.eq_def;refine Yv K Tryz.func20 [.tmp 4] rfl 43 rfl (fun c hc Jj Zo=>?_);unfold Ck at Zo;obtain ⟨⟨t⟩,i,rfl,⟨ht,hm⟩,hi⟩:=Jd Zo;simp only at ht hm;rw [Qn] at hi;cases hc;refine Kn 2 ?_;have Q5:=@Wi;have Ja:=@Wh;have Jq:=@Wj;have Q9:=@We;have Je:=@pC;have Kq:KbC:=⟨⟩;exact Nj
def Ad:List (List UInt8):=[[43],[45],[42],[47],[60],[61,61],[38,38],[124,124],[43,43]]
def yR (s:List UInt8):Bool:=Ad.any fun o=>o==s
theorem sV:([.str [43],.str [45],.str [42],.str [47],.str [60],.str [61,61],.str [38,38],.str [124,124],.str [43,43]]:List D)=Ad.map enc:=rfl
theorem dA:∀ {l:List (List UInt8)},Pg 1 (l.map enc)=True
 | []=>rfl
 | x::l=>by
  show (D.fits 1 (.str x)∧Pg 1 (l.map enc))=True;rw [dA,and_true];exact eq_true rfl
def aZ:Con:=Xd (fun (_:List UInt8)=>True) (fun s=>yR s)
class KbH:Prop
theorem KbH.k (_:KbH) (h:p:=by
 first|exact ⟨k+1,by exact J0,by omega,h2,by omega⟩|skip):p:=h
class KbG:Prop
theorem KbG.k (_:KbG) (h:p:=by
 repeat' first|exact Lz|with_reducible apply Z3|intro _
 ·cases l with
  | nil=>trivial
  | cons x l=>exact ⟨rfl,of_eq_true dA⟩
 refine Z1 [2,6,7,8,9,10,11,12,13,14,15,16,17] (fun k:Nat=>[(4,.d (.int .i64 k))]) (fun k:Nat=>[]) (fun k:Nat=>k≤9∧∀ j,j<k→l.getD j []≠s) (fun k:Nat=>9-k) 0 ?_ ?_ ?_
 ·simp
 ·exact J0
 rintro k ⟨hk,Yx⟩;by_cases Qd:k<9
 ·have Qs:Jw (k:Int) 9=true:=by rw [Xs];omega
  have Q0:=Z9 ([]:List UInt8) (show k<l.length by omega)
  have Uf:l.getD k []≠s→∀ j,j<k+1→l.getD j []≠s:=fun h=>Nh Yx h;have O0:(l.getD k []==s)=true→R=true:=fun h=>by rw [←Ql];exact Zof (p:=fun o=>o==s) [] k (by omega) h
  obtain ⟨y,hy⟩:=exq (l.getD k []);rw [hy] at Q0 Uf O0;cases Q6:(y==s) with
  | true =>
   have hr:=O0 Q6;subst hr;exact uN
  | false =>
   have h2:=Uf (Za.1 Q6);have Kq:KbH:=⟨⟩;exact Lj
 ·have Qs:Jw (k:Int) 9=false:=by rw [Jl];omega
  have hr:R=false:=by rw [←Ql];exact Zck (p:=fun o=>o==s) [] fun j hj=>Za.2 (Yx j (by omega))
  subst hr;exact uN):p:=h
theorem good_op5:Jc Tryz.prog (60,aZ):=by
 obtain ⟨Kx,Kt,Kc,Kd,Kb,Ku,Kw,K,_⟩:=W5 Qj Z0 [] false W4;have Ko:=aZ.eq_def;refine Yv K Tryz.func60 [.tmp 2] rfl 18 rfl (fun c hc Jj Zo=>?_);unfold aZ at Zo;obtain ⟨s,rfl,-⟩:=Qp Zo;obtain ⟨R,Q5⟩:=exq (yR s);have Ql:=Q5;unfold yR at Ql;have hl:Ad.length=9:=rfl;have Qu:=sV;obtain ⟨l,oM⟩:=exq (Ad);rw [oM] at Ql hl Qu;have Qz:(l.length:Int)=9:=by rw [hl];rfl
 cases hc;have Kq:KbG:=⟨⟩;exact Nj
def Ta:List UInt8→Option Nat
 | []=>none
 | c::s=>if c=33 then some 0 else (Ta s).map (·+1)
theorem tB:∀ {s:List UInt8} {k:Nat},k<s.length→(∀ j,j<k→s.getD j 0≠33)→s.getD k 0=33→Ta s=some k
 | [],k,h,_,_=>by simp at h
 | c::s,0,_,_,h=>by
  simp only [List.getD_cons_zero] at h;simp [Ta,h]
 | c::s,k+1,h,Yx,hk=>by
  have h0:=Yx 0 (by omega)
  simp only [List.getD_cons_zero] at h0;rw [Ta,if_neg h0,tB (k:=k) (by simpa using h) (fun j hj=>by simpa using Yx (j+1) (by omega)) (by simpa using hk)]
  rfl
theorem iY:∀ {s:List UInt8},(∀ j,j<s.length→s.getD j 0≠33)→Ta s=none
 | [],_=>rfl
 | c::s,Yx=>by
  have h0:=Yx 0 (by simp)
  simp only [List.getD_cons_zero] at h0;rw [Ta,if_neg h0,iY fun j hj=>by simpa using Yx (j+1) (by simpa using hj)]
  rfl
def St (s:List UInt8):Bool:=match Ta s with
 | some k=>J4 (s.take k)&&J4 (s.drop (k+1))
 | none=>J4 s
theorem Zm2 {c:UInt8}:((c.toNat:Int)==33)=true↔c=33:=by
 rw [Zi];constructor
 ·intro h;have:c.toNat=33:=by omega
  exact UInt8.toNat_inj.1 (by rw [this];rfl)
 ·rintro rfl;rfl
def Cc:Con:=Xd (fun (s:List UInt8)=>s.length≤9223372036854775806) (fun s=>St s)
theorem fK {p:Prop} (h:p:=by (sym=>simp [Kt,Kc,Kd,Kb,Ku,Kw,Ko,Y6,P7,aV,dF,oD,tN,Qu,Qz,Qs,Q0,Q6,Q5,Ja,Jq,Q9,Je,Qe,Qc,Qg,Qi,Qh,Qa,Z2,Z7,Qk,Qm,Qr,Q1,Q3,Qx,Q4,Jf,Cy,S8,Ly,Lx,N4,Lw,P1,N3,P0,Pz,Py,Lv,S7,D.setCell.eq_1,Zn,Kg,Ky,Kv,Dk.eq_def,Zu,Wj,Gn,Zt,Wi,Zs,U8,cV,Gm,Zr,Wh,Vf,Ho,Zp,We,Mj,Wt,pC,Hi,Zmz,Zmy,Zmx,Zmw,Zmv,Zmu,Zmt,Zms,Zmr,Zmq,Zmp,Zmo,Zmn,Zmm,Zml,Zmk,Zmj,Zmi,Zmh,Zmg,Zmf,Zme,Zmd,Zmc,Zmb,Zma,Zl9,Zl8,Zl7,Zl6,Zl5,Zl4,Zl3,Zl2,Zl1,Zl0,Zlz,Zly,Zlx,Zlw,Zlv,Zlu,Zlt,Zls,Zlr,Zlq,Zlp,Zlo,Zln,Zlm,Zll,Zlk,Zlj,Zli,Zlh,Zlg,Zlf,Zle,Zld,Zlc,Zlb,Zla,Zk9,Zk8,Zk7,Zk6,Zk5,Zk4,Zk3,Zk2,Zk1,Zk0,Zkz,Zky,Zkx,Zkw,Zkv,Zku,Zkt,Zks,Zkr,Zkq,Zkp,Zko,Zkn,Zkm,Zkl,Zkk,Zkj,Zki,Zkh,Zkg,Zkf,Zke,Zkd,Zkc,Zkb,Zka,Zj9,Zj8,Zj7,Zj6,Zj5,Zj4,Zj3,Zj2,Zj1,Zj0,Zjz,Zjy,Zjx,Zjw,Zjv,Zju,Zjt,Zjs,Zjr,Zjq,Zjp,Zjo,Zjn,Zjm,Zjl,Zjk,Zjj,Zji,Zjh,Zjg,Zjf,Zje,Zjd,Zjc,Zjb,Zja,Zi9,Zi8,Zi7,Zi6,Zi5,Zi4,Zi3,Zi2,Zi1,Zi0,Ziz,Ziy,Zix,Ziw,Ziv,Ziu,Zit,Zis,Zir,Ziq,Zip,Zio,Zin,Zim,Zil,Zik,Zij,Zii,Zih,Zig,Zif,Zie,Zid,Zic,Zib,Zia,Zh9,Zh8,Zh7,Zh6,Zh5,Zh4,Zh3,Zh2,Zh1,Zh0,Zhz,Zhy,Zhx,Zhw,Zhv,Zhu,Zht,Zhs,Zhr,Zhq,Zhp,Zho,Zhn,Zhm,Zhl,Zhk,Zhj,Zhi,Zhh,Zhg,Zhf,Zhe,Zhd,Zhc,Zhb,Zha,Zg9,Zg8,Zg7,Zg6,Zg5,Zg4,Zg3,Zg2,Zg1,Zg0,Zgz,Zgy,Zgx,Zgw,Zgv,Zgu,Zgt,Zgs,Zgr,Zgq,Zgp,Zgo,Zgn,Zgm,Zgl,Zgk,Zgj,Zgi,Zgh,Zgg,Zgf,Zge,Zgd,Zgc,Zgb,Zga,Zf9,Zf8,Zf7,Zf6,Zf5,Zf4,Zf3,Zf2,Zf1,Zf0,Zfz,Zfy,Zfx,Zfw,Zfv,Zfu,Zft,Zfs,Zfr,Zfq,Zfp,Zfo,Zfn,Zfm,Zfl,Zfk,Zfj,Zfi,Zfh,Zfg,Zff,Zfe,Zfd,Zfc,Zfb,Zfa,Ze9,Ze8,Ze7,Ze6,Ze5,Ze4,Ze3,Ze2,Ze1,Ze0,Zez,Zey,Zex,Zew,Zev,Zeu,Zet,Zes,Zer,Zeq,Zep,Zeo,Zen,Zem,Zel,Zek,Zej,Zei,Zeh,Zeg,Zef,Zee,Zed,Zec,Zeb,Zea,Zd9,Zd8,Zd7,Zd6,Zd5,Zd4,Zd3,Zd2,Zd1,Zd0,Zdz,Zdy,Zdx,Zdw,Zdv,Zdu,Zdt,Zds,Zdr,Zdq,Zdp,Zdo,Zdn,Zdm,Zdl,Zdk,Zdj,Zdi,Zdh,Zdg,Zdf,Zde,Zdd,Zdc,Zdb,Zda,Zc9,Zc8,Zc7,lH,lG,lF,lE,jX,lD,Is,Ir,Iq,Ip,Io,Im,Il,Ik,Ij,Ii,Ih,Ig,Ie,Ic,Ib,Ia,A9,A8,A7,A6,A5,A4,A3,A1,Sk,Sj,Si,Sh,Sg,Sf,Se,Sd,Sc,Sb,Sa,L9,L8,L7])):p:=h
theorem uC {p:Prop} (h:p:=by
 (sym=>simp [Kt,Kc,Kd,Kb,Ku,Kw,Ko,Y6,P7,aV,dF,oD,tN,Qu,Qz,Qs,Q0,Q6,Q5,Ja,Jq,Q9,Je,Qe,Qc,Qg,Qi,Qh,Qa,Z2,Z7,Qk,Qm,Qr,Q1,Q3,Qx,Q4,Jf,Cy,S8,Ly,Lx,N4,Lw,P1,N3,P0,Pz,Py,Lv,S7,D.setCell.eq_1,Zn,Kg,Ky,Kv,Dk.eq_def,Zu,Wj,Gn,Zt,Wi,Zs,U8,cV,Gm,Zr,Wh,Vf,Ho,Zp,We,Mj,Wt,pC,Hi,Zmz,Zmy,Zmx,Zmw,Zmv,Zmu,Zmt,Zms,Zmr,Zmq,Zmp,Zmo,Zmn,Zmm,Zml,Zmk,Zmj,Zmi,Zmh,Zmg,Zmf,Zme,Zmd,Zmc,Zmb,Zma,Zl9,Zl8,Zl7,Zl6,Zl5,Zl4,Zl3,Zl2,Zl1,Zl0,Zlz,Zly,Zlx,Zlw,Zlv,Zlu,Zlt,Zls,Zlr,Zlq,Zlp,Zlo,Zln,Zlm,Zll,Zlk,Zlj,Zli,Zlh,Zlg,Zlf,Zle,Zld,Zlc,Zlb,Zla,Zk9,Zk8,Zk7,Zk6,Zk5,Zk4,Zk3,Zk2,Zk1,Zk0,Zkz,Zky,Zkx,Zkw,Zkv,Zku,Zkt,Zks,Zkr,Zkq,Zkp,Zko,Zkn,Zkm,Zkl,Zkk,Zkj,Zki,Zkh,Zkg,Zkf,Zke,Zkd,Zkc,Zkb,Zka,Zj9,Zj8,Zj7,Zj6,Zj5,Zj4,Zj3,Zj2,Zj1,Zj0,Zjz,Zjy,Zjx,Zjw,Zjv,Zju,Zjt,Zjs,Zjr,Zjq,Zjp,Zjo,Zjn,Zjm,Zjl,Zjk,Zjj,Zji,Zjh,Zjg,Zjf,Zje,Zjd,Zjc,Zjb,Zja,Zi9,Zi8,Zi7,Zi6,Zi5,Zi4,Zi3,Zi2,Zi1,Zi0,Ziz,Ziy,Zix,Ziw,Ziv,Ziu,Zit,Zis,Zir,Ziq,Zip,Zio,Zin,Zim,Zil,Zik,Zij,Zii,Zih,Zig,Zif,Zie,Zid,Zic,Zib,Zia,Zh9,Zh8,Zh7,Zh6,Zh5,Zh4,Zh3,Zh2,Zh1,Zh0,Zhz,Zhy,Zhx,Zhw,Zhv,Zhu,Zht,Zhs,Zhr,Zhq,Zhp,Zho,Zhn,Zhm,Zhl,Zhk,Zhj,Zhi,Zhh,Zhg,Zhf,Zhe,Zhd,Zhc,Zhb,Zha,Zg9,Zg8,Zg7,Zg6,Zg5,Zg4,Zg3,Zg2,Zg1,Zg0,Zgz,Zgy,Zgx,Zgw,Zgv,Zgu,Zgt,Zgs,Zgr,Zgq,Zgp,Zgo,Zgn,Zgm,Zgl,Zgk,Zgj,Zgi,Zgh,Zgg,Zgf,Zge,Zgd,Zgc,Zgb,Zga,Zf9,Zf8,Zf7,Zf6,Zf5,Zf4,Zf3,Zf2,Zf1,Zf0,Zfz,Zfy,Zfx,Zfw,Zfv,Zfu,Zft,Zfs,Zfr,Zfq,Zfp,Zfo,Zfn,Zfm,Zfl,Zfk,Zfj,Zfi,Zfh,Zfg,Zff,Zfe,Zfd,Zfc,Zfb,Zfa,Ze9,Ze8,Ze7,Ze6,Ze5,Ze4,Ze3,Ze2,Ze1,Ze0,Zez,Zey,Zex,Zew,Zev,Zeu,Zet,Zes,Zer,Zeq,Zep,Zeo,Zen,Zem,Zel,Zek,Zej,Zei,Zeh,Zeg,Zef,Zee,Zed,Zec,Zeb,Zea,Zd9,Zd8,Zd7,Zd6,Zd5,Zd4,Zd3,Zd2,Zd1,Zd0,Zdz,Zdy,Zdx,Zdw,Zdv,Zdu,Zdt,Zds,Zdr,Zdq,Zdp,Zdo,Zdn,Zdm,Zdl,Zdk,Zdj,Zdi,Zdh,Zdg,Zdf,Zde,Zdd,Zdc,Zdb,Zda,Zc9,Zc8,Zc7,lH,lG,lF,lE,jX,lD,Is,Ir,Iq,Ip,Io,Im,Il,Ik,Ij,Ii,Ih,Ig,Ie,Ic,Ib,Ia,A9,A8,A7,A6,A5,A4,A3,A1,Sk,Sj,Si,Sh,Sg,Sf,Se,Sd,Sc,Sb,Sa,L9,L8,L7];tactic =>
   try simp only [fL] at *
   try simp only [Zpq] at *
   try simp (maxSteps:=4000000) only [Qu,Qz,Qs,Q0,Q6,Q5,Ja,Jq,Q9,Je,Qe,Qc,Qg,Qi,Qh,Qa,Z2,Z7,Qk,Qm,Qr,Q1,Q3,Qx,Q4,Jf,Cy,S8,Ly,Lx,N4,Lw,P1,N3,P0,Pz,Py,Lv,S7,D.setCell.eq_1,Zn,Kg,Ky,Kv,Dk.eq_def,Zu,Wj,Gn,Zt,Wi,Zs,U8,cV,Gm,Zr,Wh,Vf,Ho,Zp,We,Mj,Wt,pC,Hi,uB]
   first|done|exact Kq.k)):p:=h
theorem Qw {p:Prop} (h:p:=by
 (sym=>simp [Kt,Kc,Kd,Kb,Ku,Kw,Ko,Y6,P7,aV,dF,oD,tN,Qu,Qz,Qs,Q0,Q6,Q5,Ja,Jq,Q9,Je,Qe,Qc,Qg,Qi,Qh,Qa,Z2,Z7,Qk,Qm,Qr,Q1,Q3,Qx,Q4,Jf,Cy,S8,Ly,Lx,N4,Lw,P1,N3,P0,Pz,Py,Lv,S7,D.setCell.eq_1,Zn,Kg,Ky,Kv,Dk.eq_def,Zu,Wj,Gn,Zt,Wi,Zs,U8,cV,Gm,Zr,Wh,Vf,Ho,Zp,We,Mj,Wt,pC,Hi,Zmz,Zmy,Zmx,Zmw,Zmv,Zmu,Zmt,Zms,Zmr,Zmq,Zmp,Zmo,Zmn,Zmm,Zml,Zmk,Zmj,Zmi,Zmh,Zmg,Zmf,Zme,Zmd,Zmc,Zmb,Zma,Zl9,Zl8,Zl7,Zl6,Zl5,Zl4,Zl3,Zl2,Zl1,Zl0,Zlz,Zly,Zlx,Zlw,Zlv,Zlu,Zlt,Zls,Zlr,Zlq,Zlp,Zlo,Zln,Zlm,Zll,Zlk,Zlj,Zli,Zlh,Zlg,Zlf,Zle,Zld,Zlc,Zlb,Zla,Zk9,Zk8,Zk7,Zk6,Zk5,Zk4,Zk3,Zk2,Zk1,Zk0,Zkz,Zky,Zkx,Zkw,Zkv,Zku,Zkt,Zks,Zkr,Zkq,Zkp,Zko,Zkn,Zkm,Zkl,Zkk,Zkj,Zki,Zkh,Zkg,Zkf,Zke,Zkd,Zkc,Zkb,Zka,Zj9,Zj8,Zj7,Zj6,Zj5,Zj4,Zj3,Zj2,Zj1,Zj0,Zjz,Zjy,Zjx,Zjw,Zjv,Zju,Zjt,Zjs,Zjr,Zjq,Zjp,Zjo,Zjn,Zjm,Zjl,Zjk,Zjj,Zji,Zjh,Zjg,Zjf,Zje,Zjd,Zjc,Zjb,Zja,Zi9,Zi8,Zi7,Zi6,Zi5,Zi4,Zi3,Zi2,Zi1,Zi0,Ziz,Ziy,Zix,Ziw,Ziv,Ziu,Zit,Zis,Zir,Ziq,Zip,Zio,Zin,Zim,Zil,Zik,Zij,Zii,Zih,Zig,Zif,Zie,Zid,Zic,Zib,Zia,Zh9,Zh8,Zh7,Zh6,Zh5,Zh4,Zh3,Zh2,Zh1,Zh0,Zhz,Zhy,Zhx,Zhw,Zhv,Zhu,Zht,Zhs,Zhr,Zhq,Zhp,Zho,Zhn,Zhm,Zhl,Zhk,Zhj,Zhi,Zhh,Zhg,Zhf,Zhe,Zhd,Zhc,Zhb,Zha,Zg9,Zg8,Zg7,Zg6,Zg5,Zg4,Zg3,Zg2,Zg1,Zg0,Zgz,Zgy,Zgx,Zgw,Zgv,Zgu,Zgt,Zgs,Zgr,Zgq,Zgp,Zgo,Zgn,Zgm,Zgl,Zgk,Zgj,Zgi,Zgh,Zgg,Zgf,Zge,Zgd,Zgc,Zgb,Zga,Zf9,Zf8,Zf7,Zf6,Zf5,Zf4,Zf3,Zf2,Zf1,Zf0,Zfz,Zfy,Zfx,Zfw,Zfv,Zfu,Zft,Zfs,Zfr,Zfq,Zfp,Zfo,Zfn,Zfm,Zfl,Zfk,Zfj,Zfi,Zfh,Zfg,Zff,Zfe,Zfd,Zfc,Zfb,Zfa,Ze9,Ze8,Ze7,Ze6,Ze5,Ze4,Ze3,Ze2,Ze1,Ze0,Zez,Zey,Zex,Zew,Zev,Zeu,Zet,Zes,Zer,Zeq,Zep,Zeo,Zen,Zem,Zel,Zek,Zej,Zei,Zeh,Zeg,Zef,Zee,Zed,Zec,Zeb,Zea,Zd9,Zd8,Zd7,Zd6,Zd5,Zd4,Zd3,Zd2,Zd1,Zd0,Zdz,Zdy,Zdx,Zdw,Zdv,Zdu,Zdt,Zds,Zdr,Zdq,Zdp,Zdo,Zdn,Zdm,Zdl,Zdk,Zdj,Zdi,Zdh,Zdg,Zdf,Zde,Zdd,Zdc,Zdb,Zda,Zc9,Zc8,Zc7,lH,lG,lF,lE,jX,lD,Is,Ir,Iq,Ip,Io,Im,Il,Ik,Ij,Ii,Ih,Ig,Ie,Ic,Ib,Ia,A9,A8,A7,A6,A5,A4,A3,A1,Sk,Sj,Si,Sh,Sg,Sf,Se,Sd,Sc,Sb,Sa,L9,L8,L7];tactic =>
   try simp only [fL] at *
   try simp only [Zpq] at *
   try simp (maxSteps:=4000000) only [Qu,Qz,Qs,Q0,Q6,Q5,Ja,Jq,Q9,Je,Qe,Qc,Qg,Qi,Qh,Qa,Z2,Z7,Qk,Qm,Qr,Q1,Q3,Qx,Q4,Jf,Cy,S8,Ly,Lx,N4,Lw,P1,N3,P0,Pz,Py,Lv,S7,D.setCell.eq_1,Zn,Kg,Ky,Kv,Dk.eq_def,Zu,Wj,Gn,Zt,Wi,Zs,U8,cV,Gm,Zr,Wh,Vf,Ho,Zp,We,Mj,Wt,pC,Hi,uB]
   repeat' first|with_reducible assumption|with_reducible apply Z3|intro _|omega|(rw [Qn];omega)
   all_goals first|with_reducible exact Zre|omega|exact Kq.k)):p:=h
theorem Uy {p:Prop} (h:p:=by
 first|(sym=>simp [Kt,Kc,Kd,Kb,Ku,Kw,Ko,Y6,P7,aV,dF,oD,tN,Qu,Qz,Qs,Q0,Q6,Q5,Ja,Jq,Q9,Je,Qe,Qc,Qg,Qi,Qh,Qa,Z2,Z7,Qk,Qm,Qr,Q1,Q3,Qx,Q4,Jf,Cy,S8,Ly,Lx,N4,Lw,P1,N3,P0,Pz,Py,Lv,S7,D.setCell.eq_1,Zn,Kg,Ky,Kv,Dk.eq_def,Zu,Wj,Gn,Zt,Wi,Zs,U8,cV,Gm,Zr,Wh,Vf,Ho,Zp,We,Mj,Wt,pC,Hi,Zmz,Zmy,Zmx,Zmw,Zmv,Zmu,Zmt,Zms,Zmr,Zmq,Zmp,Zmo,Zmn,Zmm,Zml,Zmk,Zmj,Zmi,Zmh,Zmg,Zmf,Zme,Zmd,Zmc,Zmb,Zma,Zl9,Zl8,Zl7,Zl6,Zl5,Zl4,Zl3,Zl2,Zl1,Zl0,Zlz,Zly,Zlx,Zlw,Zlv,Zlu,Zlt,Zls,Zlr,Zlq,Zlp,Zlo,Zln,Zlm,Zll,Zlk,Zlj,Zli,Zlh,Zlg,Zlf,Zle,Zld,Zlc,Zlb,Zla,Zk9,Zk8,Zk7,Zk6,Zk5,Zk4,Zk3,Zk2,Zk1,Zk0,Zkz,Zky,Zkx,Zkw,Zkv,Zku,Zkt,Zks,Zkr,Zkq,Zkp,Zko,Zkn,Zkm,Zkl,Zkk,Zkj,Zki,Zkh,Zkg,Zkf,Zke,Zkd,Zkc,Zkb,Zka,Zj9,Zj8,Zj7,Zj6,Zj5,Zj4,Zj3,Zj2,Zj1,Zj0,Zjz,Zjy,Zjx,Zjw,Zjv,Zju,Zjt,Zjs,Zjr,Zjq,Zjp,Zjo,Zjn,Zjm,Zjl,Zjk,Zjj,Zji,Zjh,Zjg,Zjf,Zje,Zjd,Zjc,Zjb,Zja,Zi9,Zi8,Zi7,Zi6,Zi5,Zi4,Zi3,Zi2,Zi1,Zi0,Ziz,Ziy,Zix,Ziw,Ziv,Ziu,Zit,Zis,Zir,Ziq,Zip,Zio,Zin,Zim,Zil,Zik,Zij,Zii,Zih,Zig,Zif,Zie,Zid,Zic,Zib,Zia,Zh9,Zh8,Zh7,Zh6,Zh5,Zh4,Zh3,Zh2,Zh1,Zh0,Zhz,Zhy,Zhx,Zhw,Zhv,Zhu,Zht,Zhs,Zhr,Zhq,Zhp,Zho,Zhn,Zhm,Zhl,Zhk,Zhj,Zhi,Zhh,Zhg,Zhf,Zhe,Zhd,Zhc,Zhb,Zha,Zg9,Zg8,Zg7,Zg6,Zg5,Zg4,Zg3,Zg2,Zg1,Zg0,Zgz,Zgy,Zgx,Zgw,Zgv,Zgu,Zgt,Zgs,Zgr,Zgq,Zgp,Zgo,Zgn,Zgm,Zgl,Zgk,Zgj,Zgi,Zgh,Zgg,Zgf,Zge,Zgd,Zgc,Zgb,Zga,Zf9,Zf8,Zf7,Zf6,Zf5,Zf4,Zf3,Zf2,Zf1,Zf0,Zfz,Zfy,Zfx,Zfw,Zfv,Zfu,Zft,Zfs,Zfr,Zfq,Zfp,Zfo,Zfn,Zfm,Zfl,Zfk,Zfj,Zfi,Zfh,Zfg,Zff,Zfe,Zfd,Zfc,Zfb,Zfa,Ze9,Ze8,Ze7,Ze6,Ze5,Ze4,Ze3,Ze2,Ze1,Ze0,Zez,Zey,Zex,Zew,Zev,Zeu,Zet,Zes,Zer,Zeq,Zep,Zeo,Zen,Zem,Zel,Zek,Zej,Zei,Zeh,Zeg,Zef,Zee,Zed,Zec,Zeb,Zea,Zd9,Zd8,Zd7,Zd6,Zd5,Zd4,Zd3,Zd2,Zd1,Zd0,Zdz,Zdy,Zdx,Zdw,Zdv,Zdu,Zdt,Zds,Zdr,Zdq,Zdp,Zdo,Zdn,Zdm,Zdl,Zdk,Zdj,Zdi,Zdh,Zdg,Zdf,Zde,Zdd,Zdc,Zdb,Zda,Zc9,Zc8,Zc7,lH,lG,lF,lE,jX,lD,Is,Ir,Iq,Ip,Io,Im,Il,Ik,Ij,Ii,Ih,Ig,Ie,Ic,Ib,Ia,A9,A8,A7,A6,A5,A4,A3,A1,Sk,Sj,Si,Sh,Sg,Sf,Se,Sd,Sc,Sb,Sa,L9,L8,L7];tactic =>
   try simp only [fL] at *
   try simp only [Zpq] at *
   try simp (maxSteps:=4000000) only [Qu,Qz,Qs,Q0,Q6,Q5,Ja,Jq,Q9,Je,Qe,Qc,Qg,Qi,Qh,Qa,Z2,Z7,Qk,Qm,Qr,Q1,Q3,Qx,Q4,Jf,Cy,S8,Ly,Lx,N4,Lw,P1,N3,P0,Pz,Py,Lv,S7,D.setCell.eq_1,Zn,Kg,Ky,Kv,Dk.eq_def,Zu,Wj,Gn,Zt,Wi,Zs,U8,cV,Gm,Zr,Wh,Vf,Ho,Zp,We,Mj,Wt,pC,Hi,uB]
   repeat' first|with_reducible assumption|with_reducible apply Z3|intro _|omega|(rw [Qn];omega)
   all_goals first|with_reducible exact Zre|omega|rfl|trivial|exact Or.inr trivial|assumption|contradiction|exact J0)|exact fK):p:=h
class KbJ:Prop
theorem KbJ.k (_:KbJ) (h:p:=by
 first|exact ⟨k+1,by exact J0,by omega,h2,by omega⟩|skip):p:=h
class KbI:Prop
theorem KbI.k (_:KbI) (h:p:=by
 refine Z1 [2,4,5,6,7,8,9,10,11,12,13,14,15,16,17,18,19,20,21,22,23,24] (fun k:Nat=>[(3,.d (.int .i64 k))]) (fun k:Nat=>[]) (fun k:Nat=>k≤s.length∧∀ j,j<k→s.getD j 0≠33) (fun k:Nat=>s.length-k) 0 ?_ ?_ ?_
 ·simp
 ·exact J0
 rintro k ⟨hk,Yx⟩;rcases Z5 k s.length with ⟨Qd,Qu⟩|⟨Qd,Qu⟩
 ·have Uf:s.getD k 0≠33→∀ j,j<k+1→s.getD j 0≠33:=fun h=>Nh Yx h;have O0:s.getD k 0=33→R=(J4 (s.take k)&&J4 (s.drop (k+1))):=fun h=>by
   rw [tB Qd Yx h] at Ql;exact Ql.symm
  obtain ⟨y,Qz⟩:=exq (s.getD k 0);rw [Qz] at Uf O0;have Q6:(k:Int)+1=((k+1:Nat):Int):=rfl;cases Qs:((y.toNat:Int)==33) with
  | true =>
   have hr:=O0 (Zm2.1 Qs);have l1:(s.take k).length≤9223372036854775807:=by rw [List.length_take];omega
   have l2:(s.drop (k+1)).length≤9223372036854775807:=by rw [List.length_drop];omega
   obtain ⟨w1,Q0⟩:=exq (J4 (s.take k));obtain ⟨w2,Q5⟩:=exq (J4 (s.drop (k+1)));rw [Q0,Q5] at hr;cases w1 with
   | true =>
    rw [Bool.true_and] at hr;subst hr;exact Uy
   | false =>
    rw [Bool.false_and] at hr;subst hr;exact Uy
  | false =>
   have h2:=Uf (fun e=>by rw [Zm2.2 e] at Qs;cases Qs)
   have Kq:KbJ:=⟨⟩;exact Qw
 ·have hr:R=J4 s:=by
   rw [iY fun j hj=>Yx j (by omega)] at Ql
   exact Ql.symm
  subst hr;exact Uy):p:=h
theorem good_name5:Jc Tryz.prog (59,Cc):=by
 obtain ⟨Kx,Kt,Kc,Kd,Kb,Ku,Kw,K,Y6,_⟩:=W5 Qj Z0 [] false (Xa good_IsWord1 Vl.eq_def W4);have Ko:=Cc.eq_def;refine Yv K Tryz.func59 [.tmp 2] rfl 27 rfl (fun c hc Jj Zo=>?_);unfold Cc at Zo;obtain ⟨s,rfl,hs⟩:=Qp Zo;obtain ⟨R,Ja⟩:=exq (St s);have Ql:=Ja;unfold St at Ql;cases hc;have Kq:KbI:=⟨⟩;exact Qw
def U4 (t:List Node):Bool:=U2 t&&Sq t
def Bz:Con:=Xd (fun (t:Sl Node)=>t.l.length≤9223372036854775807∧P6 t.l) (fun t=>U4 t.l)
class KbK:Prop
theorem KbK.k (_:KbK) (h:p:=by
 repeat' first|exact Lz|with_reducible apply Z3|intro _
 all_goals (unfold U4;simp_all)):p:=h
theorem good_plain5:Jc Tryz.prog (57,Bz):=by
 obtain ⟨Kx,Kt,Kc,Kd,Kb,Ku,Kw,K,Y6,P7,_⟩:=W5 Qj Z0 [] false (Xa good_Right3 B3.eq_def (Xa good_Plain3 B7.eq_def W4));have Ko:=Bz.eq_def;refine Yv K Tryz.func57 [.tmp 2] rfl 9 rfl (fun c hc Jj Zo=>?_);unfold Bz at Zo;obtain ⟨⟨t⟩,rfl,ht,hN⟩:=Qp Zo;simp only at ht hN;cases hc;have Kq:KbK:=⟨⟩;exact uC
def mL (p:Part) (n:Node):Bool :=
 if p.t.length≠1∨n.name≠[]∨n.n≠0∨p.num<0∨999999999999999999<p.num then false
 else if n.kind=1 then p.name==[]
 else if n.kind=2 then p.name==[]&&Jw p.num 2
 else if n.kind=3 then p.num==0
 else if n.kind=4 then p.name==[]&&p.num==0
 else false
def Vc (p:Part):Bool:=mL p (p.t.getD 0 n0)
def Hw:Con:=Xd (fun (p:Part)=>oF p) (fun p=>Vc p)
class KbL:Prop
theorem KbL.k (_:KbL) (h:p:=by
 first|(symm;rw [←Ql];clear Ql Qs;unfold mL;simp_all;done)|(symm;rw [←Ql];clear Ql Qs;unfold mL;simp_all;omega)|(symm;rw [←Ql];clear Ql Qs;unfold mL;rw [if_neg (by simp_all;omega)];simp_all [Jw];done)|skip):p:=h
theorem good_literal5:Jc Tryz.prog (58,Hw):=by
 obtain ⟨Kx,Kt,Kc,Kd,Kb,Ku,Kw,K,_⟩:=W5 Qj Z0 [] false W4;have Ko:=Hw.eq_def;refine Yv K Tryz.func58 [.tmp 2] rfl 68 rfl (fun c hc Jj Zo=>?_);unfold Hw at Zo;obtain ⟨p,rfl,hF⟩:=Qp Zo;clear Zo;obtain ⟨R,Qs⟩:=exq (Vc p);have Ql:=Qs;unfold Vc at Ql;cases hc;refine Kn 4 ?_;by_cases h1:p.t.length=1
 ·have Qu:((p.t.length:Int) != 1)=false:=by rw [bne_eq_false_iff_eq];omega
  have Qz:=Z9 n0 (show 0<p.t.length by omega)
  obtain ⟨x,hx⟩:=exq (p.t.getD 0 n0);rw [hx] at Qz Ql;clear hx;have Kq:KbL:=⟨⟩;exact Qw
 ·have Qu:((p.t.length:Int) != 1)=true:=by rw [bne_iff_ne];omega
  unfold mL at Ql;rw [if_pos (.inl h1)] at Ql;subst Ql;exact fK
def Jr (p:Part) (w tg b t u li na op:Bool):Bool :=
 if p.kind≠0∧p.kind≠14∧p.num≠0 then false
 else if p.kind=0 then ((p.bind==[]&&p.many==0)&&((p.u.length:Int)==0))&&li
 else if p.kind=1 then (((p.bind==[]&&p.many==0)&&((p.t.length:Int)==0))&&((p.u.length:Int)==0))&&na
 else if p.kind=2∨p.kind=4 then (((p.name==[]&&p.many==0)&&b)&&t)&&((p.u.length:Int)==0)
 else if p.kind=3∨p.kind=6 then ((p.name==[]&&(p.bind==[]&&p.many==0))&&((p.t.length:Int)==0))&&((p.u.length:Int)==0)
 else if p.kind=5 then (((w&&p.many==0)&&b)&&t)&&u
 else if p.kind=7 then ((((p.name==[]&&p.bind==[])&&Ju 1 p.many)&&Ju p.many 50)&&((p.t.length:Int)==0))&&((p.u.length:Int)==0)
 else if p.kind=8 then (((p.name==[]&&p.many==0)&&b)&&((p.t.length:Int)==0))&&((p.u.length:Int)==0)
 else if p.kind=9 then ((op&&(p.bind==[]&&p.many==0))&&((p.t.length:Int)==0))&&((p.u.length:Int)==0)
 else if p.kind=10 then ((((p.name==[]&&p.bind==[])&&Ju 0 p.many)&&Ju p.many 50)&&((p.t.length:Int)==0))&&((p.u.length:Int)==0)
 else if p.kind=11 then ((w&&(p.bind==[]&&p.many==0))&&((p.t.length:Int)==0))&&((p.u.length:Int)==0)
 else if p.kind=12 then ((tg&&(p.bind==[]&&p.many==0))&&t)&&((p.u.length:Int)==0)
 else if p.kind=13 then ((p.name==[]&&(p.bind==[]&&p.many==0))&&t)&&((p.u.length:Int)==0)
 else if p.kind=14 then (((p.name==[]&&(p.bind==[]&&p.many==0))&&t)&&u)&&Ju 0 p.num
 else false
def V5 (p:Part):Bool:=Jr p (J4 p.name) (K1 p.name) (J4 p.bind) (U4 p.t) (U4 p.u) (Vc p) (St p.name) (yR p.name)
def T8:Con:=Xd (fun (p:Part)=>oF p∧p.name.length≤9223372036854775806) (fun p=>V5 p)
class KbM:Prop
theorem KbM.k (_:KbM) (h:p:=by
 first|(symm;rw [←Ql];clear Ql Q9 hF f1 f2 f3 f4 f5 f6 f7 hn K Qu Qz Qs Q0 Q6 Q5 Ja Jq Je Qe Qc Qg Qi Qh Qa Z2 Z7 Qk Qm Qr Q1 Q3 Qx Q4 Jf;unfold Jr;simp_all;done)|(symm;rw [←Ql];clear Ql Q9 hF f1 f2 f3 f4 f5 f6 f7 hn K Qu Qz Qs Q0 Q6 Q5 Ja Jq Je Qe Qc Qg Qi Qh Qa Z2 Z7 Qk Qm Qr Q1 Q3 Qx Q4 Jf;unfold Jr Ju;simp_all;done)|(symm;rw [←Ql];clear Ql Q9 hF f1 f2 f3 f4 f5 f6 f7 hn K Qu Qz Qs Q0 Q6 Q5 Ja Jq Je Qe Qc Qg Qi Qh Qa Z2 Z7 Qk Qm Qr Q1 Q3 Qx Q4 Jf;unfold Jr Ju;simp_all;omega)|skip):p:=h
class KbN:Prop
theorem KbN.k (_:KbN) (h:p:=by
 first|(symm;rw [←Ql];clear Ql Q9 hF f1 f2 f3 f4 f5 f6 f7 hn K Qu Qz Qs Q0 Q6 Q5 Ja Jq Je Qe Qc Qg Qi Qh Qa Z2 Z7 Qk Qm Qr Q1 Q3 Qx Q4 Jf;unfold Jr;simp_all;done)|(symm;rw [←Ql];clear Ql Q9 hF f1 f2 f3 f4 f5 f6 f7 hn K Qu Qz Qs Q0 Q6 Q5 Ja Jq Je Qe Qc Qg Qi Qh Qa Z2 Z7 Qk Qm Qr Q1 Q3 Qx Q4 Jf;unfold Jr Ju;simp_all;done)|(symm;rw [←Ql];clear Ql Q9 hF f1 f2 f3 f4 f5 f6 f7 hn K Qu Qz Qs Q0 Q6 Q5 Ja Jq Je Qe Qc Qg Qi Qh Qa Z2 Z7 Qk Qm Qr Q1 Q3 Qx Q4 Jf;unfold Jr Ju;simp_all;omega)|skip):p:=h
class KbO:Prop
theorem KbO.k (_:KbO) (h:p:=by
 first|(symm;rw [←Ql];clear Ql Q9 hF f1 f2 f3 f4 f5 f6 f7 hn K Qu Qz Qs Q0 Q6 Q5 Ja Jq Je Qe Qc Qg Qi Qh Qa Z2 Z7 Qk Qm Qr Q1 Q3 Qx Q4 Jf;unfold Jr;simp_all;done)|(symm;rw [←Ql];clear Ql Q9 hF f1 f2 f3 f4 f5 f6 f7 hn K Qu Qz Qs Q0 Q6 Q5 Ja Jq Je Qe Qc Qg Qi Qh Qa Z2 Z7 Qk Qm Qr Q1 Q3 Qx Q4 Jf;unfold Jr Ju;simp_all;done)|(symm;rw [←Ql];clear Ql Q9 hF f1 f2 f3 f4 f5 f6 f7 hn K Qu Qz Qs Q0 Q6 Q5 Ja Jq Je Qe Qc Qg Qi Qh Qa Z2 Z7 Qk Qm Qr Q1 Q3 Qx Q4 Jf;unfold Jr Ju;simp_all;omega)|skip):p:=h
class KbP:Prop
theorem KbP.k (_:KbP) (h:p:=by
 first|(symm;rw [←Ql];clear Ql Q9 hF f1 f2 f3 f4 f5 f6 f7 hn K Qu Qz Qs Q0 Q6 Q5 Ja Jq Je Qe Qc Qg Qi Qh Qa Z2 Z7 Qk Qm Qr Q1 Q3 Qx Q4 Jf;unfold Jr;simp_all;done)|(symm;rw [←Ql];clear Ql Q9 hF f1 f2 f3 f4 f5 f6 f7 hn K Qu Qz Qs Q0 Q6 Q5 Ja Jq Je Qe Qc Qg Qi Qh Qa Z2 Z7 Qk Qm Qr Q1 Q3 Qx Q4 Jf;unfold Jr Ju;simp_all;done)|(symm;rw [←Ql];clear Ql Q9 hF f1 f2 f3 f4 f5 f6 f7 hn K Qu Qz Qs Q0 Q6 Q5 Ja Jq Je Qe Qc Qg Qi Qh Qa Z2 Z7 Qk Qm Qr Q1 Q3 Qx Q4 Jf;unfold Jr Ju;simp_all;omega)|skip):p:=h
class KbQ:Prop
theorem KbQ.k (_:KbQ) (h:p:=by
 first|(symm;rw [←Ql];clear Ql Q9 hF f1 f2 f3 f4 f5 f6 f7 hn K Qu Qz Qs Q0 Q6 Q5 Ja Jq Je Qe Qc Qg Qi Qh Qa Z2 Z7 Qk Qm Qr Q1 Q3 Qx Q4 Jf;unfold Jr;simp_all;done)|(symm;rw [←Ql];clear Ql Q9 hF f1 f2 f3 f4 f5 f6 f7 hn K Qu Qz Qs Q0 Q6 Q5 Ja Jq Je Qe Qc Qg Qi Qh Qa Z2 Z7 Qk Qm Qr Q1 Q3 Qx Q4 Jf;unfold Jr Ju;simp_all;done)|(symm;rw [←Ql];clear Ql Q9 hF f1 f2 f3 f4 f5 f6 f7 hn K Qu Qz Qs Q0 Q6 Q5 Ja Jq Je Qe Qc Qg Qi Qh Qa Z2 Z7 Qk Qm Qr Q1 Q3 Qx Q4 Jf;unfold Jr Ju;simp_all;omega)|skip):p:=h
class KbR:Prop
theorem KbR.k (_:KbR) (h:p:=by
 first|(symm;rw [←Ql];clear Ql Q9 hF f1 f2 f3 f4 f5 f6 f7 hn K Qu Qz Qs Q0 Q6 Q5 Ja Jq Je Qe Qc Qg Qi Qh Qa Z2 Z7 Qk Qm Qr Q1 Q3 Qx Q4 Jf;unfold Jr;simp_all;done)|(symm;rw [←Ql];clear Ql Q9 hF f1 f2 f3 f4 f5 f6 f7 hn K Qu Qz Qs Q0 Q6 Q5 Ja Jq Je Qe Qc Qg Qi Qh Qa Z2 Z7 Qk Qm Qr Q1 Q3 Qx Q4 Jf;unfold Jr Ju;simp_all;done)|(symm;rw [←Ql];clear Ql Q9 hF f1 f2 f3 f4 f5 f6 f7 hn K Qu Qz Qs Q0 Q6 Q5 Ja Jq Je Qe Qc Qg Qi Qh Qa Z2 Z7 Qk Qm Qr Q1 Q3 Qx Q4 Jf;unfold Jr Ju;simp_all;omega)|skip):p:=h
class KbS:Prop
theorem KbS.k (_:KbS) (h:p:=by
 first|(symm;rw [←Ql];clear Ql Q9 hF f1 f2 f3 f4 f5 f6 f7 hn K Qu Qz Qs Q0 Q6 Q5 Ja Jq Je Qe Qc Qg Qi Qh Qa Z2 Z7 Qk Qm Qr Q1 Q3 Qx Q4 Jf;unfold Jr;simp_all;done)|(symm;rw [←Ql];clear Ql Q9 hF f1 f2 f3 f4 f5 f6 f7 hn K Qu Qz Qs Q0 Q6 Q5 Ja Jq Je Qe Qc Qg Qi Qh Qa Z2 Z7 Qk Qm Qr Q1 Q3 Qx Q4 Jf;unfold Jr Ju;simp_all;done)|(symm;rw [←Ql];clear Ql Q9 hF f1 f2 f3 f4 f5 f6 f7 hn K Qu Qz Qs Q0 Q6 Q5 Ja Jq Je Qe Qc Qg Qi Qh Qa Z2 Z7 Qk Qm Qr Q1 Q3 Qx Q4 Jf;unfold Jr Ju;simp_all;omega)|skip):p:=h
class KbT:Prop
theorem KbT.k (_:KbT) (h:p:=by
 first|(symm;rw [←Ql];clear Ql Q9 hF f1 f2 f3 f4 f5 f6 f7 hn K Qu Qz Qs Q0 Q6 Q5 Ja Jq Je Qe Qc Qg Qi Qh Qa Z2 Z7 Qk Qm Qr Q1 Q3 Qx Q4 Jf;unfold Jr;simp_all;done)|(symm;rw [←Ql];clear Ql Q9 hF f1 f2 f3 f4 f5 f6 f7 hn K Qu Qz Qs Q0 Q6 Q5 Ja Jq Je Qe Qc Qg Qi Qh Qa Z2 Z7 Qk Qm Qr Q1 Q3 Qx Q4 Jf;unfold Jr Ju;simp_all;done)|(symm;rw [←Ql];clear Ql Q9 hF f1 f2 f3 f4 f5 f6 f7 hn K Qu Qz Qs Q0 Q6 Q5 Ja Jq Je Qe Qc Qg Qi Qh Qa Z2 Z7 Qk Qm Qr Q1 Q3 Qx Q4 Jf;unfold Jr Ju;simp_all;omega)|skip):p:=h
class KbU:Prop
theorem KbU.k (_:KbU) (h:p:=by
 first|(symm;rw [←Ql];clear Ql Q9 hF f1 f2 f3 f4 f5 f6 f7 hn K Qu Qz Qs Q0 Q6 Q5 Ja Jq Je Qe Qc Qg Qi Qh Qa Z2 Z7 Qk Qm Qr Q1 Q3 Qx Q4 Jf;unfold Jr;simp_all;done)|(symm;rw [←Ql];clear Ql Q9 hF f1 f2 f3 f4 f5 f6 f7 hn K Qu Qz Qs Q0 Q6 Q5 Ja Jq Je Qe Qc Qg Qi Qh Qa Z2 Z7 Qk Qm Qr Q1 Q3 Qx Q4 Jf;unfold Jr Ju;simp_all;done)|(symm;rw [←Ql];clear Ql Q9 hF f1 f2 f3 f4 f5 f6 f7 hn K Qu Qz Qs Q0 Q6 Q5 Ja Jq Je Qe Qc Qg Qi Qh Qa Z2 Z7 Qk Qm Qr Q1 Q3 Qx Q4 Jf;unfold Jr Ju;simp_all;omega)|skip):p:=h
class KbV:Prop
theorem KbV.k (_:KbV) (h:p:=by
 first|(symm;rw [←Ql];clear Ql Q9 hF f1 f2 f3 f4 f5 f6 f7 hn K Qu Qz Qs Q0 Q6 Q5 Ja Jq Je Qe Qc Qg Qi Qh Qa Z2 Z7 Qk Qm Qr Q1 Q3 Qx Q4 Jf;unfold Jr;simp_all;done)|(symm;rw [←Ql];clear Ql Q9 hF f1 f2 f3 f4 f5 f6 f7 hn K Qu Qz Qs Q0 Q6 Q5 Ja Jq Je Qe Qc Qg Qi Qh Qa Z2 Z7 Qk Qm Qr Q1 Q3 Qx Q4 Jf;unfold Jr Ju;simp_all;done)|(symm;rw [←Ql];clear Ql Q9 hF f1 f2 f3 f4 f5 f6 f7 hn K Qu Qz Qs Q0 Q6 Q5 Ja Jq Je Qe Qc Qg Qi Qh Qa Z2 Z7 Qk Qm Qr Q1 Q3 Qx Q4 Jf;unfold Jr Ju;simp_all;omega)|skip):p:=h
class KbW:Prop
theorem KbW.k (_:KbW) (h:p:=by
 first|(symm;rw [←Ql];clear Ql Q9 hF f1 f2 f3 f4 f5 f6 f7 hn K Qu Qz Qs Q0 Q6 Q5 Ja Jq Je Qe Qc Qg Qi Qh Qa Z2 Z7 Qk Qm Qr Q1 Q3 Qx Q4 Jf;unfold Jr;simp_all;done)|(symm;rw [←Ql];clear Ql Q9 hF f1 f2 f3 f4 f5 f6 f7 hn K Qu Qz Qs Q0 Q6 Q5 Ja Jq Je Qe Qc Qg Qi Qh Qa Z2 Z7 Qk Qm Qr Q1 Q3 Qx Q4 Jf;unfold Jr Ju;simp_all;done)|(symm;rw [←Ql];clear Ql Q9 hF f1 f2 f3 f4 f5 f6 f7 hn K Qu Qz Qs Q0 Q6 Q5 Ja Jq Je Qe Qc Qg Qi Qh Qa Z2 Z7 Qk Qm Qr Q1 Q3 Qx Q4 Jf;unfold Jr Ju;simp_all;omega)|skip):p:=h
class KbX:Prop
theorem KbX.k (_:KbX) (h:p:=by
 first|(symm;rw [←Ql];clear Ql Q9 hF f1 f2 f3 f4 f5 f6 f7 hn K Qu Qz Qs Q0 Q6 Q5 Ja Jq Je Qe Qc Qg Qi Qh Qa Z2 Z7 Qk Qm Qr Q1 Q3 Qx Q4 Jf;unfold Jr;simp_all;done)|(symm;rw [←Ql];clear Ql Q9 hF f1 f2 f3 f4 f5 f6 f7 hn K Qu Qz Qs Q0 Q6 Q5 Ja Jq Je Qe Qc Qg Qi Qh Qa Z2 Z7 Qk Qm Qr Q1 Q3 Qx Q4 Jf;unfold Jr Ju;simp_all;done)|(symm;rw [←Ql];clear Ql Q9 hF f1 f2 f3 f4 f5 f6 f7 hn K Qu Qz Qs Q0 Q6 Q5 Ja Jq Je Qe Qc Qg Qi Qh Qa Z2 Z7 Qk Qm Qr Q1 Q3 Qx Q4 Jf;unfold Jr Ju;simp_all;omega)|skip):p:=h
class KbY:Prop
theorem KbY.k (_:KbY) (h:p:=by
 first|(symm;rw [←Ql];clear Ql Q9 hF f1 f2 f3 f4 f5 f6 f7 hn K Qu Qz Qs Q0 Q6 Q5 Ja Jq Je Qe Qc Qg Qi Qh Qa Z2 Z7 Qk Qm Qr Q1 Q3 Qx Q4 Jf;unfold Jr;simp_all;done)|(symm;rw [←Ql];clear Ql Q9 hF f1 f2 f3 f4 f5 f6 f7 hn K Qu Qz Qs Q0 Q6 Q5 Ja Jq Je Qe Qc Qg Qi Qh Qa Z2 Z7 Qk Qm Qr Q1 Q3 Qx Q4 Jf;unfold Jr Ju;simp_all;done)|(symm;rw [←Ql];clear Ql Q9 hF f1 f2 f3 f4 f5 f6 f7 hn K Qu Qz Qs Q0 Q6 Q5 Ja Jq Je Qe Qc Qg Qi Qh Qa Z2 Z7 Qk Qm Qr Q1 Q3 Qx Q4 Jf;unfold Jr Ju;simp_all;omega)|skip):p:=h
class KbZ:Prop
theorem KbZ.k (_:KbZ) (h:p:=by
 first|(symm;rw [←Ql];clear Ql Q9 hF f1 f2 f3 f4 f5 f6 f7 hn K Qu Qz Qs Q0 Q6 Q5 Ja Jq Je Qe Qc Qg Qi Qh Qa Z2 Z7 Qk Qm Qr Q1 Q3 Qx Q4 Jf;unfold Jr;simp_all;done)|(symm;rw [←Ql];clear Ql Q9 hF f1 f2 f3 f4 f5 f6 f7 hn K Qu Qz Qs Q0 Q6 Q5 Ja Jq Je Qe Qc Qg Qi Qh Qa Z2 Z7 Qk Qm Qr Q1 Q3 Qx Q4 Jf;unfold Jr Ju;simp_all;done)|(symm;rw [←Ql];clear Ql Q9 hF f1 f2 f3 f4 f5 f6 f7 hn K Qu Qz Qs Q0 Q6 Q5 Ja Jq Je Qe Qc Qg Qi Qh Qa Z2 Z7 Qk Qm Qr Q1 Q3 Qx Q4 Jf;unfold Jr Ju;simp_all;omega)|skip):p:=h
class Kca:Prop
theorem Kca.k (_:Kca) (h:p:=by
 first|(symm;rw [←Ql];clear Ql Q9 hF f1 f2 f3 f4 f5 f6 f7 hn K Qu Qz Qs Q0 Q6 Q5 Ja Jq Je Qe Qc Qg Qi Qh Qa Z2 Z7 Qk Qm Qr Q1 Q3 Qx Q4 Jf;unfold Jr;simp_all;done)|(symm;rw [←Ql];clear Ql Q9 hF f1 f2 f3 f4 f5 f6 f7 hn K Qu Qz Qs Q0 Q6 Q5 Ja Jq Je Qe Qc Qg Qi Qh Qa Z2 Z7 Qk Qm Qr Q1 Q3 Qx Q4 Jf;unfold Jr Ju;simp_all;done)|(symm;rw [←Ql];clear Ql Q9 hF f1 f2 f3 f4 f5 f6 f7 hn K Qu Qz Qs Q0 Q6 Q5 Ja Jq Je Qe Qc Qg Qi Qh Qa Z2 Z7 Qk Qm Qr Q1 Q3 Qx Q4 Jf;unfold Jr Ju;simp_all;omega)|skip):p:=h
class Kcb:Prop
theorem Kcb.k (_:Kcb) (h:p:=by
 first|(symm;rw [←Ql];clear Ql Q9 hF f1 f2 f3 f4 f5 f6 f7 hn K Qu Qz Qs Q0 Q6 Q5 Ja Jq Je Qe Qc Qg Qi Qh Qa Z2 Z7 Qk Qm Qr Q1 Q3 Qx Q4 Jf;unfold Jr;simp_all;done)|(symm;rw [←Ql];clear Ql Q9 hF f1 f2 f3 f4 f5 f6 f7 hn K Qu Qz Qs Q0 Q6 Q5 Ja Jq Je Qe Qc Qg Qi Qh Qa Z2 Z7 Qk Qm Qr Q1 Q3 Qx Q4 Jf;unfold Jr Ju;simp_all;done)|(symm;rw [←Ql];clear Ql Q9 hF f1 f2 f3 f4 f5 f6 f7 hn K Qu Qz Qs Q0 Q6 Q5 Ja Jq Je Qe Qc Qg Qi Qh Qa Z2 Z7 Qk Qm Qr Q1 Q3 Qx Q4 Jf;unfold Jr Ju;simp_all;omega)|skip):p:=h
theorem good_uses5:Jc Tryz.prog (32,T8):=by
 obtain ⟨Kx,Kt,Kc,Kd,Kb,Ku,Kw,K,Y6,P7,aV,dF,oD,tN,_⟩:=W5 Qj Z0 [] false (Xa good_IsWord1 Vl.eq_def (Xa good_IsTag1 Gi.eq_def (Xa good_plain5 Bz.eq_def (Xa good_literal5 Hw.eq_def (Xa good_name5 Cc.eq_def (Xa good_op5 aZ.eq_def W4))))));have Ko:=T8.eq_def;refine Yv K Tryz.func32 [.tmp 2] rfl 275 rfl (fun c hc Jj Zo=>?_);unfold T8 at Zo;obtain ⟨p,rfl,hF,hn⟩:=Qp Zo;clear Zo;have Zp2:=hF;obtain ⟨⟨f1,f2⟩,⟨f3,f4⟩,f5,f6,f7⟩:=Zp2;obtain ⟨R,Q9⟩:=exq (V5 p);have Ql:=Q9;unfold V5 at Ql;obtain ⟨w,Qu⟩:=exq (J4 p.name);obtain ⟨tg,Qz⟩:=exq (K1 p.name);obtain ⟨b,Qs⟩:=exq (J4 p.bind);obtain ⟨t,Q0⟩:=exq (U4 p.t);obtain ⟨u,Q6⟩:=exq (U4 p.u);obtain ⟨li,Q5⟩:=exq (Vc p);obtain ⟨na,Ja⟩:=exq (St p.name);obtain ⟨op,Jq⟩:=exq (yR p.name);rw [Qu,Qz,Qs,Q0,Q6,Q5,Ja,Jq] at Ql;cases hc;refine Kn 17 ?_;by_cases hc:p.kind=0
 ·have Je:(p.kind==0)=true:=Zi.2 hc;have Qe:(p.kind==1)=false:=Za.2 (by omega)
  have Qc:(p.kind==2)=false:=Za.2 (by omega)
  have Qg:(p.kind==3)=false:=Za.2 (by omega)
  have Qi:(p.kind==4)=false:=Za.2 (by omega)
  have Qh:(p.kind==5)=false:=Za.2 (by omega)
  have Qa:(p.kind==6)=false:=Za.2 (by omega)
  have Z2:(p.kind==7)=false:=Za.2 (by omega)
  have Z7:(p.kind==8)=false:=Za.2 (by omega)
  have Qk:(p.kind==9)=false:=Za.2 (by omega)
  have Qm:(p.kind==10)=false:=Za.2 (by omega)
  have Qr:(p.kind==11)=false:=Za.2 (by omega)
  have Q1:(p.kind==12)=false:=Za.2 (by omega)
  have Q3:(p.kind==13)=false:=Za.2 (by omega)
  have Qx:(p.kind==14)=false:=Za.2 (by omega)
  have Q4:(p.kind != 0)=false:=by rw [bne,Je];rfl
  have Jf:(p.kind != 14)=true:=by rw [bne,Qx];rfl
  have Kq:KbM:=⟨⟩;exact Qw
 have c0:=hc;clear hc;by_cases hc:p.kind=1
 ·have Je:(p.kind==0)=false:=Za.2 (by omega)
  have Qe:(p.kind==1)=true:=Zi.2 hc;have Qc:(p.kind==2)=false:=Za.2 (by omega)
  have Qg:(p.kind==3)=false:=Za.2 (by omega)
  have Qi:(p.kind==4)=false:=Za.2 (by omega)
  have Qh:(p.kind==5)=false:=Za.2 (by omega)
  have Qa:(p.kind==6)=false:=Za.2 (by omega)
  have Z2:(p.kind==7)=false:=Za.2 (by omega)
  have Z7:(p.kind==8)=false:=Za.2 (by omega)
  have Qk:(p.kind==9)=false:=Za.2 (by omega)
  have Qm:(p.kind==10)=false:=Za.2 (by omega)
  have Qr:(p.kind==11)=false:=Za.2 (by omega)
  have Q1:(p.kind==12)=false:=Za.2 (by omega)
  have Q3:(p.kind==13)=false:=Za.2 (by omega)
  have Qx:(p.kind==14)=false:=Za.2 (by omega)
  have Q4:(p.kind != 0)=true:=by rw [bne,Je];rfl
  have Jf:(p.kind != 14)=true:=by rw [bne,Qx];rfl
  have Kq:KbN:=⟨⟩;exact Qw
 have c1:=hc;clear hc;by_cases hc:p.kind=2
 ·have Je:(p.kind==0)=false:=Za.2 (by omega)
  have Qe:(p.kind==1)=false:=Za.2 (by omega)
  have Qc:(p.kind==2)=true:=Zi.2 hc;have Qg:(p.kind==3)=false:=Za.2 (by omega)
  have Qi:(p.kind==4)=false:=Za.2 (by omega)
  have Qh:(p.kind==5)=false:=Za.2 (by omega)
  have Qa:(p.kind==6)=false:=Za.2 (by omega)
  have Z2:(p.kind==7)=false:=Za.2 (by omega)
  have Z7:(p.kind==8)=false:=Za.2 (by omega)
  have Qk:(p.kind==9)=false:=Za.2 (by omega)
  have Qm:(p.kind==10)=false:=Za.2 (by omega)
  have Qr:(p.kind==11)=false:=Za.2 (by omega)
  have Q1:(p.kind==12)=false:=Za.2 (by omega)
  have Q3:(p.kind==13)=false:=Za.2 (by omega)
  have Qx:(p.kind==14)=false:=Za.2 (by omega)
  have Q4:(p.kind != 0)=true:=by rw [bne,Je];rfl
  have Jf:(p.kind != 14)=true:=by rw [bne,Qx];rfl
  have Kq:KbO:=⟨⟩;exact Qw
 have c2:=hc;clear hc;by_cases hc:p.kind=3
 ·have Je:(p.kind==0)=false:=Za.2 (by omega)
  have Qe:(p.kind==1)=false:=Za.2 (by omega)
  have Qc:(p.kind==2)=false:=Za.2 (by omega)
  have Qg:(p.kind==3)=true:=Zi.2 hc;have Qi:(p.kind==4)=false:=Za.2 (by omega)
  have Qh:(p.kind==5)=false:=Za.2 (by omega)
  have Qa:(p.kind==6)=false:=Za.2 (by omega)
  have Z2:(p.kind==7)=false:=Za.2 (by omega)
  have Z7:(p.kind==8)=false:=Za.2 (by omega)
  have Qk:(p.kind==9)=false:=Za.2 (by omega)
  have Qm:(p.kind==10)=false:=Za.2 (by omega)
  have Qr:(p.kind==11)=false:=Za.2 (by omega)
  have Q1:(p.kind==12)=false:=Za.2 (by omega)
  have Q3:(p.kind==13)=false:=Za.2 (by omega)
  have Qx:(p.kind==14)=false:=Za.2 (by omega)
  have Q4:(p.kind != 0)=true:=by rw [bne,Je];rfl
  have Jf:(p.kind != 14)=true:=by rw [bne,Qx];rfl
  have Kq:KbP:=⟨⟩;exact Qw
 have c3:=hc;clear hc;by_cases hc:p.kind=4
 ·have Je:(p.kind==0)=false:=Za.2 (by omega)
  have Qe:(p.kind==1)=false:=Za.2 (by omega)
  have Qc:(p.kind==2)=false:=Za.2 (by omega)
  have Qg:(p.kind==3)=false:=Za.2 (by omega)
  have Qi:(p.kind==4)=true:=Zi.2 hc;have Qh:(p.kind==5)=false:=Za.2 (by omega)
  have Qa:(p.kind==6)=false:=Za.2 (by omega)
  have Z2:(p.kind==7)=false:=Za.2 (by omega)
  have Z7:(p.kind==8)=false:=Za.2 (by omega)
  have Qk:(p.kind==9)=false:=Za.2 (by omega)
  have Qm:(p.kind==10)=false:=Za.2 (by omega)
  have Qr:(p.kind==11)=false:=Za.2 (by omega)
  have Q1:(p.kind==12)=false:=Za.2 (by omega)
  have Q3:(p.kind==13)=false:=Za.2 (by omega)
  have Qx:(p.kind==14)=false:=Za.2 (by omega)
  have Q4:(p.kind != 0)=true:=by rw [bne,Je];rfl
  have Jf:(p.kind != 14)=true:=by rw [bne,Qx];rfl
  have Kq:KbQ:=⟨⟩;exact Qw
 have c4:=hc;clear hc;by_cases hc:p.kind=5
 ·have Je:(p.kind==0)=false:=Za.2 (by omega)
  have Qe:(p.kind==1)=false:=Za.2 (by omega)
  have Qc:(p.kind==2)=false:=Za.2 (by omega)
  have Qg:(p.kind==3)=false:=Za.2 (by omega)
  have Qi:(p.kind==4)=false:=Za.2 (by omega)
  have Qh:(p.kind==5)=true:=Zi.2 hc;have Qa:(p.kind==6)=false:=Za.2 (by omega)
  have Z2:(p.kind==7)=false:=Za.2 (by omega)
  have Z7:(p.kind==8)=false:=Za.2 (by omega)
  have Qk:(p.kind==9)=false:=Za.2 (by omega)
  have Qm:(p.kind==10)=false:=Za.2 (by omega)
  have Qr:(p.kind==11)=false:=Za.2 (by omega)
  have Q1:(p.kind==12)=false:=Za.2 (by omega)
  have Q3:(p.kind==13)=false:=Za.2 (by omega)
  have Qx:(p.kind==14)=false:=Za.2 (by omega)
  have Q4:(p.kind != 0)=true:=by rw [bne,Je];rfl
  have Jf:(p.kind != 14)=true:=by rw [bne,Qx];rfl
  have Kq:KbR:=⟨⟩;exact Qw
 have c5:=hc;clear hc;by_cases hc:p.kind=6
 ·have Je:(p.kind==0)=false:=Za.2 (by omega)
  have Qe:(p.kind==1)=false:=Za.2 (by omega)
  have Qc:(p.kind==2)=false:=Za.2 (by omega)
  have Qg:(p.kind==3)=false:=Za.2 (by omega)
  have Qi:(p.kind==4)=false:=Za.2 (by omega)
  have Qh:(p.kind==5)=false:=Za.2 (by omega)
  have Qa:(p.kind==6)=true:=Zi.2 hc;have Z2:(p.kind==7)=false:=Za.2 (by omega)
  have Z7:(p.kind==8)=false:=Za.2 (by omega)
  have Qk:(p.kind==9)=false:=Za.2 (by omega)
  have Qm:(p.kind==10)=false:=Za.2 (by omega)
  have Qr:(p.kind==11)=false:=Za.2 (by omega)
  have Q1:(p.kind==12)=false:=Za.2 (by omega)
  have Q3:(p.kind==13)=false:=Za.2 (by omega)
  have Qx:(p.kind==14)=false:=Za.2 (by omega)
  have Q4:(p.kind != 0)=true:=by rw [bne,Je];rfl
  have Jf:(p.kind != 14)=true:=by rw [bne,Qx];rfl
  have Kq:KbS:=⟨⟩;exact Qw
 have c6:=hc;clear hc;by_cases hc:p.kind=7
 ·have Je:(p.kind==0)=false:=Za.2 (by omega)
  have Qe:(p.kind==1)=false:=Za.2 (by omega)
  have Qc:(p.kind==2)=false:=Za.2 (by omega)
  have Qg:(p.kind==3)=false:=Za.2 (by omega)
  have Qi:(p.kind==4)=false:=Za.2 (by omega)
  have Qh:(p.kind==5)=false:=Za.2 (by omega)
  have Qa:(p.kind==6)=false:=Za.2 (by omega)
  have Z2:(p.kind==7)=true:=Zi.2 hc;have Z7:(p.kind==8)=false:=Za.2 (by omega)
  have Qk:(p.kind==9)=false:=Za.2 (by omega)
  have Qm:(p.kind==10)=false:=Za.2 (by omega)
  have Qr:(p.kind==11)=false:=Za.2 (by omega)
  have Q1:(p.kind==12)=false:=Za.2 (by omega)
  have Q3:(p.kind==13)=false:=Za.2 (by omega)
  have Qx:(p.kind==14)=false:=Za.2 (by omega)
  have Q4:(p.kind != 0)=true:=by rw [bne,Je];rfl
  have Jf:(p.kind != 14)=true:=by rw [bne,Qx];rfl
  have Kq:KbT:=⟨⟩;exact Qw
 have c7:=hc;clear hc;by_cases hc:p.kind=8
 ·have Je:(p.kind==0)=false:=Za.2 (by omega)
  have Qe:(p.kind==1)=false:=Za.2 (by omega)
  have Qc:(p.kind==2)=false:=Za.2 (by omega)
  have Qg:(p.kind==3)=false:=Za.2 (by omega)
  have Qi:(p.kind==4)=false:=Za.2 (by omega)
  have Qh:(p.kind==5)=false:=Za.2 (by omega)
  have Qa:(p.kind==6)=false:=Za.2 (by omega)
  have Z2:(p.kind==7)=false:=Za.2 (by omega)
  have Z7:(p.kind==8)=true:=Zi.2 hc;have Qk:(p.kind==9)=false:=Za.2 (by omega)
  have Qm:(p.kind==10)=false:=Za.2 (by omega)
  have Qr:(p.kind==11)=false:=Za.2 (by omega)
  have Q1:(p.kind==12)=false:=Za.2 (by omega)
  have Q3:(p.kind==13)=false:=Za.2 (by omega)
  have Qx:(p.kind==14)=false:=Za.2 (by omega)
  have Q4:(p.kind != 0)=true:=by rw [bne,Je];rfl
  have Jf:(p.kind != 14)=true:=by rw [bne,Qx];rfl
  have Kq:KbU:=⟨⟩;exact Qw
 have c8:=hc;clear hc;by_cases hc:p.kind=9
 ·have Je:(p.kind==0)=false:=Za.2 (by omega)
  have Qe:(p.kind==1)=false:=Za.2 (by omega)
  have Qc:(p.kind==2)=false:=Za.2 (by omega)
  have Qg:(p.kind==3)=false:=Za.2 (by omega)
  have Qi:(p.kind==4)=false:=Za.2 (by omega)
  have Qh:(p.kind==5)=false:=Za.2 (by omega)
  have Qa:(p.kind==6)=false:=Za.2 (by omega)
  have Z2:(p.kind==7)=false:=Za.2 (by omega)
  have Z7:(p.kind==8)=false:=Za.2 (by omega)
  have Qk:(p.kind==9)=true:=Zi.2 hc;have Qm:(p.kind==10)=false:=Za.2 (by omega)
  have Qr:(p.kind==11)=false:=Za.2 (by omega)
  have Q1:(p.kind==12)=false:=Za.2 (by omega)
  have Q3:(p.kind==13)=false:=Za.2 (by omega)
  have Qx:(p.kind==14)=false:=Za.2 (by omega)
  have Q4:(p.kind != 0)=true:=by rw [bne,Je];rfl
  have Jf:(p.kind != 14)=true:=by rw [bne,Qx];rfl
  have Kq:KbV:=⟨⟩;exact Qw
 have c9:=hc;clear hc;by_cases hc:p.kind=10
 ·have Je:(p.kind==0)=false:=Za.2 (by omega)
  have Qe:(p.kind==1)=false:=Za.2 (by omega)
  have Qc:(p.kind==2)=false:=Za.2 (by omega)
  have Qg:(p.kind==3)=false:=Za.2 (by omega)
  have Qi:(p.kind==4)=false:=Za.2 (by omega)
  have Qh:(p.kind==5)=false:=Za.2 (by omega)
  have Qa:(p.kind==6)=false:=Za.2 (by omega)
  have Z2:(p.kind==7)=false:=Za.2 (by omega)
  have Z7:(p.kind==8)=false:=Za.2 (by omega)
  have Qk:(p.kind==9)=false:=Za.2 (by omega)
  have Qm:(p.kind==10)=true:=Zi.2 hc;have Qr:(p.kind==11)=false:=Za.2 (by omega)
  have Q1:(p.kind==12)=false:=Za.2 (by omega)
  have Q3:(p.kind==13)=false:=Za.2 (by omega)
  have Qx:(p.kind==14)=false:=Za.2 (by omega)
  have Q4:(p.kind != 0)=true:=by rw [bne,Je];rfl
  have Jf:(p.kind != 14)=true:=by rw [bne,Qx];rfl
  have Kq:KbW:=⟨⟩;exact Qw
 have c10:=hc;clear hc;by_cases hc:p.kind=11
 ·have Je:(p.kind==0)=false:=Za.2 (by omega)
  have Qe:(p.kind==1)=false:=Za.2 (by omega)
  have Qc:(p.kind==2)=false:=Za.2 (by omega)
  have Qg:(p.kind==3)=false:=Za.2 (by omega)
  have Qi:(p.kind==4)=false:=Za.2 (by omega)
  have Qh:(p.kind==5)=false:=Za.2 (by omega)
  have Qa:(p.kind==6)=false:=Za.2 (by omega)
  have Z2:(p.kind==7)=false:=Za.2 (by omega)
  have Z7:(p.kind==8)=false:=Za.2 (by omega)
  have Qk:(p.kind==9)=false:=Za.2 (by omega)
  have Qm:(p.kind==10)=false:=Za.2 (by omega)
  have Qr:(p.kind==11)=true:=Zi.2 hc;have Q1:(p.kind==12)=false:=Za.2 (by omega)
  have Q3:(p.kind==13)=false:=Za.2 (by omega)
  have Qx:(p.kind==14)=false:=Za.2 (by omega)
  have Q4:(p.kind != 0)=true:=by rw [bne,Je];rfl
  have Jf:(p.kind != 14)=true:=by rw [bne,Qx];rfl
  have Kq:KbX:=⟨⟩;exact Qw
 have c11:=hc;clear hc;by_cases hc:p.kind=12
 ·have Je:(p.kind==0)=false:=Za.2 (by omega)
  have Qe:(p.kind==1)=false:=Za.2 (by omega)
  have Qc:(p.kind==2)=false:=Za.2 (by omega)
  have Qg:(p.kind==3)=false:=Za.2 (by omega)
  have Qi:(p.kind==4)=false:=Za.2 (by omega)
  have Qh:(p.kind==5)=false:=Za.2 (by omega)
  have Qa:(p.kind==6)=false:=Za.2 (by omega)
  have Z2:(p.kind==7)=false:=Za.2 (by omega)
  have Z7:(p.kind==8)=false:=Za.2 (by omega)
  have Qk:(p.kind==9)=false:=Za.2 (by omega)
  have Qm:(p.kind==10)=false:=Za.2 (by omega)
  have Qr:(p.kind==11)=false:=Za.2 (by omega)
  have Q1:(p.kind==12)=true:=Zi.2 hc;have Q3:(p.kind==13)=false:=Za.2 (by omega)
  have Qx:(p.kind==14)=false:=Za.2 (by omega)
  have Q4:(p.kind != 0)=true:=by rw [bne,Je];rfl
  have Jf:(p.kind != 14)=true:=by rw [bne,Qx];rfl
  have Kq:KbY:=⟨⟩;exact Qw
 have c12:=hc;clear hc;by_cases hc:p.kind=13
 ·have Je:(p.kind==0)=false:=Za.2 (by omega)
  have Qe:(p.kind==1)=false:=Za.2 (by omega)
  have Qc:(p.kind==2)=false:=Za.2 (by omega)
  have Qg:(p.kind==3)=false:=Za.2 (by omega)
  have Qi:(p.kind==4)=false:=Za.2 (by omega)
  have Qh:(p.kind==5)=false:=Za.2 (by omega)
  have Qa:(p.kind==6)=false:=Za.2 (by omega)
  have Z2:(p.kind==7)=false:=Za.2 (by omega)
  have Z7:(p.kind==8)=false:=Za.2 (by omega)
  have Qk:(p.kind==9)=false:=Za.2 (by omega)
  have Qm:(p.kind==10)=false:=Za.2 (by omega)
  have Qr:(p.kind==11)=false:=Za.2 (by omega)
  have Q1:(p.kind==12)=false:=Za.2 (by omega)
  have Q3:(p.kind==13)=true:=Zi.2 hc;have Qx:(p.kind==14)=false:=Za.2 (by omega)
  have Q4:(p.kind != 0)=true:=by rw [bne,Je];rfl
  have Jf:(p.kind != 14)=true:=by rw [bne,Qx];rfl
  have Kq:KbZ:=⟨⟩;exact Qw
 have c13:=hc;clear hc;by_cases hc:p.kind=14
 ·have Je:(p.kind==0)=false:=Za.2 (by omega)
  have Qe:(p.kind==1)=false:=Za.2 (by omega)
  have Qc:(p.kind==2)=false:=Za.2 (by omega)
  have Qg:(p.kind==3)=false:=Za.2 (by omega)
  have Qi:(p.kind==4)=false:=Za.2 (by omega)
  have Qh:(p.kind==5)=false:=Za.2 (by omega)
  have Qa:(p.kind==6)=false:=Za.2 (by omega)
  have Z2:(p.kind==7)=false:=Za.2 (by omega)
  have Z7:(p.kind==8)=false:=Za.2 (by omega)
  have Qk:(p.kind==9)=false:=Za.2 (by omega)
  have Qm:(p.kind==10)=false:=Za.2 (by omega)
  have Qr:(p.kind==11)=false:=Za.2 (by omega)
  have Q1:(p.kind==12)=false:=Za.2 (by omega)
  have Q3:(p.kind==13)=false:=Za.2 (by omega)
  have Qx:(p.kind==14)=true:=Zi.2 hc;have Q4:(p.kind != 0)=true:=by rw [bne,Je];rfl
  have Jf:(p.kind != 14)=false:=by rw [bne,Qx];rfl
  have Kq:Kca:=⟨⟩;exact Qw
 have c14:=hc;clear hc;have Je:(p.kind==0)=false:=Za.2 (by omega)
 have Qe:(p.kind==1)=false:=Za.2 (by omega)
 have Qc:(p.kind==2)=false:=Za.2 (by omega)
 have Qg:(p.kind==3)=false:=Za.2 (by omega)
 have Qi:(p.kind==4)=false:=Za.2 (by omega)
 have Qh:(p.kind==5)=false:=Za.2 (by omega)
 have Qa:(p.kind==6)=false:=Za.2 (by omega)
 have Z2:(p.kind==7)=false:=Za.2 (by omega)
 have Z7:(p.kind==8)=false:=Za.2 (by omega)
 have Qk:(p.kind==9)=false:=Za.2 (by omega)
 have Qm:(p.kind==10)=false:=Za.2 (by omega)
 have Qr:(p.kind==11)=false:=Za.2 (by omega)
 have Q1:(p.kind==12)=false:=Za.2 (by omega)
 have Q3:(p.kind==13)=false:=Za.2 (by omega)
 have Qx:(p.kind==14)=false:=Za.2 (by omega)
 have Q4:(p.kind != 0)=true:=by rw [bne,Je];rfl
 have Jf:(p.kind != 14)=true:=by rw [bne,Qx];rfl
 have Kq:Kcb:=⟨⟩;exact Qw
def Ll:List Part→List Int→Bool
 | [],_=>true
 | n::l,rs=>if 100≤rs.length then false else Ll l (Mc (Jk n) rs)
def Nm (t:List Part):Bool:=Ll t []
def Zcn (rs:List Int):Prop:=(∀ x∈rs,0≤x∧x≤60)∧∀ x∈rs.tail,1≤x
def Hu:Con:=Xd (fun (t:Sl Part)=>P5 t.l) (fun t=>Nm t.l)
class Kce:Prop
theorem Kce.k (_:Kce) (h:p:=by
 simp only [uR] at g4;exact ⟨(k+1,[]),by exact J0,by simp only;omega,by simp,by simp,by simp only;rw [←h4,e1,g4],by simp only;omega⟩):p:=h
class Kcf:Prop
theorem Kcf.k (_:Kcf) (h:p:=by
 exact ⟨[],by exact J0,⟨by simp,by simp⟩,by simp,by rw [←g4];rfl,by simp⟩):p:=h
class Kcg:Prop
theorem Kcg.k (_:Kcg) (h:p:=by
 refine ⟨(y-1)::r,by exact J0,⟨fun z Qs=>?_,fun z Qs=>g2 z (List.mem_cons_of_mem _ Qs)⟩,by simp only [Zf];omega,by rw [←g4];simp only [uR,Mc,if_true],by simp only [Zf];omega⟩
 rcases Zm.1 Qs with rfl|Qs
 ·omega
 ·exact g1 z (List.mem_cons_of_mem _ (List.mem_cons_of_mem _ Qs))):p:=h
class Kch:Prop
theorem Kch.k (_:Kch) (h:p:=by
 have e3:Mc M rs=x::r:=by rw [←g4];exact H8 Zoq
 refine ⟨(k+1,x::r),by exact J0,by simp only;omega,by simp only [Zf];omega,fun z Qs=>?_,by simp only;rw [←h4,e1,e3],by simp only;omega⟩
 rcases Zm.1 Qs with rfl|Qs
 ·omega
 ·exact ⟨g2 z Qs,(g1 z (List.mem_cons_of_mem _ Qs)).2⟩):p:=h
class Kcd:Prop
theorem Kcd.k (_:Kcd) (h:p:=by
 revert e1 Zbf;generalize Jk (t.getD k e0)=M;intro Zbf e1;repeat' first|exact Lz|with_reducible apply Z3|intro _
 ·rw [if_pos (by omega)] at e1
  rw [←h4,e1]
 ·rw [if_neg (by omega)] at e1
  have e2:rs.reverse++[M]=(M::rs).reverse:=by simp
  have hS:∀ (q:List Int),q≠[]→((q.length:Nat):Int)-1=((q.length-1:Nat):Int):=by
   intro q hq;have:=List.length_pos_iff.2 hq;omega
  refine Z1 [23,24,25,26,27,28,29,30,31,32,33,34,35,36,37,38,39,40,41,42,43,44,45,46,47,48,49,50] (fun q:List Int=>[(3,.sl 5 (q.reverse.map enc).length),(5,.dead),(12,.dead),(15,.dead),(22,.dead)]) (fun q:List Int=>[(5,.row 1 (q.reverse.map enc) 0)]) (fun q:List Int=>Zcn q∧q.length≤101∧uR q=Mc M rs) (fun q:List Int=>q.length) (M::rs) ?_ ?_ ?_
  ·refine ⟨⟨fun x hx=>?_,fun x hx=>(h3 x hx).1⟩,by simp only [Zf];omega,rfl⟩
   rcases Zm.1 hx with rfl|hx
   ·exact Zbf
   ·have:=h3 x hx;omega
  ·exact J0
  rintro q ⟨⟨g1,g2⟩,g3,g4⟩;cases q with
  | nil =>
   have Qs:Jw 0 ((0:Nat):Int)=false:=rfl;have Qc:=@List.length_reverse.{0};have Qg:=@List.reverse_nil.{0};have Kq:Kce:=⟨⟩;exact Qw
  | cons x r =>
   have Qs:Jw 0 ((r.length+1:Nat):Int)=true:=by rw [Xs];omega
   have Q0:((r.length+1:Nat):Int)-1=(r.length:Int):=by omega
   have oU:=g1 x (by simp)
   have Q6:el (List.map enc (x::r).reverse) r.length=.int .i64 x:=Ev;have Q5:List.take r.length (List.map (enc:Int→D) (x::r).reverse)=List.map enc r.reverse:=lT;simp only [Zf] at g3;by_cases Zoq:x=0
   ·subst Zoq;cases r with
    | nil =>
     have Ja:Jw 0 ((0:Nat):Int)=false:=rfl;simp only [List.length_nil] at Qs Q0 Q6 Q5;have Qc:=@List.length_reverse.{0};have Qg:=@List.reverse_nil.{0};have Kq:Kcf:=⟨⟩;exact Qw
    | cons y r =>
     have Zyl:=g2 y (by simp)
     have Zyk:=g1 y (by simp)
     have Jq:Jw 0 ((r.length+1:Nat):Int)=true:=by rw [Xs];omega
     have Q9:((r.length+1:Nat):Int)-1=(r.length:Int):=by omega
     have Je:el (List.map enc (y::r).reverse) r.length=.int .i64 y:=Ev;simp only [Zf] at Qs Q0 Q6 Q5 g3;have Qc:=@List.length_reverse.{0};have Kq:Kcg:=⟨⟩;exact Qw
   ·have Qe:(x==(0:Int))=false:=by simpa using Zoq
    have Qc:=@List.length_reverse.{0};have Kq:Kch:=⟨⟩;exact Qw):p:=h
class Kci:Prop
theorem Kci.k (_:Kci) (h:p:=by
 rw [←h4,List.drop_eq_nil_of_le Qd];rfl):p:=h
class Kcc:Prop
theorem Kcc.k (_:Kcc) (h:p:=by
 refine Z1 [2,6,7,8,9,10,11,12,13,14,15,16,17,18,19,20,21,22,23,24,25,26,27,28,29,30,31,32,33,34,35,36,37,38,39,40,41,42,43,44,45,46,47,48,49,50] (fun p:Nat×List Int=>[(3,.sl 5 (p.2.reverse.map enc).length),(4,.d (.int .i64 p.1)),(5,.dead)]) (fun p:Nat×List Int=>[(5,.row 1 (p.2.reverse.map enc) 0)]) (fun p:Nat×List Int=>p.1≤t.length∧p.2.length≤101∧(∀ x∈p.2,1≤x∧x≤60)∧Ll (t.drop p.1) p.2=Nm t) (fun p:Nat×List Int=>t.length-p.1) (0,[]) ?_ ?_ ?_
 ·exact ⟨Nat.zero_le _,by simp,by simp,rfl⟩
 ·exact J0
 rintro ⟨k,rs⟩ ⟨h1,h2,h3,h4⟩;simp only at h1 h2 h3 h4;rcases Z5 k t.length with ⟨Qd,Qu⟩|⟨Qd,Qu⟩
 ·have Zy5:=(hm (t.getD k e0) (by simp [Qd])).2.2
  have Zbf:0≤Jk (t.getD k e0)∧Jk (t.getD k e0)≤60:=⟨(hm (t.getD k e0) (by simp [Qd])).1,(hm (t.getD k e0) (by simp [Qd])).2.1⟩
  have e1:Ll (t.drop k) rs=if 100≤rs.length then false else Ll (t.drop (k+1)) (Mc (Jk (t.getD k e0)) rs):=by
   rw [List.drop_eq_getElem_cons Qd,Ll];simp [Qd]
  have Qz:=Z9 (e0:Part) Qd;have Qc:=@List.length_reverse.{0};have Kq:Kcd:=⟨⟩;exact uC
 ·have Kq:Kci:=⟨⟩;exact uC):p:=h
theorem good_shallow5:Jc Tryz.prog (33,Hu):=by
 obtain ⟨Kx,Kt,Kc,Kd,Kb,Ku,Kw,K,Y6,_⟩:=W5 Qj Z0 [39] false (Xa good_Many5 Ge.eq_def W4);have Ko:=Hu.eq_def;refine Yv K Tryz.func33 [.tmp 2] rfl 51 rfl (fun c hc Jj Zo=>?_);unfold Hu at Zo;obtain ⟨⟨t⟩,rfl,⟨ht,hm⟩⟩:=Qp Zo;simp only at ht hm;cases hc;refine Kn 3 ?_;have Kq:Kcc:=⟨⟩;exact uC
def Q8 (t:List Part) (l:List Int) (k:Nat):Part:=t.getD (l.getD k 0).toNat e0
def rZ (t:List Part) (l:List Int) (x:Part) (k:Nat):Bool:=(List.range k).any fun j=>!(x.label==[])&&((Q8 t l j).label==x.label)
def gW (p x:Part) (br:Bool):Bool:=((x.kind==8)==br)&&!((br&&!K1 x.label)||(((p.kind==10)&&!J4 x.label)||((!br&&!(p.kind==10))&&!(x.label==[]))))
def Bl (t:List Part) (p:Part) (l:List Int) (k:Nat):Bool:=gW p (Q8 t l k) ((p.kind==7)&&Jw 0 k)&&!rZ t l (Q8 t l k) k
def Fa (t:List Part) (i:Nat):Bool:=(((Ve t i).length:Int)==Jk (t.getD i e0))&&(List.range (Ve t i).length).all fun k=>Bl t (t.getD i e0) (Ve t i) k
theorem Fe (t:List Part):∀ (m q:Nat),∀ x∈Jz t m q,(q:Int)≤x∧x<t.length
 | 0,q,x,hx=>by simp [Jz] at hx
 | m+1,q,x,hx=>by
  unfold Jz at hx;split at hx
  ·rcases Zm.1 hx with rfl|hx
   ·omega
   ·have:=Fe t m _ x hx;omega
  ·cases hx
theorem zI {t:List Part} {i:Nat}:∀ x∈Ve t i,(i:Int)<x∧x<t.length:=by
 intro x hx;unfold Ve at hx;split at hx
 ·cases hx
 ·have:=Fe t _ _ x hx;omega
theorem Dc (t:List Part):∀ (m q:Nat),(Jz t m q).length≤m
 | 0,q=>by simp [Jz]
 | m+1,q=>by
  unfold Jz;split
  ·simp only [Zf];have:=Dc t m (q+Lu (t.drop q) 1);omega
  ·simp
def Zsh (t:List Part):Prop:=∀ n∈t,n.label.length≤9223372036854775807
theorem Nc {p:Nat→Bool} {l:List Nat} (h:∀ m∈l,p m=false):l.any p=false:=by
 rw [List.any_eq_false];intro x hx;rw [h x hx];simp
def Gq:Con:=Vy (fun (t:Sl Part) (i:Int)=>P5 t.l∧Zsh t.l∧0≤i∧i<t.l.length) (fun t i=>Fa t.l i.toNat)
class Kck:Prop
theorem Kck.k (_:Kck) (h:p:=by
 first|assumption|trivial|rfl|(exfalso;clear hE Yx Q0 Ql Em hT hN Qz Q5 Ja K uQ lJ;simp_all;done)|(exfalso;clear Yx Q0 Ql Em hT hN Qz Q5 Ja K uQ lJ;simp_all;done)|skip):p:=h
class Kcm:Prop
theorem Kcm.k (_:Kcm) (h:p:=by
 first|exact ⟨j+1,by exact J0,by omega,by omega⟩|skip):p:=h
class Kcn:Prop
theorem Kcn.k (_:Kcn) (h:p:=by
 first|exact ⟨k+1,by exact J0,by omega,Eq.mpr hQ hs,by omega⟩|skip):p:=h
class Kcl:Prop
theorem Kcl.k (_:Kcl) (h:p:=by
 first|assumption|skip
 refine Z1 [4,85,86,87,88,89,90,91,92,93,94,95,96,97,98,99,100,101,102,103,104,105] (fun j:Nat=>[(10,.d (.int .i64 j))]) (fun j:Nat=>[]) (fun j:Nat=>j≤k∧∀ m,m<j→(!true&&((Q8 t l m).label==x.label))=false) (fun j:Nat=>k-j) 0 ?_ ?_ ?_
 ·simp
 ·exact J0
 rintro j ⟨hj,oL⟩;rcases Z5 j k with ⟨Cw,Qh⟩|⟨Cw,Qh⟩
 ·have kM:(!true&&((Q8 t l j).label==x.label))=false→∀ m,m<j+1→(!true&&((Q8 t l m).label==x.label))=false:=fun h=>Nh oL h;have Li:(!true&&((Q8 t l j).label==x.label))=true→R=false:=fun h=>Xm (by rw [List.any_eq_true];exact ⟨j,List.mem_range.2 Cw,h⟩)
  have Tj:j<l.length:=by omega
  have Yd:=Em (l.getD j 0) (by simp [Tj])
  have El:(l.getD j 0).toNat<t.length:=by omega
  have Qa:=Z9 (0:Int) Tj;have Z2:=Z9 e0 El
  change el _ _=enc (Q8 t l j) at Z2
  obtain ⟨u,hu⟩:=exq (l.getD j 0);rw [hu] at Qa Z2 Yd El;obtain ⟨u,rfl⟩:∃ n:Nat,u=n:=⟨u.toNat,by omega⟩
  rw [Zn] at Z2 El;obtain ⟨y,hy⟩:=exq (Q8 t l j);rw [hy] at Z2 kM Li;obtain ⟨ee,Z7⟩:=exq ((y.label==x.label));rw [Z7] at kM Li;have Kq:Kcm:=⟨⟩;exact Qw
 ·have hs:=X5 (Nc fun m hm=>oL m (by have:=List.mem_range.1 hm;omega))
  have Kq:Kcn:=⟨⟩;exact Qw):p:=h
class Kcp:Prop
theorem Kcp.k (_:Kcp) (h:p:=by
 first|exact ⟨j+1,by exact J0,by omega,fun m hm=>by simpa using h2 m hm,by omega⟩|skip):p:=h
class Kcq:Prop
theorem Kcq.k (_:Kcq) (h:p:=by
 first|exact ⟨k+1,by exact J0,by omega,Eq.mpr hQ hs,by omega⟩|skip):p:=h
class Kco:Prop
theorem Kco.k (_:Kco) (h:p:=by
 first|assumption|skip
 refine Z1 [4,85,86,87,88,89,90,91,92,93,94,95,96,97,98,99,100,101,102,103,104,105] (fun j:Nat=>[(10,.d (.int .i64 j))]) (fun j:Nat=>[]) (fun j:Nat=>j≤k∧∀ m,m<j→(!false&&((Q8 t l m).label==x.label))=false) (fun j:Nat=>k-j) 0 ?_ ?_ ?_
 ·simp
 ·exact J0
 rintro j ⟨hj,oL⟩;rcases Z5 j k with ⟨Cw,Qh⟩|⟨Cw,Qh⟩
 ·have kM:(!false&&((Q8 t l j).label==x.label))=false→∀ m,m<j+1→(!false&&((Q8 t l m).label==x.label))=false:=fun h=>Nh oL h;have Li:(!false&&((Q8 t l j).label==x.label))=true→R=false:=fun h=>Xm (by rw [List.any_eq_true];exact ⟨j,List.mem_range.2 Cw,h⟩)
  have Tj:j<l.length:=by omega
  have Yd:=Em (l.getD j 0) (by simp [Tj])
  have El:(l.getD j 0).toNat<t.length:=by omega
  have Qa:=Z9 (0:Int) Tj;have Z2:=Z9 e0 El
  change el _ _=enc (Q8 t l j) at Z2
  obtain ⟨u,hu⟩:=exq (l.getD j 0);rw [hu] at Qa Z2 Yd El;obtain ⟨u,rfl⟩:∃ n:Nat,u=n:=⟨u.toNat,by omega⟩
  rw [Zn] at Z2 El;obtain ⟨y,hy⟩:=exq (Q8 t l j);rw [hy] at Z2 kM Li;obtain ⟨ee,Z7⟩:=exq ((y.label==x.label));rw [Z7] at kM Li;cases ee with
  | true =>
   have hr:=Li rfl;subst hr;exact Uy
  | false =>
   have h2:=kM rfl;have Kq:Kcp:=⟨⟩;exact Qw
 ·have hs:=X5 (Nc fun m hm=>oL m (by have:=List.mem_range.1 hm;omega))
  have Kq:Kcq:=⟨⟩;exact Qw):p:=h
class Kcs:Prop
theorem Kcs.k (_:Kcs) (h:p:=by
 first|exact ⟨j+1,by exact J0,by omega,by omega⟩|skip):p:=h
class Kct:Prop
theorem Kct.k (_:Kct) (h:p:=by
 first|exact ⟨k+1,by exact J0,by omega,Eq.mpr hQ hs,by omega⟩|skip):p:=h
class Kcr:Prop
theorem Kcr.k (_:Kcr) (h:p:=by
 first|assumption|skip
 refine Z1 [4,85,86,87,88,89,90,91,92,93,94,95,96,97,98,99,100,101,102,103,104,105] (fun j:Nat=>[(10,.d (.int .i64 j))]) (fun j:Nat=>[]) (fun j:Nat=>j≤k∧∀ m,m<j→(!true&&((Q8 t l m).label==x.label))=false) (fun j:Nat=>k-j) 0 ?_ ?_ ?_
 ·simp
 ·exact J0
 rintro j ⟨hj,oL⟩;rcases Z5 j k with ⟨Cw,Qh⟩|⟨Cw,Qh⟩
 ·have kM:(!true&&((Q8 t l j).label==x.label))=false→∀ m,m<j+1→(!true&&((Q8 t l m).label==x.label))=false:=fun h=>Nh oL h;have Li:(!true&&((Q8 t l j).label==x.label))=true→R=false:=fun h=>Xm (by rw [List.any_eq_true];exact ⟨j,List.mem_range.2 Cw,h⟩)
  have Tj:j<l.length:=by omega
  have Yd:=Em (l.getD j 0) (by simp [Tj])
  have El:(l.getD j 0).toNat<t.length:=by omega
  have Qa:=Z9 (0:Int) Tj;have Z2:=Z9 e0 El
  change el _ _=enc (Q8 t l j) at Z2
  obtain ⟨u,hu⟩:=exq (l.getD j 0);rw [hu] at Qa Z2 Yd El;obtain ⟨u,rfl⟩:∃ n:Nat,u=n:=⟨u.toNat,by omega⟩
  rw [Zn] at Z2 El;obtain ⟨y,hy⟩:=exq (Q8 t l j);rw [hy] at Z2 kM Li;obtain ⟨ee,Z7⟩:=exq ((y.label==x.label));rw [Z7] at kM Li;have Kq:Kcs:=⟨⟩;exact Qw
 ·have hs:=X5 (Nc fun m hm=>oL m (by have:=List.mem_range.1 hm;omega))
  have Kq:Kct:=⟨⟩;exact Qw):p:=h
class Kcv:Prop
theorem Kcv.k (_:Kcv) (h:p:=by
 first|exact ⟨j+1,by exact J0,by omega,fun m hm=>by simpa using h2 m hm,by omega⟩|skip):p:=h
class Kcw:Prop
theorem Kcw.k (_:Kcw) (h:p:=by
 first|exact ⟨k+1,by exact J0,by omega,Eq.mpr hQ hs,by omega⟩|skip):p:=h
class Kcu:Prop
theorem Kcu.k (_:Kcu) (h:p:=by
 first|assumption|skip
 refine Z1 [4,85,86,87,88,89,90,91,92,93,94,95,96,97,98,99,100,101,102,103,104,105] (fun j:Nat=>[(10,.d (.int .i64 j))]) (fun j:Nat=>[]) (fun j:Nat=>j≤k∧∀ m,m<j→(!false&&((Q8 t l m).label==x.label))=false) (fun j:Nat=>k-j) 0 ?_ ?_ ?_
 ·simp
 ·exact J0
 rintro j ⟨hj,oL⟩;rcases Z5 j k with ⟨Cw,Qh⟩|⟨Cw,Qh⟩
 ·have kM:(!false&&((Q8 t l j).label==x.label))=false→∀ m,m<j+1→(!false&&((Q8 t l m).label==x.label))=false:=fun h=>Nh oL h;have Li:(!false&&((Q8 t l j).label==x.label))=true→R=false:=fun h=>Xm (by rw [List.any_eq_true];exact ⟨j,List.mem_range.2 Cw,h⟩)
  have Tj:j<l.length:=by omega
  have Yd:=Em (l.getD j 0) (by simp [Tj])
  have El:(l.getD j 0).toNat<t.length:=by omega
  have Qa:=Z9 (0:Int) Tj;have Z2:=Z9 e0 El
  change el _ _=enc (Q8 t l j) at Z2
  obtain ⟨u,hu⟩:=exq (l.getD j 0);rw [hu] at Qa Z2 Yd El;obtain ⟨u,rfl⟩:∃ n:Nat,u=n:=⟨u.toNat,by omega⟩
  rw [Zn] at Z2 El;obtain ⟨y,hy⟩:=exq (Q8 t l j);rw [hy] at Z2 kM Li;obtain ⟨ee,Z7⟩:=exq ((y.label==x.label));rw [Z7] at kM Li;cases ee with
  | true =>
   have hr:=Li rfl;subst hr;exact Uy
  | false =>
   have h2:=kM rfl;have Kq:Kcv:=⟨⟩;exact Qw
 ·have hs:=X5 (Nc fun m hm=>oL m (by have:=List.mem_range.1 hm;omega))
  have Kq:Kcw:=⟨⟩;exact Qw):p:=h
class Kcy:Prop
theorem Kcy.k (_:Kcy) (h:p:=by
 first|exact ⟨j+1,by exact J0,by omega,by omega⟩|skip):p:=h
class Kcz:Prop
theorem Kcz.k (_:Kcz) (h:p:=by
 first|exact ⟨k+1,by exact J0,by omega,Eq.mpr hQ hs,by omega⟩|skip):p:=h
class Kcx:Prop
theorem Kcx.k (_:Kcx) (h:p:=by
 first|assumption|skip
 refine Z1 [4,85,86,87,88,89,90,91,92,93,94,95,96,97,98,99,100,101,102,103,104,105] (fun j:Nat=>[(10,.d (.int .i64 j))]) (fun j:Nat=>[]) (fun j:Nat=>j≤k∧∀ m,m<j→(!true&&((Q8 t l m).label==x.label))=false) (fun j:Nat=>k-j) 0 ?_ ?_ ?_
 ·simp
 ·exact J0
 rintro j ⟨hj,oL⟩;rcases Z5 j k with ⟨Cw,Qh⟩|⟨Cw,Qh⟩
 ·have kM:(!true&&((Q8 t l j).label==x.label))=false→∀ m,m<j+1→(!true&&((Q8 t l m).label==x.label))=false:=fun h=>Nh oL h;have Li:(!true&&((Q8 t l j).label==x.label))=true→R=false:=fun h=>Xm (by rw [List.any_eq_true];exact ⟨j,List.mem_range.2 Cw,h⟩)
  have Tj:j<l.length:=by omega
  have Yd:=Em (l.getD j 0) (by simp [Tj])
  have El:(l.getD j 0).toNat<t.length:=by omega
  have Qa:=Z9 (0:Int) Tj;have Z2:=Z9 e0 El
  change el _ _=enc (Q8 t l j) at Z2
  obtain ⟨u,hu⟩:=exq (l.getD j 0);rw [hu] at Qa Z2 Yd El;obtain ⟨u,rfl⟩:∃ n:Nat,u=n:=⟨u.toNat,by omega⟩
  rw [Zn] at Z2 El;obtain ⟨y,hy⟩:=exq (Q8 t l j);rw [hy] at Z2 kM Li;obtain ⟨ee,Z7⟩:=exq ((y.label==x.label));rw [Z7] at kM Li;have Kq:Kcy:=⟨⟩;exact Qw
 ·have hs:=X5 (Nc fun m hm=>oL m (by have:=List.mem_range.1 hm;omega))
  have Kq:Kcz:=⟨⟩;exact Qw):p:=h
class KcB:Prop
theorem KcB.k (_:KcB) (h:p:=by
 first|exact ⟨j+1,by exact J0,by omega,by omega⟩|skip):p:=h
class KcC:Prop
theorem KcC.k (_:KcC) (h:p:=by
 first|exact ⟨k+1,by exact J0,by omega,Eq.mpr hQ hs,by omega⟩|skip):p:=h
class KcA:Prop
theorem KcA.k (_:KcA) (h:p:=by
 first|assumption|skip
 refine Z1 [4,85,86,87,88,89,90,91,92,93,94,95,96,97,98,99,100,101,102,103,104,105] (fun j:Nat=>[(10,.d (.int .i64 j))]) (fun j:Nat=>[]) (fun j:Nat=>j≤k∧∀ m,m<j→(!true&&((Q8 t l m).label==x.label))=false) (fun j:Nat=>k-j) 0 ?_ ?_ ?_
 ·simp
 ·exact J0
 rintro j ⟨hj,oL⟩;rcases Z5 j k with ⟨Cw,Qh⟩|⟨Cw,Qh⟩
 ·have kM:(!true&&((Q8 t l j).label==x.label))=false→∀ m,m<j+1→(!true&&((Q8 t l m).label==x.label))=false:=fun h=>Nh oL h;have Li:(!true&&((Q8 t l j).label==x.label))=true→R=false:=fun h=>Xm (by rw [List.any_eq_true];exact ⟨j,List.mem_range.2 Cw,h⟩)
  have Tj:j<l.length:=by omega
  have Yd:=Em (l.getD j 0) (by simp [Tj])
  have El:(l.getD j 0).toNat<t.length:=by omega
  have Qa:=Z9 (0:Int) Tj;have Z2:=Z9 e0 El
  change el _ _=enc (Q8 t l j) at Z2
  obtain ⟨u,hu⟩:=exq (l.getD j 0);rw [hu] at Qa Z2 Yd El;obtain ⟨u,rfl⟩:∃ n:Nat,u=n:=⟨u.toNat,by omega⟩
  rw [Zn] at Z2 El;obtain ⟨y,hy⟩:=exq (Q8 t l j);rw [hy] at Z2 kM Li;obtain ⟨ee,Z7⟩:=exq ((y.label==x.label));rw [Z7] at kM Li;have Kq:KcB:=⟨⟩;exact Qw
 ·have hs:=X5 (Nc fun m hm=>oL m (by have:=List.mem_range.1 hm;omega))
  have Kq:KcC:=⟨⟩;exact Qw):p:=h
class Kcj:Prop
theorem Kcj.k (_:Kcj) (h:p:=by
 repeat' first|exact Lz|with_reducible apply Z3|intro _
 all_goals try assumption
 refine Z1 [4,7,8,9,10,22,23,24,25,26,27,28,29,30,31,32,33,34,35,36,37,38,39,40,41,42,43,44,45,46,47,48,49,50,51,52,53,54,55,56,57,58,59,60,61,62,63,64,65,66,67,68,69,70,71,72,73,74,75,76,77,78,79,80,81,82,83,84,85,86,87,88,89,90,91,92,93,94,95,96,97,98,99,100,101,102,103,104,105] (fun k:Nat=>[(6,.d (.int .i64 k))]) (fun k:Nat=>[]) (fun k:Nat=>k≤l.length∧∀ j,j<k→Bl t p l j=true) (fun k:Nat=>l.length-k) 0 ?_ ?_ ?_
 ·simp
 ·exact J0
 rintro k ⟨hk,Yx⟩;rcases Z5 k l.length with ⟨Qd,Q6⟩|⟨Qd,Q6⟩
 ·have uQ:=Em (l.getD k 0) (by simp [Qd])
  have lJ:(l.getD k 0).toNat<t.length:=by omega
  have Zt0:(Q8 t l k).label.length≤9223372036854775807:=hN (Q8 t l k) (by
   show t.getD _ e0∈t;rw [Zg,Zd lJ];exact List.getElem_mem lJ)
  have X5:Bl t p l k=true→∀ j,j<k+1→Bl t p l j=true:=fun h=>Nh Yx h;have Xm:Bl t p l k=false→R=false:=by
   intro h;rw [←Ql,Bool.eq_false_iff];intro hc;rw [List.all_eq_true] at hc;have:=hc k (List.mem_range.2 Qd);rw [h] at this;cases this
  obtain ⟨Q,hQ⟩:=exq ((∀ j,j<k+1→Bl t p l j=true));rw [hQ] at X5;unfold Bl at X5 Xm;have Q5:=Z9 (0:Int) Qd;have Ja:=Z9 e0 lJ
  change el _ _=enc (Q8 t l k) at Ja
  obtain ⟨v,hv⟩:=exq (l.getD k 0);rw [hv] at Q5 Ja uQ lJ;obtain ⟨v,rfl⟩:∃ n:Nat,v=n:=⟨v.toNat,by omega⟩
  rw [Zn] at Ja lJ;obtain ⟨x,hx⟩:=exq (Q8 t l k);rw [hx] at Zt0 X5 Xm Ja;unfold gW at X5 Xm;obtain ⟨kb,Jq⟩:=exq (Jw 0 (k:Int));rw [Jq] at X5 Xm;obtain ⟨a7,Q9⟩:=exq ((p.kind==7));obtain ⟨a10,Je⟩:=exq ((p.kind==10));obtain ⟨a8,Qe⟩:=exq ((x.kind==8));obtain ⟨tg,Qc⟩:=exq (K1 x.label);obtain ⟨w,Qg⟩:=exq (J4 x.label);obtain ⟨le,Qi⟩:=exq ((x.label==[]));rw [Q9,Je,Qe,Qc,Qg,Qi] at X5 Xm;have hE:a7=true→a10=false:=fun e=>by rw [←Q9,Zi] at e;rw [←Je,e];rfl
  cases hA:((a8==(a7&&kb))&&!(((a7&&kb)&&!tg)||((a10&&!w)||((!(a7&&kb)&&!a10)&&!le)))) with
  | false =>
   have hr:=Xm (by rw [hA,Bool.false_and])
   subst hr;clear Xm X5;have Kq:Kck:=⟨⟩;exact Qw
  | true =>
   rw [hA,Bool.true_and,Bool.not_eq_true'] at X5;rw [hA,Bool.true_and,Bool.not_eq_false'] at Xm;unfold rZ at X5 Xm;rw [Qi] at X5 Xm;have Zsp:(a7=true∧kb=true∧a10=false∧a8=true∧tg=true)∨(a7=false∧a10=true∧a8=false∧w=true)∨(a7=false∧a10=false∧a8=false∧le=true)∨(a7=true∧kb=false∧a10=false∧a8=false∧le=true):=by
    clear Xm X5 Yx Q0 Ql Em hT hN Qz Q5 Ja Q9 Je Qe Qc Qg Qi Jq;revert hA hE;cases a7<;>cases kb<;>cases a10<;>cases a8<;>cases tg<;>cases w<;>cases le<;>simp
   clear hA hE;rcases Zsp with ⟨rfl,rfl,rfl,rfl,rfl⟩|⟨rfl,rfl,rfl,rfl⟩|⟨rfl,rfl,rfl,rfl⟩|⟨rfl,rfl,rfl,rfl,rfl⟩
   ·cases le with
    | true =>
     have Kq:Kcl:=⟨⟩;exact Qw
    | false =>
     have Kq:Kco:=⟨⟩;exact Qw
   ·cases le with
    | true =>
     have Kq:Kcr:=⟨⟩;exact Qw
    | false =>
     have Kq:Kcu:=⟨⟩;exact Qw
   ·have Kq:Kcx:=⟨⟩;exact Qw
   ·have Kq:KcA:=⟨⟩;exact Qw
 ·have hr:R=true:=by
   rw [←Ql,List.all_eq_true];intro j hj;exact Yx j (by have:=List.mem_range.1 hj;omega)
  subst hr;exact fK):p:=h
theorem good_labelled5:Jc Tryz.prog (34,Gq):=by
 obtain ⟨Kx,Kt,Kc,Kd,Kb,Ku,Kw,K,Y6,P7,aV,dF,_⟩:=W5 Qj Z0 [] false (Xa good_Kids5 Ck.eq_def (Xa good_Many5 Ge.eq_def (Xa good_IsWord1 Vl.eq_def (Xa good_IsTag1 Gi.eq_def W4))));have Ko:=Gq.eq_def;refine Yv K Tryz.func34 [.tmp 4] rfl 106 rfl (fun c hc Jj Zo=>?_);unfold Gq at Zo;obtain ⟨⟨t⟩,i,rfl,hT,hN,Zv1,Za7⟩:=Jd Zo;simp only at hT hN Zv1 Za7;clear Zo;obtain ⟨i,rfl⟩:∃ n:Nat,i=n:=⟨i.toNat,by omega⟩
 have L4:i<t.length:=by omega
 have Js:=hT.1;obtain ⟨R,Q0⟩:=exq (Fa t i);have Ql:=Q0;unfold Fa at Ql;obtain ⟨l,Qu⟩:=exq (Ve t i);have Em:∀ x∈l,(i:Int)<x∧x<t.length:=by rw [←Qu];exact zI
 have Qz:=Z9 e0 L4;have Ztx:=hT.2 (t.getD i e0) (by simp [L4])
 have oM:l.length≤100000:=by
  rw [←Qu];unfold Ve;split
  ·simp
  ·have h1:=Dc t (Jk (t.getD (Int.toNat i) e0)).toNat ((Int.toNat i)+1);have h2:=Ztx.2.1;simp only [Zn] at h1 ⊢;omega
 rw [Qu] at Ql;obtain ⟨p,hp⟩:=exq (t.getD i e0);rw [hp] at Ql Qz Ztx;have Zvc:=Ztx.2.2;cases aW:((l.length:Int)==Jk p) with
 | false =>
  rw [aW,Bool.false_and] at Ql;subst Ql;have Qs:((l.length:Int) != Jk p)=true:=by rw [bne,aW];rfl
  cases hc;refine Kn 6 ?_;exact Uy
 | true =>
 rw [aW,Bool.true_and] at Ql;have Qs:((l.length:Int) != Jk p)=false:=by rw [bne,aW];rfl
 cases hc;refine Kn 6 ?_;have Kq:Kcj:=⟨⟩;exact uC
theorem pV {p:Part} {w tg b t u li na op:Bool} (h:Jr p w tg b t u li na op=true):p.many≤50∧(p.kind=7→1≤p.many)∧(p.kind=10→0≤p.many):=by
 unfold Jr at h;by_cases h0:p.kind≠0∧p.kind≠14∧p.num≠0
 ·rw [if_pos h0] at h;cases h
 rw [if_neg h0] at h;by_cases h1:p.kind=0
 ·rw [if_pos h1] at h;simp only [Ze,Zi] at h;omega
 rw [if_neg h1] at h;by_cases h2:p.kind=1
 ·rw [if_pos h2] at h;simp only [Ze,Zi] at h;omega
 rw [if_neg h2] at h;by_cases h3:p.kind=2∨p.kind=4
 ·rw [if_pos h3] at h;simp only [Ze,Zi] at h;omega
 rw [if_neg h3] at h;by_cases h4:p.kind=3∨p.kind=6
 ·rw [if_pos h4] at h;simp only [Ze,Zi] at h;omega
 rw [if_neg h4] at h;by_cases h5:p.kind=5
 ·rw [if_pos h5] at h;simp only [Ze,Zi] at h;omega
 rw [if_neg h5] at h;by_cases h6:p.kind=7
 ·rw [if_pos h6] at h;simp only [Ze,Zi,Pt] at h;omega
 rw [if_neg h6] at h;by_cases h7:p.kind=8
 ·rw [if_pos h7] at h;simp only [Ze,Zi] at h;omega
 rw [if_neg h7] at h;by_cases h8:p.kind=9
 ·rw [if_pos h8] at h;simp only [Ze,Zi] at h;omega
 rw [if_neg h8] at h;by_cases h9:p.kind=10
 ·rw [if_pos h9] at h;simp only [Ze,Zi,Pt] at h;omega
 rw [if_neg h9] at h;by_cases ha:p.kind=11
 ·rw [if_pos ha] at h;simp only [Ze,Zi] at h;omega
 rw [if_neg ha] at h;by_cases hb:p.kind=12
 ·rw [if_pos hb] at h;simp only [Ze,Zi] at h;omega
 rw [if_neg hb] at h;by_cases hc:p.kind=13
 ·rw [if_pos hc] at h;simp only [Ze,Zi] at h;omega
 rw [if_neg hc] at h;by_cases hd:p.kind=14
 ·rw [if_pos hd] at h;simp only [Ze,Zi] at h;omega
 rw [if_neg hd] at h;cases h
theorem uJ {n:Part} (h:V5 n=true):n.many≤50∧(n.kind=7→1≤n.many)∧(n.kind=10→0≤n.many):=by
 unfold V5 at h;exact pV h
theorem R5 {n:Part} (h:V5 n=true):0≤Jk n∧Jk n≤60∧n.many≤1000000:=by
 obtain ⟨h1,h2,h3⟩:=uJ h;have hm:E3 n.many 0=if n.many<0 then 0 else n.many:=rfl
 unfold Jk;rw [hm];refine ⟨?_,?_,by omega⟩
 ·repeat' (split;first|omega|skip)
  all_goals omega
 ·repeat' (split;first|omega|skip)
  all_goals omega
def Ji (t:List Part):Bool:=t.length==0||Jw 10000 t.length||!((t.getD 0 e0).label==[])||(t.getD 0 e0).kind==8
def Jg (t:List Part):Bool:=!Ji t&&(t.all V5&&((M9 t 0==(t.length:Int)&&Nm t)&&(List.range t.length).all fun i=>Fa t i))
def Zcq (p:Part):Prop:=oF p∧p.name.length≤9223372036854775806
def Vj:Con:=Xd (fun (t:Sl Part)=>t.l.length≤9223372036854775807∧∀ p∈t.l,Zcq p) (fun t=>Jg t.l)
theorem Zc6:type_of% @Vj.eq_def:=@Vj.eq_def
class KcD:Prop
theorem KcD.k (_:KcD) (h:p:=by
 unfold Jg Ji;simp [h0]):p:=h
class KcF:Prop
theorem KcF.k (_:KcF) (h:p:=by
 repeat' first|exact Lz|with_reducible apply Z3|intro _
 ·rename_i hb;rw [hr,Rn (p:=V5) e0 k Qd hb];rfl
 ·rename_i hb;refine ⟨k+1,by exact J0,by omega,fun j hj=>?_,by omega⟩
  by_cases Ay:j=k
  ·subst Ay;exact hb
  ·exact Yx j (by omega)):p:=h
class KcH:Prop
theorem KcH.k (_:KcH) (h:p:=by
 repeat' first|exact Lz|with_reducible apply Z3|intro _
 ·rename_i hb;rw [Le,M5 k Oz hb]
 ·rename_i hb;refine ⟨k+1,by exact J0,by omega,fun j hj=>?_,by omega⟩
  by_cases Ay:j=k
  ·subst Ay;exact hb
  ·exact Za3 j (by omega)):p:=h
class KcI:Prop
theorem KcI.k (_:KcI) (h:p:=by
 rw [Le,U3 fun j hj=>Za3 j (by omega)]):p:=h
class KcG:Prop
theorem KcG.k (_:KcG) (h:p:=by
 repeat' first|exact Lz|with_reducible apply Z3|intro _
 ·rename_i he hs;rw [hr,hs];simp
 ·rename_i he hs;have Le:Jg t=(List.range t.length).all fun i=>Fa t i:=by
   rw [hr,hs,show (M9 t 0==(t.length:Int))=true by simpa using he]
   rfl
  refine Z1 [2,49,50,51,52,53,54,55,56,57,58] (fun k:Nat=>[(4,.d (.int .i64 k))]) (fun k:Nat=>[]) (fun k:Nat=>k≤t.length∧∀ j,j<k→Fa t j=true) (fun k:Nat=>t.length-k) 0 ?_ ?_ ?_
  ·simp
  ·exact J0
  rintro k ⟨eT,Za3⟩;rcases Z5 k t.length with ⟨Oz,Q6⟩|⟨Oz,Q6⟩
  ·have Kq:KcH:=⟨⟩;exact uC
  ·have Kq:KcI:=⟨⟩;exact uC
 ·rename_i he;rw [hr,show (M9 t 0==(t.length:Int))=false by simpa using he]
  rfl):p:=h
class KcE:Prop
theorem KcE.k (_:KcE) (h:p:=by
 repeat' first|exact Lz|with_reducible apply Z3|intro _
 ·rename_i h1 h2 h9;exact Zpe (by unfold Ji;rw [show ((t.getD 0 e0).kind==8)=true by rw [Zi];exact h9];simp only [Bool.or_true])
 ·rename_i h1 h3 h9;have Pj:t.length≤10000:=by omega
  have Ls:Ji t=false:=by
   unfold Ji;simp only [Bool.or_eq_false_iff,Jl,Za];refine ⟨⟨⟨by omega,by omega⟩,?_⟩,h9⟩
   simpa using h3
  have hr:Jg t=(t.all V5&&((M9 t 0==(t.length:Int)&&Nm t)&&(List.range t.length).all fun i=>Fa t i)):=by
   unfold Jg;rw [Ls];rfl
  refine Z1 [2,27,28,29,30,31,32,33,34,35,36,37,38] (fun k:Nat=>[(3,.d (.int .i64 k))]) (fun k:Nat=>[]) (fun k:Nat=>k≤t.length∧∀ j,j<k→V5 (t.getD j e0)=true) (fun k:Nat=>t.length-k) 0 ?_ ?_ ?_
  ·simp
  ·exact J0
  rintro k ⟨hk,Yx⟩;rcases Z5 k t.length with ⟨Qd,Qs⟩|⟨Qd,Qs⟩
  ·obtain ⟨Zt2,Zv6⟩:=hN (t.getD k e0) (by simp [Qd])
   have Q0:=Z9 e0 Qd;have Kq:KcF:=⟨⟩;exact uC
  ·have Up:t.all V5=true:=P4 (p:=V5) e0 fun j hj=>Yx j (by omega)
   have hT:P5 t:=⟨by omega,fun n hn=>R5 (List.all_eq_true.1 Up n hn)⟩
   have hL:Zsh t:=fun n hn=>(hN n hn).1.2.2.1;rw [Up,Bool.true_and] at hr;have Kq:KcG:=⟨⟩;exact uC
 ·rename_i h1 h3;exact Zpe (by unfold Ji;rw [show ((t.getD 0 e0).label==[])=false by rw [Za];exact h3];simp only [Bool.not_false,Bool.or_true,Bool.true_or])
 ·rename_i h1;exact Zpe (by unfold Ji;rw [show Jw 10000 (t.length:Int)=true by rw [Xs];exact h1];simp only [Bool.or_true,Bool.true_or])):p:=h
theorem good_Right5:Jc Tryz.prog (13,Vj):=by
 obtain ⟨Kx,Kt,Kc,Kd,Kb,Ku,Kw,K,Y6,P7,aV,dF,_⟩:=W5 Qj Z0 [] false (Xa good_End5 Tc.eq_def (Xa good_uses5 T8.eq_def (Xa good_shallow5 Hu.eq_def (Xa good_labelled5 Gq.eq_def W4))));have Ko:=Zc6;refine Yv K Tryz.func13 [.tmp 2] rfl 59 rfl (fun c hc Jj Zo=>?_);unfold Vj at Zo;obtain ⟨⟨t⟩,rfl,ht,hN⟩:=Qp Zo;simp only at ht hN;cases hc;refine Kn 3 ?_;by_cases h0:t.length=0
 ·have Qu:((t.length:Int)==0)=true:=by simp [h0]
  have Kq:KcD:=⟨⟩;exact uC
 have Qu:((t.length:Int)==0)=false:=by rw [Za];omega
 have Zo2:0<t.length:=by omega
 have Zpe:Ji t=true→false=Jg t:=by
  intro h;unfold Jg;rw [h];rfl
 have Qz:=Z9 e0 Zo2;have Kq:KcE:=⟨⟩;exact uC
def Vb (n:Part):Part:=⟨n.kind,n.label,n.name,n.bind,n.many,n.num,n.t.map Uj,n.u.map Uj⟩
def sT (x y:Part):Bool:=(x.kind==y.kind)&&((x.label==y.label)&&((x.name==y.name)&&((x.bind==y.bind)&&((x.many==y.many)&&(x.num==y.num)))))
def V0 (x y:Part):Bool:=sT x y&&(Hn x.t y.t&&Hn x.u y.u)
theorem Be {x y:Part}:V0 x y=true↔Vb x=Vb y:=by
 cases x;cases y;unfold V0 sT Vb Hn;simp [and_assoc]
def Np (a b:List Part):Bool:=a.map Vb==b.map Vb
def eN (n:Part):Prop:=n.t.length≤9223372036854775807∧n.u.length≤9223372036854775807
def xP (a:List Part):Prop:=a.length≤9223372036854775807∧∀ n∈a,eN n
def Ci:Con:=Vy (fun (a b:Sl Part)=>xP a.l∧xP b.l) (fun a b=>Np a.l b.l)
class KcK:Prop
theorem KcK.k (_:KcK) (h:p:=by
 first|assumption|(symm;apply Xm;clear Xm X5 Yx Qz Ql hQ Q0 Q6 K hA hB;simp_all;done)|(refine ⟨k+1,by exact J0,by omega,Eq.mpr hQ (X5 ?_),by omega⟩;clear Xm X5 Yx Qz Ql hQ Q0 Q6 K hA hB;simp_all;done)|skip):p:=h
class KcJ:Prop
theorem KcJ.k (_:KcJ) (h:p:=by
 refine Z1 [4,6,7,13,14,15,16,17,18,19,20,21,22,23,24,25,26,27,28,29,30,31,32,33,34,35,36,37,38,39,40,41,42,43,44,45,46,47,48,49,50,51,52,53,54,55,56,57,58,59,60,61,62,63,64,65,66,67,68,69,70,71,72,73,74,75,76,77,78,79,80] (fun k:Nat=>[(5,.d (.int .i64 k))]) (fun k:Nat=>[]) (fun k:Nat=>k≤a.length∧∀ j,j<k→Vb (a.getD j e0)=Vb (b.getD j e0)) (fun k:Nat=>a.length-k) 0 ?_ ?_ ?_
 ·simp
 ·exact J0
 rintro k ⟨hk,Yx⟩;rcases Z5 k a.length with ⟨Qd,Qs⟩|⟨Qd,Qs⟩
 ·have Oz:k<b.length:=by omega
  have Q0:=Z9 e0 Qd;have Q6:=Z9 e0 Oz;obtain ⟨s1,s2⟩:=hA (a.getD k e0) (by simp [Qd])
  obtain ⟨s3,s4⟩:=hB (b.getD k e0) (by simp [Oz])
  have Xm:V0 (a.getD k e0) (b.getD k e0)=false→R=false:=by
   intro h;rw [←Ql,Za];intro e;have h1:(a.map Vb).getD k e0=(b.map Vb).getD k e0:=by rw [e]
   have h2:Vb (a.getD k e0)=Vb (b.getD k e0):=by simpa [Qd,Oz] using h1
   rw [Be.2 h2] at h;cases h
  have X5:V0 (a.getD k e0) (b.getD k e0)=true→∀ j,j<k+1→Vb (a.getD j e0)=Vb (b.getD j e0):=fun h=>Nh Yx (Be.1 h);obtain ⟨Q,hQ⟩:=exq ((∀ j,j<k+1→Vb (a.getD j e0)=Vb (b.getD j e0)));rw [hQ] at X5;obtain ⟨x,hx⟩:=exq (a.getD k e0);obtain ⟨y,hy⟩:=exq (b.getD k e0);rw [hx] at Q0 s1 s2 Xm X5;rw [hy] at Q6 s3 s4 Xm X5;unfold V0 sT at Xm X5;obtain ⟨b1,h1⟩:=exq ((x.kind==y.kind));obtain ⟨b5,h5⟩:=exq ((x.many==y.many));obtain ⟨b6,h6⟩:=exq ((x.num==y.num));obtain ⟨b7,Q9⟩:=exq (Hn x.t y.t);obtain ⟨b8,Je⟩:=exq (Hn x.u y.u);have Q5:(x.kind != y.kind)=!b1:=by rw [bne,h1]
  have Ja:(x.many != y.many)=!b5:=by rw [bne,h5]
  have Jq:(x.num != y.num)=!b6:=by rw [bne,h6]
  rw [h1,h5,h6,Q9,Je] at Xm X5;have Kq:KcK:=⟨⟩;exact Qw
 ·have hr:R=true:=by
   rw [←Ql,Zi];refine List.ext_getElem (by simp [Gk]) fun j h1 h2=>?_
   rw [Qq] at h1 h2;have:=Yx j (by omega)
   simpa [h1,h2] using this
  subst hr;exact fK):p:=h
theorem good_Same5:Jc Tryz.prog (15,Ci):=by
 obtain ⟨Kx,Kt,Kc,Kd,Kb,Ku,Kw,K,Y6,_⟩:=W5 Qj Z0 [] false (Xa good_Same3 Cj.eq_def W4);have Ko:=Ci.eq_def;refine Yv K Tryz.func15 [.tmp 4] rfl 81 rfl (fun c hc Jj Zo=>?_);unfold Ci at Zo;obtain ⟨⟨a⟩,⟨b⟩,rfl,Zzx,Zzw⟩:=Jd Zo;obtain ⟨ha,hA⟩:xP a:=Zzx;obtain ⟨hb,hB⟩:xP b:=Zzw;clear Zo;obtain ⟨R,Qz⟩:=exq (Np a b);have Ql:=Qz;unfold Np at Ql;by_cases Gk:a.length=b.length
 case neg =>
  have hr:R=false:=by
   rw [←Ql,Za];intro h;have:=congrArg List.length h;rw [Qq,Qq] at this;exact Gk this
  have Qu:((a.length:Int) != (b.length:Int))=true:=by rw [bne_iff_ne];omega
  subst hr;cases hc;refine Kn 5 ?_;exact fK
 have Qu:((a.length:Int) != (b.length:Int))=false:=by rw [bne_eq_false_iff_eq];omega
 cases hc;refine Kn 5 ?_;have Kq:KcJ:=⟨⟩;exact Qw
def zX (n:Part):Bool:=Jw 100 n.label.length||(Jw 200 n.name.length||(Jw 100 n.bind.length||(Jw 60 n.t.length||Jw 60 n.u.length)))
def M2 (t:List Node):Bool:=t.all fun n=>!Jw 100 n.name.length
def cE (n:Part):Bool:=!zX n&&(M2 n.t&&M2 n.u)
def cF (t:List Part) (most:Int):Bool:=(List.range t.length).all fun k=>!((k:Int)==most)&&cE (t.getD k e0)
def G9:Con:=Vy (fun (t:Sl Part) (_:Int)=>t.l.length≤9223372036854775807∧∀ p∈t.l,oF p) (fun t m=>cF t.l m)
theorem Zz5:type_of% @G9.eq_def:=@G9.eq_def
theorem fV {t:List Node} {k:Nat} (h:k<t.length) (hb:Jw 100 (t.getD k n0).name.length=true):M2 t=false:=by
 unfold M2;exact Rn (p:=fun n:Node=>!Jw 100 n.name.length) n0 k h (by rw [hb];rfl)
theorem aM {t:List Node} (h:∀ j,j<t.length→Jw 100 (t.getD j n0).name.length=false):M2 t=true:=by
 unfold M2;exact P4 (p:=fun n:Node=>!Jw 100 n.name.length) n0 fun j hj=>by rw [h j hj];rfl
class KcM:Prop
theorem KcM.k (_:KcM) (h:p:=by
 first|assumption|trivial|rfl|(exfalso;clear Yx Q9 Ql hQ Qz K hT;simp_all;done)|skip):p:=h
class KcO:Prop
theorem KcO.k (_:KcO) (h:p:=by
 first|exact ⟨i+1,by exact J0,by omega,fun j hj=>by have Q5:=Q6 j hj;rw [Jl] at Q5;exact Q5,by omega⟩|skip):p:=h
class KcQ:Prop
theorem KcQ.k (_:KcQ) (h:p:=by
 first|exact ⟨i2+1,by exact J0,by omega,fun j hj=>by have Q5:=Q6 j hj;rw [Jl] at Q5;exact Q5,by omega⟩|skip):p:=h
class KcR:Prop
theorem KcR.k (_:KcR) (h:p:=by
 first|exact ⟨k+1,by exact J0,by omega,Eq.mpr hQ hq,by omega⟩|skip):p:=h
class KcP:Prop
theorem KcP.k (_:KcP) (h:p:=by
 refine Z1 [4,83,84,85,86,87,88,89,90,91,92,93,94,95,96,97,98,99,100,101,102,103] (fun i:Nat=>[(7,.d (.int .i64 i))]) (fun i:Nat=>[]) (fun i:Nat=>i≤x.u.length∧∀ j,j<i→Jw 100 (x.u.getD j n0).name.length=false) (fun i:Nat=>x.u.length-i) 0 ?_ ?_ ?_
 ·simp
 ·exact J0
 rintro i2 ⟨Zo9,Zsu⟩;rcases Z5 i2 x.u.length with ⟨Ru,Qg⟩|⟨Ru,Qg⟩
 ·have Qe:=Z9 n0 Ru;have Zc3:Jw 100 (x.u.getD i2 n0).name.length=true→R=false:=fun h=>Xm (by rw [fV Ru h];rfl)
  have Zov:Jw 100 (x.u.getD i2 n0).name.length=false→∀ j,j<i2+1→Jw 100 (x.u.getD j n0).name.length=false:=fun h=>Nh Zsu h;have lZ:=f4 _ (show x.u.getD i2 n0∈x.u by simp [Ru])
  obtain ⟨y,hy⟩:=exq (x.u.getD i2 n0);rw [hy] at Qe Zc3 Zov lZ;obtain ⟨b,Qc⟩:=exq (Jw 100 y.name.length);rw [Qc] at Zc3 Zov;cases b with
  | true =>
   have hr:=Zc3 rfl;subst hr;exact Uy
  | false =>
   have Q6:=Zov rfl;have Kq:KcQ:=⟨⟩;exact Qw
 ·have N8:M2 x.u=true:=aM fun j hj=>Zsu j (by omega)
  have hq:=X5 (by rw [N8];rfl)
  have Kq:KcR:=⟨⟩;exact Qw):p:=h
class KcN:Prop
theorem KcN.k (_:KcN) (h:p:=by
 refine Z1 [4,62,63,64,65,66,67,68,69,70,71,72,73,74,75,76,77,78,79,80,81,82] (fun i:Nat=>[(6,.d (.int .i64 i))]) (fun i:Nat=>[]) (fun i:Nat=>i≤x.t.length∧∀ j,j<i→Jw 100 (x.t.getD j n0).name.length=false) (fun i:Nat=>x.t.length-i) 0 ?_ ?_ ?_
 ·simp
 ·exact J0
 rintro i ⟨hi,Zty⟩;rcases Z5 i x.t.length with ⟨O0,Je⟩|⟨O0,Je⟩
 ·have Qe:=Z9 n0 O0;have Zc3:Jw 100 (x.t.getD i n0).name.length=true→R=false:=fun h=>Xm (by rw [fV O0 h];rfl)
  have Zov:Jw 100 (x.t.getD i n0).name.length=false→∀ j,j<i+1→Jw 100 (x.t.getD j n0).name.length=false:=fun h=>Nh Zty h;have lZ:=f2 _ (show x.t.getD i n0∈x.t by simp [O0])
  obtain ⟨y,hy⟩:=exq (x.t.getD i n0);rw [hy] at Qe Zc3 Zov lZ;obtain ⟨b,Qc⟩:=exq (Jw 100 y.name.length);rw [Qc] at Zc3 Zov;cases b with
  | true =>
   have hr:=Zc3 rfl;subst hr;exact Uy
  | false =>
   have Q6:=Zov rfl;have Kq:KcO:=⟨⟩;exact Qw
 ·have Uf:M2 x.t=true:=aM fun j hj=>Zty j (by omega)
  rw [Uf] at Xm X5;have Kq:KcP:=⟨⟩;exact Qw):p:=h
class KcL:Prop
theorem KcL.k (_:KcL) (h:p:=by
 refine Z1 [4,6,7,8,9,10,11,12,13,14,15,16,17,18,19,20,21,22,23,24,25,26,27,28,29,30,31,32,33,34,35,36,37,38,39,40,41,42,43,44,45,46,47,48,49,50,51,52,53,54,55,56,57,58,59,60,61,62,63,64,65,66,67,68,69,70,71,72,73,74,75,76,77,78,79,80,81,82,83,84,85,86,87,88,89,90,91,92,93,94,95,96,97,98,99,100,101,102,103] (fun k:Nat=>[(5,.d (.int .i64 k))]) (fun k:Nat=>[]) (fun k:Nat=>k≤t.length∧∀ j,j<k→(!((j:Int)==m)&&cE (t.getD j e0))=true) (fun k:Nat=>t.length-k) 0 ?_ ?_ ?_
 ·simp
 ·exact J0
 rintro k ⟨hk,Yx⟩;rcases Z5 k t.length with ⟨Qd,Qu⟩|⟨Qd,Qu⟩
 ·have Qz:=Z9 e0 Qd;obtain ⟨⟨f1,f2⟩,⟨f3,f4⟩,f5,f6,f7⟩:=hT (t.getD k e0) (by simp [Qd])
  have Xm:(!((k:Int)==m)&&cE (t.getD k e0))=false→R=false:=fun h=>by
   rw [←Ql];exact M5 k Qd h
  have X5:(!((k:Int)==m)&&cE (t.getD k e0))=true→∀ j,j<k+1→(!((j:Int)==m)&&cE (t.getD j e0))=true:=fun h=>Nh Yx h;obtain ⟨Q,hQ⟩:=exq ((∀ j,j<k+1→(!((j:Int)==m)&&cE (t.getD j e0))=true));rw [hQ] at X5;obtain ⟨x,hx⟩:=exq (t.getD k e0);rw [hx] at Qz f1 f2 f3 f4 f5 f6 f7 Xm X5;unfold cE zX at Xm X5;obtain ⟨b0,Qs⟩:∃ b,((k:Int)==m)=b:=⟨_,rfl⟩;obtain ⟨b1,Q0⟩:=exq (Jw 100 x.label.length);obtain ⟨b2,Q6⟩:=exq (Jw 200 x.name.length);obtain ⟨b3,Q5⟩:=exq (Jw 100 x.bind.length);obtain ⟨b4,Ja⟩:=exq (Jw 60 x.t.length);obtain ⟨b5,Jq⟩:=exq (Jw 60 x.u.length);rw [Qs,Q0,Q6,Q5,Ja,Jq] at Xm X5;cases hl:b0||(b1||(b2||(b3||(b4||b5)))) with
  | true =>
   have hr:=Xm (by clear Xm X5 Yx Q9 Ql hQ Qz;revert hl;cases b0<;>cases b1<;>cases b2<;>cases b3<;>cases b4<;>cases b5<;>simp)
   subst hr;clear Xm X5;have Kq:KcM:=⟨⟩;exact Qw
  | false =>
   simp only [Bool.or_eq_false_iff] at hl;obtain ⟨rfl,rfl,rfl,rfl,rfl,rfl⟩:=hl;have Kq:KcN:=⟨⟩;exact Qw
 ·have hr:R=true:=by
   rw [←Ql];exact U3 fun j hj=>Yx j (by omega)
  subst hr;exact fK):p:=h
theorem good_Few5:Jc Tryz.prog (10,G9):=by
 obtain ⟨Kx,Kt,Kc,Kd,Kb,Ku,Kw,K,_⟩:=W5 Qj Z0 [] false W4;have Ko:=Zz5;refine Yv K Tryz.func10 [.tmp 4] rfl 104 rfl (fun c hc Jj Zo=>?_);unfold G9 at Zo;obtain ⟨⟨t⟩,m,rfl,ht,hT⟩:=Jd Zo;simp only at ht hT;clear Zo;obtain ⟨R,Q9⟩:=exq (cF t m);have Ql:=Q9;unfold cF at Ql;cases hc;refine Kn 6 ?_;have Kq:KcL:=⟨⟩;exact Qw
def Wr (p:Part):Nat:=(Jk p).toNat
theorem vA (p:Part):0≤Jk p:=by
 unfold Jk E3;repeat' split
 all_goals omega
theorem Gz (p:Part):Jk p=(Wr p:Int):=by
 have:=vA p;unfold Wr;omega
theorem iX:∀ {l:List Part} {o k:Nat},1≤o→Ka Wr l o=some k→Lu l o=k
 | [],o+1,k,_,h=>by simp [Ka] at h
 | n::l,o+1,k,_,h=>by
  rw [Ka,Option.map_eq_some_iff] at h;obtain ⟨k',h1,rfl⟩:=h;have hm:=Gz n;have e:((o+1:Nat):Int)-1+Jk n=((o+Wr n:Nat):Int):=by rw [hm];omega
  rw [Lu,e];by_cases hz:o+Wr n=0
  ·rw [if_pos (by omega)]
   rw [hz] at h1;cases l<;>(simp only [Ka,Zb] at h1;omega)
  ·rw [if_neg (by omega),iX (by omega) h1]
   omega
theorem kZ {t:List Part} {i:Nat} {x:Rose Part} (h:At Wr t i x):Lu (t.drop i) 1=(nds x).length:=iX (o:=1) (Zk _) (kB h)
theorem Bt {t:List Part} {i:Nat} {x:Rose Part} (h:At Wr t i x):M9 t i=((i+(nds x).length:Nat):Int):=by
 unfold M9;have:=h.lt;rw [if_neg (by omega),Zn,kZ h]
 simp
def W7:Nat→List (Rose Part)→List Int
 | _,[]=>[]
 | q,x::ks=>(q:Int)::W7 (q+(nds x).length) ks
theorem G5:∀ {q:Nat} {ks:List (Rose Part)},(W7 q ks).length=ks.length
 | _,[]=>rfl
 | q,x::ks=>by rw [W7,Zf,G5,Zf]
theorem Dd {t:List Part}:∀ {ks:List (Rose Part)} {q:Nat},Rx Wr t q ks→Jz t ks.length q=W7 q ks
 | [],_,_=>rfl
 | x::ks,q,h=>by
  have hx:=h.head;rw [Zf,Jz,if_pos hx.1.lt,kZ hx.1,W7,Dd hx.2]
theorem Ff {t:List Part} {i:Nat} {x:Rose Part} (h:At Wr t i x):Ve t i=W7 (i+1) x.kids:=by
 unfold Ve;have hl:=h.lt;have hk:=h.kids;have hm:=Gz (t.getD i e0);rw [if_neg (by omega)]
 simp only [Zn];rw [hm,h.root e0,Zn,←hk.2,Dd hk.1]
theorem Rm {t:List Part}:∀ {m q:Nat},(Jz t m q).length=m→(∀ j,q≤j→j<t.length→∃ z,At Wr t j z)→q≤t.length→∃ ks:List (Rose Part),ks.length=m∧Rx Wr t q ks
 | 0,q,_,_,hq=>⟨[],rfl,trivial,t.drop q,by simp [ndss]⟩
 | m+1,q,h,hz,hq=>by
  rw [Jz] at h;by_cases Qd:q<t.length
  ·rw [if_pos Qd] at h;obtain ⟨x,hx⟩:=hz q (Zk _) Qd;rw [kZ hx] at h;obtain ⟨ks,h1,h2,r,h3⟩:=Rm (m:=m) (q:=q+(nds x).length) (by simpa using h) (fun j hj=>hz j (by omega)) hx.le
   obtain ⟨h4,r',h5⟩:=hx;refine ⟨x::ks,by simp [h1],⟨h4,h2⟩,r,?_⟩
   rw [←List.drop_drop,h5,List.drop_left'] at h3
   ·rw [h5,h3,ndss,List.append_assoc]
   ·rfl
  ·rw [if_neg Qd] at h;simp at h
theorem L6 {t:List Part} (h:∀ i,i<t.length→((Ve t i).length:Int)=Jk (t.getD i e0)):∀ (m i:Nat),t.length-i≤m→i<t.length→∃ z,At Wr t i z
 | 0,i,hm,hi=>by omega
 | m+1,i,hm,hi=>by
  have h1:=h i hi;have Ztz:=Gz (t.getD i e0);unfold Ve at h1;rw [if_neg (by omega)] at h1
  simp only [Zn] at h1;rw [Ztz,Zn] at h1;obtain ⟨ks,k1,k2,r,k3⟩:=Rm (m:=Wr (t.getD i e0)) (q:=i+1) (by omega) (fun j hj Cw=>L6 h m j (by omega) Cw) (by omega)
  refine ⟨mk (t.getD i e0) ks,⟨k1,k2⟩,r,?_⟩;rw [List.drop_eq_getElem_cons hi,k3,Jt];simp [hi]
theorem aE {t:List Part} (h:Jg t=true):∃ x,t=nds x∧At Wr t 0 x:=by
 unfold Jg at h;simp only [Ze,Bool.not_eq_true',Zi] at h;obtain ⟨h1,h2,⟨h3,h4⟩,h5⟩:=h;have Gk:0<t.length:=by
  rcases Nat.eq_zero_or_pos t.length with h0|h0
  ·exfalso;unfold Ji at h1;simp [h0] at h1
  ·exact h0
 have hk:∀ i,i<t.length→((Ve t i).length:Int)=Jk (t.getD i e0):=by
  intro i hi;have:=List.all_eq_true.1 h5 i (List.mem_range.2 hi);unfold Fa at this;rw [Ze,Zi] at this;exact this.1
 obtain ⟨x,hx⟩:=L6 hk t.length 0 (by omega) Gk
 have he':M9 t 0=((0+(nds x).length:Nat):Int):=Bt hx;rw [h3] at he';obtain ⟨hw,r,hr⟩:=id hx;refine ⟨x,?_,hx⟩;rw [List.drop_zero] at hr;have:=congrArg List.length hr;rw [Zj] at this;have Ztv:r=[]:=List.length_eq_zero_iff.1 (by omega)
 rw [hr,Ztv,List.append_nil]
instance:Inhabited Part:=⟨e0⟩
def Kz (p:Part) (k:Nat) (b:List (List UInt8)):List (List UInt8) :=
 (if p.kind=2∨p.kind=8∨(p.kind=4∧k=1)∨(p.kind=5∧k=0) then b++[p.bind] else b)++(if p.kind=5 then [p.name] else [])
mutual
def freeT:Rose Part→List (List UInt8)→List (List UInt8)
 | mk p ks,b=>if p.kind=1∧Uc b p.name=false then [p.name] else freeTs p ks 0 b
def freeTs (p:Part):List (Rose Part)→Nat→List (List UInt8)→List (List UInt8)
 | [],_,_=>[]
 | x::xs,k,b=>freeT x (Kz p k b)++freeTs p xs (k+1) b
end
mutual
theorem freeT_len:∀ (x:Rose Part) (b:List (List UInt8)),(freeT x b).length≤(nds x).length
 | mk p ks,b=>by
  rw [freeT,Jt];split
  ·simp
  ·have:=freeTs_len p ks 0 b;simp only [Zf];omega
theorem freeTs_len (p:Part):∀ (xs:List (Rose Part)) (k:Nat) (b:List (List UInt8)),(freeTs p xs k b).length≤(ndss xs).length
 | [],_,_=>by simp [freeTs]
 | x::xs,k,b=>by
  have h1:=freeT_len x (Kz p k b);have h2:=freeTs_len p xs (k+1) b;rw [freeTs,ndss,Zj,Zj];omega
end
open Go.Proofs Go.RowKit
structure KA where
 l:List Int
instance encKA:Enc KA:=⟨fun a=>.agg (a.l.map enc),fun x=>match x with
 | .agg l=>⟨l.map dec⟩
 | _=>⟨[]⟩,fun a=>by
  have h1:∀ l:List Int,(l.map (enc:Int→D)).map dec=l:=fun l=>Wv;cases a;simp [h1]⟩
def zH:KA:=⟨[0,0,1,2,2,2,3,1,1,2,0,1,1,1,1]⟩
theorem gA:(enc zH:D)=.agg [.int .i64 0,.int .i64 0,.int .i64 1,.int .i64 2,.int .i64 2,.int .i64 2,.int .i64 3,.int .i64 1,.int .i64 1,.int .i64 2,.int .i64 0,.int .i64 1,.int .i64 1,.int .i64 1,.int .i64 1]:=rfl
def Ce:Con:=Pd zH
theorem qI:Jc Tryz.prog (52,Ce):=by
 obtain ⟨Kx,Kt,Kc,Kd,Kb,Ku,Kw,K,_⟩:=W5 Qj Z0 [] false W4;have Ko:=Ce.eq_def;refine Yv K Tryz.func52 [.cell 0 71] rfl 2 rfl (fun c hc Jj Zo=>?_);unfold Ce at Zo;obtain rfl:=cN Zo;have Qz:=gA;obtain ⟨k,Qu⟩:=exq (zH);rw [Qu] at Qz;cases hc;exact Uy
def Gb:Con:=Xd (fun (p:Part)=>p.many≤1000000) (fun p=>Jk p)
theorem Bs:Jc Tryz.prog (30,Gb):=by
 obtain ⟨Kx,Kt,Kc,Kd,Kb,Ku,Kw,K,Y6,_⟩:=W5 Qj Z0 [] false (Xa qI Ce.eq_def W4);have Ko:=Gb.eq_def;refine Yv K Tryz.func30 [.tmp 2] rfl 30 rfl (fun c hc Jj Zo=>?_);unfold Gb at Zo;obtain ⟨p,rfl,hm⟩:=Qp Zo;obtain ⟨pk,pl,pn,pb,pm,pq,pt,pu⟩:=p;simp only at hm;clear Zo;obtain ⟨R,Qz⟩:=exq (Jk ⟨pk,pl,pn,pb,pm,pq,pt,pu⟩);have Ql:=Qz;unfold Jk at Ql;simp only at Ql;have Za4:E3 pm 0=if pm<0 then 0 else pm:=rfl
 have Zxy:0≤E3 pm 0:=by rw [Za4];split<;>omega
 have Zy6:E3 pm 0≤1000000:=by rw [Za4];split<;>omega
 obtain ⟨X,Q5⟩:=exq (E3 pm 0);rw [Q5] at Ql Zxy Zy6;clear Za4;have Q6:=gA;cases hc;rcases Xy pk 0 with ⟨h1,Qu⟩|⟨h1,Qu⟩
 ·have hr:R=0:=by
   rw [←Ql]
   repeat rw [if_neg (by omega)]
  subst hr;exact Uy
 rcases Xy 14 pk with ⟨h2,Qs⟩|⟨h2,Qs⟩
 ·have hr:R=0:=by
   rw [←Ql]
   repeat rw [if_neg (by omega)]
  subst hr;exact Uy
 have hc:pk=0∨pk=1∨pk=2∨pk=3∨pk=4∨pk=5∨pk=6∨pk=7∨pk=8∨pk=9∨pk=10∨pk=11∨pk=12∨pk=13∨pk=14:=by omega
 rcases hc with rfl|rfl|rfl|rfl|rfl|rfl|rfl|rfl|rfl|rfl|rfl|rfl|rfl|rfl|rfl
 ·have Q0:el [.int .i64 0,.int .i64 0,.int .i64 1,.int .i64 2,.int .i64 2,.int .i64 2,.int .i64 3,.int .i64 1,.int .i64 1,.int .i64 2,.int .i64 0,.int .i64 1,.int .i64 1,.int .i64 1,.int .i64 1] (Int.toNat (0:Int))=.int .i64 0:=rfl;have hr:R=0:=by
   rw [←Ql];simp
  subst hr;exact Uy
 ·have Q0:el [.int .i64 0,.int .i64 0,.int .i64 1,.int .i64 2,.int .i64 2,.int .i64 2,.int .i64 3,.int .i64 1,.int .i64 1,.int .i64 2,.int .i64 0,.int .i64 1,.int .i64 1,.int .i64 1,.int .i64 1] (Int.toNat (1:Int))=.int .i64 0:=rfl;have hr:R=0:=by
   rw [←Ql];simp
  subst hr;exact Uy
 ·have Q0:el [.int .i64 0,.int .i64 0,.int .i64 1,.int .i64 2,.int .i64 2,.int .i64 2,.int .i64 3,.int .i64 1,.int .i64 1,.int .i64 2,.int .i64 0,.int .i64 1,.int .i64 1,.int .i64 1,.int .i64 1] (Int.toNat (2:Int))=.int .i64 1:=rfl;have hr:R=1:=by
   rw [←Ql];simp
  subst hr;exact Uy
 ·have Q0:el [.int .i64 0,.int .i64 0,.int .i64 1,.int .i64 2,.int .i64 2,.int .i64 2,.int .i64 3,.int .i64 1,.int .i64 1,.int .i64 2,.int .i64 0,.int .i64 1,.int .i64 1,.int .i64 1,.int .i64 1] (Int.toNat (3:Int))=.int .i64 2:=rfl;have hr:R=2:=by
   rw [←Ql];simp
  subst hr;exact Uy
 ·have Q0:el [.int .i64 0,.int .i64 0,.int .i64 1,.int .i64 2,.int .i64 2,.int .i64 2,.int .i64 3,.int .i64 1,.int .i64 1,.int .i64 2,.int .i64 0,.int .i64 1,.int .i64 1,.int .i64 1,.int .i64 1] (Int.toNat (4:Int))=.int .i64 2:=rfl;have hr:R=2:=by
   rw [←Ql];simp
  subst hr;exact Uy
 ·have Q0:el [.int .i64 0,.int .i64 0,.int .i64 1,.int .i64 2,.int .i64 2,.int .i64 2,.int .i64 3,.int .i64 1,.int .i64 1,.int .i64 2,.int .i64 0,.int .i64 1,.int .i64 1,.int .i64 1,.int .i64 1] (Int.toNat (5:Int))=.int .i64 2:=rfl;have hr:R=2:=by
   rw [←Ql];simp
  subst hr;exact Uy
 ·have Q0:el [.int .i64 0,.int .i64 0,.int .i64 1,.int .i64 2,.int .i64 2,.int .i64 2,.int .i64 3,.int .i64 1,.int .i64 1,.int .i64 2,.int .i64 0,.int .i64 1,.int .i64 1,.int .i64 1,.int .i64 1] (Int.toNat (6:Int))=.int .i64 3:=rfl;have hr:R=3:=by
   rw [←Ql];simp
  subst hr;exact Uy
 ·have Q0:el [.int .i64 0,.int .i64 0,.int .i64 1,.int .i64 2,.int .i64 2,.int .i64 2,.int .i64 3,.int .i64 1,.int .i64 1,.int .i64 2,.int .i64 0,.int .i64 1,.int .i64 1,.int .i64 1,.int .i64 1] (Int.toNat (7:Int))=.int .i64 1:=rfl;have hr:R=X+1:=by
   rw [←Ql];simp
  have Ja:(1:Int)+X=R:=by omega
  exact Uy
 ·have Q0:el [.int .i64 0,.int .i64 0,.int .i64 1,.int .i64 2,.int .i64 2,.int .i64 2,.int .i64 3,.int .i64 1,.int .i64 1,.int .i64 2,.int .i64 0,.int .i64 1,.int .i64 1,.int .i64 1,.int .i64 1] (Int.toNat (8:Int))=.int .i64 1:=rfl;have hr:R=1:=by
   rw [←Ql];simp
  subst hr;exact Uy
 ·have Q0:el [.int .i64 0,.int .i64 0,.int .i64 1,.int .i64 2,.int .i64 2,.int .i64 2,.int .i64 3,.int .i64 1,.int .i64 1,.int .i64 2,.int .i64 0,.int .i64 1,.int .i64 1,.int .i64 1,.int .i64 1] (Int.toNat (9:Int))=.int .i64 2:=rfl;have hr:R=2:=by
   rw [←Ql];simp
  subst hr;exact Uy
 ·have Q0:el [.int .i64 0,.int .i64 0,.int .i64 1,.int .i64 2,.int .i64 2,.int .i64 2,.int .i64 3,.int .i64 1,.int .i64 1,.int .i64 2,.int .i64 0,.int .i64 1,.int .i64 1,.int .i64 1,.int .i64 1] (Int.toNat (10:Int))=.int .i64 0:=rfl;have hr:R=X:=by
   rw [←Ql];simp
  have Ja:(0:Int)+X=R:=by omega
  exact Uy
 ·have Q0:el [.int .i64 0,.int .i64 0,.int .i64 1,.int .i64 2,.int .i64 2,.int .i64 2,.int .i64 3,.int .i64 1,.int .i64 1,.int .i64 2,.int .i64 0,.int .i64 1,.int .i64 1,.int .i64 1,.int .i64 1] (Int.toNat (11:Int))=.int .i64 1:=rfl;have hr:R=1:=by
   rw [←Ql];simp
  subst hr;exact Uy
 ·have Q0:el [.int .i64 0,.int .i64 0,.int .i64 1,.int .i64 2,.int .i64 2,.int .i64 2,.int .i64 3,.int .i64 1,.int .i64 1,.int .i64 2,.int .i64 0,.int .i64 1,.int .i64 1,.int .i64 1,.int .i64 1] (Int.toNat (12:Int))=.int .i64 1:=rfl;have hr:R=1:=by
   rw [←Ql];simp
  subst hr;exact Uy
 ·have Q0:el [.int .i64 0,.int .i64 0,.int .i64 1,.int .i64 2,.int .i64 2,.int .i64 2,.int .i64 3,.int .i64 1,.int .i64 1,.int .i64 2,.int .i64 0,.int .i64 1,.int .i64 1,.int .i64 1,.int .i64 1] (Int.toNat (13:Int))=.int .i64 1:=rfl;have hr:R=1:=by
   rw [←Ql];simp
  subst hr;exact Uy
 ·have Q0:el [.int .i64 0,.int .i64 0,.int .i64 1,.int .i64 2,.int .i64 2,.int .i64 2,.int .i64 3,.int .i64 1,.int .i64 1,.int .i64 2,.int .i64 0,.int .i64 1,.int .i64 1,.int .i64 1,.int .i64 1] (Int.toNat (14:Int))=.int .i64 1:=rfl;have hr:R=1:=by
   rw [←Ql];simp
  subst hr;exact Uy
section
variable {P:Program} {base:Nat} {pass:Nat→Prop} {F0:Anc} {m:Nat→Nat} {G:Gh} {st:AS} {a:Act} {w:World}
def Rl (l:List UInt8):List Value:=l.map fun u=>Value.int .u8 u.toNat
theorem M0 {l:List UInt8}:(Rl l).length=l.length:=by simp [Rl]
theorem tF {l s:List UInt8}:Rl (l++s)=Rl l++Rl s:=by simp [Rl]
theorem Zbn {tx:Nat} (hx:P.underlying tx=some .string) (s:List UInt8):Src P 1 tx (.string ⟨s.toArray⟩) s.length (Rl s) w:=by
 have:=Src.ofString (P:=P) w hx ⟨s.toArray⟩;simpa [byteCells,ByteArray.size,Rl] using this
theorem Zam {l:List UInt8} {cs:Array Value} (h:cs.toList.take l.length=Rl l) {b t:Nat} (hg:w.heap[b]?=some (.cells cs t (0,0))):∀ j u,(Rl l)[j]?=some u→w.cell? ((⟨b,0,none⟩:Addr).add j)=some u:=by
 intro j u hu;rw [Hc,Nat.zero_add];rw [←h,List.getElem?_take] at hu;split at hu
 ·simp only [World.cell?,hg];simpa using hu
 ·cases hu
theorem Zcj (h:SRg base pass F0 m G st a w) {i U t tx:Nat} {l s:List UInt8} (hi:lk st.objs i=some (.brow U l)) {ii:TypeInfo} (hd:P.underlying t=some (.slice U)) (hx:P.underlying tx=some .string)
  (i1:P.info? U=some ii) (i2:ii.size=1) (i3:ii.bytes=1) (i4:ii.zero=some (.int .u8 0)) (hb:l.length+s.length≤140737488355328) (ty:TypeId) :
  ∃ v' w' G',(Builtin.append_ #[t,tx] ty #[G.hd i,.string ⟨s.toArray⟩]).run P w=.ok v' w'∧G'.hd i=v'∧(∀ j,j≠i→G'.γ j=G.γ j∧G'.hd j=G.hd j) ∧
   SRg base pass F0 m G' ⟨st.tmps,upd st.objs i (.brow U (l++s))⟩ a w'∧(∀ b,b<w.heap.size→G.γ i≠some b→w'.heap[b]?=w.heap[b]?)∧Fix.le ⟨w,m⟩ ⟨w',m⟩:=by
 have dH:Src P ii.size tx (.string ⟨s.toArray⟩) s.length (Rl s) w:=by rw [i2];exact Zbn hx s
 have Xr:=h.objs i _ hi;simp only [Z8] at Xr;have hM:(140737488355328:Nat)≤maxLen:=by unfold maxLen;omega
 by_cases iN:s=[]
 ·subst iN;have hL:lk (upd st.objs i (.brow U (l++[])))=lk st.objs:=funext fun j=>by
   rw [Jb];split
   ·next e=>subst e;rw [hi,List.append_nil]
   ·rfl
  obtain ⟨A,cap,hv,Pj⟩:∃ A cap,G.hd i=.slice A l.length cap∧l.length≤cap:=by
   rcases Xr with ⟨_,h2,rfl⟩|⟨b,cap,cs,_,h2,h3,_⟩
   ·exact ⟨none,0,by rw [h2];rfl,Zk _⟩
   ·exact ⟨_,cap,h2,h3⟩
  have hr:=U0 (w:=w) t tx ty U ii hd i1 A l.length cap dH Pj;exact ⟨_,w,G,by rw [hv];exact hr,hv,fun _ _=>⟨rfl,rfl⟩,⟨h.defers,by simp only [hL];exact h.tmps,by simp only [hL];exact h.objs,by simp only [hL];exact h.apart,by simp only [hL];exact h.mine,h.frame,h.old,h.new,h.small,by simp only [hL];exact h.lent⟩,fun _ _ _=>rfl,Fix.le_refl _⟩
 have Ax:0<s.length:=List.length_pos_iff.2 iN;have Js:(l++s).length=l.length+s.length:=Zj;have N9:∀ o,lk st.objs i=some o→∀ G':Gh,((Obj.brow U (l++s)).isBox=true→o.isBox=true∧G'.γ i=G.γ i)∧(∀ s' els' k',Obj.brow U (l++s)=.row s' els' k'→∃ els k,o=.row s' els k∧els.length≤els'.length∧(els'.length=els.length→G'.γ i=G.γ i∧G'.hd i=G.hd i)) ∧
   ∀ t l',Obj.brow U (l++s)=.brow t l'→∃ l,o=.brow t l∧l.length≤l'.length∧(l'.length=l.length→G'.γ i=G.γ i∧G'.hd i=G.hd i):=by
  intro o ho G';rw [hi] at ho;injection ho with ho
  subst ho;refine ⟨by simp [Obj.isBox],by simp,fun t l' he=>?_⟩
  simp only [Obj.brow.injEq] at he;obtain ⟨rfl,rfl⟩:=he;exact ⟨l,rfl,by omega,fun e=>by omega⟩
 have grow:∀ (cap':Nat) (cs':Array Value),cs'.size=cap'→(l++s).length≤cap'→cap'≤maxLen→cs'.toList.take (l++s).length=Rl (l++s) →
   ∃ G',G'.hd i=.slice (some ⟨w.heap.size,0,none⟩) (l++s).length cap'∧(∀ j,j≠i→G'.γ j=G.γ j∧G'.hd j=G.hd j)∧SRg base pass F0 m G' ⟨st.tmps,upd st.objs i (.brow U (l++s))⟩ a (w.drew.alloc (.cells cs' U)) ∧
    (∀ b,b<w.heap.size→G.γ i≠some b→(w.drew.alloc (.cells cs' U)).heap[b]?=w.heap[b]?)∧Fix.le ⟨w,m⟩ ⟨w.drew.alloc (.cells cs' U),m⟩:=by
  intro cap' cs' Lg Zpj hm' Zct;have hF:Fix.le ⟨w,m⟩ ⟨w.drew.alloc (.cells cs' U),m⟩:=Fix.le_alloc (w:=w.drew) (m:=m) h.new (.cells cs' U);obtain ⟨q1,q2⟩:=h.objG i (.brow U (l++s)) (w':=w.drew.alloc (.cells cs' U)) (m':=m)
   (G':=⟨fun j=>if j=i then some w.heap.size else G.γ j,fun j=>if j=i then .slice (some ⟨w.heap.size,0,none⟩) (l++s).length cap' else G.hd j⟩) hF
   (fun j hj=>by simp [hj]) (fun o ho=>N9 o ho _)
   (fun hg=>by
    simp only [Z8];exact .inr ⟨w.heap.size,cap',cs',by simp,by simp,Zpj,hm',heap_alloc_new w.drew _,Lg,Zct,h.new _ (Zk _)⟩)
   (fun j o hj hl ho b' hb'=>⟨Below.heap_alloc w.drew _ b' (h.mine j o b' hl ho hb').1,rfl⟩)
   (fun _ b' hb'=>by
    simp only [if_true,Zb] at hb';subst hb';refine ⟨by simp,.inl h.small,fun j o hj hl ho Li=>?_⟩
    have:=(h.mine j o _ hl ho Li).1;omega)
   ⟨rfl,rfl,rfl,by simp,fun b' hb' _=>Below.heap_alloc w.drew _ b' (Nat.lt_of_lt_of_le hb' h.small)⟩
   (fun _ _ _=>rfl) (fun b' hb'=>h.new b' (by simp at hb';omega))
  exact ⟨_,by simp,fun j hj=>by simp [hj],q2,fun b hb _=>Below.heap_alloc w.drew _ b hb,hF⟩
 rcases Xr with ⟨h1,h2,rfl⟩|⟨bb,cap,cs,h1,h2,h3,h4,h5,h6,h7,h8⟩
 ·
  have hr:=run_append_grow_src (P:=P) w t tx ty U ii (.int .u8 0) hd i1 i4 none 0 0 [] (run_firstCells_none w.drew ii.size 0 0 0) _ s.length (Rl s) dH (by omega) (by simp at hb;omega) (growslice_fits (by omega) (by rw [i3];simpa using hb))
  simp only [Nat.zero_add,List.nil_append] at hr;have Rv:=grownCap_le_maxLen w s.length 0 U (by simp at hb;omega)
  have Lh:=grownCap_ge w s.length 0 U;obtain ⟨G',g1,g2,g3,g4,g5⟩:=grow (grownCap w s.length 0 U) ((Rl s).toArray++Builtin.zeroCells (Value.int .u8 0).cells (grownCap w s.length 0 U-s.length))
   (by rw [Array.size_append,Yn];simp [M0,Value.cells];omega) (by simpa using Lh) Rv (by
    have e:(([]:List UInt8)++s).length=(Rl s).length:=by simp [M0]
    rw [e];simp only [Array.toList_append,List.take_left',List.nil_append])
  refine ⟨_,_,G',by rw [h2];exact hr,?_,g2,g3,g4,g5⟩
  simpa using g1
 ·by_cases Of:l.length+s.length≤cap
  ·
   have Kk:l.length*ii.size+(Rl s).length≤cs.size:=by rw [i2,M0,h6];omega
   have hr:=Mh (w:=w) t tx ty U U ii hd i1 bb l.length cap cs h5 dH Of Kk;rw [i2,Nat.mul_one] at hr;have aW:=h.mine i _ bb hi rfl h1;have Zxy:m bb=0:=h8;have hF:Fix.le ⟨w,m⟩ ⟨w.setRow bb (cs.toList.take l.length++Rl s++cs.toList.drop (l.length+(Rl s).length)).toArray,m⟩:=Fix.le_setRow h5 (fun o ho=>by omega)
   obtain ⟨q1,q2⟩:=h.objG i (.brow U (l++s)) (w':=w.setRow bb (cs.toList.take l.length++Rl s++cs.toList.drop (l.length+(Rl s).length)).toArray) (m':=m)
    (G':=⟨G.γ,fun j=>if j=i then .slice (some ⟨bb,0,none⟩) (l++s).length cap else G.hd j⟩) hF
    (fun j hj=>by simp [hj]) (fun o ho=>N9 o ho _)
    (fun hg=>by
     simp only [Z8];refine .inr ⟨bb,cap,_,h1,by simp,by rw [Js];exact Of,h4,setRow_heap w bb cs _ U (0,0) h5,?_,?_,h8⟩
     ·simp [M0];omega
     ·have e:(l++s).length=(cs.toList.take l.length++Rl s).length:=by
       rw [Zj,Zj,List.length_take,M0];simp;omega
      rw [e];simp only [List.take_left'];have h7':cs.toList.take l.length=Rl l:=h7;rw [h7',←tF];rfl)
    (fun j o hj hl ho b' hb'=>by
     have:b'≠bb:=fun e=>hj (h.apart j i o _ bb hl hi ho rfl (e▸hb') h1);exact ⟨setRow_other w bb b' _ this,rfl⟩)
    (fun _ b' hb'=>by
     simp only [h1,Zb] at hb';subst hb';exact ⟨by simpa using aW.1,aW.2,fun j o hj hl ho Li=>hj (h.apart j i o _ bb hl hi ho rfl Li h1)⟩)
    ⟨rfl,rfl,rfl,by simp,fun b' Qd hp=>setRow_other w bb b' _ (fun e=>by
     subst e;rcases aW.2 with h1|h1
     ·omega
     ·exact hp h1)⟩
    (fun _ _ _=>rfl) (fun b' Nd=>h.new b' (by simpa using Nd))
   refine ⟨_,_,_,by rw [h2];exact hr,by simp,fun j hj=>by simp [hj],q2,fun b hb Gk=>setRow_other w bb b _ (fun e=>Gk (by rw [h1,e])),hF⟩
  ·
   have hr:=run_append_grow_src (P:=P) w t tx ty U ii (.int .u8 0) hd i1 i4 (some ⟨bb,0,none⟩) l.length cap (Rl l) (run_firstCells_some (P:=P) w.drew ii.size l.length ⟨bb,0,none⟩ l.length cap _ (by rw [M0,i2,Nat.mul_one]) (fun j u hu=>by
     show w.cell? _=_;exact Zam h7 h5 j u hu)) _ s.length (Rl s) dH (by omega) (by omega) (growslice_fits (by omega) (by rw [i3];omega))
   have Rv:=grownCap_le_maxLen w (l.length+s.length) cap U (by omega)
   have Lh:=grownCap_ge w (l.length+s.length) cap U;obtain ⟨G',g1,g2,g3,g4,g5⟩:=grow (grownCap w (l.length+s.length) cap U) ((Rl l++Rl s).toArray++Builtin.zeroCells (Value.int .u8 0).cells (grownCap w (l.length+s.length) cap U-(l.length+s.length)))
    (by rw [Array.size_append,Yn];simp [M0,Value.cells];omega) (by rw [Js];exact Lh) Rv (by
     have e:(l++s).length=(Rl l++Rl s).length:=by simp [M0]
     rw [e];simp only [Array.toList_append,List.take_left',tF])
   refine ⟨_,_,G',by rw [h2];exact hr,?_,g2,g3,g4,g5⟩
   rw [g1,Js]
end
end Go.Am.Ty
