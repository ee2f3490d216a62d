/- Contracts of functions that the law reaches, and plain laws. Conditions: those that each contract states. -/
import Derived.Test.YtilpfkjhahnfaaaGreatP7
set_option maxHeartbeats 4000000
set_option linter.unusedVariables false
set_option linter.unusedSimpArgs false
variable {p:Prop}
set_option maxRecDepth 100000
namespace Go.Am.Ty
open Go.Proofs
open Enc (enc dec)
def Dz:Con:=Zem (fun (s:List UInt8) (i:Int)=>s.length≤1000000∧0≤i∧i<s.length) (fun s i=>uT s i.toNat)
class Kei:Prop
theorem Kei.k (_:Kei) (h:p:=by
 first|(rw [Xt];omega)|(rw [Zgf];omega)|rfl|skip):p:=h
theorem good_escaped1:Qc Tryz.prog (219,Dz):=by
 obtain ⟨Kx,Kt,Kc,Kd,Kb,Ku,Kw,K,X4,_⟩:=J7 Zx Zo [] false (Q1 good_sixteen1 Dn.eq_def J5);have Ko:=Dz.eq_def;refine J9 K Tryz.func219 [.tmp 4,.tmp 5] rfl 66 rfl (fun c hc Ji Zh=>?_);unfold Dz at Zh;obtain ⟨s,i,rfl,hs,Znb,Zbb⟩:=Zel Zh;obtain ⟨i,rfl⟩:∃ n:Nat,i=n:=⟨i.toNat,by omega⟩
 clear Zh;obtain ⟨R,Qi⟩:=exq (uT s i);have Zq:=Qi;unfold uT at Zq;have Qk:(i:Int)+1=((i+1:Nat):Int):=rfl;have Qn:(i:Int)+2=((i+2:Nat):Int):=rfl;have Qx:(i:Int)+3=((i+3:Nat):Int):=rfl;by_cases h1:s.length≤i+1
 ·rw [if_pos h1] at Zq;have Qo:Xp (s.length:Int) ((i+1:Nat):Int)=true:=by rw [Q9];omega
  subst Zq;cases hc;refine W5 4 ?_;exact U3
 rw [if_neg h1] at Zq;have Qo:Xp (s.length:Int) ((i+1:Nat):Int)=false:=by rw [←Bool.not_eq_true,Q9];omega
 unfold Qne at Zq;obtain ⟨c,Ql⟩:=exq (s.getD (i+1) 0);rw [Ql] at Zq;have Qp:((c.toNat:Int)==92)=(c==92):=Nw (b:=92);have Q3:((c.toNat:Int)==34)=(c==34):=Nw (b:=34);have Jb:((c.toNat:Int)==110)=(c==110):=Nw (b:=110);have Z6:((c.toNat:Int)==116)=(c==116):=Nw (b:=116);have Qq:((c.toNat:Int)==120)=(c==120):=Nw (b:=120);have Ja8:i+1<s.length:=by omega
 by_cases Qva:c=92
 ·rw [if_pos (.inl Qva)] at Zq;have Qv:(c==92)=true:=Zj.2 Qva;subst Zq;cases hc;refine W5 4 ?_;exact U3
 have Qv:(c==92)=false:=Za.2 Qva;by_cases Qcd:c=34
 ·rw [if_pos (.inr Qcd)] at Zq;have Jh:(c==34)=true:=Zj.2 Qcd;subst Zq;cases hc;refine W5 4 ?_;exact U3
 have Jh:(c==34)=false:=Za.2 Qcd;rw [if_neg (by simp [Qva,Qcd])] at Zq
 by_cases Qlp:c=110
 ·rw [if_pos Qlp] at Zq;have Z3:(c==110)=true:=Zj.2 Qlp;subst Zq;cases hc;refine W5 4 ?_;exact U3
 have Z3:(c==110)=false:=Za.2 Qlp;rw [if_neg Qlp] at Zq;by_cases Qlo:c=116
 ·rw [if_pos Qlo] at Zq;have Z7:(c==116)=true:=Zj.2 Qlo;subst Zq;cases hc;refine W5 4 ?_;exact U3
 have Z7:(c==116)=false:=Za.2 Qlo;rw [if_neg Qlo] at Zq;by_cases Qln:c=120
 case neg =>
  have Qj:(c==120)=false:=Za.2 Qln;rw [if_neg (fun h=>Qln h.1)] at Zq;subst Zq;cases hc;refine W5 4 ?_;exact U3
 have Qj:(c==120)=true:=Zj.2 Qln;by_cases h3:i+3<s.length
 case neg =>
  have Qm:Wd ((i+3:Nat):Int) (s.length:Int)=false:=by rw [Q7];omega
  rw [if_neg (fun h=>h3 h.2.1)] at Zq;subst Zq;cases hc;refine W5 4 ?_;exact U3
 have Qm:Wd ((i+3:Nat):Int) (s.length:Int)=true:=by rw [Jj];omega
 obtain ⟨a,Qg⟩:=exq (s.getD (i+2) 0);obtain ⟨b,Qr⟩:=exq (s.getD (i+3) 0);rw [Qg,Qr] at Zq;have ga:=Zz9 (c:=a);have gb:=Zz9 (c:=b);obtain ⟨x,Qw⟩:=exq (uH a);obtain ⟨y,Jf⟩:=exq (uH b);rw [Qw] at ga;rw [Jf] at gb;rw [Qw,Jf] at Zq;by_cases sI:0≤x
 case neg =>
  have Q4:Xp 0 x=false:=by rw [←Bool.not_eq_true,Q9];exact sI
  rw [if_neg (fun h=>sI h.2.2.1)] at Zq;subst Zq;cases hc;refine W5 4 ?_;exact U3
 have Q4:Xp 0 x=true:=by rw [Q9];exact sI
 by_cases Qfh:0≤y
 case neg =>
  have Jk:Xp 0 y=false:=by rw [←Bool.not_eq_true,Q9];exact Qfh
  rw [if_neg (fun h=>Qfh h.2.2.2)] at Zq;subst Zq;cases hc;refine W5 4 ?_;exact U3
 have Jk:Xp 0 y=true:=by rw [Q9];exact Qfh
 rw [if_pos ⟨Qln,h3,sI,Qfh⟩] at Zq;subst Zq;cases hc;refine W5 4 ?_;have Kq:Kei:=⟨⟩;exact Xv
def D3:Con:=Uf (fun (s:List UInt8)=>s.length≤1000000) (fun s=>dE s)
class Kek:Prop
theorem Kek.k (_:Kek) (h:p:=by
 first|(rw [Xt];omega)|(simp only [Ze];omega)|exact ⟨(f,i+en,out++et),by exact Qt,by simp only;omega,by simp only;omega,by simp only;omega,by simp only [Ze];omega,h5,by simp only;omega⟩|skip):p:=h
class Kel:Prop
theorem Kel.k (_:Kel) (h:p:=by
 first|(rw [Xt];omega)|(rw [Ze,qE];omega)|exact ⟨(f,i+n,out++(s.take (i+n)).drop i),by exact Qt,by simp only;omega,by simp only;omega,by simp only;omega,by simp only [Ze,qE];omega,h5,by simp only;omega⟩|skip):p:=h
class Kej:Prop
theorem Kej.k (_:Kej) (h:p:=by
 refine Zm [2,3,4,7,8,9,10,19,20,21,22,23,24,25,26,27,28,29,30,31,32,33,34,35,36,37,38,39,40,41,42,43,44,45,46,47,48,49,50,51,52,53,54,55,56,57,58,59,60,61,62,63,64,65,66,67,68,69,70,71,72] (fun p:Nat×Nat×List UInt8=>[(5,.d (.str p.2.2)),(6,.d (.int .i64 p.2.1))]) (fun p:Nat×Nat×List UInt8=>[]) (fun p:Nat×Nat×List UInt8=>s.length≤p.1+p.2.1∧1≤p.2.1∧p.2.1≤s.length∧p.2.2.length≤p.2.1∧kL p.1 s p.2.1 p.2.2=R) (fun p:Nat×Nat×List UInt8=>s.length-p.2.1) (s.length,1,[]) ?_ ?_ ?_
 ·exact ⟨by simp,by simp,by simp only;omega,by simp,Zq⟩
 ·exact Qt
 rintro ⟨f,i,out⟩ ⟨h1,h2,h3,h4,h5⟩;simp only at h1 h2 h3 h4 h5;rcases Zn i s.length with ⟨Zv,Qp⟩|⟨Zv,Qp⟩
 ·obtain ⟨f,rfl⟩:∃ g,f=g+1:=⟨f-1,by omega⟩
  rw [kL,if_neg (by omega)] at h5
  have mN:=Zkf Zv;have Qfa:=Qbf (s:=s) Zv;obtain ⟨x,Qv⟩:=exq (s.getD i 0);rw [Qv] at h5;have Q3:((x.toNat:Int)==34)=(x==34):=Nw (b:=34);have Z6:Wd (x.toNat:Int) 32=decide (x<32):=Qgw (b:=32);have Qq:((x.toNat:Int)==127)=(x==127):=Nw (b:=127);have Qx:((x.toNat:Int)==92)=(x==92):=Nw (b:=92);by_cases hq:x=34
  ·rw [if_pos hq] at h5;have Jh:(x==34)=true:=Zj.2 hq;subst h5;exact U3
  rw [if_neg hq] at h5;have Jh:(x==34)=false:=Za.2 hq;obtain ⟨n,Jb⟩:=exq (nP s i);rw [Jb] at h5 mN;by_cases Qs:n=0∨x<32∨x=127
  ·rw [if_pos Qs] at h5;subst h5;by_cases b1:n=0
   ·have Z3:((n:Int)==0)=true:=by rw [Zj];omega
    exact U3
   have Z3:((n:Int)==0)=false:=by rw [Za];omega
   by_cases b2:x<32
   ·have Z7:decide (x<32)=true:=decide_eq_true b2;exact U3
   have Z7:decide (x<32)=false:=decide_eq_false b2;have b3:x=127:=by rcases Qs with h|h|h<;>first|exact h|contradiction
   have Qj:(x==127)=true:=Zj.2 b3;exact U3
  ·rw [if_neg Qs] at h5;have Z3:((n:Int)==0)=false:=by rw [Za];intro e;exact Qs (.inl (by omega))
   have Z7:decide (x<32)=false:=decide_eq_false fun h=>Qs (.inr (.inl h));have Qj:(x==127)=false:=Za.2 fun h=>Qs (.inr (.inr h));have Qs8:1≤n:=by have:n≠0:=fun e=>Qs (.inl e);omega
   have Qw:(i:Int)+(n:Int)=((i+n:Nat):Int):=rfl;by_cases he:x=92
   ·rw [if_pos he] at h5;have Qm:(x==92)=true:=Zj.2 he;obtain ⟨⟨et,en⟩,Qg⟩:=exq (uT s i);rw [Qg] at h5 Qfa;simp only at h5 Qfa;by_cases Qma:en=0
    ·rw [if_pos Qma] at h5;have Qr:(en==0)=true:=Zj.2 Qma;subst h5;exact U3
    rw [if_neg Qma] at h5;have Qr:(en==0)=false:=Za.2 Qma;obtain ⟨en,rfl⟩:∃ m:Nat,en=m:=⟨en.toNat,by omega⟩
    rw [Zl] at h5 Qfa;have Kq:Kek:=⟨⟩;exact Xv
   ·rw [if_neg he] at h5;have Qm:(x==92)=false:=Za.2 he;have qE:((s.take (i+n)).drop i).length=n:=by rw [List.length_drop,List.length_take];omega
    have Kq:Kel:=⟨⟩;exact Xv
 ·have Ai:i=s.length:=by omega
  have hr:R=([],0,2):=by
   rw [←h5];cases f with
   | zero=>rfl
   | succ f=>rw [kL,if_pos (by omega)]
  subst hr;exact qB):p:=h
theorem good_Unquote1:Qc Tryz.prog (177,D3):=by
 obtain ⟨Kx,Kt,Kc,Kd,Kb,Ku,Kw,K,X4,V2,_⟩:=J7 Zx Zo [] false (Q1 good_Long1 iL.eq_def (Q1 good_escaped1 Dz.eq_def J5));have Ko:=D3.eq_def;refine J9 K Tryz.func177 [.tmp 2,.tmp 3,.tmp 4] rfl 73 rfl (fun c hc Ji Zh=>?_);unfold D3 at Zh;obtain ⟨s,rfl,hs⟩:=Zaa Zh;clear Zh;obtain ⟨R,Qo⟩:=exq (dE s);have Zq:=Qo;unfold dE at Zq;by_cases h0:s.length=0
 ·rw [if_pos (.inl h0)] at Zq;have Qk:((s.length:Int)==0)=true:=by rw [Zj];omega
  subst Zq;cases hc;refine W5 4 ?_;exact qB
 have Qk:((s.length:Int)==0)=false:=by rw [Za];omega
 obtain ⟨c,Qi⟩:=exq (s.getD 0 0);rw [Qi] at Zq;have Qn:((c.toNat:Int) != 34)=(c != 34):=by rw [bne,bne];exact congrArg _ (Nw (b:=34))
 by_cases Qcd:c=34
 case neg =>
  rw [if_pos (.inr Qcd)] at Zq;have Ql:(c != 34)=true:=bne_iff_ne.2 Qcd;subst Zq;cases hc;refine W5 4 ?_;have Q4:=@Int.toNat_zero;exact U3
 rw [if_neg (by simp [h0,Qcd])] at Zq
 have Ql:(c != 34)=false:=by rw [Qcd];rfl
 cases hc;refine W5 4 ?_;have Q4:=@Int.toNat_zero;have Kq:Kej:=⟨⟩;exact Xv
def hK:Con:=Mw (Sl.mk Qaz)
theorem Zyb:Qc Tryz.prog (222,hK):=by
 obtain ⟨Kx,Kt,Kc,Kd,Kb,Ku,Kw,K,_⟩:=J7 Zx Zo [] false J5;have Ko:=hK.eq_def;refine J9 K Tryz.func222 [.tmp 0] rfl 2 rfl (fun c hc Ji Zh=>?_);unfold hK at Zh;obtain rfl:=Zab Zh;cases hc;exact U3
def bM:Con:=Mw (Sl.mk lX)
theorem Zkz:Qc Tryz.prog (223,bM):=by
 obtain ⟨Kx,Kt,Kc,Kd,Kb,Ku,Kw,K,_⟩:=J7 Zx Zo [] false J5;have Ko:=bM.eq_def;refine J9 K Tryz.func223 [.tmp 0] rfl 2 rfl (fun c hc Ji Zh=>?_);unfold bM at Zh;obtain rfl:=Zab Zh;cases hc;exact U3
def cG:Con:=Xj (fun (_:List UInt8)=>True) (fun s=>rM s)
class Ken:Prop
theorem Ken.k (_:Ken) (h:p:=by
 first|exact ⟨k+1,by exact Qt,by omega,h2,by omega⟩|skip):p:=h
class Kem:Prop
theorem Kem.k (_:Kem) (h:p:=by
 refine Zm [2,6,7,8,9,10,11,12,13,14,15,16,17] (fun k:Nat=>[(4,.d (.int .i64 k))]) (fun k:Nat=>[]) (fun k:Nat=>k≤18∧∀ j,j<k→l.getD j []≠s) (fun k:Nat=>18-k) 0 ?_ ?_ ?_
 ·simp
 ·exact Qt
 rintro k ⟨hk,Jl⟩;by_cases Zv:k<18
 ·have Qi:Wd (k:Int) 18=true:=by rw [Jj];omega
  have Qn:=Zp ([]:List UInt8) (show k<l.length by omega)
  have Jg:l.getD k []≠s→∀ j,j<k+1→l.getD j []≠s:=fun h=>Vd Jl h;have L9:(l.getD k []==s)=true→R=true:=fun h=>by rw [←Zq];exact fF (p:=fun o=>o==s) [] k (by omega) h
  obtain ⟨y,hy⟩:=exq (l.getD k []);rw [hy] at Qn Jg L9;cases Ql:(y==s) with
  | true =>
   have hr:=L9 Ql;subst hr;exact U3
  | false =>
   have h2:=Jg (Za.1 Ql);have Kq:Ken:=⟨⟩;exact Xv
 ·have Qi:Wd (k:Int) 18=false:=by rw [Q7];omega
  have hr:R=false:=by rw [←Zq];exact Eb (p:=fun o=>o==s) [] fun j hj=>Za.2 (Jl j (by omega))
  subst hr;exact qB):p:=h
theorem good_IsKey2:Qc Tryz.prog (180,cG):=by
 obtain ⟨Kx,Kt,Kc,Kd,Kb,Ku,Kw,K,X4,_⟩:=J7 Zx Zo [] false (Q1 Zyb hK.eq_def J5);have Ko:=cG.eq_def;refine J9 K Tryz.func180 [.tmp 2] rfl 18 rfl (fun c hc Ji Zh=>?_);unfold cG at Zh;obtain ⟨s,rfl,-⟩:=Q8 Zh;clear Zh;obtain ⟨R,Qp⟩:=exq (rM s);have Zq:=Qp;unfold rM at Zq;have hl:Qaz.length=18:=rfl;obtain ⟨l,Qk⟩:=exq (Qaz);rw [Qk] at Zq hl;have Qo:(l.length:Int)=18:=by rw [hl];rfl
 cases hc;have Kq:Kem:=⟨⟩;exact Xv
def iZ:Con:=Xj (fun (_:UInt8)=>True) (fun c=>Zdw c)
theorem fT {c a b:UInt8}:X8 c a b=(Xp (a.toNat:Int) (c.toNat:Int)&&Xp (c.toNat:Int) (b.toNat:Int)):=by
 unfold X8;rw [Gz,Gz]
class Keo:Prop
theorem Keo.k (_:Keo) (h:p:=by
 first|(rw [←Zq];clear Zq Jh Qk Qo Qi Qn Ql Qp Q3 Qv K;simp_all;done)|(symm;rw [←Zq];clear Zq Jh Qk Qo Qi Qn Ql Qp Q3 Qv K;simp_all;done)|skip):p:=h
theorem good_goes2:Qc Tryz.prog (178,iZ):=by
 obtain ⟨Kx,Kt,Kc,Kd,Kb,Ku,Kw,K,_⟩:=J7 Zx Zo [] false J5;have Ko:=iZ.eq_def;refine J9 K Tryz.func178 [.tmp 2] rfl 29 rfl (fun c hc Ji Zh=>?_);unfold iZ at Zh;obtain ⟨c,rfl,-⟩:=Q8 Zh;clear Zh;obtain ⟨R,Jh⟩:=exq (Zdw c);have Zq:=Jh;unfold Zdw at Zq;rw [fT,fT,fT] at Zq;have e1:Xp ((97:UInt8).toNat:Int) (c.toNat:Int)=Xp 97 (c.toNat:Int):=rfl;have e2:Xp (c.toNat:Int) ((122:UInt8).toNat:Int)=Xp (c.toNat:Int) 122:=rfl;have e3:Xp ((65:UInt8).toNat:Int) (c.toNat:Int)=Xp 65 (c.toNat:Int):=rfl;have e4:Xp (c.toNat:Int) ((90:UInt8).toNat:Int)=Xp (c.toNat:Int) 90:=rfl;have e5:Xp ((48:UInt8).toNat:Int) (c.toNat:Int)=Xp 48 (c.toNat:Int):=rfl;have e6:Xp (c.toNat:Int) ((57:UInt8).toNat:Int)=Xp (c.toNat:Int) 57:=rfl;rw [e1,e2,e3,e4,e5,e6] at Zq;have Qv:((c.toNat:Int)==95)=(c==95):=Nw (b:=95);obtain ⟨b1,Qk⟩:=exq (Xp 97 (c.toNat:Int));obtain ⟨b2,Qo⟩:=exq (Xp (c.toNat:Int) 122);obtain ⟨b3,Qi⟩:=exq (Xp 65 (c.toNat:Int));obtain ⟨b4,Qn⟩:=exq (Xp (c.toNat:Int) 90);obtain ⟨b5,Ql⟩:=exq (Xp 48 (c.toNat:Int));obtain ⟨b6,Qp⟩:=exq (Xp (c.toNat:Int) 57);obtain ⟨b7,Q3⟩:=exq ((c==95));rw [Qk,Qo,Qi,Qn,Ql,Qp,Q3] at Zq;clear e1 e2 e3 e4 e5 e6;cases hc;have Uk:=Kt;have Uh:=Kt;have dG:=Kt;have Yw:=Kt;have Gz:=Kt;have Gi:=Kt;have Jb:=@Zyt;have Z3:=@Zx4;have Z6:=@Zyz;have Kq:Keo:=⟨⟩;exact Xv
def A8:Con:=Xj (fun (_:UInt8)=>True) (fun c=>Wy c)
class Kep:Prop
theorem Kep.k (_:Kep) (h:p:=by
 first|(rw [←Zq];clear Zq Qi Qk Qo K;simp_all;done)|(symm;rw [←Zq];clear Zq Qi Qk Qo K;simp_all;done)|skip):p:=h
theorem good_figure2:Qc Tryz.prog (182,A8):=by
 obtain ⟨Kx,Kt,Kc,Kd,Kb,Ku,Kw,K,_⟩:=J7 Zx Zo [] false J5;have Ko:=A8.eq_def;refine J9 K Tryz.func182 [.tmp 2] rfl 9 rfl (fun c hc Ji Zh=>?_);unfold A8 at Zh;obtain ⟨c,rfl,-⟩:=Q8 Zh;clear Zh;obtain ⟨R,Qi⟩:=exq (Wy c);have Zq:=Qi;unfold Wy at Zq;rw [fT] at Zq;have e5:Xp ((48:UInt8).toNat:Int) (c.toNat:Int)=Xp 48 (c.toNat:Int):=rfl;have e6:Xp (c.toNat:Int) ((57:UInt8).toNat:Int)=Xp (c.toNat:Int) 57:=rfl;rw [e5,e6] at Zq;obtain ⟨b5,Qk⟩:=exq (Xp 48 (c.toNat:Int));obtain ⟨b6,Qo⟩:=exq (Xp (c.toNat:Int) 57);rw [Qk,Qo] at Zq;clear e5 e6;cases hc;have Uk:=Kt;have Uh:=Kt;have dG:=Kt;have Yw:=Kt;have Gz:=Kt;have Gi:=Kt;have Qn:=@Zyt;have Ql:=@Zx4;have Qp:=@Zyz;have Kq:Kep:=⟨⟩;exact Xv
theorem S6 {s:List UInt8} {k:Nat} (h:k<s.length):s.drop k=s.getD k 0::s.drop (k+1):=by
 rw [List.drop_eq_getElem_cons h];simp [h]
def D2:Con:=Jy (fun (s:List UInt8) (i:Int)=>s.length≤1000000∧0≤i∧i≤s.length) (fun s i=>(dW s i.toNat:Int))
class Ker:Prop
theorem Ker.k (_:Ker) (h:p:=by
 first|exact ⟨k+1,by exact Qt,by omega,Jg,by omega⟩|skip):p:=h
class Kes:Prop
theorem Kes.k (_:Kes) (h:p:=by
 first|exact ⟨k+1,by exact Qt,by omega,Jg,by omega⟩|skip):p:=h
class Ket:Prop
theorem Ket.k (_:Ket) (h:p:=by
 first|exact ⟨k+1,by exact Qt,by omega,Jg,by omega⟩|skip):p:=h
class Kev:Prop
theorem Kev.k (_:Kev) (h:p:=by
 first|exact ⟨j,by exact Qt,by omega,Jg,by omega⟩|skip):p:=h
class Kew:Prop
theorem Kew.k (_:Kew) (h:p:=by
 first|exact ⟨j+1,by exact Qt,by omega,by omega,by omega,by omega⟩|skip):p:=h
class Kex:Prop
theorem Kex.k (_:Kex) (h:p:=by
 first|exact ⟨j,by exact Qt,by omega,Jg,by omega⟩|skip):p:=h
class Keu:Prop
theorem Keu.k (_:Keu) (h:p:=by
 repeat' first|exact M7|with_reducible apply Zw|intro _
 all_goals try with_reducible exact uL
 all_goals try omega
 refine Zm [31,32,33,34,35,36,37,38,39,40,41,42] (fun j:Nat=>[(1,.d (.int .i64 j))]) (fun j:Nat=>[]) (fun j:Nat=>k≤j∧j≤s.length∧j+Oz true (s.drop j)=R) (fun j:Nat=>s.length-j) k ?_ ?_ ?_
 ·exact ⟨by omega,by omega,fN⟩
 ·exact Qt
 rintro j ⟨Qk9,hj,hJ⟩;rcases Zn j s.length with ⟨Cp,Z7⟩|⟨Cp,Z7⟩
 ·rw [S6 Cp,Oz] at hJ;have Qzx:=S6 Cp;obtain ⟨d,Qq⟩:=exq (s.getD j 0);rw [Qq] at hJ Qzx;have Qj:((d.toNat:Int) != 10)=(d != 10):=by rw [bne,bne];exact congrArg _ (Nw (b:=10))
  by_cases Zzx:d=10
  ·rw [if_pos Zzx] at hJ;have Qx:(d != 10)=false:=by rw [Zzx];rfl
   have Oe:k<j:=by
    rcases Nat.lt_or_ge k j with h|h
    ·exact h
    ·have:j=k:=by omega
     subst this;rw [Qo] at Qq;rw [←Qq,c4] at Zzx;exact absurd Zzx (by decide)
   have Jg:j+Oz false (s.drop j)=R:=by
    rw [Qzx,Oz,if_pos (.inr (.inr Zzx))];omega
   have Kq:Kev:=⟨⟩;exact Xv
  ·rw [if_neg Zzx] at hJ;have Qx:(d != 10)=true:=bne_iff_ne.2 Zzx;have Kq:Kew:=⟨⟩;exact Xv
 ·have wZ:j=s.length:=by omega
  have Jg:j+Oz false (s.drop j)=R:=by
   rw [List.drop_eq_nil_of_le Cp] at hJ ⊢;exact hJ
  have Kq:Kex:=⟨⟩;exact Xv):p:=h
class Keq:Prop
theorem Keq.k (_:Keq) (h:p:=by
 refine Zm [4,5,6,7,8,9,10,11,12,13,14,15,16,17,18,19,20,21,22,23,24,25,26,27,28,29,30,31,32,33,34,35,36,37,38,39,40,41,42,43] (fun k:Nat=>[(1,.d (.int .i64 k))]) (fun k:Nat=>[]) (fun k:Nat=>k≤s.length∧k+Oz false (s.drop k)=R) (fun k:Nat=>s.length-k) i ?_ ?_ ?_
 ·exact ⟨by omega,Zq⟩
 ·exact Qt
 rintro k ⟨hk,hG⟩;rcases Zn k s.length with ⟨Zv,Qk⟩|⟨Zv,Qk⟩
 ·rw [S6 Zv,Oz] at hG;obtain ⟨c,Qo⟩:=exq (s.getD k 0);rw [Qo] at hG;have Qi:((c.toNat:Int)==32)=(c==32):=Nw (b:=32);have Ql:((c.toNat:Int)==9)=(c==9):=Nw (b:=9);have Qv:((c.toNat:Int)==10)=(c==10):=Nw (b:=10);have Jh:((c.toNat:Int)==35)=(c==35):=Nw (b:=35);have k1:(k:Int)+1=((k+1:Nat):Int):=rfl;by_cases hg:c=32∨c=9∨c=10
  ·rw [if_pos hg] at hG;have Jg:k+1+Oz false (s.drop (k+1))=R:=by omega
   by_cases c1:c=32
   ·have Qn:(c==32)=true:=Zj.2 c1;have Kq:Ker:=⟨⟩;exact Xv
   have Qn:(c==32)=false:=Za.2 c1;by_cases c2:c=9
   ·have Qp:(c==9)=true:=Zj.2 c2;have Kq:Kes:=⟨⟩;exact Xv
   have Qp:(c==9)=false:=Za.2 c2;have Q3:(c==10)=true:=Zj.2 (by rcases hg with h|h|h<;>first|exact h|contradiction)
   have Kq:Ket:=⟨⟩;exact Xv
  ·rw [if_neg hg] at hG;have Qn:(c==32)=false:=Za.2 fun h=>hg (.inl h);have Qp:(c==9)=false:=Za.2 fun h=>hg (.inr (.inl h));have Q3:(c==10)=false:=Za.2 fun h=>hg (.inr (.inr h));by_cases c4:c=35
   case neg =>
    have Jb:(c==35)=false:=Za.2 c4;rw [if_neg c4] at hG;have Z6:R=k:=by omega
    exact U3
   have Jb:(c==35)=true:=Zj.2 c4;rw [if_pos c4] at hG;have fN:k+Oz true (s.drop k)=R:=by
    rw [S6 Zv,Qo,Oz,if_neg (by rw [c4];decide)]
    exact hG
   have Kq:Keu:=⟨⟩;exact Ae
 ·rw [List.drop_eq_nil_of_le Zv] at hG;have Z6:R=k:=by simpa [Oz] using hG.symm
  exact qB):p:=h
theorem good_between2:Qc Tryz.prog (142,D2):=by
 obtain ⟨Kx,Kt,Kc,Kd,Kb,Ku,Kw,K,_⟩:=J7 Zx Zo [] false J5;have Ko:=D2.eq_def;refine J9 K Tryz.func142 [.tmp 4] rfl 45 rfl (fun c hc Ji Zh=>?_);unfold D2 at Zh;obtain ⟨s,i,rfl,hs,Znb,Zbb⟩:=Qf Zh;obtain ⟨i,rfl⟩:∃ n:Nat,i=n:=⟨i.toNat,by omega⟩
 clear Zh;obtain ⟨R,Z3⟩:=exq (dW s i);have Zq:=Z3;unfold dW at Zq;cases hc;refine W5 2 ?_;have Kq:Keq:=⟨⟩;exact Xv
theorem Zi2 {s:List UInt8} {i:Nat} {l:List (List UInt8)} {k:Nat} (h:k<l.length):Cu s i (l.drop k)=cond (qS s i (l.getD k [])) (l.getD k []) (Cu s i (l.drop (k+1))):=by
 rw [List.drop_eq_getElem_cons h,Cu];simp [h]
def gS:Con:=Jy (fun (s:List UInt8) (i:Int)=>s.length≤1000000∧0≤i∧i≤s.length) (fun s i=>C8 s i.toNat)
class Kez:Prop
theorem Kez.k (_:Kez) (h:p:=by
 first|(rw [Xt];omega)|exact ⟨k+1,by exact Qt,by omega,hS,by omega⟩|skip):p:=h
class KeA:Prop
theorem KeA.k (_:KeA) (h:p:=by
 first|(rw [Xt];omega)|exact ⟨k+1,by exact Qt,by omega,hS,by omega⟩|skip):p:=h
class Key:Prop
theorem Key.k (_:Key) (h:p:=by
 refine Zm [4,8,9,10,11,12,13,14,15,16,17,18,19,20,21,22,23,24,25,26,27,28,29,30,31,32,33,34,35,36,37,38,39,40,41,42,43,44] (fun k:Nat=>[(6,.d (.int .i64 k))]) (fun k:Nat=>[]) (fun k:Nat=>k≤24∧Cu s i (l.drop k)=R) (fun k:Nat=>24-k) 0 ?_ ?_ ?_
 ·exact ⟨by omega,Zq⟩
 ·exact Qt
 rintro k ⟨hk,hS⟩;by_cases Zv:k<24
 ·have Qi:Wd (k:Int) 24=true:=by rw [Jj];omega
  have Qn:=Zp ([]:List UInt8) (show k<l.length by omega)
  have aZ:=My (l.getD k []) (by simp [show k<l.length by omega])
  rw [Zi2 (by omega)] at hS
  obtain ⟨y,hy⟩:=exq (l.getD k []);rw [hy] at Qn aZ hS;have Ql:(i:Int)+(y.length:Int)=((i+y.length:Nat):Int):=rfl;unfold qS at hS;cases Qp:Xp ((i+y.length:Nat):Int) (s.length:Int) with
  | false =>
   rw [Qp,Bool.false_and,cond_false] at hS;have Kq:Kez:=⟨⟩;exact Xv
  | true =>
   rw [Qp,Bool.true_and] at hS;rw [Q9] at Qp;have Qv:Xp ((i+y.length:Nat):Int) (s.length:Int)=true:=by rw [Q9];exact Qp
   cases Q3:((s.take (i+y.length)).drop i==y) with
   | true =>
    rw [Q3,cond_true] at hS;subst hS;exact U3
   | false =>
    rw [Q3,cond_false] at hS;have Kq:KeA:=⟨⟩;exact Xv
 ·have Qi:Wd (k:Int) 24=false:=by rw [Q7];omega
  have hr:R=[]:=by
   rw [←hS,List.drop_eq_nil_of_le (by omega)]
   rfl
  subst hr;exact qB):p:=h
theorem good_sign2:Qc Tryz.prog (183,gS):=by
 obtain ⟨Kx,Kt,Kc,Kd,Kb,Ku,Kw,K,X4,_⟩:=J7 Zx Zo [] false (Q1 Zkz bM.eq_def J5);have Ko:=gS.eq_def;refine J9 K Tryz.func183 [.tmp 4] rfl 45 rfl (fun c hc Ji Zh=>?_);unfold gS at Zh;obtain ⟨s,i,rfl,hs,Znb,Zbb⟩:=Qf Zh;obtain ⟨i,rfl⟩:∃ n:Nat,i=n:=⟨i.toNat,by omega⟩
 clear Zh;obtain ⟨R,Jh⟩:=exq (C8 s i);have Zq:=Jh;unfold C8 at Zq;have hl:lX.length=24:=rfl;have My:∀ x∈lX,x.length≤2:=by decide
 obtain ⟨l,Qk⟩:=exq (lX);rw [Qk] at Zq hl My;have Qo:(l.length:Int)=24:=by rw [hl];rfl
 cases hc;refine W5 2 ?_;have Kq:Key:=⟨⟩;exact Xv
theorem wA {s:List UInt8}:∀ {f i:Nat} {out:List UInt8},(kL f s i out).2.2≠0→(kL f s i out).2.1=0
 | 0,_,_,_=>rfl
 | f+1,i,out,h=>by
  unfold kL at h ⊢;split at h
  ·rename_i a;rw [if_pos a]
  rename_i a;rw [if_neg a];split at h
  ·exact absurd rfl h
  rename_i a;rw [if_neg a];split at h
  ·rename_i a;rw [if_pos a]
  rename_i a;rw [if_neg a];split at h
  ·rename_i a;rw [if_pos a];split at h
   ·rename_i a;rw [if_pos a]
   rename_i a;rw [if_neg a];exact wA h
  ·rename_i a;rw [if_neg a];exact wA h
theorem Zjk {s:List UInt8} {i W:Nat} (hW:W≤s.length) {q:Nat} (hq:i+q<W):((s.take W).drop i).getD q 0=s.getD (i+q) 0:=by
 have h1:i+q<(s.take W).length:=by rw [List.length_take];omega
 rw [Zd,Zd,List.getElem?_drop,List.getElem?_take,if_pos hq]
theorem Zc3 {s:List UInt8} {i W:Nat} (hi:i≤W) (hW:W≤s.length) (h:∀ m,i≤m→m<W→Wy (s.getD m 0)=true):((s.take W).drop i).all Wy=true:=by
 have hl:((s.take W).drop i).length=W-i:=by rw [List.length_drop,List.length_take];omega
 refine Mk (p:=Wy) 0 fun j hj=>?_;rw [hl] at hj;rw [Zjk hW (by omega)]
 exact h _ (by omega) (by omega)
theorem jR {s:List UInt8} {i W m:Nat} (hW:W≤s.length) (h1:i≤m) (h2:m<W) (h:Wy (s.getD m 0)=false):((s.take W).drop i).all Wy=false:=by
 have hl:((s.take W).drop i).length=W-i:=by rw [List.length_drop,List.length_take];omega
 refine Ec (p:=Wy) 0 (m-i) (by omega) ?_
 rw [Zjk hW (by omega),show i+(m-i)=m by omega]
 exact h
theorem wP {s:List UInt8} {i:Nat}:(C8 s i).length≤2:=by
 have h:∀ l:List (List UInt8),(∀ x∈l,x.length≤2)→(Cu s i l).length≤2:=by
  intro l
  induction l with
  | nil=>intro _;simp [Cu]
  | cons x l ih =>
   intro hl;rw [Cu];cases qS s i x
   ·exact ih fun y hy=>hl y (List.mem_cons_of_mem _ hy)
   ·exact hl x (by simp)
 exact h lX (by decide)
def pC:Con:=Zem (fun (s:List UInt8) (i:Int)=>s.length≤1000000∧0≤i∧i<s.length) (fun s i=>nD s i.toNat)
class KeC:Prop
theorem KeC.k (_:KeC) (h:p:=by
 first|exact ⟨k+1,by exact Qt,by omega,by omega,h4,by omega⟩|skip):p:=h
class KeE:Prop
theorem KeE.k (_:KeE) (h:p:=by
 first|exact ⟨j+1,by exact Qt,by omega,by omega,Eq.mpr hQ hq,by omega⟩|skip):p:=h
class KeD:Prop
theorem KeD.k (_:KeD) (h:p:=by
 repeat' first|exact M7|with_reducible apply Zw|intro _
 all_goals try exact Qux
 all_goals try omega
 refine Zm [5,71,72,73,74,75,76,77,78,79,80,81] (fun j:Nat=>[(11,.d (.int .i64 j))]) (fun j:Nat=>[]) (fun j:Nat=>i≤j∧j≤W∧∀ m,i≤m→m<j→Wy (s.getD m 0)=true) (fun j:Nat=>W-j) i ?_ ?_ ?_
 ·exact ⟨by omega,by omega,fun m h1 h2=>absurd h2 (by omega)⟩
 ·exact Qt
 rintro j ⟨g1,g2,g3⟩;rcases Zn j W with ⟨Cp,Qq⟩|⟨Cp,Qq⟩
 ·have Qiw:=sN g1 Cp;have Zzl:Wy (s.getD j 0)=true→∀ m,i≤m→m<j+1→Wy (s.getD m 0)=true:=fun h m a b=>by
   rcases Nat.lt_or_ge m j with q|q
   ·exact g3 m a q
   ·have:m=j:=by omega
    subst this;exact h
  obtain ⟨Q,hQ⟩:=exq ((∀ m,i≤m→m<j+1→Wy (s.getD m 0)=true));rw [hQ] at Zzl;obtain ⟨d,Qv⟩:=exq (s.getD j 0);rw [Qv] at Qiw Zzl;cases Qj:Wy d with
  | true =>
   have hq:=Zzl Qj;have Qr:=@Jp;have Kq:KeE:=⟨⟩;exact Xv
  | false =>
   rw [Qiw Qj,if_neg (by simp)] at Zq
   subst Zq;have Qr:=@Jp;exact U3
 ·rw [Qto (fun m a b=>g3 m a (by omega)),if_pos rfl] at Zq
  subst Zq;have Qr:=@Jp;exact U3):p:=h
class KeG:Prop
theorem KeG.k (_:KeG) (h:p:=by
 first|exact ⟨j+1,by exact Qt,by omega,by omega,Eq.mpr hQ hq,by omega⟩|skip):p:=h
class KeF:Prop
theorem KeF.k (_:KeF) (h:p:=by
 repeat' first|exact M7|with_reducible apply Zw|intro _
 all_goals try exact Qux
 all_goals try omega
 refine Zm [5,71,72,73,74,75,76,77,78,79,80,81] (fun j:Nat=>[(11,.d (.int .i64 j))]) (fun j:Nat=>[]) (fun j:Nat=>i≤j∧j≤W∧∀ m,i≤m→m<j→Wy (s.getD m 0)=true) (fun j:Nat=>W-j) i ?_ ?_ ?_
 ·exact ⟨by omega,by omega,fun m h1 h2=>absurd h2 (by omega)⟩
 ·exact Qt
 rintro j ⟨g1,g2,g3⟩;rcases Zn j W with ⟨Cp,Qq⟩|⟨Cp,Qq⟩
 ·have Qiw:=sN g1 Cp;have Zzl:Wy (s.getD j 0)=true→∀ m,i≤m→m<j+1→Wy (s.getD m 0)=true:=fun h m a b=>by
   rcases Nat.lt_or_ge m j with q|q
   ·exact g3 m a q
   ·have:m=j:=by omega
    subst this;exact h
  obtain ⟨Q,hQ⟩:=exq ((∀ m,i≤m→m<j+1→Wy (s.getD m 0)=true));rw [hQ] at Zzl;obtain ⟨d,Qv⟩:=exq (s.getD j 0);rw [Qv] at Qiw Zzl;cases Qj:Wy d with
  | true =>
   have hq:=Zzl Qj;have Qr:=@Jp;have Kq:KeG:=⟨⟩;exact Xv
  | false =>
   rw [Qiw Qj,if_neg (by simp)] at Zq
   subst Zq;have Qr:=@Jp;exact U3
 ·rw [Qto (fun m a b=>g3 m a (by omega)),if_pos rfl] at Zq
  subst Zq;have Qr:=@Jp;exact U3):p:=h
class KeB:Prop
theorem KeB.k (_:KeB) (h:p:=by
 refine Zm [34,35,36,37,38,39,40,41,42,43,44,45] (fun k:Nat=>[(9,.d (.int .i64 k))]) (fun k:Nat=>[]) (fun k:Nat=>i≤k∧k≤s.length∧k+Km (s.drop k)=W) (fun k:Nat=>s.length-k) i ?_ ?_ ?_
 ·exact ⟨by omega,by omega,hW⟩
 ·exact Qt
 rintro k ⟨h1,h2,h3⟩;rcases Zn k s.length with ⟨Zv,Qp⟩|⟨Zv,Qp⟩
 ·rw [S6 Zv,Km] at h3;obtain ⟨d,Qv⟩:=exq (s.getD k 0);rw [Qv] at h3;cases Q3:Zdw d with
  | true =>
   rw [Q3,cond_true] at h3;have h4:k+1+Km (s.drop (k+1))=W:=by omega
   have Kq:KeC:=⟨⟩;exact Xv
  | false =>
   rw [Q3,cond_false,Nat.add_zero] at h3;rw [h3] at Qp Qv Zv;rw [h3];clear h3 h1 h2;obtain ⟨P,Jh⟩:=exq ((s.take W).drop i);rw [Jh] at Zq Qux;have sN:=fun {m:Nat} (a1:i≤m) (a2:m<W) (a3:Wy (s.getD m 0)=false)=>jR Qu2 a1 a2 a3;have Qto:=Zc3 (s:=s) Qzp Qu2;rw [Jh] at sN Qto;cases Jb:Mm P with
   | true =>
    rw [Jb,if_pos rfl] at Zq;subst Zq;have Qr:=@Jp;exact U3
   | false =>
   rw [Jb,if_neg (by simp)] at Zq
   cases Z3:rM P with
   | true =>
    rw [Z3,if_pos rfl] at Zq;subst Zq;have Qr:=@Jp;exact U3
   | false =>
   rw [Z3,if_neg (by simp)] at Zq
   cases Z6:Wr P with
   | true =>
    rw [Z6,if_pos rfl] at Zq;subst Zq;have Qr:=@Jp;exact U3
   | false =>
   rw [Z6,if_neg (by simp)] at Zq
   by_cases h0:0<Km (s.drop i)
   ·rw [if_pos h0] at Zq;have Z7:Wd (i:Int) (W:Int)=true:=by rw [Jj];omega
    have Qx:(W:Int)-(i:Int)=(Km (s.drop i):Int):=by omega
    have Qr:=@Jp;have Kq:KeD:=⟨⟩;exact Ae
   ·rw [if_neg h0] at Zq;have Z7:Wd (i:Int) (W:Int)=false:=by rw [Q7];omega
    obtain ⟨g,Qm⟩:=exq (C8 s i);rw [Qm] at Zq;have Qzh:g.length≤2:=by rw [←Qm];exact wP
    have Qg:(g != [])=!(g==[]):=rfl;subst Zq;have Qr:=@Jp;exact U3
 ·rw [List.drop_eq_nil_of_le Zv] at h3;have h3':k=W:=by simpa [Km] using h3
  rw [h3'] at Qp Zv;rw [h3'];clear h3 h1 h2 h3';obtain ⟨P,Jh⟩:=exq ((s.take W).drop i);rw [Jh] at Zq Qux;have sN:=fun {m:Nat} (a1:i≤m) (a2:m<W) (a3:Wy (s.getD m 0)=false)=>jR Qu2 a1 a2 a3;have Qto:=Zc3 (s:=s) Qzp Qu2;rw [Jh] at sN Qto;cases Jb:Mm P with
  | true =>
   rw [Jb,if_pos rfl] at Zq;subst Zq;have Qr:=@Jp;exact U3
  | false =>
  rw [Jb,if_neg (by simp)] at Zq
  cases Z3:rM P with
  | true =>
   rw [Z3,if_pos rfl] at Zq;subst Zq;have Qr:=@Jp;exact U3
  | false =>
  rw [Z3,if_neg (by simp)] at Zq
  cases Z6:Wr P with
  | true =>
   rw [Z6,if_pos rfl] at Zq;subst Zq;have Qr:=@Jp;exact U3
  | false =>
  rw [Z6,if_neg (by simp)] at Zq
  by_cases h0:0<Km (s.drop i)
  ·rw [if_pos h0] at Zq;have Z7:Wd (i:Int) (W:Int)=true:=by rw [Jj];omega
   have Qx:(W:Int)-(i:Int)=(Km (s.drop i):Int):=by omega
   have Qr:=@Jp;have Kq:KeF:=⟨⟩;exact Ae
  ·rw [if_neg h0] at Zq;have Z7:Wd (i:Int) (W:Int)=false:=by rw [Q7];omega
   obtain ⟨g,Qm⟩:=exq (C8 s i);rw [Qm] at Zq;have Qzh:g.length≤2:=by rw [←Qm];exact wP
   have Qg:(g != [])=!(g==[]):=rfl;subst Zq;exfalso;omega):p:=h
theorem good_one2:Qc Tryz.prog (143,pC):=by
 obtain ⟨Kx,Kt,Kc,Kd,Kb,Ku,Kw,K,X4,V2,Mo,Tx,jB,vK,Za6,_⟩:=J7 Zx Zo [] false (Q1 good_Unquote1 D3.eq_def (Q1 good_goes2 iZ.eq_def (Q1 good_IsTag1 wY (Q1 good_IsKey2 cG.eq_def (Q1 good_IsWord1 Aj (Q1 good_figure2 A8.eq_def (Q1 good_sign2 gS.eq_def J5)))))));have Ko:=pC.eq_def;refine J9 K Tryz.func143 [.cell 4 141,.tmp 5] rfl 100 rfl (fun c hc Ji Zh=>?_);unfold pC at Zh;obtain ⟨s,i,rfl,hs,Znb,Zbb⟩:=Zel Zh;obtain ⟨i,rfl⟩:∃ n:Nat,i=n:=⟨i.toNat,by omega⟩
 clear Zh;have hi:i<s.length:=by omega
 obtain ⟨R,Ql⟩:=exq (nD s i);have Zq:=Ql;unfold nD at Zq;obtain ⟨c,Qk⟩:=exq (s.getD i 0);rw [Qk] at Zq;have Qo:((c.toNat:Int)==34)=(c==34):=Nw (b:=34);by_cases Qcd:c=34
 ·rw [if_pos Qcd] at Zq;have Qi:(c==34)=true:=Zj.2 Qcd;have fP:(s.drop i).length≤1000000:=by rw [List.length_drop];omega
  have hU:=Zfj (s:=s.drop i);have Qw7:(dE (s.drop i)).2.2≠0→(dE (s.drop i)).2.1=0:=by
   intro h;unfold dE at h ⊢;split at h
   ·rename_i a;rw [if_pos a]
   ·rename_i a;rw [if_neg a];exact wA h
  obtain ⟨⟨x,n,e⟩,Qn⟩:=exq (dE (s.drop i));rw [Qn] at Zq hU Qw7;simp only at Zq hU Qw7;rw [List.length_drop] at hU;have hn:0≤n∧n≤1000000:=by
   by_cases he:e=0
   ·have:=hU he;omega
   ·have:=Qw7 he;omega
  subst Zq;cases hc;refine W5 6 ?_;have Qr:=@Jp;exact U3
 have Qi:(c==34)=false:=Za.2 Qcd;rw [if_neg Qcd] at Zq;have Qme:=mO (s.drop i);rw [List.length_drop] at Qme;obtain ⟨W,hW⟩:=exq (i+Km (s.drop i));have Qzp:i≤W:=by omega
 have Qu2:W≤s.length:=by omega
 unfold Ks at Zq;rw [hW] at Zq;have Jbu:(i:Int)+(Km (s.drop i):Int)=(W:Int):=by omega
 rw [Jbu] at Zq;have Qux:((s.take W).drop i).length≤9223372036854775807:=by rw [List.length_drop,List.length_take];omega
 cases hc;refine W5 6 ?_;have Kq:KeB:=⟨⟩;exact Xv
theorem Qal {s:List UInt8} {i:Nat} (hi:i<s.length) (h:(nD s i).2=true):∃ n:Nat,(nD s i).1.to=n∧i+1≤n∧n≤s.length:=by
 unfold nD at h ⊢;have hw:=mO (s.drop i);rw [List.length_drop] at hw;have qE:(Ks s i).length=Km (s.drop i):=by unfold Ks;rw [List.length_drop,List.length_take];omega
 split at h
 ·rename_i a;rw [if_pos a];have hU:=Zfj (s:=s.drop i) (by simpa using h)
  rw [List.length_drop] at hU;exact ⟨i+(dE (s.drop i)).2.1.toNat,by show (i:Int)+(dE (s.drop i)).2.1=_;omega,by omega,by omega⟩
 rename_i a;rw [if_neg a];have Cq:∀ {k:Int} {x:List UInt8},x≠[]→x=Ks s i→∃ n:Nat,(Tok.mk k x i (i+Km (s.drop i))).to=n∧i+1≤n∧n≤s.length:=fun {k x} hx he=>by
  have:x.length≠0:=by simpa using hx
  rw [he,qE] at this;exact ⟨i+Km (s.drop i),rfl,by omega,by omega⟩
 split at h
 ·rename_i a;rw [if_pos a];exact Cq (Zkq a) rfl
 rename_i a;rw [if_neg a];split at h
 ·rename_i a;rw [if_pos a];refine Cq ?_ rfl;intro e;rw [e] at a;exact absurd a (by decide)
 rename_i a;rw [if_neg a];split at h
 ·rename_i a;rw [if_pos a];exact Cq (Zdq a) rfl
 rename_i a;rw [if_neg a];split at h
 ·rename_i a;rw [if_pos a];split at h
  ·rename_i b;rw [if_pos b];exact ⟨i+Km (s.drop i),rfl,by omega,by omega⟩
  ·cases h
 ·rename_i a;rw [if_neg a];have hs:C8 s i≠[]:=by simpa using h
  have hl:∀ l:List (List UInt8),Cu s i l≠[]→i+(Cu s i l).length≤s.length:=by
   intro l
   induction l with
   | nil=>intro h;exact absurd rfl h
   | cons x l ih =>
    rw [Cu];cases hx:qS s i x with
    | false=>exact ih
    | true =>
     intro _;rw [cond_true];unfold qS at hx;rw [Zg,Q9] at hx;omega
  have:=hl lX hs;have h0:(C8 s i).length≠0:=by simpa using hs
  unfold C8 at h0;exact ⟨i+(C8 s i).length,rfl,by unfold C8;omega,by unfold C8;omega⟩
def Ic:Con:=Uf (fun (s:List UInt8)=>s.length≤9223372036854775807) (fun s=>(⟨(Lh s).1⟩,(Lh s).2.1,(Lh s).2.2):List UInt8→Sl Tok×Int×Int)
class KeI:Prop
theorem KeI.k (_:KeI) (h:p:=by
 first|exact ⟨(f,b1,out++[Tok.mk tk tt tf n]),by rw [hS];exact Qt,by simp only;omega,by simp only;omega,by simp only [Ze,Zi,List.length_nil];omega,h4,by simp only;omega⟩|skip):p:=h
class KeJ:Prop
theorem KeJ.k (_:KeJ) (h:p:=by
 first|(rw [hS];rfl)|(rw [hS])|rfl|skip):p:=h
class KeH:Prop
theorem KeH.k (_:KeH) (h:p:=by
 refine Zm [2,3,4,7,8,15,16,17,18,19,20,21,22,23,24,25,26,27,28,29,30,31,32,33,34,35] (fun p:Nat×Nat×List Tok=>[(5,.sl 12 (p.2.2.map (enc:Tok→D)).length),(6,.d (.int .i64 p.2.1))]) (fun p:Nat×Nat×List Tok=>[(12,.row 4 (p.2.2.map enc) 0)]) (fun p:Nat×Nat×List Tok=>s.length+1≤p.1+p.2.1∧p.2.1≤s.length∧p.2.2.length≤p.2.1∧Iv p.1 s p.2.1 p.2.2=(R1,R2,R3)) (fun p:Nat×Nat×List Tok=>s.length-p.2.1) (s.length+1,b0,[]) ?_ ?_ ?_
 ·exact ⟨by simp only;omega,by simp only;omega,by simp,Zq⟩
 ·exact Qt
 rintro ⟨f,i,out⟩ ⟨h1,h2,h3,h4⟩;simp only at h1 h2 h3 h4;obtain ⟨f,rfl⟩:∃ g,f=g+1:=⟨f-1,by omega⟩
 rw [Iv] at h4;have Qv:(out.map (enc:Tok→D)).length=out.length:=Zf ..;rcases Zn i s.length with ⟨Zv,Qn⟩|⟨Zv,Qn⟩
 ·rw [if_neg (by omega)] at h4
  have Qsu:=Qal Zv;obtain ⟨⟨t,ok⟩,Ql⟩:=exq (nD s i);rw [Ql] at h4 Qsu;simp only at h4 Qsu;cases ok with
  | false =>
   rw [if_pos rfl] at h4;injection h4 with e1 e2
   injection e2 with e2 e3
   subst e1 e2 e3;have Q3:=@Jp;have Jh:=@Bh;exact U3
  | true =>
   rw [if_neg (by simp)] at h4
   obtain ⟨n,hn,Qs8,Qpu⟩:=Qsu rfl;have Qlc:=fC (s:=s) Qpu;obtain ⟨tk,tt,tf,tto⟩:=t;simp only at hn;subst hn;simp only [Zl] at h4;obtain ⟨b1,Qp⟩:=exq (dW s n);rw [Qp] at h4 Qlc;have hS:(out++[Tok.mk tk tt tf n]).map (enc:Tok→D)=out.map enc++[.agg [.int .i64 tk,.str tt,.int .i64 tf,.int .i64 n]]:=by rw [List.map_append];rfl
   have Q3:=@Jp;have Jh:=@Bh;have Kq:KeI:=⟨⟩;exact Xv
 ·rw [if_pos (by omega)] at h4
  injection h4 with e1 e2
  injection e2 with e2 e3
  subst e1 e2 e3;have hS:(out++[Tok.mk 0 [] s.length s.length]).map (enc:Tok→D)=out.map enc++[.agg [.int .i64 0,.str [],.int .i64 s.length,.int .i64 s.length]]:=by rw [List.map_append];rfl
  have Qfd:((out++[Tok.mk 0 [] s.length s.length]).map (enc:Tok→D)).length=out.length+1:=by simp
  have Q3:=@Jp;have Jh:=@Bh;have Kq:KeJ:=⟨⟩;exact Xv):p:=h
theorem good_Tokens2:Qc Tryz.prog (103,Ic):=by
 obtain ⟨Kx,Kt,Kc,Kd,Kb,Ku,Kw,K,X4,V2,_⟩:=J7 Zx Zo [] false (Q1 good_between2 D2.eq_def (Q1 good_one2 pC.eq_def J5));have Ko:=Ic.eq_def;refine J9 K Tryz.func103 [.tmp 2,.tmp 3,.tmp 4] rfl 45 rfl (fun c hc Ji Zh=>?_);unfold Ic at Zh;obtain ⟨s,rfl,hs⟩:=Zaa Zh;clear Zh;obtain ⟨⟨R1,R2,R3⟩,Qo⟩:=exq (Lh s);have Zq:=Qo;unfold Lh at Zq;by_cases h0:100000<s.length
 ·rw [if_pos h0] at Zq;have Qk:Wd 100000 (s.length:Int)=true:=by rw [Jj];omega
  injection Zq with e1 e2
  injection e2 with e2 e3
  subst e1 e2 e3;cases hc;refine W5 2 ?_;have Q3:=@Bh;exact U3
 have Qk:Wd 100000 (s.length:Int)=false:=by rw [Q7];omega
 rw [if_neg h0] at Zq;have Qi2:=fC (s:=s) (i:=0) (by omega)
 obtain ⟨b0,Qi⟩:=exq (dW s 0);rw [Qi] at Zq Qi2;cases hc;refine W5 2 ?_;have Q3:=@Int.toNat_zero;have Jh:=@Bh;have Kq:KeH:=⟨⟩;exact Xv
theorem Hh {l:List Tok} {k:Nat}:tk l (k:Int)=l.getD k Us:=by unfold tk;rw [Zl]
def Bt:Con:=Um (fun (_:St4) (_ _:Int)=>True) (fun s i e=>Ur s i e)
theorem A0:Qc Tryz.prog (264,Bt):=by
 obtain ⟨Kx,Kt,Kc,Kd,Kb,Ku,Kw,K,_⟩:=J7 Zx Zo [] false J5;have Ko:=Bt.eq_def;refine J9 K Tryz.func264 [.cell 6 261] rfl 12 rfl (fun c hc Ji Zh=>?_);unfold Bt at Zh;obtain ⟨s,i,e,rfl,-⟩:=Vb Zh;obtain ⟨R,Qk⟩:=exq (Ur s i e);have Qo:R=⟨i,s.site,s.sites,e⟩:=Qk.symm;cases hc;have Qi:=@A3;have Qn:=@Wx;have Ql:=@W3;have Qp:=@Al;exact U3
def bS:Con:=Um (fun (l:Sl Tok) (i:Int) (_:List UInt8)=>l.l.length≤1000000∧0≤i) (fun l i x=>Da l.l i x)
theorem oD:Qc Tryz.prog (263,bS):=by
 obtain ⟨Kx,Kt,Kc,Kd,Kb,Ku,Kw,K,_⟩:=J7 Zx Zo [] false J5;have Ko:=bS.eq_def;refine J9 K Tryz.func263 [.tmp 6] rfl 28 rfl (fun c hc Ji Zh=>?_);unfold bS at Zh;obtain ⟨⟨l⟩,i,x,rfl,hl,hi⟩:=Vb Zh;simp only at hl;obtain ⟨i,rfl⟩:∃ n:Nat,i=n:=⟨i.toNat,by omega⟩
 clear Zh;obtain ⟨R,Qn⟩:=exq (Da l i x);have Ql:=Qn;unfold Da at Ql;rw [Hh] at Ql;rcases Zn i l.length with ⟨Zv,Qk⟩|⟨Zv,Qk⟩
 ·have Qo:=Zp Us Zv;obtain ⟨t,ht⟩:=exq (l.getD i Us);rw [ht] at Qo Ql;rw [Qk,Bool.true_and] at Ql;obtain ⟨b1,Qi⟩:=exq ((t.kind==5));rw [Qi] at Ql;cases b1 with
  | false =>
   rw [Bool.false_and] at Ql;subst Ql;cases hc;have Qp:=@Jp;have Qv:=@Ww;have Q3:=@W0;have Jh:=@Wv;have Jb:=@Bh;exact U3
  | true =>
   rw [Bool.true_and] at Ql;cases hc;have Qp:=@Jp;have Qv:=@Ww;have Q3:=@W0;have Jh:=@Wv;have Jb:=@Bh;exact U3
 ·rw [Qk,Bool.false_and] at Ql;subst Ql;cases hc;have Qp:=@Jp;have Qv:=@Ww;have Q3:=@W0;have Jh:=@Wv;have Jb:=@Bh;exact qB
def iK:Con:=Xj (fun (_:Tok)=>True) (fun t=>kE t)
class KeK:Prop
theorem KeK.k (_:KeK) (h:p:=by
 first|(rw [←Zq];clear Zq Qk K;simp_all;done)|(symm;rw [←Zq];clear Zq Qk K;simp_all;done)|skip):p:=h
theorem good_base4:Qc Tryz.prog (267,iK):=by
 obtain ⟨Kx,Kt,Kc,Kd,Kb,Ku,Kw,K,_⟩:=J7 Zx Zo [] false J5;have Ko:=iK.eq_def;refine J9 K Tryz.func267 [.tmp 2] rfl 16 rfl (fun c hc Ji Zh=>?_);unfold iK at Zh;obtain ⟨t,rfl,-⟩:=Q8 Zh;clear Zh;obtain ⟨R,Qk⟩:=exq (kE t);have Zq:=Qk;unfold kE at Zq;cases hc;have Qo:=@Jp;have Qi:=@Ww;have Qn:=@W0;have Ql:=@Wv;have Qp:=@Bh;have Kq:KeK:=⟨⟩;exact Xv
def Rm:Con:=Um (fun (l:Sl Tok) (s:St4) (_:List UInt8)=>l.l.length≤1000000∧0≤s.at_∧s.at_≤2000000) (fun l s x=>Vu l.l s x)
theorem tN:Qc Tryz.prog (269,Rm):=by
 obtain ⟨Kx,Kt,Kc,Kd,Kb,Ku,Kw,K,X4,V2,_⟩:=J7 Zx Zo [] false (Q1 oD bS.eq_def (Q1 A0 Bt.eq_def J5));have Ko:=Rm.eq_def;refine J9 K Tryz.func269 [.cell 6 261] rfl 26 rfl (fun c hc Ji Zh=>?_);unfold Rm at Zh;obtain ⟨⟨l⟩,s,x,rfl,hl,Zb6,mF⟩:=Vb Zh;simp only at hl;clear Zh;obtain ⟨R,Qo⟩:=exq (Vu l s x);rcases Ma l s x with ⟨h1,Ql⟩|⟨h1,Ql⟩|⟨h1,Ql,h3⟩
 ·have Qi:R=s:=Qo.symm.trans Ql;have Qk:(s.e != 0)=true:=bne_iff_ne.2 h1;cases hc;have Qp:=@A3;have Qv:=@Wx;have Q3:=@W3;have Jh:=@Al;exact qB
 ·have Qi:R=Ur s s.at_ 2:=Qo.symm.trans Ql;have Qk:(s.e != 0)=false:=by rw [h1];rfl
  have Qn:Da l s.at_ x=false:=by
   cases hb:Da l s.at_ x with
   | false=>rfl
   | true =>
    unfold Vu at Ql;rw [if_neg (by simpa using h1),hb,if_neg (by simp)] at Ql
    have:=congrArg St4.e Ql;rw [show (Yv s).e=s.e from rfl,h1] at this;exact absurd this (by show ¬ (0:Int)=2;decide)
  cases hc;have Qp:=@A3;have Qv:=@Wx;have Q3:=@W3;have Jh:=@Al;exact U3
 ·have Qi:R=⟨s.at_+1,s.site,s.sites,s.e⟩:=Qo.symm.trans h3;have Qk:(s.e != 0)=false:=by rw [h1];rfl
  cases hc;have Qp:=@A3;have Qv:=@Wx;have Q3:=@W3;have Jh:=@Al;exact U3
def bR:Con:=Jy (fun (k:Int) (s:List UInt8)=>(k=6∨k=7)∧s.length≤9223372036854775807) (fun k s=>Ub k s)
class KeL:Prop
theorem KeL.k (_:KeL) (h:p:=by
 first|(rw [←Zq];simp_all;done)|(symm;rw [←Zq];simp_all;done)|skip):p:=h
class KeM:Prop
theorem KeM.k (_:KeM) (h:p:=by
 first|(rw [←Zq];simp_all;done)|(symm;rw [←Zq];simp_all;done)|skip):p:=h
theorem good_label3:Qc Tryz.prog (275,bR):=by
 obtain ⟨Kx,Kt,Kc,Kd,Kb,Ku,Kw,K,X4,V2,_⟩:=J7 Zx Zo [] false (Q1 good_IsTag1 wY (Q1 good_IsWord1 Aj J5));have Ko:=bR.eq_def;refine J9 K Tryz.func275 [.tmp 4] rfl 19 rfl (fun c hc Ji Zh=>?_);unfold bR at Zh;obtain ⟨k,s,rfl,hk,hs⟩:=Qf Zh;clear Zh;obtain ⟨R,Qo⟩:=exq (Ub k s);have Zq:=Qo;unfold Ub at Zq;obtain ⟨w,Qk⟩:=exq (Wr s);obtain ⟨g,Qi⟩:=exq (Mm s);rw [Qk,Qi] at Zq;rcases hk with rfl|rfl
 ·rw [if_neg (by decide)] at Zq
  cases hc;have Kq:KeL:=⟨⟩;exact Xv
 ·rw [if_pos rfl] at Zq;cases hc;have Kq:KeM:=⟨⟩;exact Xv
def wE (types:List (List Node)):Nat:=(types.map List.length).sum
theorem Qjh {types:List (List Node)} {k:Nat} (h:k<types.length):(types.getD k []).length≤wE types:=by
 unfold wE
 induction types generalizing k with
 | nil=>simp at h
 | cons t types ih =>
  rw [List.map_cons,List.sum_cons];cases k with
  | zero=>simp
  | succ k =>
   have:=ih (k:=k) (by simpa using h)
   rw [List.getD_cons_succ];omega
def Qby (labels:List (List UInt8)) (types:List (List Node)):Prop:=labels.length=types.length∧1≤types.length∧types.length≤50∧wE types≤1000000∧(∀ t∈types,t≠[])∧∀ x∈labels,x.length≤9223372036854775807
def pG:Con:=Yy (fun (k:Int) (labels:Sl (List UInt8)) (types:Sl (Sl Node))=>(k=6∨k=7)∧Qby labels.l (types.l.map Sl.l)) (fun k labels types=>((⟨(jK k labels.l (types.l.map Sl.l)).1⟩,(jK k labels.l (types.l.map Sl.l)).2):Sl Node×Int))
theorem yP {types:List (Sl Node)} {k:Nat}:(types.map Sl.l).getD k []=(types.getD k ⟨[]⟩).l:=by
 rw [Zd,Zd,List.getElem?_map];cases types[k]?<;>rfl
class KeO:Prop
theorem KeO.k (_:KeO) (h:p:=by
 first|exact Or.inr trivial|exact ⟨j+1,by exact Qt,by omega,Eq.mpr hQ hq,by omega⟩|skip):p:=h
class KeR:Prop
theorem KeR.k (_:KeR) (h:p:=by
 first|exact ⟨m+1,by rw [hb',hS];exact Qt,by omega,by omega⟩|skip):p:=h
class KeS:Prop
theorem KeS.k (_:KeS) (h:p:=by
 first|exact ⟨m+1,by rw [hb',Qi3];exact Qt,by omega,by omega⟩|skip):p:=h
class KeT:Prop
theorem KeT.k (_:KeT) (h:p:=by
 first|exact ⟨m+1,by rw [hb',hS];exact Qt,by omega,by omega⟩|skip):p:=h
class KeU:Prop
theorem KeU.k (_:KeU) (h:p:=by
 first|exact ⟨m+1,by rw [hb',hS];exact Qt,by omega,by omega⟩|skip):p:=h
class KeV:Prop
theorem KeV.k (_:KeV) (h:p:=by
 first|exact ⟨(i+1,x,O2),by (have Vc:=Q5;have Cs:=Qi4;exact Qt),by simp only;omega,by simp only;rw [show types.length-(i+1)=types.length-i-1 by omega];exact h2,by simp only;omega,by simp only;omega⟩|skip):p:=h
class KeQ:Prop
theorem KeQ.k (_:KeQ) (h:p:=by
 repeat' first|exact M7|with_reducible apply Zw|intro _
 all_goals try with_reducible exact uL
 refine Zm [66,67,68,69,70,71,72,73,74,75,76,77,78,79,80,81,82,83,84,85,86,87,88,89,90,91,92,93] (fun m:Nat=>[(12,.d (.int .i64 (Vm labels done m))),(13,.d (.int .i64 m))]) (fun m:Nat=>[]) (fun m:Nat=>m≤types.length) (fun m:Nat=>types.length-m) 0 ?_ ?_ ?_
 ·omega
 ·have Vc:=@Vm.eq_1;have Cs:=@Vm.eq_2;exact Qt
 rintro m hm;have Za8:=Rz labels done m;rcases Zn m types.length with ⟨Qwk,Jb⟩|⟨Qwk,Jb⟩
 ·have Ql:=Zp ([]:List UInt8) (show m<labels.length by omega)
  have hS:Vm labels done (m+1)=cond (Op.bytesLess done (labels.getD m [])&&(Wd (Vm labels done m) 0||Op.bytesLess (labels.getD m []) (labels.getD (Vm labels done m).toNat []))) (m:Int) (Vm labels done m):=rfl;have hB:Vm labels done m=-1∨(0≤Vm labels done m∧Vm labels done m<m):=by
   rcases Za8 with ⟨h,_⟩|⟨b,Qj,he,_⟩
   ·exact .inl h
   ·exact .inr ⟨by omega,by omega⟩
  clear Za8;obtain ⟨b,Qj⟩:=exq (Vm labels done m);obtain ⟨b',hb'⟩:=exq (Vm labels done (m+1));rw [Qj] at hB hS;rw [hb'] at hS;rw [Qj];obtain ⟨x,hx⟩:=exq (labels.getD m []);rw [hx] at Ql hS;have Z3:=less_not x done;cases Zhs:Op.bytesLess done x with
  | false =>
   rw [Zhs,Bool.false_and,cond_false] at hS;rw [Zhs,Bool.not_false] at Z3;have Kq:KeR:=⟨⟩;exact Xv
  | true =>
   rw [Zhs,Bool.true_and] at hS;rw [Zhs,Bool.not_true] at Z3;rcases hB with hB|⟨Qpf,Qz9⟩
   ·subst hB;have Qi3:b'=m:=hS;have Kq:KeS:=⟨⟩;exact Xv
   ·obtain ⟨p,rfl⟩:=Int.eq_ofNat_of_zero_le Qpf;have Z6:=Zp ([]:List UInt8) (show p<labels.length by omega)
    have Z7:Wd (p:Int) 0=false:=by rw [Q7];omega
    rw [Zl] at hS;obtain ⟨y,hy⟩:=exq (labels.getD p []);rw [hy] at Z6 hS;rw [Z7,Bool.false_or] at hS;cases Qq:Op.bytesLess x y with
    | true =>
     rw [Qq,cond_true] at hS;have Kq:KeT:=⟨⟩;exact Xv
    | false =>
     rw [Qq,cond_false] at hS;have Kq:KeU:=⟨⟩;exact Xv
 ·have Qtc:m=types.length:=by omega
  rw [Qtc] at Za8 Jb;rw [Qtc];rcases Za8 with ⟨Qj,_⟩|⟨b,Qo0,Qj,_⟩
  ·rw [Qj] at h2;rw [if_pos (by decide)] at h2
   injection h2 with e1 e2
   subst e1 e2;exact U3
  ·rw [Qj] at h2;rw [if_neg (by omega),Zl] at h2
   have Ql:=Zp ([]:List UInt8) (show b<labels.length by omega)
   have Qm:=Zp (⟨[]⟩:Sl Node) Qo0;obtain ⟨t1,t2⟩:=Qpn b Qo0;rw [Qw8 b] at h2;have Qx:Wd (b:Int) 0=false:=by rw [Q7];omega
   obtain ⟨x,hx⟩:=exq (labels.getD b []);rw [hx] at Ql h2;obtain ⟨⟨u⟩,hu⟩:=exq (types.getD b ⟨[]⟩);rw [hu] at Qm t1 t2 h2;simp only at t1 t2 h2;cases u with
   | nil=>exact absurd rfl t1
   | cons y r =>
    have Jk:=Og (P:=out) (n:=y) (r:=r) (s:=x);have Qr:=eT (P:=out) (n:=y) (r:=r);have Qg:out.map (enc:Node→D)++(y::r).map enc=(out++y::r).map enc:=by simp
    have Q5:(out++y::r).length=out.length+(r.length+1):=by simp
    have Q4:((out++y::r).map (enc:Node→D)).length=out.length+(r.length+1):=by rw [Zf,Q5]
    have Qi4:(out++named x (y::r)).length=out.length+(r.length+1):=by rw [Ze,Mb];rfl
    simp only [Zi] at t2;obtain ⟨O2,Qxc⟩:=exq (out++named x (y::r));rw [Qxc] at h2 Jk Qi4;obtain ⟨Q,hQ⟩:=exq (out++y::r);rw [hQ] at Jk Qr Qg Q5 Q4;obtain ⟨yr,Qmc⟩:=exq (y::r);rw [Qmc] at Qm Qg;have Qsr:yr.length=r.length+1:=by rw [←Qmc];rfl
    have Jf:(yr.map (enc:Node→D)).length=r.length+1:=by rw [Zf,Qsr]
    have Kq:KeV:=⟨⟩;exact Xv):p:=h
class KeP:Prop
theorem KeP.k (_:KeP) (h:p:=by
 repeat' first|exact M7|with_reducible apply Zw|intro _
 all_goals try with_reducible exact uL
 refine Zm [6,7,12,13,14,60,61,62,63,64,65,66,67,68,69,70,71,72,73,74,75,76,77,78,79,80,81,82,83,84,85,86,87,88,89,90,91,92,93,94,95,96,97,98,99,100,101,102,103,104,105,106,107,108,109,110,111,112] (fun p:Nat×List UInt8×List Node=>[(9,.sl 59 (p.2.2.map (enc:Node→D)).length),(10,.d (.str p.2.1)),(11,.d (.int .i64 p.1))]) (fun p:Nat×List UInt8×List Node=>[(59,.row 3 (p.2.2.map enc) 0)]) (fun p:Nat×List UInt8×List Node=>p.1≤types.length∧nZ labels T (types.length-p.1) p.2.1 p.2.2=(R1,R2)∧p.2.2.length≤1+1000000*p.1) (fun p:Nat×List UInt8×List Node=>types.length-p.1) (0,[],[⟨6,[],types.length⟩]) ?_ ?_ ?_
 ·exact ⟨by simp,Zq,by simp⟩
 ·have Vc:=@Zz;exact Qt
 rintro ⟨i,done,out⟩ ⟨h1,h2,h3⟩;simp only at h1 h2 h3;have Qw:(out.map (enc:Node→D)).length=out.length:=Zf ..;rcases Zn i types.length with ⟨L9,Jh⟩|⟨L9,Jh⟩
 ·rw [show types.length-i=(types.length-i-1)+1 by omega,nZ,Qo2] at h2
  have Kq:KeQ:=⟨⟩;exact Ae
 ·have Zna:types.length-i=0:=by omega
  rw [Zna] at h2;injection h2 with e1 e2
  subst e1 e2;exact U3):p:=h
class KeN:Prop
theorem KeN.k (_:KeN) (h:p:=by
 repeat' first|exact M7|with_reducible apply Zw|intro _
 all_goals try with_reducible exact uL
 all_goals try exact Or.inr trivial
 refine Zm [6,7,42,43,44,45,46,47,48,49,50,51,52,53,54] (fun j:Nat=>[(8,.d (.int .i64 j))]) (fun j:Nat=>[]) (fun j:Nat=>j≤types.length∧∀ m,m<j→Ub 6 (labels.getD m [])=true) (fun j:Nat=>types.length-j) 0 ?_ ?_ ?_
 ·simp
 ·exact Qt
 rintro j ⟨hj,Jl⟩;rcases Zn j types.length with ⟨Cp,Qn⟩|⟨Cp,Qn⟩
 ·have Ql:=Zp ([]:List UInt8) (show j<labels.length by omega)
  have Qn2:=r6 (labels.getD j []) (by simp [show j<labels.length by omega])
  have Jg:Ub 6 (labels.getD j [])=true→∀ m,m<j+1→Ub 6 (labels.getD m [])=true:=fun h=>Vd Jl h;obtain ⟨Q,hQ⟩:=exq ((∀ m,m<j+1→Ub 6 (labels.getD m [])=true));rw [hQ] at Jg;have Qs:Ub 6 (labels.getD j [])=false→((List.range types.length).all fun k=>Ub 6 (labels.getD k []))=false:=fun h=>Hc j Cp h;obtain ⟨x,hx⟩:=exq (labels.getD j []);rw [hx] at Ql Qn2 Jg Qs;cases Qp:Ub 6 x with
  | true =>
   have hq:=Jg Qp;have Kq:KeO:=⟨⟩;exact Xv
  | false =>
   rw [Qs Qp,if_pos rfl] at Zq;injection Zq with e1 e2
   subst e1 e2;exact U3
 ·rw [U4 (fun m hm=>Jl m (by omega)),if_neg (by simp)] at Zq
  have Kq:KeP:=⟨⟩;exact Ae):p:=h
class KeX:Prop
theorem KeX.k (_:KeX) (h:p:=by
 first|exact Or.inr trivial|exact ⟨j+1,by exact Qt,by omega,Eq.mpr hQ hq,by omega⟩|skip):p:=h
class Kfa:Prop
theorem Kfa.k (_:Kfa) (h:p:=by
 first|exact ⟨m+1,by rw [hb',hS];exact Qt,by omega,by omega⟩|skip):p:=h
class Kfb:Prop
theorem Kfb.k (_:Kfb) (h:p:=by
 first|exact ⟨m+1,by rw [hb',Qi3];exact Qt,by omega,by omega⟩|skip):p:=h
class Kfc:Prop
theorem Kfc.k (_:Kfc) (h:p:=by
 first|exact ⟨m+1,by rw [hb',hS];exact Qt,by omega,by omega⟩|skip):p:=h
class Kfd:Prop
theorem Kfd.k (_:Kfd) (h:p:=by
 first|exact ⟨m+1,by rw [hb',hS];exact Qt,by omega,by omega⟩|skip):p:=h
class Kfe:Prop
theorem Kfe.k (_:Kfe) (h:p:=by
 first|exact ⟨(i+1,x,O2),by (have Vc:=Q5;have Cs:=Qi4;exact Qt),by simp only;omega,by simp only;rw [show types.length-(i+1)=types.length-i-1 by omega];exact h2,by simp only;omega,by simp only;omega⟩|skip):p:=h
class KeZ:Prop
theorem KeZ.k (_:KeZ) (h:p:=by
 repeat' first|exact M7|with_reducible apply Zw|intro _
 all_goals try with_reducible exact uL
 refine Zm [66,67,68,69,70,71,72,73,74,75,76,77,78,79,80,81,82,83,84,85,86,87,88,89,90,91,92,93] (fun m:Nat=>[(12,.d (.int .i64 (Vm labels done m))),(13,.d (.int .i64 m))]) (fun m:Nat=>[]) (fun m:Nat=>m≤types.length) (fun m:Nat=>types.length-m) 0 ?_ ?_ ?_
 ·omega
 ·have Vc:=@Vm.eq_1;have Cs:=@Vm.eq_2;exact Qt
 rintro m hm;have Za8:=Rz labels done m;rcases Zn m types.length with ⟨Qwk,Jb⟩|⟨Qwk,Jb⟩
 ·have Ql:=Zp ([]:List UInt8) (show m<labels.length by omega)
  have hS:Vm labels done (m+1)=cond (Op.bytesLess done (labels.getD m [])&&(Wd (Vm labels done m) 0||Op.bytesLess (labels.getD m []) (labels.getD (Vm labels done m).toNat []))) (m:Int) (Vm labels done m):=rfl;have hB:Vm labels done m=-1∨(0≤Vm labels done m∧Vm labels done m<m):=by
   rcases Za8 with ⟨h,_⟩|⟨b,Qj,he,_⟩
   ·exact .inl h
   ·exact .inr ⟨by omega,by omega⟩
  clear Za8;obtain ⟨b,Qj⟩:=exq (Vm labels done m);obtain ⟨b',hb'⟩:=exq (Vm labels done (m+1));rw [Qj] at hB hS;rw [hb'] at hS;rw [Qj];obtain ⟨x,hx⟩:=exq (labels.getD m []);rw [hx] at Ql hS;have Z3:=less_not x done;cases Zhs:Op.bytesLess done x with
  | false =>
   rw [Zhs,Bool.false_and,cond_false] at hS;rw [Zhs,Bool.not_false] at Z3;have Kq:Kfa:=⟨⟩;exact Xv
  | true =>
   rw [Zhs,Bool.true_and] at hS;rw [Zhs,Bool.not_true] at Z3;rcases hB with hB|⟨Qpf,Qz9⟩
   ·subst hB;have Qi3:b'=m:=hS;have Kq:Kfb:=⟨⟩;exact Xv
   ·obtain ⟨p,rfl⟩:=Int.eq_ofNat_of_zero_le Qpf;have Z6:=Zp ([]:List UInt8) (show p<labels.length by omega)
    have Z7:Wd (p:Int) 0=false:=by rw [Q7];omega
    rw [Zl] at hS;obtain ⟨y,hy⟩:=exq (labels.getD p []);rw [hy] at Z6 hS;rw [Z7,Bool.false_or] at hS;cases Qq:Op.bytesLess x y with
    | true =>
     rw [Qq,cond_true] at hS;have Kq:Kfc:=⟨⟩;exact Xv
    | false =>
     rw [Qq,cond_false] at hS;have Kq:Kfd:=⟨⟩;exact Xv
 ·have Qtc:m=types.length:=by omega
  rw [Qtc] at Za8 Jb;rw [Qtc];rcases Za8 with ⟨Qj,_⟩|⟨b,Qo0,Qj,_⟩
  ·rw [Qj] at h2;rw [if_pos (by decide)] at h2
   injection h2 with e1 e2
   subst e1 e2;exact U3
  ·rw [Qj] at h2;rw [if_neg (by omega),Zl] at h2
   have Ql:=Zp ([]:List UInt8) (show b<labels.length by omega)
   have Qm:=Zp (⟨[]⟩:Sl Node) Qo0;obtain ⟨t1,t2⟩:=Qpn b Qo0;rw [Qw8 b] at h2;have Qx:Wd (b:Int) 0=false:=by rw [Q7];omega
   obtain ⟨x,hx⟩:=exq (labels.getD b []);rw [hx] at Ql h2;obtain ⟨⟨u⟩,hu⟩:=exq (types.getD b ⟨[]⟩);rw [hu] at Qm t1 t2 h2;simp only at t1 t2 h2;cases u with
   | nil=>exact absurd rfl t1
   | cons y r =>
    have Jk:=Og (P:=out) (n:=y) (r:=r) (s:=x);have Qr:=eT (P:=out) (n:=y) (r:=r);have Qg:out.map (enc:Node→D)++(y::r).map enc=(out++y::r).map enc:=by simp
    have Q5:(out++y::r).length=out.length+(r.length+1):=by simp
    have Q4:((out++y::r).map (enc:Node→D)).length=out.length+(r.length+1):=by rw [Zf,Q5]
    have Qi4:(out++named x (y::r)).length=out.length+(r.length+1):=by rw [Ze,Mb];rfl
    simp only [Zi] at t2;obtain ⟨O2,Qxc⟩:=exq (out++named x (y::r));rw [Qxc] at h2 Jk Qi4;obtain ⟨Q,hQ⟩:=exq (out++y::r);rw [hQ] at Jk Qr Qg Q5 Q4;obtain ⟨yr,Qmc⟩:=exq (y::r);rw [Qmc] at Qm Qg;have Qsr:yr.length=r.length+1:=by rw [←Qmc];rfl
    have Jf:(yr.map (enc:Node→D)).length=r.length+1:=by rw [Zf,Qsr]
    have Kq:Kfe:=⟨⟩;exact Xv):p:=h
class KeY:Prop
theorem KeY.k (_:KeY) (h:p:=by
 repeat' first|exact M7|with_reducible apply Zw|intro _
 all_goals try with_reducible exact uL
 refine Zm [6,7,12,13,14,60,61,62,63,64,65,66,67,68,69,70,71,72,73,74,75,76,77,78,79,80,81,82,83,84,85,86,87,88,89,90,91,92,93,94,95,96,97,98,99,100,101,102,103,104,105,106,107,108,109,110,111,112] (fun p:Nat×List UInt8×List Node=>[(9,.sl 59 (p.2.2.map (enc:Node→D)).length),(10,.d (.str p.2.1)),(11,.d (.int .i64 p.1))]) (fun p:Nat×List UInt8×List Node=>[(59,.row 3 (p.2.2.map enc) 0)]) (fun p:Nat×List UInt8×List Node=>p.1≤types.length∧nZ labels T (types.length-p.1) p.2.1 p.2.2=(R1,R2)∧p.2.2.length≤1+1000000*p.1) (fun p:Nat×List UInt8×List Node=>types.length-p.1) (0,[],[⟨7,[],types.length⟩]) ?_ ?_ ?_
 ·exact ⟨by simp,Zq,by simp⟩
 ·have Vc:=@Zz;exact Qt
 rintro ⟨i,done,out⟩ ⟨h1,h2,h3⟩;simp only at h1 h2 h3;have Qw:(out.map (enc:Node→D)).length=out.length:=Zf ..;rcases Zn i types.length with ⟨L9,Jh⟩|⟨L9,Jh⟩
 ·rw [show types.length-i=(types.length-i-1)+1 by omega,nZ,Qo2] at h2
  have Kq:KeZ:=⟨⟩;exact Ae
 ·have Zna:types.length-i=0:=by omega
  rw [Zna] at h2;injection h2 with e1 e2
  subst e1 e2;exact U3):p:=h
class KeW:Prop
theorem KeW.k (_:KeW) (h:p:=by
 repeat' first|exact M7|with_reducible apply Zw|intro _
 all_goals try with_reducible exact uL
 all_goals try exact Or.inr trivial
 refine Zm [6,7,42,43,44,45,46,47,48,49,50,51,52,53,54] (fun j:Nat=>[(8,.d (.int .i64 j))]) (fun j:Nat=>[]) (fun j:Nat=>j≤types.length∧∀ m,m<j→Ub 7 (labels.getD m [])=true) (fun j:Nat=>types.length-j) 0 ?_ ?_ ?_
 ·simp
 ·exact Qt
 rintro j ⟨hj,Jl⟩;rcases Zn j types.length with ⟨Cp,Qn⟩|⟨Cp,Qn⟩
 ·have Ql:=Zp ([]:List UInt8) (show j<labels.length by omega)
  have Qn2:=r6 (labels.getD j []) (by simp [show j<labels.length by omega])
  have Jg:Ub 7 (labels.getD j [])=true→∀ m,m<j+1→Ub 7 (labels.getD m [])=true:=fun h=>Vd Jl h;obtain ⟨Q,hQ⟩:=exq ((∀ m,m<j+1→Ub 7 (labels.getD m [])=true));rw [hQ] at Jg;have Qs:Ub 7 (labels.getD j [])=false→((List.range types.length).all fun k=>Ub 7 (labels.getD k []))=false:=fun h=>Hc j Cp h;obtain ⟨x,hx⟩:=exq (labels.getD j []);rw [hx] at Ql Qn2 Jg Qs;cases Qp:Ub 7 x with
  | true =>
   have hq:=Jg Qp;have Kq:KeX:=⟨⟩;exact Xv
  | false =>
   rw [Qs Qp,if_pos rfl] at Zq;injection Zq with e1 e2
   subst e1 e2;exact U3
 ·rw [U4 (fun m hm=>Jl m (by omega)),if_neg (by simp)] at Zq
  have Kq:KeY:=⟨⟩;exact Ae):p:=h
theorem good_Row3:Qc Tryz.prog (274,pG):=by
 obtain ⟨Kx,Kt,Kc,Kd,Kb,Ku,Kw,K,X4,_⟩:=J7 Zx Zo [] false (Q1 good_label3 bR.eq_def J5);have Ko:=pG.eq_def;refine J9 K Tryz.func274 [.tmp 6,.tmp 7] rfl 114 rfl (fun c hc Ji Zh=>?_);unfold pG at Zh;obtain ⟨k,⟨labels⟩,⟨types⟩,rfl,hk,Qt0⟩:=Mi Zh;simp only at Qt0;obtain ⟨r1,r2,r3,r4,r5,r6⟩:Qby labels (types.map Sl.l):=Qt0;rw [Zf] at r1 r2 r3;clear Zh;obtain ⟨⟨R1,R2⟩,Qv⟩:=exq (jK k labels (types.map Sl.l));have Zq:=Qv;unfold jK at Zq;rw [Zf,if_neg (by omega)] at Zq
 have Qk:((labels.length:Int) != (types.length:Int))=false:=by rw [bne_eq_false_iff_eq];omega
 have Qo:Wd 50 (types.length:Int)=false:=by rw [Q7];omega
 have Qi:((types.length:Int)==0)=false:=by rw [Za];omega
 have Qpn:∀ j,j<types.length→(types.getD j ⟨[]⟩).l≠[]∧(types.getD j ⟨[]⟩).l.length≤1000000:=fun j hj=>by
  have h1:=Qjh (types:=types.map Sl.l) (k:=j) (by rw [Zf];exact hj)
  rw [yP] at h1;refine ⟨r5 _ ?_,by omega⟩
  rw [List.mem_map];exact ⟨_,by simp [hj],rfl⟩
 have Qo2:(types.map Sl.l).length=types.length:=Zf ..;have Qw8:=fun k=>yP (types:=types) (k:=k);obtain ⟨T,Q3⟩:=exq (types.map Sl.l);rw [Q3] at Qv Zq Qo2 Qw8;clear r5 r4;cases hc;refine W5 7 ?_;rcases hk with rfl|rfl
 ·have Kq:KeN:=⟨⟩;exact Ae
 ·have Kq:KeW:=⟨⟩;exact Ae
def Zbx {A B C E F H R S:Type} [Enc A] [Enc B] [Enc C] [Enc E] [Enc F] [Enc H] [Enc R] [Enc S] (p:A→B→C→E→F→H→Prop) (f:A→B→C→E→F→H→R×S):Con:=⟨[false,false,false,false,false,false],[false,false],fun c=>match c with
 | [.d x,.d y,.d z,.d w,.d u,.d v]=>Ul A x∧Ul B y∧Ul C z∧Ul E w∧Ul F u∧Ul H v∧p (dec x) (dec y) (dec z) (dec w) (dec u) (dec v)
 | _=>False,fun c=>match c with
 | [.d x,.d y,.d z,.d w,.d u,.d v]=>.tup [.d (enc (f (dec x) (dec y) (dec z) (dec w) (dec u) (dec v)).1),.d (enc (f (dec x) (dec y) (dec z) (dec w) (dec u) (dec v)).2)]
 | _=>.d .nilp⟩
theorem Zlx {A B C E F H R S:Type} [Enc A] [Enc B] [Enc C] [Enc E] [Enc F] [Enc H] [Enc R] [Enc S] {p:A→B→C→E→F→H→Prop} {f:A→B→C→E→F→H→R×S} {c:List CV} (h:(Zbx p f).pre c) :
  ∃ a b d e g i,c=[.d (enc a),.d (enc b),.d (enc d),.d (enc e),.d (enc g),.d (enc i)]∧p a b d e g i:=by
 unfold Zbx at h;simp only at h;split at h
 ·next x y z w u v=>exact ⟨dec x,dec y,dec z,dec w,dec u,dec v,by rw [←h.1,←h.2.1,←h.2.2.1,←h.2.2.2.1,←h.2.2.2.2.1,←h.2.2.2.2.2.1],h.2.2.2.2.2.2⟩
 ·exact h.elim
structure St4Ok (l:List Tok) (s:St4):Prop where
 len:l.length≤100000
 lo:0≤s.at_
 hi:s.at_≤l.length
 sites:(s.sites.length:Int)≤1000000+s.at_
 site:0≤s.site∧s.site≤1000000+s.at_
 txt:∀ t∈l,t.text.length≤9223372036854775807
def Wj (n:Nat):Con:=Yy (fun (l:Sl Tok) (s:St4) (v:Int)=>St4Ok l.l s∧1≤v∧v≤100∧3*(101-v)+2<n) (fun l s v=>((⟨(Xo (101-v).toNat l.l s).1⟩,(Xo (101-v).toNat l.l s).2):Sl Node×St4))
theorem T3:type_of% @Wj.eq_def:=@Wj.eq_def
def Te (n:Nat):Con:=Yy (fun (l:Sl Tok) (s:St4) (v:Int)=>St4Ok l.l s∧1≤v∧v≤100∧3*(101-v)+1<n) (fun l s v=>((⟨(La (Xo (100-v).toNat) (100-v).toNat l.l s).1⟩,(La (Xo (100-v).toNat) (100-v).toNat l.l s).2):Sl Node×St4))
def S8 (n:Nat):Con:=Zbx (fun (l:Sl Tok) (s:St4) (v k:Int) (_ _:List UInt8)=>(St4Ok l.l s∧s.e=0∧1≤s.at_)∧(k=6∨k=7)∧1≤v∧v≤100∧3*(101-v)+3<n) (fun l s v k a b=>((⟨(tQ (Xo (101-v).toNat) l.l s k a b).1⟩,(tQ (Xo (101-v).toNat) l.l s k a b).2):Sl Node×St4))
structure IH4 (n:Nat):Prop where
 whole:Qc Tryz.prog (259,Wj n)
 atom:Qc Tryz.prog (262,Te n)
 rows:Qc Tryz.prog (268,S8 n)
theorem vQ:∀ c,¬ (Wj 0).pre c:=by
 intro c h;unfold Wj at h;obtain ⟨_,_,_,_,_,_,_,h⟩:=Mi h;omega
theorem zU:∀ c,¬ (Te 0).pre c:=by
 intro c h;unfold Te at h;obtain ⟨_,_,_,_,_,_,_,h⟩:=Mi h;omega
theorem zM:∀ c,¬ (S8 0).pre c:=by
 intro c h;unfold S8 at h;obtain ⟨_,_,_,_,_,_,_,_,_,_,_,h⟩:=Zlx h;omega
theorem lQ {l:List Tok} {s:St4} {r:List Node×St4} (h:St4Ok l s) (hE:Eats l s r) (he:r.2.e=0):St4Ok l r.2:=by
 obtain ⟨h1,h2,h3,h4,h5,h6⟩:=h;have h7:=(hE.ok he).2.1;obtain ⟨h8,h9,Jcw⟩:=hE.sites he;exact ⟨h1,hE.lo,h7,by omega,by omega,h6⟩
theorem Zfm (n:Nat) (ih:IH4 n):Qc Tryz.prog (259,(Wj (n+1))):=by
 obtain ⟨Kx,Kt,Kc,Kd,Kb,Ku,Kw,K,X4,V2,Mo,Tx,jB,_⟩:=J7 Zx Zo [] false (Q1 ih.atom (Te.eq_def n) (Q1 ih.whole (T3 n) (Q1 oD bS.eq_def (Q1 A0 Bt.eq_def (Q1 good_Arrow3 cN.eq_def J5)))));have Ko:=(T3 (n+1));refine J9 K Tryz.func259 [.tmp 6,.cell 7 261] rfl 53 rfl (fun c hc Ji Zh=>?_);unfold Wj at Zh;obtain ⟨⟨l⟩,s,v,rfl,hS,aW,jD,hn⟩:=Mi Zh;simp only at hS;clear Zh;obtain ⟨d,hd⟩:∃ d:Nat,v=100-d:=⟨(100-v).toNat,by omega⟩
 subst hd;have Qk:(101-(100-(d:Int))).toNat=d+1:=by omega
 have Qo:(100-(100-(d:Int))).toNat=d:=by omega
 have Jh:(101-(100-(d:Int)+1)).toNat=d:=by omega
 obtain ⟨R,Ql⟩:=exq (Xo (d+1) l s);have Zq:=Ql;rw [Xo] at Zq;have Qt5:=Zed (l:=l) (w:=Xo d) (d:=d) (s:=s) (fun hd s' h1 h2=>Ny d s' hd h1 h2) hS.lo hS.hi;obtain ⟨⟨a,q⟩,Qi⟩:=exq (La (Xo d) d l s);rw [Qi] at Zq Qt5;simp only at Zq;have mN:=Qt5.lo;have Ob:=Qt5.hi;have hL:=hS.len;have Qle:=Qt5.len;simp only at mN Ob Qle;have Qs4:q.e=0→St4Ok l q:=fun h=>lQ hS Qt5 h;obtain ⟨qa,qi,qs,qe⟩:=q;simp only at mN Ob Zq Qs4;have Qu9:a.length≤100000:=by have:=hS.lo;omega
 cases hc;refine W5 3 ?_;by_cases he:qe=0
 case neg =>
  rw [if_pos (.inl he)] at Zq;have Qn:(qe != 0)=true:=bne_iff_ne.2 he;subst Zq;have Z3:=@A3;have Z6:=@Wx;have Z7:=@W3;have Qq:=@Al;exact U3
 have Qn:(qe != 0)=false:=by rw [he];rfl
 cases Qp:Da l qa [45,62] with
 | false =>
  rw [if_pos (.inr Qp)] at Zq;subst Zq;have Z3:=@A3;have Z6:=@Wx;have Z7:=@W3;have Qq:=@Al;exact U3
 | true =>
  rw [if_neg (by rw [Qp];simp [he])] at Zq
  by_cases Zh8:d=0
  ·rw [if_pos Zh8] at Zq;have Qv:Xp 100 (100-(d:Int))=true:=by rw [Q9];omega
   have Q3:Ur ⟨qa,qi,qs,qe⟩ qa 4=⟨qa,qi,qs,4⟩:=rfl;rw [Q3] at Zq;subst Zq;have Z3:=@A3;have Z6:=@Wx;have Z7:=@W3;have Qq:=@Al;exact U3
  rw [if_neg Zh8] at Zq;have Qv:Xp 100 (100-(d:Int))=false:=by rw [←Bool.not_eq_true,Q9];omega
  have Zv:=F9 Qp;have Qir:=Qs4 he;have dZ:St4Ok l ⟨qa+1,qi,qs,qe⟩:=by
   obtain ⟨h1,h2,h3,h4,h5,h6⟩:=Qir;simp only at h2 h3 h4 h5;exact ⟨h1,by show 0≤qa+1;omega,by show qa+1≤_;omega,by show (qs.length:Int)≤1000000+(qa+1);omega,by show 0≤qi∧qi≤1000000+(qa+1);omega,h6⟩
  have Qz4:=Ny (l:=l) d ⟨qa+1,qi,qs,qe⟩ Zh8 dZ.lo dZ.hi;have K9:Yv ⟨qa,qi,qs,qe⟩=⟨qa+1,qi,qs,qe⟩:=rfl;rw [K9] at Zq;obtain ⟨⟨b,q2⟩,Jb⟩:=exq (Xo d l ⟨qa+1,qi,qs,qe⟩);rw [Jb] at Zq Qz4;have Qtu:=Qz4.len;simp only at Zq Qtu;obtain ⟨q2a,q2i,q2s,q2e⟩:=q2;have Jaa:b.length≤100000:=by omega
  subst Zq;have Z3:=@A3;have Z6:=@Wx;have Z7:=@W3;have Qq:=@Al;exact U3
theorem yH {l:List Tok} {i:Int} {x:List UInt8} (h:Da l i x=true):(tk l i).text=x:=by
 unfold Da at h;simp only [Zg,Zj] at h;exact h.2.2
theorem rN {l:List Tok} {i:Int} {x y:List UInt8} (h:Da l i x=true) (Qfi:x≠y):Da l i y=false:=by
 cases hb:Da l i y with
 | false=>rfl
 | true=>exact absurd ((yH h).symm.trans (yH hb)) Qfi
theorem Qcn {s:List Site} {x:Site}:s.map (enc:Site→D)++[.agg [.int .i64 x.frm,.int .i64 x.to,.bool x.miss]]=(s++[x]).map enc:=by rw [List.map_append];rfl
theorem Va {a b d:Int} {c:List Site}:(enc (St4.mk a b c d):D)=.agg [.int .i64 a,.int .i64 b,.list 3 (c.map enc),.int .i64 d]:=rfl
class Kff:Prop
theorem Kff.k (_:Kff) (h:p:=by
 first|contradiction|exact hS|exact dZ|exact ⟨dZ,he,by show (1:Int)≤(k:Int)+1;omega⟩|exact Or.inr trivial|rfl|skip):p:=h
class Kfg:Prop
theorem Kfg.k (_:Kfg) (h:p:=by
 first|contradiction|exact hS|exact dZ|exact ⟨dZ,he,by show (1:Int)≤(k:Int)+1;omega⟩|exact Or.inr trivial|rfl|skip):p:=h
class Kfh:Prop
theorem Kfh.k (_:Kfh) (h:p:=by
 first|contradiction|exact hS|exact dZ|exact ⟨dZ,he,by show (1:Int)≤(k:Int)+1;omega⟩|exact Or.inr trivial|rfl|skip):p:=h
class Kfi:Prop
theorem Kfi.k (_:Kfi) (h:p:=by
 first|contradiction|exact hS|exact dZ|exact ⟨dZ,he,by show (1:Int)≤(k:Int)+1;omega⟩|exact Or.inr trivial|rfl|skip):p:=h
class Kfj:Prop
theorem Kfj.k (_:Kfj) (h:p:=by
 first|contradiction|exact hS|exact dZ|exact ⟨dZ,he,by show (1:Int)≤(k:Int)+1;omega⟩|exact Or.inr trivial|rfl|skip):p:=h
class Kfk:Prop
theorem Kfk.k (_:Kfk) (h:p:=by
 first|contradiction|exact hS|exact dZ|exact ⟨dZ,he,by show (1:Int)≤(k:Int)+1;omega⟩|exact Or.inr trivial|rfl|skip):p:=h
class Kfl:Prop
theorem Kfl.k (_:Kfl) (h:p:=by
 first|contradiction|exact hS|exact dZ|exact ⟨dZ,he,by show (1:Int)≤(k:Int)+1;omega⟩|exact Or.inr trivial|rfl|skip):p:=h
theorem stepi_atom4 (n:Nat) (ih:IH4 n):Qc Tryz.prog (262,(Te (n+1))):=by
 obtain ⟨Kx,Kt,Kc,Kd,Kb,Ku,Kw,K,X4,V2,Mo,Tx,jB,vK,_⟩:=J7 Zx Zo [] false (Q1 oD bS.eq_def (Q1 A0 Bt.eq_def (Q1 good_base4 iK.eq_def (Q1 tN Rm.eq_def (Q1 ih.rows (S8.eq_def n) (Q1 ih.whole (T3 n) J5))))));have Ko:=(Te.eq_def (n+1));refine J9 K Tryz.func262 [.tmp 6,.cell 7 261] rfl 164 rfl (fun c hc Ji Zh=>?_);unfold Te at Zh;obtain ⟨⟨l⟩,⟨k,si,ss,e⟩,v,rfl,hS,aW,jD,hn⟩:=Mi Zh;simp only at hS;clear Zh;obtain ⟨d,hd⟩:∃ d:Nat,v=100-d:=⟨(100-v).toNat,by omega⟩
 subst hd;have Qk:(100-(100-(d:Int))).toNat=d:=by omega
 have Qr:(101-(100-(d:Int)+1)).toNat=d:=by omega
 have Q5:=hS.len;have mN:=hS.lo;have Ob:=hS.hi;have Zm9:=hS.sites;have Qsv:=hS.site;simp only at mN Ob Zm9 Qsv;obtain ⟨k,rfl⟩:∃ n:Nat,k=n:=⟨k.toNat,by omega⟩
 obtain ⟨R,Qi⟩:=exq (La (Xo d) d l ⟨k,si,ss,e⟩);have Zq:=Qi;unfold La at Zq;simp only at Zq;have Jh:(ss.map (enc:Site→D)).length=ss.length:=Zf ..;cases hc;refine W5 10 ?_;by_cases he:e=0
 case neg =>
  rw [if_pos he] at Zq;have Qo:(e != 0)=true:=bne_iff_ne.2 he;subst Zq;have Ju:=@Va;have Xf:=@Wx;have Xe:=@W3;exact U3
 rw [if_neg (by simpa using he)] at Zq
 have Qo:(e != 0)=false:=by rw [he];rfl
 by_cases Zv:(l.length:Int)≤(k:Int)
 ·rw [if_pos Zv] at Zq;have Qn:Xp (l.length:Int) (k:Int)=true:=by rw [Q9];exact Zv
  subst Zq;have Ql:Ur ⟨(k:Int),si,ss,e⟩ (l.length:Int) 2=⟨l.length,si,ss,2⟩:=rfl;rw [Ql] at Qi;have Ju:=@Va;have Xf:=@Wx;have Xe:=@W3;exact U3
 rw [if_neg Zv] at Zq;have aK:k<l.length:=by omega
 have Qn:Xp (l.length:Int) (k:Int)=false:=by rw [←Bool.not_eq_true,Q9];exact Zv
 have Qv:=Zp Us aK;have vA:=hS.txt (l.getD k Us) (by simp [aK])
 have L9:=fun {x:List UInt8} (h:Da l (k:Int) x=true)=>yH h;rw [Hh] at Zq;simp only [Hh] at L9;obtain ⟨t,ht⟩:=exq (l.getD k Us);rw [ht] at Qv Zq vA;simp only [ht] at L9;cases Qp:Da l (k:Int) [63] with
 | true =>
  rw [Qp,if_pos rfl] at Zq;have Q3:=Qcn (s:=ss) (x:=⟨t.frm,t.to,false⟩);have Qil:(ss++[Site.mk t.frm t.to false]).length=ss.length+1:=by simp
  obtain ⟨S2,Qfd⟩:=exq (ss++[Site.mk t.frm t.to false]);rw [Qfd] at Q3 Qil Zq;have Jb:(S2.map (enc:Site→D)).length=ss.length+1:=by rw [Zf,Qil]
  subst Zq;have Ju:=@Jp;have Xf:=@Bh;have Xe:=@qO;have Wm:=@Va;have Wz:=@Wx;have Yj:=@W3;exact U3
 | false =>
 rw [Qp,if_neg (by simp)] at Zq
 obtain ⟨bs,Z3⟩:=exq (kE t);rw [Z3] at Zq;by_cases Qi2:0≤bs
 ·rw [if_pos Qi2] at Zq;have Z6:Xp 0 bs=true:=by rw [Q9];exact Qi2
  have Ql:Yv ⟨(k:Int),si,ss,e⟩=⟨(k:Int)+1,si,ss,e⟩:=rfl;rw [Ql] at Zq;subst Zq;have Ju:=@Jp;have Xf:=@Ww;have Xe:=@W0;have Wm:=@Wv;have Wz:=@Bh;have Yj:=@Va;have Yr:=@Wx;have Yq:=@W3;exact U3
 rw [if_neg Qi2] at Zq;have Z6:Xp 0 bs=false:=by rw [←Bool.not_eq_true,Q9];exact Qi2
 have Qg:Ur ⟨(k:Int),si,ss,e⟩ (k:Int) 4=⟨k,si,ss,4⟩:=rfl;have Qx:Ur ⟨(k:Int),si,ss,e⟩ (k:Int) 2=⟨k,si,ss,2⟩:=rfl;have K9:Yv ⟨(k:Int),si,ss,e⟩=⟨(k:Int)+1,si,ss,e⟩:=rfl;have uE:Yv ⟨(k:Int)+1,si,ss,e⟩=⟨(k:Int)+1+1,si,ss,e⟩:=rfl;rw [K9,uE,Qg,Qx] at Zq;have dZ:St4Ok l ⟨(k:Int)+1,si,ss,e⟩:=⟨Q5,by show 0≤(k:Int)+1;omega,by show (k:Int)+1≤_;omega,by show (ss.length:Int)≤1000000+((k:Int)+1);omega,by show 0≤si∧si≤1000000+((k:Int)+1);omega,hS.txt⟩
 by_cases uB:Da l (k:Int) [40]=false∧Da l (k:Int) [123]=false∧Da l (k:Int) [91]=false
 ·rw [if_pos uB] at Zq;obtain ⟨Z7,Qq,Qj⟩:=uB;subst Zq;have Ju:=@Jp;have Xf:=@Ww;have Xe:=@W0;have Wm:=@Wv;have Wz:=@Bh;have Yj:=@Va;have Yr:=@Wx;have Yq:=@W3;exact U3
 rw [if_neg uB] at Zq;have h3:Da l (k:Int) [40]=true∨(Da l (k:Int) [123]=true∨Da l (k:Int) [91]=true):=by
  cases h1:Da l (k:Int) [40] with
  | true=>exact .inl rfl
  | false =>
   cases h2:Da l (k:Int) [123] with
   | true=>exact .inr (.inl rfl)
   | false =>
    cases h3:Da l (k:Int) [91] with
    | true=>exact .inr (.inr rfl)
    | false=>exact absurd ⟨h1,h2,h3⟩ uB
 clear uB;rcases h3 with Z7|Qq|Qj
 ·have Zmq:=L9 Z7;by_cases Zh8:d=0
  ·rw [if_pos Zh8] at Zq;have Qm:Xp 100 (100-(d:Int))=true:=by rw [Q9];omega
   subst Zq;have Ju:=@Jp;have Xf:=@Ww;have Xe:=@W0;have Wm:=@Wv;have Wz:=@Bh;have Yj:=@Va;have Yr:=@Wx;have Yq:=@W3;have Kq:Kff:=⟨⟩;exact Xv
  rw [if_neg Zh8] at Zq;have Qm:Xp 100 (100-(d:Int))=false:=by rw [←Bool.not_eq_true,Q9];omega
  rw [if_neg (by rw [Zmq];simp),if_neg (by rw [Zmq];decide),if_neg (by rw [Zmq];decide)] at Zq
  have Qw:(t.text==[123])=false:=by rw [Zmq];rfl
  have Q4:(t.text==[91])=false:=by rw [Zmq];rfl
  have hE:=Ny (l:=l) d ⟨(k:Int)+1,si,ss,e⟩ Zh8 dZ.lo dZ.hi;obtain ⟨⟨wt,wq⟩,Ql⟩:=exq (Xo d l ⟨(k:Int)+1,si,ss,e⟩);rw [Ql] at Zq hE;have Qz5:=hE.lo;have Qfq:=hE.hi;simp only at Zq Qz5 Qfq;obtain ⟨wa,wi,ws,we⟩:=wq;simp only at Qz5 Qfq;obtain ⟨N,Jf⟩:=exq (Vu l ⟨wa,wi,ws,we⟩ [41]);rw [Jf] at Zq;obtain ⟨na,ni,ns,ne⟩:=N;subst Zq;have Ju:=@Jp;have Xf:=@Ww;have Xe:=@W0;have Wm:=@Wv;have Wz:=@Bh;have Yj:=@Va;have Yr:=@Wx;have Yq:=@W3;have Kq:Kfg:=⟨⟩;exact Xv
 ·have Zmq:=L9 Qq;have Z7:Da l (k:Int) [40]=false:=rN Qq (by decide)
  by_cases Zh8:d=0
  ·rw [if_pos Zh8] at Zq;have Qm:Xp 100 (100-(d:Int))=true:=by rw [Q9];omega
   subst Zq;have Ju:=@Jp;have Xf:=@Ww;have Xe:=@W0;have Wm:=@Wv;have Wz:=@Bh;have Yj:=@Va;have Yr:=@Wx;have Yq:=@W3;have Kq:Kfh:=⟨⟩;exact Xv
  rw [if_neg Zh8] at Zq;have Qm:Xp 100 (100-(d:Int))=false:=by rw [←Bool.not_eq_true,Q9];omega
  have Qw:(t.text==[123])=true:=by rw [Zmq];rfl
  cases Jk:Da l ((k:Int)+1) [125] with
  | true =>
   rw [if_pos ⟨Zmq,Jk⟩] at Zq;subst Zq;have Ju:=@Jp;have Xf:=@Ww;have Xe:=@W0;have Wm:=@Wv;have Wz:=@Bh;have Yj:=@Va;have Yr:=@Wx;have Yq:=@W3;have Kq:Kfi:=⟨⟩;exact Xv
  | false =>
   rw [if_neg (by rw [Jk];simp),if_pos Zmq] at Zq
   obtain ⟨⟨wt,wq⟩,Ql⟩:=exq (tQ (Xo d) l ⟨(k:Int)+1,si,ss,e⟩ 6 [44] [125]);rw [Ql] at Zq;obtain ⟨wa,wi,ws,we⟩:=wq;subst Zq;have Ju:=@Zbx.eq_def;have Xf:=@Jp;have Xe:=@Ww;have Wm:=@W0;have Wz:=@Wv;have Yj:=@Bh;have Yr:=@Va;have Yq:=@Wx;have Mf:=@W3;have Kq:Kfj:=⟨⟩;exact Xv
 ·have Zmq:=L9 Qj;have Z7:Da l (k:Int) [40]=false:=rN Qj (by decide)
  have Qq:Da l (k:Int) [123]=false:=rN Qj (by decide)
  by_cases Zh8:d=0
  ·rw [if_pos Zh8] at Zq;have Qm:Xp 100 (100-(d:Int))=true:=by rw [Q9];omega
   subst Zq;have Ju:=@Jp;have Xf:=@Ww;have Xe:=@W0;have Wm:=@Wv;have Wz:=@Bh;have Yj:=@Va;have Yr:=@Wx;have Yq:=@W3;have Kq:Kfk:=⟨⟩;exact Xv
  rw [if_neg Zh8] at Zq;have Qm:Xp 100 (100-(d:Int))=false:=by rw [←Bool.not_eq_true,Q9];omega
  have Qw:(t.text==[123])=false:=by rw [Zmq];rfl
  have Q4:(t.text==[91])=true:=by rw [Zmq];rfl
  rw [if_neg (by rw [Zmq];simp),if_neg (by rw [Zmq];decide),if_pos Zmq] at Zq
  obtain ⟨⟨wt,wq⟩,Ql⟩:=exq (tQ (Xo d) l ⟨(k:Int)+1,si,ss,e⟩ 7 [124] [93]);rw [Ql] at Zq;obtain ⟨wa,wi,ws,we⟩:=wq;subst Zq;have Ju:=@Zbx.eq_def;have Xf:=@Jp;have Xe:=@Ww;have Wm:=@W0;have Wz:=@Wv;have Yj:=@Bh;have Yr:=@Va;have Yq:=@Wx;have Mf:=@W3;have Kq:Kfl:=⟨⟩;exact Xv
theorem Zmf {l:List (List UInt8)} {x:List UInt8} {j:Nat} (h:j<l.length) (hx:(l.getD j []==x)=true):(l.any fun y=>y==x)=true:=fF (p:=fun y=>y==x) [] j h hx
theorem Zit {l:List (List UInt8)} {x:List UInt8}:l.map (enc:List UInt8→D)++[.str x]=(l++[x]).map enc:=by rw [List.map_append];rfl
theorem Qar {l:List (List Node)}:(l.map Sl.mk).map Sl.l=l:=by
 rw [List.map_map];have:(Sl.l∘Sl.mk:List Node→List Node)=id:=rfl;rw [this,List.map_id]
theorem Qcq {p:Prop} (h:p:=by (sym=>simp [Kt,Kc,Kd,Kb,Ku,Kw,Ko,X4,V2,Mo,Tx,jB,vK,Za6,Zmm,Zm7,Zm6,jC,Qk,Qo,Qi,Qn,Ql,Qp,Qv,Q3,Jh,Jb,Z3,Z6,Z7,Qq,Qj,Qx,Qm,Qg,Qr,Qw,Q4,Jf,Jk,Ju,Xf,Xe,Wm,Wz,Yj,Yr,Yq,Mf,Me,M6,M5,Mv,Mu,S5,S4,Bs,S3,S0,Le,Sy,Sx,Sw,Nh,Ng,Nf,Nd,Nc,Nb,Na,H9,H8,H7,H6,H5,H4,H3,H2,H1,H0,Hz,Hy,Hx,Hw,Hv,D.setCell.eq_1,Zl,Uk,qK,Zbx.eq_def,Xn,Xm,Yp,Wf,Yo,Xl,Xk,J2,T3,Pd,Z4,Qb,Ud,W3,W0,J6,U8,Gp,Zz,Z5,Vs,G5,Va,Jp,Z2,Uh,dG,Pc,Gm,Z1,Qa,Uc,Wx,Ww,Xd,Yw,W7,Gz,Hj,Z0,Qe,dR,Kg,U0,qO,Bh,Wv,Gi,Zw0,Zwz,Zwy,Zwx,Zww,Zwv,Zwu,Zwt,Zws,Zwr,Zwq,Zwp,Zwo,Zwn,Zwm,Zwl,Zwk,Zwj,Zwi,Zwh,Zwg,Zwf,Zwe,Zwd,Zwc,Zwb,Zwa,Zv9,Zv8,Zv7,Zv6,Zv5,Zv4,Zv3,Zv2,Zv1,Zv0,Zvz,Zvy,Zvx,Zvw,Zvv,Zvu,Zvt,Zvs,Zvr,Zvq,Zvp,Zvo,Zvn,Zvm,Zvl,Zvk,Zvj,Zvi,Zvh,Zvg,Zvf,Zve,Zvd,Zvc,Zvb,Zva,Zu9,Zu8,Zu7,Zu6,Zu5,Zu4,Zu3,Zu2,Zu1,Zu0,Zuz,Zuy,Zux,Zuw,Zuv,Zuu,Zut,Zus,Zur,Zuq,Zup,Zuo,Zun,Zum,Zul,Zuk,Zuj,Zui,Zuh,Zug,Zuf,Zue,Zud,Zuc,Zub,Zua,Zt9,Zt8,Zt7,Zt6,Zt5,Zt4,Zt3,Zt2,Zt1,Zt0,Ztz,Zty,Ztx,Ztw,Ztv,Ztu,Ztt,Zts,Ztr,Ztq,Ztp,Zto,Ztn,Ztm,Ztl,Ztk,Ztj,Zti,Zth,Ztg,Ztf,Zte,Ztd,Ztc,Ztb,Zta,Zs9,Zs8,Zs7,Zs6,Zs5,Zs4,Zs3,Zs2,Zs1,Zs0,Zsz,Zsy,Zsx,Zsw,Zsv,Zsu,Zst,Zss,Zsr,Zsq,Zsp,Zso,Zsn,Zsm,Zsl,Zsk,Zsj,Zsi,Zsh,Zsg,Zsf,Zse,Zsd,Zsc,Zsb,Zsa,Zr9,Zr8,Zr7,Zr6,Zr5,Zr4,Zr3,Zr2,Zr1,Zr0,Zrz,Zry,Zrx,Zrw,Zrv,Zru,Zrt,Zrs,Zrr,Zrq,Zrp,Zro,Zrn,Zrm,Zrl,Zrk,Zrj,Zri,Zrh,Zrg,Zrf,Zre,Zrd,Zrc,Zrb,Zra,Zq9,Zq8,Zq7,Zq6,Zq5,Zq4,Zq3,Zq2,Zq1,Zq0,Zqz,Zqy,Zqx,Zqw,Zqv,Zqu,Zqt,Zqs,Zqr,Zqq,Zqp,Zqo,Zqn,Zqm,Zql,Zqk,Zqj,Zqi,Zqh,Zqg,Zqf,Zqe,Zqd,Zqc,Zqb,Zqa,Zp9,Zp8,Zp7,Zp6,Zp5,Zp4,Zp3,Zp2,Zp1,Zp0,Zpz,Zpy,Zpx,Zpw,Zpv,Zpu,Zpt,Zps,Zpr,Zpq,Zpp,Zpo,Zpn,Zpm,Zpl,Zpk,Zpj,Zpi,Zph,Zpg,Zpf,Zpe,Zpd,Zpc,Zpb,Zpa,Zo9,Zo8,Zo7,Zo6,Zo5,Zo4,Zo3,Zo2,Zo1,Zo0,Zoz,Zoy,Zox,Zow,Zov,Zou,Zot,Zos,Zor,Zoq,Zop,Zoo,Zon,Zom,Zol,Zok,Zoj,Zoi,Zoh,Zog,Zof,Zoe,Zod,Zoc,Zob,Zoa,Zn9,Zn8,Zn7,Zn6,Zn5,Zn4,Zn3,Zn2,Zn1,Zn0,Znz,Zny,Znx,Znw,Znv,Znu,Znt,Zns,Znr,Znq,Znp,Zno,Znn,Znm,Znl,Znk,Znj,Zni,Znh,Zng,Znf,Zne,Znd,kU,kT,kS,kR,kP,kO,Fm,Fl,Fk,Fj,Fi,Fh,Fg,Ff,Fe,Fc,Fb,Fa,E9,E8,E7,E6,E5,E4,E3,E1,E0,Ez,Ey,Ex,Ew,Ev,Eu,Bg,Bf,Be,Bc,Bb,Ba,P9,P8,P7,P6,P5,P4,P3,P0,Pz,Py,Px,Pw,Pv,Pu,Ps,Pr,Pq,Pp,Po,Pn,Pm,Pk,Pj,Ph,Pg])):p:=h
theorem jW {p:Prop} (h:p:=by
 (sym=>simp [Kt,Kc,Kd,Kb,Ku,Kw,Ko,X4,V2,Mo,Tx,jB,vK,Za6,Zmm,Zm7,Zm6,jC,Qk,Qo,Qi,Qn,Ql,Qp,Qv,Q3,Jh,Jb,Z3,Z6,Z7,Qq,Qj,Qx,Qm,Qg,Qr,Qw,Q4,Jf,Jk,Ju,Xf,Xe,Wm,Wz,Yj,Yr,Yq,Mf,Me,M6,M5,Mv,Mu,S5,S4,Bs,S3,S0,Le,Sy,Sx,Sw,Nh,Ng,Nf,Nd,Nc,Nb,Na,H9,H8,H7,H6,H5,H4,H3,H2,H1,H0,Hz,Hy,Hx,Hw,Hv,D.setCell.eq_1,Zl,Uk,qK,Zbx.eq_def,Xn,Xm,Yp,Wf,Yo,Xl,Xk,J2,T3,Pd,Z4,Qb,Ud,W3,W0,J6,U8,Gp,Zz,Z5,Vs,G5,Va,Jp,Z2,Uh,dG,Pc,Gm,Z1,Qa,Uc,Wx,Ww,Xd,Yw,W7,Gz,Hj,Z0,Qe,dR,Kg,U0,qO,Bh,Wv,Gi,Zw0,Zwz,Zwy,Zwx,Zww,Zwv,Zwu,Zwt,Zws,Zwr,Zwq,Zwp,Zwo,Zwn,Zwm,Zwl,Zwk,Zwj,Zwi,Zwh,Zwg,Zwf,Zwe,Zwd,Zwc,Zwb,Zwa,Zv9,Zv8,Zv7,Zv6,Zv5,Zv4,Zv3,Zv2,Zv1,Zv0,Zvz,Zvy,Zvx,Zvw,Zvv,Zvu,Zvt,Zvs,Zvr,Zvq,Zvp,Zvo,Zvn,Zvm,Zvl,Zvk,Zvj,Zvi,Zvh,Zvg,Zvf,Zve,Zvd,Zvc,Zvb,Zva,Zu9,Zu8,Zu7,Zu6,Zu5,Zu4,Zu3,Zu2,Zu1,Zu0,Zuz,Zuy,Zux,Zuw,Zuv,Zuu,Zut,Zus,Zur,Zuq,Zup,Zuo,Zun,Zum,Zul,Zuk,Zuj,Zui,Zuh,Zug,Zuf,Zue,Zud,Zuc,Zub,Zua,Zt9,Zt8,Zt7,Zt6,Zt5,Zt4,Zt3,Zt2,Zt1,Zt0,Ztz,Zty,Ztx,Ztw,Ztv,Ztu,Ztt,Zts,Ztr,Ztq,Ztp,Zto,Ztn,Ztm,Ztl,Ztk,Ztj,Zti,Zth,Ztg,Ztf,Zte,Ztd,Ztc,Ztb,Zta,Zs9,Zs8,Zs7,Zs6,Zs5,Zs4,Zs3,Zs2,Zs1,Zs0,Zsz,Zsy,Zsx,Zsw,Zsv,Zsu,Zst,Zss,Zsr,Zsq,Zsp,Zso,Zsn,Zsm,Zsl,Zsk,Zsj,Zsi,Zsh,Zsg,Zsf,Zse,Zsd,Zsc,Zsb,Zsa,Zr9,Zr8,Zr7,Zr6,Zr5,Zr4,Zr3,Zr2,Zr1,Zr0,Zrz,Zry,Zrx,Zrw,Zrv,Zru,Zrt,Zrs,Zrr,Zrq,Zrp,Zro,Zrn,Zrm,Zrl,Zrk,Zrj,Zri,Zrh,Zrg,Zrf,Zre,Zrd,Zrc,Zrb,Zra,Zq9,Zq8,Zq7,Zq6,Zq5,Zq4,Zq3,Zq2,Zq1,Zq0,Zqz,Zqy,Zqx,Zqw,Zqv,Zqu,Zqt,Zqs,Zqr,Zqq,Zqp,Zqo,Zqn,Zqm,Zql,Zqk,Zqj,Zqi,Zqh,Zqg,Zqf,Zqe,Zqd,Zqc,Zqb,Zqa,Zp9,Zp8,Zp7,Zp6,Zp5,Zp4,Zp3,Zp2,Zp1,Zp0,Zpz,Zpy,Zpx,Zpw,Zpv,Zpu,Zpt,Zps,Zpr,Zpq,Zpp,Zpo,Zpn,Zpm,Zpl,Zpk,Zpj,Zpi,Zph,Zpg,Zpf,Zpe,Zpd,Zpc,Zpb,Zpa,Zo9,Zo8,Zo7,Zo6,Zo5,Zo4,Zo3,Zo2,Zo1,Zo0,Zoz,Zoy,Zox,Zow,Zov,Zou,Zot,Zos,Zor,Zoq,Zop,Zoo,Zon,Zom,Zol,Zok,Zoj,Zoi,Zoh,Zog,Zof,Zoe,Zod,Zoc,Zob,Zoa,Zn9,Zn8,Zn7,Zn6,Zn5,Zn4,Zn3,Zn2,Zn1,Zn0,Znz,Zny,Znx,Znw,Znv,Znu,Znt,Zns,Znr,Znq,Znp,Zno,Znn,Znm,Znl,Znk,Znj,Zni,Znh,Zng,Znf,Zne,Znd,kU,kT,kS,kR,kP,kO,Fm,Fl,Fk,Fj,Fi,Fh,Fg,Ff,Fe,Fc,Fb,Fa,E9,E8,E7,E6,E5,E4,E3,E1,E0,Ez,Ey,Ex,Ew,Ev,Eu,Bg,Bf,Be,Bc,Bb,Ba,P9,P8,P7,P6,P5,P4,P3,P0,Pz,Py,Px,Pw,Pv,Pu,Ps,Pr,Pq,Pp,Po,Pn,Pm,Pk,Pj,Ph,Pg];tactic =>
   try simp only [eK] at *
   try simp only [Qgv] at *
   try simp (maxSteps:=4000000) only [Qk,Qo,Qi,Qn,Ql,Qp,Qv,Q3,Jh,Jb,Z3,Z6,Z7,Qq,Qj,Qx,Qm,Qg,Qr,Qw,Q4,Jf,Jk,Ju,Xf,Xe,Wm,Wz,Yj,Yr,Yq,Mf,Me,M6,M5,Mv,Mu,S5,S4,Bs,S3,S0,Le,Sy,Sx,Sw,Nh,Ng,Nf,Nd,Nc,Nb,Na,H9,H8,H7,H6,H5,H4,H3,H2,H1,H0,Hz,Hy,Hx,Hw,Hv,D.setCell.eq_1,Zl,Uk,qK,Zbx.eq_def,Xn,Xm,Yp,Wf,Yo,Xl,Xk,J2,T3,Pd,Z4,Qb,Ud,W3,W0,J6,U8,Gp,Zz,Z5,Vs,G5,Va,Jp,Z2,Uh,dG,Pc,Gm,Z1,Qa,Uc,Wx,Ww,Xd,Yw,W7,Gz,Hj,Z0,Qe,dR,Kg,U0,qO,Bh,Wv,Gi,wI]
   repeat' first|with_reducible assumption|with_reducible apply Zw|intro _|omega|(rw [Xt];omega)
   all_goals first|with_reducible exact uL|omega|exact Kq.k)):p:=h
theorem Gx {p:Prop} (h:p:=by
 first|(sym=>simp [Kt,Kc,Kd,Kb,Ku,Kw,Ko,X4,V2,Mo,Tx,jB,vK,Za6,Zmm,Zm7,Zm6,jC,Qk,Qo,Qi,Qn,Ql,Qp,Qv,Q3,Jh,Jb,Z3,Z6,Z7,Qq,Qj,Qx,Qm,Qg,Qr,Qw,Q4,Jf,Jk,Ju,Xf,Xe,Wm,Wz,Yj,Yr,Yq,Mf,Me,M6,M5,Mv,Mu,S5,S4,Bs,S3,S0,Le,Sy,Sx,Sw,Nh,Ng,Nf,Nd,Nc,Nb,Na,H9,H8,H7,H6,H5,H4,H3,H2,H1,H0,Hz,Hy,Hx,Hw,Hv,D.setCell.eq_1,Zl,Uk,qK,Zbx.eq_def,Xn,Xm,Yp,Wf,Yo,Xl,Xk,J2,T3,Pd,Z4,Qb,Ud,W3,W0,J6,U8,Gp,Zz,Z5,Vs,G5,Va,Jp,Z2,Uh,dG,Pc,Gm,Z1,Qa,Uc,Wx,Ww,Xd,Yw,W7,Gz,Hj,Z0,Qe,dR,Kg,U0,qO,Bh,Wv,Gi,Zw0,Zwz,Zwy,Zwx,Zww,Zwv,Zwu,Zwt,Zws,Zwr,Zwq,Zwp,Zwo,Zwn,Zwm,Zwl,Zwk,Zwj,Zwi,Zwh,Zwg,Zwf,Zwe,Zwd,Zwc,Zwb,Zwa,Zv9,Zv8,Zv7,Zv6,Zv5,Zv4,Zv3,Zv2,Zv1,Zv0,Zvz,Zvy,Zvx,Zvw,Zvv,Zvu,Zvt,Zvs,Zvr,Zvq,Zvp,Zvo,Zvn,Zvm,Zvl,Zvk,Zvj,Zvi,Zvh,Zvg,Zvf,Zve,Zvd,Zvc,Zvb,Zva,Zu9,Zu8,Zu7,Zu6,Zu5,Zu4,Zu3,Zu2,Zu1,Zu0,Zuz,Zuy,Zux,Zuw,Zuv,Zuu,Zut,Zus,Zur,Zuq,Zup,Zuo,Zun,Zum,Zul,Zuk,Zuj,Zui,Zuh,Zug,Zuf,Zue,Zud,Zuc,Zub,Zua,Zt9,Zt8,Zt7,Zt6,Zt5,Zt4,Zt3,Zt2,Zt1,Zt0,Ztz,Zty,Ztx,Ztw,Ztv,Ztu,Ztt,Zts,Ztr,Ztq,Ztp,Zto,Ztn,Ztm,Ztl,Ztk,Ztj,Zti,Zth,Ztg,Ztf,Zte,Ztd,Ztc,Ztb,Zta,Zs9,Zs8,Zs7,Zs6,Zs5,Zs4,Zs3,Zs2,Zs1,Zs0,Zsz,Zsy,Zsx,Zsw,Zsv,Zsu,Zst,Zss,Zsr,Zsq,Zsp,Zso,Zsn,Zsm,Zsl,Zsk,Zsj,Zsi,Zsh,Zsg,Zsf,Zse,Zsd,Zsc,Zsb,Zsa,Zr9,Zr8,Zr7,Zr6,Zr5,Zr4,Zr3,Zr2,Zr1,Zr0,Zrz,Zry,Zrx,Zrw,Zrv,Zru,Zrt,Zrs,Zrr,Zrq,Zrp,Zro,Zrn,Zrm,Zrl,Zrk,Zrj,Zri,Zrh,Zrg,Zrf,Zre,Zrd,Zrc,Zrb,Zra,Zq9,Zq8,Zq7,Zq6,Zq5,Zq4,Zq3,Zq2,Zq1,Zq0,Zqz,Zqy,Zqx,Zqw,Zqv,Zqu,Zqt,Zqs,Zqr,Zqq,Zqp,Zqo,Zqn,Zqm,Zql,Zqk,Zqj,Zqi,Zqh,Zqg,Zqf,Zqe,Zqd,Zqc,Zqb,Zqa,Zp9,Zp8,Zp7,Zp6,Zp5,Zp4,Zp3,Zp2,Zp1,Zp0,Zpz,Zpy,Zpx,Zpw,Zpv,Zpu,Zpt,Zps,Zpr,Zpq,Zpp,Zpo,Zpn,Zpm,Zpl,Zpk,Zpj,Zpi,Zph,Zpg,Zpf,Zpe,Zpd,Zpc,Zpb,Zpa,Zo9,Zo8,Zo7,Zo6,Zo5,Zo4,Zo3,Zo2,Zo1,Zo0,Zoz,Zoy,Zox,Zow,Zov,Zou,Zot,Zos,Zor,Zoq,Zop,Zoo,Zon,Zom,Zol,Zok,Zoj,Zoi,Zoh,Zog,Zof,Zoe,Zod,Zoc,Zob,Zoa,Zn9,Zn8,Zn7,Zn6,Zn5,Zn4,Zn3,Zn2,Zn1,Zn0,Znz,Zny,Znx,Znw,Znv,Znu,Znt,Zns,Znr,Znq,Znp,Zno,Znn,Znm,Znl,Znk,Znj,Zni,Znh,Zng,Znf,Zne,Znd,kU,kT,kS,kR,kP,kO,Fm,Fl,Fk,Fj,Fi,Fh,Fg,Ff,Fe,Fc,Fb,Fa,E9,E8,E7,E6,E5,E4,E3,E1,E0,Ez,Ey,Ex,Ew,Ev,Eu,Bg,Bf,Be,Bc,Bb,Ba,P9,P8,P7,P6,P5,P4,P3,P0,Pz,Py,Px,Pw,Pv,Pu,Ps,Pr,Pq,Pp,Po,Pn,Pm,Pk,Pj,Ph,Pg];tactic =>
   try simp only [eK] at *
   try simp only [Qgv] at *
   try simp (maxSteps:=4000000) only [Qk,Qo,Qi,Qn,Ql,Qp,Qv,Q3,Jh,Jb,Z3,Z6,Z7,Qq,Qj,Qx,Qm,Qg,Qr,Qw,Q4,Jf,Jk,Ju,Xf,Xe,Wm,Wz,Yj,Yr,Yq,Mf,Me,M6,M5,Mv,Mu,S5,S4,Bs,S3,S0,Le,Sy,Sx,Sw,Nh,Ng,Nf,Nd,Nc,Nb,Na,H9,H8,H7,H6,H5,H4,H3,H2,H1,H0,Hz,Hy,Hx,Hw,Hv,D.setCell.eq_1,Zl,Uk,qK,Zbx.eq_def,Xn,Xm,Yp,Wf,Yo,Xl,Xk,J2,T3,Pd,Z4,Qb,Ud,W3,W0,J6,U8,Gp,Zz,Z5,Vs,G5,Va,Jp,Z2,Uh,dG,Pc,Gm,Z1,Qa,Uc,Wx,Ww,Xd,Yw,W7,Gz,Hj,Z0,Qe,dR,Kg,U0,qO,Bh,Wv,Gi,wI]
   repeat' first|with_reducible assumption|with_reducible apply Zw|intro _|omega|(rw [Xt];omega)
   all_goals first|with_reducible exact uL|omega|rfl|trivial|exact Or.inr trivial|assumption|contradiction|exact Qt)|exact Qcq):p:=h
class Kfo:Prop
theorem Kfo.k (_:Kfo) (h:p:=by
 first|exact ⟨j+1,by exact Qt,by omega,Eq.mpr hQ hq,by omega⟩|exact ⟨j+1,by exact Qt,by omega,fun m hm=>by have h3:=(Eq.mpr hQ hq:∀ m,m<j+1→(labels.getD m []==t.text)=false) m hm;simpa using h3,by omega⟩|skip):p:=h
class Kfp:Prop
theorem Kfp.k (_:Kfp) (h:p:=by
 first|contradiction|assumption|exact ⟨(f,qa+1,qi,qs,L2,T2),by (have Vc:=Qcc;have Cs:=Zzn;exact Qt),by simp only;omega,by simp only;omega,by simp only;omega,by simp only;omega,Qir,Qn6,Zz0,g9,by simp only;omega⟩|skip):p:=h
class Kfn:Prop
theorem Kfn.k (_:Kfn) (h:p:=by
 first|contradiction|assumption|skip
 refine Zm [12,73,74,75,76,77,78,79,80,81,82,83,84,85,86,87,88,89,90,91,92,93] (fun j:Nat=>[(17,.d (.int .i64 j))]) (fun j:Nat=>[]) (fun j:Nat=>j≤labels.length∧∀ m,m<j→(labels.getD m []==t.text)=false) (fun j:Nat=>labels.length-j) 0 ?_ ?_ ?_
 ·simp
 ·exact Qt
 rintro j ⟨hj,Jl⟩;rcases Zn j labels.length with ⟨Cp,Jh⟩|⟨Cp,Jh⟩
 ·have Jb:=Zp ([]:List UInt8) Cp;have Za2:=Zmf (x:=t.text) Cp;have Jg:(labels.getD j []==t.text)=false→∀ m,m<j+1→(labels.getD m []==t.text)=false:=fun h=>Vd Jl h;obtain ⟨Q,hQ⟩:=exq ((∀ m,m<j+1→(labels.getD m []==t.text)=false));rw [hQ] at Jg;obtain ⟨y,hy⟩:=exq (labels.getD j []);rw [hy] at Jb Za2 Jg;cases Z3:(y==t.text) with
  | true =>
   rw [if_pos (Za2 Z3)] at g9;subst g9;exact Gx
  | false =>
   have hq:=Jg Z3;have Kq:Kfo:=⟨⟩;exact jW
 ·have Za2:(labels.any fun y=>y==t.text)=false:=Eb (p:=fun y=>y==t.text) [] fun m hm=>Jl m (by omega)
  rw [if_neg (by rw [Za2];simp)] at g9
  by_cases Qfr:labels.length=50
  ·rw [if_pos Qfr] at g9;have Z7:((labels.length:Int)==50)=true:=by rw [Zj];omega
   subst g9;exact Gx
  rw [if_neg Qfr] at g9;have Z7:((labels.length:Int)==50)=false:=by rw [Za];omega
  have Qx:=Zit (l:=labels) (x:=t.text);have Qcc:(labels++[t.text]).length=labels.length+1:=by simp
  have Zz0:∀ x∈labels++[t.text],x.length≤9223372036854775807:=fun x hx=>by
   rcases List.mem_append.1 hx with h|h
   ·exact g8 x h
   ·rw [Zt] at h;subst h;exact vA
  obtain ⟨L2,Qpb⟩:=exq (labels++[t.text]);rw [Qpb] at g9 Qx Qcc Zz0;have Qj:(L2.map (enc:List UInt8→D)).length=labels.length+1:=by rw [Zf,Qcc]
  have Zm9:=g6.sites;have Qsv:=g6.site;simp only at Zm9 Qsv;have hc:=Ma l ⟨(k:Int)+1,si,ss,0⟩ [58];obtain ⟨N,Qm⟩:=exq (Vu l ⟨(k:Int)+1,si,ss,0⟩ [58]);rw [Qm] at hc g9;have Za3:St4Ok l N∧(N.e=0→(k:Int)+2≤N.at_):=by
   rcases hc with ⟨h1,_⟩|⟨_,h2⟩|⟨_,h2,h3⟩
   ·exact absurd rfl h1
   ·rw [h2];exact ⟨⟨Q5,by show 0≤(k:Int)+1;omega,by show (k:Int)+1≤l.length;omega,by show (ss.length:Int)≤1000000+((k:Int)+1);omega,by show 0≤si∧si≤1000000+((k:Int)+1);omega,Qe6⟩,fun h=>absurd h (by show (2:Int)≠0;decide)⟩
   ·have:=F9 h2;simp only at this;rw [h3];exact ⟨⟨Q5,by show 0≤(k:Int)+1+1;omega,by show (k:Int)+1+1≤l.length;omega,by show (ss.length:Int)≤1000000+((k:Int)+1+1);omega,by show 0≤si∧si≤1000000+((k:Int)+1+1);omega,Qe6⟩,fun _=>by show (k:Int)+2≤(k:Int)+1+1;omega⟩
  clear hc;obtain ⟨Za3,Qo5⟩:=Za3;have hE:=Qz1 N Za3.lo Za3.hi;have Qg:=congrFun (congrFun Qk l) N;obtain ⟨⟨u,q⟩,hr⟩:=exq (w l N);rw [hr] at hE g9 Qg;simp only at g9;obtain ⟨na,ni,ns,ne⟩:=N;have Zho:q.e=0→St4Ok l q:=fun h=>lQ Za3 hE h;have Qin:=hE.lo;have Qio:=hE.hi;have Qob:=fun h=>hE.ok h;have Zzp:=hE.err;simp only at Qin Qio Qob Qo5 Zzp;obtain ⟨qa,qi,qs,qe⟩:=q;simp only at Qin Qio Qob Zho g9 Zzp;by_cases vC:qe=0
  case neg =>
   rw [if_pos vC] at g9;have Qr:(qe != 0)=true:=bne_iff_ne.2 vC;subst g9;exact Gx
  have Qr:(qe != 0)=false:=by rw [vC];rfl
  rw [if_neg (by simpa using vC)] at g9
  obtain ⟨z1,z2,z3⟩:=Qob vC;have Zho:=Zho vC;have Qog:ne=0:=Classical.byContradiction fun h=>Zzp h vC;have Qo5:=Qo5 Qog;subst vC;have Qpn:wE (types++[u])=wE types+u.length:=by unfold wE;simp
  have Qn6:∀ t∈types++[u],t≠[]:=fun x hx=>by
   rcases List.mem_append.1 hx with h|h
   ·exact g7 x h
   ·rw [Zt] at h;subst h;exact z3
  have Zzn:(types++[u]).length=types.length+1:=by simp
  have Jf:(types.map Sl.mk).map (enc:Sl Node→D)++[enc (Sl.mk u)]=((types++[u]).map Sl.mk).map enc:=by rw [List.map_append,List.map_append];rfl
  obtain ⟨T2,Qu5⟩:=exq (types++[u]);rw [Qu5] at g9 Qpn Qn6 Zzn Jf;have Q4:((T2.map Sl.mk).map (enc:Sl Node→D)).length=types.length+1:=by rw [Zf,Zf,Zzn]
  have Jk:=Qar (l:=T2);have Qw9:Qby L2 T2:=⟨by omega,by omega,by omega,by omega,Qn6,Zz0⟩
  cases Ju:Da l qa bt with
  | false =>
   rw [if_pos Ju] at g9;obtain ⟨N2,Xf⟩:=exq (Vu l ⟨qa,qi,qs,0⟩ fin);obtain ⟨⟨row,re⟩,Xe⟩:=exq (jK 6 L2 T2);rw [Xf,Xe] at g9;obtain ⟨n2a,n2i,n2s,n2e⟩:=N2;subst g9;exact Gx
  | true =>
   rw [if_neg (by rw [Ju];simp)] at g9
   have uE:Yv ⟨qa,qi,qs,0⟩=⟨qa+1,qi,qs,0⟩:=rfl;rw [uE] at g9;have Zv:=F9 Ju;have Qir:St4Ok l ⟨qa+1,qi,qs,0⟩:=by
    obtain ⟨h1,h2,h3,h4,h5,h6⟩:=Zho;simp only at h2 h3 h4 h5;exact ⟨h1,by show 0≤qa+1;omega,by show qa+1≤_;omega,by show (qs.length:Int)≤1000000+(qa+1);omega,by show 0≤qi∧qi≤1000000+(qa+1);omega,h6⟩
   have Kq:Kfp:=⟨⟩;exact jW):p:=h
class Kfm:Prop
theorem Kfm.k (_:Kfm) (h:p:=by
 refine Zm [12,16,17,18,19,20,21,24,25,26,27,28,29,30,31,32,33,34,35,36,37,38,39,40,41,42,43,44,45,46,47,48,49,50,51,52,53,54,55,56,57,58,59,60,61,62,63,64,65,66,67,68,69,70,71,72,73,74,75,76,77,78,79,80,81,82,83,84,85,86,87,88,89,90,91,92,93,94,95,96,97,98,99,100,101,102,103,104,105,106,107,108,109,110,111,112,113,114,115,116,117,118,119,120,121,122,123,124,125,126,127,128,129,130,131,132,133,134,135,136,137,138,139,140,141,142,143,144,145,146,147,148,149,150,151,152,153,154,155] (fun p:Nat×Int×Int×List Site×List (List UInt8)×List (List Node)=>[(14,.sl 22 (p.2.2.2.2.1.map (enc:List UInt8→D)).length),(15,.sl 23 ((p.2.2.2.2.2.map Sl.mk).map (enc:Sl Node→D)).length)]) (fun p:Nat×Int×Int×List Site×List (List UInt8)×List (List Node)=>[(7,.box true [.d (.int .i64 p.2.1),.d (.int .i64 p.2.2.1),.d (.list 3 (p.2.2.2.1.map enc)),.d (.int .i64 0)]),(22,.row 1 (p.2.2.2.2.1.map enc) 0),(23,.row 1 ((p.2.2.2.2.2.map Sl.mk).map enc) 0)]) (fun p:Nat×Int×Int×List Site×List (List UInt8)×List (List Node)=>p.1+p.2.2.2.2.1.length=51∧p.2.2.2.2.1.length≤50∧p.2.2.2.2.1.length=p.2.2.2.2.2.length∧(wE p.2.2.2.2.2:Int)≤p.2.1∧St4Ok l ⟨p.2.1,p.2.2.1,p.2.2.2.1,0⟩∧(∀ t∈p.2.2.2.2.2,t≠[])∧(∀ x∈p.2.2.2.2.1,x.length≤9223372036854775807)∧Cv w l 6 bt fin p.1 ⟨p.2.1,p.2.2.1,p.2.2.2.1,0⟩ p.2.2.2.2.1 p.2.2.2.2.2=R) (fun p:Nat×Int×Int×List Site×List (List UInt8)×List (List Node)=>51-p.2.2.2.2.1.length) (51,k0,si0,ss0,[],[]) ?_ ?_ ?_
 ·exact ⟨rfl,by simp,rfl,by show (0:Int)≤k0;omega,hS,by simp,by simp,Zq⟩
 ·exact Qt
 rintro ⟨f,k,si,ss,labels,types⟩ ⟨g1,g2,g3,g4,g6,g7,g8,g9⟩;simp only at g1 g2 g3 g4 g6 g7 g8 g9;have mN:=g6.lo;have Ob:=g6.hi;simp only at mN Ob;obtain ⟨k,rfl⟩:∃ n:Nat,k=n:=⟨k.toNat,by omega⟩
 obtain ⟨f,rfl⟩:∃ g,f=g+1:=⟨f-1,by omega⟩
 rw [Cv] at g9;simp only [Hh] at g9;have Qi:Ur ⟨(k:Int),si,ss,0⟩ (k:Int) 2=⟨k,si,ss,2⟩:=rfl;have Z6:Ur ⟨(k:Int),si,ss,0⟩ (k:Int) 7=⟨k,si,ss,7⟩:=rfl;have Qq:Ur ⟨(k:Int),si,ss,0⟩ (k:Int) 3=⟨k,si,ss,3⟩:=rfl;have K9:Yv ⟨(k:Int),si,ss,0⟩=⟨(k:Int)+1,si,ss,0⟩:=rfl;rw [Qi,Z6,Qq,K9] at g9;have Qk3:Zck 6=1:=by decide
 have Zzz:uJ l 6 ⟨(k:Int),si,ss,0⟩=(Xp l.length (k:Int)||(!((l.getD k Us).kind==1)||!Wr (l.getD k Us).text)):=by
  unfold uJ;rw [Qk3];simp only [Hh];simp
 have Q3:(labels.map (enc:List UInt8→D)).length=labels.length:=Zf ..;have Qw:((types.map Sl.mk).map (enc:Sl Node→D)).length=types.length:=by rw [Zf,Zf]
 have Qwn:(((6:Int)==7)=false):=by decide
 cases Qo:Xp l.length (k:Int) with
 | true =>
  rw [if_pos (by rw [Zzz,Qo];rfl)] at g9
  subst g9;exact Gx
 | false =>
 have aK:k<l.length:=by rw [←Bool.not_eq_true,Q9] at Qo;omega
 have Ql:=Zp Us aK;have vA:=Qe6 (l.getD k Us) (by simp [aK])
 obtain ⟨t,ht⟩:=exq (l.getD k Us);rw [ht] at Ql vA g9 Zzz;cases X7:(t.kind==1) with
 | false =>
  have Qp:(t.kind != 1)=true:=by rw [bne,X7];rfl
  rw [if_pos (by rw [Zzz,Qo,X7];rfl)] at g9
  subst g9;exact Gx
 | true =>
 have Qp:(t.kind != 1)=false:=by rw [bne,X7];rfl
 cases Qv:Wr t.text with
 | false =>
  rw [if_pos (by rw [Zzz,Qo,X7,Qv];rfl)] at g9
  subst g9;exact Gx
 | true =>
 rw [if_neg (by rw [Zzz,Qo,X7,Qv];simp)] at g9
 have Kq:Kfn:=⟨⟩;exact jW):p:=h
class Kfs:Prop
theorem Kfs.k (_:Kfs) (h:p:=by
 first|exact ⟨j+1,by exact Qt,by omega,Eq.mpr hQ hq,by omega⟩|exact ⟨j+1,by exact Qt,by omega,fun m hm=>by have h3:=(Eq.mpr hQ hq:∀ m,m<j+1→(labels.getD m []==t.text)=false) m hm;simpa using h3,by omega⟩|skip):p:=h
class Kft:Prop
theorem Kft.k (_:Kft) (h:p:=by
 first|contradiction|assumption|exact ⟨(f,qa+1,qi,qs,L2,T2),by (have Vc:=Qcc;have Cs:=Zzn;exact Qt),by simp only;omega,by simp only;omega,by simp only;omega,by simp only;omega,Qir,Qn6,Zz0,g9,by simp only;omega⟩|skip):p:=h
class Kfr:Prop
theorem Kfr.k (_:Kfr) (h:p:=by
 first|contradiction|assumption|skip
 refine Zm [12,73,74,75,76,77,78,79,80,81,82,83,84,85,86,87,88,89,90,91,92,93] (fun j:Nat=>[(17,.d (.int .i64 j))]) (fun j:Nat=>[]) (fun j:Nat=>j≤labels.length∧∀ m,m<j→(labels.getD m []==t.text)=false) (fun j:Nat=>labels.length-j) 0 ?_ ?_ ?_
 ·simp
 ·exact Qt
 rintro j ⟨hj,Jl⟩;rcases Zn j labels.length with ⟨Cp,Jh⟩|⟨Cp,Jh⟩
 ·have Jb:=Zp ([]:List UInt8) Cp;have Za2:=Zmf (x:=t.text) Cp;have Jg:(labels.getD j []==t.text)=false→∀ m,m<j+1→(labels.getD m []==t.text)=false:=fun h=>Vd Jl h;obtain ⟨Q,hQ⟩:=exq ((∀ m,m<j+1→(labels.getD m []==t.text)=false));rw [hQ] at Jg;obtain ⟨y,hy⟩:=exq (labels.getD j []);rw [hy] at Jb Za2 Jg;cases Z3:(y==t.text) with
  | true =>
   rw [if_pos (Za2 Z3)] at g9;subst g9;exact Gx
  | false =>
   have hq:=Jg Z3;have Kq:Kfs:=⟨⟩;exact jW
 ·have Za2:(labels.any fun y=>y==t.text)=false:=Eb (p:=fun y=>y==t.text) [] fun m hm=>Jl m (by omega)
  rw [if_neg (by rw [Za2];simp)] at g9
  by_cases Qfr:labels.length=50
  ·rw [if_pos Qfr] at g9;have Z7:((labels.length:Int)==50)=true:=by rw [Zj];omega
   subst g9;exact Gx
  rw [if_neg Qfr] at g9;have Z7:((labels.length:Int)==50)=false:=by rw [Za];omega
  have Qx:=Zit (l:=labels) (x:=t.text);have Qcc:(labels++[t.text]).length=labels.length+1:=by simp
  have Zz0:∀ x∈labels++[t.text],x.length≤9223372036854775807:=fun x hx=>by
   rcases List.mem_append.1 hx with h|h
   ·exact g8 x h
   ·rw [Zt] at h;subst h;exact vA
  obtain ⟨L2,Qpb⟩:=exq (labels++[t.text]);rw [Qpb] at g9 Qx Qcc Zz0;have Qj:(L2.map (enc:List UInt8→D)).length=labels.length+1:=by rw [Zf,Qcc]
  have Zm9:=g6.sites;have Qsv:=g6.site;simp only at Zm9 Qsv;have hc:=Ma l ⟨(k:Int)+1,si,ss,0⟩ [58];obtain ⟨N,Qm⟩:=exq (Vu l ⟨(k:Int)+1,si,ss,0⟩ [58]);rw [Qm] at hc g9;have Za3:St4Ok l N∧(N.e=0→(k:Int)+2≤N.at_):=by
   rcases hc with ⟨h1,_⟩|⟨_,h2⟩|⟨_,h2,h3⟩
   ·exact absurd rfl h1
   ·rw [h2];exact ⟨⟨Q5,by show 0≤(k:Int)+1;omega,by show (k:Int)+1≤l.length;omega,by show (ss.length:Int)≤1000000+((k:Int)+1);omega,by show 0≤si∧si≤1000000+((k:Int)+1);omega,Qe6⟩,fun h=>absurd h (by show (2:Int)≠0;decide)⟩
   ·have:=F9 h2;simp only at this;rw [h3];exact ⟨⟨Q5,by show 0≤(k:Int)+1+1;omega,by show (k:Int)+1+1≤l.length;omega,by show (ss.length:Int)≤1000000+((k:Int)+1+1);omega,by show 0≤si∧si≤1000000+((k:Int)+1+1);omega,Qe6⟩,fun _=>by show (k:Int)+2≤(k:Int)+1+1;omega⟩
  clear hc;obtain ⟨Za3,Qo5⟩:=Za3;have hE:=Qz1 N Za3.lo Za3.hi;have Qg:=congrFun (congrFun Qk l) N;obtain ⟨⟨u,q⟩,hr⟩:=exq (w l N);rw [hr] at hE g9 Qg;simp only at g9;obtain ⟨na,ni,ns,ne⟩:=N;have Zho:q.e=0→St4Ok l q:=fun h=>lQ Za3 hE h;have Qin:=hE.lo;have Qio:=hE.hi;have Qob:=fun h=>hE.ok h;have Zzp:=hE.err;simp only at Qin Qio Qob Qo5 Zzp;obtain ⟨qa,qi,qs,qe⟩:=q;simp only at Qin Qio Qob Zho g9 Zzp;by_cases vC:qe=0
  case neg =>
   rw [if_pos vC] at g9;have Qr:(qe != 0)=true:=bne_iff_ne.2 vC;subst g9;exact Gx
  have Qr:(qe != 0)=false:=by rw [vC];rfl
  rw [if_neg (by simpa using vC)] at g9
  obtain ⟨z1,z2,z3⟩:=Qob vC;have Zho:=Zho vC;have Qog:ne=0:=Classical.byContradiction fun h=>Zzp h vC;have Qo5:=Qo5 Qog;subst vC;have Qpn:wE (types++[u])=wE types+u.length:=by unfold wE;simp
  have Qn6:∀ t∈types++[u],t≠[]:=fun x hx=>by
   rcases List.mem_append.1 hx with h|h
   ·exact g7 x h
   ·rw [Zt] at h;subst h;exact z3
  have Zzn:(types++[u]).length=types.length+1:=by simp
  have Jf:(types.map Sl.mk).map (enc:Sl Node→D)++[enc (Sl.mk u)]=((types++[u]).map Sl.mk).map enc:=by rw [List.map_append,List.map_append];rfl
  obtain ⟨T2,Qu5⟩:=exq (types++[u]);rw [Qu5] at g9 Qpn Qn6 Zzn Jf;have Q4:((T2.map Sl.mk).map (enc:Sl Node→D)).length=types.length+1:=by rw [Zf,Zf,Zzn]
  have Jk:=Qar (l:=T2);have Qw9:Qby L2 T2:=⟨by omega,by omega,by omega,by omega,Qn6,Zz0⟩
  cases Ju:Da l qa bt with
  | false =>
   rw [if_pos Ju] at g9;obtain ⟨N2,Xf⟩:=exq (Vu l ⟨qa,qi,qs,0⟩ fin);obtain ⟨⟨row,re⟩,Xe⟩:=exq (jK 7 L2 T2);rw [Xf,Xe] at g9;obtain ⟨n2a,n2i,n2s,n2e⟩:=N2;subst g9;exact Gx
  | true =>
   rw [if_neg (by rw [Ju];simp)] at g9
   have uE:Yv ⟨qa,qi,qs,0⟩=⟨qa+1,qi,qs,0⟩:=rfl;rw [uE] at g9;have Zv:=F9 Ju;have Qir:St4Ok l ⟨qa+1,qi,qs,0⟩:=by
    obtain ⟨h1,h2,h3,h4,h5,h6⟩:=Zho;simp only at h2 h3 h4 h5;exact ⟨h1,by show 0≤qa+1;omega,by show qa+1≤_;omega,by show (qs.length:Int)≤1000000+(qa+1);omega,by show 0≤qi∧qi≤1000000+(qa+1);omega,h6⟩
   have Kq:Kft:=⟨⟩;exact jW):p:=h
class Kfq:Prop
theorem Kfq.k (_:Kfq) (h:p:=by
 refine Zm [12,16,17,18,19,20,21,24,25,26,27,28,29,30,31,32,33,34,35,36,37,38,39,40,41,42,43,44,45,46,47,48,49,50,51,52,53,54,55,56,57,58,59,60,61,62,63,64,65,66,67,68,69,70,71,72,73,74,75,76,77,78,79,80,81,82,83,84,85,86,87,88,89,90,91,92,93,94,95,96,97,98,99,100,101,102,103,104,105,106,107,108,109,110,111,112,113,114,115,116,117,118,119,120,121,122,123,124,125,126,127,128,129,130,131,132,133,134,135,136,137,138,139,140,141,142,143,144,145,146,147,148,149,150,151,152,153,154,155] (fun p:Nat×Int×Int×List Site×List (List UInt8)×List (List Node)=>[(14,.sl 22 (p.2.2.2.2.1.map (enc:List UInt8→D)).length),(15,.sl 23 ((p.2.2.2.2.2.map Sl.mk).map (enc:Sl Node→D)).length)]) (fun p:Nat×Int×Int×List Site×List (List UInt8)×List (List Node)=>[(7,.box true [.d (.int .i64 p.2.1),.d (.int .i64 p.2.2.1),.d (.list 3 (p.2.2.2.1.map enc)),.d (.int .i64 0)]),(22,.row 1 (p.2.2.2.2.1.map enc) 0),(23,.row 1 ((p.2.2.2.2.2.map Sl.mk).map enc) 0)]) (fun p:Nat×Int×Int×List Site×List (List UInt8)×List (List Node)=>p.1+p.2.2.2.2.1.length=51∧p.2.2.2.2.1.length≤50∧p.2.2.2.2.1.length=p.2.2.2.2.2.length∧(wE p.2.2.2.2.2:Int)≤p.2.1∧St4Ok l ⟨p.2.1,p.2.2.1,p.2.2.2.1,0⟩∧(∀ t∈p.2.2.2.2.2,t≠[])∧(∀ x∈p.2.2.2.2.1,x.length≤9223372036854775807)∧Cv w l 7 bt fin p.1 ⟨p.2.1,p.2.2.1,p.2.2.2.1,0⟩ p.2.2.2.2.1 p.2.2.2.2.2=R) (fun p:Nat×Int×Int×List Site×List (List UInt8)×List (List Node)=>51-p.2.2.2.2.1.length) (51,k0,si0,ss0,[],[]) ?_ ?_ ?_
 ·exact ⟨rfl,by simp,rfl,by show (0:Int)≤k0;omega,hS,by simp,by simp,Zq⟩
 ·exact Qt
 rintro ⟨f,k,si,ss,labels,types⟩ ⟨g1,g2,g3,g4,g6,g7,g8,g9⟩;simp only at g1 g2 g3 g4 g6 g7 g8 g9;have mN:=g6.lo;have Ob:=g6.hi;simp only at mN Ob;obtain ⟨k,rfl⟩:∃ n:Nat,k=n:=⟨k.toNat,by omega⟩
 obtain ⟨f,rfl⟩:∃ g,f=g+1:=⟨f-1,by omega⟩
 rw [Cv] at g9;simp only [Hh] at g9;have Qi:Ur ⟨(k:Int),si,ss,0⟩ (k:Int) 2=⟨k,si,ss,2⟩:=rfl;have Z6:Ur ⟨(k:Int),si,ss,0⟩ (k:Int) 7=⟨k,si,ss,7⟩:=rfl;have Qq:Ur ⟨(k:Int),si,ss,0⟩ (k:Int) 3=⟨k,si,ss,3⟩:=rfl;have K9:Yv ⟨(k:Int),si,ss,0⟩=⟨(k:Int)+1,si,ss,0⟩:=rfl;rw [Qi,Z6,Qq,K9] at g9;have Qk3:Zck 7=2:=by decide
 have Zzz:uJ l 7 ⟨(k:Int),si,ss,0⟩=(Xp l.length (k:Int)||(!((l.getD k Us).kind==2)||!Mm (l.getD k Us).text)):=by
  unfold uJ;rw [Qk3];simp only [Hh];simp
 have Q3:(labels.map (enc:List UInt8→D)).length=labels.length:=Zf ..;have Qw:((types.map Sl.mk).map (enc:Sl Node→D)).length=types.length:=by rw [Zf,Zf]
 have Qwn:(((7:Int)==7)=true):=by decide
 cases Qo:Xp l.length (k:Int) with
 | true =>
  rw [if_pos (by rw [Zzz,Qo];rfl)] at g9
  subst g9;exact Gx
 | false =>
 have aK:k<l.length:=by rw [←Bool.not_eq_true,Q9] at Qo;omega
 have Ql:=Zp Us aK;have vA:=Qe6 (l.getD k Us) (by simp [aK])
 obtain ⟨t,ht⟩:=exq (l.getD k Us);rw [ht] at Ql vA g9 Zzz;cases X7:(t.kind==2) with
 | false =>
  have Qp:(t.kind != 2)=true:=by rw [bne,X7];rfl
  rw [if_pos (by rw [Zzz,Qo,X7];rfl)] at g9
  subst g9;exact Gx
 | true =>
 have Qp:(t.kind != 2)=false:=by rw [bne,X7];rfl
 cases Qv:Mm t.text with
 | false =>
  rw [if_pos (by rw [Zzz,Qo,X7,Qv];rfl)] at g9
  subst g9;exact Gx
 | true =>
 rw [if_neg (by rw [Zzz,Qo,X7,Qv];simp)] at g9
 have Kq:Kfr:=⟨⟩;exact jW):p:=h
theorem stepi_rows4 (n:Nat) (ih:IH4 n):Qc Tryz.prog (268,(S8 (n+1))):=by
 obtain ⟨Kx,Kt,Kc,Kd,Kb,Ku,Kw,K,X4,V2,Mo,Tx,jB,vK,Za6,_⟩:=J7 Zx Zo [] false (Q1 oD bS.eq_def (Q1 A0 Bt.eq_def (Q1 tN Rm.eq_def (Q1 ih.whole (T3 n) (Q1 good_Row3 pG.eq_def (Q1 good_IsWord1 Aj (Q1 good_IsTag1 wY J5)))))));have Ko:=(S8.eq_def (n+1));refine J9 K Tryz.func268 [.tmp 12,.cell 13 261] rfl 156 rfl (fun c hc Ji Zh=>?_);unfold S8 at Zh;obtain ⟨⟨l⟩,⟨k0,si0,ss0,e0'⟩,v,kind,bt,fin,rfl,⟨hS,Qpz,Ze7⟩,hk,aW,jD,hn⟩:=Zlx Zh;simp only at hS Qpz Ze7;subst Qpz;clear Zh;obtain ⟨w,Qk⟩:=exq (Xo (101-v).toNat);have Qz1:∀ s:St4,0≤s.at_→s.at_≤l.length→Eats l s (w l s):=fun s h1 h2=>by rw [←Qk];exact Ny _ s (by omega) h1 h2
 have Q5:=hS.len;have Qe6:=hS.txt;obtain ⟨R,Qn⟩:=exq (tQ w l ⟨k0,si0,ss0,0⟩ kind bt fin);have Zq:=Qn;unfold tQ at Zq;cases hc;refine W5 9 ?_;rcases hk with rfl|rfl
 ·have Kq:Kfm:=⟨⟩;exact jW
 ·have Kq:Kfq:=⟨⟩;exact jW
theorem Qz:Ym []:=fun _ h=>by cases h
theorem rD {a b:List Node} (ha:Ym a) (hb:Ym b):Ym (a++b):=fun n hn=>by
 rcases List.mem_append.1 hn with h|h
 ·exact ha n h
 ·exact hb n h
theorem Ei {k n:Int}:Ym [⟨k,[],n⟩]:=fun m hm=>by rw [Zt] at hm;subst hm;simp
theorem Qdd {s:List UInt8} (hs:s.length≤9223372036854775807) {t:List Node} (h:Ym t):Ym (named s t):=by
 cases t with
 | nil=>exact h
 | cons a t =>
  intro n hn;rcases Zs.1 hn with rfl|hn
  ·exact hs
  ·exact h n (by simp [hn])
def Zar (labels:List (List UInt8)):Prop:=∀ x∈labels,x.length≤9223372036854775807
theorem Qco {labels:List (List UInt8)} (h:Zar labels) (k:Nat):(labels.getD k []).length≤9223372036854775807:=by
 rw [Zd];cases hk:labels[k]? with
 | none=>simp
 | some x=>exact h x (List.mem_of_getElem? hk)
theorem Qde {types:List (List Node)} (h:∀ t∈types,Ym t) (k:Nat):Ym (types.getD k []):=by
 rw [Zd];cases hk:types[k]? with
 | none=>exact Qz
 | some x=>exact h x (List.mem_of_getElem? hk)
theorem xN {labels:List (List UInt8)} (hl:Zar labels) {types:List (List Node)} (ht:∀ t∈types,Ym t):∀ (k:Nat) (done:List UInt8) (out:List Node),Ym out→Ym (nZ labels types k done out).1
 | 0,_,_,h=>h
 | k+1,done,out,h=>by
  rw [nZ];split
  ·exact Qz
  ·exact xN hl ht k _ _ (rD h (Qdd (Qco hl _) (Qde ht _)))
theorem Zxv {k:Int} {labels:List (List UInt8)} (hl:Zar labels) {types:List (List Node)} (ht:∀ t∈types,Ym t):Ym (jK k labels types).1:=by
 unfold jK;split
 ·exact Qz
 split
 ·exact Qz
 exact xN hl ht _ _ _ Ei
theorem Qf3 {l:List Tok} (h:∀ t∈l,t.text.length≤9223372036854775807) (i:Int):(tk l i).text.length≤9223372036854775807:=by
 unfold tk;rw [Zd];cases hk:l[i.toNat]? with
 | none=>simp [Us]
 | some x=>exact h x (List.mem_of_getElem? hk)
theorem eA {w:List Tok→St4→List Node×St4} {l:List Tok} (hl:∀ t∈l,t.text.length≤9223372036854775807) (hw:∀ s,Ym (w l s).1) {kind:Int} {bt fin:List UInt8}:∀ (f:Nat) (s:St4) (labels:List (List UInt8)) (types:List (List Node)),Zar labels→(∀ t∈types,Ym t)→Ym (Cv w l kind bt fin f s labels types).1
 | 0,_,_,_,_,_=>Qz
 | f+1,s,labels,types,h1,h2=>by
  have h3:Zar (labels++[(tk l s.at_).text]):=fun x hx=>by
   rcases List.mem_append.1 hx with h|h
   ·exact h1 x h
   ·rw [Zt] at h;subst h;exact Qf3 hl _
  have h4:∀ t∈types++[(w l (Vu l (Yv s) [58])).1],Ym t:=fun x hx=>by
   rcases List.mem_append.1 hx with h|h
   ·exact h2 x h
   ·rw [Zt] at h;subst h;exact hw _
  rw [Cv];split
  ·exact Qz
  split
  ·exact Qz
  split
  ·exact Qz
  split
  ·exact Qz
  split
  ·exact Zxv h3 h4
  ·exact eA hl hw f _ _ _ h3 h4
theorem Zjz {w:List Tok→St4→List Node×St4} {l:List Tok} (hl:∀ t∈l,t.text.length≤9223372036854775807) (hw:∀ s,Ym (w l s).1) {d:Nat} {s:St4}:Ym (La w d l s).1:=by
 unfold La;split
 ·exact Qz
 split
 ·exact Qz
 split
 ·exact Ei
 split
 ·exact Ei
 split
 ·exact Qz
 split
 ·exact Qz
 split
 ·exact Ei
 split
 ·exact eA hl hw _ _ _ _ (fun _ h=>by cases h) (fun _ h=>by cases h)
 split
 ·exact eA hl hw _ _ _ _ (fun _ h=>by cases h) (fun _ h=>by cases h)
 ·exact hw _
theorem Dj {l:List Tok} (hl:∀ t∈l,t.text.length≤9223372036854775807):∀ (d:Nat) (s:St4),Ym (Xo d l s).1
 | 0,_=>Qz
 | d+1,s=>by
  have hA:=Zjz (w:=Xo d) hl (fun s=>Dj hl d s) (d:=d) (s:=s);rw [Xo];split
  ·exact hA
  split
  ·exact Qz
  ·have h5:Ym [(⟨5,[],0⟩:Node)]:=Ei;exact rD h5 (rD hA (Dj hl d _))
theorem pK {a b d:Int}:(dec (.agg [.int .i64 a,.int .i64 b,.list 3 [],.int .i64 d]):St4)=⟨a,b,[],d⟩:=rfl
theorem oV {a b d:Int}:Ul St4 (.agg [.int .i64 a,.int .i64 b,.list 3 [],.int .i64 d])=True:=eq_true (Wc (St4.mk a b [] d))
theorem Que:∀ n,IH4 n
 | 0=>⟨X1 (Jv Tryz.func259 (by kernel_rfl) rfl) vQ,X1 (Jv Tryz.func262 (by kernel_rfl) rfl) zU,X1 (Jv Tryz.func268 (by kernel_rfl) rfl) zM⟩
 | n+1=>⟨Zfm n (Que n),stepi_atom4 n (Que n),stepi_rows4 n (Que n)⟩
def fZ:Con:=Wj 400
theorem Zgi:Qc Tryz.prog (259,fZ):=(Que 400).whole
theorem Tm:fZ=Wj 400:=rfl
def Zg1 {A B C E R S T U V:Type} [Enc A] [Enc B] [Enc C] [Enc E] [Enc R] [Enc S] [Enc T] [Enc U] [Enc V] (p:A→B→C→E→Prop) (f:A→B→C→E→R×S×T×U×V):Con:=⟨[false,false,false,false],[false,false,false,false,false],fun c=>match c with
 | [.d x,.d y,.d z,.d w]=>Ul A x∧Ul B y∧Ul C z∧Ul E w∧p (dec x) (dec y) (dec z) (dec w)
 | _=>False,fun c=>match c with
 | [.d x,.d y,.d z,.d w]=>.tup [.d (enc (f (dec x) (dec y) (dec z) (dec w)).1),.d (enc (f (dec x) (dec y) (dec z) (dec w)).2.1),.d (enc (f (dec x) (dec y) (dec z) (dec w)).2.2.1),.d (enc (f (dec x) (dec y) (dec z) (dec w)).2.2.2.1),.d (enc (f (dec x) (dec y) (dec z) (dec w)).2.2.2.2)]
 | _=>.d .nilp⟩
theorem Qho {A B C E R S T U V:Type} [Enc A] [Enc B] [Enc C] [Enc E] [Enc R] [Enc S] [Enc T] [Enc U] [Enc V] {p:A→B→C→E→Prop} {f:A→B→C→E→R×S×T×U×V} {c:List CV} (h:(Zg1 p f).pre c):∃ a b d e,c=[.d (enc a),.d (enc b),.d (enc d),.d (enc e)]∧p a b d e:=by
 unfold Zg1 at h;simp only at h;split at h
 ·next x y z w=>exact ⟨dec x,dec y,dec z,dec w,by rw [←h.1,←h.2.1,←h.2.2.1,←h.2.2.2.1],h.2.2.2.2⟩
 ·exact h.elim
def Qrk (l:List Tok) (i site level:Int):Sl Node×Int×Sl Site×Int×Int:=(⟨(Vz l i site level).1⟩,(Vz l i site level).2.1,⟨(Vz l i site level).2.2.1⟩,(Vz l i site level).2.2.2.1,(Vz l i site level).2.2.2.2)
def iH:Con:=Zg1 (fun (l:Sl Tok) (i site v:Int)=>(l.l.length≤100000∧∀ t∈l.l,t.text.length≤9223372036854775807)∧0≤i∧i≤l.l.length∧1≤site∧site≤1000000∧1≤v∧v≤100) (fun l i site v=>Qrk l.l i site v)
theorem Zyh:Qc Tryz.prog (249,iH):=by
 obtain ⟨Kx,Kt,Kc,Kd,Kb,Ku,Kw,K,X4,V2,_⟩:=J7 Zx Zo [] false (Q1 Zgi fZ.eq_def (Q1 good_Right3 Bx.eq_def J5));have Ko:=iH.eq_def;refine J9 K Tryz.func249 [.tmp 8,.tmp 9,.tmp 10,.tmp 11,.tmp 12] rfl 60 rfl (fun c hc Ji Zh=>?_);unfold iH at Zh;obtain ⟨⟨l⟩,i,site,v,rfl,⟨hl,vA⟩,Znb,Zbb,Zb6,mF,aW,jD⟩:=Qho Zh;simp only at hl vA Zbb;clear Zh;have Qzt:St4Ok l ⟨i,site,[],0⟩:=⟨hl,Znb,Zbb,by show ((0:Nat):Int)≤1000000+i;omega,by show 0≤site∧site≤1000000+i;omega,vA⟩
 obtain ⟨⟨R1,R2,R3,R4,R5⟩,hR⟩:=exq (Vz l i site v);have Zq:=hR;unfold Vz at Zq;rw [if_neg (by omega)] at Zq
 have Qn:Wd (l.length:Int) i=false:=by rw [Q7];omega
 have Qk:Wd i 0=false:=by rw [Q7];omega
 have Qo:Wd site 1=false:=by rw [Q7];omega
 have Qi:Wd v 1=false:=by rw [Q7];omega
 simp only [if_neg (show ¬ (l.length:Int)<i by omega)] at Zq
 have hE:=Ny (l:=l) (101-v).toNat ⟨i,site,[],0⟩ (by omega) Qzt.lo Qzt.hi
 have Qzu:=Dj vA (101-v).toNat ⟨i,site,[],0⟩;obtain ⟨⟨t,q⟩,Ql⟩:=exq (Xo (101-v).toNat l ⟨i,site,[],0⟩);rw [Ql] at Zq hE Qzu;have Qp6:=hE.len;obtain ⟨qa,qi,qs,qe⟩:=q;simp only at Zq Qp6 Qzu;have Zm8:t.length≤9223372036854775807:=by omega
 have Qv:Qrk l i site v=(⟨R1⟩,R2,⟨R3⟩,R4,R5):=by unfold Qrk;rw [hR]
 cases hc;refine W5 3 ?_;by_cases he:qe=0
 case neg =>
  rw [if_pos he] at Zq;have Qp:(qe != 0)=true:=bne_iff_ne.2 he;simp only [Zc] at Zq;obtain ⟨rfl,rfl,rfl,rfl,rfl⟩:=Zq;have Jb:=@Zg1.eq_def;have Z3:=@Tm;have Z6:=@pK;have Z7:=@oV;exact Gx
 have Qp:(qe != 0)=false:=by rw [he];rfl
 rw [if_neg (by simpa using he)] at Zq
 by_cases h1:10000<t.length
 ·rw [if_pos h1] at Zq;have Q3:Wd 10000 (t.length:Int)=true:=by rw [Jj];omega
  simp only [Zc] at Zq;obtain ⟨rfl,rfl,rfl,rfl,rfl⟩:=Zq;have Jb:=@Zg1.eq_def;have Z3:=@Tm;have Z6:=@pK;have Z7:=@oV;exact Gx
 rw [if_neg h1] at Zq;have Q3:Wd 10000 (t.length:Int)=false:=by rw [Q7];omega
 cases Jh:Wg t with
 | false =>
  rw [if_pos Jh] at Zq;simp only [Zc] at Zq;obtain ⟨rfl,rfl,rfl,rfl,rfl⟩:=Zq;have Jb:=@Zg1.eq_def;have Z3:=@Tm;have Z6:=@pK;have Z7:=@oV;exact Gx
 | true =>
  rw [if_neg (by rw [Jh];simp)] at Zq
  simp only [Zc] at Zq;obtain ⟨rfl,rfl,rfl,rfl,rfl⟩:=Zq;have Jb:=@Zg1.eq_def;have Z3:=@Tm;have Z6:=@pK;have Z7:=@oV;exact Gx
structure St6 where
 at_:Int
 sites:List Site
 e:Int
 deriving DecidableEq
instance encSt6:Enc St6:=⟨fun a=>.agg [.int .i64 a.at_,.list 3 (a.sites.map enc),.int .i64 a.e],fun x=>match x with
 | .agg [a,c,d]=>⟨a.i,c.l.map dec,d.i⟩
 | _=>⟨0,[],0⟩,fun a=>by
  have h:∀ l:List Site,(l.map (enc:Site→D)).map dec=l:=fun l=>Jx;cases a;simp [D.l,D.i,h]⟩
theorem Zy {a d:Int} {c:List Site}:(enc (St6.mk a c d):D)=.agg [.int .i64 a,.list 3 (c.map enc),.int .i64 d]:=rfl
theorem Z9 {a d:Int} {c:List Site}:(dec (.agg [.int .i64 a,.list 3 (c.map enc),.int .i64 d]):St6)=⟨a,c,d⟩:=Enc.dec_enc (St6.mk a c d)
theorem Z8 {a d:Int} {c:List Site}:Ul St6 (.agg [.int .i64 a,.list 3 (c.map enc),.int .i64 d])=True:=eq_true (Wc (St6.mk a c d))
def J8 (s:St6) (e:Int):St6:=if s.e=0 then ⟨s.at_,s.sites,e⟩ else s
def Ox (l:List Tok) (s:St6) (k:Int) (x:List UInt8):Bool:=(s.e==0)&&(Wd s.at_ l.length&&((tk l s.at_).kind==k&&(tk l s.at_).text==x))
def X3 (s:St6):St6:=⟨s.at_+1,s.sites,s.e⟩
def Qy (l:List Tok) (s:St6) (k:Int) (x:List UInt8):St6:=if s.e≠0 then s else if Ox l s k x=false then J8 s 2 else X3 s
def Jn (l:List Tok) (s:St6) (k:Int):List UInt8×St6:=if s.e≠0 then ([],s) else if (l.length:Int)≤s.at_∨(tk l s.at_).kind≠k then ([],J8 s 2) else ((tk l s.at_).text,X3 s)
def Et (l:List Tok) (s:St6) (v:Int):List Node×St6 :=
 if s.e≠0 then ([],s)
 else if (Vz l s.at_ (s.sites.length+1) v).2.2.2.2≠0 then ([],⟨(Vz l s.at_ (s.sites.length+1) v).2.2.2.1,s.sites,(Vz l s.at_ (s.sites.length+1) v).2.2.2.2⟩)
 else ((Vz l s.at_ (s.sites.length+1) v).1,⟨(Vz l s.at_ (s.sites.length+1) v).2.1,s.sites++(Vz l s.at_ (s.sites.length+1) v).2.2.1,0⟩)
def Kf (l:List Tok) (s:St6) (v:Int):List Node×St6 :=
 if s.e≠0 then ([],s)
 else if Ox l s 5 [58]=true then Et l (X3 s) v
 else ([⟨0,[],s.sites.length+1⟩],⟨s.at_,s.sites++[⟨(tk l (s.at_-1)).to,(tk l (s.at_-1)).to,true⟩],0⟩)
def in6 (l:List (List UInt8)) (x:List UInt8):Bool:=l.any fun y=>y==x
def Qny (s:List UInt8):Prop:=s.length≤18∧∀ c∈s,Wy c=true
structure St6Ok (l:List Tok) (s:St6):Prop where
 len:l.length≤100000
 lo:0≤s.at_
 hi:s.at_≤l.length
 sites:s.sites.length≤900000
 txt:∀ t∈l,t.text.length≤1000000
 fig:∀ t∈l,t.kind=3→Qny t.text
theorem St6Ok.long {l:List Tok} {s:St6} (h:St6Ok l s):∀ t∈l,t.text.length≤9223372036854775807:=fun t ht=>Nat.le_trans (h.txt t ht) (by omega)
def Ue:Con:=Jy (fun (_:St6) (_:Int)=>True) (fun s e=>J8 s e)
theorem T1:type_of% @Ue.eq_def:=@Ue.eq_def
theorem Gb:Qc Tryz.prog (147,Ue):=by
 obtain ⟨Kx,Kt,Kc,Kd,Kb,Ku,Kw,K,_⟩:=J7 Zx Zo [] false J5;have Ko:=T1;refine J9 K Tryz.func147 [.cell 4 137] rfl 11 rfl (fun c hc Ji Zh=>?_);unfold Ue at Zh;obtain ⟨⟨k,ss,e⟩,x,rfl,-⟩:=Qf Zh;clear Zh;obtain ⟨R,Qo⟩:=exq (J8 ⟨k,ss,e⟩ x);have Zq:=Qo;unfold J8 at Zq;simp only at Zq;cases hc;by_cases he:e=0
 ·rw [if_pos he] at Zq;have Qk:(e==0)=true:=Zj.2 he;subst Zq;have Qi:=@Zy;have Qn:=@Z8;have Ql:=@Z9;exact Qcq
 ·rw [if_neg he] at Zq;have Qk:(e==0)=false:=Za.2 he;subst Zq;have Qi:=@Zy;have Qn:=@Z8;have Ql:=@Z9;exact Qcq
def Ls:Con:=vR (fun (l:Sl Tok) (s:St6) (_:Int) (_:List UInt8)=>l.l.length≤1000000∧0≤s.at_) (fun l s k x=>Ox l.l s k x)
theorem jF:type_of% @Ls.eq_def:=@Ls.eq_def
theorem Cd:Qc Tryz.prog (144,Ls):=by
 obtain ⟨Kx,Kt,Kc,Kd,Kb,Ku,Kw,K,_⟩:=J7 Zx Zo [] false J5;have Ko:=jF;refine J9 K Tryz.func144 [.tmp 8] rfl 39 rfl (fun c hc Ji Zh=>?_);unfold Ls at Zh;obtain ⟨⟨l⟩,⟨i,ss,e⟩,kd,x,rfl,hl,hi⟩:=Zg2 Zh;simp only at hl hi;obtain ⟨i,rfl⟩:∃ n:Nat,i=n:=⟨i.toNat,by omega⟩
 clear Zh;obtain ⟨R,Qo⟩:=exq (Ox l ⟨i,ss,e⟩ kd x);have Qp:=Qo;unfold Ox at Qp;simp only [Hh] at Qp;cases hc;refine W5 2 ?_;cases Qk:(e==0) with
 | false =>
  rw [Qk,Bool.false_and] at Qp;subst Qp;have Qv:=@Zy;have Q3:=@Z8;have Jh:=@Z9;exact Qcq
 | true =>
 rw [Qk,Bool.true_and] at Qp;rcases Zn i l.length with ⟨Zv,Qi⟩|⟨Zv,Qi⟩
 ·have Qn:=Zp Us Zv;obtain ⟨t,ht⟩:=exq (l.getD i Us);rw [ht] at Qn Qp;rw [Qi,Bool.true_and] at Qp;obtain ⟨b1,Ql⟩:=exq ((t.kind==kd));rw [Ql] at Qp;cases b1 with
  | false =>
   rw [Bool.false_and] at Qp;subst Qp;have Qv:=@Zy;have Q3:=@Z8;have Jh:=@Z9;exact Gx
  | true =>
   rw [Bool.true_and] at Qp;have Qv:=@Zy;have Q3:=@Z8;have Jh:=@Z9;exact Gx
 ·rw [Qi,Bool.false_and] at Qp;subst Qp;have Qv:=@Zy;have Q3:=@Z8;have Jh:=@Z9;exact Qcq
theorem bX (l:List Tok) (s:St6) (k:Int) (x:List UInt8):(s.e≠0∧Qy l s k x=s)∨(s.e=0∧Ox l s k x=false∧Qy l s k x=⟨s.at_,s.sites,2⟩)∨(s.e=0∧Ox l s k x=true∧Qy l s k x=⟨s.at_+1,s.sites,0⟩):=by
 unfold Qy;by_cases h:s.e=0
 ·rw [if_neg (by simpa using h)]
  cases hi:Ox l s k x with
  | false=>exact .inr (.inl ⟨h,rfl,by rw [if_pos rfl];unfold J8;rw [if_pos h]⟩)
  | true=>exact .inr (.inr ⟨h,rfl,by rw [if_neg (by simp)];unfold X3;rw [h]⟩)
 ·exact .inl ⟨h,if_pos h⟩
def Rl:Con:=vR (fun (l:Sl Tok) (s:St6) (_:Int) (_:List UInt8)=>l.l.length≤1000000∧0≤s.at_∧s.at_≤2000000) (fun l s k x=>Qy l.l s k x)
theorem tM:Qc Tryz.prog (184,Rl):=by
 obtain ⟨Kx,Kt,Kc,Kd,Kb,Ku,Kw,K,X4,V2,_⟩:=J7 Zx Zo [] false (Q1 Cd jF (Q1 Gb T1 J5));have Ko:=Rl.eq_def;refine J9 K Tryz.func184 [.cell 8 137] rfl 26 rfl (fun c hc Ji Zh=>?_);unfold Rl at Zh;obtain ⟨⟨l⟩,⟨i,ss,e⟩,kd,x,rfl,hl,Zb6,mF⟩:=Zg2 Zh;try simp only at hl Zb6 mF
 clear Zh;obtain ⟨⟨Ra,Rs,Re⟩,Qo⟩:=exq (Qy l ⟨i,ss,e⟩ kd x);have Qfb:=bX l ⟨i,ss,e⟩ kd x;rw [Qo] at Qfb;simp only [St6.mk.injEq] at Qfb;cases hc;rcases Qfb with ⟨h1,rfl,rfl,rfl⟩|⟨rfl,Qi,rfl,rfl,rfl⟩|⟨rfl,Qi,rfl,rfl,rfl⟩
 ·have Qk:(Re != 0)=true:=bne_iff_ne.2 h1;have Ql:=@Zy;have Qp:=@Z8;have Qv:=@Z9;exact Qcq
 ·have Qn:J8 ⟨Ra,Rs,0⟩ 2=⟨Ra,Rs,2⟩:=rfl;have Ql:=@Zy;have Qp:=@Z8;have Qv:=@Z9;exact Gx
 ·have Ql:=@Zy;have Qp:=@Z8;have Qv:=@Z9;exact Gx
def Uy:Con:=Um (fun (l:Sl Tok) (s:St6) (_:List UInt8)=>l.l.length≤1000000∧0≤s.at_∧s.at_≤2000000) (fun l s x=>Qy l.l s 5 x)
theorem Lf:type_of% @Uy.eq_def:=@Uy.eq_def
theorem Gn:Qc Tryz.prog (148,Uy):=by
 obtain ⟨Kx,Kt,Kc,Kd,Kb,Ku,Kw,K,X4,_⟩:=J7 Zx Zo [] false (Q1 tM Rl.eq_def J5);have Ko:=Lf;refine J9 K Tryz.func148 [.cell 6 137] rfl 11 rfl (fun c hc Ji Zh=>?_);unfold Uy at Zh;obtain ⟨⟨l⟩,⟨i,ss,e⟩,x,rfl,hl,Zb6,mF⟩:=Vb Zh;try simp only at hl Zb6 mF
 clear Zh;obtain ⟨⟨Ra,Rs,Re⟩,Qk⟩:=exq (Qy l ⟨i,ss,e⟩ 5 x);cases hc;have Qo:=@Zy;have Qi:=@Z8;have Qn:=@Z9;exact Gx
def Rp:Con:=Um (fun (l:Sl Tok) (s:St6) (_:List UInt8)=>l.l.length≤1000000∧0≤s.at_∧s.at_≤2000000) (fun l s x=>Qy l.l s 6 x)
theorem gC:Qc Tryz.prog (252,Rp):=by
 obtain ⟨Kx,Kt,Kc,Kd,Kb,Ku,Kw,K,X4,_⟩:=J7 Zx Zo [] false (Q1 tM Rl.eq_def J5);have Ko:=Rp.eq_def;refine J9 K Tryz.func252 [.cell 6 137] rfl 11 rfl (fun c hc Ji Zh=>?_);unfold Rp at Zh;obtain ⟨⟨l⟩,⟨i,ss,e⟩,x,rfl,hl,Zb6,mF⟩:=Vb Zh;try simp only at hl Zb6 mF
 clear Zh;obtain ⟨⟨Ra,Rs,Re⟩,Qk⟩:=exq (Qy l ⟨i,ss,e⟩ 6 x);cases hc;have Qo:=@Zy;have Qi:=@Z8;have Qn:=@Z9;exact Gx
theorem Gj (l:List Tok) (s:St6) (k:Int):(s.e≠0∧Jn l s k=([],s))∨(s.e=0∧(l.length:Int)≤s.at_∧Jn l s k=([],⟨s.at_,s.sites,2⟩))∨(s.e=0∧s.at_<l.length∧(tk l s.at_).kind≠k∧Jn l s k=([],⟨s.at_,s.sites,2⟩)) ∨
  (s.e=0∧s.at_<l.length∧(tk l s.at_).kind=k∧Jn l s k=((tk l s.at_).text,⟨s.at_+1,s.sites,0⟩)):=by
 unfold Jn;by_cases h:s.e=0
 ·rw [if_neg (by simpa using h)]
  by_cases h1:(l.length:Int)≤s.at_
  ·exact .inr (.inl ⟨h,h1,by rw [if_pos (.inl h1)];unfold J8;rw [if_pos h]⟩)
  ·by_cases h2:(tk l s.at_).kind=k
   ·exact .inr (.inr (.inr ⟨h,by omega,h2,by rw [if_neg (by simp only [h2];simp;omega)];unfold X3;rw [h]⟩))
   ·exact .inr (.inr (.inl ⟨h,by omega,h2,by rw [if_pos (.inr h2)];unfold J8;rw [if_pos h]⟩))
 ·exact .inl ⟨h,if_pos h⟩
def Vp:Con:=Yy (fun (l:Sl Tok) (s:St6) (_:Int)=>l.l.length≤1000000∧0≤s.at_∧s.at_≤2000000) (fun l s k=>Jn l.l s k)
theorem Ml:type_of% @Vp.eq_def:=@Vp.eq_def
theorem U7:Qc Tryz.prog (145,Vp):=by
 obtain ⟨Kx,Kt,Kc,Kd,Kb,Ku,Kw,K,X4,_⟩:=J7 Zx Zo [] false (Q1 Gb T1 J5);have Ko:=Ml;refine J9 K Tryz.func145 [.tmp 6,.cell 7 137] rfl 41 rfl (fun c hc Ji Zh=>?_);unfold Vp at Zh;obtain ⟨⟨l⟩,⟨i,ss,e⟩,kd,rfl,hl,Zb6,mF⟩:=Mi Zh;simp only at hl Zb6 mF;clear Zh;obtain ⟨i,rfl⟩:∃ n:Nat,i=n:=⟨i.toNat,by omega⟩
 obtain ⟨⟨x,⟨Ra,Rs,Re⟩⟩,Qo⟩:=exq (Jn l ⟨i,ss,e⟩ kd);have Qfb:=Gj l ⟨i,ss,e⟩ kd;rw [Qo] at Qfb;simp only [St6.mk.injEq,Zc,Hh] at Qfb;have Qn:J8 ⟨(i:Int),ss,0⟩ 2=⟨i,ss,2⟩:=rfl;have Qv:(i:Int)+1-1=(i:Int):=by omega
 cases hc;refine W5 2 ?_;rcases Qfb with ⟨h1,rfl,rfl,rfl,rfl⟩|⟨rfl,h2,rfl,rfl,rfl,rfl⟩|⟨rfl,h2,h3,rfl,rfl,rfl,rfl⟩|⟨rfl,h2,h3,rfl,rfl,rfl,rfl⟩
 ·have Qk:(Re != 0)=true:=bne_iff_ne.2 h1;have Jh:=@Zy;have Jb:=@Z8;have Z3:=@Z9;exact Gx
 ·have Qi:Xp (l.length:Int) (i:Int)=true:=by rw [Q9];exact h2
  have Jh:=@Zy;have Jb:=@Z8;have Z3:=@Z9;exact Qcq
 ·have Qi:Xp (l.length:Int) (i:Int)=false:=by rw [←Bool.not_eq_true,Q9];omega
  have Ql:=Zp Us (show i<l.length by omega)
  obtain ⟨t,Q3⟩:=exq (l.getD i Us);rw [Q3] at Ql h3;have Qp:(t.kind != kd)=true:=bne_iff_ne.2 h3;have Jh:=@Zy;have Jb:=@Z8;have Z3:=@Z9;exact Gx
 ·have Qi:Xp (l.length:Int) (i:Int)=false:=by rw [←Bool.not_eq_true,Q9];omega
  have Ql:=Zp Us (show i<l.length by omega)
  obtain ⟨t,Q3⟩:=exq (l.getD i Us);rw [Q3] at Ql h3 Qo;have Qp:(t.kind != kd)=false:=by rw [bne_eq_false_iff_eq];exact h3
  have Jh:=@Zy;have Jb:=@Z8;have Z3:=@Z9;exact Gx
def iQ:Con:=Jy (fun (l:Sl (List UInt8)) (_:List UInt8)=>l.l.length≤1000000) (fun l x=>in6 l.l x)
class Kfv:Prop
theorem Kfv.k (_:Kfv) (h:p:=by
 first|exact ⟨k+1,by exact Qt,by omega,Eq.mpr hQ h2,by omega⟩|exact ⟨k+1,by exact Qt,by omega,fun m hm=>by have h3:=(Eq.mpr hQ h2:∀ j,j<k+1→(l.getD j []==s)=false) m hm;simpa using h3,by omega⟩|skip):p:=h
class Kfu:Prop
theorem Kfu.k (_:Kfu) (h:p:=by
 refine Zm [4,6,7,8,9,10,11,12,13,14,15,16,17] (fun k:Nat=>[(5,.d (.int .i64 k))]) (fun k:Nat=>[]) (fun k:Nat=>k≤l.length∧∀ j,j<k→(l.getD j []==s)=false) (fun k:Nat=>l.length-k) 0 ?_ ?_ ?_
 ·simp
 ·exact Qt
 rintro k ⟨hk,Jl⟩;rcases Zn k l.length with ⟨Zv,Qk⟩|⟨Zv,Qk⟩
 ·have Qo:=Zp ([]:List UInt8) Zv;have Jg:(l.getD k []==s)=false→∀ j,j<k+1→(l.getD j []==s)=false:=fun h=>Vd Jl h;have L9:(l.getD k []==s)=true→R=true:=fun h=>by rw [←Zq];exact fF (p:=fun o=>o==s) [] k Zv h
  obtain ⟨Q,hQ⟩:=exq ((∀ j,j<k+1→(l.getD j []==s)=false));rw [hQ] at Jg;obtain ⟨y,hy⟩:=exq (l.getD k []);rw [hy] at Qo Jg L9;cases Qi:(y==s) with
  | true =>
   have hr:=L9 Qi;subst hr;exact Gx
  | false =>
   have h2:=Jg Qi;have Kq:Kfv:=⟨⟩;exact jW
 ·have hr:R=false:=by rw [←Zq];exact Eb (p:=fun o=>o==s) [] fun j hj=>Jl j (by omega)
  subst hr;exact Qcq):p:=h
theorem good_in6:Qc Tryz.prog (146,iQ):=by
 obtain ⟨Kx,Kt,Kc,Kd,Kb,Ku,Kw,K,_⟩:=J7 Zx Zo [] false J5;have Ko:=iQ.eq_def;refine J9 K Tryz.func146 [.tmp 4] rfl 18 rfl (fun c hc Ji Zh=>?_);unfold iQ at Zh;obtain ⟨⟨l⟩,s,rfl,hl⟩:=Qf Zh;simp only at hl;clear Zh;obtain ⟨R,Qn⟩:=exq (in6 l s);have Zq:=Qn;unfold in6 at Zq;cases hc;have Kq:Kfu:=⟨⟩;exact jW
theorem Qm6 {l:List Tok} {i site v:Int} {t:List Node} {a:Int} {ss:List Site} {b e:Int} (h:Vz l i site v=(t,a,ss,b,e)):Qrk l i site v=(⟨t⟩,a,⟨ss⟩,b,e):=by unfold Qrk;rw [h]
theorem tX {l:List Tok} (hl:l.length≤100000) (vA:∀ t∈l,t.text.length≤9223372036854775807) {i site v:Int} (h0:0≤i) (h1:i≤l.length) (hs:1≤site) (aW:1≤v) (jD:v≤100) :
  0≤(Vz l i site v).2.2.2.1∧(Vz l i site v).2.2.2.1≤l.length∧((Vz l i site v).2.2.2.2=0→i+1≤(Vz l i site v).2.1∧(Vz l i site v).2.1≤l.length∧((Vz l i site v).2.2.1.length:Int)≤(Vz l i site v).2.1-i∧Wg (Vz l i site v).1=true∧Ym (Vz l i site v).1∧((Vz l i site v).1.length:Int)≤(Vz l i site v).2.1-i ∧
   ∀ z,J0 (Ys z) (Vz l i site v).1=if site≤z∧z<site+(Vz l i site v).2.2.1.length then 1 else 0):=by
 have hE:=Ny (l:=l) (101-v).toNat ⟨i,site,[],0⟩ (by omega) h0 h1
 have hN:=Dj vA (101-v).toNat ⟨i,site,[],0⟩;unfold Vz;rw [if_neg (by omega)]
 simp only [if_neg (show ¬ (l.length:Int)<i by omega)]
 obtain ⟨⟨t,q⟩,hw⟩:=exq (Xo (101-v).toNat l ⟨i,site,[],0⟩);rw [hw] at hE hN ⊢;obtain ⟨qa,qi,qs,qe⟩:=q;have mN:=hE.lo;have Ob:=hE.hi;simp only at mN Ob ⊢;by_cases he:qe=0
 case neg=>rw [if_pos he];exact ⟨mN,Ob,fun h=>absurd h he⟩
 rw [if_neg (by simpa using he)]
 by_cases hb:10000<t.length
 ·rw [if_pos hb];exact ⟨h0,h1,fun h=>absurd h (show ¬ (3:Int)=0 by decide)⟩
 rw [if_neg hb];cases hr:Wg t with
 | false=>rw [if_pos rfl];exact ⟨h0,h1,fun h=>absurd h (show ¬ (4:Int)=0 by decide)⟩
 | true =>
  rw [if_neg (by simp)]
  obtain ⟨k1,k2,k3⟩:=hE.ok he;obtain ⟨g1,g2,g3⟩:=hE.sites he;have g4:=hE.cnt he;simp only at k1 k2 g1 g2 g3 g4;have hp:1≤t.length:=by
   cases t with
   | nil=>exact absurd rfl k3
   | cons a t=>simp
  refine ⟨by show (0:Int)≤0;omega,by show (0:Int)≤l.length;omega,fun _=>⟨by show i+1≤qa;omega,k2,by show (qs.length:Int)≤qa-i;simp only [List.length_nil] at g2;omega,hr,hN,k1,fun z=>?_⟩⟩
  show J0 (Ys z) t=if site≤z∧z<site+(qs.length:Int) then 1 else 0
  rw [g4];simp only [List.length_nil] at g3;have:qi=site+(qs.length:Int):=by omega
  rw [this]
def Rj:Con:=Yy (fun (l:Sl Tok) (s:St6) (v:Int)=>St6Ok l.l s∧(s.e=0→1≤v∧v≤100)) (fun l s v=>((⟨(Et l.l s v).1⟩,(Et l.l s v).2):Sl Node×St6))
class Kfw:Prop
theorem Kfw.k (_:Kfw) (h:p:=by
 first|exact ⟨Q5,vA⟩|exact vA|rfl|trivial|skip):p:=h
class Kfx:Prop
theorem Kfx.k (_:Kfx) (h:p:=by
 first|exact ⟨Q5,vA⟩|exact vA|rfl|trivial|skip):p:=h
theorem good_typed6:Qc Tryz.prog (224,Rj):=by
 obtain ⟨Kx,Kt,Kc,Kd,Kb,Ku,Kw,K,X4,V2,_⟩:=J7 Zx Zo [] false (Q1 Zyh iH.eq_def (Q1 Gb T1 J5));have Ko:=Rj.eq_def;refine J9 K Tryz.func224 [.tmp 6,.cell 7 137] rfl 51 rfl (fun c hc Ji Zh=>?_);unfold Rj at Zh;obtain ⟨⟨l⟩,⟨i,ss,e⟩,v,rfl,hS,hv⟩:=Mi Zh;simp only at hS hv;clear Zh;have Q5:=hS.len;have mN:=hS.lo;have Ob:=hS.hi;have Zm9:=hS.sites;have vA:=hS.long;simp only at mN Ob Zm9;obtain ⟨⟨Rt,⟨Ra,Rs,Re⟩⟩,Qo⟩:=exq (Et l ⟨i,ss,e⟩ v);have Zq:=Qo;unfold Et at Zq;simp only at Zq;have Qi:(ss.map (enc:Site→D)).length=ss.length:=Zf ..;cases hc;refine W5 3 ?_;by_cases he:e=0
 case neg =>
  rw [if_pos he] at Zq;have Qk:(e != 0)=true:=bne_iff_ne.2 he;simp only [Zc,St6.mk.injEq] at Zq;obtain ⟨rfl,rfl,rfl,rfl⟩:=Zq;have Jb:=@Zy;have Z3:=@Z8;have Z6:=@Z9;exact Gx
 have Qk:(e != 0)=false:=by rw [he];rfl
 rw [if_neg (by simpa using he)] at Zq
 obtain ⟨aW,jD⟩:=hv he;have hF:=tX Q5 vA mN Ob (site:=(ss.length:Int)+1) (by omega) aW jD
 obtain ⟨⟨t,a,qs,bad,re⟩,hr⟩:=exq (Vz l i ((ss.length:Int)+1) v);rw [hr] at Zq hF;have Qn:=Qm6 hr;simp only at Zq hF;obtain ⟨Jct,Qp5,Jb7⟩:=hF;by_cases jE:re=0
 case neg =>
  rw [if_pos jE] at Zq;have Ql:(re != 0)=true:=bne_iff_ne.2 jE;simp only [Zc,St6.mk.injEq] at Zq;obtain ⟨rfl,rfl,rfl,rfl⟩:=Zq;have Qp:J8 ⟨bad,ss,e⟩ re=⟨bad,ss,re⟩:=by unfold J8;rw [if_pos he]
  have Jb:=@Zg1.eq_def;have Z3:=@Zy;have Z6:=@Z8;have Z7:=@Z9;have Kq:Kfw:=⟨⟩;exact jW
 have Ql:(re != 0)=false:=by rw [jE];rfl
 rw [if_neg (by simpa using jE)] at Zq
 obtain ⟨f1,f2,f3,-⟩:=Jb7 jE;simp only [Zc,St6.mk.injEq] at Zq;obtain ⟨rfl,rfl,Qmv,rfl⟩:=Zq;have Q3:ss.map (enc:Site→D)++qs.map enc=Rs.map enc:=by rw [←Qmv,List.map_append]
 have Jh:(Rs.map (enc:Site→D)).length=ss.length+qs.length:=by rw [←Qmv,Zf,Ze]
 have Qv:(qs.map (enc:Site→D)).length=qs.length:=Zf ..;clear Qmv;have Jb:=@Zg1.eq_def;have Z3:=@Zy;have Z6:=@Z8;have Z7:=@Z9;have Kq:Kfx:=⟨⟩;exact jW
def Bv:Con:=Yy (fun (l:Sl Tok) (s:St6) (v:Int)=>St6Ok l.l s∧(s.e=0→1≤s.at_∧1≤v∧v≤100)) (fun l s v=>((⟨(Kf l.l s v).1⟩,(Kf l.l s v).2):Sl Node×St6))
theorem A1:Qc Tryz.prog (185,Bv):=by
 obtain ⟨Kx,Kt,Kc,Kd,Kb,Ku,Kw,K,X4,V2,_⟩:=J7 Zx Zo [] false (Q1 good_typed6 Rj.eq_def (Q1 Cd jF J5));have Ko:=Bv.eq_def;refine J9 K Tryz.func185 [.tmp 6,.cell 7 137] rfl 52 rfl (fun c hc Ji Zh=>?_);unfold Bv at Zh;obtain ⟨⟨l⟩,⟨i,ss,e⟩,v,rfl,hS,hv⟩:=Mi Zh;simp only at hS hv;clear Zh;have Q5:=hS.len;have mN:=hS.lo;have Ob:=hS.hi;have Zm9:=hS.sites;have vA:=hS.txt;simp only at mN Ob Zm9;obtain ⟨⟨Rt,⟨Ra,Rs,Re⟩⟩,Qo⟩:=exq (Kf l ⟨i,ss,e⟩ v);have Qn:=Qo;unfold Kf at Qn;simp only at Qn;have Ql:(ss.map (enc:Site→D)).length=ss.length:=Zf ..;cases hc;refine W5 3 ?_;by_cases he:e=0
 case neg =>
  rw [if_pos he] at Qn;have Qk:(e != 0)=true:=bne_iff_ne.2 he;simp only [Zc,St6.mk.injEq] at Qn;obtain ⟨rfl,rfl,rfl,rfl⟩:=Qn;have Jb:=@Zy;have Z3:=@Z8;have Z6:=@Z9;exact Gx
 have Qk:(e != 0)=false:=by rw [he];rfl
 rw [if_neg (by simpa using he)] at Qn
 obtain ⟨Zbb,aW,jD⟩:=hv he;cases Qi:Ox l ⟨i,ss,e⟩ 5 [58] with
 | true =>
  rw [Qi,if_pos rfl] at Qn;have Zv:i<l.length:=by
   unfold Ox at Qi;simp only [Zg,Jj] at Qi;exact Qi.2.1
  have K9:X3 ⟨i,ss,e⟩=⟨i+1,ss,e⟩:=rfl;rw [K9] at Qn;have Vt:St6Ok l ⟨i+1,ss,e⟩:=⟨Q5,by show 0≤i+1;omega,by show i+1≤_;omega,Zm9,vA,hS.fig⟩
  have Qss:e=0→1≤v∧v≤100:=fun _=>⟨aW,jD⟩;have Jb:=@Zy;have Z3:=@Z8;have Z6:=@Z9;exact Gx
 | false =>
  rw [Qi,if_neg (by simp)] at Qn
  obtain ⟨i,rfl⟩:∃ n:Nat,i=n:=⟨i.toNat,by omega⟩
  have Qp:(i:Int)-1=((i-1:Nat):Int):=by omega
  have Qv:=Zp Us (show i-1<l.length by omega)
  rw [Qp,Hh] at Qn;obtain ⟨t,ht⟩:=exq (l.getD (i-1) Us);rw [ht] at Qv Qn;simp only [Zc,St6.mk.injEq] at Qn;obtain ⟨rfl,rfl,Qmv,rfl⟩:=Qn;have Q3:ss.map (enc:Site→D)++[.agg [.int .i64 t.to,.int .i64 t.to,.bool true]]=Rs.map enc:=by rw [←Qmv,List.map_append];rfl
  have Jh:(Rs.map (enc:Site→D)).length=ss.length+1:=by rw [←Qmv,Zf,Ze];rfl
  have Jbx:(Rs.length:Int)=(ss.length:Int)+1:=by rw [←Qmv,Ze];rfl
  clear Qmv;have Jb:=@Zy;have Z3:=@Z8;have Z6:=@Z9;exact Gx
def Sc (l:List (Sl Part)):List Part:=l.flatMap fun x=>x.l
def W4 (p:Part) (l:List (Sl Part)):List Part:=p::Sc l
theorem Zyk {l:List (Sl Part)} {k:Nat} (h:k<l.length):Sc (l.take (k+1))=Sc (l.take k)++(l.getD k ⟨[]⟩).l:=by
 unfold Sc;rw [Y0 (⟨[]⟩:Sl Part) h,List.flatMap_append];simp
theorem Qd4 {l:List (Sl Part)} (h:∀ x∈l,x.l.length≤1000000):(Sc l).length≤1000000*l.length:=by
 induction l with
 | nil=>exact Zr _
 | cons x l ih =>
  have:=ih fun y hy=>h y (List.mem_cons_of_mem _ hy);have hx:=h x (by simp)
  unfold Sc at this ⊢;rw [List.flatMap_cons,Ze,Zi];omega
def Up {A B E:Type} [Enc A] [Enc B] [Enc E] [Sz E] (p:A→B→Prop) (f:A→B→List E):Con:=⟨[false,false],[true],fun c=>match c with
 | [.d x,.d y]=>Ul A x∧Ul B y∧p (dec x) (dec y)
 | _=>False,fun c=>match c with
 | [.d x,.d y]=>.own (Sz.sz E) ((f (dec x) (dec y)).map enc)
 | _=>.d .nilp⟩
theorem Qek {A B E:Type} [Enc A] [Enc B] [Enc E] [Sz E] {p:A→B→Prop} {f:A→B→List E} {c:List CV} (h:(Up p f).pre c):∃ a b,c=[.d (enc a),.d (enc b)]∧p a b:=by
 unfold Up at h;simp only at h;split at h
 ·next x y=>exact ⟨dec x,dec y,by rw [←h.1,←h.2.1],h.2.2⟩
 ·exact h.elim
def Jt {A B C E S:Type} [Enc A] [Enc B] [Enc C] [Enc E] [Sz E] [Enc S] (p:A→B→C→Prop) (f:A→B→C→List E×S):Con:=⟨[false,false,false],[true,false],fun c=>match c with
 | [.d x,.d y,.d z]=>Ul A x∧Ul B y∧Ul C z∧p (dec x) (dec y) (dec z)
 | _=>False,fun c=>match c with
 | [.d x,.d y,.d z]=>.tup [.own (Sz.sz E) ((f (dec x) (dec y) (dec z)).1.map enc),.d (enc (f (dec x) (dec y) (dec z)).2)]
 | _=>.d .nilp⟩
theorem Xc {A B C E S:Type} [Enc A] [Enc B] [Enc C] [Enc E] [Sz E] [Enc S] {p:A→B→C→Prop} {f:A→B→C→List E×S} {c:List CV} (h:(Jt p f).pre c):∃ a b d,c=[.d (enc a),.d (enc b),.d (enc d)]∧p a b d:=by
 unfold Jt at h;simp only at h;split at h
 ·next x y z=>exact ⟨dec x,dec y,dec z,by rw [←h.1,←h.2.1,←h.2.2.1],h.2.2.2⟩
 ·exact h.elim
def O7 {A B C D' E S:Type} [Enc A] [Enc B] [Enc C] [Enc D'] [Enc E] [Sz E] [Enc S] (p:A→B→C→D'→Prop) (f:A→B→C→D'→List E×S):Con:=⟨[false,false,false,false],[true,false],fun c=>match c with
 | [.d x,.d y,.d z,.d w]=>Ul A x∧Ul B y∧Ul C z∧Ul D' w∧p (dec x) (dec y) (dec z) (dec w)
 | _=>False,fun c=>match c with
 | [.d x,.d y,.d z,.d w]=>.tup [.own (Sz.sz E) ((f (dec x) (dec y) (dec z) (dec w)).1.map enc),.d (enc (f (dec x) (dec y) (dec z) (dec w)).2)]
 | _=>.d .nilp⟩
theorem Zly {A B C D' E S:Type} [Enc A] [Enc B] [Enc C] [Enc D'] [Enc E] [Sz E] [Enc S] {p:A→B→C→D'→Prop} {f:A→B→C→D'→List E×S} {c:List CV} (h:(O7 p f).pre c):∃ a b d e,c=[.d (enc a),.d (enc b),.d (enc d),.d (enc e)]∧p a b d e:=by
 unfold O7 at h;simp only at h;split at h
 ·next x y z w=>exact ⟨dec x,dec y,dec z,dec w,by rw [←h.1,←h.2.1,←h.2.2.1,←h.2.2.2.1],h.2.2.2.2⟩
 ·exact h.elim
def V3:Con:=Up (fun (_:Part) (l:Sl (Sl Part))=>l.l.length≤10∧∀ x∈l.l,x.l.length≤1000000) (fun p l=>W4 p l.l)
theorem Hk:type_of% @V3.eq_def:=@V3.eq_def
class Kfz:Prop
theorem Kfz.k (_:Kfz) (h:p:=by
 first|exact ⟨k+1,by (have Vc:=Zmz;have Cs:=Qxa;exact Qt)<;>omega,by omega,by omega⟩|skip):p:=h
class Kfy:Prop
theorem Kfy.k (_:Kfy) (h:p:=by
 refine Zm [9,10,11,12,13,14,15,16,17,18,19,20] (fun k:Nat=>[(5,.sl 8 ((p::Sc (l.take k)).map (enc:Part→D)).length),(6,.d (.int .i64 k))]) (fun k:Nat=>[(8,.row 8 ((p::Sc (l.take k)).map enc) 0)]) (fun k:Nat=>k≤l.length) (fun k:Nat=>l.length-k) 0 ?_ ?_ ?_
 ·omega
 ·have Vc:=@Sc.eq_1;have Cs:=@Z5;exact Qt
 rintro k hk;have hb:=mM k;rcases Zn k l.length with ⟨Zv,Qk⟩|⟨Zv,Qk⟩
 ·have Qo:=Zp (⟨[]⟩:Sl Part) Zv;have hS:=Zyk Zv;have aZ:=hL (l.getD k ⟨[]⟩) (by simp [Zv])
  obtain ⟨⟨x⟩,hx⟩:=exq (l.getD k ⟨[]⟩);rw [hx] at Qo hS aZ;simp only at hS aZ;obtain ⟨P,hP⟩:=exq (Sc (l.take k));rw [hP] at hb hS;rw [hP];have Qi:(p::P).map (enc:Part→D)++x.map enc=(p::Sc (l.take (k+1))).map enc:=by rw [hS,←List.map_append,List.cons_append]
  have Qn:((p::P).map (enc:Part→D)).length=P.length+1:=by simp
  have Zmz:(Sc (l.take (k+1))).length=P.length+x.length:=by rw [hS,Ze]
  have Ql:(x.map (enc:Part→D)).length=x.length:=Zf ..;obtain ⟨P1,Qxb⟩:=exq (p::P);have Qxa:P1.length=P.length+1:=by rw [←Qxb];rfl
  rw [Qxb] at Qi Qn;rw [Qxb];have Kq:Kfz:=⟨⟩;exact jW
 ·have Ni:k=l.length:=by omega
  rw [Ni,List.take_length];rw [Ni] at Qk;have hm:p::Sc l=R:=by rw [←Qp];rfl
  rw [hm];have Qv:=@Up.eq_def;exact Qcq):p:=h
theorem good_made6:Qc Tryz.prog (251,V3):=by
 obtain ⟨Kx,Kt,Kc,Kd,Kb,Ku,Kw,K,_⟩:=J7 Zx Zo [] false J5;have Ko:=Hk;refine J9 K Tryz.func251 [.tmp 4] rfl 22 rfl (fun c hc Ji Zh=>?_);unfold V3 at Zh;obtain ⟨p,⟨l⟩,rfl,hl,hL⟩:=Qek Zh;simp only at hl hL;clear Zh;obtain ⟨R,Qp⟩:=exq (W4 p l);have mM:∀ k,(Sc (l.take k)).length≤10000000:=fun k=>by
  have:=Qd4 (l:=l.take k) fun x hx=>hL x (List.mem_of_mem_take hx);rw [List.length_take] at this;omega
 cases hc;have Qv:=@Up.eq_def;have Kq:Kfy:=⟨⟩;exact jW
def jA {A B C E R S:Type} [Enc A] [Enc B] [Enc C] [Enc E] [Enc R] [Enc S] (p:A→B→C→E→Prop) (f:A→B→C→E→R×S):Con:=⟨[false,false,false,false],[false,false],fun c=>match c with
 | [.d x,.d y,.d z,.d w]=>Ul A x∧Ul B y∧Ul C z∧Ul E w∧p (dec x) (dec y) (dec z) (dec w)
 | _=>False,fun c=>match c with
 | [.d x,.d y,.d z,.d w]=>.tup [.d (enc (f (dec x) (dec y) (dec z) (dec w)).1),.d (enc (f (dec x) (dec y) (dec z) (dec w)).2)]
 | _=>.d .nilp⟩
theorem Qhn {A B C E R S:Type} [Enc A] [Enc B] [Enc C] [Enc E] [Enc R] [Enc S] {p:A→B→C→E→Prop} {f:A→B→C→E→R×S} {c:List CV} (h:(jA p f).pre c):∃ a b d e,c=[.d (enc a),.d (enc b),.d (enc d),.d (enc e)]∧p a b d e:=by
 unfold jA at h;simp only at h;split at h
 ·next x y z w=>exact ⟨dec x,dec y,dec z,dec w,by rw [←h.1,←h.2.1,←h.2.2.1,←h.2.2.2.1],h.2.2.2.2⟩
 ·exact h.elim
def Yg (l:List Tok) (s:St6) (k:Int) (had:List (List UInt8)):List UInt8×St6 :=
 if (Jn l s k).2.e≠0 then Jn l s k
 else if in6 had (Jn l s k).1=true then ((Jn l s k).1,⟨s.at_,s.sites,7⟩)
 else if 50≤had.length then ((Jn l s k).1,⟨s.at_,s.sites,3⟩)
 else Jn l s k
def Ro:Con:=jA (fun (l:Sl Tok) (s:St6) (_:Int) (had:Sl (List UInt8))=>(l.l.length≤1000000∧0≤s.at_∧s.at_≤2000000)∧had.l.length≤1000000) (fun l s k had=>Yg l.l s k had.l)
theorem tO:Qc Tryz.prog (253,Ro):=by
 obtain ⟨Kx,Kt,Kc,Kd,Kb,Ku,Kw,K,X4,V2,Mo,_⟩:=J7 Zx Zo [] false (Q1 U7 Ml (Q1 good_in6 iQ.eq_def (Q1 Gb T1 J5)));have Ko:=Ro.eq_def;refine J9 K Tryz.func253 [.tmp 8,.cell 9 137] rfl 38 rfl (fun c hc Ji Zh=>?_);unfold Ro at Zh;obtain ⟨⟨l⟩,⟨i,ss,e⟩,kd,⟨had⟩,rfl,⟨hl,Zb6,mF⟩,hh⟩:=Qhn Zh;simp only at hl Zb6 mF hh;clear Zh;obtain ⟨⟨Rx,⟨Ra,Rs,Re⟩⟩,Qi⟩:=exq (Yg l ⟨i,ss,e⟩ kd had);have Zq:=Qi;unfold Yg at Zq;have Qfb:=Gj l ⟨i,ss,e⟩ kd;obtain ⟨⟨x,q⟩,Qk⟩:=exq (Jn l ⟨i,ss,e⟩ kd);rw [Qk] at Zq Qfb;obtain ⟨qa,qs,qe⟩:=q;simp only at Zq;have Qpz:qe=0→e=0:=fun h=>by
  rcases Qfb with ⟨h1,h2⟩|⟨h1,_⟩|⟨h1,_⟩|⟨h1,_⟩
  ·simp only [Zc,St6.mk.injEq] at h2;rw [←h2.2.2.2];exact h
  ·exact h1
  ·exact h1
  ·exact h1
 clear Qfb;cases hc;refine W5 2 ?_;by_cases hq:qe=0
 case neg =>
  rw [if_pos hq] at Zq;have Qo:(qe != 0)=true:=bne_iff_ne.2 hq;simp only [Zc,St6.mk.injEq] at Zq;obtain ⟨rfl,rfl,rfl,rfl⟩:=Zq;have Q3:=@jA.eq_def;have Jh:=@Zy;have Jb:=@Z8;have Z3:=@Z9;exact Gx
 have Qo:(qe != 0)=false:=by rw [hq];rfl
 have he:=Qpz hq;subst he;rw [if_neg (by simpa using hq)] at Zq
 have Ql:J8 ⟨i,ss,0⟩ 7=⟨i,ss,7⟩:=rfl;have Qv:J8 ⟨i,ss,0⟩ 3=⟨i,ss,3⟩:=rfl;cases Qn:in6 had x with
 | true =>
  rw [Qn,if_pos rfl] at Zq;simp only [Zc,St6.mk.injEq] at Zq;obtain ⟨rfl,rfl,rfl,rfl⟩:=Zq;have Q3:=@jA.eq_def;have Jh:=@Zy;have Jb:=@Z8;have Z3:=@Z9;exact Gx
 | false =>
  rw [Qn,if_neg (by simp)] at Zq
  by_cases Qfr:50≤had.length
  ·rw [if_pos Qfr] at Zq;have Qp:Xp 50 (had.length:Int)=true:=by rw [Q9];omega
   simp only [Zc,St6.mk.injEq] at Zq;obtain ⟨rfl,rfl,rfl,rfl⟩:=Zq;have Q3:=@jA.eq_def;have Jh:=@Zy;have Jb:=@Z8;have Z3:=@Z9;exact Gx
  ·rw [if_neg Qfr] at Zq;have Qp:Xp 50 (had.length:Int)=false:=by rw [←Bool.not_eq_true,Q9];omega
   simp only [Zc,St6.mk.injEq] at Zq;obtain ⟨rfl,rfl,rfl,rfl⟩:=Zq;have Q3:=@jA.eq_def;have Jh:=@Zy;have Jb:=@Z8;have Z3:=@Z9;exact Gx
def Qrq (t:Tok):Bool :=
 if t.kind=1∨t.kind=3∨t.kind=4 then true
 else if t.kind=6 then (t.text==[116,114,117,101])||(t.text==[102,97,108,115,101])
 else if t.kind=5 then (t.text==[40])||((t.text==[123])||(t.text==[91]))
 else false
def Mj (l:List Tok) (s:St6):Bool:=if s.e≠0∨(l.length:Int)≤s.at_ then false else Qrq (tk l s.at_)
def Cj:Con:=Jy (fun (l:Sl Tok) (s:St6)=>l.l.length≤1000000∧0≤s.at_) (fun l s=>Mj l.l s)
class KfA:Prop
theorem KfA.k (_:KfA) (h:p:=by
 first|(rw [←Zq];clear Zq Qo K Qn ht;simp_all;done)|(symm;rw [←Zq];clear Zq Qo K Qn ht;simp_all;done)|(rename_i h1 h2;rw [←Zq,if_neg (by omega),if_neg (by omega),if_pos (by assumption),Za.2 h1,Za.2 h2];rfl)|trivial|skip):p:=h
theorem good_begins6:Qc Tryz.prog (261,Cj):=by
 obtain ⟨Kx,Kt,Kc,Kd,Kb,Ku,Kw,K,_⟩:=J7 Zx Zo [] false J5;have Ko:=Cj.eq_def;refine J9 K Tryz.func261 [.tmp 4] rfl 52 rfl (fun c hc Ji Zh=>?_);unfold Cj at Zh;obtain ⟨⟨l⟩,⟨i,ss,e⟩,rfl,hl,Zb6⟩:=Qf Zh;simp only at hl Zb6;clear Zh;obtain ⟨i,rfl⟩:∃ n:Nat,i=n:=⟨i.toNat,by omega⟩
 obtain ⟨R,Qo⟩:=exq (Mj l ⟨i,ss,e⟩);have Zq:=Qo;unfold Mj at Zq;simp only [Hh] at Zq;cases hc;refine W5 3 ?_;by_cases he:e=0
 case neg =>
  rw [if_pos (.inl he)] at Zq;have Qk:(e != 0)=true:=bne_iff_ne.2 he;subst Zq;have Ql:=@Zy;have Qp:=@Z8;have Qv:=@Z9;exact Qcq
 have Qk:(e != 0)=false:=by rw [he];rfl
 by_cases Zv:(l.length:Int)≤(i:Int)
 ·rw [if_pos (.inr Zv)] at Zq;have Qi:Xp (l.length:Int) (i:Int)=true:=by rw [Q9];exact Zv
  subst Zq;have Ql:=@Zy;have Qp:=@Z8;have Qv:=@Z9;exact Qcq
 rw [if_neg (by simp only [he];simp;omega)] at Zq
 have Qi:Xp (l.length:Int) (i:Int)=false:=by rw [←Bool.not_eq_true,Q9];exact Zv
 have Qn:=Zp Us (show i<l.length by omega)
 obtain ⟨t,ht⟩:=exq (l.getD i Us);rw [ht] at Qn Zq;unfold Qrq at Zq;have Ql:=@Zy;have Qp:=@Z8;have Qv:=@Z9;have Kq:KfA:=⟨⟩;exact jW
def aI (b:Int):List (List UInt8):=if b=0 then [[124,124]] else if b=1 then [[38,38]] else if b=2 then [[60],[61,61]] else if b=3 then [[43],[45],[43,43]] else [[42],[47]]
def bL:Con:=Xj (fun (_:Int)=>True) (fun b=>Sl.mk (aI b))
class KfB:Prop
theorem KfB.k (_:KfB) (h:p:=by
 first|(rw [←Zq];simp_all;done)|(rw [←Zq];simp_all;rfl)|(rw [←Zq,if_pos (by assumption)];rfl)|(rw [←Zq,if_neg (by assumption),if_pos (by assumption)];rfl)|(rw [←Zq,if_neg (by assumption),if_neg (by assumption),if_pos (by assumption)];rfl)|(rw [←Zq,if_neg (by assumption),if_neg (by assumption),if_neg (by assumption),if_pos (by assumption)];rfl)|(rw [←Zq,if_neg (by assumption),if_neg (by assumption),if_neg (by assumption),if_neg (by assumption)];rfl)|skip):p:=h
theorem good_signs6:Qc Tryz.prog (255,bL):=by
 obtain ⟨Kx,Kt,Kc,Kd,Kb,Ku,Kw,K,_⟩:=J7 Zx Zo [] false J5;have Ko:=bL.eq_def;refine J9 K Tryz.func255 [.tmp 2] rfl 17 rfl (fun c hc Ji Zh=>?_);unfold bL at Zh;obtain ⟨b,rfl,-⟩:=Q8 Zh;clear Zh;obtain ⟨R,Qk⟩:=exq (aI b);have Zq:=Qk;unfold aI at Zq;cases hc;have Kq:KfB:=⟨⟩;exact jW
end Go.Am.Ty
