/- Contracts of functions that the law reaches, and plain laws. Conditions: those that each contract states. -/
import Derived.Test.YtilpfkjhahnfaaaGreatH7
set_option maxHeartbeats 4000000
set_option linter.unusedVariables false
set_option linter.unusedSimpArgs false
variable {p:Prop}
set_option maxRecDepth 100000
namespace Go.Am.Ty
open Go.Proofs
open Enc (enc dec)
def Ck:Con:=zJ (fun (s:List UInt8) (i:Int)=>s.length≤1000000∧0≤i∧i<s.length) (fun s i=>oO s i.toNat)
structure KdD:Prop
theorem KdD.k (_:KdD) (h:p:=by
 repeat' first|exact Z8|with_reducible apply Zb|intro _
 all_goals first|with_reducible exact Jd|omega|(rw [Xr];omega)|(rw [Za2];omega)|rfl|skip):p:=h
theorem good_escaped1:Qa Tryz.prog (219,Ck):=by
 obtain ⟨Kx,Kt,Kc,Kd,Kb,Ku,Kw,K,X9,_⟩:=Xe Zv Zn [] false (Q0 good_sixteen1 T9.eq_def Xd);have Ko:=Ck.eq_def;refine Xj K Tryz.func219 [.tmp 4,.tmp 5] rfl 66 rfl (fun c hc cvs hpre=>?_);unfold Ck at hpre;obtain ⟨s,i,rfl,hs,hi0,hi1⟩:=zX hpre;obtain ⟨i,rfl⟩:∃ n:Nat,i=n:=⟨i.toNat,by omega⟩
 clear hpre;obtain ⟨R,Z9⟩:=exq (oO s i);have hR2:=Z9;unfold oO at hR2;have Qb:(i:Int)+1=((i+1:Nat):Int):=rfl;have Qe:(i:Int)+2=((i+2:Nat):Int):=rfl;have Qd:(i:Int)+3=((i+3:Nat):Int):=rfl;by_cases h1:s.length≤i+1
 ·rw [if_pos h1] at hR2;have Qf:Xf (s.length:Int) ((i+1:Nat):Int)=true:=by rw [Qx];omega
  subst hR2;cases hc;refine Y4 4 ?_;exact N9
 rw [if_neg h1] at hR2;have Qf:Xf (s.length:Int) ((i+1:Nat):Int)=false:=by rw [←Bool.not_eq_true,Qx];omega
 unfold Qdg at hR2;obtain ⟨c,Qc⟩:=exq (s.getD (i+1) 0);rw [Qc] at hR2;have Qh:((c.toNat:Int)==92)=(c==92):=Nk (b:=92);have Q6:((c.toNat:Int)==34)=(c==34):=Nk (b:=34);have Q4:((c.toNat:Int)==110)=(c==110):=Nk (b:=110);have Zx:((c.toNat:Int)==116)=(c==116):=Nk (b:=116);have Zz:((c.toNat:Int)==120)=(c==120):=Nk (b:=120);have hlt1:i+1<s.length:=by omega
 by_cases h92:c=92
 ·rw [if_pos (.inl h92)] at hR2;have Qn:(c==92)=true:=Zk.2 h92;subst hR2;cases hc;refine Y4 4 ?_;exact N9
 have Qn:(c==92)=false:=Za.2 h92;by_cases h34:c=34
 ·rw [if_pos (.inr h34)] at hR2;have Je:(c==34)=true:=Zk.2 h34;subst hR2;cases hc;refine Y4 4 ?_;exact N9
 have Je:(c==34)=false:=Za.2 h34;rw [if_neg (by simp [h92,h34])] at hR2
 by_cases h110:c=110
 ·rw [if_pos h110] at hR2;have Zu:(c==110)=true:=Zk.2 h110;subst hR2;cases hc;refine Y4 4 ?_;exact N9
 have Zu:(c==110)=false:=Za.2 h110;rw [if_neg h110] at hR2;by_cases h116:c=116
 ·rw [if_pos h116] at hR2;have Zw:(c==116)=true:=Zk.2 h116;subst hR2;cases hc;refine Y4 4 ?_;exact N9
 have Zw:(c==116)=false:=Za.2 h116;rw [if_neg h116] at hR2;by_cases h120:c=120
 case neg =>
  have Zy:(c==120)=false:=Za.2 h120;rw [if_neg (fun h=>h120 h.1)] at hR2;subst hR2;cases hc;refine Y4 4 ?_;exact N9
 have Zy:(c==120)=true:=Zk.2 h120;by_cases h3:i+3<s.length
 case neg =>
  have Z1:X4 ((i+3:Nat):Int) (s.length:Int)=false:=by rw [Qv];omega
  rw [if_neg (fun h=>h3 h.2.1)] at hR2;subst hR2;cases hc;refine Y4 4 ?_;exact N9
 have Z1:X4 ((i+3:Nat):Int) (s.length:Int)=true:=by rw [Jf];omega
 obtain ⟨a,Z0⟩:=exq (s.getD (i+2) 0);obtain ⟨b,Qi⟩:=exq (s.getD (i+3) 0);rw [Z0,Qi] at hR2;have ga:=Zso (c:=a);have gb:=Zso (c:=b);obtain ⟨x,Qk⟩:=exq (oE a);obtain ⟨y,Q8⟩:=exq (oE b);rw [Qk] at ga;rw [Q8] at gb;rw [Qk,Q8] at hR2;by_cases hx0:0≤x
 case neg =>
  have Qs:Xf 0 x=false:=by rw [←Bool.not_eq_true,Qx];exact hx0
  rw [if_neg (fun h=>hx0 h.2.2.1)] at hR2;subst hR2;cases hc;refine Y4 4 ?_;exact N9
 have Qs:Xf 0 x=true:=by rw [Qx];exact hx0
 by_cases hy0:0≤y
 case neg =>
  have Q5:Xf 0 y=false:=by rw [←Bool.not_eq_true,Qx];exact hy0
  rw [if_neg (fun h=>hy0 h.2.2.2)] at hR2;subst hR2;cases hc;refine Y4 4 ?_;exact N9
 have Q5:Xf 0 y=true:=by rw [Qx];exact hy0
 rw [if_pos ⟨h120,h3,hx0,hy0⟩] at hR2;subst hR2;cases hc;refine Y4 4 ?_;have Kq:KdD:=⟨⟩;exact Y6
def Co:Con:=K4 (fun (s:List UInt8)=>s.length≤1000000) (fun s=>I9 s)
structure KdF:Prop
theorem KdF.k (_:KdF) (h:p:=by
 repeat' first|exact Z8|with_reducible apply Zb|intro _
 all_goals first|omega|(rw [Xr];omega)|(simp only [Zf];omega)|exact ⟨(f,i+en,out++et),by exact Qw,by simp only;omega,by simp only;omega,by simp only;omega,by simp only [Zf];omega,h5,by simp only;omega⟩|skip):p:=h
structure KdG:Prop
theorem KdG.k (_:KdG) (h:p:=by
 repeat' first|exact Z8|with_reducible apply Zb|intro _
 all_goals first|omega|(rw [Xr];omega)|(rw [Zf,hpl];omega)|exact ⟨(f,i+n,out++(s.take (i+n)).drop i),by exact Qw,by simp only;omega,by simp only;omega,by simp only;omega,by simp only [Zf,hpl];omega,h5,by simp only;omega⟩|skip):p:=h
structure KdE:Prop
theorem KdE.k (_:KdE) (h:p:=by
 repeat' first|exact Z8|with_reducible apply Zb|intro _
 all_goals try omega
 refine Zm [2,3,4,7,8,9,10,19,20,21,22,23,24,25,26,27,28,29,30,31,32,33,34,35,36,37,38,39,40,41,42,43,44,45,46,47,48,49,50,51,52,53,54,55,56,57,58,59,60,61,62,63,64,65,66,67,68,69,70,71,72] (fun p:Nat×Nat×List UInt8=>[(5,.d (.str p.2.2)),(6,.d (.int .i64 p.2.1))]) (fun p:Nat×Nat×List UInt8=>[]) (fun p:Nat×Nat×List UInt8=>s.length≤p.1+p.2.1∧1≤p.2.1∧p.2.1≤s.length∧p.2.2.length≤p.2.1∧eK p.1 s p.2.1 p.2.2=R) (fun p:Nat×Nat×List UInt8=>s.length-p.2.1) (s.length,1,[]) ?_ ?_ ?_
 ·exact ⟨by simp,by simp,by simp only;omega,by simp,hR2⟩
 ·exact Qw
 rintro ⟨f,i,out⟩ ⟨h1,h2,h3,h4,h5⟩;simp only at h1 h2 h3 h4 h5;rcases Zo i s.length with ⟨hlt,Qh⟩|⟨hlt,Qh⟩
 ·obtain ⟨f,rfl⟩:∃ g,f=g+1:=⟨f-1,by omega⟩
  rw [eK,if_neg (by omega)] at h5
  have hlo:=Znj hlt;have hes:=Zto (s:=s) hlt;obtain ⟨x,Qn⟩:=exq (s.getD i 0);rw [Qn] at h5;have Q6:((x.toNat:Int)==34)=(x==34):=Nk (b:=34);have Zx:X4 (x.toNat:Int) 32=decide (x<32):=Zyv (b:=32);have Zz:((x.toNat:Int)==127)=(x==127):=Nk (b:=127);have Qd:((x.toNat:Int)==92)=(x==92):=Nk (b:=92);by_cases hq:x=34
  ·rw [if_pos hq] at h5;have Je:(x==34)=true:=Zk.2 hq;subst h5;exact N9
  rw [if_neg hq] at h5;have Je:(x==34)=false:=Za.2 hq;obtain ⟨n,Q4⟩:=exq (gN s i);rw [Q4] at h5 hlo;by_cases hbad:n=0∨x<32∨x=127
  ·rw [if_pos hbad] at h5;subst h5;by_cases b1:n=0
   ·have Zu:((n:Int)==0)=true:=by rw [Zk];omega
    exact N9
   have Zu:((n:Int)==0)=false:=by rw [Za];omega
   by_cases b2:x<32
   ·have Zw:decide (x<32)=true:=decide_eq_true b2;exact N9
   have Zw:decide (x<32)=false:=decide_eq_false b2;have b3:x=127:=by rcases hbad with h|h|h<;>first|exact h|contradiction
   have Zy:(x==127)=true:=Zk.2 b3;exact N9
  ·rw [if_neg hbad] at h5;have Zu:((n:Int)==0)=false:=by rw [Za];intro e;exact hbad (.inl (by omega))
   have Zw:decide (x<32)=false:=decide_eq_false fun h=>hbad (.inr (.inl h));have Zy:(x==127)=false:=Za.2 fun h=>hbad (.inr (.inr h));have hn1:1≤n:=by have:n≠0:=fun e=>hbad (.inl e);omega
   have Qk:(i:Int)+(n:Int)=((i+n:Nat):Int):=rfl;by_cases he:x=92
   ·rw [if_pos he] at h5;have Z1:(x==92)=true:=Zk.2 he;obtain ⟨⟨et,en⟩,Z0⟩:=exq (oO s i);rw [Z0] at h5 hes;simp only at h5 hes;by_cases hz0:en=0
    ·rw [if_pos hz0] at h5;have Qi:(en==0)=true:=Zk.2 hz0;subst h5;exact N9
    rw [if_neg hz0] at h5;have Qi:(en==0)=false:=Za.2 hz0;obtain ⟨en,rfl⟩:∃ m:Nat,en=m:=⟨en.toNat,by omega⟩
    rw [Zj] at h5 hes;have Kq:KdF:=⟨⟩;exact Y6
   ·rw [if_neg he] at h5;have Z1:(x==92)=false:=Za.2 he;have hpl:((s.take (i+n)).drop i).length=n:=by rw [List.length_drop,List.length_take];omega
    have Kq:KdG:=⟨⟩;exact Y6
 ·have hil:i=s.length:=by omega
  have hr:R=([],0,2):=by
   rw [←h5];cases f with
   | zero=>rfl
   | succ f=>rw [eK,if_pos (by omega)]
  subst hr;exact Zp6):p:=h
theorem good_Unquote1:Qa Tryz.prog (177,Co):=by
 obtain ⟨Kx,Kt,Kc,Kd,Kb,Ku,Kw,K,X9,Uv,_⟩:=Xe Zv Zn [] false (Q0 good_Long1 cL.eq_def (Q0 good_escaped1 Ck.eq_def Xd));have Ko:=Co.eq_def;refine Xj K Tryz.func177 [.tmp 2,.tmp 3,.tmp 4] rfl 73 rfl (fun c hc cvs hpre=>?_);unfold Co at hpre;obtain ⟨s,rfl,hs⟩:=uX hpre;clear hpre;obtain ⟨R,Qf⟩:=exq (I9 s);have hR2:=Qf;unfold I9 at hR2;by_cases h0:s.length=0
 ·rw [if_pos (.inl h0)] at hR2;have Qb:((s.length:Int)==0)=true:=by rw [Zk];omega
  subst hR2;cases hc;refine Y4 4 ?_;exact Zp6
 have Qb:((s.length:Int)==0)=false:=by rw [Za];omega
 obtain ⟨c,Z9⟩:=exq (s.getD 0 0);rw [Z9] at hR2;have Qe:((c.toNat:Int) != 34)=(c != 34):=by rw [bne,bne];exact congrArg _ (Nk (b:=34))
 by_cases h34:c=34
 case neg =>
  rw [if_pos (.inr h34)] at hR2;have Qc:(c != 34)=true:=bne_iff_ne.2 h34;subst hR2;cases hc;refine Y4 4 ?_;have Qs:=@Int.toNat_zero;exact N9
 rw [if_neg (by simp [h0,h34])] at hR2
 have Qc:(c != 34)=false:=by rw [h34];rfl
 cases hc;refine Y4 4 ?_;have Qs:=@Int.toNat_zero;have Kq:KdE:=⟨⟩;exact Y6
def cX:Con:=Hr (Sl.mk Ztb)
theorem Zq8:Qa Tryz.prog (222,cX):=by
 obtain ⟨Kx,Kt,Kc,Kd,Kb,Ku,Kw,K,_⟩:=Xe Zv Zn [] false Xd;have Ko:=cX.eq_def;refine Xj K Tryz.func222 [.tmp 0] rfl 2 rfl (fun c hc cvs hpre=>?_);unfold cX at hpre;obtain rfl:=uJ hpre;cases hc;exact N9
def A7:Con:=Hr (Sl.mk eF)
theorem Zn1:Qa Tryz.prog (223,A7):=by
 obtain ⟨Kx,Kt,Kc,Kd,Kb,Ku,Kw,K,_⟩:=Xe Zv Zn [] false Xd;have Ko:=A7.eq_def;refine Xj K Tryz.func223 [.tmp 0] rfl 2 rfl (fun c hc cvs hpre=>?_);unfold A7 at hpre;obtain rfl:=uJ hpre;cases hc;exact N9
def Ir:Con:=J7 (fun (_:List UInt8)=>True) (fun s=>lN s)
structure KdI:Prop
theorem KdI.k (_:KdI) (h:p:=by
 repeat' first|exact Z8|with_reducible apply Zb|intro _
 all_goals first|with_reducible exact Jd|omega|exact ⟨k+1,by exact Qw,by omega,h2,by omega⟩|skip):p:=h
structure KdH:Prop
theorem KdH.k (_:KdH) (h:p:=by
 repeat' first|exact Z8|with_reducible apply Zb|intro _
 refine Zm [2,6,7,8,9,10,11,12,13,14,15,16,17] (fun k:Nat=>[(4,.d (.int .i64 k))]) (fun k:Nat=>[]) (fun k:Nat=>k≤18∧∀ j,j<k→l.getD j []≠s) (fun k:Nat=>18-k) 0 ?_ ?_ ?_
 ·simp
 ·exact Qw
 rintro k ⟨hk,hno⟩;by_cases hlt:k<18
 ·have Z9:X4 (k:Int) 18=true:=by rw [Jf];omega
  have Qe:=Zr ([]:List UInt8) (show k<l.length by omega)
  have hst:l.getD k []≠s→∀ j,j<k+1→l.getD j []≠s:=fun h=>K6 hno h;have hit:(l.getD k []==s)=true→R=true:=fun h=>by rw [←hR2];exact Ix (p:=fun o=>o==s) [] k (by omega) h
  obtain ⟨y,hy⟩:=exq (l.getD k []);rw [hy] at Qe hst hit;cases Qc:(y==s) with
  | true =>
   have hr:=hit Qc;subst hr;exact N9
  | false =>
   have h2:=hst (Za.1 Qc);have Kq:KdI:=⟨⟩;exact Y6
 ·have Z9:X4 (k:Int) 18=false:=by rw [Qv];omega
  have hr:R=false:=by rw [←hR2];exact Su (p:=fun o=>o==s) [] fun j hj=>Za.2 (hno j (by omega))
  subst hr;exact Zp6):p:=h
theorem good_IsKey2:Qa Tryz.prog (180,Ir):=by
 obtain ⟨Kx,Kt,Kc,Kd,Kb,Ku,Kw,K,X9,_⟩:=Xe Zv Zn [] false (Q0 Zq8 cX.eq_def Xd);have Ko:=Ir.eq_def;refine Xj K Tryz.func180 [.tmp 2] rfl 18 rfl (fun c hc cvs hpre=>?_);unfold Ir at hpre;obtain ⟨s,rfl,-⟩:=Q2 hpre;clear hpre;obtain ⟨R,Qh⟩:=exq (lN s);have hR2:=Qh;unfold lN at hR2;have hl:Ztb.length=18:=rfl;obtain ⟨l,Qb⟩:=exq (Ztb);rw [Qb] at hR2 hl;have Qf:(l.length:Int)=18:=by rw [hl];rfl
 cases hc;have Kq:KdH:=⟨⟩;exact Y6
def cY:Con:=J7 (fun (_:UInt8)=>True) (fun c=>yY c)
theorem bQ {c a b:UInt8}:Xx c a b=(Xf (a.toNat:Int) (c.toNat:Int)&&Xf (c.toNat:Int) (b.toNat:Int)):=by
 unfold Xx;rw [Kj,Kj]
structure KdJ:Prop
theorem KdJ.k (_:KdJ) (h:p:=by
 repeat' first|exact Z8|with_reducible apply Zb|intro _
 all_goals first|with_reducible exact Jd|(rw [←hR2];clear hR2 Je Qb Qf Z9 Qe Qc Qh Q6 Qn K;simp_all;done)|(symm;rw [←hR2];clear hR2 Je Qb Qf Z9 Qe Qc Qh Q6 Qn K;simp_all;done)|skip):p:=h
theorem good_goes2:Qa Tryz.prog (178,cY):=by
 obtain ⟨Kx,Kt,Kc,Kd,Kb,Ku,Kw,K,_⟩:=Xe Zv Zn [] false Xd;have Ko:=cY.eq_def;refine Xj K Tryz.func178 [.tmp 2] rfl 29 rfl (fun c hc cvs hpre=>?_);unfold cY at hpre;obtain ⟨c,rfl,-⟩:=Q2 hpre;clear hpre;obtain ⟨R,Je⟩:=exq (yY c);have hR2:=Je;unfold yY at hR2;rw [bQ,bQ,bQ] at hR2;have e1:Xf ((97:UInt8).toNat:Int) (c.toNat:Int)=Xf 97 (c.toNat:Int):=rfl;have e2:Xf (c.toNat:Int) ((122:UInt8).toNat:Int)=Xf (c.toNat:Int) 122:=rfl;have e3:Xf ((65:UInt8).toNat:Int) (c.toNat:Int)=Xf 65 (c.toNat:Int):=rfl;have e4:Xf (c.toNat:Int) ((90:UInt8).toNat:Int)=Xf (c.toNat:Int) 90:=rfl;have e5:Xf ((48:UInt8).toNat:Int) (c.toNat:Int)=Xf 48 (c.toNat:Int):=rfl;have e6:Xf (c.toNat:Int) ((57:UInt8).toNat:Int)=Xf (c.toNat:Int) 57:=rfl;rw [e1,e2,e3,e4,e5,e6] at hR2;have Qn:((c.toNat:Int)==95)=(c==95):=Nk (b:=95);obtain ⟨b1,Qb⟩:=exq (Xf 97 (c.toNat:Int));obtain ⟨b2,Qf⟩:=exq (Xf (c.toNat:Int) 122);obtain ⟨b3,Z9⟩:=exq (Xf 65 (c.toNat:Int));obtain ⟨b4,Qe⟩:=exq (Xf (c.toNat:Int) 90);obtain ⟨b5,Qc⟩:=exq (Xf 48 (c.toNat:Int));obtain ⟨b6,Qh⟩:=exq (Xf (c.toNat:Int) 57);obtain ⟨b7,Q6⟩:=exq ((c==95));rw [Qb,Qf,Z9,Qe,Qc,Qh,Q6] at hR2;clear e1 e2 e3 e4 e5 e6;cases hc;have Y5:=Kt;have Y3:=Kt;have Fn:=Kt;have Wh:=Kt;have Kj:=Kt;have Ud:=Kt;have Q4:=@Zrq;have Zu:=@Zq1;have Zx:=@Zru;have Kq:KdJ:=⟨⟩;exact Y6
def E6:Con:=J7 (fun (_:UInt8)=>True) (fun c=>Wm c)
structure KdK:Prop
theorem KdK.k (_:KdK) (h:p:=by
 repeat' first|exact Z8|with_reducible apply Zb|intro _
 all_goals first|with_reducible exact Jd|(rw [←hR2];clear hR2 Z9 Qb Qf K;simp_all;done)|(symm;rw [←hR2];clear hR2 Z9 Qb Qf K;simp_all;done)|skip):p:=h
theorem good_figure2:Qa Tryz.prog (182,E6):=by
 obtain ⟨Kx,Kt,Kc,Kd,Kb,Ku,Kw,K,_⟩:=Xe Zv Zn [] false Xd;have Ko:=E6.eq_def;refine Xj K Tryz.func182 [.tmp 2] rfl 9 rfl (fun c hc cvs hpre=>?_);unfold E6 at hpre;obtain ⟨c,rfl,-⟩:=Q2 hpre;clear hpre;obtain ⟨R,Z9⟩:=exq (Wm c);have hR2:=Z9;unfold Wm at hR2;rw [bQ] at hR2;have e5:Xf ((48:UInt8).toNat:Int) (c.toNat:Int)=Xf 48 (c.toNat:Int):=rfl;have e6:Xf (c.toNat:Int) ((57:UInt8).toNat:Int)=Xf (c.toNat:Int) 57:=rfl;rw [e5,e6] at hR2;obtain ⟨b5,Qb⟩:=exq (Xf 48 (c.toNat:Int));obtain ⟨b6,Qf⟩:=exq (Xf (c.toNat:Int) 57);rw [Qb,Qf] at hR2;clear e5 e6;cases hc;have Y5:=Kt;have Y3:=Kt;have Fn:=Kt;have Wh:=Kt;have Kj:=Kt;have Ud:=Kt;have Qe:=@Zrq;have Qc:=@Zq1;have Qh:=@Zru;have Kq:KdK:=⟨⟩;exact Y6
theorem L3 {s:List UInt8} {k:Nat} (h:k<s.length):s.drop k=s.getD k 0::s.drop (k+1):=by
 rw [List.drop_eq_getElem_cons h];simp [h]
def Cn:Con:=Xc (fun (s:List UInt8) (i:Int)=>s.length≤1000000∧0≤i∧i≤s.length) (fun s i=>(I6 s i.toNat:Int))
structure KdM:Prop
theorem KdM.k (_:KdM) (h:p:=by
 repeat' first|exact Z8|with_reducible apply Zb|intro _
 all_goals first|with_reducible exact Jd|omega|exact ⟨k+1,by exact Qw,by omega,hst,by omega⟩|skip):p:=h
structure KdN:Prop
theorem KdN.k (_:KdN) (h:p:=by
 repeat' first|exact Z8|with_reducible apply Zb|intro _
 all_goals first|with_reducible exact Jd|omega|exact ⟨k+1,by exact Qw,by omega,hst,by omega⟩|skip):p:=h
structure KdO:Prop
theorem KdO.k (_:KdO) (h:p:=by
 repeat' first|exact Z8|with_reducible apply Zb|intro _
 all_goals first|with_reducible exact Jd|omega|exact ⟨k+1,by exact Qw,by omega,hst,by omega⟩|skip):p:=h
structure KdQ:Prop
theorem KdQ.k (_:KdQ) (h:p:=by
 repeat' first|exact Z8|with_reducible apply Zb|intro _
 all_goals first|with_reducible exact Jd|omega|exact ⟨j,by exact Qw,by omega,hst,by omega⟩|skip):p:=h
structure KdR:Prop
theorem KdR.k (_:KdR) (h:p:=by
 repeat' first|exact Z8|with_reducible apply Zb|intro _
 all_goals first|with_reducible exact Jd|omega|exact ⟨j+1,by exact Qw,by omega,by omega,by omega,by omega⟩|skip):p:=h
structure KdS:Prop
theorem KdS.k (_:KdS) (h:p:=by
 repeat' first|exact Z8|with_reducible apply Zb|intro _
 all_goals first|with_reducible exact Jd|omega|exact ⟨j,by exact Qw,by omega,hst,by omega⟩|skip):p:=h
structure KdP:Prop
theorem KdP.k (_:KdP) (h:p:=by
 repeat' first|exact Z8|with_reducible apply Zb|intro _
 all_goals try with_reducible exact Jd
 all_goals try omega
 refine Zm [31,32,33,34,35,36,37,38,39,40,41,42] (fun j:Nat=>[(1,.d (.int .i64 j))]) (fun j:Nat=>[]) (fun j:Nat=>k≤j∧j≤s.length∧j+Rj true (s.drop j)=R) (fun j:Nat=>s.length-j) k ?_ ?_ ?_
 ·exact ⟨by omega,by omega,hin⟩
 ·exact Qw
 rintro j ⟨hkj,hj,hJ⟩;rcases Zo j s.length with ⟨hjt,Zw⟩|⟨hjt,Zw⟩
 ·rw [L3 hjt,Rj] at hJ;have hJ2:=L3 hjt;obtain ⟨d,Zz⟩:=exq (s.getD j 0);rw [Zz] at hJ hJ2;have Zy:((d.toNat:Int) != 10)=(d != 10):=by rw [bne,bne];exact congrArg _ (Nk (b:=10))
  by_cases hd10:d=10
  ·rw [if_pos hd10] at hJ;have Qd:(d != 10)=false:=by rw [hd10];rfl
   have hjk:k<j:=by
    rcases Nat.lt_or_ge k j with h|h
    ·exact h
    ·have:j=k:=by omega
     subst this;rw [Qf] at Zz;rw [←Zz,c4] at hd10;exact absurd hd10 (by decide)
   have hst:j+Rj false (s.drop j)=R:=by
    rw [hJ2,Rj,if_pos (.inr (.inr hd10))];omega
   have Kq:KdQ:=⟨⟩;exact Y6
  ·rw [if_neg hd10] at hJ;have Qd:(d != 10)=true:=bne_iff_ne.2 hd10;have Kq:KdR:=⟨⟩;exact Y6
 ·have hje:j=s.length:=by omega
  have hst:j+Rj false (s.drop j)=R:=by
   rw [List.drop_eq_nil_of_le hjt] at hJ ⊢;exact hJ
  have Kq:KdS:=⟨⟩;exact Y6):p:=h
structure KdL:Prop
theorem KdL.k (_:KdL) (h:p:=by
 repeat' first|exact Z8|with_reducible apply Zb|intro _
 refine Zm [4,5,6,7,8,9,10,11,12,13,14,15,16,17,18,19,20,21,22,23,24,25,26,27,28,29,30,31,32,33,34,35,36,37,38,39,40,41,42,43] (fun k:Nat=>[(1,.d (.int .i64 k))]) (fun k:Nat=>[]) (fun k:Nat=>k≤s.length∧k+Rj false (s.drop k)=R) (fun k:Nat=>s.length-k) i ?_ ?_ ?_
 ·exact ⟨by omega,hR2⟩
 ·exact Qw
 rintro k ⟨hk,hG⟩;rcases Zo k s.length with ⟨hlt,Qb⟩|⟨hlt,Qb⟩
 ·rw [L3 hlt,Rj] at hG;obtain ⟨c,Qf⟩:=exq (s.getD k 0);rw [Qf] at hG;have Z9:((c.toNat:Int)==32)=(c==32):=Nk (b:=32);have Qc:((c.toNat:Int)==9)=(c==9):=Nk (b:=9);have Qn:((c.toNat:Int)==10)=(c==10):=Nk (b:=10);have Je:((c.toNat:Int)==35)=(c==35):=Nk (b:=35);have k1:(k:Int)+1=((k+1:Nat):Int):=rfl;by_cases hg:c=32∨c=9∨c=10
  ·rw [if_pos hg] at hG;have hst:k+1+Rj false (s.drop (k+1))=R:=by omega
   by_cases c1:c=32
   ·have Qe:(c==32)=true:=Zk.2 c1;have Kq:KdM:=⟨⟩;exact Y6
   have Qe:(c==32)=false:=Za.2 c1;by_cases c2:c=9
   ·have Qh:(c==9)=true:=Zk.2 c2;have Kq:KdN:=⟨⟩;exact Y6
   have Qh:(c==9)=false:=Za.2 c2;have Q6:(c==10)=true:=Zk.2 (by rcases hg with h|h|h<;>first|exact h|contradiction)
   have Kq:KdO:=⟨⟩;exact Y6
  ·rw [if_neg hg] at hG;have Qe:(c==32)=false:=Za.2 fun h=>hg (.inl h);have Qh:(c==9)=false:=Za.2 fun h=>hg (.inr (.inl h));have Q6:(c==10)=false:=Za.2 fun h=>hg (.inr (.inr h));by_cases c4:c=35
   case neg =>
    have Q4:(c==35)=false:=Za.2 c4;rw [if_neg c4] at hG;have Zx:R=k:=by omega
    exact N9
   have Q4:(c==35)=true:=Zk.2 c4;rw [if_pos c4] at hG;have hin:k+Rj true (s.drop k)=R:=by
    rw [L3 hlt,Qf,Rj,if_neg (by rw [c4];decide)]
    exact hG
   have Kq:KdP:=⟨⟩;exact Y6
 ·rw [List.drop_eq_nil_of_le hlt] at hG;have Zx:R=k:=by simpa [Rj] using hG.symm
  exact Zp6):p:=h
theorem good_between2:Qa Tryz.prog (142,Cn):=by
 obtain ⟨Kx,Kt,Kc,Kd,Kb,Ku,Kw,K,_⟩:=Xe Zv Zn [] false Xd;have Ko:=Cn.eq_def;refine Xj K Tryz.func142 [.tmp 4] rfl 45 rfl (fun c hc cvs hpre=>?_);unfold Cn at hpre;obtain ⟨s,i,rfl,hs,hi0,hi1⟩:=Ql hpre;obtain ⟨i,rfl⟩:∃ n:Nat,i=n:=⟨i.toNat,by omega⟩
 clear hpre;obtain ⟨R,Zu⟩:=exq (I6 s i);have hR2:=Zu;unfold I6 at hR2;cases hc;refine Y4 2 ?_;have Kq:KdL:=⟨⟩;exact Y6
theorem Zmb {s:List UInt8} {i:Nat} {l:List (List UInt8)} {k:Nat} (h:k<l.length):To s i (l.drop k)=cond (kO s i (l.getD k [])) (l.getD k []) (To s i (l.drop (k+1))):=by
 rw [List.drop_eq_getElem_cons h,To];simp [h]
def bU:Con:=Xc (fun (s:List UInt8) (i:Int)=>s.length≤1000000∧0≤i∧i≤s.length) (fun s i=>Tv s i.toNat)
structure KdU:Prop
theorem KdU.k (_:KdU) (h:p:=by
 repeat' first|exact Z8|with_reducible apply Zb|intro _
 all_goals first|with_reducible exact Jd|omega|(rw [Xr];omega)|exact ⟨k+1,by exact Qw,by omega,hS,by omega⟩|skip):p:=h
structure KdV:Prop
theorem KdV.k (_:KdV) (h:p:=by
 repeat' first|exact Z8|with_reducible apply Zb|intro _
 all_goals first|with_reducible exact Jd|omega|(rw [Xr];omega)|exact ⟨k+1,by exact Qw,by omega,hS,by omega⟩|skip):p:=h
structure KdT:Prop
theorem KdT.k (_:KdT) (h:p:=by
 repeat' first|exact Z8|with_reducible apply Zb|intro _
 refine Zm [4,8,9,10,11,12,13,14,15,16,17,18,19,20,21,22,23,24,25,26,27,28,29,30,31,32,33,34,35,36,37,38,39,40,41,42,43,44] (fun k:Nat=>[(6,.d (.int .i64 k))]) (fun k:Nat=>[]) (fun k:Nat=>k≤24∧To s i (l.drop k)=R) (fun k:Nat=>24-k) 0 ?_ ?_ ?_
 ·exact ⟨by omega,hR2⟩
 ·exact Qw
 rintro k ⟨hk,hS⟩;by_cases hlt:k<24
 ·have Z9:X4 (k:Int) 24=true:=by rw [Jf];omega
  have Qe:=Zr ([]:List UInt8) (show k<l.length by omega)
  have hx2:=hsz (l.getD k []) (by simp [show k<l.length by omega])
  rw [Zmb (by omega)] at hS
  obtain ⟨y,hy⟩:=exq (l.getD k []);rw [hy] at Qe hx2 hS;have Qc:(i:Int)+(y.length:Int)=((i+y.length:Nat):Int):=rfl;unfold kO at hS;cases Qh:Xf ((i+y.length:Nat):Int) (s.length:Int) with
  | false =>
   rw [Qh,Bool.false_and,cond_false] at hS;have Kq:KdU:=⟨⟩;exact Y6
  | true =>
   rw [Qh,Bool.true_and] at hS;rw [Qx] at Qh;have Qn:Xf ((i+y.length:Nat):Int) (s.length:Int)=true:=by rw [Qx];exact Qh
   cases Q6:((s.take (i+y.length)).drop i==y) with
   | true =>
    rw [Q6,cond_true] at hS;subst hS;exact N9
   | false =>
    rw [Q6,cond_false] at hS;have Kq:KdV:=⟨⟩;exact Y6
 ·have Z9:X4 (k:Int) 24=false:=by rw [Qv];omega
  have hr:R=[]:=by
   rw [←hS,List.drop_eq_nil_of_le (by omega)]
   rfl
  subst hr;exact Zp6):p:=h
theorem good_sign2:Qa Tryz.prog (183,bU):=by
 obtain ⟨Kx,Kt,Kc,Kd,Kb,Ku,Kw,K,X9,_⟩:=Xe Zv Zn [] false (Q0 Zn1 A7.eq_def Xd);have Ko:=bU.eq_def;refine Xj K Tryz.func183 [.tmp 4] rfl 45 rfl (fun c hc cvs hpre=>?_);unfold bU at hpre;obtain ⟨s,i,rfl,hs,hi0,hi1⟩:=Ql hpre;obtain ⟨i,rfl⟩:∃ n:Nat,i=n:=⟨i.toNat,by omega⟩
 clear hpre;obtain ⟨R,Je⟩:=exq (Tv s i);have hR2:=Je;unfold Tv at hR2;have hl:eF.length=24:=rfl;have hsz:∀ x∈eF,x.length≤2:=by decide
 obtain ⟨l,Qb⟩:=exq (eF);rw [Qb] at hR2 hl hsz;have Qf:(l.length:Int)=24:=by rw [hl];rfl
 cases hc;refine Y4 2 ?_;have Kq:KdT:=⟨⟩;exact Y6
theorem pT {s:List UInt8}:∀ {f i:Nat} {out:List UInt8},(eK f s i out).2.2≠0→(eK f s i out).2.1=0
 | 0,_,_,_=>rfl
 | f+1,i,out,h=>by
  unfold eK at h ⊢;split at h
  ·rename_i a;rw [if_pos a]
  rename_i a;rw [if_neg a];split at h
  ·exact absurd rfl h
  rename_i a;rw [if_neg a];split at h
  ·rename_i a;rw [if_pos a]
  rename_i a;rw [if_neg a];split at h
  ·rename_i a;rw [if_pos a];split at h
   ·rename_i a;rw [if_pos a]
   rename_i a;rw [if_neg a];exact pT h
  ·rename_i a;rw [if_neg a];exact pT h
theorem Zmt {s:List UInt8} {i W:Nat} (hW:W≤s.length) {q:Nat} (hq:i+q<W):((s.take W).drop i).getD q 0=s.getD (i+q) 0:=by
 have h1:i+q<(s.take W).length:=by rw [List.length_take];omega
 rw [Zd,Zd,List.getElem?_drop,List.getElem?_take,if_pos hq]
theorem xX {s:List UInt8} {i W:Nat} (hi:i≤W) (hW:W≤s.length) (h:∀ m,i≤m→m<W→Wm (s.getD m 0)=true):((s.take W).drop i).all Wm=true:=by
 have hl:((s.take W).drop i).length=W-i:=by rw [List.length_drop,List.length_take];omega
 refine N6 (p:=Wm) 0 fun j hj=>?_;rw [hl] at hj;rw [Zmt hW (by omega)]
 exact h _ (by omega) (by omega)
theorem dF {s:List UInt8} {i W m:Nat} (hW:W≤s.length) (h1:i≤m) (h2:m<W) (h:Wm (s.getD m 0)=false):((s.take W).drop i).all Wm=false:=by
 have hl:((s.take W).drop i).length=W-i:=by rw [List.length_drop,List.length_take];omega
 refine Cw (p:=Wm) 0 (m-i) (by omega) ?_
 rw [Zmt hW (by omega),show i+(m-i)=m by omega]
 exact h
theorem qA {s:List UInt8} {i:Nat}:(Tv s i).length≤2:=by
 have h:∀ l:List (List UInt8),(∀ x∈l,x.length≤2)→(To s i l).length≤2:=by
  intro l
  induction l with
  | nil=>intro _;simp [To]
  | cons x l ih =>
   intro hl;rw [To];cases kO s i x
   ·exact ih fun y hy=>hl y (List.mem_cons_of_mem _ hy)
   ·exact hl x (by simp)
 exact h eF (by decide)
def jG:Con:=zJ (fun (s:List UInt8) (i:Int)=>s.length≤1000000∧0≤i∧i<s.length) (fun s i=>gB s i.toNat)
structure KdX:Prop
theorem KdX.k (_:KdX) (h:p:=by
 repeat' first|exact Z8|with_reducible apply Zb|intro _
 all_goals first|with_reducible exact Jd|omega|exact ⟨k+1,by exact Qw,by omega,by omega,h4,by omega⟩|skip):p:=h
structure KdZ:Prop
theorem KdZ.k (_:KdZ) (h:p:=by
 repeat' first|exact Z8|with_reducible apply Zb|intro _
 all_goals first|with_reducible exact Jd|omega|exact ⟨j+1,by exact Qw,by omega,by omega,Eq.mpr hQ hq,by omega⟩|skip):p:=h
structure KdY:Prop
theorem KdY.k (_:KdY) (h:p:=by
 repeat' first|exact Z8|with_reducible apply Zb|intro _
 all_goals try exact hlp
 all_goals try omega
 refine Zm [5,71,72,73,74,75,76,77,78,79,80,81] (fun j:Nat=>[(11,.d (.int .i64 j))]) (fun j:Nat=>[]) (fun j:Nat=>i≤j∧j≤W∧∀ m,i≤m→m<j→Wm (s.getD m 0)=true) (fun j:Nat=>W-j) i ?_ ?_ ?_
 ·exact ⟨by omega,by omega,fun m h1 h2=>absurd h2 (by omega)⟩
 ·exact Qw
 rintro j ⟨g1,g2,g3⟩;rcases Zo j W with ⟨hjt,Zz⟩|⟨hjt,Zz⟩
 ·have hfnj:=hfn g1 hjt;have hyj:Wm (s.getD j 0)=true→∀ m,i≤m→m<j+1→Wm (s.getD m 0)=true:=fun h m a b=>by
   rcases Nat.lt_or_ge m j with q|q
   ·exact g3 m a q
   ·have:m=j:=by omega
    subst this;exact h
  obtain ⟨Q,hQ⟩:=exq ((∀ m,i≤m→m<j+1→Wm (s.getD m 0)=true));rw [hQ] at hyj;obtain ⟨d,Qn⟩:=exq (s.getD j 0);rw [Qn] at hfnj hyj;cases Zy:Wm d with
  | true =>
   have hq:=hyj Zy;have Qi:=@Jo;have Kq:KdZ:=⟨⟩;exact Y6
  | false =>
   rw [hfnj Zy,if_neg (by simp)] at hR2
   subst hR2;have Qi:=@Jo;exact N9
 ·rw [hfy (fun m a b=>g3 m a (by omega)),if_pos rfl] at hR2
  subst hR2;have Qi:=@Jo;exact N9):p:=h
structure Keb:Prop
theorem Keb.k (_:Keb) (h:p:=by
 repeat' first|exact Z8|with_reducible apply Zb|intro _
 all_goals first|with_reducible exact Jd|omega|exact ⟨j+1,by exact Qw,by omega,by omega,Eq.mpr hQ hq,by omega⟩|skip):p:=h
structure Kea:Prop
theorem Kea.k (_:Kea) (h:p:=by
 repeat' first|exact Z8|with_reducible apply Zb|intro _
 all_goals try exact hlp
 all_goals try omega
 refine Zm [5,71,72,73,74,75,76,77,78,79,80,81] (fun j:Nat=>[(11,.d (.int .i64 j))]) (fun j:Nat=>[]) (fun j:Nat=>i≤j∧j≤W∧∀ m,i≤m→m<j→Wm (s.getD m 0)=true) (fun j:Nat=>W-j) i ?_ ?_ ?_
 ·exact ⟨by omega,by omega,fun m h1 h2=>absurd h2 (by omega)⟩
 ·exact Qw
 rintro j ⟨g1,g2,g3⟩;rcases Zo j W with ⟨hjt,Zz⟩|⟨hjt,Zz⟩
 ·have hfnj:=hfn g1 hjt;have hyj:Wm (s.getD j 0)=true→∀ m,i≤m→m<j+1→Wm (s.getD m 0)=true:=fun h m a b=>by
   rcases Nat.lt_or_ge m j with q|q
   ·exact g3 m a q
   ·have:m=j:=by omega
    subst this;exact h
  obtain ⟨Q,hQ⟩:=exq ((∀ m,i≤m→m<j+1→Wm (s.getD m 0)=true));rw [hQ] at hyj;obtain ⟨d,Qn⟩:=exq (s.getD j 0);rw [Qn] at hfnj hyj;cases Zy:Wm d with
  | true =>
   have hq:=hyj Zy;have Qi:=@Jo;have Kq:Keb:=⟨⟩;exact Y6
  | false =>
   rw [hfnj Zy,if_neg (by simp)] at hR2
   subst hR2;have Qi:=@Jo;exact N9
 ·rw [hfy (fun m a b=>g3 m a (by omega)),if_pos rfl] at hR2
  subst hR2;have Qi:=@Jo;exact N9):p:=h
structure KdW:Prop
theorem KdW.k (_:KdW) (h:p:=by
 repeat' first|exact Z8|with_reducible apply Zb|intro _
 refine Zm [34,35,36,37,38,39,40,41,42,43,44,45] (fun k:Nat=>[(9,.d (.int .i64 k))]) (fun k:Nat=>[]) (fun k:Nat=>i≤k∧k≤s.length∧k+U4 (s.drop k)=W) (fun k:Nat=>s.length-k) i ?_ ?_ ?_
 ·exact ⟨by omega,by omega,hW⟩
 ·exact Qw
 rintro k ⟨h1,h2,h3⟩;rcases Zo k s.length with ⟨hlt,Qh⟩|⟨hlt,Qh⟩
 ·rw [L3 hlt,U4] at h3;obtain ⟨d,Qn⟩:=exq (s.getD k 0);rw [Qn] at h3;cases Q6:yY d with
  | true =>
   rw [Q6,cond_true] at h3;have h4:k+1+U4 (s.drop (k+1))=W:=by omega
   have Kq:KdX:=⟨⟩;exact Y6
  | false =>
   rw [Q6,cond_false,Nat.add_zero] at h3;rw [h3] at Qh Qn hlt;rw [h3];clear h3 h1 h2;obtain ⟨P,Je⟩:=exq ((s.take W).drop i);rw [Je] at hR2 hlp;have hfn:=fun {m:Nat} (a1:i≤m) (a2:m<W) (a3:Wm (s.getD m 0)=false)=>dF hWl a1 a2 a3;have hfy:=xX (s:=s) hWi hWl;rw [Je] at hfn hfy;cases Q4:N8 P with
   | true =>
    rw [Q4,if_pos rfl] at hR2;subst hR2;have Qi:=@Jo;exact N9
   | false =>
   rw [Q4,if_neg (by simp)] at hR2
   cases Zu:lN P with
   | true =>
    rw [Zu,if_pos rfl] at hR2;subst hR2;have Qi:=@Jo;exact N9
   | false =>
   rw [Zu,if_neg (by simp)] at hR2
   cases Zx:Wg P with
   | true =>
    rw [Zx,if_pos rfl] at hR2;subst hR2;have Qi:=@Jo;exact N9
   | false =>
   rw [Zx,if_neg (by simp)] at hR2
   by_cases h0:0<U4 (s.drop i)
   ·rw [if_pos h0] at hR2;have Zw:X4 (i:Int) (W:Int)=true:=by rw [Jf];omega
    have Qd:(W:Int)-(i:Int)=(U4 (s.drop i):Int):=by omega
    have Qi:=@Jo;have Kq:KdY:=⟨⟩;exact Y6
   ·rw [if_neg h0] at hR2;have Zw:X4 (i:Int) (W:Int)=false:=by rw [Qv];omega
    obtain ⟨g,Z1⟩:=exq (Tv s i);rw [Z1] at hR2;have hgl:g.length≤2:=by rw [←Z1];exact qA
    have Z0:(g != [])=!(g==[]):=rfl;subst hR2;have Qi:=@Jo;exact N9
 ·rw [List.drop_eq_nil_of_le hlt] at h3;have h3':k=W:=by simpa [U4] using h3
  rw [h3'] at Qh hlt;rw [h3'];clear h3 h1 h2 h3';obtain ⟨P,Je⟩:=exq ((s.take W).drop i);rw [Je] at hR2 hlp;have hfn:=fun {m:Nat} (a1:i≤m) (a2:m<W) (a3:Wm (s.getD m 0)=false)=>dF hWl a1 a2 a3;have hfy:=xX (s:=s) hWi hWl;rw [Je] at hfn hfy;cases Q4:N8 P with
  | true =>
   rw [Q4,if_pos rfl] at hR2;subst hR2;have Qi:=@Jo;exact N9
  | false =>
  rw [Q4,if_neg (by simp)] at hR2
  cases Zu:lN P with
  | true =>
   rw [Zu,if_pos rfl] at hR2;subst hR2;have Qi:=@Jo;exact N9
  | false =>
  rw [Zu,if_neg (by simp)] at hR2
  cases Zx:Wg P with
  | true =>
   rw [Zx,if_pos rfl] at hR2;subst hR2;have Qi:=@Jo;exact N9
  | false =>
  rw [Zx,if_neg (by simp)] at hR2
  by_cases h0:0<U4 (s.drop i)
  ·rw [if_pos h0] at hR2;have Zw:X4 (i:Int) (W:Int)=true:=by rw [Jf];omega
   have Qd:(W:Int)-(i:Int)=(U4 (s.drop i):Int):=by omega
   have Qi:=@Jo;have Kq:Kea:=⟨⟩;exact Y6
  ·rw [if_neg h0] at hR2;have Zw:X4 (i:Int) (W:Int)=false:=by rw [Qv];omega
   obtain ⟨g,Z1⟩:=exq (Tv s i);rw [Z1] at hR2;have hgl:g.length≤2:=by rw [←Z1];exact qA
   have Z0:(g != [])=!(g==[]):=rfl;subst hR2;exfalso;omega):p:=h
theorem good_one2:Qa Tryz.prog (143,jG):=by
 obtain ⟨Kx,Kt,Kc,Kd,Kb,Ku,Kw,K,X9,Uv,Po,Cx,Oj,kK,oB,_⟩:=Xe Zv Zn [] false (Q0 good_Unquote1 Co.eq_def (Q0 good_goes2 cY.eq_def (Q0 good_IsTag1 pO (Q0 good_IsKey2 Ir.eq_def (Q0 good_IsWord1 Eg (Q0 good_figure2 E6.eq_def (Q0 good_sign2 bU.eq_def Xd)))))));have Ko:=jG.eq_def;refine Xj K Tryz.func143 [.cell 4 141,.tmp 5] rfl 100 rfl (fun c hc cvs hpre=>?_);unfold jG at hpre;obtain ⟨s,i,rfl,hs,hi0,hi1⟩:=zX hpre;obtain ⟨i,rfl⟩:∃ n:Nat,i=n:=⟨i.toNat,by omega⟩
 clear hpre;have hi:i<s.length:=by omega
 obtain ⟨R,Qc⟩:=exq (gB s i);have hR2:=Qc;unfold gB at hR2;obtain ⟨c,Qb⟩:=exq (s.getD i 0);rw [Qb] at hR2;have Qf:((c.toNat:Int)==34)=(c==34):=Nk (b:=34);by_cases h34:c=34
 ·rw [if_pos h34] at hR2;have Z9:(c==34)=true:=Zk.2 h34;have hdl:(s.drop i).length≤1000000:=by rw [List.length_drop];omega
  have hU:=Zac (s:=s.drop i);have hU4:(I9 (s.drop i)).2.2≠0→(I9 (s.drop i)).2.1=0:=by
   intro h;unfold I9 at h ⊢;split at h
   ·rename_i a;rw [if_pos a]
   ·rename_i a;rw [if_neg a];exact pT h
  obtain ⟨⟨x,n,e⟩,Qe⟩:=exq (I9 (s.drop i));rw [Qe] at hR2 hU hU4;simp only at hR2 hU hU4;rw [List.length_drop] at hU;have hn:0≤n∧n≤1000000:=by
   by_cases he:e=0
   ·have:=hU he;omega
   ·have:=hU4 he;omega
  subst hR2;cases hc;refine Y4 6 ?_;have Qi:=@Jo;exact N9
 have Z9:(c==34)=false:=Za.2 h34;rw [if_neg h34] at hR2;have hw2:=fI (s.drop i);rw [List.length_drop] at hw2;obtain ⟨W,hW⟩:=exq (i+U4 (s.drop i));have hWi:i≤W:=by omega
 have hWl:W≤s.length:=by omega
 unfold U8 at hR2;rw [hW] at hR2;have hW3:(i:Int)+(U4 (s.drop i):Int)=(W:Int):=by omega
 rw [hW3] at hR2;have hlp:((s.take W).drop i).length≤9223372036854775807:=by rw [List.length_drop,List.length_take];omega
 cases hc;refine Y4 6 ?_;have Kq:KdW:=⟨⟩;exact Y6
theorem Zs1 {s:List UInt8} {i:Nat} (hi:i<s.length) (h:(gB s i).2=true):∃ n:Nat,(gB s i).1.to=n∧i+1≤n∧n≤s.length:=by
 unfold gB at h ⊢;have hw:=fI (s.drop i);rw [List.length_drop] at hw;have hpl:(U8 s i).length=U4 (s.drop i):=by unfold U8;rw [List.length_drop,List.length_take];omega
 split at h
 ·rename_i a;rw [if_pos a];have hU:=Zac (s:=s.drop i) (by simpa using h)
  rw [List.length_drop] at hU;exact ⟨i+(I9 (s.drop i)).2.1.toNat,by show (i:Int)+(I9 (s.drop i)).2.1=_;omega,by omega,by omega⟩
 rename_i a;rw [if_neg a];have hgo:∀ {k:Int} {x:List UInt8},x≠[]→x=U8 s i→∃ n:Nat,(Tok.mk k x i (i+U4 (s.drop i))).to=n∧i+1≤n∧n≤s.length:=fun {k x} hx he=>by
  have:x.length≠0:=by simpa using hx
  rw [he,hpl] at this;exact ⟨i+U4 (s.drop i),rfl,by omega,by omega⟩
 split at h
 ·rename_i a;rw [if_pos a];exact hgo (Znt a) rfl
 rename_i a;rw [if_neg a];split at h
 ·rename_i a;rw [if_pos a];refine hgo ?_ rfl;intro e;rw [e] at a;exact absurd a (by decide)
 rename_i a;rw [if_neg a];split at h
 ·rename_i a;rw [if_pos a];exact hgo (xT a) rfl
 rename_i a;rw [if_neg a];split at h
 ·rename_i a;rw [if_pos a];split at h
  ·rename_i b;rw [if_pos b];exact ⟨i+U4 (s.drop i),rfl,by omega,by omega⟩
  ·cases h
 ·rename_i a;rw [if_neg a];have hs:Tv s i≠[]:=by simpa using h
  have hl:∀ l:List (List UInt8),To s i l≠[]→i+(To s i l).length≤s.length:=by
   intro l
   induction l with
   | nil=>intro h;exact absurd rfl h
   | cons x l ih =>
    rw [To];cases hx:kO s i x with
    | false=>exact ih
    | true =>
     intro _;rw [cond_true];unfold kO at hx;rw [Zg,Qx] at hx;omega
  have:=hl eF hs;have h0:(Tv s i).length≠0:=by simpa using hs
  unfold Tv at h0;exact ⟨i+(Tv s i).length,rfl,by unfold Tv;omega,by unfold Tv;omega⟩
def E8:Con:=K4 (fun (s:List UInt8)=>s.length≤9223372036854775807) (fun s=>(⟨(Pr s).1⟩,(Pr s).2.1,(Pr s).2.2):List UInt8→Sl Tok×Int×Int)
structure Ked:Prop
theorem Ked.k (_:Ked) (h:p:=by
 repeat' first|exact Z8|with_reducible apply Zb|intro _
 all_goals first|with_reducible exact Jd|omega|exact ⟨(f,b1,out++[Tok.mk tk tt tf n]),by rw [hS];exact Qw,by simp only;omega,by simp only;omega,by simp only [Zf,Zi,List.length_nil];omega,h4,by simp only;omega⟩|skip):p:=h
structure Kee:Prop
theorem Kee.k (_:Kee) (h:p:=by
 repeat' first|exact Z8|with_reducible apply Zb|intro _
 all_goals first|with_reducible exact Jd|omega|(rw [hS];rfl)|(rw [hS])|rfl|skip):p:=h
structure Kec:Prop
theorem Kec.k (_:Kec) (h:p:=by
 repeat' first|exact Z8|with_reducible apply Zb|intro _
 all_goals try omega
 refine Zm [2,3,4,7,8,15,16,17,18,19,20,21,22,23,24,25,26,27,28,29,30,31,32,33,34,35] (fun p:Nat×Nat×List Tok=>[(5,.sl 12 (p.2.2.map (enc:Tok→D)).length),(6,.d (.int .i64 p.2.1))]) (fun p:Nat×Nat×List Tok=>[(12,.row 4 (p.2.2.map enc) 0)]) (fun p:Nat×Nat×List Tok=>s.length+1≤p.1+p.2.1∧p.2.1≤s.length∧p.2.2.length≤p.2.1∧Fh p.1 s p.2.1 p.2.2=(R1,R2,R3)) (fun p:Nat×Nat×List Tok=>s.length-p.2.1) (s.length+1,b0,[]) ?_ ?_ ?_
 ·exact ⟨by simp only;omega,by simp only;omega,by simp,hR2⟩
 ·exact Qw
 rintro ⟨f,i,out⟩ ⟨h1,h2,h3,h4⟩;simp only at h1 h2 h3 h4;obtain ⟨f,rfl⟩:∃ g,f=g+1:=⟨f-1,by omega⟩
 rw [Fh] at h4;have Qn:(out.map (enc:Tok→D)).length=out.length:=Zl ..;rcases Zo i s.length with ⟨hlt,Qe⟩|⟨hlt,Qe⟩
 ·rw [if_neg (by omega)] at h4
  have hto:=Zs1 hlt;obtain ⟨⟨t,ok⟩,Qc⟩:=exq (gB s i);rw [Qc] at h4 hto;simp only at h4 hto;cases ok with
  | false =>
   rw [if_pos rfl] at h4;injection h4 with e1 e2
   injection e2 with e2 e3
   subst e1 e2 e3;have Q6:=@Jo;have Je:=@Pv;exact N9
  | true =>
   rw [if_neg (by simp)] at h4
   obtain ⟨n,hn,hn1,hn2⟩:=hto rfl;have hbn:=aM (s:=s) hn2;obtain ⟨tk,tt,tf,tto⟩:=t;simp only at hn;subst hn;simp only [Zj] at h4;obtain ⟨b1,Qh⟩:=exq (I6 s n);rw [Qh] at h4 hbn;have hS:(out++[Tok.mk tk tt tf n]).map (enc:Tok→D)=out.map enc++[.agg [.int .i64 tk,.str tt,.int .i64 tf,.int .i64 n]]:=by rw [List.map_append];rfl
   have Q6:=@Jo;have Je:=@Pv;have Kq:Ked:=⟨⟩;exact Y6
 ·rw [if_pos (by omega)] at h4
  injection h4 with e1 e2
  injection e2 with e2 e3
  subst e1 e2 e3;have hS:(out++[Tok.mk 0 [] s.length s.length]).map (enc:Tok→D)=out.map enc++[.agg [.int .i64 0,.str [],.int .i64 s.length,.int .i64 s.length]]:=by rw [List.map_append];rfl
  have hS2:((out++[Tok.mk 0 [] s.length s.length]).map (enc:Tok→D)).length=out.length+1:=by simp
  have Q6:=@Jo;have Je:=@Pv;have Kq:Kee:=⟨⟩;exact Y6):p:=h
theorem good_Tokens2:Qa Tryz.prog (103,E8):=by
 obtain ⟨Kx,Kt,Kc,Kd,Kb,Ku,Kw,K,X9,Uv,_⟩:=Xe Zv Zn [] false (Q0 good_between2 Cn.eq_def (Q0 good_one2 jG.eq_def Xd));have Ko:=E8.eq_def;refine Xj K Tryz.func103 [.tmp 2,.tmp 3,.tmp 4] rfl 45 rfl (fun c hc cvs hpre=>?_);unfold E8 at hpre;obtain ⟨s,rfl,hs⟩:=uX hpre;clear hpre;obtain ⟨⟨R1,R2,R3⟩,Qf⟩:=exq (Pr s);have hR2:=Qf;unfold Pr at hR2;by_cases h0:100000<s.length
 ·rw [if_pos h0] at hR2;have Qb:X4 100000 (s.length:Int)=true:=by rw [Jf];omega
  injection hR2 with e1 e2
  injection e2 with e2 e3
  subst e1 e2 e3;cases hc;refine Y4 2 ?_;have Q6:=@Pv;exact N9
 have Qb:X4 100000 (s.length:Int)=false:=by rw [Qv];omega
 rw [if_neg h0] at hR2;have hb0:=aM (s:=s) (i:=0) (by omega)
 obtain ⟨b0,Z9⟩:=exq (I6 s 0);rw [Z9] at hR2 hb0;cases hc;refine Y4 2 ?_;have Q6:=@Int.toNat_zero;have Je:=@Pv;have Kq:Kec:=⟨⟩;exact Y6
theorem Gm {l:List Tok} {k:Nat}:tk l (k:Int)=l.getD k Ue:=by unfold tk;rw [Zj]
def M5:Con:=Vp (fun (_:St4) (_ _:Int)=>True) (fun s i e=>Uc s i e)
theorem Ex:Qa Tryz.prog (264,M5):=by
 obtain ⟨Kx,Kt,Kc,Kd,Kb,Ku,Kw,K,_⟩:=Xe Zv Zn [] false Xd;have Ko:=M5.eq_def;refine Xj K Tryz.func264 [.cell 6 261] rfl 12 rfl (fun c hc cvs hpre=>?_);unfold M5 at hpre;obtain ⟨s,i,e,rfl,-⟩:=Vb hpre;obtain ⟨R,Qb⟩:=exq (Uc s i e);have Qf:R=⟨i,s.site,s.sites,e⟩:=Qb.symm;cases hc;have Z9:=@Ez;have Qe:=@Wl;have Qc:=@Wo;have Qh:=@Ei;exact N9
def Ic:Con:=Vp (fun (l:Sl Tok) (i:Int) (_:List UInt8)=>l.l.length≤1000000∧0≤i) (fun l i x=>Tx l.l i x)
theorem iB:Qa Tryz.prog (263,Ic):=by
 obtain ⟨Kx,Kt,Kc,Kd,Kb,Ku,Kw,K,_⟩:=Xe Zv Zn [] false Xd;have Ko:=Ic.eq_def;refine Xj K Tryz.func263 [.tmp 6] rfl 28 rfl (fun c hc cvs hpre=>?_);unfold Ic at hpre;obtain ⟨⟨l⟩,i,x,rfl,hl,hi⟩:=Vb hpre;simp only at hl;obtain ⟨i,rfl⟩:∃ n:Nat,i=n:=⟨i.toNat,by omega⟩
 clear hpre;obtain ⟨R,Qe⟩:=exq (Tx l i x);have Qc:=Qe;unfold Tx at Qc;rw [Gm] at Qc;rcases Zo i l.length with ⟨hlt,Qb⟩|⟨hlt,Qb⟩
 ·have Qf:=Zr Ue hlt;obtain ⟨t,ht⟩:=exq (l.getD i Ue);rw [ht] at Qf Qc;rw [Qb,Bool.true_and] at Qc;obtain ⟨b1,Z9⟩:=exq ((t.kind==5));rw [Z9] at Qc;cases b1 with
  | false =>
   rw [Bool.false_and] at Qc;subst Qc;cases hc;have Qh:=@Jo;have Qn:=@Ya;have Q6:=@Yf;have Je:=@W5;have Q4:=@Pv;exact N9
  | true =>
   rw [Bool.true_and] at Qc;cases hc;have Qh:=@Jo;have Qn:=@Ya;have Q6:=@Yf;have Je:=@W5;have Q4:=@Pv;exact N9
 ·rw [Qb,Bool.false_and] at Qc;subst Qc;cases hc;have Qh:=@Jo;have Qn:=@Ya;have Q6:=@Yf;have Je:=@W5;have Q4:=@Pv;exact Zp6
def cC:Con:=J7 (fun (_:Tok)=>True) (fun t=>eY t)
structure Kef:Prop
theorem Kef.k (_:Kef) (h:p:=by
 repeat' first|exact Z8|with_reducible apply Zb|intro _
 all_goals first|with_reducible exact Jd|(rw [←hR2];clear hR2 Qb K;simp_all;done)|(symm;rw [←hR2];clear hR2 Qb K;simp_all;done)|skip):p:=h
theorem good_base4:Qa Tryz.prog (267,cC):=by
 obtain ⟨Kx,Kt,Kc,Kd,Kb,Ku,Kw,K,_⟩:=Xe Zv Zn [] false Xd;have Ko:=cC.eq_def;refine Xj K Tryz.func267 [.tmp 2] rfl 16 rfl (fun c hc cvs hpre=>?_);unfold cC at hpre;obtain ⟨t,rfl,-⟩:=Q2 hpre;clear hpre;obtain ⟨R,Qb⟩:=exq (eY t);have hR2:=Qb;unfold eY at hR2;cases hc;have Qf:=@Jo;have Z9:=@Ya;have Qe:=@Yf;have Qc:=@W5;have Qh:=@Pv;have Kq:Kef:=⟨⟩;exact Y6
def D2:Con:=Vp (fun (l:Sl Tok) (s:St4) (_:List UInt8)=>l.l.length≤1000000∧0≤s.at_∧s.at_≤2000000) (fun l s x=>Vr l.l s x)
theorem nM:Qa Tryz.prog (269,D2):=by
 obtain ⟨Kx,Kt,Kc,Kd,Kb,Ku,Kw,K,X9,Uv,_⟩:=Xe Zv Zn [] false (Q0 iB Ic.eq_def (Q0 Ex M5.eq_def Xd));have Ko:=D2.eq_def;refine Xj K Tryz.func269 [.cell 6 261] rfl 26 rfl (fun c hc cvs hpre=>?_);unfold D2 at hpre;obtain ⟨⟨l⟩,s,x,rfl,hl,hs0,hs1⟩:=Vb hpre;simp only at hl;clear hpre;obtain ⟨R,Qf⟩:=exq (Vr l s x);rcases Nx l s x with ⟨h1,Qc⟩|⟨h1,Qc⟩|⟨h1,Qc,h3⟩
 ·have Z9:R=s:=Qf.symm.trans Qc;have Qb:(s.e != 0)=true:=bne_iff_ne.2 h1;cases hc;have Qh:=@Ez;have Qn:=@Wl;have Q6:=@Wo;have Je:=@Ei;exact Zp6
 ·have Z9:R=Uc s s.at_ 2:=Qf.symm.trans Qc;have Qb:(s.e != 0)=false:=by rw [h1];rfl
  have Qe:Tx l s.at_ x=false:=by
   cases hb:Tx l s.at_ x with
   | false=>rfl
   | true =>
    unfold Vr at Qc;rw [if_neg (by simpa using h1),hb,if_neg (by simp)] at Qc
    have:=congrArg St4.e Qc;rw [show (Yo s).e=s.e from rfl,h1] at this;exact absurd this (by show ¬ (0:Int)=2;decide)
  cases hc;have Qh:=@Ez;have Qn:=@Wl;have Q6:=@Wo;have Je:=@Ei;exact N9
 ·have Z9:R=⟨s.at_+1,s.site,s.sites,s.e⟩:=Qf.symm.trans h3;have Qb:(s.e != 0)=false:=by rw [h1];rfl
  cases hc;have Qh:=@Ez;have Qn:=@Wl;have Q6:=@Wo;have Je:=@Ei;exact N9
def Ib:Con:=Xc (fun (k:Int) (s:List UInt8)=>(k=6∨k=7)∧s.length≤9223372036854775807) (fun k s=>V6 k s)
structure Keg:Prop
theorem Keg.k (_:Keg) (h:p:=by
 repeat' first|exact Z8|with_reducible apply Zb|intro _
 all_goals first|omega|(rw [←hR2];simp_all;done)|(symm;rw [←hR2];simp_all;done)|skip):p:=h
structure Keh:Prop
theorem Keh.k (_:Keh) (h:p:=by
 repeat' first|exact Z8|with_reducible apply Zb|intro _
 all_goals first|omega|(rw [←hR2];simp_all;done)|(symm;rw [←hR2];simp_all;done)|skip):p:=h
theorem good_label3:Qa Tryz.prog (275,Ib):=by
 obtain ⟨Kx,Kt,Kc,Kd,Kb,Ku,Kw,K,X9,Uv,_⟩:=Xe Zv Zn [] false (Q0 good_IsTag1 pO (Q0 good_IsWord1 Eg Xd));have Ko:=Ib.eq_def;refine Xj K Tryz.func275 [.tmp 4] rfl 19 rfl (fun c hc cvs hpre=>?_);unfold Ib at hpre;obtain ⟨k,s,rfl,hk,hs⟩:=Ql hpre;clear hpre;obtain ⟨R,Qf⟩:=exq (V6 k s);have hR2:=Qf;unfold V6 at hR2;obtain ⟨w,Qb⟩:=exq (Wg s);obtain ⟨g,Z9⟩:=exq (N8 s);rw [Qb,Z9] at hR2;rcases hk with rfl|rfl
 ·rw [if_neg (by decide)] at hR2
  cases hc;have Kq:Keg:=⟨⟩;exact Y6
 ·rw [if_pos rfl] at hR2;cases hc;have Kq:Keh:=⟨⟩;exact Y6
def qQ (types:List (List Node)):Nat:=(types.map List.length).sum
theorem Qaq {types:List (List Node)} {k:Nat} (h:k<types.length):(types.getD k []).length≤qQ types:=by
 unfold qQ
 induction types generalizing k with
 | nil=>simp at h
 | cons t types ih =>
  rw [List.map_cons,List.sum_cons];cases k with
  | zero=>simp
  | succ k =>
   have:=ih (k:=k) (by simpa using h)
   rw [List.getD_cons_succ];omega
def Zt7 (labels:List (List UInt8)) (types:List (List Node)):Prop:=labels.length=types.length∧1≤types.length∧types.length≤50∧qQ types≤1000000∧(∀ t∈types,t≠[])∧∀ x∈labels,x.length≤9223372036854775807
def jM:Con:=Y1 (fun (k:Int) (labels:Sl (List UInt8)) (types:Sl (Sl Node))=>(k=6∨k=7)∧Zt7 labels.l (types.l.map Sl.l)) (fun k labels types=>((⟨(dJ k labels.l (types.l.map Sl.l)).1⟩,(dJ k labels.l (types.l.map Sl.l)).2):Sl Node×Int))
theorem sI {types:List (Sl Node)} {k:Nat}:(types.map Sl.l).getD k []=(types.getD k ⟨[]⟩).l:=by
 rw [Zd,Zd,List.getElem?_map];cases types[k]?<;>rfl
structure Kej:Prop
theorem Kej.k (_:Kej) (h:p:=by
 repeat' first|exact Z8|with_reducible apply Zb|intro _
 all_goals first|with_reducible exact Jd|omega|exact Or.inr trivial|exact ⟨j+1,by exact Qw,by omega,Eq.mpr hQ hq,by omega⟩|skip):p:=h
structure Kem:Prop
theorem Kem.k (_:Kem) (h:p:=by
 repeat' first|exact Z8|with_reducible apply Zb|intro _
 all_goals first|with_reducible exact Jd|omega|exact ⟨m+1,by rw [hb',hS];exact Qw,by omega,by omega⟩|skip):p:=h
structure Ken:Prop
theorem Ken.k (_:Ken) (h:p:=by
 repeat' first|exact Z8|with_reducible apply Zb|intro _
 all_goals first|with_reducible exact Jd|omega|exact ⟨m+1,by rw [hb',hS1];exact Qw,by omega,by omega⟩|skip):p:=h
structure Keo:Prop
theorem Keo.k (_:Keo) (h:p:=by
 repeat' first|exact Z8|with_reducible apply Zb|intro _
 all_goals first|with_reducible exact Jd|omega|exact ⟨m+1,by rw [hb',hS];exact Qw,by omega,by omega⟩|skip):p:=h
structure Kep:Prop
theorem Kep.k (_:Kep) (h:p:=by
 repeat' first|exact Z8|with_reducible apply Zb|intro _
 all_goals first|with_reducible exact Jd|omega|exact ⟨m+1,by rw [hb',hS];exact Qw,by omega,by omega⟩|skip):p:=h
structure Keq:Prop
theorem Keq.k (_:Keq) (h:p:=by
 repeat' first|exact Z8|with_reducible apply Zb|intro _
 all_goals first|with_reducible exact Jd|omega|exact ⟨(i+1,x,O2),by (have Km:=hlen;have Fg:=hP3;exact Qw),by simp only;omega,by simp only;rw [show types.length-(i+1)=types.length-i-1 by omega];exact h2,by simp only;omega,by simp only;omega⟩|skip):p:=h
structure Kel:Prop
theorem Kel.k (_:Kel) (h:p:=by
 repeat' first|exact Z8|with_reducible apply Zb|intro _
 all_goals try with_reducible exact Jd
 refine Zm [66,67,68,69,70,71,72,73,74,75,76,77,78,79,80,81,82,83,84,85,86,87,88,89,90,91,92,93] (fun m:Nat=>[(12,.d (.int .i64 (Vk labels done m))),(13,.d (.int .i64 m))]) (fun m:Nat=>[]) (fun m:Nat=>m≤types.length) (fun m:Nat=>types.length-m) 0 ?_ ?_ ?_
 ·omega
 ·have Km:=@Vk.eq_1;have Fg:=@Vk.eq_2;exact Qw
 rintro m hm;have hsp:=Ed labels done m;rcases Zo m types.length with ⟨hmt,Q4⟩|⟨hmt,Q4⟩
 ·have Qc:=Zr ([]:List UInt8) (show m<labels.length by omega)
  have hS:Vk labels done (m+1)=cond (Op.bytesLess done (labels.getD m [])&&(X4 (Vk labels done m) 0||Op.bytesLess (labels.getD m []) (labels.getD (Vk labels done m).toNat []))) (m:Int) (Vk labels done m):=rfl;have hB:Vk labels done m=-1∨(0≤Vk labels done m∧Vk labels done m<m):=by
   rcases hsp with ⟨h,_⟩|⟨b,Zy,he,_⟩
   ·exact .inl h
   ·exact .inr ⟨by omega,by omega⟩
  clear hsp;obtain ⟨b,Zy⟩:=exq (Vk labels done m);obtain ⟨b',hb'⟩:=exq (Vk labels done (m+1));rw [Zy] at hB hS;rw [hb'] at hS;rw [Zy];obtain ⟨x,hx⟩:=exq (labels.getD m []);rw [hx] at Qc hS;have Zu:=less_not x done;cases hl1:Op.bytesLess done x with
  | false =>
   rw [hl1,Bool.false_and,cond_false] at hS;rw [hl1,Bool.not_false] at Zu;have Kq:Kem:=⟨⟩;exact Y6
  | true =>
   rw [hl1,Bool.true_and] at hS;rw [hl1,Bool.not_true] at Zu;rcases hB with hB|⟨hB0,hBk⟩
   ·subst hB;have hS1:b'=m:=hS;have Kq:Ken:=⟨⟩;exact Y6
   ·obtain ⟨p,rfl⟩:=Int.eq_ofNat_of_zero_le hB0;have Zx:=Zr ([]:List UInt8) (show p<labels.length by omega)
    have Zw:X4 (p:Int) 0=false:=by rw [Qv];omega
    rw [Zj] at hS;obtain ⟨y,hy⟩:=exq (labels.getD p []);rw [hy] at Zx hS;rw [Zw,Bool.false_or] at hS;cases Zz:Op.bytesLess x y with
    | true =>
     rw [Zz,cond_true] at hS;have Kq:Keo:=⟨⟩;exact Y6
    | false =>
     rw [Zz,cond_false] at hS;have Kq:Kep:=⟨⟩;exact Y6
 ·have hme:m=types.length:=by omega
  rw [hme] at hsp Q4;rw [hme];rcases hsp with ⟨Zy,_⟩|⟨b,hbt,Zy,_⟩
  ·rw [Zy] at h2;rw [if_pos (by decide)] at h2
   injection h2 with e1 e2
   subst e1 e2;exact N9
  ·rw [Zy] at h2;rw [if_neg (by omega),Zj] at h2
   have Qc:=Zr ([]:List UInt8) (show b<labels.length by omega)
   have Z1:=Zr (⟨[]⟩:Sl Node) hbt;obtain ⟨t1,t2⟩:=hty b hbt;rw [hTg b] at h2;have Qd:X4 (b:Int) 0=false:=by rw [Qv];omega
   obtain ⟨x,hx⟩:=exq (labels.getD b []);rw [hx] at Qc h2;obtain ⟨⟨u⟩,hu⟩:=exq (types.getD b ⟨[]⟩);rw [hu] at Z1 t1 t2 h2;simp only at t1 t2 h2;cases u with
   | nil=>exact absurd rfl t1
   | cons y r =>
    have Q5:=kP (P:=out) (n:=y) (r:=r) (s:=x);have Qi:=tK (P:=out) (n:=y) (r:=r);have Z0:out.map (enc:Node→D)++(y::r).map enc=(out++y::r).map enc:=by simp
    have hlen:(out++y::r).length=out.length+(r.length+1):=by simp
    have Qs:((out++y::r).map (enc:Node→D)).length=out.length+(r.length+1):=by rw [Zl,hlen]
    have hP3:(out++named x (y::r)).length=out.length+(r.length+1):=by rw [Zf,C2];rfl
    simp only [Zi] at t2;obtain ⟨O2,hO2⟩:=exq (out++named x (y::r));rw [hO2] at h2 Q5 hP3;obtain ⟨Q,hQ⟩:=exq (out++y::r);rw [hQ] at Q5 Qi Z0 hlen Qs;obtain ⟨yr,hyr⟩:=exq (y::r);rw [hyr] at Z1 Z0;have hyl:yr.length=r.length+1:=by rw [←hyr];rfl
    have Q8:(yr.map (enc:Node→D)).length=r.length+1:=by rw [Zl,hyl]
    have Kq:Keq:=⟨⟩;exact Y6):p:=h
structure Kek:Prop
theorem Kek.k (_:Kek) (h:p:=by
 repeat' first|exact Z8|with_reducible apply Zb|intro _
 all_goals try with_reducible exact Jd
 refine Zm [6,7,12,13,14,60,61,62,63,64,65,66,67,68,69,70,71,72,73,74,75,76,77,78,79,80,81,82,83,84,85,86,87,88,89,90,91,92,93,94,95,96,97,98,99,100,101,102,103,104,105,106,107,108,109,110,111,112] (fun p:Nat×List UInt8×List Node=>[(9,.sl 59 (p.2.2.map (enc:Node→D)).length),(10,.d (.str p.2.1)),(11,.d (.int .i64 p.1))]) (fun p:Nat×List UInt8×List Node=>[(59,.row 3 (p.2.2.map enc) 0)]) (fun p:Nat×List UInt8×List Node=>p.1≤types.length∧fT labels T (types.length-p.1) p.2.1 p.2.2=(R1,R2)∧p.2.2.length≤1+1000000*p.1) (fun p:Nat×List UInt8×List Node=>types.length-p.1) (0,[],[⟨6,[],types.length⟩]) ?_ ?_ ?_
 ·exact ⟨by simp,hR2,by simp⟩
 ·have Km:=@Z2;exact Qw
 rintro ⟨i,done,out⟩ ⟨h1,h2,h3⟩;simp only at h1 h2 h3;have Qk:(out.map (enc:Node→D)).length=out.length:=Zl ..;rcases Zo i types.length with ⟨hit,Je⟩|⟨hit,Je⟩
 ·rw [show types.length-i=(types.length-i-1)+1 by omega,fT,hTl] at h2
  have Kq:Kel:=⟨⟩;exact Y6
 ·have hie:types.length-i=0:=by omega
  rw [hie] at h2;injection h2 with e1 e2
  subst e1 e2;exact N9):p:=h
structure Kei:Prop
theorem Kei.k (_:Kei) (h:p:=by
 repeat' first|exact Z8|with_reducible apply Zb|intro _
 all_goals try with_reducible exact Jd
 all_goals try exact Or.inr trivial
 refine Zm [6,7,42,43,44,45,46,47,48,49,50,51,52,53,54] (fun j:Nat=>[(8,.d (.int .i64 j))]) (fun j:Nat=>[]) (fun j:Nat=>j≤types.length∧∀ m,m<j→V6 6 (labels.getD m [])=true) (fun j:Nat=>types.length-j) 0 ?_ ?_ ?_
 ·simp
 ·exact Qw
 rintro j ⟨hj,hno⟩;rcases Zo j types.length with ⟨hjt,Qe⟩|⟨hjt,Qe⟩
 ·have Qc:=Zr ([]:List UInt8) (show j<labels.length by omega)
  have hxl:=r6 (labels.getD j []) (by simp [show j<labels.length by omega])
  have hst:V6 6 (labels.getD j [])=true→∀ m,m<j+1→V6 6 (labels.getD m [])=true:=fun h=>K6 hno h;obtain ⟨Q,hQ⟩:=exq ((∀ m,m<j+1→V6 6 (labels.getD m [])=true));rw [hQ] at hst;have hbad:V6 6 (labels.getD j [])=false→((List.range types.length).all fun k=>V6 6 (labels.getD k []))=false:=fun h=>Gi j hjt h;obtain ⟨x,hx⟩:=exq (labels.getD j []);rw [hx] at Qc hxl hst hbad;cases Qh:V6 6 x with
  | true =>
   have hq:=hst Qh;have Kq:Kej:=⟨⟩;exact Y6
  | false =>
   rw [hbad Qh,if_pos rfl] at hR2;injection hR2 with e1 e2
   subst e1 e2;exact N9
 ·rw [Uo (fun m hm=>hno m (by omega)),if_neg (by simp)] at hR2
  have Kq:Kek:=⟨⟩;exact Y6):p:=h
structure Kes:Prop
theorem Kes.k (_:Kes) (h:p:=by
 repeat' first|exact Z8|with_reducible apply Zb|intro _
 all_goals first|with_reducible exact Jd|omega|exact Or.inr trivial|exact ⟨j+1,by exact Qw,by omega,Eq.mpr hQ hq,by omega⟩|skip):p:=h
structure Kev:Prop
theorem Kev.k (_:Kev) (h:p:=by
 repeat' first|exact Z8|with_reducible apply Zb|intro _
 all_goals first|with_reducible exact Jd|omega|exact ⟨m+1,by rw [hb',hS];exact Qw,by omega,by omega⟩|skip):p:=h
structure Kew:Prop
theorem Kew.k (_:Kew) (h:p:=by
 repeat' first|exact Z8|with_reducible apply Zb|intro _
 all_goals first|with_reducible exact Jd|omega|exact ⟨m+1,by rw [hb',hS1];exact Qw,by omega,by omega⟩|skip):p:=h
structure Kex:Prop
theorem Kex.k (_:Kex) (h:p:=by
 repeat' first|exact Z8|with_reducible apply Zb|intro _
 all_goals first|with_reducible exact Jd|omega|exact ⟨m+1,by rw [hb',hS];exact Qw,by omega,by omega⟩|skip):p:=h
structure Key:Prop
theorem Key.k (_:Key) (h:p:=by
 repeat' first|exact Z8|with_reducible apply Zb|intro _
 all_goals first|with_reducible exact Jd|omega|exact ⟨m+1,by rw [hb',hS];exact Qw,by omega,by omega⟩|skip):p:=h
structure Kez:Prop
theorem Kez.k (_:Kez) (h:p:=by
 repeat' first|exact Z8|with_reducible apply Zb|intro _
 all_goals first|with_reducible exact Jd|omega|exact ⟨(i+1,x,O2),by (have Km:=hlen;have Fg:=hP3;exact Qw),by simp only;omega,by simp only;rw [show types.length-(i+1)=types.length-i-1 by omega];exact h2,by simp only;omega,by simp only;omega⟩|skip):p:=h
structure Keu:Prop
theorem Keu.k (_:Keu) (h:p:=by
 repeat' first|exact Z8|with_reducible apply Zb|intro _
 all_goals try with_reducible exact Jd
 refine Zm [66,67,68,69,70,71,72,73,74,75,76,77,78,79,80,81,82,83,84,85,86,87,88,89,90,91,92,93] (fun m:Nat=>[(12,.d (.int .i64 (Vk labels done m))),(13,.d (.int .i64 m))]) (fun m:Nat=>[]) (fun m:Nat=>m≤types.length) (fun m:Nat=>types.length-m) 0 ?_ ?_ ?_
 ·omega
 ·have Km:=@Vk.eq_1;have Fg:=@Vk.eq_2;exact Qw
 rintro m hm;have hsp:=Ed labels done m;rcases Zo m types.length with ⟨hmt,Q4⟩|⟨hmt,Q4⟩
 ·have Qc:=Zr ([]:List UInt8) (show m<labels.length by omega)
  have hS:Vk labels done (m+1)=cond (Op.bytesLess done (labels.getD m [])&&(X4 (Vk labels done m) 0||Op.bytesLess (labels.getD m []) (labels.getD (Vk labels done m).toNat []))) (m:Int) (Vk labels done m):=rfl;have hB:Vk labels done m=-1∨(0≤Vk labels done m∧Vk labels done m<m):=by
   rcases hsp with ⟨h,_⟩|⟨b,Zy,he,_⟩
   ·exact .inl h
   ·exact .inr ⟨by omega,by omega⟩
  clear hsp;obtain ⟨b,Zy⟩:=exq (Vk labels done m);obtain ⟨b',hb'⟩:=exq (Vk labels done (m+1));rw [Zy] at hB hS;rw [hb'] at hS;rw [Zy];obtain ⟨x,hx⟩:=exq (labels.getD m []);rw [hx] at Qc hS;have Zu:=less_not x done;cases hl1:Op.bytesLess done x with
  | false =>
   rw [hl1,Bool.false_and,cond_false] at hS;rw [hl1,Bool.not_false] at Zu;have Kq:Kev:=⟨⟩;exact Y6
  | true =>
   rw [hl1,Bool.true_and] at hS;rw [hl1,Bool.not_true] at Zu;rcases hB with hB|⟨hB0,hBk⟩
   ·subst hB;have hS1:b'=m:=hS;have Kq:Kew:=⟨⟩;exact Y6
   ·obtain ⟨p,rfl⟩:=Int.eq_ofNat_of_zero_le hB0;have Zx:=Zr ([]:List UInt8) (show p<labels.length by omega)
    have Zw:X4 (p:Int) 0=false:=by rw [Qv];omega
    rw [Zj] at hS;obtain ⟨y,hy⟩:=exq (labels.getD p []);rw [hy] at Zx hS;rw [Zw,Bool.false_or] at hS;cases Zz:Op.bytesLess x y with
    | true =>
     rw [Zz,cond_true] at hS;have Kq:Kex:=⟨⟩;exact Y6
    | false =>
     rw [Zz,cond_false] at hS;have Kq:Key:=⟨⟩;exact Y6
 ·have hme:m=types.length:=by omega
  rw [hme] at hsp Q4;rw [hme];rcases hsp with ⟨Zy,_⟩|⟨b,hbt,Zy,_⟩
  ·rw [Zy] at h2;rw [if_pos (by decide)] at h2
   injection h2 with e1 e2
   subst e1 e2;exact N9
  ·rw [Zy] at h2;rw [if_neg (by omega),Zj] at h2
   have Qc:=Zr ([]:List UInt8) (show b<labels.length by omega)
   have Z1:=Zr (⟨[]⟩:Sl Node) hbt;obtain ⟨t1,t2⟩:=hty b hbt;rw [hTg b] at h2;have Qd:X4 (b:Int) 0=false:=by rw [Qv];omega
   obtain ⟨x,hx⟩:=exq (labels.getD b []);rw [hx] at Qc h2;obtain ⟨⟨u⟩,hu⟩:=exq (types.getD b ⟨[]⟩);rw [hu] at Z1 t1 t2 h2;simp only at t1 t2 h2;cases u with
   | nil=>exact absurd rfl t1
   | cons y r =>
    have Q5:=kP (P:=out) (n:=y) (r:=r) (s:=x);have Qi:=tK (P:=out) (n:=y) (r:=r);have Z0:out.map (enc:Node→D)++(y::r).map enc=(out++y::r).map enc:=by simp
    have hlen:(out++y::r).length=out.length+(r.length+1):=by simp
    have Qs:((out++y::r).map (enc:Node→D)).length=out.length+(r.length+1):=by rw [Zl,hlen]
    have hP3:(out++named x (y::r)).length=out.length+(r.length+1):=by rw [Zf,C2];rfl
    simp only [Zi] at t2;obtain ⟨O2,hO2⟩:=exq (out++named x (y::r));rw [hO2] at h2 Q5 hP3;obtain ⟨Q,hQ⟩:=exq (out++y::r);rw [hQ] at Q5 Qi Z0 hlen Qs;obtain ⟨yr,hyr⟩:=exq (y::r);rw [hyr] at Z1 Z0;have hyl:yr.length=r.length+1:=by rw [←hyr];rfl
    have Q8:(yr.map (enc:Node→D)).length=r.length+1:=by rw [Zl,hyl]
    have Kq:Kez:=⟨⟩;exact Y6):p:=h
structure Ket:Prop
theorem Ket.k (_:Ket) (h:p:=by
 repeat' first|exact Z8|with_reducible apply Zb|intro _
 all_goals try with_reducible exact Jd
 refine Zm [6,7,12,13,14,60,61,62,63,64,65,66,67,68,69,70,71,72,73,74,75,76,77,78,79,80,81,82,83,84,85,86,87,88,89,90,91,92,93,94,95,96,97,98,99,100,101,102,103,104,105,106,107,108,109,110,111,112] (fun p:Nat×List UInt8×List Node=>[(9,.sl 59 (p.2.2.map (enc:Node→D)).length),(10,.d (.str p.2.1)),(11,.d (.int .i64 p.1))]) (fun p:Nat×List UInt8×List Node=>[(59,.row 3 (p.2.2.map enc) 0)]) (fun p:Nat×List UInt8×List Node=>p.1≤types.length∧fT labels T (types.length-p.1) p.2.1 p.2.2=(R1,R2)∧p.2.2.length≤1+1000000*p.1) (fun p:Nat×List UInt8×List Node=>types.length-p.1) (0,[],[⟨7,[],types.length⟩]) ?_ ?_ ?_
 ·exact ⟨by simp,hR2,by simp⟩
 ·have Km:=@Z2;exact Qw
 rintro ⟨i,done,out⟩ ⟨h1,h2,h3⟩;simp only at h1 h2 h3;have Qk:(out.map (enc:Node→D)).length=out.length:=Zl ..;rcases Zo i types.length with ⟨hit,Je⟩|⟨hit,Je⟩
 ·rw [show types.length-i=(types.length-i-1)+1 by omega,fT,hTl] at h2
  have Kq:Keu:=⟨⟩;exact Y6
 ·have hie:types.length-i=0:=by omega
  rw [hie] at h2;injection h2 with e1 e2
  subst e1 e2;exact N9):p:=h
structure Ker:Prop
theorem Ker.k (_:Ker) (h:p:=by
 repeat' first|exact Z8|with_reducible apply Zb|intro _
 all_goals try with_reducible exact Jd
 all_goals try exact Or.inr trivial
 refine Zm [6,7,42,43,44,45,46,47,48,49,50,51,52,53,54] (fun j:Nat=>[(8,.d (.int .i64 j))]) (fun j:Nat=>[]) (fun j:Nat=>j≤types.length∧∀ m,m<j→V6 7 (labels.getD m [])=true) (fun j:Nat=>types.length-j) 0 ?_ ?_ ?_
 ·simp
 ·exact Qw
 rintro j ⟨hj,hno⟩;rcases Zo j types.length with ⟨hjt,Qe⟩|⟨hjt,Qe⟩
 ·have Qc:=Zr ([]:List UInt8) (show j<labels.length by omega)
  have hxl:=r6 (labels.getD j []) (by simp [show j<labels.length by omega])
  have hst:V6 7 (labels.getD j [])=true→∀ m,m<j+1→V6 7 (labels.getD m [])=true:=fun h=>K6 hno h;obtain ⟨Q,hQ⟩:=exq ((∀ m,m<j+1→V6 7 (labels.getD m [])=true));rw [hQ] at hst;have hbad:V6 7 (labels.getD j [])=false→((List.range types.length).all fun k=>V6 7 (labels.getD k []))=false:=fun h=>Gi j hjt h;obtain ⟨x,hx⟩:=exq (labels.getD j []);rw [hx] at Qc hxl hst hbad;cases Qh:V6 7 x with
  | true =>
   have hq:=hst Qh;have Kq:Kes:=⟨⟩;exact Y6
  | false =>
   rw [hbad Qh,if_pos rfl] at hR2;injection hR2 with e1 e2
   subst e1 e2;exact N9
 ·rw [Uo (fun m hm=>hno m (by omega)),if_neg (by simp)] at hR2
  have Kq:Ket:=⟨⟩;exact Y6):p:=h
theorem good_Row3:Qa Tryz.prog (274,jM):=by
 obtain ⟨Kx,Kt,Kc,Kd,Kb,Ku,Kw,K,X9,_⟩:=Xe Zv Zn [] false (Q0 good_label3 Ib.eq_def Xd);have Ko:=jM.eq_def;refine Xj K Tryz.func274 [.tmp 6,.tmp 7] rfl 114 rfl (fun c hc cvs hpre=>?_);unfold jM at hpre;obtain ⟨k,⟨labels⟩,⟨types⟩,rfl,hk,hRow⟩:=N3 hpre;simp only at hRow;obtain ⟨r1,r2,r3,r4,r5,r6⟩:Zt7 labels (types.map Sl.l):=hRow;rw [Zl] at r1 r2 r3;clear hpre;obtain ⟨⟨R1,R2⟩,Qn⟩:=exq (dJ k labels (types.map Sl.l));have hR2:=Qn;unfold dJ at hR2;rw [Zl,if_neg (by omega)] at hR2
 have Qb:((labels.length:Int) != (types.length:Int))=false:=by rw [bne_eq_false_iff_eq];omega
 have Qf:X4 50 (types.length:Int)=false:=by rw [Qv];omega
 have Z9:((types.length:Int)==0)=false:=by rw [Za];omega
 have hty:∀ j,j<types.length→(types.getD j ⟨[]⟩).l≠[]∧(types.getD j ⟨[]⟩).l.length≤1000000:=fun j hj=>by
  have h1:=Qaq (types:=types.map Sl.l) (k:=j) (by rw [Zl];exact hj)
  rw [sI] at h1;refine ⟨r5 _ ?_,by omega⟩
  rw [List.mem_map];exact ⟨_,by simp [hj],rfl⟩
 have hTl:(types.map Sl.l).length=types.length:=Zl ..;have hTg:=fun k=>sI (types:=types) (k:=k);obtain ⟨T,Q6⟩:=exq (types.map Sl.l);rw [Q6] at Qn hR2 hTl hTg;clear r5 r4;cases hc;refine Y4 7 ?_;rcases hk with rfl|rfl
 ·have Kq:Kei:=⟨⟩;exact Y6
 ·have Kq:Ker:=⟨⟩;exact Y6
def wZ {A B C E F H R S:Type} [Enc A] [Enc B] [Enc C] [Enc E] [Enc F] [Enc H] [Enc R] [Enc S] (p:A→B→C→E→F→H→Prop) (f:A→B→C→E→F→H→R×S):Con:=⟨[false,false,false,false,false,false],[false,false],fun c=>match c with
 | [.d x,.d y,.d z,.d w,.d u,.d v]=>V9 A x∧V9 B y∧V9 C z∧V9 E w∧V9 F u∧V9 H v∧p (dec x) (dec y) (dec z) (dec w) (dec u) (dec v)
 | _=>False,fun c=>match c with
 | [.d x,.d y,.d z,.d w,.d u,.d v]=>.tup [.d (enc (f (dec x) (dec y) (dec z) (dec w) (dec u) (dec v)).1),.d (enc (f (dec x) (dec y) (dec z) (dec w) (dec u) (dec v)).2)]
 | _=>.d .nilp⟩
theorem Zov {A B C E F H R S:Type} [Enc A] [Enc B] [Enc C] [Enc E] [Enc F] [Enc H] [Enc R] [Enc S] {p:A→B→C→E→F→H→Prop} {f:A→B→C→E→F→H→R×S} {c:List CV} (h:(wZ p f).pre c) :
  ∃ a b d e g i,c=[.d (enc a),.d (enc b),.d (enc d),.d (enc e),.d (enc g),.d (enc i)]∧p a b d e g i:=by
 unfold wZ at h;simp only at h;split at h
 ·next x y z w u v=>exact ⟨dec x,dec y,dec z,dec w,dec u,dec v,by rw [←h.1,←h.2.1,←h.2.2.1,←h.2.2.2.1,←h.2.2.2.2.1,←h.2.2.2.2.2.1],h.2.2.2.2.2.2⟩
 ·exact h.elim
structure St4Ok (l:List Tok) (s:St4):Prop where
 len:l.length≤100000
 lo:0≤s.at_
 hi:s.at_≤l.length
 sites:(s.sites.length:Int)≤1000000+s.at_
 site:0≤s.site∧s.site≤1000000+s.at_
 txt:∀ t∈l,t.text.length≤9223372036854775807
def X7 (n:Nat):Con:=Y1 (fun (l:Sl Tok) (s:St4) (v:Int)=>St4Ok l.l s∧1≤v∧v≤100∧3*(101-v)+2<n) (fun l s v=>((⟨(Xg (101-v).toNat l.l s).1⟩,(Xg (101-v).toNat l.l s).2):Sl Node×St4))
theorem Sw:type_of% @X7.eq_def:=@X7.eq_def
def Sb (n:Nat):Con:=Y1 (fun (l:Sl Tok) (s:St4) (v:Int)=>St4Ok l.l s∧1≤v∧v≤100∧3*(101-v)+1<n) (fun l s v=>((⟨(Pk (Xg (100-v).toNat) (100-v).toNat l.l s).1⟩,(Pk (Xg (100-v).toNat) (100-v).toNat l.l s).2):Sl Node×St4))
def L5 (n:Nat):Con:=wZ (fun (l:Sl Tok) (s:St4) (v k:Int) (_ _:List UInt8)=>(St4Ok l.l s∧s.e=0∧1≤s.at_)∧(k=6∨k=7)∧1≤v∧v≤100∧3*(101-v)+3<n) (fun l s v k a b=>((⟨(mT (Xg (101-v).toNat) l.l s k a b).1⟩,(mT (Xg (101-v).toNat) l.l s k a b).2):Sl Node×St4))
structure IH4 (n:Nat):Prop where
 whole:Qa Tryz.prog (259,X7 n)
 atom:Qa Tryz.prog (262,Sb n)
 rows:Qa Tryz.prog (268,L5 n)
theorem oR:∀ c,¬ (X7 0).pre c:=by
 intro c h;unfold X7 at h;obtain ⟨_,_,_,_,_,_,_,h⟩:=N3 h;omega
theorem uZ:∀ c,¬ (Sb 0).pre c:=by
 intro c h;unfold Sb at h;obtain ⟨_,_,_,_,_,_,_,h⟩:=N3 h;omega
theorem tN:∀ c,¬ (L5 0).pre c:=by
 intro c h;unfold L5 at h;obtain ⟨_,_,_,_,_,_,_,_,_,_,_,h⟩:=Zov h;omega
theorem eD {l:List Tok} {s:St4} {r:List Node×St4} (h:St4Ok l s) (hE:Eats l s r) (he:r.2.e=0):St4Ok l r.2:=by
 obtain ⟨h1,h2,h3,h4,h5,h6⟩:=h;have h7:=(hE.ok he).2.1;obtain ⟨h8,h9,h10⟩:=hE.sites he;exact ⟨h1,hE.lo,h7,by omega,by omega,h6⟩
theorem Zad (n:Nat) (ih:IH4 n):Qa Tryz.prog (259,(X7 (n+1))):=by
 obtain ⟨Kx,Kt,Kc,Kd,Kb,Ku,Kw,K,X9,Uv,Po,Cx,Oj,_⟩:=Xe Zv Zn [] false (Q0 ih.atom (Sb.eq_def n) (Q0 ih.whole (Sw n) (Q0 iB Ic.eq_def (Q0 Ex M5.eq_def (Q0 good_Arrow3 It.eq_def Xd)))));have Ko:=(Sw (n+1));refine Xj K Tryz.func259 [.tmp 6,.cell 7 261] rfl 53 rfl (fun c hc cvs hpre=>?_);unfold X7 at hpre;obtain ⟨⟨l⟩,s,v,rfl,hS,hv1,hv2,hn⟩:=N3 hpre;simp only at hS;clear hpre;obtain ⟨d,hd⟩:∃ d:Nat,v=100-d:=⟨(100-v).toNat,by omega⟩
 subst hd;have Qb:(101-(100-(d:Int))).toNat=d+1:=by omega
 have Qf:(100-(100-(d:Int))).toNat=d:=by omega
 have Je:(101-(100-(d:Int)+1)).toNat=d:=by omega
 obtain ⟨R,Qc⟩:=exq (Xg (d+1) l s);have hR2:=Qc;rw [Xg] at hR2;have hEa:=yN (l:=l) (w:=Xg d) (d:=d) (s:=s) (fun hd s' h1 h2=>Nl d s' hd h1 h2) hS.lo hS.hi;obtain ⟨⟨a,q⟩,Z9⟩:=exq (Pk (Xg d) d l s);rw [Z9] at hR2 hEa;simp only at hR2;have hlo:=hEa.lo;have hhi:=hEa.hi;have hL:=hS.len;have hal:=hEa.len;simp only at hlo hhi hal;have hokq:q.e=0→St4Ok l q:=fun h=>eD hS hEa h;obtain ⟨qa,qi,qs,qe⟩:=q;simp only at hlo hhi hR2 hokq;have hA1:a.length≤100000:=by have:=hS.lo;omega
 cases hc;refine Y4 3 ?_;by_cases he:qe=0
 case neg =>
  rw [if_pos (.inl he)] at hR2;have Qe:(qe != 0)=true:=bne_iff_ne.2 he;subst hR2;have Zu:=@Ez;have Zx:=@Wl;have Zw:=@Wo;have Zz:=@Ei;exact N9
 have Qe:(qe != 0)=false:=by rw [he];rfl
 cases Qh:Tx l qa [45,62] with
 | false =>
  rw [if_pos (.inr Qh)] at hR2;subst hR2;have Zu:=@Ez;have Zx:=@Wl;have Zw:=@Wo;have Zz:=@Ei;exact N9
 | true =>
  rw [if_neg (by rw [Qh];simp [he])] at hR2
  by_cases hd0:d=0
  ·rw [if_pos hd0] at hR2;have Qn:Xf 100 (100-(d:Int))=true:=by rw [Qx];omega
   have Q6:Uc ⟨qa,qi,qs,qe⟩ qa 4=⟨qa,qi,qs,4⟩:=rfl;rw [Q6] at hR2;subst hR2;have Zu:=@Ez;have Zx:=@Wl;have Zw:=@Wo;have Zz:=@Ei;exact N9
  rw [if_neg hd0] at hR2;have Qn:Xf 100 (100-(d:Int))=false:=by rw [←Bool.not_eq_true,Qx];omega
  have hlt:=Dv Qh;have hok2:=hokq he;have hok3:St4Ok l ⟨qa+1,qi,qs,qe⟩:=by
   obtain ⟨h1,h2,h3,h4,h5,h6⟩:=hok2;simp only at h2 h3 h4 h5;exact ⟨h1,by show 0≤qa+1;omega,by show qa+1≤_;omega,by show (qs.length:Int)≤1000000+(qa+1);omega,by show 0≤qi∧qi≤1000000+(qa+1);omega,h6⟩
  have hEb:=Nl (l:=l) d ⟨qa+1,qi,qs,qe⟩ hd0 hok3.lo hok3.hi;have hadv:Yo ⟨qa,qi,qs,qe⟩=⟨qa+1,qi,qs,qe⟩:=rfl;rw [hadv] at hR2;obtain ⟨⟨b,q2⟩,Q4⟩:=exq (Xg d l ⟨qa+1,qi,qs,qe⟩);rw [Q4] at hR2 hEb;have hbl:=hEb.len;simp only at hR2 hbl;obtain ⟨q2a,q2i,q2s,q2e⟩:=q2;have hB1:b.length≤100000:=by omega
  subst hR2;have Zu:=@Ez;have Zx:=@Wl;have Zw:=@Wo;have Zz:=@Ei;exact N9
theorem sC {l:List Tok} {i:Int} {x:List UInt8} (h:Tx l i x=true):(tk l i).text=x:=by
 unfold Tx at h;simp only [Zg,Zk] at h;exact h.2.2
theorem lP {l:List Tok} {i:Int} {x y:List UInt8} (h:Tx l i x=true) (hxy:x≠y):Tx l i y=false:=by
 cases hb:Tx l i y with
 | false=>rfl
 | true=>exact absurd ((sC h).symm.trans (sC hb)) hxy
theorem Zuo {s:List Site} {x:Site}:s.map (enc:Site→D)++[.agg [.int .i64 x.frm,.int .i64 x.to,.bool x.miss]]=(s++[x]).map enc:=by rw [List.map_append];rfl
theorem Y9 {a b d:Int} {c:List Site}:(enc (St4.mk a b c d):D)=.agg [.int .i64 a,.int .i64 b,.list 3 (c.map enc),.int .i64 d]:=rfl
structure KeA:Prop
theorem KeA.k (_:KeA) (h:p:=by
 repeat' first|exact Z8|with_reducible apply Zb|intro _
 all_goals first|contradiction|with_reducible exact Jd|exact hS|exact hok3|exact ⟨hok3,he,by show (1:Int)≤(k:Int)+1;omega⟩|exact Or.inr trivial|omega|rfl|skip):p:=h
structure KeB:Prop
theorem KeB.k (_:KeB) (h:p:=by
 repeat' first|exact Z8|with_reducible apply Zb|intro _
 all_goals first|contradiction|with_reducible exact Jd|exact hS|exact hok3|exact ⟨hok3,he,by show (1:Int)≤(k:Int)+1;omega⟩|exact Or.inr trivial|omega|rfl|skip):p:=h
structure KeC:Prop
theorem KeC.k (_:KeC) (h:p:=by
 repeat' first|exact Z8|with_reducible apply Zb|intro _
 all_goals first|contradiction|with_reducible exact Jd|exact hS|exact hok3|exact ⟨hok3,he,by show (1:Int)≤(k:Int)+1;omega⟩|exact Or.inr trivial|omega|rfl|skip):p:=h
structure KeD:Prop
theorem KeD.k (_:KeD) (h:p:=by
 repeat' first|exact Z8|with_reducible apply Zb|intro _
 all_goals first|contradiction|with_reducible exact Jd|exact hS|exact hok3|exact ⟨hok3,he,by show (1:Int)≤(k:Int)+1;omega⟩|exact Or.inr trivial|omega|rfl|skip):p:=h
structure KeE:Prop
theorem KeE.k (_:KeE) (h:p:=by
 repeat' first|exact Z8|with_reducible apply Zb|intro _
 all_goals first|contradiction|with_reducible exact Jd|exact hS|exact hok3|exact ⟨hok3,he,by show (1:Int)≤(k:Int)+1;omega⟩|exact Or.inr trivial|omega|rfl|skip):p:=h
structure KeF:Prop
theorem KeF.k (_:KeF) (h:p:=by
 repeat' first|exact Z8|with_reducible apply Zb|intro _
 all_goals first|contradiction|with_reducible exact Jd|exact hS|exact hok3|exact ⟨hok3,he,by show (1:Int)≤(k:Int)+1;omega⟩|exact Or.inr trivial|omega|rfl|skip):p:=h
structure KeG:Prop
theorem KeG.k (_:KeG) (h:p:=by
 repeat' first|exact Z8|with_reducible apply Zb|intro _
 all_goals first|contradiction|with_reducible exact Jd|exact hS|exact hok3|exact ⟨hok3,he,by show (1:Int)≤(k:Int)+1;omega⟩|exact Or.inr trivial|omega|rfl|skip):p:=h
theorem stepi_atom4 (n:Nat) (ih:IH4 n):Qa Tryz.prog (262,(Sb (n+1))):=by
 obtain ⟨Kx,Kt,Kc,Kd,Kb,Ku,Kw,K,X9,Uv,Po,Cx,Oj,kK,_⟩:=Xe Zv Zn [] false (Q0 iB Ic.eq_def (Q0 Ex M5.eq_def (Q0 good_base4 cC.eq_def (Q0 nM D2.eq_def (Q0 ih.rows (L5.eq_def n) (Q0 ih.whole (Sw n) Xd))))));have Ko:=(Sb.eq_def (n+1));refine Xj K Tryz.func262 [.tmp 6,.cell 7 261] rfl 164 rfl (fun c hc cvs hpre=>?_);unfold Sb at hpre;obtain ⟨⟨l⟩,⟨k,si,ss,e⟩,v,rfl,hS,hv1,hv2,hn⟩:=N3 hpre;simp only at hS;clear hpre;obtain ⟨d,hd⟩:∃ d:Nat,v=100-d:=⟨(100-v).toNat,by omega⟩
 subst hd;have Qb:(100-(100-(d:Int))).toNat=d:=by omega
 have Qi:(101-(100-(d:Int)+1)).toNat=d:=by omega
 have hlen:=hS.len;have hlo:=hS.lo;have hhi:=hS.hi;have hss:=hS.sites;have hsi:=hS.site;simp only at hlo hhi hss hsi;obtain ⟨k,rfl⟩:∃ n:Nat,k=n:=⟨k.toNat,by omega⟩
 obtain ⟨R,Z9⟩:=exq (Pk (Xg d) d l ⟨k,si,ss,e⟩);have hR2:=Z9;unfold Pk at hR2;simp only at hR2;have Je:(ss.map (enc:Site→D)).length=ss.length:=Zl ..;cases hc;refine Y4 10 ?_;by_cases he:e=0
 case neg =>
  rw [if_pos he] at hR2;have Qf:(e != 0)=true:=bne_iff_ne.2 he;subst hR2;have Qy:=@Y9;have Jh:=@Wl;have Jg:=@Wo;exact N9
 rw [if_neg (by simpa using he)] at hR2
 have Qf:(e != 0)=false:=by rw [he];rfl
 by_cases hlt:(l.length:Int)≤(k:Int)
 ·rw [if_pos hlt] at hR2;have Qe:Xf (l.length:Int) (k:Int)=true:=by rw [Qx];exact hlt
  subst hR2;have Qc:Uc ⟨(k:Int),si,ss,e⟩ (l.length:Int) 2=⟨l.length,si,ss,2⟩:=rfl;rw [Qc] at Z9;have Qy:=@Y9;have Jh:=@Wl;have Jg:=@Wo;exact N9
 rw [if_neg hlt] at hR2;have hkl:k<l.length:=by omega
 have Qe:Xf (l.length:Int) (k:Int)=false:=by rw [←Bool.not_eq_true,Qx];exact hlt
 have Qn:=Zr Ue hkl;have htx:=hS.txt (l.getD k Ue) (by simp [hkl])
 have hit:=fun {x:List UInt8} (h:Tx l (k:Int) x=true)=>sC h;rw [Gm] at hR2;simp only [Gm] at hit;obtain ⟨t,ht⟩:=exq (l.getD k Ue);rw [ht] at Qn hR2 htx;simp only [ht] at hit;cases Qh:Tx l (k:Int) [63] with
 | true =>
  rw [Qh,if_pos rfl] at hR2;have Q6:=Zuo (s:=ss) (x:=⟨t.frm,t.to,false⟩);have hsl:(ss++[Site.mk t.frm t.to false]).length=ss.length+1:=by simp
  obtain ⟨S2,hS2⟩:=exq (ss++[Site.mk t.frm t.to false]);rw [hS2] at Q6 hsl hR2;have Q4:(S2.map (enc:Site→D)).length=ss.length+1:=by rw [Zl,hsl]
  subst hR2;have Qy:=@Jo;have Jh:=@Pv;have Jg:=@qJ;have Wb:=@Y9;have Wn:=@Wl;have Wx:=@Wo;exact N9
 | false =>
 rw [Qh,if_neg (by simp)] at hR2
 obtain ⟨bs,Zu⟩:=exq (eY t);rw [Zu] at hR2;by_cases hb0:0≤bs
 ·rw [if_pos hb0] at hR2;have Zx:Xf 0 bs=true:=by rw [Qx];exact hb0
  have Qc:Yo ⟨(k:Int),si,ss,e⟩=⟨(k:Int)+1,si,ss,e⟩:=rfl;rw [Qc] at hR2;subst hR2;have Qy:=@Jo;have Jh:=@Ya;have Jg:=@Yf;have Wb:=@W5;have Wn:=@Pv;have Wx:=@Y9;have W0:=@Wl;have Wz:=@Wo;exact N9
 rw [if_neg hb0] at hR2;have Zx:Xf 0 bs=false:=by rw [←Bool.not_eq_true,Qx];exact hb0
 have Z0:Uc ⟨(k:Int),si,ss,e⟩ (k:Int) 4=⟨k,si,ss,4⟩:=rfl;have Qd:Uc ⟨(k:Int),si,ss,e⟩ (k:Int) 2=⟨k,si,ss,2⟩:=rfl;have hadv:Yo ⟨(k:Int),si,ss,e⟩=⟨(k:Int)+1,si,ss,e⟩:=rfl;have hadv2:Yo ⟨(k:Int)+1,si,ss,e⟩=⟨(k:Int)+1+1,si,ss,e⟩:=rfl;rw [hadv,hadv2,Z0,Qd] at hR2;have hok3:St4Ok l ⟨(k:Int)+1,si,ss,e⟩:=⟨hlen,by show 0≤(k:Int)+1;omega,by show (k:Int)+1≤_;omega,by show (ss.length:Int)≤1000000+((k:Int)+1);omega,by show 0≤si∧si≤1000000+((k:Int)+1);omega,hS.txt⟩
 by_cases hnb:Tx l (k:Int) [40]=false∧Tx l (k:Int) [123]=false∧Tx l (k:Int) [91]=false
 ·rw [if_pos hnb] at hR2;obtain ⟨Zw,Zz,Zy⟩:=hnb;subst hR2;have Qy:=@Jo;have Jh:=@Ya;have Jg:=@Yf;have Wb:=@W5;have Wn:=@Pv;have Wx:=@Y9;have W0:=@Wl;have Wz:=@Wo;exact N9
 rw [if_neg hnb] at hR2;have h3:Tx l (k:Int) [40]=true∨(Tx l (k:Int) [123]=true∨Tx l (k:Int) [91]=true):=by
  cases h1:Tx l (k:Int) [40] with
  | true=>exact .inl rfl
  | false =>
   cases h2:Tx l (k:Int) [123] with
   | true=>exact .inr (.inl rfl)
   | false =>
    cases h3:Tx l (k:Int) [91] with
    | true=>exact .inr (.inr rfl)
    | false=>exact absurd ⟨h1,h2,h3⟩ hnb
 clear hnb;rcases h3 with Zw|Zz|Zy
 ·have htt:=hit Zw;by_cases hd0:d=0
  ·rw [if_pos hd0] at hR2;have Z1:Xf 100 (100-(d:Int))=true:=by rw [Qx];omega
   subst hR2;have Qy:=@Jo;have Jh:=@Ya;have Jg:=@Yf;have Wb:=@W5;have Wn:=@Pv;have Wx:=@Y9;have W0:=@Wl;have Wz:=@Wo;have Kq:KeA:=⟨⟩;exact Y6
  rw [if_neg hd0] at hR2;have Z1:Xf 100 (100-(d:Int))=false:=by rw [←Bool.not_eq_true,Qx];omega
  rw [if_neg (by rw [htt];simp),if_neg (by rw [htt];decide),if_neg (by rw [htt];decide)] at hR2
  have Qk:(t.text==[123])=false:=by rw [htt];rfl
  have Qs:(t.text==[91])=false:=by rw [htt];rfl
  have hE:=Nl (l:=l) d ⟨(k:Int)+1,si,ss,e⟩ hd0 hok3.lo hok3.hi;obtain ⟨⟨wt,wq⟩,Qc⟩:=exq (Xg d l ⟨(k:Int)+1,si,ss,e⟩);rw [Qc] at hR2 hE;have hE1:=hE.lo;have hE2:=hE.hi;simp only at hR2 hE1 hE2;obtain ⟨wa,wi,ws,we⟩:=wq;simp only at hE1 hE2;obtain ⟨N,Q8⟩:=exq (Vr l ⟨wa,wi,ws,we⟩ [41]);rw [Q8] at hR2;obtain ⟨na,ni,ns,ne⟩:=N;subst hR2;have Qy:=@Jo;have Jh:=@Ya;have Jg:=@Yf;have Wb:=@W5;have Wn:=@Pv;have Wx:=@Y9;have W0:=@Wl;have Wz:=@Wo;have Kq:KeB:=⟨⟩;exact Y6
 ·have htt:=hit Zz;have Zw:Tx l (k:Int) [40]=false:=lP Zz (by decide)
  by_cases hd0:d=0
  ·rw [if_pos hd0] at hR2;have Z1:Xf 100 (100-(d:Int))=true:=by rw [Qx];omega
   subst hR2;have Qy:=@Jo;have Jh:=@Ya;have Jg:=@Yf;have Wb:=@W5;have Wn:=@Pv;have Wx:=@Y9;have W0:=@Wl;have Wz:=@Wo;have Kq:KeC:=⟨⟩;exact Y6
  rw [if_neg hd0] at hR2;have Z1:Xf 100 (100-(d:Int))=false:=by rw [←Bool.not_eq_true,Qx];omega
  have Qk:(t.text==[123])=true:=by rw [htt];rfl
  cases Q5:Tx l ((k:Int)+1) [125] with
  | true =>
   rw [if_pos ⟨htt,Q5⟩] at hR2;subst hR2;have Qy:=@Jo;have Jh:=@Ya;have Jg:=@Yf;have Wb:=@W5;have Wn:=@Pv;have Wx:=@Y9;have W0:=@Wl;have Wz:=@Wo;have Kq:KeD:=⟨⟩;exact Y6
  | false =>
   rw [if_neg (by rw [Q5];simp),if_pos htt] at hR2
   obtain ⟨⟨wt,wq⟩,Qc⟩:=exq (mT (Xg d) l ⟨(k:Int)+1,si,ss,e⟩ 6 [44] [125]);rw [Qc] at hR2;obtain ⟨wa,wi,ws,we⟩:=wq;subst hR2;have Qy:=@wZ.eq_def;have Jh:=@Jo;have Jg:=@Ya;have Wb:=@Yf;have Wn:=@W5;have Wx:=@Pv;have W0:=@Y9;have Wz:=@Wl;have Gb:=@Wo;have Kq:KeE:=⟨⟩;exact Y6
 ·have htt:=hit Zy;have Zw:Tx l (k:Int) [40]=false:=lP Zy (by decide)
  have Zz:Tx l (k:Int) [123]=false:=lP Zy (by decide)
  by_cases hd0:d=0
  ·rw [if_pos hd0] at hR2;have Z1:Xf 100 (100-(d:Int))=true:=by rw [Qx];omega
   subst hR2;have Qy:=@Jo;have Jh:=@Ya;have Jg:=@Yf;have Wb:=@W5;have Wn:=@Pv;have Wx:=@Y9;have W0:=@Wl;have Wz:=@Wo;have Kq:KeF:=⟨⟩;exact Y6
  rw [if_neg hd0] at hR2;have Z1:Xf 100 (100-(d:Int))=false:=by rw [←Bool.not_eq_true,Qx];omega
  have Qk:(t.text==[123])=false:=by rw [htt];rfl
  have Qs:(t.text==[91])=true:=by rw [htt];rfl
  rw [if_neg (by rw [htt];simp),if_neg (by rw [htt];decide),if_pos htt] at hR2
  obtain ⟨⟨wt,wq⟩,Qc⟩:=exq (mT (Xg d) l ⟨(k:Int)+1,si,ss,e⟩ 7 [124] [93]);rw [Qc] at hR2;obtain ⟨wa,wi,ws,we⟩:=wq;subst hR2;have Qy:=@wZ.eq_def;have Jh:=@Jo;have Jg:=@Ya;have Wb:=@Yf;have Wn:=@W5;have Wx:=@Pv;have W0:=@Y9;have Wz:=@Wl;have Gb:=@Wo;have Kq:KeG:=⟨⟩;exact Y6
theorem Zpd {l:List (List UInt8)} {x:List UInt8} {j:Nat} (h:j<l.length) (hx:(l.getD j []==x)=true):(l.any fun y=>y==x)=true:=Ix (p:=fun y=>y==x) [] j h hx
theorem Zl3 {l:List (List UInt8)} {x:List UInt8}:l.map (enc:List UInt8→D)++[.str x]=(l++[x]).map enc:=by rw [List.map_append];rfl
theorem Zs3 {l:List (List Node)}:(l.map Sl.mk).map Sl.l=l:=by
 rw [List.map_map];have:(Sl.l∘Sl.mk:List Node→List Node)=id:=rfl;rw [this,List.map_id]
theorem Zur {p:Prop} (h:p:=by (sym=>simp [Kt,Kc,Kd,Kb,Ku,Kw,Ko,X9,Uv,Po,Cx,Oj,kK,oB,Zbx,Zlp,Zlo,Ok,Qb,Qf,Z9,Qe,Qc,Qh,Qn,Q6,Je,Q4,Zu,Zx,Zw,Zz,Zy,Qd,Z1,Z0,Qi,Qk,Qs,Q8,Q5,Qy,Jh,Jg,Wb,Wn,Wx,W0,Wz,Gb,Ga,H3,H2,Hq,Hp,M4,M3,Nm,M0,Mz,Nz,My,Mx,Mw,D.setCell.eq_1,Zj,Y5,Zw7,wZ.eq_def,Ju,Jt,Wq,Ub,Wp,Xm,Js,J2,Sw,K0,Z7,Qo,Yt,Wo,Yf,J1,Kf,Vi,Ye,Z2,Qg,Yc,Y9,Jo,Z6,Y3,Fn,Kv,Yb,Z5,Qm,Yr,Wl,Ya,Xb,Wh,Xt,Kj,Uz,Z4,Qp,eC,Nu,Sx,qJ,Pv,W5,Ud,Zll,Zlk,Zlj,Zli,Zlh,Zlg,Zlf,Zle,Zld,Zlc,Zlb,Zla,Zk9,Zk8,Zk7,Zk6,Zk5,Zk4,Zk3,Zk2,Zk1,Zk0,Zkz,Zky,Zkx,Zkw,Zkv,Zku,Zkt,Zks,Zkr,Zkq,Zkp,Zko,Zkn,Zkm,Zkl,Zkk,Zkj,Zki,Zkh,Zkg,Zkf,Zke,Zkd,Zkc,Zkb,Zka,Zj9,Zj8,Zj7,Zj6,Zj5,Zj4,Zj3,Zj2,Zj1,Zj0,Zjz,Zjy,Zjx,Zjw,Zjv,Zju,Zjt,Zjs,Zjr,Zjq,Zjp,Zjo,Zjn,Zjm,Zjl,Zjk,Zjj,Zji,Zjh,Zjg,Zjf,Zje,Zjd,Zjc,Zjb,Zja,Zi9,Zi8,Zi7,Zi6,Zi5,Zi4,Zi3,Zi2,Zi1,Zi0,Ziz,Ziy,Zix,Ziw,Ziv,Ziu,Zit,Zis,Zir,Ziq,Zip,Zio,Zin,Zim,Zil,Zik,Zij,Zii,Zih,Zig,Zif,Zie,Zid,Zic,Zib,Zia,Zh9,Zh8,Zh7,Zh6,Zh5,Zh4,Zh3,Zh2,Zh1,Zh0,Zhz,Zhy,Zhx,Zhw,Zhv,Zhu,Zht,Zhs,Zhr,Zhq,Zhp,Zho,Zhn,Zhm,Zhl,Zhk,Zhj,Zhi,Zhh,Zhg,Zhf,Zhe,Zhd,Zhc,Zhb,Zha,Zg9,Zg8,Zg7,Zg6,Zg5,Zg4,Zg3,Zg2,Zg1,Zg0,Zgz,Zgy,Zgx,Zgw,Zgv,Zgu,Zgt,Zgs,Zgr,Zgq,Zgp,Zgo,Zgn,Zgm,Zgl,Zgk,Zgj,Zgi,Zgh,Zgg,Zgf,Zge,Zgd,Zgc,Zgb,Zga,Zf9,Zf8,Zf7,Zf6,Zf5,Zf4,Zf3,Zf2,Zf1,Zf0,Zfz,Zfy,Zfx,Zfw,Zfv,Zfu,Zft,Zfs,Zfr,Zfq,Zfp,Zfo,Zfn,Zfm,Zfl,Zfk,Zfj,Zfi,Zfh,Zfg,Zff,Zfe,Zfd,Zfc,Zfb,Zfa,Ze9,Ze8,Ze7,Ze6,Ze5,Ze4,Ze3,Ze2,Ze1,Ze0,Zez,Zey,Zex,Zew,Zev,Zeu,Zet,Zes,Zer,Zeq,Zep,Zeo,Zen,Zem,Zel,Zek,Zej,Zei,Zeh,Zeg,Zef,Zee,Zed,Zec,Zeb,Zea,Zd9,Zd8,Zd7,Zd6,Zd5,Zd4,Zd3,Zd2,Zd1,Zd0,Zdz,Zdy,Zdx,Zdw,Zdv,Zdu,Zdt,Zds,Zdr,Zdq,Zdp,Zdo,Zdn,Zdm,Zdl,Zdk,Zdj,Zdi,Zdh,Zdg,Zdf,Zde,Zdd,Zdc,Zdb,Zda,Zc9,Zc8,Zc7,Zc6,Zc5,Zc4,Zc3,Zc2,Zc1,Zc0,Zcz,Zcy,Zcx,Zcw,Zcv,Zcu,Zct,Zcs,Zcr,Zcq,Zcp,Zco,Zcn,Zcm,Zcl,Zck,Zcj,Zci,Zch,Zcg,Zcf,Zce,Zcd,Zcc,Zcb,Zca,Zb9,Zb8,Zb7,Zb6,Zb5,Zb4,Zb3,Zb2,Zb1,Zb0,Zbz,Zby,Of,Oe,Od,Oc,Ob,Oa,Le,Ld,Lb,La,B9,B8,B7,B6,B5,B4,B3,B1,B0,Bz,Bx,Bw,Bv,Bu,Bt,Bs,Br,Bq,Bp,Bo,Bn,Bm,Bl,Hn,Hm,Hl,Hk,Hj,Hi,Hh,Hg,Hf,He,Hd,Hc,Hb,Ha,G9,G8,G7,G6,G5,G4,G3,Gz,Gy,Gx,Gw,Gv,Gu,Gt,Gq,Gp,Gn])):p:=h
theorem Zln {p:Prop} (h:p:=by
 (sym=>simp [Kt,Kc,Kd,Kb,Ku,Kw,Ko,X9,Uv,Po,Cx,Oj,kK,oB,Zbx,Zlp,Zlo,Ok,Qb,Qf,Z9,Qe,Qc,Qh,Qn,Q6,Je,Q4,Zu,Zx,Zw,Zz,Zy,Qd,Z1,Z0,Qi,Qk,Qs,Q8,Q5,Qy,Jh,Jg,Wb,Wn,Wx,W0,Wz,Gb,Ga,H3,H2,Hq,Hp,M4,M3,Nm,M0,Mz,Nz,My,Mx,Mw,D.setCell.eq_1,Zj,Y5,Zw7,wZ.eq_def,Ju,Jt,Wq,Ub,Wp,Xm,Js,J2,Sw,K0,Z7,Qo,Yt,Wo,Yf,J1,Kf,Vi,Ye,Z2,Qg,Yc,Y9,Jo,Z6,Y3,Fn,Kv,Yb,Z5,Qm,Yr,Wl,Ya,Xb,Wh,Xt,Kj,Uz,Z4,Qp,eC,Nu,Sx,qJ,Pv,W5,Ud,Zll,Zlk,Zlj,Zli,Zlh,Zlg,Zlf,Zle,Zld,Zlc,Zlb,Zla,Zk9,Zk8,Zk7,Zk6,Zk5,Zk4,Zk3,Zk2,Zk1,Zk0,Zkz,Zky,Zkx,Zkw,Zkv,Zku,Zkt,Zks,Zkr,Zkq,Zkp,Zko,Zkn,Zkm,Zkl,Zkk,Zkj,Zki,Zkh,Zkg,Zkf,Zke,Zkd,Zkc,Zkb,Zka,Zj9,Zj8,Zj7,Zj6,Zj5,Zj4,Zj3,Zj2,Zj1,Zj0,Zjz,Zjy,Zjx,Zjw,Zjv,Zju,Zjt,Zjs,Zjr,Zjq,Zjp,Zjo,Zjn,Zjm,Zjl,Zjk,Zjj,Zji,Zjh,Zjg,Zjf,Zje,Zjd,Zjc,Zjb,Zja,Zi9,Zi8,Zi7,Zi6,Zi5,Zi4,Zi3,Zi2,Zi1,Zi0,Ziz,Ziy,Zix,Ziw,Ziv,Ziu,Zit,Zis,Zir,Ziq,Zip,Zio,Zin,Zim,Zil,Zik,Zij,Zii,Zih,Zig,Zif,Zie,Zid,Zic,Zib,Zia,Zh9,Zh8,Zh7,Zh6,Zh5,Zh4,Zh3,Zh2,Zh1,Zh0,Zhz,Zhy,Zhx,Zhw,Zhv,Zhu,Zht,Zhs,Zhr,Zhq,Zhp,Zho,Zhn,Zhm,Zhl,Zhk,Zhj,Zhi,Zhh,Zhg,Zhf,Zhe,Zhd,Zhc,Zhb,Zha,Zg9,Zg8,Zg7,Zg6,Zg5,Zg4,Zg3,Zg2,Zg1,Zg0,Zgz,Zgy,Zgx,Zgw,Zgv,Zgu,Zgt,Zgs,Zgr,Zgq,Zgp,Zgo,Zgn,Zgm,Zgl,Zgk,Zgj,Zgi,Zgh,Zgg,Zgf,Zge,Zgd,Zgc,Zgb,Zga,Zf9,Zf8,Zf7,Zf6,Zf5,Zf4,Zf3,Zf2,Zf1,Zf0,Zfz,Zfy,Zfx,Zfw,Zfv,Zfu,Zft,Zfs,Zfr,Zfq,Zfp,Zfo,Zfn,Zfm,Zfl,Zfk,Zfj,Zfi,Zfh,Zfg,Zff,Zfe,Zfd,Zfc,Zfb,Zfa,Ze9,Ze8,Ze7,Ze6,Ze5,Ze4,Ze3,Ze2,Ze1,Ze0,Zez,Zey,Zex,Zew,Zev,Zeu,Zet,Zes,Zer,Zeq,Zep,Zeo,Zen,Zem,Zel,Zek,Zej,Zei,Zeh,Zeg,Zef,Zee,Zed,Zec,Zeb,Zea,Zd9,Zd8,Zd7,Zd6,Zd5,Zd4,Zd3,Zd2,Zd1,Zd0,Zdz,Zdy,Zdx,Zdw,Zdv,Zdu,Zdt,Zds,Zdr,Zdq,Zdp,Zdo,Zdn,Zdm,Zdl,Zdk,Zdj,Zdi,Zdh,Zdg,Zdf,Zde,Zdd,Zdc,Zdb,Zda,Zc9,Zc8,Zc7,Zc6,Zc5,Zc4,Zc3,Zc2,Zc1,Zc0,Zcz,Zcy,Zcx,Zcw,Zcv,Zcu,Zct,Zcs,Zcr,Zcq,Zcp,Zco,Zcn,Zcm,Zcl,Zck,Zcj,Zci,Zch,Zcg,Zcf,Zce,Zcd,Zcc,Zcb,Zca,Zb9,Zb8,Zb7,Zb6,Zb5,Zb4,Zb3,Zb2,Zb1,Zb0,Zbz,Zby,Of,Oe,Od,Oc,Ob,Oa,Le,Ld,Lb,La,B9,B8,B7,B6,B5,B4,B3,B1,B0,Bz,Bx,Bw,Bv,Bu,Bt,Bs,Br,Bq,Bp,Bo,Bn,Bm,Bl,Hn,Hm,Hl,Hk,Hj,Hi,Hh,Hg,Hf,He,Hd,Hc,Hb,Ha,G9,G8,G7,G6,G5,G4,G3,Gz,Gy,Gx,Gw,Gv,Gu,Gt,Gq,Gp,Gn];tactic =>
   try simp only [I4] at *
   try simp only [Zw8] at *
   try simp (maxSteps:=4000000) only [Qb,Qf,Z9,Qe,Qc,Qh,Qn,Q6,Je,Q4,Zu,Zx,Zw,Zz,Zy,Qd,Z1,Z0,Qi,Qk,Qs,Q8,Q5,Qy,Jh,Jg,Wb,Wn,Wx,W0,Wz,Gb,Ga,H3,H2,Hq,Hp,M4,M3,Nm,M0,Mz,Nz,My,Mx,Mw,D.setCell.eq_1,Zj,Y5,Zw7,wZ.eq_def,Ju,Jt,Wq,Ub,Wp,Xm,Js,J2,Sw,K0,Z7,Qo,Yt,Wo,Yf,J1,Kf,Vi,Ye,Z2,Qg,Yc,Y9,Jo,Z6,Y3,Fn,Kv,Yb,Z5,Qm,Yr,Wl,Ya,Xb,Wh,Xt,Kj,Uz,Z4,Qp,eC,Nu,Sx,qJ,Pv,W5,Ud,oC]
   first|done|exact Kq.k)):p:=h
theorem Ln {p:Prop} (h:p:=by
 first|(sym=>simp [Kt,Kc,Kd,Kb,Ku,Kw,Ko,X9,Uv,Po,Cx,Oj,kK,oB,Zbx,Zlp,Zlo,Ok,Qb,Qf,Z9,Qe,Qc,Qh,Qn,Q6,Je,Q4,Zu,Zx,Zw,Zz,Zy,Qd,Z1,Z0,Qi,Qk,Qs,Q8,Q5,Qy,Jh,Jg,Wb,Wn,Wx,W0,Wz,Gb,Ga,H3,H2,Hq,Hp,M4,M3,Nm,M0,Mz,Nz,My,Mx,Mw,D.setCell.eq_1,Zj,Y5,Zw7,wZ.eq_def,Ju,Jt,Wq,Ub,Wp,Xm,Js,J2,Sw,K0,Z7,Qo,Yt,Wo,Yf,J1,Kf,Vi,Ye,Z2,Qg,Yc,Y9,Jo,Z6,Y3,Fn,Kv,Yb,Z5,Qm,Yr,Wl,Ya,Xb,Wh,Xt,Kj,Uz,Z4,Qp,eC,Nu,Sx,qJ,Pv,W5,Ud,Zll,Zlk,Zlj,Zli,Zlh,Zlg,Zlf,Zle,Zld,Zlc,Zlb,Zla,Zk9,Zk8,Zk7,Zk6,Zk5,Zk4,Zk3,Zk2,Zk1,Zk0,Zkz,Zky,Zkx,Zkw,Zkv,Zku,Zkt,Zks,Zkr,Zkq,Zkp,Zko,Zkn,Zkm,Zkl,Zkk,Zkj,Zki,Zkh,Zkg,Zkf,Zke,Zkd,Zkc,Zkb,Zka,Zj9,Zj8,Zj7,Zj6,Zj5,Zj4,Zj3,Zj2,Zj1,Zj0,Zjz,Zjy,Zjx,Zjw,Zjv,Zju,Zjt,Zjs,Zjr,Zjq,Zjp,Zjo,Zjn,Zjm,Zjl,Zjk,Zjj,Zji,Zjh,Zjg,Zjf,Zje,Zjd,Zjc,Zjb,Zja,Zi9,Zi8,Zi7,Zi6,Zi5,Zi4,Zi3,Zi2,Zi1,Zi0,Ziz,Ziy,Zix,Ziw,Ziv,Ziu,Zit,Zis,Zir,Ziq,Zip,Zio,Zin,Zim,Zil,Zik,Zij,Zii,Zih,Zig,Zif,Zie,Zid,Zic,Zib,Zia,Zh9,Zh8,Zh7,Zh6,Zh5,Zh4,Zh3,Zh2,Zh1,Zh0,Zhz,Zhy,Zhx,Zhw,Zhv,Zhu,Zht,Zhs,Zhr,Zhq,Zhp,Zho,Zhn,Zhm,Zhl,Zhk,Zhj,Zhi,Zhh,Zhg,Zhf,Zhe,Zhd,Zhc,Zhb,Zha,Zg9,Zg8,Zg7,Zg6,Zg5,Zg4,Zg3,Zg2,Zg1,Zg0,Zgz,Zgy,Zgx,Zgw,Zgv,Zgu,Zgt,Zgs,Zgr,Zgq,Zgp,Zgo,Zgn,Zgm,Zgl,Zgk,Zgj,Zgi,Zgh,Zgg,Zgf,Zge,Zgd,Zgc,Zgb,Zga,Zf9,Zf8,Zf7,Zf6,Zf5,Zf4,Zf3,Zf2,Zf1,Zf0,Zfz,Zfy,Zfx,Zfw,Zfv,Zfu,Zft,Zfs,Zfr,Zfq,Zfp,Zfo,Zfn,Zfm,Zfl,Zfk,Zfj,Zfi,Zfh,Zfg,Zff,Zfe,Zfd,Zfc,Zfb,Zfa,Ze9,Ze8,Ze7,Ze6,Ze5,Ze4,Ze3,Ze2,Ze1,Ze0,Zez,Zey,Zex,Zew,Zev,Zeu,Zet,Zes,Zer,Zeq,Zep,Zeo,Zen,Zem,Zel,Zek,Zej,Zei,Zeh,Zeg,Zef,Zee,Zed,Zec,Zeb,Zea,Zd9,Zd8,Zd7,Zd6,Zd5,Zd4,Zd3,Zd2,Zd1,Zd0,Zdz,Zdy,Zdx,Zdw,Zdv,Zdu,Zdt,Zds,Zdr,Zdq,Zdp,Zdo,Zdn,Zdm,Zdl,Zdk,Zdj,Zdi,Zdh,Zdg,Zdf,Zde,Zdd,Zdc,Zdb,Zda,Zc9,Zc8,Zc7,Zc6,Zc5,Zc4,Zc3,Zc2,Zc1,Zc0,Zcz,Zcy,Zcx,Zcw,Zcv,Zcu,Zct,Zcs,Zcr,Zcq,Zcp,Zco,Zcn,Zcm,Zcl,Zck,Zcj,Zci,Zch,Zcg,Zcf,Zce,Zcd,Zcc,Zcb,Zca,Zb9,Zb8,Zb7,Zb6,Zb5,Zb4,Zb3,Zb2,Zb1,Zb0,Zbz,Zby,Of,Oe,Od,Oc,Ob,Oa,Le,Ld,Lb,La,B9,B8,B7,B6,B5,B4,B3,B1,B0,Bz,Bx,Bw,Bv,Bu,Bt,Bs,Br,Bq,Bp,Bo,Bn,Bm,Bl,Hn,Hm,Hl,Hk,Hj,Hi,Hh,Hg,Hf,He,Hd,Hc,Hb,Ha,G9,G8,G7,G6,G5,G4,G3,Gz,Gy,Gx,Gw,Gv,Gu,Gt,Gq,Gp,Gn];tactic =>
   try simp only [I4] at *
   try simp only [Zw8] at *
   try simp (maxSteps:=4000000) only [Qb,Qf,Z9,Qe,Qc,Qh,Qn,Q6,Je,Q4,Zu,Zx,Zw,Zz,Zy,Qd,Z1,Z0,Qi,Qk,Qs,Q8,Q5,Qy,Jh,Jg,Wb,Wn,Wx,W0,Wz,Gb,Ga,H3,H2,Hq,Hp,M4,M3,Nm,M0,Mz,Nz,My,Mx,Mw,D.setCell.eq_1,Zj,Y5,Zw7,wZ.eq_def,Ju,Jt,Wq,Ub,Wp,Xm,Js,J2,Sw,K0,Z7,Qo,Yt,Wo,Yf,J1,Kf,Vi,Ye,Z2,Qg,Yc,Y9,Jo,Z6,Y3,Fn,Kv,Yb,Z5,Qm,Yr,Wl,Ya,Xb,Wh,Xt,Kj,Uz,Z4,Qp,eC,Nu,Sx,qJ,Pv,W5,Ud,oC]
   repeat' first|with_reducible assumption|with_reducible apply Zb|intro _|omega|(rw [Xr];omega)
   all_goals first|with_reducible exact Jd|omega|rfl|trivial|exact Or.inr trivial|assumption|contradiction|exact Qw)|exact Zur):p:=h
structure KeJ:Prop
theorem KeJ.k (_:KeJ) (h:p:=by
 repeat' first|exact Z8|with_reducible apply Zb|intro _
 all_goals first|with_reducible exact Jd|omega|exact ⟨j+1,by exact Qw,by omega,Eq.mpr hQ hq,by omega⟩|exact ⟨j+1,by exact Qw,by omega,fun m hm=>by have h3:=(Eq.mpr hQ hq:∀ m,m<j+1→(labels.getD m []==t.text)=false) m hm;simpa using h3,by omega⟩|skip):p:=h
structure KeK:Prop
theorem KeK.k (_:KeK) (h:p:=by
 repeat' first|exact Z8|with_reducible apply Zb|intro _
 all_goals first|contradiction|with_reducible exact Jd|omega|assumption|exact ⟨(f,qa+1,qi,qs,L2,T2),by (have Km:=hL2;have Fg:=htyl;exact Qw),by simp only;omega,by simp only;omega,by simp only;omega,by simp only;omega,hok2,htn,hL2e,g9,by simp only;omega⟩|skip):p:=h
structure KeI:Prop
theorem KeI.k (_:KeI) (h:p:=by
 repeat' first|exact Z8|with_reducible apply Zb|intro _
 all_goals first|contradiction|with_reducible exact Jd|omega|assumption|skip
 refine Zm [12,73,74,75,76,77,78,79,80,81,82,83,84,85,86,87,88,89,90,91,92,93] (fun j:Nat=>[(17,.d (.int .i64 j))]) (fun j:Nat=>[]) (fun j:Nat=>j≤labels.length∧∀ m,m<j→(labels.getD m []==t.text)=false) (fun j:Nat=>labels.length-j) 0 ?_ ?_ ?_
 ·simp
 ·exact Qw
 rintro j ⟨hj,hno⟩;rcases Zo j labels.length with ⟨hjt,Je⟩|⟨hjt,Je⟩
 ·have Q4:=Zr ([]:List UInt8) hjt;have hany:=Zpd (x:=t.text) hjt;have hst:(labels.getD j []==t.text)=false→∀ m,m<j+1→(labels.getD m []==t.text)=false:=fun h=>K6 hno h;obtain ⟨Q,hQ⟩:=exq ((∀ m,m<j+1→(labels.getD m []==t.text)=false));rw [hQ] at hst;obtain ⟨y,hy⟩:=exq (labels.getD j []);rw [hy] at Q4 hany hst;cases Zu:(y==t.text) with
  | true =>
   rw [if_pos (hany Zu)] at g9;subst g9;exact Ln
  | false =>
   have hq:=hst Zu;have Kq:KeJ:=⟨⟩;exact Zln
 ·have hany:(labels.any fun y=>y==t.text)=false:=Su (p:=fun y=>y==t.text) [] fun m hm=>hno m (by omega)
  rw [if_neg (by rw [hany];simp)] at g9
  by_cases h50:labels.length=50
  ·rw [if_pos h50] at g9;have Zw:((labels.length:Int)==50)=true:=by rw [Zk];omega
   subst g9;exact Ln
  rw [if_neg h50] at g9;have Zw:((labels.length:Int)==50)=false:=by rw [Za];omega
  have Qd:=Zl3 (l:=labels) (x:=t.text);have hL2:(labels++[t.text]).length=labels.length+1:=by simp
  have hL2e:∀ x∈labels++[t.text],x.length≤9223372036854775807:=fun x hx=>by
   rcases List.mem_append.1 hx with h|h
   ·exact g8 x h
   ·rw [Zp] at h;subst h;exact htx
  obtain ⟨L2,hL2d⟩:=exq (labels++[t.text]);rw [hL2d] at g9 Qd hL2 hL2e;have Zy:(L2.map (enc:List UInt8→D)).length=labels.length+1:=by rw [Zl,hL2]
  have hss:=g6.sites;have hsi:=g6.site;simp only at hss hsi;have hc:=Nx l ⟨(k:Int)+1,si,ss,0⟩ [58];obtain ⟨N,Z1⟩:=exq (Vr l ⟨(k:Int)+1,si,ss,0⟩ [58]);rw [Z1] at hc g9;have hNok:St4Ok l N∧(N.e=0→(k:Int)+2≤N.at_):=by
   rcases hc with ⟨h1,_⟩|⟨_,h2⟩|⟨_,h2,h3⟩
   ·exact absurd rfl h1
   ·rw [h2];exact ⟨⟨hlen,by show 0≤(k:Int)+1;omega,by show (k:Int)+1≤l.length;omega,by show (ss.length:Int)≤1000000+((k:Int)+1);omega,by show 0≤si∧si≤1000000+((k:Int)+1);omega,htxt⟩,fun h=>absurd h (by show (2:Int)≠0;decide)⟩
   ·have:=Dv h2;simp only at this;rw [h3];exact ⟨⟨hlen,by show 0≤(k:Int)+1+1;omega,by show (k:Int)+1+1≤l.length;omega,by show (ss.length:Int)≤1000000+((k:Int)+1+1);omega,by show 0≤si∧si≤1000000+((k:Int)+1+1);omega,htxt⟩,fun _=>by show (k:Int)+2≤(k:Int)+1+1;omega⟩
  clear hc;obtain ⟨hNok,hNk⟩:=hNok;have hE:=hEw N hNok.lo hNok.hi;have Z0:=congrFun (congrFun Qb l) N;obtain ⟨⟨u,q⟩,hr⟩:=exq (w l N);rw [hr] at hE g9 Z0;simp only at g9;obtain ⟨na,ni,ns,ne⟩:=N;have hqok:q.e=0→St4Ok l q:=fun h=>eD hNok hE h;have hqlo:=hE.lo;have hqhi:=hE.hi;have hqk:=fun h=>hE.ok h;have hqe2:=hE.err;simp only at hqlo hqhi hqk hNk hqe2;obtain ⟨qa,qi,qs,qe⟩:=q;simp only at hqlo hqhi hqk hqok g9 hqe2;by_cases hqe:qe=0
  case neg =>
   rw [if_pos hqe] at g9;have Qi:(qe != 0)=true:=bne_iff_ne.2 hqe;subst g9;exact Ln
  have Qi:(qe != 0)=false:=by rw [hqe];rfl
  rw [if_neg (by simpa using hqe)] at g9
  obtain ⟨z1,z2,z3⟩:=hqk hqe;have hqok:=hqok hqe;have hne0:ne=0:=Classical.byContradiction fun h=>hqe2 h hqe;have hNk:=hNk hne0;subst hqe;have hty:qQ (types++[u])=qQ types+u.length:=by unfold qQ;simp
  have htn:∀ t∈types++[u],t≠[]:=fun x hx=>by
   rcases List.mem_append.1 hx with h|h
   ·exact g7 x h
   ·rw [Zp] at h;subst h;exact z3
  have htyl:(types++[u]).length=types.length+1:=by simp
  have Q8:(types.map Sl.mk).map (enc:Sl Node→D)++[enc (Sl.mk u)]=((types++[u]).map Sl.mk).map enc:=by rw [List.map_append,List.map_append];rfl
  obtain ⟨T2,hT2⟩:=exq (types++[u]);rw [hT2] at g9 hty htn htyl Q8;have Qs:((T2.map Sl.mk).map (enc:Sl Node→D)).length=types.length+1:=by rw [Zl,Zl,htyl]
  have Q5:=Zs3 (l:=T2);have hRok:Zt7 L2 T2:=⟨by omega,by omega,by omega,by omega,htn,hL2e⟩
  cases Qy:Tx l qa bt with
  | false =>
   rw [if_pos Qy] at g9;obtain ⟨N2,Jh⟩:=exq (Vr l ⟨qa,qi,qs,0⟩ fin);obtain ⟨⟨row,re⟩,Jg⟩:=exq (dJ 6 L2 T2);rw [Jh,Jg] at g9;obtain ⟨n2a,n2i,n2s,n2e⟩:=N2;subst g9;exact Ln
  | true =>
   rw [if_neg (by rw [Qy];simp)] at g9
   have hadv2:Yo ⟨qa,qi,qs,0⟩=⟨qa+1,qi,qs,0⟩:=rfl;rw [hadv2] at g9;have hlt:=Dv Qy;have hok2:St4Ok l ⟨qa+1,qi,qs,0⟩:=by
    obtain ⟨h1,h2,h3,h4,h5,h6⟩:=hqok;simp only at h2 h3 h4 h5;exact ⟨h1,by show 0≤qa+1;omega,by show qa+1≤_;omega,by show (qs.length:Int)≤1000000+(qa+1);omega,by show 0≤qi∧qi≤1000000+(qa+1);omega,h6⟩
   have Kq:KeK:=⟨⟩;exact Zln):p:=h
structure KeH:Prop
theorem KeH.k (_:KeH) (h:p:=by
 repeat' first|exact Z8|with_reducible apply Zb|intro _
 refine Zm [12,16,17,18,19,20,21,24,25,26,27,28,29,30,31,32,33,34,35,36,37,38,39,40,41,42,43,44,45,46,47,48,49,50,51,52,53,54,55,56,57,58,59,60,61,62,63,64,65,66,67,68,69,70,71,72,73,74,75,76,77,78,79,80,81,82,83,84,85,86,87,88,89,90,91,92,93,94,95,96,97,98,99,100,101,102,103,104,105,106,107,108,109,110,111,112,113,114,115,116,117,118,119,120,121,122,123,124,125,126,127,128,129,130,131,132,133,134,135,136,137,138,139,140,141,142,143,144,145,146,147,148,149,150,151,152,153,154,155] (fun p:Nat×Int×Int×List Site×List (List UInt8)×List (List Node)=>[(14,.sl 22 (p.2.2.2.2.1.map (enc:List UInt8→D)).length),(15,.sl 23 ((p.2.2.2.2.2.map Sl.mk).map (enc:Sl Node→D)).length)]) (fun p:Nat×Int×Int×List Site×List (List UInt8)×List (List Node)=>[(7,.box true [.d (.int .i64 p.2.1),.d (.int .i64 p.2.2.1),.d (.list 3 (p.2.2.2.1.map enc)),.d (.int .i64 0)]),(22,.row 1 (p.2.2.2.2.1.map enc) 0),(23,.row 1 ((p.2.2.2.2.2.map Sl.mk).map enc) 0)]) (fun p:Nat×Int×Int×List Site×List (List UInt8)×List (List Node)=>p.1+p.2.2.2.2.1.length=51∧p.2.2.2.2.1.length≤50∧p.2.2.2.2.1.length=p.2.2.2.2.2.length∧(qQ p.2.2.2.2.2:Int)≤p.2.1∧St4Ok l ⟨p.2.1,p.2.2.1,p.2.2.2.1,0⟩∧(∀ t∈p.2.2.2.2.2,t≠[])∧(∀ x∈p.2.2.2.2.1,x.length≤9223372036854775807)∧Tp w l 6 bt fin p.1 ⟨p.2.1,p.2.2.1,p.2.2.2.1,0⟩ p.2.2.2.2.1 p.2.2.2.2.2=R) (fun p:Nat×Int×Int×List Site×List (List UInt8)×List (List Node)=>51-p.2.2.2.2.1.length) (51,k0,si0,ss0,[],[]) ?_ ?_ ?_
 ·exact ⟨rfl,by simp,rfl,by show (0:Int)≤k0;omega,hS,by simp,by simp,hR2⟩
 ·exact Qw
 rintro ⟨f,k,si,ss,labels,types⟩ ⟨g1,g2,g3,g4,g6,g7,g8,g9⟩;simp only at g1 g2 g3 g4 g6 g7 g8 g9;have hlo:=g6.lo;have hhi:=g6.hi;simp only at hlo hhi;obtain ⟨k,rfl⟩:∃ n:Nat,k=n:=⟨k.toNat,by omega⟩
 obtain ⟨f,rfl⟩:∃ g,f=g+1:=⟨f-1,by omega⟩
 rw [Tp] at g9;simp only [Gm] at g9;have Z9:Uc ⟨(k:Int),si,ss,0⟩ (k:Int) 2=⟨k,si,ss,2⟩:=rfl;have Zx:Uc ⟨(k:Int),si,ss,0⟩ (k:Int) 7=⟨k,si,ss,7⟩:=rfl;have Zz:Uc ⟨(k:Int),si,ss,0⟩ (k:Int) 3=⟨k,si,ss,3⟩:=rfl;have hadv:Yo ⟨(k:Int),si,ss,0⟩=⟨(k:Int)+1,si,ss,0⟩:=rfl;rw [Z9,Zx,Zz,hadv] at g9;have hwt:wC 6=1:=by decide
 have hbd:oY l 6 ⟨(k:Int),si,ss,0⟩=(Xf l.length (k:Int)||(!((l.getD k Ue).kind==1)||!Wg (l.getD k Ue).text)):=by
  unfold oY;rw [hwt];simp only [Gm];simp
 have Q6:(labels.map (enc:List UInt8→D)).length=labels.length:=Zl ..;have Qk:((types.map Sl.mk).map (enc:Sl Node→D)).length=types.length:=by rw [Zl,Zl]
 have hkd7:(((6:Int)==7)=false):=by decide
 cases Qf:Xf l.length (k:Int) with
 | true =>
  rw [if_pos (by rw [hbd,Qf];rfl)] at g9
  subst g9;exact Ln
 | false =>
 have hkl:k<l.length:=by rw [←Bool.not_eq_true,Qx] at Qf;omega
 have Qc:=Zr Ue hkl;have htx:=htxt (l.getD k Ue) (by simp [hkl])
 obtain ⟨t,ht⟩:=exq (l.getD k Ue);rw [ht] at Qc htx g9 hbd;cases hkd:(t.kind==1) with
 | false =>
  have Qh:(t.kind != 1)=true:=by rw [bne,hkd];rfl
  rw [if_pos (by rw [hbd,Qf,hkd];rfl)] at g9
  subst g9;exact Ln
 | true =>
 have Qh:(t.kind != 1)=false:=by rw [bne,hkd];rfl
 cases Qn:Wg t.text with
 | false =>
  rw [if_pos (by rw [hbd,Qf,hkd,Qn];rfl)] at g9
  subst g9;exact Ln
 | true =>
 rw [if_neg (by rw [hbd,Qf,hkd,Qn];simp)] at g9
 have Kq:KeI:=⟨⟩;exact Zln):p:=h
structure KeN:Prop
theorem KeN.k (_:KeN) (h:p:=by
 repeat' first|exact Z8|with_reducible apply Zb|intro _
 all_goals first|with_reducible exact Jd|omega|exact ⟨j+1,by exact Qw,by omega,Eq.mpr hQ hq,by omega⟩|exact ⟨j+1,by exact Qw,by omega,fun m hm=>by have h3:=(Eq.mpr hQ hq:∀ m,m<j+1→(labels.getD m []==t.text)=false) m hm;simpa using h3,by omega⟩|skip):p:=h
structure KeO:Prop
theorem KeO.k (_:KeO) (h:p:=by
 repeat' first|exact Z8|with_reducible apply Zb|intro _
 all_goals first|contradiction|with_reducible exact Jd|omega|assumption|exact ⟨(f,qa+1,qi,qs,L2,T2),by (have Km:=hL2;have Fg:=htyl;exact Qw),by simp only;omega,by simp only;omega,by simp only;omega,by simp only;omega,hok2,htn,hL2e,g9,by simp only;omega⟩|skip):p:=h
structure KeM:Prop
theorem KeM.k (_:KeM) (h:p:=by
 repeat' first|exact Z8|with_reducible apply Zb|intro _
 all_goals first|contradiction|with_reducible exact Jd|omega|assumption|skip
 refine Zm [12,73,74,75,76,77,78,79,80,81,82,83,84,85,86,87,88,89,90,91,92,93] (fun j:Nat=>[(17,.d (.int .i64 j))]) (fun j:Nat=>[]) (fun j:Nat=>j≤labels.length∧∀ m,m<j→(labels.getD m []==t.text)=false) (fun j:Nat=>labels.length-j) 0 ?_ ?_ ?_
 ·simp
 ·exact Qw
 rintro j ⟨hj,hno⟩;rcases Zo j labels.length with ⟨hjt,Je⟩|⟨hjt,Je⟩
 ·have Q4:=Zr ([]:List UInt8) hjt;have hany:=Zpd (x:=t.text) hjt;have hst:(labels.getD j []==t.text)=false→∀ m,m<j+1→(labels.getD m []==t.text)=false:=fun h=>K6 hno h;obtain ⟨Q,hQ⟩:=exq ((∀ m,m<j+1→(labels.getD m []==t.text)=false));rw [hQ] at hst;obtain ⟨y,hy⟩:=exq (labels.getD j []);rw [hy] at Q4 hany hst;cases Zu:(y==t.text) with
  | true =>
   rw [if_pos (hany Zu)] at g9;subst g9;exact Ln
  | false =>
   have hq:=hst Zu;have Kq:KeN:=⟨⟩;exact Zln
 ·have hany:(labels.any fun y=>y==t.text)=false:=Su (p:=fun y=>y==t.text) [] fun m hm=>hno m (by omega)
  rw [if_neg (by rw [hany];simp)] at g9
  by_cases h50:labels.length=50
  ·rw [if_pos h50] at g9;have Zw:((labels.length:Int)==50)=true:=by rw [Zk];omega
   subst g9;exact Ln
  rw [if_neg h50] at g9;have Zw:((labels.length:Int)==50)=false:=by rw [Za];omega
  have Qd:=Zl3 (l:=labels) (x:=t.text);have hL2:(labels++[t.text]).length=labels.length+1:=by simp
  have hL2e:∀ x∈labels++[t.text],x.length≤9223372036854775807:=fun x hx=>by
   rcases List.mem_append.1 hx with h|h
   ·exact g8 x h
   ·rw [Zp] at h;subst h;exact htx
  obtain ⟨L2,hL2d⟩:=exq (labels++[t.text]);rw [hL2d] at g9 Qd hL2 hL2e;have Zy:(L2.map (enc:List UInt8→D)).length=labels.length+1:=by rw [Zl,hL2]
  have hss:=g6.sites;have hsi:=g6.site;simp only at hss hsi;have hc:=Nx l ⟨(k:Int)+1,si,ss,0⟩ [58];obtain ⟨N,Z1⟩:=exq (Vr l ⟨(k:Int)+1,si,ss,0⟩ [58]);rw [Z1] at hc g9;have hNok:St4Ok l N∧(N.e=0→(k:Int)+2≤N.at_):=by
   rcases hc with ⟨h1,_⟩|⟨_,h2⟩|⟨_,h2,h3⟩
   ·exact absurd rfl h1
   ·rw [h2];exact ⟨⟨hlen,by show 0≤(k:Int)+1;omega,by show (k:Int)+1≤l.length;omega,by show (ss.length:Int)≤1000000+((k:Int)+1);omega,by show 0≤si∧si≤1000000+((k:Int)+1);omega,htxt⟩,fun h=>absurd h (by show (2:Int)≠0;decide)⟩
   ·have:=Dv h2;simp only at this;rw [h3];exact ⟨⟨hlen,by show 0≤(k:Int)+1+1;omega,by show (k:Int)+1+1≤l.length;omega,by show (ss.length:Int)≤1000000+((k:Int)+1+1);omega,by show 0≤si∧si≤1000000+((k:Int)+1+1);omega,htxt⟩,fun _=>by show (k:Int)+2≤(k:Int)+1+1;omega⟩
  clear hc;obtain ⟨hNok,hNk⟩:=hNok;have hE:=hEw N hNok.lo hNok.hi;have Z0:=congrFun (congrFun Qb l) N;obtain ⟨⟨u,q⟩,hr⟩:=exq (w l N);rw [hr] at hE g9 Z0;simp only at g9;obtain ⟨na,ni,ns,ne⟩:=N;have hqok:q.e=0→St4Ok l q:=fun h=>eD hNok hE h;have hqlo:=hE.lo;have hqhi:=hE.hi;have hqk:=fun h=>hE.ok h;have hqe2:=hE.err;simp only at hqlo hqhi hqk hNk hqe2;obtain ⟨qa,qi,qs,qe⟩:=q;simp only at hqlo hqhi hqk hqok g9 hqe2;by_cases hqe:qe=0
  case neg =>
   rw [if_pos hqe] at g9;have Qi:(qe != 0)=true:=bne_iff_ne.2 hqe;subst g9;exact Ln
  have Qi:(qe != 0)=false:=by rw [hqe];rfl
  rw [if_neg (by simpa using hqe)] at g9
  obtain ⟨z1,z2,z3⟩:=hqk hqe;have hqok:=hqok hqe;have hne0:ne=0:=Classical.byContradiction fun h=>hqe2 h hqe;have hNk:=hNk hne0;subst hqe;have hty:qQ (types++[u])=qQ types+u.length:=by unfold qQ;simp
  have htn:∀ t∈types++[u],t≠[]:=fun x hx=>by
   rcases List.mem_append.1 hx with h|h
   ·exact g7 x h
   ·rw [Zp] at h;subst h;exact z3
  have htyl:(types++[u]).length=types.length+1:=by simp
  have Q8:(types.map Sl.mk).map (enc:Sl Node→D)++[enc (Sl.mk u)]=((types++[u]).map Sl.mk).map enc:=by rw [List.map_append,List.map_append];rfl
  obtain ⟨T2,hT2⟩:=exq (types++[u]);rw [hT2] at g9 hty htn htyl Q8;have Qs:((T2.map Sl.mk).map (enc:Sl Node→D)).length=types.length+1:=by rw [Zl,Zl,htyl]
  have Q5:=Zs3 (l:=T2);have hRok:Zt7 L2 T2:=⟨by omega,by omega,by omega,by omega,htn,hL2e⟩
  cases Qy:Tx l qa bt with
  | false =>
   rw [if_pos Qy] at g9;obtain ⟨N2,Jh⟩:=exq (Vr l ⟨qa,qi,qs,0⟩ fin);obtain ⟨⟨row,re⟩,Jg⟩:=exq (dJ 7 L2 T2);rw [Jh,Jg] at g9;obtain ⟨n2a,n2i,n2s,n2e⟩:=N2;subst g9;exact Ln
  | true =>
   rw [if_neg (by rw [Qy];simp)] at g9
   have hadv2:Yo ⟨qa,qi,qs,0⟩=⟨qa+1,qi,qs,0⟩:=rfl;rw [hadv2] at g9;have hlt:=Dv Qy;have hok2:St4Ok l ⟨qa+1,qi,qs,0⟩:=by
    obtain ⟨h1,h2,h3,h4,h5,h6⟩:=hqok;simp only at h2 h3 h4 h5;exact ⟨h1,by show 0≤qa+1;omega,by show qa+1≤_;omega,by show (qs.length:Int)≤1000000+(qa+1);omega,by show 0≤qi∧qi≤1000000+(qa+1);omega,h6⟩
   have Kq:KeO:=⟨⟩;exact Zln):p:=h
structure KeL:Prop
theorem KeL.k (_:KeL) (h:p:=by
 repeat' first|exact Z8|with_reducible apply Zb|intro _
 refine Zm [12,16,17,18,19,20,21,24,25,26,27,28,29,30,31,32,33,34,35,36,37,38,39,40,41,42,43,44,45,46,47,48,49,50,51,52,53,54,55,56,57,58,59,60,61,62,63,64,65,66,67,68,69,70,71,72,73,74,75,76,77,78,79,80,81,82,83,84,85,86,87,88,89,90,91,92,93,94,95,96,97,98,99,100,101,102,103,104,105,106,107,108,109,110,111,112,113,114,115,116,117,118,119,120,121,122,123,124,125,126,127,128,129,130,131,132,133,134,135,136,137,138,139,140,141,142,143,144,145,146,147,148,149,150,151,152,153,154,155] (fun p:Nat×Int×Int×List Site×List (List UInt8)×List (List Node)=>[(14,.sl 22 (p.2.2.2.2.1.map (enc:List UInt8→D)).length),(15,.sl 23 ((p.2.2.2.2.2.map Sl.mk).map (enc:Sl Node→D)).length)]) (fun p:Nat×Int×Int×List Site×List (List UInt8)×List (List Node)=>[(7,.box true [.d (.int .i64 p.2.1),.d (.int .i64 p.2.2.1),.d (.list 3 (p.2.2.2.1.map enc)),.d (.int .i64 0)]),(22,.row 1 (p.2.2.2.2.1.map enc) 0),(23,.row 1 ((p.2.2.2.2.2.map Sl.mk).map enc) 0)]) (fun p:Nat×Int×Int×List Site×List (List UInt8)×List (List Node)=>p.1+p.2.2.2.2.1.length=51∧p.2.2.2.2.1.length≤50∧p.2.2.2.2.1.length=p.2.2.2.2.2.length∧(qQ p.2.2.2.2.2:Int)≤p.2.1∧St4Ok l ⟨p.2.1,p.2.2.1,p.2.2.2.1,0⟩∧(∀ t∈p.2.2.2.2.2,t≠[])∧(∀ x∈p.2.2.2.2.1,x.length≤9223372036854775807)∧Tp w l 7 bt fin p.1 ⟨p.2.1,p.2.2.1,p.2.2.2.1,0⟩ p.2.2.2.2.1 p.2.2.2.2.2=R) (fun p:Nat×Int×Int×List Site×List (List UInt8)×List (List Node)=>51-p.2.2.2.2.1.length) (51,k0,si0,ss0,[],[]) ?_ ?_ ?_
 ·exact ⟨rfl,by simp,rfl,by show (0:Int)≤k0;omega,hS,by simp,by simp,hR2⟩
 ·exact Qw
 rintro ⟨f,k,si,ss,labels,types⟩ ⟨g1,g2,g3,g4,g6,g7,g8,g9⟩;simp only at g1 g2 g3 g4 g6 g7 g8 g9;have hlo:=g6.lo;have hhi:=g6.hi;simp only at hlo hhi;obtain ⟨k,rfl⟩:∃ n:Nat,k=n:=⟨k.toNat,by omega⟩
 obtain ⟨f,rfl⟩:∃ g,f=g+1:=⟨f-1,by omega⟩
 rw [Tp] at g9;simp only [Gm] at g9;have Z9:Uc ⟨(k:Int),si,ss,0⟩ (k:Int) 2=⟨k,si,ss,2⟩:=rfl;have Zx:Uc ⟨(k:Int),si,ss,0⟩ (k:Int) 7=⟨k,si,ss,7⟩:=rfl;have Zz:Uc ⟨(k:Int),si,ss,0⟩ (k:Int) 3=⟨k,si,ss,3⟩:=rfl;have hadv:Yo ⟨(k:Int),si,ss,0⟩=⟨(k:Int)+1,si,ss,0⟩:=rfl;rw [Z9,Zx,Zz,hadv] at g9;have hwt:wC 7=2:=by decide
 have hbd:oY l 7 ⟨(k:Int),si,ss,0⟩=(Xf l.length (k:Int)||(!((l.getD k Ue).kind==2)||!N8 (l.getD k Ue).text)):=by
  unfold oY;rw [hwt];simp only [Gm];simp
 have Q6:(labels.map (enc:List UInt8→D)).length=labels.length:=Zl ..;have Qk:((types.map Sl.mk).map (enc:Sl Node→D)).length=types.length:=by rw [Zl,Zl]
 have hkd7:(((7:Int)==7)=true):=by decide
 cases Qf:Xf l.length (k:Int) with
 | true =>
  rw [if_pos (by rw [hbd,Qf];rfl)] at g9
  subst g9;exact Ln
 | false =>
 have hkl:k<l.length:=by rw [←Bool.not_eq_true,Qx] at Qf;omega
 have Qc:=Zr Ue hkl;have htx:=htxt (l.getD k Ue) (by simp [hkl])
 obtain ⟨t,ht⟩:=exq (l.getD k Ue);rw [ht] at Qc htx g9 hbd;cases hkd:(t.kind==2) with
 | false =>
  have Qh:(t.kind != 2)=true:=by rw [bne,hkd];rfl
  rw [if_pos (by rw [hbd,Qf,hkd];rfl)] at g9
  subst g9;exact Ln
 | true =>
 have Qh:(t.kind != 2)=false:=by rw [bne,hkd];rfl
 cases Qn:N8 t.text with
 | false =>
  rw [if_pos (by rw [hbd,Qf,hkd,Qn];rfl)] at g9
  subst g9;exact Ln
 | true =>
 rw [if_neg (by rw [hbd,Qf,hkd,Qn];simp)] at g9
 have Kq:KeM:=⟨⟩;exact Zln):p:=h
theorem stepi_rows4 (n:Nat) (ih:IH4 n):Qa Tryz.prog (268,(L5 (n+1))):=by
 obtain ⟨Kx,Kt,Kc,Kd,Kb,Ku,Kw,K,X9,Uv,Po,Cx,Oj,kK,oB,_⟩:=Xe Zv Zn [] false (Q0 iB Ic.eq_def (Q0 Ex M5.eq_def (Q0 nM D2.eq_def (Q0 ih.whole (Sw n) (Q0 good_Row3 jM.eq_def (Q0 good_IsWord1 Eg (Q0 good_IsTag1 pO Xd)))))));have Ko:=(L5.eq_def (n+1));refine Xj K Tryz.func268 [.tmp 12,.cell 13 261] rfl 156 rfl (fun c hc cvs hpre=>?_);unfold L5 at hpre;obtain ⟨⟨l⟩,⟨k0,si0,ss0,e0'⟩,v,kind,bt,fin,rfl,⟨hS,he0,hk1⟩,hk,hv1,hv2,hn⟩:=Zov hpre;simp only at hS he0 hk1;subst he0;clear hpre;obtain ⟨w,Qb⟩:=exq (Xg (101-v).toNat);have hEw:∀ s:St4,0≤s.at_→s.at_≤l.length→Eats l s (w l s):=fun s h1 h2=>by rw [←Qb];exact Nl _ s (by omega) h1 h2
 have hlen:=hS.len;have htxt:=hS.txt;obtain ⟨R,Qe⟩:=exq (mT w l ⟨k0,si0,ss0,0⟩ kind bt fin);have hR2:=Qe;unfold mT at hR2;cases hc;refine Y4 9 ?_;rcases hk with rfl|rfl
 ·have Kq:KeH:=⟨⟩;exact Zln
 ·have Kq:KeL:=⟨⟩;exact Zln
theorem Qt:Wu []:=fun _ h=>by cases h
theorem lC {a b:List Node} (ha:Wu a) (hb:Wu b):Wu (a++b):=fun n hn=>by
 rcases List.mem_append.1 hn with h|h
 ·exact ha n h
 ·exact hb n h
theorem C1 {k n:Int}:Wu [⟨k,[],n⟩]:=fun m hm=>by rw [Zp] at hm;subst hm;simp
theorem Zvf {s:List UInt8} (hs:s.length≤9223372036854775807) {t:List Node} (h:Wu t):Wu (named s t):=by
 cases t with
 | nil=>exact h
 | cons a t =>
  intro n hn;rcases Zs.1 hn with rfl|hn
  ·exact hs
  ·exact h n (by simp [hn])
def uS (labels:List (List UInt8)):Prop:=∀ x∈labels,x.length≤9223372036854775807
theorem Zup {labels:List (List UInt8)} (h:uS labels) (k:Nat):(labels.getD k []).length≤9223372036854775807:=by
 rw [Zd];cases hk:labels[k]? with
 | none=>simp
 | some x=>exact h x (List.mem_of_getElem? hk)
theorem Zvg {types:List (List Node)} (h:∀ t∈types,Wu t) (k:Nat):Wu (types.getD k []):=by
 rw [Zd];cases hk:types[k]? with
 | none=>exact Qt
 | some x=>exact h x (List.mem_of_getElem? hk)
theorem rE {labels:List (List UInt8)} (hl:uS labels) {types:List (List Node)} (ht:∀ t∈types,Wu t):∀ (k:Nat) (done:List UInt8) (out:List Node),Wu out→Wu (fT labels types k done out).1
 | 0,_,_,h=>h
 | k+1,done,out,h=>by
  rw [fT];split
  ·exact Qt
  ·exact rE hl ht k _ _ (lC h (Zvf (Zup hl _) (Zvg ht _)))
theorem Zqr {k:Int} {labels:List (List UInt8)} (hl:uS labels) {types:List (List Node)} (ht:∀ t∈types,Wu t):Wu (dJ k labels types).1:=by
 unfold dJ;split
 ·exact Qt
 split
 ·exact Qt
 exact rE hl ht _ _ _ C1
theorem Zxs {l:List Tok} (h:∀ t∈l,t.text.length≤9223372036854775807) (i:Int):(tk l i).text.length≤9223372036854775807:=by
 unfold tk;rw [Zd];cases hk:l[i.toNat]? with
 | none=>simp [Ue]
 | some x=>exact h x (List.mem_of_getElem? hk)
theorem O3 {w:List Tok→St4→List Node×St4} {l:List Tok} (hl:∀ t∈l,t.text.length≤9223372036854775807) (hw:∀ s,Wu (w l s).1) {kind:Int} {bt fin:List UInt8}:∀ (f:Nat) (s:St4) (labels:List (List UInt8)) (types:List (List Node)),uS labels→(∀ t∈types,Wu t)→Wu (Tp w l kind bt fin f s labels types).1
 | 0,_,_,_,_,_=>Qt
 | f+1,s,labels,types,h1,h2=>by
  have h3:uS (labels++[(tk l s.at_).text]):=fun x hx=>by
   rcases List.mem_append.1 hx with h|h
   ·exact h1 x h
   ·rw [Zp] at h;subst h;exact Zxs hl _
  have h4:∀ t∈types++[(w l (Vr l (Yo s) [58])).1],Wu t:=fun x hx=>by
   rcases List.mem_append.1 hx with h|h
   ·exact h2 x h
   ·rw [Zp] at h;subst h;exact hw _
  rw [Tp];split
  ·exact Qt
  split
  ·exact Qt
  split
  ·exact Qt
  split
  ·exact Qt
  split
  ·exact Zqr h3 h4
  ·exact O3 hl hw f _ _ _ h3 h4
theorem Zm7 {w:List Tok→St4→List Node×St4} {l:List Tok} (hl:∀ t∈l,t.text.length≤9223372036854775807) (hw:∀ s,Wu (w l s).1) {d:Nat} {s:St4}:Wu (Pk w d l s).1:=by
 unfold Pk;split
 ·exact Qt
 split
 ·exact Qt
 split
 ·exact C1
 split
 ·exact C1
 split
 ·exact Qt
 split
 ·exact Qt
 split
 ·exact C1
 split
 ·exact O3 hl hw _ _ _ _ (fun _ h=>by cases h) (fun _ h=>by cases h)
 split
 ·exact O3 hl hw _ _ _ _ (fun _ h=>by cases h) (fun _ h=>by cases h)
 ·exact hw _
theorem T7 {l:List Tok} (hl:∀ t∈l,t.text.length≤9223372036854775807):∀ (d:Nat) (s:St4),Wu (Xg d l s).1
 | 0,_=>Qt
 | d+1,s=>by
  have hA:=Zm7 (w:=Xg d) hl (fun s=>T7 hl d s) (d:=d) (s:=s);rw [Xg];split
  ·exact hA
  split
  ·exact Qt
  ·have h5:Wu [(⟨5,[],0⟩:Node)]:=C1;exact lC h5 (lC hA (T7 hl d _))
theorem jD {a b d:Int}:(dec (.agg [.int .i64 a,.int .i64 b,.list 3 [],.int .i64 d]):St4)=⟨a,b,[],d⟩:=rfl
theorem iY {a b d:Int}:V9 St4 (.agg [.int .i64 a,.int .i64 b,.list 3 [],.int .i64 d])=True:=eq_true (Xq (St4.mk a b [] d))
theorem Qgv:∀ n,IH4 n
 | 0=>⟨X2 (Jp Tryz.func259 (by kernel_rfl) rfl) oR,X2 (Jp Tryz.func262 (by kernel_rfl) rfl) uZ,X2 (Jp Tryz.func268 (by kernel_rfl) rfl) tN⟩
 | n+1=>⟨Zad n (Qgv n),stepi_atom4 n (Qgv n),stepi_rows4 n (Qgv n)⟩
def aC:Con:=X7 400
theorem Za4:Qa Tryz.prog (259,aC):=(Qgv 400).whole
theorem Sk:aC=X7 400:=rfl
def Zbh {A B C E R S T U V:Type} [Enc A] [Enc B] [Enc C] [Enc E] [Enc R] [Enc S] [Enc T] [Enc U] [Enc V] (p:A→B→C→E→Prop) (f:A→B→C→E→R×S×T×U×V):Con:=⟨[false,false,false,false],[false,false,false,false,false],fun c=>match c with
 | [.d x,.d y,.d z,.d w]=>V9 A x∧V9 B y∧V9 C z∧V9 E w∧p (dec x) (dec y) (dec z) (dec w)
 | _=>False,fun c=>match c with
 | [.d x,.d y,.d z,.d w]=>.tup [.d (enc (f (dec x) (dec y) (dec z) (dec w)).1),.d (enc (f (dec x) (dec y) (dec z) (dec w)).2.1),.d (enc (f (dec x) (dec y) (dec z) (dec w)).2.2.1),.d (enc (f (dec x) (dec y) (dec z) (dec w)).2.2.2.1),.d (enc (f (dec x) (dec y) (dec z) (dec w)).2.2.2.2)]
 | _=>.d .nilp⟩
theorem Zzn {A B C E R S T U V:Type} [Enc A] [Enc B] [Enc C] [Enc E] [Enc R] [Enc S] [Enc T] [Enc U] [Enc V] {p:A→B→C→E→Prop} {f:A→B→C→E→R×S×T×U×V} {c:List CV} (h:(Zbh p f).pre c):∃ a b d e,c=[.d (enc a),.d (enc b),.d (enc d),.d (enc e)]∧p a b d e:=by
 unfold Zbh at h;simp only at h;split at h
 ·next x y z w=>exact ⟨dec x,dec y,dec z,dec w,by rw [←h.1,←h.2.1,←h.2.2.1,←h.2.2.2.1],h.2.2.2.2⟩
 ·exact h.elim
def Qfj (l:List Tok) (i site level:Int):Sl Node×Int×Sl Site×Int×Int:=(⟨(Vu l i site level).1⟩,(Vu l i site level).2.1,⟨(Vu l i site level).2.2.1⟩,(Vu l i site level).2.2.2.1,(Vu l i site level).2.2.2.2)
def cI:Con:=Zbh (fun (l:Sl Tok) (i site v:Int)=>(l.l.length≤100000∧∀ t∈l.l,t.text.length≤9223372036854775807)∧0≤i∧i≤l.l.length∧1≤site∧site≤1000000∧1≤v∧v≤100) (fun l i site v=>Qfj l.l i site v)
theorem Zre:Qa Tryz.prog (249,cI):=by
 obtain ⟨Kx,Kt,Kc,Kd,Kb,Ku,Kw,K,X9,Uv,_⟩:=Xe Zv Zn [] false (Q0 Za4 aC.eq_def (Q0 good_Right3 M9.eq_def Xd));have Ko:=cI.eq_def;refine Xj K Tryz.func249 [.tmp 8,.tmp 9,.tmp 10,.tmp 11,.tmp 12] rfl 60 rfl (fun c hc cvs hpre=>?_);unfold cI at hpre;obtain ⟨⟨l⟩,i,site,v,rfl,⟨hl,htx⟩,hi0,hi1,hs0,hs1,hv1,hv2⟩:=Zzn hpre;simp only at hl htx hi1;clear hpre;have hOk:St4Ok l ⟨i,site,[],0⟩:=⟨hl,hi0,hi1,by show ((0:Nat):Int)≤1000000+i;omega,by show 0≤site∧site≤1000000+i;omega,htx⟩
 obtain ⟨⟨R1,R2,R3,R4,R5⟩,hR⟩:=exq (Vu l i site v);have hR2:=hR;unfold Vu at hR2;rw [if_neg (by omega)] at hR2
 have Qe:X4 (l.length:Int) i=false:=by rw [Qv];omega
 have Qb:X4 i 0=false:=by rw [Qv];omega
 have Qf:X4 site 1=false:=by rw [Qv];omega
 have Z9:X4 v 1=false:=by rw [Qv];omega
 simp only [if_neg (show ¬ (l.length:Int)<i by omega)] at hR2
 have hE:=Nl (l:=l) (101-v).toNat ⟨i,site,[],0⟩ (by omega) hOk.lo hOk.hi
 have hNm:=T7 htx (101-v).toNat ⟨i,site,[],0⟩;obtain ⟨⟨t,q⟩,Qc⟩:=exq (Xg (101-v).toNat l ⟨i,site,[],0⟩);rw [Qc] at hR2 hE hNm;have hEl:=hE.len;obtain ⟨qa,qi,qs,qe⟩:=q;simp only at hR2 hEl hNm;have htl:t.length≤9223372036854775807:=by omega
 have Qn:Qfj l i site v=(⟨R1⟩,R2,⟨R3⟩,R4,R5):=by unfold Qfj;rw [hR]
 cases hc;refine Y4 3 ?_;by_cases he:qe=0
 case neg =>
  rw [if_pos he] at hR2;have Qh:(qe != 0)=true:=bne_iff_ne.2 he;simp only [Ze] at hR2;obtain ⟨rfl,rfl,rfl,rfl,rfl⟩:=hR2;have Q4:=@Zbh.eq_def;have Zu:=@Sk;have Zx:=@jD;have Zw:=@iY;exact Ln
 have Qh:(qe != 0)=false:=by rw [he];rfl
 rw [if_neg (by simpa using he)] at hR2
 by_cases h1:10000<t.length
 ·rw [if_pos h1] at hR2;have Q6:X4 10000 (t.length:Int)=true:=by rw [Jf];omega
  simp only [Ze] at hR2;obtain ⟨rfl,rfl,rfl,rfl,rfl⟩:=hR2;have Q4:=@Zbh.eq_def;have Zu:=@Sk;have Zx:=@jD;have Zw:=@iY;exact Ln
 rw [if_neg h1] at hR2;have Q6:X4 10000 (t.length:Int)=false:=by rw [Qv];omega
 cases Je:Xz t with
 | false =>
  rw [if_pos Je] at hR2;simp only [Ze] at hR2;obtain ⟨rfl,rfl,rfl,rfl,rfl⟩:=hR2;have Q4:=@Zbh.eq_def;have Zu:=@Sk;have Zx:=@jD;have Zw:=@iY;exact Ln
 | true =>
  rw [if_neg (by rw [Je];simp)] at hR2
  simp only [Ze] at hR2;obtain ⟨rfl,rfl,rfl,rfl,rfl⟩:=hR2;have Q4:=@Zbh.eq_def;have Zu:=@Sk;have Zx:=@jD;have Zw:=@iY;exact Ln
structure St6 where
 at_:Int
 sites:List Site
 e:Int
 deriving DecidableEq
instance encSt6:Enc St6:=⟨fun a=>.agg [.int .i64 a.at_,.list 3 (a.sites.map enc),.int .i64 a.e],fun x=>match x with
 | .agg [a,c,d]=>⟨a.i,c.l.map dec,d.i⟩
 | _=>⟨0,[],0⟩,fun a=>by
  have h:∀ l:List Site,(l.map (enc:Site→D)).map dec=l:=fun l=>Jq;cases a;simp [D.l,D.i,h]⟩
theorem Qr {a d:Int} {c:List Site}:(enc (St6.mk a c d):D)=.agg [.int .i64 a,.list 3 (c.map enc),.int .i64 d]:=rfl
theorem Jb {a d:Int} {c:List Site}:(dec (.agg [.int .i64 a,.list 3 (c.map enc),.int .i64 d]):St6)=⟨a,c,d⟩:=Enc.dec_enc (St6.mk a c d)
theorem Ja {a d:Int} {c:List Site}:V9 St6 (.agg [.int .i64 a,.list 3 (c.map enc),.int .i64 d])=True:=eq_true (Xq (St6.mk a c d))
def J0 (s:St6) (e:Int):St6:=if s.e=0 then ⟨s.at_,s.sites,e⟩ else s
def Rh (l:List Tok) (s:St6) (k:Int) (x:List UInt8):Bool:=(s.e==0)&&(X4 s.at_ l.length&&((tk l s.at_).kind==k&&(tk l s.at_).text==x))
def Xu (s:St6):St6:=⟨s.at_+1,s.sites,s.e⟩
def Qq (l:List Tok) (s:St6) (k:Int) (x:List UInt8):St6:=if s.e≠0 then s else if Rh l s k x=false then J0 s 2 else Xu s
def Jk (l:List Tok) (s:St6) (k:Int):List UInt8×St6:=if s.e≠0 then ([],s) else if (l.length:Int)≤s.at_∨(tk l s.at_).kind≠k then ([],J0 s 2) else ((tk l s.at_).text,Xu s)
def Dc (l:List Tok) (s:St6) (v:Int):List Node×St6 :=
 if s.e≠0 then ([],s)
 else if (Vu l s.at_ (s.sites.length+1) v).2.2.2.2≠0 then ([],⟨(Vu l s.at_ (s.sites.length+1) v).2.2.2.1,s.sites,(Vu l s.at_ (s.sites.length+1) v).2.2.2.2⟩)
 else ((Vu l s.at_ (s.sites.length+1) v).1,⟨(Vu l s.at_ (s.sites.length+1) v).2.1,s.sites++(Vu l s.at_ (s.sites.length+1) v).2.2.1,0⟩)
def Uy (l:List Tok) (s:St6) (v:Int):List Node×St6 :=
 if s.e≠0 then ([],s)
 else if Rh l s 5 [58]=true then Dc l (Xu s) v
 else ([⟨0,[],s.sites.length+1⟩],⟨s.at_,s.sites++[⟨(tk l (s.at_-1)).to,(tk l (s.at_-1)).to,true⟩],0⟩)
def in6 (l:List (List UInt8)) (x:List UInt8):Bool:=l.any fun y=>y==x
def Qd2 (s:List UInt8):Prop:=s.length≤18∧∀ c∈s,Wm c=true
structure St6Ok (l:List Tok) (s:St6):Prop where
 len:l.length≤100000
 lo:0≤s.at_
 hi:s.at_≤l.length
 sites:s.sites.length≤900000
 txt:∀ t∈l,t.text.length≤1000000
 fig:∀ t∈l,t.kind=3→Qd2 t.text
theorem St6Ok.long {l:List Tok} {s:St6} (h:St6Ok l s):∀ t∈l,t.text.length≤9223372036854775807:=fun t ht=>Nat.le_trans (h.txt t ht) (by omega)
def V7:Con:=Xc (fun (_:St6) (_:Int)=>True) (fun s e=>J0 s e)
theorem Sv:type_of% @V7.eq_def:=@V7.eq_def
theorem Kk:Qa Tryz.prog (147,V7):=by
 obtain ⟨Kx,Kt,Kc,Kd,Kb,Ku,Kw,K,_⟩:=Xe Zv Zn [] false Xd;have Ko:=Sv;refine Xj K Tryz.func147 [.cell 4 137] rfl 11 rfl (fun c hc cvs hpre=>?_);unfold V7 at hpre;obtain ⟨⟨k,ss,e⟩,x,rfl,-⟩:=Ql hpre;clear hpre;obtain ⟨R,Qf⟩:=exq (J0 ⟨k,ss,e⟩ x);have hR2:=Qf;unfold J0 at hR2;simp only at hR2;cases hc;by_cases he:e=0
 ·rw [if_pos he] at hR2;have Qb:(e==0)=true:=Zk.2 he;subst hR2;have Z9:=@Qr;have Qe:=@Ja;have Qc:=@Jb;exact Zur
 ·rw [if_neg he] at hR2;have Qb:(e==0)=false:=Za.2 he;subst hR2;have Z9:=@Qr;have Qe:=@Ja;have Qc:=@Jb;exact Zur
def P7:Con:=vK (fun (l:Sl Tok) (s:St6) (_:Int) (_:List UInt8)=>l.l.length≤1000000∧0≤s.at_) (fun l s k x=>Rh l.l s k x)
theorem dY:type_of% @P7.eq_def:=@P7.eq_def
theorem S7:Qa Tryz.prog (144,P7):=by
 obtain ⟨Kx,Kt,Kc,Kd,Kb,Ku,Kw,K,_⟩:=Xe Zv Zn [] false Xd;have Ko:=dY;refine Xj K Tryz.func144 [.tmp 8] rfl 39 rfl (fun c hc cvs hpre=>?_);unfold P7 at hpre;obtain ⟨⟨l⟩,⟨i,ss,e⟩,kd,x,rfl,hl,hi⟩:=Zbi hpre;simp only at hl hi;obtain ⟨i,rfl⟩:∃ n:Nat,i=n:=⟨i.toNat,by omega⟩
 clear hpre;obtain ⟨R,Qf⟩:=exq (Rh l ⟨i,ss,e⟩ kd x);have Qh:=Qf;unfold Rh at Qh;simp only [Gm] at Qh;cases hc;refine Y4 2 ?_;cases Qb:(e==0) with
 | false =>
  rw [Qb,Bool.false_and] at Qh;subst Qh;have Qn:=@Qr;have Q6:=@Ja;have Je:=@Jb;exact Zur
 | true =>
 rw [Qb,Bool.true_and] at Qh;rcases Zo i l.length with ⟨hlt,Z9⟩|⟨hlt,Z9⟩
 ·have Qe:=Zr Ue hlt;obtain ⟨t,ht⟩:=exq (l.getD i Ue);rw [ht] at Qe Qh;rw [Z9,Bool.true_and] at Qh;obtain ⟨b1,Qc⟩:=exq ((t.kind==kd));rw [Qc] at Qh;cases b1 with
  | false =>
   rw [Bool.false_and] at Qh;subst Qh;have Qn:=@Qr;have Q6:=@Ja;have Je:=@Jb;exact Ln
  | true =>
   rw [Bool.true_and] at Qh;have Qn:=@Qr;have Q6:=@Ja;have Je:=@Jb;exact Ln
 ·rw [Z9,Bool.false_and] at Qh;subst Qh;have Qn:=@Qr;have Q6:=@Ja;have Je:=@Jb;exact Zur
theorem Ap (l:List Tok) (s:St6) (k:Int) (x:List UInt8):(s.e≠0∧Qq l s k x=s)∨(s.e=0∧Rh l s k x=false∧Qq l s k x=⟨s.at_,s.sites,2⟩)∨(s.e=0∧Rh l s k x=true∧Qq l s k x=⟨s.at_+1,s.sites,0⟩):=by
 unfold Qq;by_cases h:s.e=0
 ·rw [if_neg (by simpa using h)]
  cases hi:Rh l s k x with
  | false=>exact .inr (.inl ⟨h,rfl,by rw [if_pos rfl];unfold J0;rw [if_pos h]⟩)
  | true=>exact .inr (.inr ⟨h,rfl,by rw [if_neg (by simp)];unfold Xu;rw [h]⟩)
 ·exact .inl ⟨h,if_pos h⟩
def D1:Con:=vK (fun (l:Sl Tok) (s:St6) (_:Int) (_:List UInt8)=>l.l.length≤1000000∧0≤s.at_∧s.at_≤2000000) (fun l s k x=>Qq l.l s k x)
theorem nL:Qa Tryz.prog (184,D1):=by
 obtain ⟨Kx,Kt,Kc,Kd,Kb,Ku,Kw,K,X9,Uv,_⟩:=Xe Zv Zn [] false (Q0 S7 dY (Q0 Kk Sv Xd));have Ko:=D1.eq_def;refine Xj K Tryz.func184 [.cell 8 137] rfl 26 rfl (fun c hc cvs hpre=>?_);unfold D1 at hpre;obtain ⟨⟨l⟩,⟨i,ss,e⟩,kd,x,rfl,hl,hs0,hs1⟩:=Zbi hpre;try simp only at hl hs0 hs1
 clear hpre;obtain ⟨⟨Ra,Rs,Re⟩,Qf⟩:=exq (Qq l ⟨i,ss,e⟩ kd x);have hcz:=Ap l ⟨i,ss,e⟩ kd x;rw [Qf] at hcz;simp only [St6.mk.injEq] at hcz;cases hc;rcases hcz with ⟨h1,rfl,rfl,rfl⟩|⟨rfl,Z9,rfl,rfl,rfl⟩|⟨rfl,Z9,rfl,rfl,rfl⟩
 ·have Qb:(Re != 0)=true:=bne_iff_ne.2 h1;have Qc:=@Qr;have Qh:=@Ja;have Qn:=@Jb;exact Zur
 ·have Qe:J0 ⟨Ra,Rs,0⟩ 2=⟨Ra,Rs,2⟩:=rfl;have Qc:=@Qr;have Qh:=@Ja;have Qn:=@Jb;exact Ln
 ·have Qc:=@Qr;have Qh:=@Ja;have Qn:=@Jb;exact Ln
def Uk:Con:=Vp (fun (l:Sl Tok) (s:St6) (_:List UInt8)=>l.l.length≤1000000∧0≤s.at_∧s.at_≤2000000) (fun l s x=>Qq l.l s 5 x)
theorem Pp:type_of% @Uk.eq_def:=@Uk.eq_def
theorem Ky:Qa Tryz.prog (148,Uk):=by
 obtain ⟨Kx,Kt,Kc,Kd,Kb,Ku,Kw,K,X9,_⟩:=Xe Zv Zn [] false (Q0 nL D1.eq_def Xd);have Ko:=Pp;refine Xj K Tryz.func148 [.cell 6 137] rfl 11 rfl (fun c hc cvs hpre=>?_);unfold Uk at hpre;obtain ⟨⟨l⟩,⟨i,ss,e⟩,x,rfl,hl,hs0,hs1⟩:=Vb hpre;try simp only at hl hs0 hs1
 clear hpre;obtain ⟨⟨Ra,Rs,Re⟩,Qb⟩:=exq (Qq l ⟨i,ss,e⟩ 5 x);cases hc;have Qf:=@Qr;have Z9:=@Ja;have Qe:=@Jb;exact Ln
def D5:Con:=Vp (fun (l:Sl Tok) (s:St6) (_:List UInt8)=>l.l.length≤1000000∧0≤s.at_∧s.at_≤2000000) (fun l s x=>Qq l.l s 6 x)
theorem bD:Qa Tryz.prog (252,D5):=by
 obtain ⟨Kx,Kt,Kc,Kd,Kb,Ku,Kw,K,X9,_⟩:=Xe Zv Zn [] false (Q0 nL D1.eq_def Xd);have Ko:=D5.eq_def;refine Xj K Tryz.func252 [.cell 6 137] rfl 11 rfl (fun c hc cvs hpre=>?_);unfold D5 at hpre;obtain ⟨⟨l⟩,⟨i,ss,e⟩,x,rfl,hl,hs0,hs1⟩:=Vb hpre;try simp only at hl hs0 hs1
 clear hpre;obtain ⟨⟨Ra,Rs,Re⟩,Qb⟩:=exq (Qq l ⟨i,ss,e⟩ 6 x);cases hc;have Qf:=@Qr;have Z9:=@Ja;have Qe:=@Jb;exact Ln
theorem Kn (l:List Tok) (s:St6) (k:Int):(s.e≠0∧Jk l s k=([],s))∨(s.e=0∧(l.length:Int)≤s.at_∧Jk l s k=([],⟨s.at_,s.sites,2⟩))∨(s.e=0∧s.at_<l.length∧(tk l s.at_).kind≠k∧Jk l s k=([],⟨s.at_,s.sites,2⟩)) ∨
  (s.e=0∧s.at_<l.length∧(tk l s.at_).kind=k∧Jk l s k=((tk l s.at_).text,⟨s.at_+1,s.sites,0⟩)):=by
 unfold Jk;by_cases h:s.e=0
 ·rw [if_neg (by simpa using h)]
  by_cases h1:(l.length:Int)≤s.at_
  ·exact .inr (.inl ⟨h,h1,by rw [if_pos (.inl h1)];unfold J0;rw [if_pos h]⟩)
  ·by_cases h2:(tk l s.at_).kind=k
   ·exact .inr (.inr (.inr ⟨h,by omega,h2,by rw [if_neg (by simp only [h2];simp;omega)];unfold Xu;rw [h]⟩))
   ·exact .inr (.inr (.inl ⟨h,by omega,h2,by rw [if_pos (.inr h2)];unfold J0;rw [if_pos h]⟩))
 ·exact .inl ⟨h,if_pos h⟩
def Vm:Con:=Y1 (fun (l:Sl Tok) (s:St6) (_:Int)=>l.l.length≤1000000∧0≤s.at_∧s.at_≤2000000) (fun l s k=>Jk l.l s k)
theorem N7:type_of% @Vm.eq_def:=@Vm.eq_def
theorem Us:Qa Tryz.prog (145,Vm):=by
 obtain ⟨Kx,Kt,Kc,Kd,Kb,Ku,Kw,K,X9,_⟩:=Xe Zv Zn [] false (Q0 Kk Sv Xd);have Ko:=N7;refine Xj K Tryz.func145 [.tmp 6,.cell 7 137] rfl 41 rfl (fun c hc cvs hpre=>?_);unfold Vm at hpre;obtain ⟨⟨l⟩,⟨i,ss,e⟩,kd,rfl,hl,hs0,hs1⟩:=N3 hpre;simp only at hl hs0 hs1;clear hpre;obtain ⟨i,rfl⟩:∃ n:Nat,i=n:=⟨i.toNat,by omega⟩
 obtain ⟨⟨x,⟨Ra,Rs,Re⟩⟩,Qf⟩:=exq (Jk l ⟨i,ss,e⟩ kd);have hcz:=Kn l ⟨i,ss,e⟩ kd;rw [Qf] at hcz;simp only [St6.mk.injEq,Ze,Gm] at hcz;have Qe:J0 ⟨(i:Int),ss,0⟩ 2=⟨i,ss,2⟩:=rfl;have Qn:(i:Int)+1-1=(i:Int):=by omega
 cases hc;refine Y4 2 ?_;rcases hcz with ⟨h1,rfl,rfl,rfl,rfl⟩|⟨rfl,h2,rfl,rfl,rfl,rfl⟩|⟨rfl,h2,h3,rfl,rfl,rfl,rfl⟩|⟨rfl,h2,h3,rfl,rfl,rfl,rfl⟩
 ·have Qb:(Re != 0)=true:=bne_iff_ne.2 h1;have Je:=@Qr;have Q4:=@Ja;have Zu:=@Jb;exact Ln
 ·have Z9:Xf (l.length:Int) (i:Int)=true:=by rw [Qx];exact h2
  have Je:=@Qr;have Q4:=@Ja;have Zu:=@Jb;exact Zur
 ·have Z9:Xf (l.length:Int) (i:Int)=false:=by rw [←Bool.not_eq_true,Qx];omega
  have Qc:=Zr Ue (show i<l.length by omega)
  obtain ⟨t,Q6⟩:=exq (l.getD i Ue);rw [Q6] at Qc h3;have Qh:(t.kind != kd)=true:=bne_iff_ne.2 h3;have Je:=@Qr;have Q4:=@Ja;have Zu:=@Jb;exact Ln
 ·have Z9:Xf (l.length:Int) (i:Int)=false:=by rw [←Bool.not_eq_true,Qx];omega
  have Qc:=Zr Ue (show i<l.length by omega)
  obtain ⟨t,Q6⟩:=exq (l.getD i Ue);rw [Q6] at Qc h3 Qf;have Qh:(t.kind != kd)=false:=by rw [bne_eq_false_iff_eq];exact h3
  have Je:=@Qr;have Q4:=@Ja;have Zu:=@Jb;exact Ln
def cJ:Con:=Xc (fun (l:Sl (List UInt8)) (_:List UInt8)=>l.l.length≤1000000) (fun l x=>in6 l.l x)
structure KeQ:Prop
theorem KeQ.k (_:KeQ) (h:p:=by
 repeat' first|exact Z8|with_reducible apply Zb|intro _
 all_goals first|with_reducible exact Jd|omega|exact ⟨k+1,by exact Qw,by omega,Eq.mpr hQ h2,by omega⟩|exact ⟨k+1,by exact Qw,by omega,fun m hm=>by have h3:=(Eq.mpr hQ h2:∀ j,j<k+1→(l.getD j []==s)=false) m hm;simpa using h3,by omega⟩|skip):p:=h
structure KeP:Prop
theorem KeP.k (_:KeP) (h:p:=by
 repeat' first|exact Z8|with_reducible apply Zb|intro _
 refine Zm [4,6,7,8,9,10,11,12,13,14,15,16,17] (fun k:Nat=>[(5,.d (.int .i64 k))]) (fun k:Nat=>[]) (fun k:Nat=>k≤l.length∧∀ j,j<k→(l.getD j []==s)=false) (fun k:Nat=>l.length-k) 0 ?_ ?_ ?_
 ·simp
 ·exact Qw
 rintro k ⟨hk,hno⟩;rcases Zo k l.length with ⟨hlt,Qb⟩|⟨hlt,Qb⟩
 ·have Qf:=Zr ([]:List UInt8) hlt;have hst:(l.getD k []==s)=false→∀ j,j<k+1→(l.getD j []==s)=false:=fun h=>K6 hno h;have hit:(l.getD k []==s)=true→R=true:=fun h=>by rw [←hR2];exact Ix (p:=fun o=>o==s) [] k hlt h
  obtain ⟨Q,hQ⟩:=exq ((∀ j,j<k+1→(l.getD j []==s)=false));rw [hQ] at hst;obtain ⟨y,hy⟩:=exq (l.getD k []);rw [hy] at Qf hst hit;cases Z9:(y==s) with
  | true =>
   have hr:=hit Z9;subst hr;exact Ln
  | false =>
   have h2:=hst Z9;have Kq:KeQ:=⟨⟩;exact Zln
 ·have hr:R=false:=by rw [←hR2];exact Su (p:=fun o=>o==s) [] fun j hj=>hno j (by omega)
  subst hr;exact Zur):p:=h
theorem good_in6:Qa Tryz.prog (146,cJ):=by
 obtain ⟨Kx,Kt,Kc,Kd,Kb,Ku,Kw,K,_⟩:=Xe Zv Zn [] false Xd;have Ko:=cJ.eq_def;refine Xj K Tryz.func146 [.tmp 4] rfl 18 rfl (fun c hc cvs hpre=>?_);unfold cJ at hpre;obtain ⟨⟨l⟩,s,rfl,hl⟩:=Ql hpre;simp only at hl;clear hpre;obtain ⟨R,Qe⟩:=exq (in6 l s);have hR2:=Qe;unfold in6 at hR2;cases hc;have Kq:KeP:=⟨⟩;exact Zln
theorem Qc8 {l:List Tok} {i site v:Int} {t:List Node} {a:Int} {ss:List Site} {b e:Int} (h:Vu l i site v=(t,a,ss,b,e)):Qfj l i site v=(⟨t⟩,a,⟨ss⟩,b,e):=by unfold Qfj;rw [h]
theorem nQ {l:List Tok} (hl:l.length≤100000) (htx:∀ t∈l,t.text.length≤9223372036854775807) {i site v:Int} (h0:0≤i) (h1:i≤l.length) (hs:1≤site) (hv1:1≤v) (hv2:v≤100) :
  0≤(Vu l i site v).2.2.2.1∧(Vu l i site v).2.2.2.1≤l.length∧((Vu l i site v).2.2.2.2=0→i+1≤(Vu l i site v).2.1∧(Vu l i site v).2.1≤l.length∧((Vu l i site v).2.2.1.length:Int)≤(Vu l i site v).2.1-i∧Xz (Vu l i site v).1=true∧Wu (Vu l i site v).1∧((Vu l i site v).1.length:Int)≤(Vu l i site v).2.1-i ∧
   ∀ z,Jw (Yh z) (Vu l i site v).1=if site≤z∧z<site+(Vu l i site v).2.2.1.length then 1 else 0):=by
 have hE:=Nl (l:=l) (101-v).toNat ⟨i,site,[],0⟩ (by omega) h0 h1
 have hN:=T7 htx (101-v).toNat ⟨i,site,[],0⟩;unfold Vu;rw [if_neg (by omega)]
 simp only [if_neg (show ¬ (l.length:Int)<i by omega)]
 obtain ⟨⟨t,q⟩,hw⟩:=exq (Xg (101-v).toNat l ⟨i,site,[],0⟩);rw [hw] at hE hN ⊢;obtain ⟨qa,qi,qs,qe⟩:=q;have hlo:=hE.lo;have hhi:=hE.hi;simp only at hlo hhi ⊢;by_cases he:qe=0
 case neg=>rw [if_pos he];exact ⟨hlo,hhi,fun h=>absurd h he⟩
 rw [if_neg (by simpa using he)]
 by_cases hb:10000<t.length
 ·rw [if_pos hb];exact ⟨h0,h1,fun h=>absurd h (show ¬ (3:Int)=0 by decide)⟩
 rw [if_neg hb];cases hr:Xz t with
 | false=>rw [if_pos rfl];exact ⟨h0,h1,fun h=>absurd h (show ¬ (4:Int)=0 by decide)⟩
 | true =>
  rw [if_neg (by simp)]
  obtain ⟨k1,k2,k3⟩:=hE.ok he;obtain ⟨g1,g2,g3⟩:=hE.sites he;have g4:=hE.cnt he;simp only at k1 k2 g1 g2 g3 g4;have hp:1≤t.length:=by
   cases t with
   | nil=>exact absurd rfl k3
   | cons a t=>simp
  refine ⟨by show (0:Int)≤0;omega,by show (0:Int)≤l.length;omega,fun _=>⟨by show i+1≤qa;omega,k2,by show (qs.length:Int)≤qa-i;simp only [List.length_nil] at g2;omega,hr,hN,k1,fun z=>?_⟩⟩
  show Jw (Yh z) t=if site≤z∧z<site+(qs.length:Int) then 1 else 0
  rw [g4];simp only [List.length_nil] at g3;have:qi=site+(qs.length:Int):=by omega
  rw [this]
def Dy:Con:=Y1 (fun (l:Sl Tok) (s:St6) (v:Int)=>St6Ok l.l s∧(s.e=0→1≤v∧v≤100)) (fun l s v=>((⟨(Dc l.l s v).1⟩,(Dc l.l s v).2):Sl Node×St6))
structure KeR:Prop
theorem KeR.k (_:KeR) (h:p:=by
 repeat' first|exact Z8|with_reducible apply Zb|intro _
 all_goals first|with_reducible exact Jd|omega|exact ⟨hlen,htx⟩|exact htx|rfl|trivial|skip):p:=h
structure KeS:Prop
theorem KeS.k (_:KeS) (h:p:=by
 repeat' first|exact Z8|with_reducible apply Zb|intro _
 all_goals first|with_reducible exact Jd|omega|exact ⟨hlen,htx⟩|exact htx|rfl|trivial|skip):p:=h
theorem good_typed6:Qa Tryz.prog (224,Dy):=by
 obtain ⟨Kx,Kt,Kc,Kd,Kb,Ku,Kw,K,X9,Uv,_⟩:=Xe Zv Zn [] false (Q0 Zre cI.eq_def (Q0 Kk Sv Xd));have Ko:=Dy.eq_def;refine Xj K Tryz.func224 [.tmp 6,.cell 7 137] rfl 51 rfl (fun c hc cvs hpre=>?_);unfold Dy at hpre;obtain ⟨⟨l⟩,⟨i,ss,e⟩,v,rfl,hS,hv⟩:=N3 hpre;simp only at hS hv;clear hpre;have hlen:=hS.len;have hlo:=hS.lo;have hhi:=hS.hi;have hss:=hS.sites;have htx:=hS.long;simp only at hlo hhi hss;obtain ⟨⟨Rt,⟨Ra,Rs,Re⟩⟩,Qf⟩:=exq (Dc l ⟨i,ss,e⟩ v);have hR2:=Qf;unfold Dc at hR2;simp only at hR2;have Z9:(ss.map (enc:Site→D)).length=ss.length:=Zl ..;cases hc;refine Y4 3 ?_;by_cases he:e=0
 case neg =>
  rw [if_pos he] at hR2;have Qb:(e != 0)=true:=bne_iff_ne.2 he;simp only [Ze,St6.mk.injEq] at hR2;obtain ⟨rfl,rfl,rfl,rfl⟩:=hR2;have Q4:=@Qr;have Zu:=@Ja;have Zx:=@Jb;exact Ln
 have Qb:(e != 0)=false:=by rw [he];rfl
 rw [if_neg (by simpa using he)] at hR2
 obtain ⟨hv1,hv2⟩:=hv he;have hF:=nQ hlen htx hlo hhi (site:=(ss.length:Int)+1) (by omega) hv1 hv2
 obtain ⟨⟨t,a,qs,bad,re⟩,hr⟩:=exq (Vu l i ((ss.length:Int)+1) v);rw [hr] at hR2 hF;have Qe:=Qc8 hr;simp only at hR2 hF;obtain ⟨hF1,hF2,hF3⟩:=hF;by_cases hre:re=0
 case neg =>
  rw [if_pos hre] at hR2;have Qc:(re != 0)=true:=bne_iff_ne.2 hre;simp only [Ze,St6.mk.injEq] at hR2;obtain ⟨rfl,rfl,rfl,rfl⟩:=hR2;have Qh:J0 ⟨bad,ss,e⟩ re=⟨bad,ss,re⟩:=by unfold J0;rw [if_pos he]
  have Q4:=@Zbh.eq_def;have Zu:=@Qr;have Zx:=@Ja;have Zw:=@Jb;have Kq:KeR:=⟨⟩;exact Zln
 have Qc:(re != 0)=false:=by rw [hre];rfl
 rw [if_neg (by simpa using hre)] at hR2
 obtain ⟨f1,f2,f3,-⟩:=hF3 hre;simp only [Ze,St6.mk.injEq] at hR2;obtain ⟨rfl,rfl,hRs,rfl⟩:=hR2;have Q6:ss.map (enc:Site→D)++qs.map enc=Rs.map enc:=by rw [←hRs,List.map_append]
 have Je:(Rs.map (enc:Site→D)).length=ss.length+qs.length:=by rw [←hRs,Zl,Zf]
 have Qn:(qs.map (enc:Site→D)).length=qs.length:=Zl ..;clear hRs;have Q4:=@Zbh.eq_def;have Zu:=@Qr;have Zx:=@Ja;have Zw:=@Jb;have Kq:KeS:=⟨⟩;exact Zln
def M7:Con:=Y1 (fun (l:Sl Tok) (s:St6) (v:Int)=>St6Ok l.l s∧(s.e=0→1≤s.at_∧1≤v∧v≤100)) (fun l s v=>((⟨(Uy l.l s v).1⟩,(Uy l.l s v).2):Sl Node×St6))
theorem Ey:Qa Tryz.prog (185,M7):=by
 obtain ⟨Kx,Kt,Kc,Kd,Kb,Ku,Kw,K,X9,Uv,_⟩:=Xe Zv Zn [] false (Q0 good_typed6 Dy.eq_def (Q0 S7 dY Xd));have Ko:=M7.eq_def;refine Xj K Tryz.func185 [.tmp 6,.cell 7 137] rfl 52 rfl (fun c hc cvs hpre=>?_);unfold M7 at hpre;obtain ⟨⟨l⟩,⟨i,ss,e⟩,v,rfl,hS,hv⟩:=N3 hpre;simp only at hS hv;clear hpre;have hlen:=hS.len;have hlo:=hS.lo;have hhi:=hS.hi;have hss:=hS.sites;have htx:=hS.txt;simp only at hlo hhi hss;obtain ⟨⟨Rt,⟨Ra,Rs,Re⟩⟩,Qf⟩:=exq (Uy l ⟨i,ss,e⟩ v);have Qe:=Qf;unfold Uy at Qe;simp only at Qe;have Qc:(ss.map (enc:Site→D)).length=ss.length:=Zl ..;cases hc;refine Y4 3 ?_;by_cases he:e=0
 case neg =>
  rw [if_pos he] at Qe;have Qb:(e != 0)=true:=bne_iff_ne.2 he;simp only [Ze,St6.mk.injEq] at Qe;obtain ⟨rfl,rfl,rfl,rfl⟩:=Qe;have Q4:=@Qr;have Zu:=@Ja;have Zx:=@Jb;exact Ln
 have Qb:(e != 0)=false:=by rw [he];rfl
 rw [if_neg (by simpa using he)] at Qe
 obtain ⟨hi1,hv1,hv2⟩:=hv he;cases Z9:Rh l ⟨i,ss,e⟩ 5 [58] with
 | true =>
  rw [Z9,if_pos rfl] at Qe;have hlt:i<l.length:=by
   unfold Rh at Z9;simp only [Zg,Jf] at Z9;exact Z9.2.1
  have hadv:Xu ⟨i,ss,e⟩=⟨i+1,ss,e⟩:=rfl;rw [hadv] at Qe;have hok:St6Ok l ⟨i+1,ss,e⟩:=⟨hlen,by show 0≤i+1;omega,by show i+1≤_;omega,hss,htx,hS.fig⟩
  have hvv:e=0→1≤v∧v≤100:=fun _=>⟨hv1,hv2⟩;have Q4:=@Qr;have Zu:=@Ja;have Zx:=@Jb;exact Ln
 | false =>
  rw [Z9,if_neg (by simp)] at Qe
  obtain ⟨i,rfl⟩:∃ n:Nat,i=n:=⟨i.toNat,by omega⟩
  have Qh:(i:Int)-1=((i-1:Nat):Int):=by omega
  have Qn:=Zr Ue (show i-1<l.length by omega)
  rw [Qh,Gm] at Qe;obtain ⟨t,ht⟩:=exq (l.getD (i-1) Ue);rw [ht] at Qn Qe;simp only [Ze,St6.mk.injEq] at Qe;obtain ⟨rfl,rfl,hRs,rfl⟩:=Qe;have Q6:ss.map (enc:Site→D)++[.agg [.int .i64 t.to,.int .i64 t.to,.bool true]]=Rs.map enc:=by rw [←hRs,List.map_append];rfl
  have Je:(Rs.map (enc:Site→D)).length=ss.length+1:=by rw [←hRs,Zl,Zf];rfl
  have hRs2:(Rs.length:Int)=(ss.length:Int)+1:=by rw [←hRs,Zf];rfl
  clear hRs;have Q4:=@Qr;have Zu:=@Ja;have Zx:=@Jb;exact Ln
def Lf (l:List (Sl Part)):List Part:=l.flatMap fun x=>x.l
def Wr (p:Part) (l:List (Sl Part)):List Part:=p::Lf l
theorem Zri {l:List (Sl Part)} {k:Nat} (h:k<l.length):Lf (l.take (k+1))=Lf (l.take k)++(l.getD k ⟨[]⟩).l:=by
 unfold Lf;rw [Vd (⟨[]⟩:Sl Part) h,List.flatMap_append];simp
theorem Zv9 {l:List (Sl Part)} (h:∀ x∈l,x.l.length≤1000000):(Lf l).length≤1000000*l.length:=by
 induction l with
 | nil=>exact Zq _
 | cons x l ih =>
  have:=ih fun y hy=>h y (List.mem_cons_of_mem _ hy);have hx:=h x (by simp)
  unfold Lf at this ⊢;rw [List.flatMap_cons,Zf,Zi];omega
def Lh {A B E:Type} [Enc A] [Enc B] [Enc E] [Sz E] (p:A→B→Prop) (f:A→B→List E):Con:=⟨[false,false],[true],fun c=>match c with
 | [.d x,.d y]=>V9 A x∧V9 B y∧p (dec x) (dec y)
 | _=>False,fun c=>match c with
 | [.d x,.d y]=>.own (Sz.sz E) ((f (dec x) (dec y)).map enc)
 | _=>.d .nilp⟩
theorem Zwl {A B E:Type} [Enc A] [Enc B] [Enc E] [Sz E] {p:A→B→Prop} {f:A→B→List E} {c:List CV} (h:(Lh p f).pre c):∃ a b,c=[.d (enc a),.d (enc b)]∧p a b:=by
 unfold Lh at h;simp only at h;split at h
 ·next x y=>exact ⟨dec x,dec y,by rw [←h.1,←h.2.1],h.2.2⟩
 ·exact h.elim
def Yk {A B C E S:Type} [Enc A] [Enc B] [Enc C] [Enc E] [Sz E] [Enc S] (p:A→B→C→Prop) (f:A→B→C→List E×S):Con:=⟨[false,false,false],[true,false],fun c=>match c with
 | [.d x,.d y,.d z]=>V9 A x∧V9 B y∧V9 C z∧p (dec x) (dec y) (dec z)
 | _=>False,fun c=>match c with
 | [.d x,.d y,.d z]=>.tup [.own (Sz.sz E) ((f (dec x) (dec y) (dec z)).1.map enc),.d (enc (f (dec x) (dec y) (dec z)).2)]
 | _=>.d .nilp⟩
theorem J5 {A B C E S:Type} [Enc A] [Enc B] [Enc C] [Enc E] [Sz E] [Enc S] {p:A→B→C→Prop} {f:A→B→C→List E×S} {c:List CV} (h:(Yk p f).pre c):∃ a b d,c=[.d (enc a),.d (enc b),.d (enc d)]∧p a b d:=by
 unfold Yk at h;simp only at h;split at h
 ·next x y z=>exact ⟨dec x,dec y,dec z,by rw [←h.1,←h.2.1,←h.2.2.1],h.2.2.2⟩
 ·exact h.elim
def Zox {A B C D' E S:Type} [Enc A] [Enc B] [Enc C] [Enc D'] [Enc E] [Sz E] [Enc S] (p:A→B→C→D'→Prop) (f:A→B→C→D'→List E×S):Con:=⟨[false,false,false,false],[true,false],fun c=>match c with
 | [.d x,.d y,.d z,.d w]=>V9 A x∧V9 B y∧V9 C z∧V9 D' w∧p (dec x) (dec y) (dec z) (dec w)
 | _=>False,fun c=>match c with
 | [.d x,.d y,.d z,.d w]=>.tup [.own (Sz.sz E) ((f (dec x) (dec y) (dec z) (dec w)).1.map enc),.d (enc (f (dec x) (dec y) (dec z) (dec w)).2)]
 | _=>.d .nilp⟩
theorem Zow {A B C D' E S:Type} [Enc A] [Enc B] [Enc C] [Enc D'] [Enc E] [Sz E] [Enc S] {p:A→B→C→D'→Prop} {f:A→B→C→D'→List E×S} {c:List CV} (h:(Zox p f).pre c):∃ a b d e,c=[.d (enc a),.d (enc b),.d (enc d),.d (enc e)]∧p a b d e:=by
 unfold Zox at h;simp only at h;split at h
 ·next x y z w=>exact ⟨dec x,dec y,dec z,dec w,by rw [←h.1,←h.2.1,←h.2.2.1,←h.2.2.2.1],h.2.2.2.2⟩
 ·exact h.elim
def V1:Con:=Lh (fun (_:Part) (l:Sl (Sl Part))=>l.l.length≤10∧∀ x∈l.l,x.l.length≤1000000) (fun p l=>Wr p l.l)
theorem Ht:type_of% @V1.eq_def:=@V1.eq_def
structure KeU:Prop
theorem KeU.k (_:KeU) (h:p:=by
 repeat' first|exact Z8|with_reducible apply Zb|intro _
 all_goals first|with_reducible exact Jd|omega|exact ⟨k+1,by (have Km:=hl2;have Fg:=hP1l;exact Qw)<;>omega,by omega,by omega⟩|skip):p:=h
structure KeT:Prop
theorem KeT.k (_:KeT) (h:p:=by
 repeat' first|exact Z8|with_reducible apply Zb|intro _
 refine Zm [9,10,11,12,13,14,15,16,17,18,19,20] (fun k:Nat=>[(5,.sl 8 ((p::Lf (l.take k)).map (enc:Part→D)).length),(6,.d (.int .i64 k))]) (fun k:Nat=>[(8,.row 8 ((p::Lf (l.take k)).map enc) 0)]) (fun k:Nat=>k≤l.length) (fun k:Nat=>l.length-k) 0 ?_ ?_ ?_
 ·omega
 ·have Km:=@Lf.eq_1;have Fg:=@Qg;exact Qw
 rintro k hk;have hb:=hbound k;rcases Zo k l.length with ⟨hlt,Qb⟩|⟨hlt,Qb⟩
 ·have Qf:=Zr (⟨[]⟩:Sl Part) hlt;have hS:=Zri hlt;have hx2:=hL (l.getD k ⟨[]⟩) (by simp [hlt])
  obtain ⟨⟨x⟩,hx⟩:=exq (l.getD k ⟨[]⟩);rw [hx] at Qf hS hx2;simp only at hS hx2;obtain ⟨P,hP⟩:=exq (Lf (l.take k));rw [hP] at hb hS;rw [hP];have Z9:(p::P).map (enc:Part→D)++x.map enc=(p::Lf (l.take (k+1))).map enc:=by rw [hS,←List.map_append,List.cons_append]
  have Qe:((p::P).map (enc:Part→D)).length=P.length+1:=by simp
  have hl2:(Lf (l.take (k+1))).length=P.length+x.length:=by rw [hS,Zf]
  have Qc:(x.map (enc:Part→D)).length=x.length:=Zl ..;obtain ⟨P1,hP1⟩:=exq (p::P);have hP1l:P1.length=P.length+1:=by rw [←hP1];rfl
  rw [hP1] at Z9 Qe;rw [hP1];have Kq:KeU:=⟨⟩;exact Zln
 ·have hke:k=l.length:=by omega
  rw [hke,List.take_length];rw [hke] at Qb;have hm:p::Lf l=R:=by rw [←Qh];rfl
  rw [hm];have Qn:=@Lh.eq_def;exact Zur):p:=h
theorem good_made6:Qa Tryz.prog (251,V1):=by
 obtain ⟨Kx,Kt,Kc,Kd,Kb,Ku,Kw,K,_⟩:=Xe Zv Zn [] false Xd;have Ko:=Ht;refine Xj K Tryz.func251 [.tmp 4] rfl 22 rfl (fun c hc cvs hpre=>?_);unfold V1 at hpre;obtain ⟨p,⟨l⟩,rfl,hl,hL⟩:=Zwl hpre;simp only at hl hL;clear hpre;obtain ⟨R,Qh⟩:=exq (Wr p l);have hbound:∀ k,(Lf (l.take k)).length≤10000000:=fun k=>by
  have:=Zv9 (l:=l.take k) fun x hx=>hL x (List.mem_of_mem_take hx);rw [List.length_take] at this;omega
 cases hc;have Qn:=@Lh.eq_def;have Kq:KeT:=⟨⟩;exact Zln
end Go.Am.Ty
