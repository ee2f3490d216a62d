/- Contracts of functions that the law reaches, and plain laws. Conditions: those that each contract states. -/
import Derived.Test.YtilpfkjhahnfaaaGreatK6
set_option maxHeartbeats 4000000
set_option linter.unusedVariables false
set_option linter.unusedSimpArgs false
set_option maxRecDepth 100000
namespace Go.Am.Ty
open Go.Proofs
open Enc (enc dec)
def Br:Con:=Zab (fun (s:List UInt8) (i:Int)=>s.length≤1000000∧0≤i∧i<s.length) (fun s i=>eH s i.toNat)
structure w454k:Prop
theorem w454k.k (_:w454k) {p:Prop} (h:p:=by
 repeat' first|exact Qg|with_reducible apply And.intro|intro _
 all_goals first|with_reducible exact Jf|omega|(rw [Xb];omega)|(rw [Zbf];omega)|rfl|skip):p:=h
theorem good_escaped1:Qr Tryz.prog (219,Br):=by
 obtain ⟨Kx,Kt,Kc,Kd,Kb,Ku,Kw,K,Yj,_⟩:=Wi Z3 Zn [] false (Ja good_sixteen1 Bk.eq_def Wg);have Ko:=Br.eq_def;refine Wh K Tryz.func219 [.tmp 4,.tmp 5] rfl 66 rfl (fun c hc cvs hpre=>?_);unfold Br at hpre;obtain ⟨s,i,rfl,hs,hi0,hi1⟩:=Zaa hpre;obtain ⟨i,rfl⟩:∃ n:Nat,i=n:=⟨i.toNat,by omega⟩
 clear hpre;obtain ⟨R,Z2⟩:=exq (eH s i);have hR2:=Z2;unfold eH at hR2;have Qh:(i:Int)+1=((i+1:Nat):Int):=rfl;have Qd:(i:Int)+2=((i+2:Nat):Int):=rfl;have Z4:(i:Int)+3=((i+3:Nat):Int):=rfl;by_cases h1:s.length≤i+1
 ·rw [if_pos h1] at hR2;have Qi:Xu (s.length:Int) ((i+1:Nat):Int)=true:=by rw [Qp];omega
  subst hR2;cases hc;refine Ys 4 ?_;exact M2
 rw [if_neg h1] at hR2;have Qi:Xu (s.length:Int) ((i+1:Nat):Int)=false:=by rw [←Bool.not_eq_true,Qp];omega
 unfold Zoi at hR2;obtain ⟨c,Z5⟩:=exq (s.getD (i+1) 0);rw [Z5] at hR2;have Z9:((c.toNat:Int)==92)=(c==92):=Gd (b:=92);have Q0:((c.toNat:Int)==34)=(c==34):=Gd (b:=34);have Qz:((c.toNat:Int)==110)=(c==110):=Gd (b:=110);have Zx:((c.toNat:Int)==116)=(c==116):=Gd (b:=116);have Zy:((c.toNat:Int)==120)=(c==120):=Gd (b:=120);have hlt1:i+1<s.length:=by omega
 by_cases h92:c=92
 ·rw [if_pos (.inl h92)] at hR2;have Qu:(c==92)=true:=beq_iff_eq.2 h92;subst hR2;cases hc;refine Ys 4 ?_;exact M2
 have Qu:(c==92)=false:=beq_eq_false_iff_ne.2 h92;by_cases h34:c=34
 ·rw [if_pos (.inr h34)] at hR2;have Q2:(c==34)=true:=beq_iff_eq.2 h34;subst hR2;cases hc;refine Ys 4 ?_;exact M2
 have Q2:(c==34)=false:=beq_eq_false_iff_ne.2 h34;rw [if_neg (by simp [h92,h34])] at hR2
 by_cases h110:c=110
 ·rw [if_pos h110] at hR2;have Zv:(c==110)=true:=beq_iff_eq.2 h110;subst hR2;cases hc;refine Ys 4 ?_;exact M2
 have Zv:(c==110)=false:=beq_eq_false_iff_ne.2 h110;rw [if_neg h110] at hR2;by_cases h116:c=116
 ·rw [if_pos h116] at hR2;have Zu:(c==116)=true:=beq_iff_eq.2 h116;subst hR2;cases hc;refine Ys 4 ?_;exact M2
 have Zu:(c==116)=false:=beq_eq_false_iff_ne.2 h116;rw [if_neg h116] at hR2;by_cases h120:c=120
 case neg =>
  have Zz:(c==120)=false:=beq_eq_false_iff_ne.2 h120;rw [if_neg (fun h=>h120 h.1)] at hR2;subst hR2;cases hc;refine Ys 4 ?_;exact M2
 have Zz:(c==120)=true:=beq_iff_eq.2 h120;by_cases h3:i+3<s.length
 case neg =>
  have Zs:Yr ((i+3:Nat):Int) (s.length:Int)=false:=by rw [Q3];omega
  rw [if_neg (fun h=>h3 h.2.1)] at hR2;subst hR2;cases hc;refine Ys 4 ?_;exact M2
 have Zs:Yr ((i+3:Nat):Int) (s.length:Int)=true:=by rw [Jw];omega
 obtain ⟨a,Zt⟩:=exq (s.getD (i+2) 0);obtain ⟨b,Z8⟩:=exq (s.getD (i+3) 0);rw [Zt,Z8] at hR2;have ga:=Zg4 (c:=a);have gb:=Zg4 (c:=b);obtain ⟨x,Qt⟩:=exq (eW a);obtain ⟨y,Qv⟩:=exq (eW b);rw [Qt] at ga;rw [Qv] at gb;rw [Qt,Qv] at hR2;by_cases hx0:0≤x
 case neg =>
  have Qw:Xu 0 x=false:=by rw [←Bool.not_eq_true,Qp];exact hx0
  rw [if_neg (fun h=>hx0 h.2.2.1)] at hR2;subst hR2;cases hc;refine Ys 4 ?_;exact M2
 have Qw:Xu 0 x=true:=by rw [Qp];exact hx0
 by_cases hy0:0≤y
 case neg =>
  have Qj:Xu 0 y=false:=by rw [←Bool.not_eq_true,Qp];exact hy0
  rw [if_neg (fun h=>hy0 h.2.2.2)] at hR2;subst hR2;cases hc;refine Ys 4 ?_;exact M2
 have Qj:Xu 0 y=true:=by rw [Qp];exact hy0
 rw [if_pos ⟨h120,h3,hx0,hy0⟩] at hR2;subst hR2;cases hc;refine Ys 4 ?_;have Kq:w454k:=⟨⟩;exact V3
def Bt:Con:=Yg (fun (s:List UInt8)=>s.length≤1000000) (fun s=>D9 s)
structure w456k:Prop
theorem w456k.k (_:w456k) {p:Prop} (h:p:=by
 repeat' first|exact Qg|with_reducible apply And.intro|intro _
 all_goals first|omega|(rw [Xb];omega)|(simp only [Zj];omega)|exact ⟨(f,i+en,out++et),by exact Qy,by simp only;omega,by simp only;omega,by simp only;omega,by simp only [Zj];omega,h5,by simp only;omega⟩|skip):p:=h
structure w457k:Prop
theorem w457k.k (_:w457k) {p:Prop} (h:p:=by
 repeat' first|exact Qg|with_reducible apply And.intro|intro _
 all_goals first|omega|(rw [Xb];omega)|(rw [Zj,hpl];omega)|exact ⟨(f,i+n,out++(s.take (i+n)).drop i),by exact Qy,by simp only;omega,by simp only;omega,by simp only;omega,by simp only [Zj,hpl];omega,h5,by simp only;omega⟩|skip):p:=h
structure w455k:Prop
theorem w455k.k (_:w455k) {p:Prop} (h:p:=by
 repeat' first|exact Qg|with_reducible apply And.intro|intro _
 all_goals try omega
 refine Zh [2,3,4,7,8,9,10,19,20,21,22,23,24,25,26,27,28,29,30,31,32,33,34,35,36,37,38,39,40,41,42,43,44,45,46,47,48,49,50,51,52,53,54,55,56,57,58,59,60,61,62,63,64,65,66,67,68,69,70,71,72] (fun p:Nat×Nat×List UInt8=>[(5,.d (.str p.2.2)),(6,.d (.int .i64 p.2.1))]) (fun p:Nat×Nat×List UInt8=>[]) (fun p:Nat×Nat×List UInt8=>s.length≤p.1+p.2.1∧1≤p.2.1∧p.2.1≤s.length∧p.2.2.length≤p.2.1∧Ax p.1 s p.2.1 p.2.2=R) (fun p:Nat×Nat×List UInt8=>s.length-p.2.1) (s.length,1,[]) ?_ ?_ ?_
 ·exact ⟨by simp,by simp,by simp only;omega,by simp,hR2⟩
 ·exact Qy
 rintro ⟨f,i,out⟩ ⟨h1,h2,h3,h4,h5⟩;simp only at h1 h2 h3 h4 h5;rcases Zl i s.length with ⟨hlt,Z9⟩|⟨hlt,Z9⟩
 ·obtain ⟨f,rfl⟩:∃ g,f=g+1:=⟨f-1,by omega⟩
  rw [Ax,if_neg (by omega)] at h5
  have hlo:=Zdq hlt;have hes:=Zhy (s:=s) hlt;obtain ⟨x,Qu⟩:=exq (s.getD i 0);rw [Qu] at h5;have Q0:((x.toNat:Int)==34)=(x==34):=Gd (b:=34);have Zx:Yr (x.toNat:Int) 32=decide (x<32):=Zk2 (b:=32);have Zy:((x.toNat:Int)==127)=(x==127):=Gd (b:=127);have Z4:((x.toNat:Int)==92)=(x==92):=Gd (b:=92);by_cases hq:x=34
  ·rw [if_pos hq] at h5;have Q2:(x==34)=true:=beq_iff_eq.2 hq;subst h5;exact M2
  rw [if_neg hq] at h5;have Q2:(x==34)=false:=beq_eq_false_iff_ne.2 hq;obtain ⟨n,Qz⟩:=exq (Oi s i);rw [Qz] at h5 hlo;by_cases hbad:n=0∨x<32∨x=127
  ·rw [if_pos hbad] at h5;subst h5;by_cases b1:n=0
   ·have Zv:((n:Int)==0)=true:=by rw [Zp];omega
    exact M2
   have Zv:((n:Int)==0)=false:=by rw [Zf];omega
   by_cases b2:x<32
   ·have Zu:decide (x<32)=true:=decide_eq_true b2;exact M2
   have Zu:decide (x<32)=false:=decide_eq_false b2;have b3:x=127:=by rcases hbad with h|h|h<;>first|exact h|contradiction
   have Zz:(x==127)=true:=beq_iff_eq.2 b3;exact M2
  ·rw [if_neg hbad] at h5;have Zv:((n:Int)==0)=false:=by rw [Zf];intro e;exact hbad (.inl (by omega))
   have Zu:decide (x<32)=false:=decide_eq_false fun h=>hbad (.inr (.inl h));have Zz:(x==127)=false:=beq_eq_false_iff_ne.2 fun h=>hbad (.inr (.inr h));have hn1:1≤n:=by have:n≠0:=fun e=>hbad (.inl e);omega
   have Qt:(i:Int)+(n:Int)=((i+n:Nat):Int):=rfl;by_cases he:x=92
   ·rw [if_pos he] at h5;have Zs:(x==92)=true:=beq_iff_eq.2 he;obtain ⟨⟨et,en⟩,Zt⟩:=exq (eH s i);rw [Zt] at h5 hes;simp only at h5 hes;by_cases hz0:en=0
    ·rw [if_pos hz0] at h5;have Z8:(en==0)=true:=beq_iff_eq.2 hz0;subst h5;exact M2
    rw [if_neg hz0] at h5;have Z8:(en==0)=false:=beq_eq_false_iff_ne.2 hz0;obtain ⟨en,rfl⟩:∃ m:Nat,en=m:=⟨en.toNat,by omega⟩
    rw [Ze] at h5 hes;have Kq:w456k:=⟨⟩;exact V3
   ·rw [if_neg he] at h5;have Zs:(x==92)=false:=beq_eq_false_iff_ne.2 he;have hpl:((s.take (i+n)).drop i).length=n:=by rw [List.length_drop,List.length_take];omega
    have Kq:w457k:=⟨⟩;exact V3
 ·have hil:i=s.length:=by omega
  have hr:R=([],0,2):=by
   rw [←h5];cases f with
   | zero=>rfl
   | succ f=>rw [Ax,if_pos (by omega)]
  subst hr;exact Zip):p:=h
theorem good_Unquote1:Qr Tryz.prog (177,Bt):=by
 obtain ⟨Kx,Kt,Kc,Kd,Kb,Ku,Kw,K,Yj,Kv,_⟩:=Wi Z3 Zn [] false (Ja good_Long1 Rp.eq_def (Ja good_escaped1 Br.eq_def Wg));have Ko:=Bt.eq_def;refine Wh K Tryz.func177 [.tmp 2,.tmp 3,.tmp 4] rfl 73 rfl (fun c hc cvs hpre=>?_);unfold Bt at hpre;obtain ⟨s,rfl,hs⟩:=iP hpre;clear hpre;obtain ⟨R,Qi⟩:=exq (D9 s);have hR2:=Qi;unfold D9 at hR2;by_cases h0:s.length=0
 ·rw [if_pos (.inl h0)] at hR2;have Qh:((s.length:Int)==0)=true:=by rw [Zp];omega
  subst hR2;cases hc;refine Ys 4 ?_;exact Zip
 have Qh:((s.length:Int)==0)=false:=by rw [Zf];omega
 obtain ⟨c,Z2⟩:=exq (s.getD 0 0);rw [Z2] at hR2;have Qd:((c.toNat:Int) != 34)=(c != 34):=by rw [bne,bne];exact congrArg _ (Gd (b:=34))
 by_cases h34:c=34
 case neg =>
  rw [if_pos (.inr h34)] at hR2;have Z5:(c != 34)=true:=bne_iff_ne.2 h34;subst hR2;cases hc;refine Ys 4 ?_;have Qw:=@Int.toNat_zero;exact M2
 rw [if_neg (by simp [h0,h34])] at hR2
 have Z5:(c != 34)=false:=by rw [h34];rfl
 cases hc;refine Ys 4 ?_;have Qw:=@Int.toNat_zero;have Kq:w455k:=⟨⟩;exact V3
def Rg:Con:=V8 (Sl.mk Zhn)
theorem Zgc:Qr Tryz.prog (222,Rg):=by
 obtain ⟨Kx,Kt,Kc,Kd,Kb,Ku,Kw,K,_⟩:=Wi Z3 Zn [] false Wg;have Ko:=Rg.eq_def;refine Wh K Tryz.func222 [.tmp 0] rfl 2 rfl (fun c hc cvs hpre=>?_);unfold Rg at hpre;obtain rfl:=iR hpre;cases hc;exact M2
def Dc:Con:=V8 (Sl.mk A0)
theorem Zd0:Qr Tryz.prog (223,Dc):=by
 obtain ⟨Kx,Kt,Kc,Kd,Kb,Ku,Kw,K,_⟩:=Wi Z3 Zn [] false Wg;have Ko:=Dc.eq_def;refine Wh K Tryz.func223 [.tmp 0] rfl 2 rfl (fun c hc cvs hpre=>?_);unfold Dc at hpre;obtain rfl:=iR hpre;cases hc;exact M2
def Du:Con:=Xy (fun (_:List UInt8)=>True) (fun s=>cW s)
structure w459k:Prop
theorem w459k.k (_:w459k) {p:Prop} (h:p:=by
 repeat' first|exact Qg|with_reducible apply And.intro|intro _
 all_goals first|with_reducible exact Jf|omega|exact ⟨k+1,by exact Qy,by omega,h2,by omega⟩|skip):p:=h
structure w458k:Prop
theorem w458k.k (_:w458k) {p:Prop} (h:p:=by
 repeat' first|exact Qg|with_reducible apply And.intro|intro _
 refine Zh [2,6,7,8,9,10,11,12,13,14,15,16,17] (fun k:Nat=>[(4,.d (.int .i64 k))]) (fun k:Nat=>[]) (fun k:Nat=>k≤18∧∀ j,j<k→l.getD j []≠s) (fun k:Nat=>18-k) 0 ?_ ?_ ?_
 ·simp
 ·exact Qy
 rintro k ⟨hk,hno⟩;by_cases hlt:k<18
 ·have Z2:Yr (k:Int) 18=true:=by rw [Jw];omega
  have Qd:=Zo ([]:List UInt8) (show k<l.length by omega)
  have hst:l.getD k []≠s→∀ j,j<k+1→l.getD j []≠s:=fun h=>U7 hno h;have hit:(l.getD k []==s)=true→R=true:=fun h=>by rw [←hR2];exact cN (p:=fun o=>o==s) [] k (by omega) h
  obtain ⟨y,hy⟩:=exq (l.getD k []);rw [hy] at Qd hst hit;cases Z5:(y==s) with
  | true =>
   have hr:=hit Z5;subst hr;exact M2
  | false =>
   have h2:=hst (beq_eq_false_iff_ne.1 Z5);have Kq:w459k:=⟨⟩;exact V3
 ·have Z2:Yr (k:Int) 18=false:=by rw [Q3];omega
  have hr:R=false:=by rw [←hR2];exact Dz (p:=fun o=>o==s) [] fun j hj=>beq_eq_false_iff_ne.2 (hno j (by omega))
  subst hr;exact Zip):p:=h
theorem good_IsKey2:Qr Tryz.prog (180,Du):=by
 obtain ⟨Kx,Kt,Kc,Kd,Kb,Ku,Kw,K,Yj,_⟩:=Wi Z3 Zn [] false (Ja Zgc Rg.eq_def Wg);have Ko:=Du.eq_def;refine Wh K Tryz.func180 [.tmp 2] rfl 18 rfl (fun c hc cvs hpre=>?_);unfold Du at hpre;obtain ⟨s,rfl,-⟩:=J4 hpre;clear hpre;obtain ⟨R,Z9⟩:=exq (cW s);have hR2:=Z9;unfold cW at hR2;have hl:Zhn.length=18:=rfl;obtain ⟨l,Qh⟩:=exq (Zhn);rw [Qh] at hR2 hl;have Qi:(l.length:Int)=18:=by rw [hl];rfl
 cases hc;have Kq:w458k:=⟨⟩;exact V3
def Ri:Con:=Xy (fun (_:UInt8)=>True) (fun c=>zF c)
theorem Fp {c a b:UInt8}:Xs c a b=(Xu (a.toNat:Int) (c.toNat:Int)&&Xu (c.toNat:Int) (b.toNat:Int)):=by
 unfold Xs;rw [X3,X3]
structure w460k:Prop
theorem w460k.k (_:w460k) {p:Prop} (h:p:=by
 repeat' first|exact Qg|with_reducible apply And.intro|intro _
 all_goals first|with_reducible exact Jf|(rw [←hR2];clear hR2 Q2 Qh Qi Z2 Qd Z5 Z9 Q0 Qu K;simp_all;done)|(symm;rw [←hR2];clear hR2 Q2 Qh Qi Z2 Qd Z5 Z9 Q0 Qu K;simp_all;done)|skip):p:=h
theorem good_goes2:Qr Tryz.prog (178,Ri):=by
 obtain ⟨Kx,Kt,Kc,Kd,Kb,Ku,Kw,K,_⟩:=Wi Z3 Zn [] false Wg;have Ko:=Ri.eq_def;refine Wh K Tryz.func178 [.tmp 2] rfl 29 rfl (fun c hc cvs hpre=>?_);unfold Ri at hpre;obtain ⟨c,rfl,-⟩:=J4 hpre;clear hpre;obtain ⟨R,Q2⟩:=exq (zF c);have hR2:=Q2;unfold zF at hR2;rw [Fp,Fp,Fp] at hR2;have e1:Xu ((97:UInt8).toNat:Int) (c.toNat:Int)=Xu 97 (c.toNat:Int):=rfl;have e2:Xu (c.toNat:Int) ((122:UInt8).toNat:Int)=Xu (c.toNat:Int) 122:=rfl;have e3:Xu ((65:UInt8).toNat:Int) (c.toNat:Int)=Xu 65 (c.toNat:Int):=rfl;have e4:Xu (c.toNat:Int) ((90:UInt8).toNat:Int)=Xu (c.toNat:Int) 90:=rfl;have e5:Xu ((48:UInt8).toNat:Int) (c.toNat:Int)=Xu 48 (c.toNat:Int):=rfl;have e6:Xu (c.toNat:Int) ((57:UInt8).toNat:Int)=Xu (c.toNat:Int) 57:=rfl;rw [e1,e2,e3,e4,e5,e6] at hR2;have Qu:((c.toNat:Int)==95)=(c==95):=Gd (b:=95);obtain ⟨b1,Qh⟩:=exq (Xu 97 (c.toNat:Int));obtain ⟨b2,Qi⟩:=exq (Xu (c.toNat:Int) 122);obtain ⟨b3,Z2⟩:=exq (Xu 65 (c.toNat:Int));obtain ⟨b4,Qd⟩:=exq (Xu (c.toNat:Int) 90);obtain ⟨b5,Z5⟩:=exq (Xu 48 (c.toNat:Int));obtain ⟨b6,Z9⟩:=exq (Xu (c.toNat:Int) 57);obtain ⟨b7,Q0⟩:=exq ((c==95));rw [Qh,Qi,Z2,Qd,Z5,Z9,Q0] at hR2;clear e1 e2 e3 e4 e5 e6;cases hc;have Jo:=Kt;have Jn:=Kt;have Kr:=Kt;have Jc:=Kt;have X3:=Kt;have Xe:=Kt;have Qz:=@Zgj;have Zv:=@Zf9;have Zx:=@Zgl;have Kq:w460k:=⟨⟩;exact V3
def Sy:Con:=Xy (fun (_:UInt8)=>True) (fun c=>Xo c)
structure w461k:Prop
theorem w461k.k (_:w461k) {p:Prop} (h:p:=by
 repeat' first|exact Qg|with_reducible apply And.intro|intro _
 all_goals first|with_reducible exact Jf|(rw [←hR2];clear hR2 Z2 Qh Qi K;simp_all;done)|(symm;rw [←hR2];clear hR2 Z2 Qh Qi K;simp_all;done)|skip):p:=h
theorem good_figure2:Qr Tryz.prog (182,Sy):=by
 obtain ⟨Kx,Kt,Kc,Kd,Kb,Ku,Kw,K,_⟩:=Wi Z3 Zn [] false Wg;have Ko:=Sy.eq_def;refine Wh K Tryz.func182 [.tmp 2] rfl 9 rfl (fun c hc cvs hpre=>?_);unfold Sy at hpre;obtain ⟨c,rfl,-⟩:=J4 hpre;clear hpre;obtain ⟨R,Z2⟩:=exq (Xo c);have hR2:=Z2;unfold Xo at hR2;rw [Fp] at hR2;have e5:Xu ((48:UInt8).toNat:Int) (c.toNat:Int)=Xu 48 (c.toNat:Int):=rfl;have e6:Xu (c.toNat:Int) ((57:UInt8).toNat:Int)=Xu (c.toNat:Int) 57:=rfl;rw [e5,e6] at hR2;obtain ⟨b5,Qh⟩:=exq (Xu 48 (c.toNat:Int));obtain ⟨b6,Qi⟩:=exq (Xu (c.toNat:Int) 57);rw [Qh,Qi] at hR2;clear e5 e6;cases hc;have Jo:=Kt;have Jn:=Kt;have Kr:=Kt;have Jc:=Kt;have X3:=Kt;have Xe:=Kt;have Qd:=@Zgj;have Z5:=@Zf9;have Z9:=@Zgl;have Kq:w461k:=⟨⟩;exact V3
theorem Mq {s:List UInt8} {k:Nat} (h:k<s.length):s.drop k=s.getD k 0::s.drop (k+1):=by
 rw [List.drop_eq_getElem_cons h];simp [h]
def Bs:Con:=Wc (fun (s:List UInt8) (i:Int)=>s.length≤1000000∧0≤i∧i≤s.length) (fun s i=>(D8 s i.toNat:Int))
structure w463k:Prop
theorem w463k.k (_:w463k) {p:Prop} (h:p:=by
 repeat' first|exact Qg|with_reducible apply And.intro|intro _
 all_goals first|with_reducible exact Jf|omega|exact ⟨k+1,by exact Qy,by omega,hst,by omega⟩|skip):p:=h
structure w464k:Prop
theorem w464k.k (_:w464k) {p:Prop} (h:p:=by
 repeat' first|exact Qg|with_reducible apply And.intro|intro _
 all_goals first|with_reducible exact Jf|omega|exact ⟨k+1,by exact Qy,by omega,hst,by omega⟩|skip):p:=h
structure w465k:Prop
theorem w465k.k (_:w465k) {p:Prop} (h:p:=by
 repeat' first|exact Qg|with_reducible apply And.intro|intro _
 all_goals first|with_reducible exact Jf|omega|exact ⟨k+1,by exact Qy,by omega,hst,by omega⟩|skip):p:=h
structure w467k:Prop
theorem w467k.k (_:w467k) {p:Prop} (h:p:=by
 repeat' first|exact Qg|with_reducible apply And.intro|intro _
 all_goals first|with_reducible exact Jf|omega|exact ⟨j,by exact Qy,by omega,hst,by omega⟩|skip):p:=h
structure w468k:Prop
theorem w468k.k (_:w468k) {p:Prop} (h:p:=by
 repeat' first|exact Qg|with_reducible apply And.intro|intro _
 all_goals first|with_reducible exact Jf|omega|exact ⟨j+1,by exact Qy,by omega,by omega,by omega,by omega⟩|skip):p:=h
structure w469k:Prop
theorem w469k.k (_:w469k) {p:Prop} (h:p:=by
 repeat' first|exact Qg|with_reducible apply And.intro|intro _
 all_goals first|with_reducible exact Jf|omega|exact ⟨j,by exact Qy,by omega,hst,by omega⟩|skip):p:=h
structure w466k:Prop
theorem w466k.k (_:w466k) {p:Prop} (h:p:=by
 repeat' first|exact Qg|with_reducible apply And.intro|intro _
 all_goals try with_reducible exact Jf
 all_goals try omega
 refine Zh [31,32,33,34,35,36,37,38,39,40,41,42] (fun j:Nat=>[(1,.d (.int .i64 j))]) (fun j:Nat=>[]) (fun j:Nat=>k≤j∧j≤s.length∧j+T3 true (s.drop j)=R) (fun j:Nat=>s.length-j) k ?_ ?_ ?_
 ·exact ⟨by omega,by omega,hin⟩
 ·exact Qy
 rintro j ⟨hkj,hj,hJ⟩;rcases Zl j s.length with ⟨hjt,Zu⟩|⟨hjt,Zu⟩
 ·rw [Mq hjt,T3] at hJ;have hJ2:=Mq hjt;obtain ⟨d,Zy⟩:=exq (s.getD j 0);rw [Zy] at hJ hJ2;have Zz:((d.toNat:Int) != 10)=(d != 10):=by rw [bne,bne];exact congrArg _ (Gd (b:=10))
  by_cases hd10:d=10
  ·rw [if_pos hd10] at hJ;have Z4:(d != 10)=false:=by rw [hd10];rfl
   have hjk:k<j:=by
    rcases Nat.lt_or_ge k j with h|h
    ·exact h
    ·have:j=k:=by omega
     subst this;rw [Qi] at Zy;rw [←Zy,c4] at hd10;exact absurd hd10 (by decide)
   have hst:j+T3 false (s.drop j)=R:=by
    rw [hJ2,T3,if_pos (.inr (.inr hd10))];omega
   have Kq:w467k:=⟨⟩;exact V3
  ·rw [if_neg hd10] at hJ;have Z4:(d != 10)=true:=bne_iff_ne.2 hd10;have Kq:w468k:=⟨⟩;exact V3
 ·have hje:j=s.length:=by omega
  have hst:j+T3 false (s.drop j)=R:=by
   rw [List.drop_eq_nil_of_le hjt] at hJ ⊢;exact hJ
  have Kq:w469k:=⟨⟩;exact V3):p:=h
structure w462k:Prop
theorem w462k.k (_:w462k) {p:Prop} (h:p:=by
 repeat' first|exact Qg|with_reducible apply And.intro|intro _
 refine Zh [4,5,6,7,8,9,10,11,12,13,14,15,16,17,18,19,20,21,22,23,24,25,26,27,28,29,30,31,32,33,34,35,36,37,38,39,40,41,42,43] (fun k:Nat=>[(1,.d (.int .i64 k))]) (fun k:Nat=>[]) (fun k:Nat=>k≤s.length∧k+T3 false (s.drop k)=R) (fun k:Nat=>s.length-k) i ?_ ?_ ?_
 ·exact ⟨by omega,hR2⟩
 ·exact Qy
 rintro k ⟨hk,hG⟩;rcases Zl k s.length with ⟨hlt,Qh⟩|⟨hlt,Qh⟩
 ·rw [Mq hlt,T3] at hG;obtain ⟨c,Qi⟩:=exq (s.getD k 0);rw [Qi] at hG;have Z2:((c.toNat:Int)==32)=(c==32):=Gd (b:=32);have Z5:((c.toNat:Int)==9)=(c==9):=Gd (b:=9);have Qu:((c.toNat:Int)==10)=(c==10):=Gd (b:=10);have Q2:((c.toNat:Int)==35)=(c==35):=Gd (b:=35);have k1:(k:Int)+1=((k+1:Nat):Int):=rfl;by_cases hg:c=32∨c=9∨c=10
  ·rw [if_pos hg] at hG;have hst:k+1+T3 false (s.drop (k+1))=R:=by omega
   by_cases c1:c=32
   ·have Qd:(c==32)=true:=beq_iff_eq.2 c1;have Kq:w463k:=⟨⟩;exact V3
   have Qd:(c==32)=false:=beq_eq_false_iff_ne.2 c1;by_cases c2:c=9
   ·have Z9:(c==9)=true:=beq_iff_eq.2 c2;have Kq:w464k:=⟨⟩;exact V3
   have Z9:(c==9)=false:=beq_eq_false_iff_ne.2 c2;have Q0:(c==10)=true:=beq_iff_eq.2 (by rcases hg with h|h|h<;>first|exact h|contradiction)
   have Kq:w465k:=⟨⟩;exact V3
  ·rw [if_neg hg] at hG;have Qd:(c==32)=false:=beq_eq_false_iff_ne.2 fun h=>hg (.inl h);have Z9:(c==9)=false:=beq_eq_false_iff_ne.2 fun h=>hg (.inr (.inl h));have Q0:(c==10)=false:=beq_eq_false_iff_ne.2 fun h=>hg (.inr (.inr h));by_cases c4:c=35
   case neg =>
    have Qz:(c==35)=false:=beq_eq_false_iff_ne.2 c4;rw [if_neg c4] at hG;have Zx:R=k:=by omega
    exact M2
   have Qz:(c==35)=true:=beq_iff_eq.2 c4;rw [if_pos c4] at hG;have hin:k+T3 true (s.drop k)=R:=by
    rw [Mq hlt,Qi,T3,if_neg (by rw [c4];decide)]
    exact hG
   have Kq:w466k:=⟨⟩;exact V3
 ·rw [List.drop_eq_nil_of_le hlt] at hG;have Zx:R=k:=by simpa [T3] using hG.symm
  exact Zip):p:=h
theorem good_between2:Qr Tryz.prog (142,Bs):=by
 obtain ⟨Kx,Kt,Kc,Kd,Kb,Ku,Kw,K,_⟩:=Wi Z3 Zn [] false Wg;have Ko:=Bs.eq_def;refine Wh K Tryz.func142 [.tmp 4] rfl 45 rfl (fun c hc cvs hpre=>?_);unfold Bs at hpre;obtain ⟨s,i,rfl,hs,hi0,hi1⟩:=Jr hpre;obtain ⟨i,rfl⟩:∃ n:Nat,i=n:=⟨i.toNat,by omega⟩
 clear hpre;obtain ⟨R,Zv⟩:=exq (D8 s i);have hR2:=Zv;unfold D8 at hR2;cases hc;refine Ys 2 ?_;have Kq:w462k:=⟨⟩;exact V3
theorem Zcp {s:List UInt8} {i:Nat} {l:List (List UInt8)} {k:Nat} (h:k<l.length):P9 s i (l.drop k)=cond (bL s i (l.getD k [])) (l.getD k []) (P9 s i (l.drop (k+1))):=by
 rw [List.drop_eq_getElem_cons h,P9];simp [h]
def Rd:Con:=Wc (fun (s:List UInt8) (i:Int)=>s.length≤1000000∧0≤i∧i≤s.length) (fun s i=>Ba s i.toNat)
structure w471k:Prop
theorem w471k.k (_:w471k) {p:Prop} (h:p:=by
 repeat' first|exact Qg|with_reducible apply And.intro|intro _
 all_goals first|with_reducible exact Jf|omega|(rw [Xb];omega)|exact ⟨k+1,by exact Qy,by omega,hS,by omega⟩|skip):p:=h
structure w472k:Prop
theorem w472k.k (_:w472k) {p:Prop} (h:p:=by
 repeat' first|exact Qg|with_reducible apply And.intro|intro _
 all_goals first|with_reducible exact Jf|omega|(rw [Xb];omega)|exact ⟨k+1,by exact Qy,by omega,hS,by omega⟩|skip):p:=h
structure w470k:Prop
theorem w470k.k (_:w470k) {p:Prop} (h:p:=by
 repeat' first|exact Qg|with_reducible apply And.intro|intro _
 refine Zh [4,8,9,10,11,12,13,14,15,16,17,18,19,20,21,22,23,24,25,26,27,28,29,30,31,32,33,34,35,36,37,38,39,40,41,42,43,44] (fun k:Nat=>[(6,.d (.int .i64 k))]) (fun k:Nat=>[]) (fun k:Nat=>k≤24∧P9 s i (l.drop k)=R) (fun k:Nat=>24-k) 0 ?_ ?_ ?_
 ·exact ⟨by omega,hR2⟩
 ·exact Qy
 rintro k ⟨hk,hS⟩;by_cases hlt:k<24
 ·have Z2:Yr (k:Int) 24=true:=by rw [Jw];omega
  have Qd:=Zo ([]:List UInt8) (show k<l.length by omega)
  have hx2:=hsz (l.getD k []) (by simp [show k<l.length by omega])
  rw [Zcp (by omega)] at hS
  obtain ⟨y,hy⟩:=exq (l.getD k []);rw [hy] at Qd hx2 hS;have Z5:(i:Int)+(y.length:Int)=((i+y.length:Nat):Int):=rfl;unfold bL at hS;cases Z9:Xu ((i+y.length:Nat):Int) (s.length:Int) with
  | false =>
   rw [Z9,Bool.false_and,cond_false] at hS;have Kq:w471k:=⟨⟩;exact V3
  | true =>
   rw [Z9,Bool.true_and] at hS;rw [Qp] at Z9;have Qu:Xu ((i+y.length:Nat):Int) (s.length:Int)=true:=by rw [Qp];exact Z9
   cases Q0:((s.take (i+y.length)).drop i==y) with
   | true =>
    rw [Q0,cond_true] at hS;subst hS;exact M2
   | false =>
    rw [Q0,cond_false] at hS;have Kq:w472k:=⟨⟩;exact V3
 ·have Z2:Yr (k:Int) 24=false:=by rw [Q3];omega
  have hr:R=[]:=by
   rw [←hS,List.drop_eq_nil_of_le (by omega)]
   rfl
  subst hr;exact Zip):p:=h
theorem good_sign2:Qr Tryz.prog (183,Rd):=by
 obtain ⟨Kx,Kt,Kc,Kd,Kb,Ku,Kw,K,Yj,_⟩:=Wi Z3 Zn [] false (Ja Zd0 Dc.eq_def Wg);have Ko:=Rd.eq_def;refine Wh K Tryz.func183 [.tmp 4] rfl 45 rfl (fun c hc cvs hpre=>?_);unfold Rd at hpre;obtain ⟨s,i,rfl,hs,hi0,hi1⟩:=Jr hpre;obtain ⟨i,rfl⟩:∃ n:Nat,i=n:=⟨i.toNat,by omega⟩
 clear hpre;obtain ⟨R,Q2⟩:=exq (Ba s i);have hR2:=Q2;unfold Ba at hR2;have hl:A0.length=24:=rfl;have hsz:∀ x∈A0,x.length≤2:=by decide
 obtain ⟨l,Qh⟩:=exq (A0);rw [Qh] at hR2 hl hsz;have Qi:(l.length:Int)=24:=by rw [hl];rfl
 cases hc;refine Ys 2 ?_;have Kq:w470k:=⟨⟩;exact V3
theorem fB {s:List UInt8}:∀ {f i:Nat} {out:List UInt8},(Ax f s i out).2.2≠0→(Ax f s i out).2.1=0
 | 0,_,_,_=>rfl
 | f+1,i,out,h=>by
  unfold Ax at h ⊢;split at h
  ·rename_i a;rw [if_pos a]
  rename_i a;rw [if_neg a];split at h
  ·exact absurd rfl h
  rename_i a;rw [if_neg a];split at h
  ·rename_i a;rw [if_pos a]
  rename_i a;rw [if_neg a];split at h
  ·rename_i a;rw [if_pos a];split at h
   ·rename_i a;rw [if_pos a]
   rename_i a;rw [if_neg a];exact fB h
  ·rename_i a;rw [if_neg a];exact fB h
theorem Zc4 {s:List UInt8} {i W:Nat} (hW:W≤s.length) {q:Nat} (hq:i+q<W):((s.take W).drop i).getD q 0=s.getD (i+q) 0:=by
 have h1:i+q<(s.take W).length:=by rw [List.length_take];omega
 rw [Zc,Zc,List.getElem?_drop,List.getElem?_take,if_pos hq]
theorem yD {s:List UInt8} {i W:Nat} (hi:i≤W) (hW:W≤s.length) (h:∀ m,i≤m→m<W→Xo (s.getD m 0)=true):((s.take W).drop i).all Xo=true:=by
 have hl:((s.take W).drop i).length=W-i:=by rw [List.length_drop,List.length_take];omega
 refine B4 (p:=Xo) 0 fun j hj=>?_;rw [hl] at hj;rw [Zc4 hW (by omega)]
 exact h _ (by omega) (by omega)
theorem Ak {s:List UInt8} {i W m:Nat} (hW:W≤s.length) (h1:i≤m) (h2:m<W) (h:Xo (s.getD m 0)=false):((s.take W).drop i).all Xo=false:=by
 have hl:((s.take W).drop i).length=W-i:=by rw [List.length_drop,List.length_take];omega
 refine R8 (p:=Xo) 0 (m-i) (by omega) ?_
 rw [Zc4 hW (by omega),show i+(m-i)=m by omega]
 exact h
theorem fI {s:List UInt8} {i:Nat}:(Ba s i).length≤2:=by
 have h:∀ l:List (List UInt8),(∀ x∈l,x.length≤2)→(P9 s i l).length≤2:=by
  intro l
  induction l with
  | nil=>intro _;simp [P9]
  | cons x l ih =>
   intro hl;rw [P9];cases bL s i x
   ·exact ih fun y hy=>hl y (List.mem_cons_of_mem _ hy)
   ·exact hl x (by simp)
 exact h A0 (by decide)
def aG:Con:=Zab (fun (s:List UInt8) (i:Int)=>s.length≤1000000∧0≤i∧i<s.length) (fun s i=>Oc s i.toNat)
structure w474k:Prop
theorem w474k.k (_:w474k) {p:Prop} (h:p:=by
 repeat' first|exact Qg|with_reducible apply And.intro|intro _
 all_goals first|with_reducible exact Jf|omega|exact ⟨k+1,by exact Qy,by omega,by omega,h4,by omega⟩|skip):p:=h
structure w476k:Prop
theorem w476k.k (_:w476k) {p:Prop} (h:p:=by
 repeat' first|exact Qg|with_reducible apply And.intro|intro _
 all_goals first|with_reducible exact Jf|omega|exact ⟨j+1,by exact Qy,by omega,by omega,Eq.mpr hQ hq,by omega⟩|skip):p:=h
structure w475k:Prop
theorem w475k.k (_:w475k) {p:Prop} (h:p:=by
 repeat' first|exact Qg|with_reducible apply And.intro|intro _
 all_goals try exact hlp
 all_goals try omega
 refine Zh [5,71,72,73,74,75,76,77,78,79,80,81] (fun j:Nat=>[(11,.d (.int .i64 j))]) (fun j:Nat=>[]) (fun j:Nat=>i≤j∧j≤W∧∀ m,i≤m→m<j→Xo (s.getD m 0)=true) (fun j:Nat=>W-j) i ?_ ?_ ?_
 ·exact ⟨by omega,by omega,fun m h1 h2=>absurd h2 (by omega)⟩
 ·exact Qy
 rintro j ⟨g1,g2,g3⟩;rcases Zl j W with ⟨hjt,Zy⟩|⟨hjt,Zy⟩
 ·have hfnj:=hfn g1 hjt;have hyj:Xo (s.getD j 0)=true→∀ m,i≤m→m<j+1→Xo (s.getD m 0)=true:=fun h m a b=>by
   rcases Nat.lt_or_ge m j with q|q
   ·exact g3 m a q
   ·have:m=j:=by omega
    subst this;exact h
  obtain ⟨Q,hQ⟩:=exq ((∀ m,i≤m→m<j+1→Xo (s.getD m 0)=true));rw [hQ] at hyj;obtain ⟨d,Qu⟩:=exq (s.getD j 0);rw [Qu] at hfnj hyj;cases Zz:Xo d with
  | true =>
   have hq:=hyj Zz;have Z8:=@Jk;have Kq:w476k:=⟨⟩;exact V3
  | false =>
   rw [hfnj Zz,if_neg (by simp)] at hR2
   subst hR2;have Z8:=@Jk;exact M2
 ·rw [hfy (fun m a b=>g3 m a (by omega)),if_pos rfl] at hR2
  subst hR2;have Z8:=@Jk;exact M2):p:=h
structure w478k:Prop
theorem w478k.k (_:w478k) {p:Prop} (h:p:=by
 repeat' first|exact Qg|with_reducible apply And.intro|intro _
 all_goals first|with_reducible exact Jf|omega|exact ⟨j+1,by exact Qy,by omega,by omega,Eq.mpr hQ hq,by omega⟩|skip):p:=h
structure w477k:Prop
theorem w477k.k (_:w477k) {p:Prop} (h:p:=by
 repeat' first|exact Qg|with_reducible apply And.intro|intro _
 all_goals try exact hlp
 all_goals try omega
 refine Zh [5,71,72,73,74,75,76,77,78,79,80,81] (fun j:Nat=>[(11,.d (.int .i64 j))]) (fun j:Nat=>[]) (fun j:Nat=>i≤j∧j≤W∧∀ m,i≤m→m<j→Xo (s.getD m 0)=true) (fun j:Nat=>W-j) i ?_ ?_ ?_
 ·exact ⟨by omega,by omega,fun m h1 h2=>absurd h2 (by omega)⟩
 ·exact Qy
 rintro j ⟨g1,g2,g3⟩;rcases Zl j W with ⟨hjt,Zy⟩|⟨hjt,Zy⟩
 ·have hfnj:=hfn g1 hjt;have hyj:Xo (s.getD j 0)=true→∀ m,i≤m→m<j+1→Xo (s.getD m 0)=true:=fun h m a b=>by
   rcases Nat.lt_or_ge m j with q|q
   ·exact g3 m a q
   ·have:m=j:=by omega
    subst this;exact h
  obtain ⟨Q,hQ⟩:=exq ((∀ m,i≤m→m<j+1→Xo (s.getD m 0)=true));rw [hQ] at hyj;obtain ⟨d,Qu⟩:=exq (s.getD j 0);rw [Qu] at hfnj hyj;cases Zz:Xo d with
  | true =>
   have hq:=hyj Zz;have Z8:=@Jk;have Kq:w478k:=⟨⟩;exact V3
  | false =>
   rw [hfnj Zz,if_neg (by simp)] at hR2
   subst hR2;have Z8:=@Jk;exact M2
 ·rw [hfy (fun m a b=>g3 m a (by omega)),if_pos rfl] at hR2
  subst hR2;have Z8:=@Jk;exact M2):p:=h
structure w473k:Prop
theorem w473k.k (_:w473k) {p:Prop} (h:p:=by
 repeat' first|exact Qg|with_reducible apply And.intro|intro _
 refine Zh [34,35,36,37,38,39,40,41,42,43,44,45] (fun k:Nat=>[(9,.d (.int .i64 k))]) (fun k:Nat=>[]) (fun k:Nat=>i≤k∧k≤s.length∧k+Ua (s.drop k)=W) (fun k:Nat=>s.length-k) i ?_ ?_ ?_
 ·exact ⟨by omega,by omega,hW⟩
 ·exact Qy
 rintro k ⟨h1,h2,h3⟩;rcases Zl k s.length with ⟨hlt,Z9⟩|⟨hlt,Z9⟩
 ·rw [Mq hlt,Ua] at h3;obtain ⟨d,Qu⟩:=exq (s.getD k 0);rw [Qu] at h3;cases Q0:zF d with
  | true =>
   rw [Q0,cond_true] at h3;have h4:k+1+Ua (s.drop (k+1))=W:=by omega
   have Kq:w474k:=⟨⟩;exact V3
  | false =>
   rw [Q0,cond_false,Nat.add_zero] at h3;rw [h3] at Z9 Qu hlt;rw [h3];clear h3 h1 h2;obtain ⟨P,Q2⟩:=exq ((s.take W).drop i);rw [Q2] at hR2 hlp;have hfn:=fun {m:Nat} (a1:i≤m) (a2:m<W) (a3:Xo (s.getD m 0)=false)=>Ak hWl a1 a2 a3;have hfy:=yD (s:=s) hWi hWl;rw [Q2] at hfn hfy;cases Qz:Pg P with
   | true =>
    rw [Qz,if_pos rfl] at hR2;subst hR2;have Z8:=@Jk;exact M2
   | false =>
   rw [Qz,if_neg (by simp)] at hR2
   cases Zv:cW P with
   | true =>
    rw [Zv,if_pos rfl] at hR2;subst hR2;have Z8:=@Jk;exact M2
   | false =>
   rw [Zv,if_neg (by simp)] at hR2
   cases Zx:Wo P with
   | true =>
    rw [Zx,if_pos rfl] at hR2;subst hR2;have Z8:=@Jk;exact M2
   | false =>
   rw [Zx,if_neg (by simp)] at hR2
   by_cases h0:0<Ua (s.drop i)
   ·rw [if_pos h0] at hR2;have Zu:Yr (i:Int) (W:Int)=true:=by rw [Jw];omega
    have Z4:(W:Int)-(i:Int)=(Ua (s.drop i):Int):=by omega
    have Z8:=@Jk;have Kq:w475k:=⟨⟩;exact V3
   ·rw [if_neg h0] at hR2;have Zu:Yr (i:Int) (W:Int)=false:=by rw [Q3];omega
    obtain ⟨g,Zs⟩:=exq (Ba s i);rw [Zs] at hR2;have hgl:g.length≤2:=by rw [←Zs];exact fI
    have Zt:(g != [])=!(g==[]):=rfl;subst hR2;have Z8:=@Jk;exact M2
 ·rw [List.drop_eq_nil_of_le hlt] at h3;have h3':k=W:=by simpa [Ua] using h3
  rw [h3'] at Z9 hlt;rw [h3'];clear h3 h1 h2 h3';obtain ⟨P,Q2⟩:=exq ((s.take W).drop i);rw [Q2] at hR2 hlp;have hfn:=fun {m:Nat} (a1:i≤m) (a2:m<W) (a3:Xo (s.getD m 0)=false)=>Ak hWl a1 a2 a3;have hfy:=yD (s:=s) hWi hWl;rw [Q2] at hfn hfy;cases Qz:Pg P with
  | true =>
   rw [Qz,if_pos rfl] at hR2;subst hR2;have Z8:=@Jk;exact M2
  | false =>
  rw [Qz,if_neg (by simp)] at hR2
  cases Zv:cW P with
  | true =>
   rw [Zv,if_pos rfl] at hR2;subst hR2;have Z8:=@Jk;exact M2
  | false =>
  rw [Zv,if_neg (by simp)] at hR2
  cases Zx:Wo P with
  | true =>
   rw [Zx,if_pos rfl] at hR2;subst hR2;have Z8:=@Jk;exact M2
  | false =>
  rw [Zx,if_neg (by simp)] at hR2
  by_cases h0:0<Ua (s.drop i)
  ·rw [if_pos h0] at hR2;have Zu:Yr (i:Int) (W:Int)=true:=by rw [Jw];omega
   have Z4:(W:Int)-(i:Int)=(Ua (s.drop i):Int):=by omega
   have Z8:=@Jk;have Kq:w477k:=⟨⟩;exact V3
  ·rw [if_neg h0] at hR2;have Zu:Yr (i:Int) (W:Int)=false:=by rw [Q3];omega
   obtain ⟨g,Zs⟩:=exq (Ba s i);rw [Zs] at hR2;have hgl:g.length≤2:=by rw [←Zs];exact fI
   have Zt:(g != [])=!(g==[]):=rfl;subst hR2;exfalso;omega):p:=h
theorem good_one2:Qr Tryz.prog (143,aG):=by
 obtain ⟨Kx,Kt,Kc,Kd,Kb,Ku,Kw,K,Yj,Kv,P4,B6,D2,It,bD,_⟩:=Wi Z3 Zn [] false (Ja good_Unquote1 Bt.eq_def (Ja good_goes2 Ri.eq_def (Ja good_IsTag1 fW (Ja good_IsKey2 Du.eq_def (Ja good_IsWord1 Sa (Ja good_figure2 Sy.eq_def (Ja good_sign2 Rd.eq_def Wg)))))));have Ko:=aG.eq_def;refine Wh K Tryz.func143 [.cell 4 141,.tmp 5] rfl 100 rfl (fun c hc cvs hpre=>?_);unfold aG at hpre;obtain ⟨s,i,rfl,hs,hi0,hi1⟩:=Zaa hpre;obtain ⟨i,rfl⟩:∃ n:Nat,i=n:=⟨i.toNat,by omega⟩
 clear hpre;have hi:i<s.length:=by omega
 obtain ⟨R,Z5⟩:=exq (Oc s i);have hR2:=Z5;unfold Oc at hR2;obtain ⟨c,Qh⟩:=exq (s.getD i 0);rw [Qh] at hR2;have Qi:((c.toNat:Int)==34)=(c==34):=Gd (b:=34);by_cases h34:c=34
 ·rw [if_pos h34] at hR2;have Z2:(c==34)=true:=beq_iff_eq.2 h34;have hdl:(s.drop i).length≤1000000:=by rw [List.length_drop];omega
  have hU:=Zas (s:=s.drop i);have hU4:(D9 (s.drop i)).2.2≠0→(D9 (s.drop i)).2.1=0:=by
   intro h;unfold D9 at h ⊢;split at h
   ·rename_i a;rw [if_pos a]
   ·rename_i a;rw [if_neg a];exact fB h
  obtain ⟨⟨x,n,e⟩,Qd⟩:=exq (D9 (s.drop i));rw [Qd] at hR2 hU hU4;simp only at hR2 hU hU4;rw [List.length_drop] at hU;have hn:0≤n∧n≤1000000:=by
   by_cases he:e=0
   ·have:=hU he;omega
   ·have:=hU4 he;omega
  subst hR2;cases hc;refine Ys 6 ?_;have Z8:=@Jk;exact M2
 have Z2:(c==34)=false:=beq_eq_false_iff_ne.2 h34;rw [if_neg h34] at hR2;have hw2:=Iu (s.drop i);rw [List.length_drop] at hw2;obtain ⟨W,hW⟩:=exq (i+Ua (s.drop i));have hWi:i≤W:=by omega
 have hWl:W≤s.length:=by omega
 unfold Ue at hR2;rw [hW] at hR2;have hW3:(i:Int)+(Ua (s.drop i):Int)=(W:Int):=by omega
 rw [hW3] at hR2;have hlp:((s.take W).drop i).length≤9223372036854775807:=by rw [List.length_drop,List.length_take];omega
 cases hc;refine Ys 6 ?_;have Kq:w473k:=⟨⟩;exact V3
theorem Zhd {s:List UInt8} {i:Nat} (hi:i<s.length) (h:(Oc s i).2=true):∃ n:Nat,(Oc s i).1.to=n∧i+1≤n∧n≤s.length:=by
 unfold Oc at h ⊢;have hw:=Iu (s.drop i);rw [List.length_drop] at hw;have hpl:(Ue s i).length=Ua (s.drop i):=by unfold Ue;rw [List.length_drop,List.length_take];omega
 split at h
 ·rename_i a;rw [if_pos a];have hU:=Zas (s:=s.drop i) (by simpa using h)
  rw [List.length_drop] at hU;exact ⟨i+(D9 (s.drop i)).2.1.toNat,by show (i:Int)+(D9 (s.drop i)).2.1=_;omega,by omega,by omega⟩
 rename_i a;rw [if_neg a];have hgo:∀ {k:Int} {x:List UInt8},x≠[]→x=Ue s i→∃ n:Nat,(Tok.mk k x i (i+Ua (s.drop i))).to=n∧i+1≤n∧n≤s.length:=fun {k x} hx he=>by
  have:x.length≠0:=by simpa using hx
  rw [he,hpl] at this;exact ⟨i+Ua (s.drop i),rfl,by omega,by omega⟩
 split at h
 ·rename_i a;rw [if_pos a];exact hgo (Zdu a) rfl
 rename_i a;rw [if_neg a];split at h
 ·rename_i a;rw [if_pos a];refine hgo ?_ rfl;intro e;rw [e] at a;exact absurd a (by decide)
 rename_i a;rw [if_neg a];split at h
 ·rename_i a;rw [if_pos a];exact hgo (zK a) rfl
 rename_i a;rw [if_neg a];split at h
 ·rename_i a;rw [if_pos a];split at h
  ·rename_i b;rw [if_pos b];exact ⟨i+Ua (s.drop i),rfl,by omega,by omega⟩
  ·cases h
 ·rename_i a;rw [if_neg a];have hs:Ba s i≠[]:=by simpa using h
  have hl:∀ l:List (List UInt8),P9 s i l≠[]→i+(P9 s i l).length≤s.length:=by
   intro l
   induction l with
   | nil=>intro h;exact absurd rfl h
   | cons x l ih =>
    rw [P9];cases hx:bL s i x with
    | false=>exact ih
    | true =>
     intro _;rw [cond_true];unfold bL at hx;rw [Zg,Qp] at hx;omega
  have:=hl A0 hs;have h0:(Ba s i).length≠0:=by simpa using hs
  unfold Ba at h0;exact ⟨i+(Ba s i).length,rfl,by unfold Ba;omega,by unfold Ba;omega⟩
def S0:Con:=Yg (fun (s:List UInt8)=>s.length≤9223372036854775807) (fun s=>(⟨(N5 s).1⟩,(N5 s).2.1,(N5 s).2.2):List UInt8→Sl Tok×Int×Int)
structure w480k:Prop
theorem w480k.k (_:w480k) {p:Prop} (h:p:=by
 repeat' first|exact Qg|with_reducible apply And.intro|intro _
 all_goals first|with_reducible exact Jf|omega|exact ⟨(f,b1,out++[Tok.mk tk tt tf n]),by rw [hS];exact Qy,by simp only;omega,by simp only;omega,by simp only [Zj,Zi,List.length_nil];omega,h4,by simp only;omega⟩|skip):p:=h
structure w481k:Prop
theorem w481k.k (_:w481k) {p:Prop} (h:p:=by
 repeat' first|exact Qg|with_reducible apply And.intro|intro _
 all_goals first|with_reducible exact Jf|omega|(rw [hS];rfl)|(rw [hS])|rfl|skip):p:=h
structure w479k:Prop
theorem w479k.k (_:w479k) {p:Prop} (h:p:=by
 repeat' first|exact Qg|with_reducible apply And.intro|intro _
 all_goals try omega
 refine Zh [2,3,4,7,8,15,16,17,18,19,20,21,22,23,24,25,26,27,28,29,30,31,32,33,34,35] (fun p:Nat×Nat×List Tok=>[(5,.sl 12 (p.2.2.map (enc:Tok→D)).length),(6,.d (.int .i64 p.2.1))]) (fun p:Nat×Nat×List Tok=>[(12,.row 4 (p.2.2.map enc) 0)]) (fun p:Nat×Nat×List Tok=>s.length+1≤p.1+p.2.1∧p.2.1≤s.length∧p.2.2.length≤p.2.1∧S3 p.1 s p.2.1 p.2.2=(R1,R2,R3)) (fun p:Nat×Nat×List Tok=>s.length-p.2.1) (s.length+1,b0,[]) ?_ ?_ ?_
 ·exact ⟨by simp only;omega,by simp only;omega,by simp,hR2⟩
 ·exact Qy
 rintro ⟨f,i,out⟩ ⟨h1,h2,h3,h4⟩;simp only at h1 h2 h3 h4;obtain ⟨f,rfl⟩:∃ g,f=g+1:=⟨f-1,by omega⟩
 rw [S3] at h4;have Qu:(out.map (enc:Tok→D)).length=out.length:=Zk ..;rcases Zl i s.length with ⟨hlt,Qd⟩|⟨hlt,Qd⟩
 ·rw [if_neg (by omega)] at h4
  have hto:=Zhd hlt;obtain ⟨⟨t,ok⟩,Z5⟩:=exq (Oc s i);rw [Z5] at h4 hto;simp only at h4 hto;cases ok with
  | false =>
   rw [if_pos rfl] at h4;injection h4 with e1 e2
   injection e2 with e2 e3
   subst e1 e2 e3;have Q0:=@Jk;have Q2:=@Be;exact M2
  | true =>
   rw [if_neg (by simp)] at h4
   obtain ⟨n,hn,hn1,hn2⟩:=hto rfl;have hbn:=Fi (s:=s) hn2;obtain ⟨tk,tt,tf,tto⟩:=t;simp only at hn;subst hn;simp only [Ze] at h4;obtain ⟨b1,Z9⟩:=exq (D8 s n);rw [Z9] at h4 hbn;have hS:(out++[Tok.mk tk tt tf n]).map (enc:Tok→D)=out.map enc++[.agg [.int .i64 tk,.str tt,.int .i64 tf,.int .i64 n]]:=by rw [List.map_append];rfl
   have Q0:=@Jk;have Q2:=@Be;have Kq:w480k:=⟨⟩;exact V3
 ·rw [if_pos (by omega)] at h4
  injection h4 with e1 e2
  injection e2 with e2 e3
  subst e1 e2 e3;have hS:(out++[Tok.mk 0 [] s.length s.length]).map (enc:Tok→D)=out.map enc++[.agg [.int .i64 0,.str [],.int .i64 s.length,.int .i64 s.length]]:=by rw [List.map_append];rfl
  have hS2:((out++[Tok.mk 0 [] s.length s.length]).map (enc:Tok→D)).length=out.length+1:=by simp
  have Q0:=@Jk;have Q2:=@Be;have Kq:w481k:=⟨⟩;exact V3):p:=h
theorem good_Tokens2:Qr Tryz.prog (103,S0):=by
 obtain ⟨Kx,Kt,Kc,Kd,Kb,Ku,Kw,K,Yj,Kv,_⟩:=Wi Z3 Zn [] false (Ja good_between2 Bs.eq_def (Ja good_one2 aG.eq_def Wg));have Ko:=S0.eq_def;refine Wh K Tryz.func103 [.tmp 2,.tmp 3,.tmp 4] rfl 45 rfl (fun c hc cvs hpre=>?_);unfold S0 at hpre;obtain ⟨s,rfl,hs⟩:=iP hpre;clear hpre;obtain ⟨⟨R1,R2,R3⟩,Qi⟩:=exq (N5 s);have hR2:=Qi;unfold N5 at hR2;by_cases h0:100000<s.length
 ·rw [if_pos h0] at hR2;have Qh:Yr 100000 (s.length:Int)=true:=by rw [Jw];omega
  injection hR2 with e1 e2
  injection e2 with e2 e3
  subst e1 e2 e3;cases hc;refine Ys 2 ?_;have Q0:=@Be;exact M2
 have Qh:Yr 100000 (s.length:Int)=false:=by rw [Q3];omega
 rw [if_neg h0] at hR2;have hb0:=Fi (s:=s) (i:=0) (by omega)
 obtain ⟨b0,Z2⟩:=exq (D8 s 0);rw [Z2] at hR2 hb0;cases hc;refine Ys 2 ?_;have Q0:=@Int.toNat_zero;have Q2:=@Be;have Kq:w479k:=⟨⟩;exact V3
theorem Kh {l:List Tok} {k:Nat}:tk l (k:Int)=l.getD k Yy:=by unfold tk;rw [Ze]
def Nm:Con:=Um (fun (_:St4) (_ _:Int)=>True) (fun s i e=>Yx s i e)
theorem Ss:Qr Tryz.prog (264,Nm):=by
 obtain ⟨Kx,Kt,Kc,Kd,Kb,Ku,Kw,K,_⟩:=Wi Z3 Zn [] false Wg;have Ko:=Nm.eq_def;refine Wh K Tryz.func264 [.cell 6 261] rfl 12 rfl (fun c hc cvs hpre=>?_);unfold Nm at hpre;obtain ⟨s,i,e,rfl,-⟩:=Gl hpre;obtain ⟨R,Qh⟩:=exq (Yx s i e);have Qi:R=⟨i,s.site,s.sites,e⟩:=Qh.symm;cases hc;have Z2:=@Su;have Qd:=@Gw;have Z5:=@G4;have Z9:=@Sb;exact M2
def Di:Con:=Um (fun (l:Sl Tok) (i:Int) (_:List UInt8)=>l.l.length≤1000000∧0≤i) (fun l i x=>Bc l.l i x)
theorem O0:Qr Tryz.prog (263,Di):=by
 obtain ⟨Kx,Kt,Kc,Kd,Kb,Ku,Kw,K,_⟩:=Wi Z3 Zn [] false Wg;have Ko:=Di.eq_def;refine Wh K Tryz.func263 [.tmp 6] rfl 28 rfl (fun c hc cvs hpre=>?_);unfold Di at hpre;obtain ⟨⟨l⟩,i,x,rfl,hl,hi⟩:=Gl hpre;simp only at hl;obtain ⟨i,rfl⟩:∃ n:Nat,i=n:=⟨i.toNat,by omega⟩
 clear hpre;obtain ⟨R,Qd⟩:=exq (Bc l i x);have Z5:=Qd;unfold Bc at Z5;rw [Kh] at Z5;rcases Zl i l.length with ⟨hlt,Qh⟩|⟨hlt,Qh⟩
 ·have Qi:=Zo Yy hlt;obtain ⟨t,ht⟩:=exq (l.getD i Yy);rw [ht] at Qi Z5;rw [Qh,Bool.true_and] at Z5;obtain ⟨b1,Z2⟩:=exq ((t.kind==5));rw [Z2] at Z5;cases b1 with
  | false =>
   rw [Bool.false_and] at Z5;subst Z5;cases hc;have Z9:=@Jk;have Qu:=@Yd;have Q0:=@Yf;have Q2:=@W9;have Qz:=@Be;exact M2
  | true =>
   rw [Bool.true_and] at Z5;cases hc;have Z9:=@Jk;have Qu:=@Yd;have Q0:=@Yf;have Q2:=@W9;have Qz:=@Be;exact M2
 ·rw [Qh,Bool.false_and] at Z5;subst Z5;cases hc;have Z9:=@Jk;have Qu:=@Yd;have Q0:=@Yf;have Q2:=@W9;have Qz:=@Be;exact Zip
def Rk:Con:=Xy (fun (_:Tok)=>True) (fun t=>eQ t)
structure w482k:Prop
theorem w482k.k (_:w482k) {p:Prop} (h:p:=by
 repeat' first|exact Qg|with_reducible apply And.intro|intro _
 all_goals first|with_reducible exact Jf|(rw [←hR2];clear hR2 Qh K;simp_all;done)|(symm;rw [←hR2];clear hR2 Qh K;simp_all;done)|skip):p:=h
theorem good_base4:Qr Tryz.prog (267,Rk):=by
 obtain ⟨Kx,Kt,Kc,Kd,Kb,Ku,Kw,K,_⟩:=Wi Z3 Zn [] false Wg;have Ko:=Rk.eq_def;refine Wh K Tryz.func267 [.tmp 2] rfl 16 rfl (fun c hc cvs hpre=>?_);unfold Rk at hpre;obtain ⟨t,rfl,-⟩:=J4 hpre;clear hpre;obtain ⟨R,Qh⟩:=exq (eQ t);have hR2:=Qh;unfold eQ at hR2;cases hc;have Qi:=@Jk;have Z2:=@Yd;have Qd:=@Yf;have Z5:=@W9;have Z9:=@Be;have Kq:w482k:=⟨⟩;exact V3
def Lu:Con:=Um (fun (l:Sl Tok) (s:St4) (_:List UInt8)=>l.l.length≤1000000∧0≤s.at_∧s.at_≤2000000) (fun l s x=>Yl l.l s x)
theorem dN:Qr Tryz.prog (269,Lu):=by
 obtain ⟨Kx,Kt,Kc,Kd,Kb,Ku,Kw,K,Yj,Kv,_⟩:=Wi Z3 Zn [] false (Ja O0 Di.eq_def (Ja Ss Nm.eq_def Wg));have Ko:=Lu.eq_def;refine Wh K Tryz.func269 [.cell 6 261] rfl 26 rfl (fun c hc cvs hpre=>?_);unfold Lu at hpre;obtain ⟨⟨l⟩,s,x,rfl,hl,hs0,hs1⟩:=Gl hpre;simp only at hl;clear hpre;obtain ⟨R,Qi⟩:=exq (Yl l s x);rcases Gv l s x with ⟨h1,Z5⟩|⟨h1,Z5⟩|⟨h1,Z5,h3⟩
 ·have Z2:R=s:=Qi.symm.trans Z5;have Qh:(s.e != 0)=true:=bne_iff_ne.2 h1;cases hc;have Z9:=@Su;have Qu:=@Gw;have Q0:=@G4;have Q2:=@Sb;exact Zip
 ·have Z2:R=Yx s s.at_ 2:=Qi.symm.trans Z5;have Qh:(s.e != 0)=false:=by rw [h1];rfl
  have Qd:Bc l s.at_ x=false:=by
   cases hb:Bc l s.at_ x with
   | false=>rfl
   | true =>
    unfold Yl at Z5;rw [if_neg (by simpa using h1),hb,if_neg (by simp)] at Z5
    have:=congrArg St4.e Z5;rw [show (Wm s).e=s.e from rfl,h1] at this;exact absurd this (by show ¬ (0:Int)=2;decide)
  cases hc;have Z9:=@Su;have Qu:=@Gw;have Q0:=@G4;have Q2:=@Sb;exact M2
 ·have Z2:R=⟨s.at_+1,s.site,s.sites,s.e⟩:=Qi.symm.trans h3;have Qh:(s.e != 0)=false:=by rw [h1];rfl
  cases hc;have Z9:=@Su;have Qu:=@Gw;have Q0:=@G4;have Q2:=@Sb;exact M2
def Dh:Con:=Wc (fun (k:Int) (s:List UInt8)=>(k=6∨k=7)∧s.length≤9223372036854775807) (fun k s=>Ym k s)
structure w483k:Prop
theorem w483k.k (_:w483k) {p:Prop} (h:p:=by
 repeat' first|exact Qg|with_reducible apply And.intro|intro _
 all_goals first|omega|(rw [←hR2];simp_all;done)|(symm;rw [←hR2];simp_all;done)|skip):p:=h
structure w484k:Prop
theorem w484k.k (_:w484k) {p:Prop} (h:p:=by
 repeat' first|exact Qg|with_reducible apply And.intro|intro _
 all_goals first|omega|(rw [←hR2];simp_all;done)|(symm;rw [←hR2];simp_all;done)|skip):p:=h
theorem good_label3:Qr Tryz.prog (275,Dh):=by
 obtain ⟨Kx,Kt,Kc,Kd,Kb,Ku,Kw,K,Yj,Kv,_⟩:=Wi Z3 Zn [] false (Ja good_IsTag1 fW (Ja good_IsWord1 Sa Wg));have Ko:=Dh.eq_def;refine Wh K Tryz.func275 [.tmp 4] rfl 19 rfl (fun c hc cvs hpre=>?_);unfold Dh at hpre;obtain ⟨k,s,rfl,hk,hs⟩:=Jr hpre;clear hpre;obtain ⟨R,Qi⟩:=exq (Ym k s);have hR2:=Qi;unfold Ym at hR2;obtain ⟨w,Qh⟩:=exq (Wo s);obtain ⟨g,Z2⟩:=exq (Pg s);rw [Qh,Z2] at hR2;rcases hk with rfl|rfl
 ·rw [if_neg (by decide)] at hR2
  cases hc;have Kq:w483k:=⟨⟩;exact V3
 ·rw [if_pos rfl] at hR2;cases hc;have Kq:w484k:=⟨⟩;exact V3
def fE (types:List (List Node)):Nat:=(types.map List.length).sum
theorem Zmn {types:List (List Node)} {k:Nat} (h:k<types.length):(types.getD k []).length≤fE types:=by
 unfold fE
 induction types generalizing k with
 | nil=>simp at h
 | cons t types ih =>
  rw [List.map_cons,List.sum_cons];cases k with
  | zero=>simp
  | succ k =>
   have:=ih (k:=k) (by simpa using h)
   rw [List.getD_cons_succ];omega
def Zh6 (labels:List (List UInt8)) (types:List (List Node)):Prop:=labels.length=types.length∧1≤types.length∧types.length≤50∧fE types≤1000000∧(∀ t∈types,t≠[])∧∀ x∈labels,x.length≤9223372036854775807
def aI:Con:=Wq (fun (k:Int) (labels:Sl (List UInt8)) (types:Sl (Sl Node))=>(k=6∨k=7)∧Zh6 labels.l (types.l.map Sl.l)) (fun k labels types=>((⟨(I1 k labels.l (types.l.map Sl.l)).1⟩,(I1 k labels.l (types.l.map Sl.l)).2):Sl Node×Int))
theorem iQ {types:List (Sl Node)} {k:Nat}:(types.map Sl.l).getD k []=(types.getD k ⟨[]⟩).l:=by
 rw [Zc,Zc,List.getElem?_map];cases types[k]?<;>rfl
structure w486k:Prop
theorem w486k.k (_:w486k) {p:Prop} (h:p:=by
 repeat' first|exact Qg|with_reducible apply And.intro|intro _
 all_goals first|with_reducible exact Jf|omega|exact Or.inr trivial|exact ⟨j+1,by exact Qy,by omega,Eq.mpr hQ hq,by omega⟩|skip):p:=h
structure w489k:Prop
theorem w489k.k (_:w489k) {p:Prop} (h:p:=by
 repeat' first|exact Qg|with_reducible apply And.intro|intro _
 all_goals first|with_reducible exact Jf|omega|exact ⟨m+1,by rw [hb',hS];exact Qy,by omega,by omega⟩|skip):p:=h
structure w490k:Prop
theorem w490k.k (_:w490k) {p:Prop} (h:p:=by
 repeat' first|exact Qg|with_reducible apply And.intro|intro _
 all_goals first|with_reducible exact Jf|omega|exact ⟨m+1,by rw [hb',hS1];exact Qy,by omega,by omega⟩|skip):p:=h
structure w491k:Prop
theorem w491k.k (_:w491k) {p:Prop} (h:p:=by
 repeat' first|exact Qg|with_reducible apply And.intro|intro _
 all_goals first|with_reducible exact Jf|omega|exact ⟨m+1,by rw [hb',hS];exact Qy,by omega,by omega⟩|skip):p:=h
structure w492k:Prop
theorem w492k.k (_:w492k) {p:Prop} (h:p:=by
 repeat' first|exact Qg|with_reducible apply And.intro|intro _
 all_goals first|with_reducible exact Jf|omega|exact ⟨m+1,by rw [hb',hS];exact Qy,by omega,by omega⟩|skip):p:=h
structure w493k:Prop
theorem w493k.k (_:w493k) {p:Prop} (h:p:=by
 repeat' first|exact Qg|with_reducible apply And.intro|intro _
 all_goals first|with_reducible exact Jf|omega|exact ⟨(i+1,x,O2),by (have Ks:=hlen;have Iv:=hP3;exact Qy),by simp only;omega,by simp only;rw [show types.length-(i+1)=types.length-i-1 by omega];exact h2,by simp only;omega,by simp only;omega⟩|skip):p:=h
structure w488k:Prop
theorem w488k.k (_:w488k) {p:Prop} (h:p:=by
 repeat' first|exact Qg|with_reducible apply And.intro|intro _
 all_goals try with_reducible exact Jf
 refine Zh [66,67,68,69,70,71,72,73,74,75,76,77,78,79,80,81,82,83,84,85,86,87,88,89,90,91,92,93] (fun m:Nat=>[(12,.d (.int .i64 (Wy labels done m))),(13,.d (.int .i64 m))]) (fun m:Nat=>[]) (fun m:Nat=>m≤types.length) (fun m:Nat=>types.length-m) 0 ?_ ?_ ?_
 ·omega
 ·have Ks:=@Wy.eq_1;have Iv:=@Wy.eq_2;exact Qy
 rintro m hm;have hsp:=L6 labels done m;rcases Zl m types.length with ⟨hmt,Qz⟩|⟨hmt,Qz⟩
 ·have Z5:=Zo ([]:List UInt8) (show m<labels.length by omega)
  have hS:Wy labels done (m+1)=cond (Op.bytesLess done (labels.getD m [])&&(Yr (Wy labels done m) 0||Op.bytesLess (labels.getD m []) (labels.getD (Wy labels done m).toNat []))) (m:Int) (Wy labels done m):=rfl;have hB:Wy labels done m=-1∨(0≤Wy labels done m∧Wy labels done m<m):=by
   rcases hsp with ⟨h,_⟩|⟨b,Zz,he,_⟩
   ·exact .inl h
   ·exact .inr ⟨by omega,by omega⟩
  clear hsp;obtain ⟨b,Zz⟩:=exq (Wy labels done m);obtain ⟨b',hb'⟩:=exq (Wy labels done (m+1));rw [Zz] at hB hS;rw [hb'] at hS;rw [Zz];obtain ⟨x,hx⟩:=exq (labels.getD m []);rw [hx] at Z5 hS;have Zv:=less_not x done;cases hl1:Op.bytesLess done x with
  | false =>
   rw [hl1,Bool.false_and,cond_false] at hS;rw [hl1,Bool.not_false] at Zv;have Kq:w489k:=⟨⟩;exact V3
  | true =>
   rw [hl1,Bool.true_and] at hS;rw [hl1,Bool.not_true] at Zv;rcases hB with hB|⟨hB0,hBk⟩
   ·subst hB;have hS1:b'=m:=hS;have Kq:w490k:=⟨⟩;exact V3
   ·obtain ⟨p,rfl⟩:=Int.eq_ofNat_of_zero_le hB0;have Zx:=Zo ([]:List UInt8) (show p<labels.length by omega)
    have Zu:Yr (p:Int) 0=false:=by rw [Q3];omega
    rw [Ze] at hS;obtain ⟨y,hy⟩:=exq (labels.getD p []);rw [hy] at Zx hS;rw [Zu,Bool.false_or] at hS;cases Zy:Op.bytesLess x y with
    | true =>
     rw [Zy,cond_true] at hS;have Kq:w491k:=⟨⟩;exact V3
    | false =>
     rw [Zy,cond_false] at hS;have Kq:w492k:=⟨⟩;exact V3
 ·have hme:m=types.length:=by omega
  rw [hme] at hsp Qz;rw [hme];rcases hsp with ⟨Zz,_⟩|⟨b,hbt,Zz,_⟩
  ·rw [Zz] at h2;rw [if_pos (by decide)] at h2
   injection h2 with e1 e2
   subst e1 e2;exact M2
  ·rw [Zz] at h2;rw [if_neg (by omega),Ze] at h2
   have Z5:=Zo ([]:List UInt8) (show b<labels.length by omega)
   have Zs:=Zo (⟨[]⟩:Sl Node) hbt;obtain ⟨t1,t2⟩:=hty b hbt;rw [hTg b] at h2;have Z4:Yr (b:Int) 0=false:=by rw [Q3];omega
   obtain ⟨x,hx⟩:=exq (labels.getD b []);rw [hx] at Z5 h2;obtain ⟨⟨u⟩,hu⟩:=exq (types.getD b ⟨[]⟩);rw [hu] at Zs t1 t2 h2;simp only at t1 t2 h2;cases u with
   | nil=>exact absurd rfl t1
   | cons y r =>
    have Qj:=yX (P:=out) (n:=y) (r:=r) (s:=x);have Z8:=Zef (P:=out) (n:=y) (r:=r);have Zt:out.map (enc:Node→D)++(y::r).map enc=(out++y::r).map enc:=by simp
    have hlen:(out++y::r).length=out.length+(r.length+1):=by simp
    have Qw:((out++y::r).map (enc:Node→D)).length=out.length+(r.length+1):=by rw [Zk,hlen]
    have hP3:(out++named x (y::r)).length=out.length+(r.length+1):=by rw [Zj,yH];rfl
    simp only [Zi] at t2;obtain ⟨O2,hO2⟩:=exq (out++named x (y::r));rw [hO2] at h2 Qj hP3;obtain ⟨Q,hQ⟩:=exq (out++y::r);rw [hQ] at Qj Z8 Zt hlen Qw;obtain ⟨yr,hyr⟩:=exq (y::r);rw [hyr] at Zs Zt;have hyl:yr.length=r.length+1:=by rw [←hyr];rfl
    have Qv:(yr.map (enc:Node→D)).length=r.length+1:=by rw [Zk,hyl]
    have Kq:w493k:=⟨⟩;exact V3):p:=h
structure w487k:Prop
theorem w487k.k (_:w487k) {p:Prop} (h:p:=by
 repeat' first|exact Qg|with_reducible apply And.intro|intro _
 all_goals try with_reducible exact Jf
 refine Zh [6,7,12,13,14,60,61,62,63,64,65,66,67,68,69,70,71,72,73,74,75,76,77,78,79,80,81,82,83,84,85,86,87,88,89,90,91,92,93,94,95,96,97,98,99,100,101,102,103,104,105,106,107,108,109,110,111,112] (fun p:Nat×List UInt8×List Node=>[(9,.sl 59 (p.2.2.map (enc:Node→D)).length),(10,.d (.str p.2.1)),(11,.d (.int .i64 p.1))]) (fun p:Nat×List UInt8×List Node=>[(59,.row 3 (p.2.2.map enc) 0)]) (fun p:Nat×List UInt8×List Node=>p.1≤types.length∧eA labels T (types.length-p.1) p.2.1 p.2.2=(R1,R2)∧p.2.2.length≤1+1000000*p.1) (fun p:Nat×List UInt8×List Node=>types.length-p.1) (0,[],[⟨6,[],types.length⟩]) ?_ ?_ ?_
 ·exact ⟨by simp,hR2,by simp⟩
 ·have Ks:=@Qf;exact Qy
 rintro ⟨i,done,out⟩ ⟨h1,h2,h3⟩;simp only at h1 h2 h3;have Qt:(out.map (enc:Node→D)).length=out.length:=Zk ..;rcases Zl i types.length with ⟨hit,Q2⟩|⟨hit,Q2⟩
 ·rw [show types.length-i=(types.length-i-1)+1 by omega,eA,hTl] at h2
  have Kq:w488k:=⟨⟩;exact V3
 ·have hie:types.length-i=0:=by omega
  rw [hie] at h2;injection h2 with e1 e2
  subst e1 e2;exact M2):p:=h
structure w485k:Prop
theorem w485k.k (_:w485k) {p:Prop} (h:p:=by
 repeat' first|exact Qg|with_reducible apply And.intro|intro _
 all_goals try with_reducible exact Jf
 all_goals try exact Or.inr trivial
 refine Zh [6,7,42,43,44,45,46,47,48,49,50,51,52,53,54] (fun j:Nat=>[(8,.d (.int .i64 j))]) (fun j:Nat=>[]) (fun j:Nat=>j≤types.length∧∀ m,m<j→Ym 6 (labels.getD m [])=true) (fun j:Nat=>types.length-j) 0 ?_ ?_ ?_
 ·simp
 ·exact Qy
 rintro j ⟨hj,hno⟩;rcases Zl j types.length with ⟨hjt,Qd⟩|⟨hjt,Qd⟩
 ·have Z5:=Zo ([]:List UInt8) (show j<labels.length by omega)
  have hxl:=r6 (labels.getD j []) (by simp [show j<labels.length by omega])
  have hst:Ym 6 (labels.getD j [])=true→∀ m,m<j+1→Ym 6 (labels.getD m [])=true:=fun h=>U7 hno h;obtain ⟨Q,hQ⟩:=exq ((∀ m,m<j+1→Ym 6 (labels.getD m [])=true));rw [hQ] at hst;have hbad:Ym 6 (labels.getD j [])=false→((List.range types.length).all fun k=>Ym 6 (labels.getD k []))=false:=fun h=>M3 j hjt h;obtain ⟨x,hx⟩:=exq (labels.getD j []);rw [hx] at Z5 hxl hst hbad;cases Z9:Ym 6 x with
  | true =>
   have hq:=hst Z9;have Kq:w486k:=⟨⟩;exact V3
  | false =>
   rw [hbad Z9,if_pos rfl] at hR2;injection hR2 with e1 e2
   subst e1 e2;exact M2
 ·rw [Gq (fun m hm=>hno m (by omega)),if_neg (by simp)] at hR2
  have Kq:w487k:=⟨⟩;exact V3):p:=h
structure w495k:Prop
theorem w495k.k (_:w495k) {p:Prop} (h:p:=by
 repeat' first|exact Qg|with_reducible apply And.intro|intro _
 all_goals first|with_reducible exact Jf|omega|exact Or.inr trivial|exact ⟨j+1,by exact Qy,by omega,Eq.mpr hQ hq,by omega⟩|skip):p:=h
structure w498k:Prop
theorem w498k.k (_:w498k) {p:Prop} (h:p:=by
 repeat' first|exact Qg|with_reducible apply And.intro|intro _
 all_goals first|with_reducible exact Jf|omega|exact ⟨m+1,by rw [hb',hS];exact Qy,by omega,by omega⟩|skip):p:=h
structure w499k:Prop
theorem w499k.k (_:w499k) {p:Prop} (h:p:=by
 repeat' first|exact Qg|with_reducible apply And.intro|intro _
 all_goals first|with_reducible exact Jf|omega|exact ⟨m+1,by rw [hb',hS1];exact Qy,by omega,by omega⟩|skip):p:=h
structure w500k:Prop
theorem w500k.k (_:w500k) {p:Prop} (h:p:=by
 repeat' first|exact Qg|with_reducible apply And.intro|intro _
 all_goals first|with_reducible exact Jf|omega|exact ⟨m+1,by rw [hb',hS];exact Qy,by omega,by omega⟩|skip):p:=h
structure w501k:Prop
theorem w501k.k (_:w501k) {p:Prop} (h:p:=by
 repeat' first|exact Qg|with_reducible apply And.intro|intro _
 all_goals first|with_reducible exact Jf|omega|exact ⟨m+1,by rw [hb',hS];exact Qy,by omega,by omega⟩|skip):p:=h
structure w502k:Prop
theorem w502k.k (_:w502k) {p:Prop} (h:p:=by
 repeat' first|exact Qg|with_reducible apply And.intro|intro _
 all_goals first|with_reducible exact Jf|omega|exact ⟨(i+1,x,O2),by (have Ks:=hlen;have Iv:=hP3;exact Qy),by simp only;omega,by simp only;rw [show types.length-(i+1)=types.length-i-1 by omega];exact h2,by simp only;omega,by simp only;omega⟩|skip):p:=h
structure w497k:Prop
theorem w497k.k (_:w497k) {p:Prop} (h:p:=by
 repeat' first|exact Qg|with_reducible apply And.intro|intro _
 all_goals try with_reducible exact Jf
 refine Zh [66,67,68,69,70,71,72,73,74,75,76,77,78,79,80,81,82,83,84,85,86,87,88,89,90,91,92,93] (fun m:Nat=>[(12,.d (.int .i64 (Wy labels done m))),(13,.d (.int .i64 m))]) (fun m:Nat=>[]) (fun m:Nat=>m≤types.length) (fun m:Nat=>types.length-m) 0 ?_ ?_ ?_
 ·omega
 ·have Ks:=@Wy.eq_1;have Iv:=@Wy.eq_2;exact Qy
 rintro m hm;have hsp:=L6 labels done m;rcases Zl m types.length with ⟨hmt,Qz⟩|⟨hmt,Qz⟩
 ·have Z5:=Zo ([]:List UInt8) (show m<labels.length by omega)
  have hS:Wy labels done (m+1)=cond (Op.bytesLess done (labels.getD m [])&&(Yr (Wy labels done m) 0||Op.bytesLess (labels.getD m []) (labels.getD (Wy labels done m).toNat []))) (m:Int) (Wy labels done m):=rfl;have hB:Wy labels done m=-1∨(0≤Wy labels done m∧Wy labels done m<m):=by
   rcases hsp with ⟨h,_⟩|⟨b,Zz,he,_⟩
   ·exact .inl h
   ·exact .inr ⟨by omega,by omega⟩
  clear hsp;obtain ⟨b,Zz⟩:=exq (Wy labels done m);obtain ⟨b',hb'⟩:=exq (Wy labels done (m+1));rw [Zz] at hB hS;rw [hb'] at hS;rw [Zz];obtain ⟨x,hx⟩:=exq (labels.getD m []);rw [hx] at Z5 hS;have Zv:=less_not x done;cases hl1:Op.bytesLess done x with
  | false =>
   rw [hl1,Bool.false_and,cond_false] at hS;rw [hl1,Bool.not_false] at Zv;have Kq:w498k:=⟨⟩;exact V3
  | true =>
   rw [hl1,Bool.true_and] at hS;rw [hl1,Bool.not_true] at Zv;rcases hB with hB|⟨hB0,hBk⟩
   ·subst hB;have hS1:b'=m:=hS;have Kq:w499k:=⟨⟩;exact V3
   ·obtain ⟨p,rfl⟩:=Int.eq_ofNat_of_zero_le hB0;have Zx:=Zo ([]:List UInt8) (show p<labels.length by omega)
    have Zu:Yr (p:Int) 0=false:=by rw [Q3];omega
    rw [Ze] at hS;obtain ⟨y,hy⟩:=exq (labels.getD p []);rw [hy] at Zx hS;rw [Zu,Bool.false_or] at hS;cases Zy:Op.bytesLess x y with
    | true =>
     rw [Zy,cond_true] at hS;have Kq:w500k:=⟨⟩;exact V3
    | false =>
     rw [Zy,cond_false] at hS;have Kq:w501k:=⟨⟩;exact V3
 ·have hme:m=types.length:=by omega
  rw [hme] at hsp Qz;rw [hme];rcases hsp with ⟨Zz,_⟩|⟨b,hbt,Zz,_⟩
  ·rw [Zz] at h2;rw [if_pos (by decide)] at h2
   injection h2 with e1 e2
   subst e1 e2;exact M2
  ·rw [Zz] at h2;rw [if_neg (by omega),Ze] at h2
   have Z5:=Zo ([]:List UInt8) (show b<labels.length by omega)
   have Zs:=Zo (⟨[]⟩:Sl Node) hbt;obtain ⟨t1,t2⟩:=hty b hbt;rw [hTg b] at h2;have Z4:Yr (b:Int) 0=false:=by rw [Q3];omega
   obtain ⟨x,hx⟩:=exq (labels.getD b []);rw [hx] at Z5 h2;obtain ⟨⟨u⟩,hu⟩:=exq (types.getD b ⟨[]⟩);rw [hu] at Zs t1 t2 h2;simp only at t1 t2 h2;cases u with
   | nil=>exact absurd rfl t1
   | cons y r =>
    have Qj:=yX (P:=out) (n:=y) (r:=r) (s:=x);have Z8:=Zef (P:=out) (n:=y) (r:=r);have Zt:out.map (enc:Node→D)++(y::r).map enc=(out++y::r).map enc:=by simp
    have hlen:(out++y::r).length=out.length+(r.length+1):=by simp
    have Qw:((out++y::r).map (enc:Node→D)).length=out.length+(r.length+1):=by rw [Zk,hlen]
    have hP3:(out++named x (y::r)).length=out.length+(r.length+1):=by rw [Zj,yH];rfl
    simp only [Zi] at t2;obtain ⟨O2,hO2⟩:=exq (out++named x (y::r));rw [hO2] at h2 Qj hP3;obtain ⟨Q,hQ⟩:=exq (out++y::r);rw [hQ] at Qj Z8 Zt hlen Qw;obtain ⟨yr,hyr⟩:=exq (y::r);rw [hyr] at Zs Zt;have hyl:yr.length=r.length+1:=by rw [←hyr];rfl
    have Qv:(yr.map (enc:Node→D)).length=r.length+1:=by rw [Zk,hyl]
    have Kq:w502k:=⟨⟩;exact V3):p:=h
structure w496k:Prop
theorem w496k.k (_:w496k) {p:Prop} (h:p:=by
 repeat' first|exact Qg|with_reducible apply And.intro|intro _
 all_goals try with_reducible exact Jf
 refine Zh [6,7,12,13,14,60,61,62,63,64,65,66,67,68,69,70,71,72,73,74,75,76,77,78,79,80,81,82,83,84,85,86,87,88,89,90,91,92,93,94,95,96,97,98,99,100,101,102,103,104,105,106,107,108,109,110,111,112] (fun p:Nat×List UInt8×List Node=>[(9,.sl 59 (p.2.2.map (enc:Node→D)).length),(10,.d (.str p.2.1)),(11,.d (.int .i64 p.1))]) (fun p:Nat×List UInt8×List Node=>[(59,.row 3 (p.2.2.map enc) 0)]) (fun p:Nat×List UInt8×List Node=>p.1≤types.length∧eA labels T (types.length-p.1) p.2.1 p.2.2=(R1,R2)∧p.2.2.length≤1+1000000*p.1) (fun p:Nat×List UInt8×List Node=>types.length-p.1) (0,[],[⟨7,[],types.length⟩]) ?_ ?_ ?_
 ·exact ⟨by simp,hR2,by simp⟩
 ·have Ks:=@Qf;exact Qy
 rintro ⟨i,done,out⟩ ⟨h1,h2,h3⟩;simp only at h1 h2 h3;have Qt:(out.map (enc:Node→D)).length=out.length:=Zk ..;rcases Zl i types.length with ⟨hit,Q2⟩|⟨hit,Q2⟩
 ·rw [show types.length-i=(types.length-i-1)+1 by omega,eA,hTl] at h2
  have Kq:w497k:=⟨⟩;exact V3
 ·have hie:types.length-i=0:=by omega
  rw [hie] at h2;injection h2 with e1 e2
  subst e1 e2;exact M2):p:=h
structure w494k:Prop
theorem w494k.k (_:w494k) {p:Prop} (h:p:=by
 repeat' first|exact Qg|with_reducible apply And.intro|intro _
 all_goals try with_reducible exact Jf
 all_goals try exact Or.inr trivial
 refine Zh [6,7,42,43,44,45,46,47,48,49,50,51,52,53,54] (fun j:Nat=>[(8,.d (.int .i64 j))]) (fun j:Nat=>[]) (fun j:Nat=>j≤types.length∧∀ m,m<j→Ym 7 (labels.getD m [])=true) (fun j:Nat=>types.length-j) 0 ?_ ?_ ?_
 ·simp
 ·exact Qy
 rintro j ⟨hj,hno⟩;rcases Zl j types.length with ⟨hjt,Qd⟩|⟨hjt,Qd⟩
 ·have Z5:=Zo ([]:List UInt8) (show j<labels.length by omega)
  have hxl:=r6 (labels.getD j []) (by simp [show j<labels.length by omega])
  have hst:Ym 7 (labels.getD j [])=true→∀ m,m<j+1→Ym 7 (labels.getD m [])=true:=fun h=>U7 hno h;obtain ⟨Q,hQ⟩:=exq ((∀ m,m<j+1→Ym 7 (labels.getD m [])=true));rw [hQ] at hst;have hbad:Ym 7 (labels.getD j [])=false→((List.range types.length).all fun k=>Ym 7 (labels.getD k []))=false:=fun h=>M3 j hjt h;obtain ⟨x,hx⟩:=exq (labels.getD j []);rw [hx] at Z5 hxl hst hbad;cases Z9:Ym 7 x with
  | true =>
   have hq:=hst Z9;have Kq:w495k:=⟨⟩;exact V3
  | false =>
   rw [hbad Z9,if_pos rfl] at hR2;injection hR2 with e1 e2
   subst e1 e2;exact M2
 ·rw [Gq (fun m hm=>hno m (by omega)),if_neg (by simp)] at hR2
  have Kq:w496k:=⟨⟩;exact V3):p:=h
theorem good_Row3:Qr Tryz.prog (274,aI):=by
 obtain ⟨Kx,Kt,Kc,Kd,Kb,Ku,Kw,K,Yj,_⟩:=Wi Z3 Zn [] false (Ja good_label3 Dh.eq_def Wg);have Ko:=aI.eq_def;refine Wh K Tryz.func274 [.tmp 6,.tmp 7] rfl 114 rfl (fun c hc cvs hpre=>?_);unfold aI at hpre;obtain ⟨k,⟨labels⟩,⟨types⟩,rfl,hk,hRow⟩:=G6 hpre;simp only at hRow;obtain ⟨r1,r2,r3,r4,r5,r6⟩:Zh6 labels (types.map Sl.l):=hRow;rw [Zk] at r1 r2 r3;clear hpre;obtain ⟨⟨R1,R2⟩,Qu⟩:=exq (I1 k labels (types.map Sl.l));have hR2:=Qu;unfold I1 at hR2;rw [Zk,if_neg (by omega)] at hR2
 have Qh:((labels.length:Int) != (types.length:Int))=false:=by rw [bne_eq_false_iff_eq];omega
 have Qi:Yr 50 (types.length:Int)=false:=by rw [Q3];omega
 have Z2:((types.length:Int)==0)=false:=by rw [Zf];omega
 have hty:∀ j,j<types.length→(types.getD j ⟨[]⟩).l≠[]∧(types.getD j ⟨[]⟩).l.length≤1000000:=fun j hj=>by
  have h1:=Zmn (types:=types.map Sl.l) (k:=j) (by rw [Zk];exact hj)
  rw [iQ] at h1;refine ⟨r5 _ ?_,by omega⟩
  rw [List.mem_map];exact ⟨_,by simp [hj],rfl⟩
 have hTl:(types.map Sl.l).length=types.length:=Zk ..;have hTg:=fun k=>iQ (types:=types) (k:=k);obtain ⟨T,Q0⟩:=exq (types.map Sl.l);rw [Q0] at Qu hR2 hTl hTg;clear r5 r4;cases hc;refine Ys 7 ?_;rcases hk with rfl|rfl
 ·have Kq:w485k:=⟨⟩;exact V3
 ·have Kq:w494k:=⟨⟩;exact V3
def Zem {A B C E F H R S:Type} [Enc A] [Enc B] [Enc C] [Enc E] [Enc F] [Enc H] [Enc R] [Enc S] (p:A→B→C→E→F→H→Prop) (f:A→B→C→E→F→H→R×S):Con:=⟨[false,false,false,false,false,false],[false,false],fun c=>match c with
 | [.d x,.d y,.d z,.d w,.d u,.d v]=>Up A x∧Up B y∧Up C z∧Up E w∧Up F u∧Up H v∧p (dec x) (dec y) (dec z) (dec w) (dec u) (dec v)
 | _=>False,fun c=>match c with
 | [.d x,.d y,.d z,.d w,.d u,.d v]=>.tup [.d (enc (f (dec x) (dec y) (dec z) (dec w) (dec u) (dec v)).1),.d (enc (f (dec x) (dec y) (dec z) (dec w) (dec u) (dec v)).2)]
 | _=>.d .nilp⟩
theorem Zel {A B C E F H R S:Type} [Enc A] [Enc B] [Enc C] [Enc E] [Enc F] [Enc H] [Enc R] [Enc S] {p:A→B→C→E→F→H→Prop} {f:A→B→C→E→F→H→R×S} {c:List CV} (h:(Zem p f).pre c) :
  ∃ a b d e g i,c=[.d (enc a),.d (enc b),.d (enc d),.d (enc e),.d (enc g),.d (enc i)]∧p a b d e g i:=by
 unfold Zem at h;simp only at h;split at h
 ·next x y z w u v=>exact ⟨dec x,dec y,dec z,dec w,dec u,dec v,by rw [←h.1,←h.2.1,←h.2.2.1,←h.2.2.2.1,←h.2.2.2.2.1,←h.2.2.2.2.2.1],h.2.2.2.2.2.2⟩
 ·exact h.elim
structure St4Ok (l:List Tok) (s:St4):Prop where
 len:l.length≤100000
 lo:0≤s.at_
 hi:s.at_≤l.length
 sites:(s.sites.length:Int)≤1000000+s.at_
 site:0≤s.site∧s.site≤1000000+s.at_
 txt:∀ t∈l,t.text.length≤9223372036854775807
def Xl (n:Nat):Con:=Wq (fun (l:Sl Tok) (s:St4) (v:Int)=>St4Ok l.l s∧1≤v∧v≤100∧3*(101-v)+2<n) (fun l s v=>((⟨(Xd (101-v).toNat l.l s).1⟩,(Xd (101-v).toNat l.l s).2):Sl Node×St4))
theorem Pb:type_of% @Xl.eq_def:=@Xl.eq_def
def My (n:Nat):Con:=Wq (fun (l:Sl Tok) (s:St4) (v:Int)=>St4Ok l.l s∧1≤v∧v≤100∧3*(101-v)+1<n) (fun l s v=>((⟨(Mk (Xd (100-v).toNat) (100-v).toNat l.l s).1⟩,(Mk (Xd (100-v).toNat) (100-v).toNat l.l s).2):Sl Node×St4))
def Ms (n:Nat):Con:=Zem (fun (l:Sl Tok) (s:St4) (v k:Int) (_ _:List UInt8)=>(St4Ok l.l s∧s.e=0∧1≤s.at_)∧(k=6∨k=7)∧1≤v∧v≤100∧3*(101-v)+3<n) (fun l s v k a b=>((⟨(dK (Xd (101-v).toNat) l.l s k a b).1⟩,(dK (Xd (101-v).toNat) l.l s k a b).2):Sl Node×St4))
structure IH4 (n:Nat):Prop where
 whole:Qr Tryz.prog (259,Xl n)
 atom:Qr Tryz.prog (262,My n)
 rows:Qr Tryz.prog (268,Ms n)
theorem eL:∀ c,¬ (Xl 0).pre c:=by
 intro c h;unfold Xl at h;obtain ⟨_,_,_,_,_,_,_,h⟩:=G6 h;omega
theorem iO:∀ c,¬ (My 0).pre c:=by
 intro c h;unfold My at h;obtain ⟨_,_,_,_,_,_,_,h⟩:=G6 h;omega
theorem iH:∀ c,¬ (Ms 0).pre c:=by
 intro c h;unfold Ms at h;obtain ⟨_,_,_,_,_,_,_,_,_,_,_,h⟩:=Zel h;omega
theorem Az {l:List Tok} {s:St4} {r:List Node×St4} (h:St4Ok l s) (hE:Eats l s r) (he:r.2.e=0):St4Ok l r.2:=by
 obtain ⟨h1,h2,h3,h4,h5,h6⟩:=h;have h7:=(hE.ok he).2.1;obtain ⟨h8,h9,h10⟩:=hE.sites he;exact ⟨h1,hE.lo,h7,by omega,by omega,h6⟩
theorem Zav (n:Nat) (ih:IH4 n):Qr Tryz.prog (259,(Xl (n+1))):=by
 obtain ⟨Kx,Kt,Kc,Kd,Kb,Ku,Kw,K,Yj,Kv,P4,B6,D2,_⟩:=Wi Z3 Zn [] false (Ja ih.atom (My.eq_def n) (Ja ih.whole (Pb n) (Ja O0 Di.eq_def (Ja Ss Nm.eq_def (Ja good_Arrow3 Dv.eq_def Wg)))));have Ko:=(Pb (n+1));refine Wh K Tryz.func259 [.tmp 6,.cell 7 261] rfl 53 rfl (fun c hc cvs hpre=>?_);unfold Xl at hpre;obtain ⟨⟨l⟩,s,v,rfl,hS,hv1,hv2,hn⟩:=G6 hpre;simp only at hS;clear hpre;obtain ⟨d,hd⟩:∃ d:Nat,v=100-d:=⟨(100-v).toNat,by omega⟩
 subst hd;have Qh:(101-(100-(d:Int))).toNat=d+1:=by omega
 have Qi:(100-(100-(d:Int))).toNat=d:=by omega
 have Q2:(101-(100-(d:Int)+1)).toNat=d:=by omega
 obtain ⟨R,Z5⟩:=exq (Xd (d+1) l s);have hR2:=Z5;rw [Xd] at hR2;have hEa:=zR (l:=l) (w:=Xd d) (d:=d) (s:=s) (fun hd s' h1 h2=>Ge d s' hd h1 h2) hS.lo hS.hi;obtain ⟨⟨a,q⟩,Z2⟩:=exq (Mk (Xd d) d l s);rw [Z2] at hR2 hEa;simp only at hR2;have hlo:=hEa.lo;have hhi:=hEa.hi;have hL:=hS.len;have hal:=hEa.len;simp only at hlo hhi hal;have hokq:q.e=0→St4Ok l q:=fun h=>Az hS hEa h;obtain ⟨qa,qi,qs,qe⟩:=q;simp only at hlo hhi hR2 hokq;have hA1:a.length≤100000:=by have:=hS.lo;omega
 cases hc;refine Ys 3 ?_;by_cases he:qe=0
 case neg =>
  rw [if_pos (.inl he)] at hR2;have Qd:(qe != 0)=true:=bne_iff_ne.2 he;subst hR2;have Zv:=@Su;have Zx:=@Gw;have Zu:=@G4;have Zy:=@Sb;exact M2
 have Qd:(qe != 0)=false:=by rw [he];rfl
 cases Z9:Bc l qa [45,62] with
 | false =>
  rw [if_pos (.inr Z9)] at hR2;subst hR2;have Zv:=@Su;have Zx:=@Gw;have Zu:=@G4;have Zy:=@Sb;exact M2
 | true =>
  rw [if_neg (by rw [Z9];simp [he])] at hR2
  by_cases hd0:d=0
  ·rw [if_pos hd0] at hR2;have Qu:Xu 100 (100-(d:Int))=true:=by rw [Qp];omega
   have Q0:Yx ⟨qa,qi,qs,qe⟩ qa 4=⟨qa,qi,qs,4⟩:=rfl;rw [Q0] at hR2;subst hR2;have Zv:=@Su;have Zx:=@Gw;have Zu:=@G4;have Zy:=@Sb;exact M2
  rw [if_neg hd0] at hR2;have Qu:Xu 100 (100-(d:Int))=false:=by rw [←Bool.not_eq_true,Qp];omega
  have hlt:=Ll Z9;have hok2:=hokq he;have hok3:St4Ok l ⟨qa+1,qi,qs,qe⟩:=by
   obtain ⟨h1,h2,h3,h4,h5,h6⟩:=hok2;simp only at h2 h3 h4 h5;exact ⟨h1,by show 0≤qa+1;omega,by show qa+1≤_;omega,by show (qs.length:Int)≤1000000+(qa+1);omega,by show 0≤qi∧qi≤1000000+(qa+1);omega,h6⟩
  have hEb:=Ge (l:=l) d ⟨qa+1,qi,qs,qe⟩ hd0 hok3.lo hok3.hi;have hadv:Wm ⟨qa,qi,qs,qe⟩=⟨qa+1,qi,qs,qe⟩:=rfl;rw [hadv] at hR2;obtain ⟨⟨b,q2⟩,Qz⟩:=exq (Xd d l ⟨qa+1,qi,qs,qe⟩);rw [Qz] at hR2 hEb;have hbl:=hEb.len;simp only at hR2 hbl;obtain ⟨q2a,q2i,q2s,q2e⟩:=q2;have hB1:b.length≤100000:=by omega
  subst hR2;have Zv:=@Su;have Zx:=@Gw;have Zu:=@G4;have Zy:=@Sb;exact M2
theorem gT {l:List Tok} {i:Int} {x:List UInt8} (h:Bc l i x=true):(tk l i).text=x:=by
 unfold Bc at h;simp only [Zg,Zp] at h;exact h.2.2
theorem cK {l:List Tok} {i:Int} {x y:List UInt8} (h:Bc l i x=true) (hxy:x≠y):Bc l i y=false:=by
 cases hb:Bc l i y with
 | false=>rfl
 | true=>exact absurd ((gT h).symm.trans (gT hb)) hxy
theorem Zil {s:List Site} {x:Site}:s.map (enc:Site→D)++[.agg [.int .i64 x.frm,.int .i64 x.to,.bool x.miss]]=(s++[x]).map enc:=by rw [List.map_append];rfl
theorem E7 {a b d:Int} {c:List Site}:(enc (St4.mk a b c d):D)=.agg [.int .i64 a,.int .i64 b,.list 3 (c.map enc),.int .i64 d]:=rfl
theorem Zko {p:Prop} (h:p:=by (sym=>simp [Kt,Kc,Kd,Kb,Ku,Kw,Ko,Yj,Kv,P4,B6,D2,It,bD,jC,jH,jG,Qh,Qi,Z2,Qd,Z5,Z9,Qu,Q0,Q2,Qz,Zv,Zx,Zu,Zy,Zz,Z4,Zs,Zt,Z8,Qt,Qw,Qv,Qj,Qq,Q6,Q9,Wb,Xp,X8,X7,X6,V7,V6,V5,Ul,Uk,Uj,D.setCell.eq_1,Ze,Jo,Zkd,Zem.eq_def,Q1,Jh,Jt,Xg,Xq,J8,J7,Js,Pb,Qn,Z7,G4,Yf,Jg,Qf,Z0,Yn,E7,Jk,Qm,Jn,Kr,Ql,Z6,Gw,Yd,Jj,Jc,X3,Qk,Qa,Bf,Mh,Ay,Be,W9,Xe,wU,wT,wS,wR,wP,wO,wN,wM,wL,wI,wH,wG,wF,wE,wD,wC,wB,wA,wK,wW,wV,wY,wJ,wX,wZ,wQ,vU,vT,vS,vR,vP,vO,vN,vM,vL,vI,vH,vG,vF,vE,vD,vC,vB,vA,vK,vW,vV,vY,vJ,vX,vZ,vQ,uU,uT,uS,uR,uP,uO,uN,uM,uL,uI,uH,uG,uF,uE,uD,uC,uB,uA,uK,uW,uV,uY,uJ,uX,uZ,uQ,tU,tT,tS,tR,tP,tO,tN,tM,tL,tI,tH,tG,tF,tE,tD,tC,tB,tA,tK,tW,tV,tY,tJ,tX,tZ,tQ,sU,sT,sS,sR,sP,sO,sN,sM,sL,sI,sH,sG,sF,sE,sD,sC,sB,sA,sK,sW,sV,sY,sJ,sX,sZ,sQ,rU,rT,rS,rR,rP,rO,rN,rM,rL,rI,rH,rG,rF,rE,rD,rC,rB,rA,rK,rW,rV,rY,rJ,rX,rZ,rQ,qU,qT,qS,qR,qP,qO,qN,qM,qL,qI,qH,qG,qF,qE,qD,qC,qB,qA,qK,qW,qV,qY,qJ,qX,qZ,qQ,pU,pT,pS,pR,pP,pO,pN,pM,pL,pI,pH,pG,pF,pE,pD,pC,pB,pA,pK,pW,pV,pY,pJ,pX,pZ,pQ,oU,oT,oS,oR,oP,oO,oN,oM,oL,oI,oH,oG,oF,oE,oD,oC,oB,oA,oK,oW,oV,oY,oJ,oX,oZ,oQ,nU,nT,nS,nR,nP,nO,nN,nM,nL,nI,nH,nG,nF,nE,nD,nC,nB,nA,nK,nW,nV,nY,nJ,nX,nZ,nQ,mU,mT,mS,mR,mP,mO,mN,mM,mL,mI,mH,mG,mF,mE,mD,mC,mB,mA,mK,mW,mV,mY,mJ,mX,mZ,mQ,lU,lT,lS,lR,lP,lO,lN,lM,lL,lI,lH,lG,lF,lE,lD,lC,lB,lA,lK,lW,lV,lY,lJ,lX,lZ,lQ,kU,kT,kS,kR,kP,kO,kN,kM,kL,kI,kH,kG,kF,kE,kD,kC,kB,kA,kK,kW,kV,kY,kJ,kX,kZ,kQ,jU,jT,jS,jR,jP,jO,jN,jM,jL,jI,S9,S8,S7,S6,S5,S4,H6,H5,H4,H3,H2,H1,H0,Hz,Hy,Hx,Hw,Hv,Hu,Ht,Hs,Hr,Hq,Hp,Ho,Hn,Hm,Hl,Hk,Hj,Hi,Hh,Hg,V2,V1,V0,Vz,Vy,Vx,Vw,Vv,Vu,Vt,Vs,Vr,Vq,Vp,Vo,Vn,Vm,Vl,Vk,Vj,Vi,Vh,Vg,Vf,Ve,Vd,Vc,Vb,Va,Y9,Y8])):p:=h
theorem eY {p:Prop} (h:p:=by
 (sym=>simp [Kt,Kc,Kd,Kb,Ku,Kw,Ko,Yj,Kv,P4,B6,D2,It,bD,jC,jH,jG,Qh,Qi,Z2,Qd,Z5,Z9,Qu,Q0,Q2,Qz,Zv,Zx,Zu,Zy,Zz,Z4,Zs,Zt,Z8,Qt,Qw,Qv,Qj,Qq,Q6,Q9,Wb,Xp,X8,X7,X6,V7,V6,V5,Ul,Uk,Uj,D.setCell.eq_1,Ze,Jo,Zkd,Zem.eq_def,Q1,Jh,Jt,Xg,Xq,J8,J7,Js,Pb,Qn,Z7,G4,Yf,Jg,Qf,Z0,Yn,E7,Jk,Qm,Jn,Kr,Ql,Z6,Gw,Yd,Jj,Jc,X3,Qk,Qa,Bf,Mh,Ay,Be,W9,Xe,wU,wT,wS,wR,wP,wO,wN,wM,wL,wI,wH,wG,wF,wE,wD,wC,wB,wA,wK,wW,wV,wY,wJ,wX,wZ,wQ,vU,vT,vS,vR,vP,vO,vN,vM,vL,vI,vH,vG,vF,vE,vD,vC,vB,vA,vK,vW,vV,vY,vJ,vX,vZ,vQ,uU,uT,uS,uR,uP,uO,uN,uM,uL,uI,uH,uG,uF,uE,uD,uC,uB,uA,uK,uW,uV,uY,uJ,uX,uZ,uQ,tU,tT,tS,tR,tP,tO,tN,tM,tL,tI,tH,tG,tF,tE,tD,tC,tB,tA,tK,tW,tV,tY,tJ,tX,tZ,tQ,sU,sT,sS,sR,sP,sO,sN,sM,sL,sI,sH,sG,sF,sE,sD,sC,sB,sA,sK,sW,sV,sY,sJ,sX,sZ,sQ,rU,rT,rS,rR,rP,rO,rN,rM,rL,rI,rH,rG,rF,rE,rD,rC,rB,rA,rK,rW,rV,rY,rJ,rX,rZ,rQ,qU,qT,qS,qR,qP,qO,qN,qM,qL,qI,qH,qG,qF,qE,qD,qC,qB,qA,qK,qW,qV,qY,qJ,qX,qZ,qQ,pU,pT,pS,pR,pP,pO,pN,pM,pL,pI,pH,pG,pF,pE,pD,pC,pB,pA,pK,pW,pV,pY,pJ,pX,pZ,pQ,oU,oT,oS,oR,oP,oO,oN,oM,oL,oI,oH,oG,oF,oE,oD,oC,oB,oA,oK,oW,oV,oY,oJ,oX,oZ,oQ,nU,nT,nS,nR,nP,nO,nN,nM,nL,nI,nH,nG,nF,nE,nD,nC,nB,nA,nK,nW,nV,nY,nJ,nX,nZ,nQ,mU,mT,mS,mR,mP,mO,mN,mM,mL,mI,mH,mG,mF,mE,mD,mC,mB,mA,mK,mW,mV,mY,mJ,mX,mZ,mQ,lU,lT,lS,lR,lP,lO,lN,lM,lL,lI,lH,lG,lF,lE,lD,lC,lB,lA,lK,lW,lV,lY,lJ,lX,lZ,lQ,kU,kT,kS,kR,kP,kO,kN,kM,kL,kI,kH,kG,kF,kE,kD,kC,kB,kA,kK,kW,kV,kY,kJ,kX,kZ,kQ,jU,jT,jS,jR,jP,jO,jN,jM,jL,jI,S9,S8,S7,S6,S5,S4,H6,H5,H4,H3,H2,H1,H0,Hz,Hy,Hx,Hw,Hv,Hu,Ht,Hs,Hr,Hq,Hp,Ho,Hn,Hm,Hl,Hk,Hj,Hi,Hh,Hg,V2,V1,V0,Vz,Vy,Vx,Vw,Vv,Vu,Vt,Vs,Vr,Vq,Vp,Vo,Vn,Vm,Vl,Vk,Vj,Vi,Vh,Vg,Vf,Ve,Vd,Vc,Vb,Va,Y9,Y8];tactic =>
   try simp only [Sh] at *
   try simp only [Zhf] at *
   try simp (maxSteps:=4000000) only [Qh,Qi,Z2,Qd,Z5,Z9,Qu,Q0,Q2,Qz,Zv,Zx,Zu,Zy,Zz,Z4,Zs,Zt,Z8,Qt,Qw,Qv,Qj,Qq,Q6,Q9,Wb,Xp,X8,X7,X6,V7,V6,V5,Ul,Uk,Uj,D.setCell.eq_1,Ze,Jo,Zkd,Zem.eq_def,Q1,Jh,Jt,Xg,Xq,J8,J7,Js,Pb,Qn,Z7,G4,Yf,Jg,Qf,Z0,Yn,E7,Jk,Qm,Jn,Kr,Ql,Z6,Gw,Yd,Jj,Jc,X3,Qk,Qa,Bf,Mh,Ay,Be,W9,Xe,Ix]
   first|done|exact Kq.k)):p:=h
theorem L9 {p:Prop} (h:p:=by
 (sym=>simp [Kt,Kc,Kd,Kb,Ku,Kw,Ko,Yj,Kv,P4,B6,D2,It,bD,jC,jH,jG,Qh,Qi,Z2,Qd,Z5,Z9,Qu,Q0,Q2,Qz,Zv,Zx,Zu,Zy,Zz,Z4,Zs,Zt,Z8,Qt,Qw,Qv,Qj,Qq,Q6,Q9,Wb,Xp,X8,X7,X6,V7,V6,V5,Ul,Uk,Uj,D.setCell.eq_1,Ze,Jo,Zkd,Zem.eq_def,Q1,Jh,Jt,Xg,Xq,J8,J7,Js,Pb,Qn,Z7,G4,Yf,Jg,Qf,Z0,Yn,E7,Jk,Qm,Jn,Kr,Ql,Z6,Gw,Yd,Jj,Jc,X3,Qk,Qa,Bf,Mh,Ay,Be,W9,Xe,wU,wT,wS,wR,wP,wO,wN,wM,wL,wI,wH,wG,wF,wE,wD,wC,wB,wA,wK,wW,wV,wY,wJ,wX,wZ,wQ,vU,vT,vS,vR,vP,vO,vN,vM,vL,vI,vH,vG,vF,vE,vD,vC,vB,vA,vK,vW,vV,vY,vJ,vX,vZ,vQ,uU,uT,uS,uR,uP,uO,uN,uM,uL,uI,uH,uG,uF,uE,uD,uC,uB,uA,uK,uW,uV,uY,uJ,uX,uZ,uQ,tU,tT,tS,tR,tP,tO,tN,tM,tL,tI,tH,tG,tF,tE,tD,tC,tB,tA,tK,tW,tV,tY,tJ,tX,tZ,tQ,sU,sT,sS,sR,sP,sO,sN,sM,sL,sI,sH,sG,sF,sE,sD,sC,sB,sA,sK,sW,sV,sY,sJ,sX,sZ,sQ,rU,rT,rS,rR,rP,rO,rN,rM,rL,rI,rH,rG,rF,rE,rD,rC,rB,rA,rK,rW,rV,rY,rJ,rX,rZ,rQ,qU,qT,qS,qR,qP,qO,qN,qM,qL,qI,qH,qG,qF,qE,qD,qC,qB,qA,qK,qW,qV,qY,qJ,qX,qZ,qQ,pU,pT,pS,pR,pP,pO,pN,pM,pL,pI,pH,pG,pF,pE,pD,pC,pB,pA,pK,pW,pV,pY,pJ,pX,pZ,pQ,oU,oT,oS,oR,oP,oO,oN,oM,oL,oI,oH,oG,oF,oE,oD,oC,oB,oA,oK,oW,oV,oY,oJ,oX,oZ,oQ,nU,nT,nS,nR,nP,nO,nN,nM,nL,nI,nH,nG,nF,nE,nD,nC,nB,nA,nK,nW,nV,nY,nJ,nX,nZ,nQ,mU,mT,mS,mR,mP,mO,mN,mM,mL,mI,mH,mG,mF,mE,mD,mC,mB,mA,mK,mW,mV,mY,mJ,mX,mZ,mQ,lU,lT,lS,lR,lP,lO,lN,lM,lL,lI,lH,lG,lF,lE,lD,lC,lB,lA,lK,lW,lV,lY,lJ,lX,lZ,lQ,kU,kT,kS,kR,kP,kO,kN,kM,kL,kI,kH,kG,kF,kE,kD,kC,kB,kA,kK,kW,kV,kY,kJ,kX,kZ,kQ,jU,jT,jS,jR,jP,jO,jN,jM,jL,jI,S9,S8,S7,S6,S5,S4,H6,H5,H4,H3,H2,H1,H0,Hz,Hy,Hx,Hw,Hv,Hu,Ht,Hs,Hr,Hq,Hp,Ho,Hn,Hm,Hl,Hk,Hj,Hi,Hh,Hg,V2,V1,V0,Vz,Vy,Vx,Vw,Vv,Vu,Vt,Vs,Vr,Vq,Vp,Vo,Vn,Vm,Vl,Vk,Vj,Vi,Vh,Vg,Vf,Ve,Vd,Vc,Vb,Va,Y9,Y8];tactic =>
   try simp only [Sh] at *
   try simp only [Zhf] at *
   try simp (maxSteps:=4000000) only [Qh,Qi,Z2,Qd,Z5,Z9,Qu,Q0,Q2,Qz,Zv,Zx,Zu,Zy,Zz,Z4,Zs,Zt,Z8,Qt,Qw,Qv,Qj,Qq,Q6,Q9,Wb,Xp,X8,X7,X6,V7,V6,V5,Ul,Uk,Uj,D.setCell.eq_1,Ze,Jo,Zkd,Zem.eq_def,Q1,Jh,Jt,Xg,Xq,J8,J7,Js,Pb,Qn,Z7,G4,Yf,Jg,Qf,Z0,Yn,E7,Jk,Qm,Jn,Kr,Ql,Z6,Gw,Yd,Jj,Jc,X3,Qk,Qa,Bf,Mh,Ay,Be,W9,Xe,Ix]
   repeat' first|with_reducible assumption|with_reducible apply And.intro|intro _|omega|(rw [Xb];omega)
   all_goals first|with_reducible exact Jf|omega|rfl|trivial|exact Or.inr trivial|assumption|contradiction|exact Qy)):p:=h
structure w503k:Prop
theorem w503k.k (_:w503k) {p:Prop} (h:p:=by
 repeat' first|exact Qg|with_reducible apply And.intro|intro _
 all_goals first|contradiction|with_reducible exact Jf|exact hS|exact hok3|exact ⟨hok3,he,by show (1:Int)≤(k:Int)+1;omega⟩|exact Or.inr trivial|omega|rfl|skip):p:=h
structure w504k:Prop
theorem w504k.k (_:w504k) {p:Prop} (h:p:=by
 repeat' first|exact Qg|with_reducible apply And.intro|intro _
 all_goals first|contradiction|with_reducible exact Jf|exact hS|exact hok3|exact ⟨hok3,he,by show (1:Int)≤(k:Int)+1;omega⟩|exact Or.inr trivial|omega|rfl|skip):p:=h
structure w505k:Prop
theorem w505k.k (_:w505k) {p:Prop} (h:p:=by
 repeat' first|exact Qg|with_reducible apply And.intro|intro _
 all_goals first|contradiction|with_reducible exact Jf|exact hS|exact hok3|exact ⟨hok3,he,by show (1:Int)≤(k:Int)+1;omega⟩|exact Or.inr trivial|omega|rfl|skip):p:=h
structure w506k:Prop
theorem w506k.k (_:w506k) {p:Prop} (h:p:=by
 repeat' first|exact Qg|with_reducible apply And.intro|intro _
 all_goals first|contradiction|with_reducible exact Jf|exact hS|exact hok3|exact ⟨hok3,he,by show (1:Int)≤(k:Int)+1;omega⟩|exact Or.inr trivial|omega|rfl|skip):p:=h
structure w507k:Prop
theorem w507k.k (_:w507k) {p:Prop} (h:p:=by
 repeat' first|exact Qg|with_reducible apply And.intro|intro _
 all_goals first|contradiction|with_reducible exact Jf|exact hS|exact hok3|exact ⟨hok3,he,by show (1:Int)≤(k:Int)+1;omega⟩|exact Or.inr trivial|omega|rfl|skip):p:=h
structure w508k:Prop
theorem w508k.k (_:w508k) {p:Prop} (h:p:=by
 repeat' first|exact Qg|with_reducible apply And.intro|intro _
 all_goals first|contradiction|with_reducible exact Jf|exact hS|exact hok3|exact ⟨hok3,he,by show (1:Int)≤(k:Int)+1;omega⟩|exact Or.inr trivial|omega|rfl|skip):p:=h
structure w509k:Prop
theorem w509k.k (_:w509k) {p:Prop} (h:p:=by
 repeat' first|exact Qg|with_reducible apply And.intro|intro _
 all_goals first|contradiction|with_reducible exact Jf|exact hS|exact hok3|exact ⟨hok3,he,by show (1:Int)≤(k:Int)+1;omega⟩|exact Or.inr trivial|omega|rfl|skip):p:=h
theorem stepi_atom4 (n:Nat) (ih:IH4 n):Qr Tryz.prog (262,(My (n+1))):=by
 obtain ⟨Kx,Kt,Kc,Kd,Kb,Ku,Kw,K,Yj,Kv,P4,B6,D2,It,_⟩:=Wi Z3 Zn [] false (Ja O0 Di.eq_def (Ja Ss Nm.eq_def (Ja good_base4 Rk.eq_def (Ja dN Lu.eq_def (Ja ih.rows (Ms.eq_def n) (Ja ih.whole (Pb n) Wg))))));have Ko:=(My.eq_def (n+1));refine Wh K Tryz.func262 [.tmp 6,.cell 7 261] rfl 164 rfl (fun c hc cvs hpre=>?_);unfold My at hpre;obtain ⟨⟨l⟩,⟨k,si,ss,e⟩,v,rfl,hS,hv1,hv2,hn⟩:=G6 hpre;simp only at hS;clear hpre;obtain ⟨d,hd⟩:∃ d:Nat,v=100-d:=⟨(100-v).toNat,by omega⟩
 subst hd;have Qh:(100-(100-(d:Int))).toNat=d:=by omega
 have Z8:(101-(100-(d:Int)+1)).toNat=d:=by omega
 have hlen:=hS.len;have hlo:=hS.lo;have hhi:=hS.hi;have hss:=hS.sites;have hsi:=hS.site;simp only at hlo hhi hss hsi;obtain ⟨k,rfl⟩:∃ n:Nat,k=n:=⟨k.toNat,by omega⟩
 obtain ⟨R,Z2⟩:=exq (Mk (Xd d) d l ⟨k,si,ss,e⟩);have hR2:=Z2;unfold Mk at hR2;simp only at hR2;have Q2:(ss.map (enc:Site→D)).length=ss.length:=Zk ..;cases hc;refine Ys 10 ?_;by_cases he:e=0
 case neg =>
  rw [if_pos he] at hR2;have Qi:(e != 0)=true:=bne_iff_ne.2 he;subst hR2;exact L9
 rw [if_neg (by simpa using he)] at hR2
 have Qi:(e != 0)=false:=by rw [he];rfl
 by_cases hlt:(l.length:Int)≤(k:Int)
 ·rw [if_pos hlt] at hR2;have Qd:Xu (l.length:Int) (k:Int)=true:=by rw [Qp];exact hlt
  subst hR2;have Z5:Yx ⟨(k:Int),si,ss,e⟩ (l.length:Int) 2=⟨l.length,si,ss,2⟩:=rfl;rw [Z5] at Z2;exact L9
 rw [if_neg hlt] at hR2;have hkl:k<l.length:=by omega
 have Qd:Xu (l.length:Int) (k:Int)=false:=by rw [←Bool.not_eq_true,Qp];exact hlt
 have Qu:=Zo Yy hkl;have htx:=hS.txt (l.getD k Yy) (by simp [hkl])
 have hit:=fun {x:List UInt8} (h:Bc l (k:Int) x=true)=>gT h;rw [Kh] at hR2;simp only [Kh] at hit;obtain ⟨t,ht⟩:=exq (l.getD k Yy);rw [ht] at Qu hR2 htx;simp only [ht] at hit;cases Z9:Bc l (k:Int) [63] with
 | true =>
  rw [Z9,if_pos rfl] at hR2;have Q0:=Zil (s:=ss) (x:=⟨t.frm,t.to,false⟩);have hsl:(ss++[Site.mk t.frm t.to false]).length=ss.length+1:=by simp
  obtain ⟨S2,hS2⟩:=exq (ss++[Site.mk t.frm t.to false]);rw [hS2] at Q0 hsl hR2;have Qz:(S2.map (enc:Site→D)).length=ss.length+1:=by rw [Zk,hsl]
  subst hR2;exact L9
 | false =>
 rw [Z9,if_neg (by simp)] at hR2
 obtain ⟨bs,Zv⟩:=exq (eQ t);rw [Zv] at hR2;by_cases hb0:0≤bs
 ·rw [if_pos hb0] at hR2;have Zx:Xu 0 bs=true:=by rw [Qp];exact hb0
  have Z5:Wm ⟨(k:Int),si,ss,e⟩=⟨(k:Int)+1,si,ss,e⟩:=rfl;rw [Z5] at hR2;subst hR2;exact L9
 rw [if_neg hb0] at hR2;have Zx:Xu 0 bs=false:=by rw [←Bool.not_eq_true,Qp];exact hb0
 have Zt:Yx ⟨(k:Int),si,ss,e⟩ (k:Int) 4=⟨k,si,ss,4⟩:=rfl;have Z4:Yx ⟨(k:Int),si,ss,e⟩ (k:Int) 2=⟨k,si,ss,2⟩:=rfl;have hadv:Wm ⟨(k:Int),si,ss,e⟩=⟨(k:Int)+1,si,ss,e⟩:=rfl;have hadv2:Wm ⟨(k:Int)+1,si,ss,e⟩=⟨(k:Int)+1+1,si,ss,e⟩:=rfl;rw [hadv,hadv2,Zt,Z4] at hR2;have hok3:St4Ok l ⟨(k:Int)+1,si,ss,e⟩:=⟨hlen,by show 0≤(k:Int)+1;omega,by show (k:Int)+1≤_;omega,by show (ss.length:Int)≤1000000+((k:Int)+1);omega,by show 0≤si∧si≤1000000+((k:Int)+1);omega,hS.txt⟩
 by_cases hnb:Bc l (k:Int) [40]=false∧Bc l (k:Int) [123]=false∧Bc l (k:Int) [91]=false
 ·rw [if_pos hnb] at hR2;obtain ⟨Zu,Zy,Zz⟩:=hnb;subst hR2;exact L9
 rw [if_neg hnb] at hR2;have h3:Bc l (k:Int) [40]=true∨(Bc l (k:Int) [123]=true∨Bc l (k:Int) [91]=true):=by
  cases h1:Bc l (k:Int) [40] with
  | true=>exact .inl rfl
  | false =>
   cases h2:Bc l (k:Int) [123] with
   | true=>exact .inr (.inl rfl)
   | false =>
    cases h3:Bc l (k:Int) [91] with
    | true=>exact .inr (.inr rfl)
    | false=>exact absurd ⟨h1,h2,h3⟩ hnb
 clear hnb;rcases h3 with Zu|Zy|Zz
 ·have htt:=hit Zu;by_cases hd0:d=0
  ·rw [if_pos hd0] at hR2;have Zs:Xu 100 (100-(d:Int))=true:=by rw [Qp];omega
   subst hR2;have Kq:w503k:=⟨⟩;exact eY
  rw [if_neg hd0] at hR2;have Zs:Xu 100 (100-(d:Int))=false:=by rw [←Bool.not_eq_true,Qp];omega
  rw [if_neg (by rw [htt];simp),if_neg (by rw [htt];decide),if_neg (by rw [htt];decide)] at hR2
  have Qt:(t.text==[123])=false:=by rw [htt];rfl
  have Qw:(t.text==[91])=false:=by rw [htt];rfl
  have hE:=Ge (l:=l) d ⟨(k:Int)+1,si,ss,e⟩ hd0 hok3.lo hok3.hi;obtain ⟨⟨wt,wq⟩,Z5⟩:=exq (Xd d l ⟨(k:Int)+1,si,ss,e⟩);rw [Z5] at hR2 hE;have hE1:=hE.lo;have hE2:=hE.hi;simp only at hR2 hE1 hE2;obtain ⟨wa,wi,ws,we⟩:=wq;simp only at hE1 hE2;obtain ⟨N,Qv⟩:=exq (Yl l ⟨wa,wi,ws,we⟩ [41]);rw [Qv] at hR2;obtain ⟨na,ni,ns,ne⟩:=N;subst hR2;have Kq:w504k:=⟨⟩;exact eY
 ·have htt:=hit Zy;have Zu:Bc l (k:Int) [40]=false:=cK Zy (by decide)
  by_cases hd0:d=0
  ·rw [if_pos hd0] at hR2;have Zs:Xu 100 (100-(d:Int))=true:=by rw [Qp];omega
   subst hR2;have Kq:w505k:=⟨⟩;exact eY
  rw [if_neg hd0] at hR2;have Zs:Xu 100 (100-(d:Int))=false:=by rw [←Bool.not_eq_true,Qp];omega
  have Qt:(t.text==[123])=true:=by rw [htt];rfl
  cases Qj:Bc l ((k:Int)+1) [125] with
  | true =>
   rw [if_pos ⟨htt,Qj⟩] at hR2;subst hR2;have Kq:w506k:=⟨⟩;exact eY
  | false =>
   rw [if_neg (by rw [Qj];simp),if_pos htt] at hR2
   obtain ⟨⟨wt,wq⟩,Z5⟩:=exq (dK (Xd d) l ⟨(k:Int)+1,si,ss,e⟩ 6 [44] [125]);rw [Z5] at hR2;obtain ⟨wa,wi,ws,we⟩:=wq;subst hR2;have Kq:w507k:=⟨⟩;exact eY
 ·have htt:=hit Zz;have Zu:Bc l (k:Int) [40]=false:=cK Zz (by decide)
  have Zy:Bc l (k:Int) [123]=false:=cK Zz (by decide)
  by_cases hd0:d=0
  ·rw [if_pos hd0] at hR2;have Zs:Xu 100 (100-(d:Int))=true:=by rw [Qp];omega
   subst hR2;have Kq:w508k:=⟨⟩;exact eY
  rw [if_neg hd0] at hR2;have Zs:Xu 100 (100-(d:Int))=false:=by rw [←Bool.not_eq_true,Qp];omega
  have Qt:(t.text==[123])=false:=by rw [htt];rfl
  have Qw:(t.text==[91])=true:=by rw [htt];rfl
  rw [if_neg (by rw [htt];simp),if_neg (by rw [htt];decide),if_pos htt] at hR2
  obtain ⟨⟨wt,wq⟩,Z5⟩:=exq (dK (Xd d) l ⟨(k:Int)+1,si,ss,e⟩ 7 [124] [93]);rw [Z5] at hR2;obtain ⟨wa,wi,ws,we⟩:=wq;subst hR2;have Kq:w509k:=⟨⟩;exact eY
theorem Ze1 {l:List (List UInt8)} {x:List UInt8} {j:Nat} (h:j<l.length) (hx:(l.getD j []==x)=true):(l.any fun y=>y==x)=true:=cN (p:=fun y=>y==x) [] j h hx
theorem Zci {l:List (List UInt8)} {x:List UInt8}:l.map (enc:List UInt8→D)++[.str x]=(l++[x]).map enc:=by rw [List.map_append];rfl
theorem Zhh {l:List (List Node)}:(l.map Sl.mk).map Sl.l=l:=by
 rw [List.map_map];have:(Sl.l∘Sl.mk:List Node→List Node)=id:=rfl;rw [this,List.map_id]
structure w512k:Prop
theorem w512k.k (_:w512k) {p:Prop} (h:p:=by
 repeat' first|exact Qg|with_reducible apply And.intro|intro _
 all_goals first|with_reducible exact Jf|omega|exact ⟨j+1,by exact Qy,by omega,Eq.mpr hQ hq,by omega⟩|exact ⟨j+1,by exact Qy,by omega,fun m hm=>by have h3:=(Eq.mpr hQ hq:∀ m,m<j+1→(labels.getD m []==t.text)=false) m hm;simpa using h3,by omega⟩|skip):p:=h
structure w513k:Prop
theorem w513k.k (_:w513k) {p:Prop} (h:p:=by
 repeat' first|exact Qg|with_reducible apply And.intro|intro _
 all_goals first|contradiction|with_reducible exact Jf|omega|assumption|exact ⟨(f,qa+1,qi,qs,L2,T2),by (have Ks:=hL2;have Iv:=htyl;exact Qy),by simp only;omega,by simp only;omega,by simp only;omega,by simp only;omega,hok2,htn,hL2e,g9,by simp only;omega⟩|skip):p:=h
structure w511k:Prop
theorem w511k.k (_:w511k) {p:Prop} (h:p:=by
 repeat' first|exact Qg|with_reducible apply And.intro|intro _
 all_goals first|contradiction|with_reducible exact Jf|omega|assumption|skip
 refine Zh [12,73,74,75,76,77,78,79,80,81,82,83,84,85,86,87,88,89,90,91,92,93] (fun j:Nat=>[(17,.d (.int .i64 j))]) (fun j:Nat=>[]) (fun j:Nat=>j≤labels.length∧∀ m,m<j→(labels.getD m []==t.text)=false) (fun j:Nat=>labels.length-j) 0 ?_ ?_ ?_
 ·simp
 ·exact Qy
 rintro j ⟨hj,hno⟩;rcases Zl j labels.length with ⟨hjt,Q2⟩|⟨hjt,Q2⟩
 ·have Qz:=Zo ([]:List UInt8) hjt;have hany:=Ze1 (x:=t.text) hjt;have hst:(labels.getD j []==t.text)=false→∀ m,m<j+1→(labels.getD m []==t.text)=false:=fun h=>U7 hno h;obtain ⟨Q,hQ⟩:=exq ((∀ m,m<j+1→(labels.getD m []==t.text)=false));rw [hQ] at hst;obtain ⟨y,hy⟩:=exq (labels.getD j []);rw [hy] at Qz hany hst;cases Zv:(y==t.text) with
  | true =>
   rw [if_pos (hany Zv)] at g9;subst g9;exact L9
  | false =>
   have hq:=hst Zv;have Kq:w512k:=⟨⟩;exact eY
 ·have hany:(labels.any fun y=>y==t.text)=false:=Dz (p:=fun y=>y==t.text) [] fun m hm=>hno m (by omega)
  rw [if_neg (by rw [hany];simp)] at g9
  by_cases h50:labels.length=50
  ·rw [if_pos h50] at g9;have Zu:((labels.length:Int)==50)=true:=by rw [Zp];omega
   subst g9;exact L9
  rw [if_neg h50] at g9;have Zu:((labels.length:Int)==50)=false:=by rw [Zf];omega
  have Z4:=Zci (l:=labels) (x:=t.text);have hL2:(labels++[t.text]).length=labels.length+1:=by simp
  have hL2e:∀ x∈labels++[t.text],x.length≤9223372036854775807:=fun x hx=>by
   rcases List.mem_append.1 hx with h|h
   ·exact g8 x h
   ·rw [Zr] at h;subst h;exact htx
  obtain ⟨L2,hL2d⟩:=exq (labels++[t.text]);rw [hL2d] at g9 Z4 hL2 hL2e;have Zz:(L2.map (enc:List UInt8→D)).length=labels.length+1:=by rw [Zk,hL2]
  have hss:=g6.sites;have hsi:=g6.site;simp only at hss hsi;have hc:=Gv l ⟨(k:Int)+1,si,ss,0⟩ [58];obtain ⟨N,Zs⟩:=exq (Yl l ⟨(k:Int)+1,si,ss,0⟩ [58]);rw [Zs] at hc g9;have hNok:St4Ok l N∧(N.e=0→(k:Int)+2≤N.at_):=by
   rcases hc with ⟨h1,_⟩|⟨_,h2⟩|⟨_,h2,h3⟩
   ·exact absurd rfl h1
   ·rw [h2];exact ⟨⟨hlen,by show 0≤(k:Int)+1;omega,by show (k:Int)+1≤l.length;omega,by show (ss.length:Int)≤1000000+((k:Int)+1);omega,by show 0≤si∧si≤1000000+((k:Int)+1);omega,htxt⟩,fun h=>absurd h (by show (2:Int)≠0;decide)⟩
   ·have:=Ll h2;simp only at this;rw [h3];exact ⟨⟨hlen,by show 0≤(k:Int)+1+1;omega,by show (k:Int)+1+1≤l.length;omega,by show (ss.length:Int)≤1000000+((k:Int)+1+1);omega,by show 0≤si∧si≤1000000+((k:Int)+1+1);omega,htxt⟩,fun _=>by show (k:Int)+2≤(k:Int)+1+1;omega⟩
  clear hc;obtain ⟨hNok,hNk⟩:=hNok;have hE:=hEw N hNok.lo hNok.hi;have Zt:=congrFun (congrFun Qh l) N;obtain ⟨⟨u,q⟩,hr⟩:=exq (w l N);rw [hr] at hE g9 Zt;simp only at g9;obtain ⟨na,ni,ns,ne⟩:=N;have hqok:q.e=0→St4Ok l q:=fun h=>Az hNok hE h;have hqlo:=hE.lo;have hqhi:=hE.hi;have hqk:=fun h=>hE.ok h;have hqe2:=hE.err;simp only at hqlo hqhi hqk hNk hqe2;obtain ⟨qa,qi,qs,qe⟩:=q;simp only at hqlo hqhi hqk hqok g9 hqe2;by_cases hqe:qe=0
  case neg =>
   rw [if_pos hqe] at g9;have Z8:(qe != 0)=true:=bne_iff_ne.2 hqe;subst g9;exact L9
  have Z8:(qe != 0)=false:=by rw [hqe];rfl
  rw [if_neg (by simpa using hqe)] at g9
  obtain ⟨z1,z2,z3⟩:=hqk hqe;have hqok:=hqok hqe;have hne0:ne=0:=Classical.byContradiction fun h=>hqe2 h hqe;have hNk:=hNk hne0;subst hqe;have hty:fE (types++[u])=fE types+u.length:=by unfold fE;simp
  have htn:∀ t∈types++[u],t≠[]:=fun x hx=>by
   rcases List.mem_append.1 hx with h|h
   ·exact g7 x h
   ·rw [Zr] at h;subst h;exact z3
  have htyl:(types++[u]).length=types.length+1:=by simp
  have Qv:(types.map Sl.mk).map (enc:Sl Node→D)++[enc (Sl.mk u)]=((types++[u]).map Sl.mk).map enc:=by rw [List.map_append,List.map_append];rfl
  obtain ⟨T2,hT2⟩:=exq (types++[u]);rw [hT2] at g9 hty htn htyl Qv;have Qw:((T2.map Sl.mk).map (enc:Sl Node→D)).length=types.length+1:=by rw [Zk,Zk,htyl]
  have Qj:=Zhh (l:=T2);have hRok:Zh6 L2 T2:=⟨by omega,by omega,by omega,by omega,htn,hL2e⟩
  cases Qq:Bc l qa bt with
  | false =>
   rw [if_pos Qq] at g9;obtain ⟨N2,Q6⟩:=exq (Yl l ⟨qa,qi,qs,0⟩ fin);obtain ⟨⟨row,re⟩,Q9⟩:=exq (I1 6 L2 T2);rw [Q6,Q9] at g9;obtain ⟨n2a,n2i,n2s,n2e⟩:=N2;subst g9;exact L9
  | true =>
   rw [if_neg (by rw [Qq];simp)] at g9
   have hadv2:Wm ⟨qa,qi,qs,0⟩=⟨qa+1,qi,qs,0⟩:=rfl;rw [hadv2] at g9;have hlt:=Ll Qq;have hok2:St4Ok l ⟨qa+1,qi,qs,0⟩:=by
    obtain ⟨h1,h2,h3,h4,h5,h6⟩:=hqok;simp only at h2 h3 h4 h5;exact ⟨h1,by show 0≤qa+1;omega,by show qa+1≤_;omega,by show (qs.length:Int)≤1000000+(qa+1);omega,by show 0≤qi∧qi≤1000000+(qa+1);omega,h6⟩
   have Kq:w513k:=⟨⟩;exact eY):p:=h
structure w510k:Prop
theorem w510k.k (_:w510k) {p:Prop} (h:p:=by
 repeat' first|exact Qg|with_reducible apply And.intro|intro _
 refine Zh [12,16,17,18,19,20,21,24,25,26,27,28,29,30,31,32,33,34,35,36,37,38,39,40,41,42,43,44,45,46,47,48,49,50,51,52,53,54,55,56,57,58,59,60,61,62,63,64,65,66,67,68,69,70,71,72,73,74,75,76,77,78,79,80,81,82,83,84,85,86,87,88,89,90,91,92,93,94,95,96,97,98,99,100,101,102,103,104,105,106,107,108,109,110,111,112,113,114,115,116,117,118,119,120,121,122,123,124,125,126,127,128,129,130,131,132,133,134,135,136,137,138,139,140,141,142,143,144,145,146,147,148,149,150,151,152,153,154,155] (fun p:Nat×Int×Int×List Site×List (List UInt8)×List (List Node)=>[(14,.sl 22 (p.2.2.2.2.1.map (enc:List UInt8→D)).length),(15,.sl 23 ((p.2.2.2.2.2.map Sl.mk).map (enc:Sl Node→D)).length)]) (fun p:Nat×Int×Int×List Site×List (List UInt8)×List (List Node)=>[(7,.box true [.d (.int .i64 p.2.1),.d (.int .i64 p.2.2.1),.d (.list 3 (p.2.2.2.1.map enc)),.d (.int .i64 0)]),(22,.row 1 (p.2.2.2.2.1.map enc) 0),(23,.row 1 ((p.2.2.2.2.2.map Sl.mk).map enc) 0)]) (fun p:Nat×Int×Int×List Site×List (List UInt8)×List (List Node)=>p.1+p.2.2.2.2.1.length=51∧p.2.2.2.2.1.length≤50∧p.2.2.2.2.1.length=p.2.2.2.2.2.length∧(fE p.2.2.2.2.2:Int)≤p.2.1∧St4Ok l ⟨p.2.1,p.2.2.1,p.2.2.2.1,0⟩∧(∀ t∈p.2.2.2.2.2,t≠[])∧(∀ x∈p.2.2.2.2.1,x.length≤9223372036854775807)∧Td w l 6 bt fin p.1 ⟨p.2.1,p.2.2.1,p.2.2.2.1,0⟩ p.2.2.2.2.1 p.2.2.2.2.2=R) (fun p:Nat×Int×Int×List Site×List (List UInt8)×List (List Node)=>51-p.2.2.2.2.1.length) (51,k0,si0,ss0,[],[]) ?_ ?_ ?_
 ·exact ⟨rfl,by simp,rfl,by show (0:Int)≤k0;omega,hS,by simp,by simp,hR2⟩
 ·exact Qy
 rintro ⟨f,k,si,ss,labels,types⟩ ⟨g1,g2,g3,g4,g6,g7,g8,g9⟩;simp only at g1 g2 g3 g4 g6 g7 g8 g9;have hlo:=g6.lo;have hhi:=g6.hi;simp only at hlo hhi;obtain ⟨k,rfl⟩:∃ n:Nat,k=n:=⟨k.toNat,by omega⟩
 obtain ⟨f,rfl⟩:∃ g,f=g+1:=⟨f-1,by omega⟩
 rw [Td] at g9;simp only [Kh] at g9;have Z2:Yx ⟨(k:Int),si,ss,0⟩ (k:Int) 2=⟨k,si,ss,2⟩:=rfl;have Zx:Yx ⟨(k:Int),si,ss,0⟩ (k:Int) 7=⟨k,si,ss,7⟩:=rfl;have Zy:Yx ⟨(k:Int),si,ss,0⟩ (k:Int) 3=⟨k,si,ss,3⟩:=rfl;have hadv:Wm ⟨(k:Int),si,ss,0⟩=⟨(k:Int)+1,si,ss,0⟩:=rfl;rw [Z2,Zx,Zy,hadv] at g9;have hwt:xT 6=1:=by decide
 have hbd:eZ l 6 ⟨(k:Int),si,ss,0⟩=(Xu l.length (k:Int)||(!((l.getD k Yy).kind==1)||!Wo (l.getD k Yy).text)):=by
  unfold eZ;rw [hwt];simp only [Kh];simp
 have Q0:(labels.map (enc:List UInt8→D)).length=labels.length:=Zk ..;have Qt:((types.map Sl.mk).map (enc:Sl Node→D)).length=types.length:=by rw [Zk,Zk]
 have hkd7:(((6:Int)==7)=false):=by decide
 cases Qi:Xu l.length (k:Int) with
 | true =>
  rw [if_pos (by rw [hbd,Qi];rfl)] at g9
  subst g9;exact L9
 | false =>
 have hkl:k<l.length:=by rw [←Bool.not_eq_true,Qp] at Qi;omega
 have Z5:=Zo Yy hkl;have htx:=htxt (l.getD k Yy) (by simp [hkl])
 obtain ⟨t,ht⟩:=exq (l.getD k Yy);rw [ht] at Z5 htx g9 hbd;cases hkd:(t.kind==1) with
 | false =>
  have Z9:(t.kind != 1)=true:=by rw [bne,hkd];rfl
  rw [if_pos (by rw [hbd,Qi,hkd];rfl)] at g9
  subst g9;exact L9
 | true =>
 have Z9:(t.kind != 1)=false:=by rw [bne,hkd];rfl
 cases Qu:Wo t.text with
 | false =>
  rw [if_pos (by rw [hbd,Qi,hkd,Qu];rfl)] at g9
  subst g9;exact L9
 | true =>
 rw [if_neg (by rw [hbd,Qi,hkd,Qu];simp)] at g9
 have Kq:w511k:=⟨⟩;exact eY):p:=h
structure w516k:Prop
theorem w516k.k (_:w516k) {p:Prop} (h:p:=by
 repeat' first|exact Qg|with_reducible apply And.intro|intro _
 all_goals first|with_reducible exact Jf|omega|exact ⟨j+1,by exact Qy,by omega,Eq.mpr hQ hq,by omega⟩|exact ⟨j+1,by exact Qy,by omega,fun m hm=>by have h3:=(Eq.mpr hQ hq:∀ m,m<j+1→(labels.getD m []==t.text)=false) m hm;simpa using h3,by omega⟩|skip):p:=h
structure w517k:Prop
theorem w517k.k (_:w517k) {p:Prop} (h:p:=by
 repeat' first|exact Qg|with_reducible apply And.intro|intro _
 all_goals first|contradiction|with_reducible exact Jf|omega|assumption|exact ⟨(f,qa+1,qi,qs,L2,T2),by (have Ks:=hL2;have Iv:=htyl;exact Qy),by simp only;omega,by simp only;omega,by simp only;omega,by simp only;omega,hok2,htn,hL2e,g9,by simp only;omega⟩|skip):p:=h
structure w515k:Prop
theorem w515k.k (_:w515k) {p:Prop} (h:p:=by
 repeat' first|exact Qg|with_reducible apply And.intro|intro _
 all_goals first|contradiction|with_reducible exact Jf|omega|assumption|skip
 refine Zh [12,73,74,75,76,77,78,79,80,81,82,83,84,85,86,87,88,89,90,91,92,93] (fun j:Nat=>[(17,.d (.int .i64 j))]) (fun j:Nat=>[]) (fun j:Nat=>j≤labels.length∧∀ m,m<j→(labels.getD m []==t.text)=false) (fun j:Nat=>labels.length-j) 0 ?_ ?_ ?_
 ·simp
 ·exact Qy
 rintro j ⟨hj,hno⟩;rcases Zl j labels.length with ⟨hjt,Q2⟩|⟨hjt,Q2⟩
 ·have Qz:=Zo ([]:List UInt8) hjt;have hany:=Ze1 (x:=t.text) hjt;have hst:(labels.getD j []==t.text)=false→∀ m,m<j+1→(labels.getD m []==t.text)=false:=fun h=>U7 hno h;obtain ⟨Q,hQ⟩:=exq ((∀ m,m<j+1→(labels.getD m []==t.text)=false));rw [hQ] at hst;obtain ⟨y,hy⟩:=exq (labels.getD j []);rw [hy] at Qz hany hst;cases Zv:(y==t.text) with
  | true =>
   rw [if_pos (hany Zv)] at g9;subst g9;exact L9
  | false =>
   have hq:=hst Zv;have Kq:w516k:=⟨⟩;exact eY
 ·have hany:(labels.any fun y=>y==t.text)=false:=Dz (p:=fun y=>y==t.text) [] fun m hm=>hno m (by omega)
  rw [if_neg (by rw [hany];simp)] at g9
  by_cases h50:labels.length=50
  ·rw [if_pos h50] at g9;have Zu:((labels.length:Int)==50)=true:=by rw [Zp];omega
   subst g9;exact L9
  rw [if_neg h50] at g9;have Zu:((labels.length:Int)==50)=false:=by rw [Zf];omega
  have Z4:=Zci (l:=labels) (x:=t.text);have hL2:(labels++[t.text]).length=labels.length+1:=by simp
  have hL2e:∀ x∈labels++[t.text],x.length≤9223372036854775807:=fun x hx=>by
   rcases List.mem_append.1 hx with h|h
   ·exact g8 x h
   ·rw [Zr] at h;subst h;exact htx
  obtain ⟨L2,hL2d⟩:=exq (labels++[t.text]);rw [hL2d] at g9 Z4 hL2 hL2e;have Zz:(L2.map (enc:List UInt8→D)).length=labels.length+1:=by rw [Zk,hL2]
  have hss:=g6.sites;have hsi:=g6.site;simp only at hss hsi;have hc:=Gv l ⟨(k:Int)+1,si,ss,0⟩ [58];obtain ⟨N,Zs⟩:=exq (Yl l ⟨(k:Int)+1,si,ss,0⟩ [58]);rw [Zs] at hc g9;have hNok:St4Ok l N∧(N.e=0→(k:Int)+2≤N.at_):=by
   rcases hc with ⟨h1,_⟩|⟨_,h2⟩|⟨_,h2,h3⟩
   ·exact absurd rfl h1
   ·rw [h2];exact ⟨⟨hlen,by show 0≤(k:Int)+1;omega,by show (k:Int)+1≤l.length;omega,by show (ss.length:Int)≤1000000+((k:Int)+1);omega,by show 0≤si∧si≤1000000+((k:Int)+1);omega,htxt⟩,fun h=>absurd h (by show (2:Int)≠0;decide)⟩
   ·have:=Ll h2;simp only at this;rw [h3];exact ⟨⟨hlen,by show 0≤(k:Int)+1+1;omega,by show (k:Int)+1+1≤l.length;omega,by show (ss.length:Int)≤1000000+((k:Int)+1+1);omega,by show 0≤si∧si≤1000000+((k:Int)+1+1);omega,htxt⟩,fun _=>by show (k:Int)+2≤(k:Int)+1+1;omega⟩
  clear hc;obtain ⟨hNok,hNk⟩:=hNok;have hE:=hEw N hNok.lo hNok.hi;have Zt:=congrFun (congrFun Qh l) N;obtain ⟨⟨u,q⟩,hr⟩:=exq (w l N);rw [hr] at hE g9 Zt;simp only at g9;obtain ⟨na,ni,ns,ne⟩:=N;have hqok:q.e=0→St4Ok l q:=fun h=>Az hNok hE h;have hqlo:=hE.lo;have hqhi:=hE.hi;have hqk:=fun h=>hE.ok h;have hqe2:=hE.err;simp only at hqlo hqhi hqk hNk hqe2;obtain ⟨qa,qi,qs,qe⟩:=q;simp only at hqlo hqhi hqk hqok g9 hqe2;by_cases hqe:qe=0
  case neg =>
   rw [if_pos hqe] at g9;have Z8:(qe != 0)=true:=bne_iff_ne.2 hqe;subst g9;exact L9
  have Z8:(qe != 0)=false:=by rw [hqe];rfl
  rw [if_neg (by simpa using hqe)] at g9
  obtain ⟨z1,z2,z3⟩:=hqk hqe;have hqok:=hqok hqe;have hne0:ne=0:=Classical.byContradiction fun h=>hqe2 h hqe;have hNk:=hNk hne0;subst hqe;have hty:fE (types++[u])=fE types+u.length:=by unfold fE;simp
  have htn:∀ t∈types++[u],t≠[]:=fun x hx=>by
   rcases List.mem_append.1 hx with h|h
   ·exact g7 x h
   ·rw [Zr] at h;subst h;exact z3
  have htyl:(types++[u]).length=types.length+1:=by simp
  have Qv:(types.map Sl.mk).map (enc:Sl Node→D)++[enc (Sl.mk u)]=((types++[u]).map Sl.mk).map enc:=by rw [List.map_append,List.map_append];rfl
  obtain ⟨T2,hT2⟩:=exq (types++[u]);rw [hT2] at g9 hty htn htyl Qv;have Qw:((T2.map Sl.mk).map (enc:Sl Node→D)).length=types.length+1:=by rw [Zk,Zk,htyl]
  have Qj:=Zhh (l:=T2);have hRok:Zh6 L2 T2:=⟨by omega,by omega,by omega,by omega,htn,hL2e⟩
  cases Qq:Bc l qa bt with
  | false =>
   rw [if_pos Qq] at g9;obtain ⟨N2,Q6⟩:=exq (Yl l ⟨qa,qi,qs,0⟩ fin);obtain ⟨⟨row,re⟩,Q9⟩:=exq (I1 7 L2 T2);rw [Q6,Q9] at g9;obtain ⟨n2a,n2i,n2s,n2e⟩:=N2;subst g9;exact L9
  | true =>
   rw [if_neg (by rw [Qq];simp)] at g9
   have hadv2:Wm ⟨qa,qi,qs,0⟩=⟨qa+1,qi,qs,0⟩:=rfl;rw [hadv2] at g9;have hlt:=Ll Qq;have hok2:St4Ok l ⟨qa+1,qi,qs,0⟩:=by
    obtain ⟨h1,h2,h3,h4,h5,h6⟩:=hqok;simp only at h2 h3 h4 h5;exact ⟨h1,by show 0≤qa+1;omega,by show qa+1≤_;omega,by show (qs.length:Int)≤1000000+(qa+1);omega,by show 0≤qi∧qi≤1000000+(qa+1);omega,h6⟩
   have Kq:w517k:=⟨⟩;exact eY):p:=h
structure w514k:Prop
theorem w514k.k (_:w514k) {p:Prop} (h:p:=by
 repeat' first|exact Qg|with_reducible apply And.intro|intro _
 refine Zh [12,16,17,18,19,20,21,24,25,26,27,28,29,30,31,32,33,34,35,36,37,38,39,40,41,42,43,44,45,46,47,48,49,50,51,52,53,54,55,56,57,58,59,60,61,62,63,64,65,66,67,68,69,70,71,72,73,74,75,76,77,78,79,80,81,82,83,84,85,86,87,88,89,90,91,92,93,94,95,96,97,98,99,100,101,102,103,104,105,106,107,108,109,110,111,112,113,114,115,116,117,118,119,120,121,122,123,124,125,126,127,128,129,130,131,132,133,134,135,136,137,138,139,140,141,142,143,144,145,146,147,148,149,150,151,152,153,154,155] (fun p:Nat×Int×Int×List Site×List (List UInt8)×List (List Node)=>[(14,.sl 22 (p.2.2.2.2.1.map (enc:List UInt8→D)).length),(15,.sl 23 ((p.2.2.2.2.2.map Sl.mk).map (enc:Sl Node→D)).length)]) (fun p:Nat×Int×Int×List Site×List (List UInt8)×List (List Node)=>[(7,.box true [.d (.int .i64 p.2.1),.d (.int .i64 p.2.2.1),.d (.list 3 (p.2.2.2.1.map enc)),.d (.int .i64 0)]),(22,.row 1 (p.2.2.2.2.1.map enc) 0),(23,.row 1 ((p.2.2.2.2.2.map Sl.mk).map enc) 0)]) (fun p:Nat×Int×Int×List Site×List (List UInt8)×List (List Node)=>p.1+p.2.2.2.2.1.length=51∧p.2.2.2.2.1.length≤50∧p.2.2.2.2.1.length=p.2.2.2.2.2.length∧(fE p.2.2.2.2.2:Int)≤p.2.1∧St4Ok l ⟨p.2.1,p.2.2.1,p.2.2.2.1,0⟩∧(∀ t∈p.2.2.2.2.2,t≠[])∧(∀ x∈p.2.2.2.2.1,x.length≤9223372036854775807)∧Td w l 7 bt fin p.1 ⟨p.2.1,p.2.2.1,p.2.2.2.1,0⟩ p.2.2.2.2.1 p.2.2.2.2.2=R) (fun p:Nat×Int×Int×List Site×List (List UInt8)×List (List Node)=>51-p.2.2.2.2.1.length) (51,k0,si0,ss0,[],[]) ?_ ?_ ?_
 ·exact ⟨rfl,by simp,rfl,by show (0:Int)≤k0;omega,hS,by simp,by simp,hR2⟩
 ·exact Qy
 rintro ⟨f,k,si,ss,labels,types⟩ ⟨g1,g2,g3,g4,g6,g7,g8,g9⟩;simp only at g1 g2 g3 g4 g6 g7 g8 g9;have hlo:=g6.lo;have hhi:=g6.hi;simp only at hlo hhi;obtain ⟨k,rfl⟩:∃ n:Nat,k=n:=⟨k.toNat,by omega⟩
 obtain ⟨f,rfl⟩:∃ g,f=g+1:=⟨f-1,by omega⟩
 rw [Td] at g9;simp only [Kh] at g9;have Z2:Yx ⟨(k:Int),si,ss,0⟩ (k:Int) 2=⟨k,si,ss,2⟩:=rfl;have Zx:Yx ⟨(k:Int),si,ss,0⟩ (k:Int) 7=⟨k,si,ss,7⟩:=rfl;have Zy:Yx ⟨(k:Int),si,ss,0⟩ (k:Int) 3=⟨k,si,ss,3⟩:=rfl;have hadv:Wm ⟨(k:Int),si,ss,0⟩=⟨(k:Int)+1,si,ss,0⟩:=rfl;rw [Z2,Zx,Zy,hadv] at g9;have hwt:xT 7=2:=by decide
 have hbd:eZ l 7 ⟨(k:Int),si,ss,0⟩=(Xu l.length (k:Int)||(!((l.getD k Yy).kind==2)||!Pg (l.getD k Yy).text)):=by
  unfold eZ;rw [hwt];simp only [Kh];simp
 have Q0:(labels.map (enc:List UInt8→D)).length=labels.length:=Zk ..;have Qt:((types.map Sl.mk).map (enc:Sl Node→D)).length=types.length:=by rw [Zk,Zk]
 have hkd7:(((7:Int)==7)=true):=by decide
 cases Qi:Xu l.length (k:Int) with
 | true =>
  rw [if_pos (by rw [hbd,Qi];rfl)] at g9
  subst g9;exact L9
 | false =>
 have hkl:k<l.length:=by rw [←Bool.not_eq_true,Qp] at Qi;omega
 have Z5:=Zo Yy hkl;have htx:=htxt (l.getD k Yy) (by simp [hkl])
 obtain ⟨t,ht⟩:=exq (l.getD k Yy);rw [ht] at Z5 htx g9 hbd;cases hkd:(t.kind==2) with
 | false =>
  have Z9:(t.kind != 2)=true:=by rw [bne,hkd];rfl
  rw [if_pos (by rw [hbd,Qi,hkd];rfl)] at g9
  subst g9;exact L9
 | true =>
 have Z9:(t.kind != 2)=false:=by rw [bne,hkd];rfl
 cases Qu:Pg t.text with
 | false =>
  rw [if_pos (by rw [hbd,Qi,hkd,Qu];rfl)] at g9
  subst g9;exact L9
 | true =>
 rw [if_neg (by rw [hbd,Qi,hkd,Qu];simp)] at g9
 have Kq:w515k:=⟨⟩;exact eY):p:=h
theorem stepi_rows4 (n:Nat) (ih:IH4 n):Qr Tryz.prog (268,(Ms (n+1))):=by
 obtain ⟨Kx,Kt,Kc,Kd,Kb,Ku,Kw,K,Yj,Kv,P4,B6,D2,It,bD,_⟩:=Wi Z3 Zn [] false (Ja O0 Di.eq_def (Ja Ss Nm.eq_def (Ja dN Lu.eq_def (Ja ih.whole (Pb n) (Ja good_Row3 aI.eq_def (Ja good_IsWord1 Sa (Ja good_IsTag1 fW Wg)))))));have Ko:=(Ms.eq_def (n+1));refine Wh K Tryz.func268 [.tmp 12,.cell 13 261] rfl 156 rfl (fun c hc cvs hpre=>?_);unfold Ms at hpre;obtain ⟨⟨l⟩,⟨k0,si0,ss0,e0'⟩,v,kind,bt,fin,rfl,⟨hS,he0,hk1⟩,hk,hv1,hv2,hn⟩:=Zel hpre;simp only at hS he0 hk1;subst he0;clear hpre;obtain ⟨w,Qh⟩:=exq (Xd (101-v).toNat);have hEw:∀ s:St4,0≤s.at_→s.at_≤l.length→Eats l s (w l s):=fun s h1 h2=>by rw [←Qh];exact Ge _ s (by omega) h1 h2
 have hlen:=hS.len;have htxt:=hS.txt;obtain ⟨R,Qd⟩:=exq (dK w l ⟨k0,si0,ss0,0⟩ kind bt fin);have hR2:=Qd;unfold dK at hR2;cases hc;refine Ys 9 ?_;rcases hk with rfl|rfl
 ·have Kq:w510k:=⟨⟩;exact eY
 ·have Kq:w514k:=⟨⟩;exact eY
theorem Qc:Wz []:=fun _ h=>by cases h
theorem cZ {a b:List Node} (ha:Wz a) (hb:Wz b):Wz (a++b):=fun n hn=>by
 rcases List.mem_append.1 hn with h|h
 ·exact ha n h
 ·exact hb n h
theorem Bz {k n:Int}:Wz [⟨k,[],n⟩]:=fun m hm=>by rw [Zr] at hm;subst hm;simp
theorem Zi5 {s:List UInt8} (hs:s.length≤9223372036854775807) {t:List Node} (h:Wz t):Wz (named s t):=by
 cases t with
 | nil=>exact h
 | cons a t =>
  intro n hn;rcases List.mem_cons.1 hn with rfl|hn
  ·exact hs
  ·exact h n (by simp [hn])
def jA (labels:List (List UInt8)):Prop:=∀ x∈labels,x.length≤9223372036854775807
theorem Zim {labels:List (List UInt8)} (h:jA labels) (k:Nat):(labels.getD k []).length≤9223372036854775807:=by
 rw [Zc];cases hk:labels[k]? with
 | none=>simp
 | some x=>exact h x (List.mem_of_getElem? hk)
theorem Zi6 {types:List (List Node)} (h:∀ t∈types,Wz t) (k:Nat):Wz (types.getD k []):=by
 rw [Zc];cases hk:types[k]? with
 | none=>exact Qc
 | some x=>exact h x (List.mem_of_getElem? hk)
theorem gA {labels:List (List UInt8)} (hl:jA labels) {types:List (List Node)} (ht:∀ t∈types,Wz t):∀ (k:Nat) (done:List UInt8) (out:List Node),Wz out→Wz (eA labels types k done out).1
 | 0,_,_,h=>h
 | k+1,done,out,h=>by
  rw [eA];split
  ·exact Qc
  ·exact gA hl ht k _ _ (cZ h (Zi5 (Zim hl _) (Zi6 ht _)))
theorem Zf0 {k:Int} {labels:List (List UInt8)} (hl:jA labels) {types:List (List Node)} (ht:∀ t∈types,Wz t):Wz (I1 k labels types).1:=by
 unfold I1;split
 ·exact Qc
 split
 ·exact Qc
 exact gA hl ht _ _ _ Bz
theorem Zkl {l:List Tok} (h:∀ t∈l,t.text.length≤9223372036854775807) (i:Int):(tk l i).text.length≤9223372036854775807:=by
 unfold tk;rw [Zc];cases hk:l[i.toNat]? with
 | none=>simp [Yy]
 | some x=>exact h x (List.mem_of_getElem? hk)
theorem Er {w:List Tok→St4→List Node×St4} {l:List Tok} (hl:∀ t∈l,t.text.length≤9223372036854775807) (hw:∀ s,Wz (w l s).1) {kind:Int} {bt fin:List UInt8}:∀ (f:Nat) (s:St4) (labels:List (List UInt8)) (types:List (List Node)),jA labels→(∀ t∈types,Wz t)→Wz (Td w l kind bt fin f s labels types).1
 | 0,_,_,_,_,_=>Qc
 | f+1,s,labels,types,h1,h2=>by
  have h3:jA (labels++[(tk l s.at_).text]):=fun x hx=>by
   rcases List.mem_append.1 hx with h|h
   ·exact h1 x h
   ·rw [Zr] at h;subst h;exact Zkl hl _
  have h4:∀ t∈types++[(w l (Yl l (Wm s) [58])).1],Wz t:=fun x hx=>by
   rcases List.mem_append.1 hx with h|h
   ·exact h2 x h
   ·rw [Zr] at h;subst h;exact hw _
  rw [Td];split
  ·exact Qc
  split
  ·exact Qc
  split
  ·exact Qc
  split
  ·exact Qc
  split
  ·exact Zf0 h3 h4
  ·exact Er hl hw f _ _ _ h3 h4
theorem Zde {w:List Tok→St4→List Node×St4} {l:List Tok} (hl:∀ t∈l,t.text.length≤9223372036854775807) (hw:∀ s,Wz (w l s).1) {d:Nat} {s:St4}:Wz (Mk w d l s).1:=by
 unfold Mk;split
 ·exact Qc
 split
 ·exact Qc
 split
 ·exact Bz
 split
 ·exact Bz
 split
 ·exact Qc
 split
 ·exact Qc
 split
 ·exact Bz
 split
 ·exact Er hl hw _ _ _ _ (fun _ h=>by cases h) (fun _ h=>by cases h)
 split
 ·exact Er hl hw _ _ _ _ (fun _ h=>by cases h) (fun _ h=>by cases h)
 ·exact hw _
theorem Bi {l:List Tok} (hl:∀ t∈l,t.text.length≤9223372036854775807):∀ (d:Nat) (s:St4),Wz (Xd d l s).1
 | 0,_=>Qc
 | d+1,s=>by
  have hA:=Zde (w:=Xd d) hl (fun s=>Bi hl d s) (d:=d) (s:=s);rw [Xd];split
  ·exact hA
  split
  ·exact Qc
  ·have h5:Wz [(⟨5,[],0⟩:Node)]:=Bz;exact cZ h5 (cZ hA (Bi hl d _))
theorem aE {a b d:Int}:(dec (.agg [.int .i64 a,.int .i64 b,.list 3 [],.int .i64 d]):St4)=⟨a,b,[],d⟩:=rfl
theorem Ow {a b d:Int}:Up St4 (.agg [.int .i64 a,.int .i64 b,.list 3 [],.int .i64 d])=True:=eq_true (Yc (St4.mk a b [] d))
theorem Zqx:∀ n,IH4 n
 | 0=>⟨X9 (Xk Tryz.func259 (by kernel_rfl) rfl) eL,X9 (Xk Tryz.func262 (by kernel_rfl) rfl) iO,X9 (Xk Tryz.func268 (by kernel_rfl) rfl) iH⟩
 | n+1=>⟨Zav n (Zqx n),stepi_atom4 n (Zqx n),stepi_rows4 n (Zqx n)⟩
def E9:Con:=Xl 400
theorem Zbj:Qr Tryz.prog (259,E9):=(Zqx 400).whole
theorem M4:E9=Xl 400:=rfl
def Zbr {A B C E R S T U V:Type} [Enc A] [Enc B] [Enc C] [Enc E] [Enc R] [Enc S] [Enc T] [Enc U] [Enc V] (p:A→B→C→E→Prop) (f:A→B→C→E→R×S×T×U×V):Con:=⟨[false,false,false,false],[false,false,false,false,false],fun c=>match c with
 | [.d x,.d y,.d z,.d w]=>Up A x∧Up B y∧Up C z∧Up E w∧p (dec x) (dec y) (dec z) (dec w)
 | _=>False,fun c=>match c with
 | [.d x,.d y,.d z,.d w]=>.tup [.d (enc (f (dec x) (dec y) (dec z) (dec w)).1),.d (enc (f (dec x) (dec y) (dec z) (dec w)).2.1),.d (enc (f (dec x) (dec y) (dec z) (dec w)).2.2.1),.d (enc (f (dec x) (dec y) (dec z) (dec w)).2.2.2.1),.d (enc (f (dec x) (dec y) (dec z) (dec w)).2.2.2.2)]
 | _=>.d .nilp⟩
theorem Zlu {A B C E R S T U V:Type} [Enc A] [Enc B] [Enc C] [Enc E] [Enc R] [Enc S] [Enc T] [Enc U] [Enc V] {p:A→B→C→E→Prop} {f:A→B→C→E→R×S×T×U×V} {c:List CV} (h:(Zbr p f).pre c):∃ a b d e,c=[.d (enc a),.d (enc b),.d (enc d),.d (enc e)]∧p a b d e:=by
 unfold Zbr at h;simp only at h;split at h
 ·next x y z w=>exact ⟨dec x,dec y,dec z,dec w,by rw [←h.1,←h.2.1,←h.2.2.1,←h.2.2.2.1],h.2.2.2.2⟩
 ·exact h.elim
def Zqc (l:List Tok) (i site level:Int):Sl Node×Int×Sl Site×Int×Int:=(⟨(Yu l i site level).1⟩,(Yu l i site level).2.1,⟨(Yu l i site level).2.2.1⟩,(Yu l i site level).2.2.2.1,(Yu l i site level).2.2.2.2)
def Ro:Con:=Zbr (fun (l:Sl Tok) (i site v:Int)=>(l.l.length≤100000∧∀ t∈l.l,t.text.length≤9223372036854775807)∧0≤i∧i≤l.l.length∧1≤site∧site≤1000000∧1≤v∧v≤100) (fun l i site v=>Zqc l.l i site v)
theorem Zge:Qr Tryz.prog (249,Ro):=by
 obtain ⟨Kx,Kt,Kc,Kd,Kb,Ku,Kw,K,Yj,Kv,_⟩:=Wi Z3 Zn [] false (Ja Zbj E9.eq_def (Ja good_Right3 L5.eq_def Wg));have Ko:=Ro.eq_def;refine Wh K Tryz.func249 [.tmp 8,.tmp 9,.tmp 10,.tmp 11,.tmp 12] rfl 60 rfl (fun c hc cvs hpre=>?_);unfold Ro at hpre;obtain ⟨⟨l⟩,i,site,v,rfl,⟨hl,htx⟩,hi0,hi1,hs0,hs1,hv1,hv2⟩:=Zlu hpre;simp only at hl htx hi1;clear hpre;have hOk:St4Ok l ⟨i,site,[],0⟩:=⟨hl,hi0,hi1,by show ((0:Nat):Int)≤1000000+i;omega,by show 0≤site∧site≤1000000+i;omega,htx⟩
 obtain ⟨⟨R1,R2,R3,R4,R5⟩,hR⟩:=exq (Yu l i site v);have hR2:=hR;unfold Yu at hR2;rw [if_neg (by omega)] at hR2
 have Qd:Yr (l.length:Int) i=false:=by rw [Q3];omega
 have Qh:Yr i 0=false:=by rw [Q3];omega
 have Qi:Yr site 1=false:=by rw [Q3];omega
 have Z2:Yr v 1=false:=by rw [Q3];omega
 simp only [if_neg (show ¬ (l.length:Int)<i by omega)] at hR2
 have hE:=Ge (l:=l) (101-v).toNat ⟨i,site,[],0⟩ (by omega) hOk.lo hOk.hi
 have hNm:=Bi htx (101-v).toNat ⟨i,site,[],0⟩;obtain ⟨⟨t,q⟩,Z5⟩:=exq (Xd (101-v).toNat l ⟨i,site,[],0⟩);rw [Z5] at hR2 hE hNm;have hEl:=hE.len;obtain ⟨qa,qi,qs,qe⟩:=q;simp only at hR2 hEl hNm;have htl:t.length≤9223372036854775807:=by omega
 have Qu:Zqc l i site v=(⟨R1⟩,R2,⟨R3⟩,R4,R5):=by unfold Zqc;rw [hR]
 cases hc;refine Ys 3 ?_;by_cases he:qe=0
 case neg =>
  rw [if_pos he] at hR2;have Z9:(qe != 0)=true:=bne_iff_ne.2 he;simp only [Zb] at hR2;obtain ⟨rfl,rfl,rfl,rfl,rfl⟩:=hR2;have Qz:=@Zbr.eq_def;have Zv:=@M4;have Zx:=@aE;have Zu:=@Ow;exact L9
 have Z9:(qe != 0)=false:=by rw [he];rfl
 rw [if_neg (by simpa using he)] at hR2
 by_cases h1:10000<t.length
 ·rw [if_pos h1] at hR2;have Q0:Yr 10000 (t.length:Int)=true:=by rw [Jw];omega
  simp only [Zb] at hR2;obtain ⟨rfl,rfl,rfl,rfl,rfl⟩:=hR2;have Qz:=@Zbr.eq_def;have Zv:=@M4;have Zx:=@aE;have Zu:=@Ow;exact L9
 rw [if_neg h1] at hR2;have Q0:Yr 10000 (t.length:Int)=false:=by rw [Q3];omega
 cases Q2:W0 t with
 | false =>
  rw [if_pos Q2] at hR2;simp only [Zb] at hR2;obtain ⟨rfl,rfl,rfl,rfl,rfl⟩:=hR2;have Qz:=@Zbr.eq_def;have Zv:=@M4;have Zx:=@aE;have Zu:=@Ow;exact L9
 | true =>
  rw [if_neg (by rw [Q2];simp)] at hR2
  simp only [Zb] at hR2;obtain ⟨rfl,rfl,rfl,rfl,rfl⟩:=hR2;have Qz:=@Zbr.eq_def;have Zv:=@M4;have Zx:=@aE;have Zu:=@Ow;exact L9
structure St6 where
 at_:Int
 sites:List Site
 e:Int
 deriving DecidableEq
instance encSt6:Enc St6:=⟨fun a=>.agg [.int .i64 a.at_,.list 3 (a.sites.map enc),.int .i64 a.e],fun x=>match x with
 | .agg [a,c,d]=>⟨a.i,c.l.map dec,d.i⟩
 | _=>⟨0,[],0⟩,fun a=>by
  have h:∀ l:List Site,(l.map (enc:Site→D)).map dec=l:=fun l=>Jz;cases a;simp [D.l,D.i,h]⟩
theorem Qx {a d:Int} {c:List Site}:(enc (St6.mk a c d):D)=.agg [.int .i64 a,.list 3 (c.map enc),.int .i64 d]:=rfl
theorem Je {a d:Int} {c:List Site}:(dec (.agg [.int .i64 a,.list 3 (c.map enc),.int .i64 d]):St6)=⟨a,c,d⟩:=Enc.dec_enc (St6.mk a c d)
theorem Jd {a d:Int} {c:List Site}:Up St6 (.agg [.int .i64 a,.list 3 (c.map enc),.int .i64 d])=True:=eq_true (Yc (St6.mk a c d))
def Jp (s:St6) (e:Int):St6:=if s.e=0 then ⟨s.at_,s.sites,e⟩ else s
def T0 (l:List Tok) (s:St6) (k:Int) (x:List UInt8):Bool:=(s.e==0)&&(Yr s.at_ l.length&&((tk l s.at_).kind==k&&(tk l s.at_).text==x))
def Xh (s:St6):St6:=⟨s.at_+1,s.sites,s.e⟩
def Qb (l:List Tok) (s:St6) (k:Int) (x:List UInt8):St6:=if s.e≠0 then s else if T0 l s k x=false then Jp s 2 else Xh s
def Q7 (l:List Tok) (s:St6) (k:Int):List UInt8×St6:=if s.e≠0 then ([],s) else if (l.length:Int)≤s.at_∨(tk l s.at_).kind≠k then ([],Jp s 2) else ((tk l s.at_).text,Xh s)
def Cf (l:List Tok) (s:St6) (v:Int):List Node×St6 :=
 if s.e≠0 then ([],s)
 else if (Yu l s.at_ (s.sites.length+1) v).2.2.2.2≠0 then ([],⟨(Yu l s.at_ (s.sites.length+1) v).2.2.2.1,s.sites,(Yu l s.at_ (s.sites.length+1) v).2.2.2.2⟩)
 else ((Yu l s.at_ (s.sites.length+1) v).1,⟨(Yu l s.at_ (s.sites.length+1) v).2.1,s.sites++(Yu l s.at_ (s.sites.length+1) v).2.2.1,0⟩)
def Uv (l:List Tok) (s:St6) (v:Int):List Node×St6 :=
 if s.e≠0 then ([],s)
 else if T0 l s 5 [58]=true then Cf l (Xh s) v
 else ([⟨0,[],s.sites.length+1⟩],⟨s.at_,s.sites++[⟨(tk l (s.at_-1)).to,(tk l (s.at_-1)).to,true⟩],0⟩)
def Zke (l:List (List UInt8)) (x:List UInt8):Bool:=l.any fun y=>y==x
def Zov (s:List UInt8):Prop:=s.length≤18∧∀ c∈s,Xo c=true
structure St6Ok (l:List Tok) (s:St6):Prop where
 len:l.length≤100000
 lo:0≤s.at_
 hi:s.at_≤l.length
 sites:s.sites.length≤900000
 txt:∀ t∈l,t.text.length≤1000000
 fig:∀ t∈l,t.kind=3→Zov t.text
theorem St6Ok.long {l:List Tok} {s:St6} (h:St6Ok l s):∀ t∈l,t.text.length≤9223372036854775807:=fun t ht=>Nat.le_trans (h.txt t ht) (by omega)
def Yp:Con:=Wc (fun (_:St6) (_:Int)=>True) (fun s e=>Jp s e)
theorem Pa:type_of% @Yp.eq_def:=@Yp.eq_def
theorem Uq:Qr Tryz.prog (147,Yp):=by
 obtain ⟨Kx,Kt,Kc,Kd,Kb,Ku,Kw,K,_⟩:=Wi Z3 Zn [] false Wg;have Ko:=Pa;refine Wh K Tryz.func147 [.cell 4 137] rfl 11 rfl (fun c hc cvs hpre=>?_);unfold Yp at hpre;obtain ⟨⟨k,ss,e⟩,x,rfl,-⟩:=Jr hpre;clear hpre;obtain ⟨R,Qi⟩:=exq (Jp ⟨k,ss,e⟩ x);have hR2:=Qi;unfold Jp at hR2;simp only at hR2;cases hc;by_cases he:e=0
 ·rw [if_pos he] at hR2;have Qh:(e==0)=true:=beq_iff_eq.2 he;subst hR2;have Z2:=@Qx;have Qd:=@Jd;have Z5:=@Je;exact Zko
 ·rw [if_neg he] at hR2;have Qh:(e==0)=false:=beq_eq_false_iff_ne.2 he;subst hR2;have Z2:=@Qx;have Qd:=@Jd;have Z5:=@Je;exact Zko
def Mc:Con:=jF (fun (l:Sl Tok) (s:St6) (_:Int) (_:List UInt8)=>l.l.length≤1000000∧0≤s.at_) (fun l s k x=>T0 l.l s k x)
theorem Ac:type_of% @Mc.eq_def:=@Mc.eq_def
theorem Pn:Qr Tryz.prog (144,Mc):=by
 obtain ⟨Kx,Kt,Kc,Kd,Kb,Ku,Kw,K,_⟩:=Wi Z3 Zn [] false Wg;have Ko:=Ac;refine Wh K Tryz.func144 [.tmp 8] rfl 39 rfl (fun c hc cvs hpre=>?_);unfold Mc at hpre;obtain ⟨⟨l⟩,⟨i,ss,e⟩,kd,x,rfl,hl,hi⟩:=Zbs hpre;simp only at hl hi;obtain ⟨i,rfl⟩:∃ n:Nat,i=n:=⟨i.toNat,by omega⟩
 clear hpre;obtain ⟨R,Qi⟩:=exq (T0 l ⟨i,ss,e⟩ kd x);have Z9:=Qi;unfold T0 at Z9;simp only [Kh] at Z9;cases hc;refine Ys 2 ?_;cases Qh:(e==0) with
 | false =>
  rw [Qh,Bool.false_and] at Z9;subst Z9;have Qu:=@Qx;have Q0:=@Jd;have Q2:=@Je;exact Zko
 | true =>
 rw [Qh,Bool.true_and] at Z9;rcases Zl i l.length with ⟨hlt,Z2⟩|⟨hlt,Z2⟩
 ·have Qd:=Zo Yy hlt;obtain ⟨t,ht⟩:=exq (l.getD i Yy);rw [ht] at Qd Z9;rw [Z2,Bool.true_and] at Z9;obtain ⟨b1,Z5⟩:=exq ((t.kind==kd));rw [Z5] at Z9;cases b1 with
  | false =>
   rw [Bool.false_and] at Z9;subst Z9;have Qu:=@Qx;have Q0:=@Jd;have Q2:=@Je;exact L9
  | true =>
   rw [Bool.true_and] at Z9;have Qu:=@Qx;have Q0:=@Jd;have Q2:=@Je;exact L9
 ·rw [Z2,Bool.false_and] at Z9;subst Z9;have Qu:=@Qx;have Q0:=@Jd;have Q2:=@Je;exact Zko
theorem Cx (l:List Tok) (s:St6) (k:Int) (x:List UInt8):(s.e≠0∧Qb l s k x=s)∨(s.e=0∧T0 l s k x=false∧Qb l s k x=⟨s.at_,s.sites,2⟩)∨(s.e=0∧T0 l s k x=true∧Qb l s k x=⟨s.at_+1,s.sites,0⟩):=by
 unfold Qb;by_cases h:s.e=0
 ·rw [if_neg (by simpa using h)]
  cases hi:T0 l s k x with
  | false=>exact .inr (.inl ⟨h,rfl,by rw [if_pos rfl];unfold Jp;rw [if_pos h]⟩)
  | true=>exact .inr (.inr ⟨h,rfl,by rw [if_neg (by simp)];unfold Xh;rw [h]⟩)
 ·exact .inl ⟨h,if_pos h⟩
def Lt:Con:=jF (fun (l:Sl Tok) (s:St6) (_:Int) (_:List UInt8)=>l.l.length≤1000000∧0≤s.at_∧s.at_≤2000000) (fun l s k x=>Qb l.l s k x)
theorem dM:Qr Tryz.prog (184,Lt):=by
 obtain ⟨Kx,Kt,Kc,Kd,Kb,Ku,Kw,K,Yj,Kv,_⟩:=Wi Z3 Zn [] false (Ja Pn Ac (Ja Uq Pa Wg));have Ko:=Lt.eq_def;refine Wh K Tryz.func184 [.cell 8 137] rfl 26 rfl (fun c hc cvs hpre=>?_);unfold Lt at hpre;obtain ⟨⟨l⟩,⟨i,ss,e⟩,kd,x,rfl,hl,hs0,hs1⟩:=Zbs hpre;try simp only at hl hs0 hs1
 clear hpre;obtain ⟨⟨Ra,Rs,Re⟩,Qi⟩:=exq (Qb l ⟨i,ss,e⟩ kd x);have hcz:=Cx l ⟨i,ss,e⟩ kd x;rw [Qi] at hcz;simp only [St6.mk.injEq] at hcz;cases hc;rcases hcz with ⟨h1,rfl,rfl,rfl⟩|⟨rfl,Z2,rfl,rfl,rfl⟩|⟨rfl,Z2,rfl,rfl,rfl⟩
 ·have Qh:(Re != 0)=true:=bne_iff_ne.2 h1;have Z5:=@Qx;have Z9:=@Jd;have Qu:=@Je;exact Zko
 ·have Qd:Jp ⟨Ra,Rs,0⟩ 2=⟨Ra,Rs,2⟩:=rfl;have Z5:=@Qx;have Z9:=@Jd;have Qu:=@Je;exact L9
 ·have Z5:=@Qx;have Z9:=@Jd;have Qu:=@Je;exact L9
def Y1:Con:=Um (fun (l:Sl Tok) (s:St6) (_:List UInt8)=>l.l.length≤1000000∧0≤s.at_∧s.at_≤2000000) (fun l s x=>Qb l.l s 5 x)
theorem N3:type_of% @Y1.eq_def:=@Y1.eq_def
theorem Uz:Qr Tryz.prog (148,Y1):=by
 obtain ⟨Kx,Kt,Kc,Kd,Kb,Ku,Kw,K,Yj,_⟩:=Wi Z3 Zn [] false (Ja dM Lt.eq_def Wg);have Ko:=N3;refine Wh K Tryz.func148 [.cell 6 137] rfl 11 rfl (fun c hc cvs hpre=>?_);unfold Y1 at hpre;obtain ⟨⟨l⟩,⟨i,ss,e⟩,x,rfl,hl,hs0,hs1⟩:=Gl hpre;try simp only at hl hs0 hs1
 clear hpre;obtain ⟨⟨Ra,Rs,Re⟩,Qh⟩:=exq (Qb l ⟨i,ss,e⟩ 5 x);cases hc;have Qi:=@Qx;have Z2:=@Jd;have Qd:=@Je;exact L9
def Lx:Con:=Um (fun (l:Sl Tok) (s:St6) (_:List UInt8)=>l.l.length≤1000000∧0≤s.at_∧s.at_≤2000000) (fun l s x=>Qb l.l s 6 x)
theorem Fz:Qr Tryz.prog (252,Lx):=by
 obtain ⟨Kx,Kt,Kc,Kd,Kb,Ku,Kw,K,Yj,_⟩:=Wi Z3 Zn [] false (Ja dM Lt.eq_def Wg);have Ko:=Lx.eq_def;refine Wh K Tryz.func252 [.cell 6 137] rfl 11 rfl (fun c hc cvs hpre=>?_);unfold Lx at hpre;obtain ⟨⟨l⟩,⟨i,ss,e⟩,x,rfl,hl,hs0,hs1⟩:=Gl hpre;try simp only at hl hs0 hs1
 clear hpre;obtain ⟨⟨Ra,Rs,Re⟩,Qh⟩:=exq (Qb l ⟨i,ss,e⟩ 6 x);cases hc;have Qi:=@Qx;have Z2:=@Jd;have Qd:=@Je;exact L9
theorem Uw (l:List Tok) (s:St6) (k:Int):(s.e≠0∧Q7 l s k=([],s))∨(s.e=0∧(l.length:Int)≤s.at_∧Q7 l s k=([],⟨s.at_,s.sites,2⟩))∨(s.e=0∧s.at_<l.length∧(tk l s.at_).kind≠k∧Q7 l s k=([],⟨s.at_,s.sites,2⟩)) ∨
  (s.e=0∧s.at_<l.length∧(tk l s.at_).kind=k∧Q7 l s k=((tk l s.at_).text,⟨s.at_+1,s.sites,0⟩)):=by
 unfold Q7;by_cases h:s.e=0
 ·rw [if_neg (by simpa using h)]
  by_cases h1:(l.length:Int)≤s.at_
  ·exact .inr (.inl ⟨h,h1,by rw [if_pos (.inl h1)];unfold Jp;rw [if_pos h]⟩)
  ·by_cases h2:(tk l s.at_).kind=k
   ·exact .inr (.inr (.inr ⟨h,by omega,h2,by rw [if_neg (by simp only [h2];simp;omega)];unfold Xh;rw [h]⟩))
   ·exact .inr (.inr (.inl ⟨h,by omega,h2,by rw [if_pos (.inr h2)];unfold Jp;rw [if_pos h]⟩))
 ·exact .inl ⟨h,if_pos h⟩
def W2:Con:=Wq (fun (l:Sl Tok) (s:St6) (_:Int)=>l.l.length≤1000000∧0≤s.at_∧s.at_≤2000000) (fun l s k=>Q7 l.l s k)
theorem Ha:type_of% @W2.eq_def:=@W2.eq_def
theorem Y5:Qr Tryz.prog (145,W2):=by
 obtain ⟨Kx,Kt,Kc,Kd,Kb,Ku,Kw,K,Yj,_⟩:=Wi Z3 Zn [] false (Ja Uq Pa Wg);have Ko:=Ha;refine Wh K Tryz.func145 [.tmp 6,.cell 7 137] rfl 41 rfl (fun c hc cvs hpre=>?_);unfold W2 at hpre;obtain ⟨⟨l⟩,⟨i,ss,e⟩,kd,rfl,hl,hs0,hs1⟩:=G6 hpre;simp only at hl hs0 hs1;clear hpre;obtain ⟨i,rfl⟩:∃ n:Nat,i=n:=⟨i.toNat,by omega⟩
 obtain ⟨⟨x,⟨Ra,Rs,Re⟩⟩,Qi⟩:=exq (Q7 l ⟨i,ss,e⟩ kd);have hcz:=Uw l ⟨i,ss,e⟩ kd;rw [Qi] at hcz;simp only [St6.mk.injEq,Zb,Kh] at hcz;have Qd:Jp ⟨(i:Int),ss,0⟩ 2=⟨i,ss,2⟩:=rfl;have Qu:(i:Int)+1-1=(i:Int):=by omega
 cases hc;refine Ys 2 ?_;rcases hcz with ⟨h1,rfl,rfl,rfl,rfl⟩|⟨rfl,h2,rfl,rfl,rfl,rfl⟩|⟨rfl,h2,h3,rfl,rfl,rfl,rfl⟩|⟨rfl,h2,h3,rfl,rfl,rfl,rfl⟩
 ·have Qh:(Re != 0)=true:=bne_iff_ne.2 h1;have Q2:=@Qx;have Qz:=@Jd;have Zv:=@Je;exact L9
 ·have Z2:Xu (l.length:Int) (i:Int)=true:=by rw [Qp];exact h2
  have Q2:=@Qx;have Qz:=@Jd;have Zv:=@Je;exact Zko
 ·have Z2:Xu (l.length:Int) (i:Int)=false:=by rw [←Bool.not_eq_true,Qp];omega
  have Z5:=Zo Yy (show i<l.length by omega)
  obtain ⟨t,Q0⟩:=exq (l.getD i Yy);rw [Q0] at Z5 h3;have Z9:(t.kind != kd)=true:=bne_iff_ne.2 h3;have Q2:=@Qx;have Qz:=@Jd;have Zv:=@Je;exact L9
 ·have Z2:Xu (l.length:Int) (i:Int)=false:=by rw [←Bool.not_eq_true,Qp];omega
  have Z5:=Zo Yy (show i<l.length by omega)
  obtain ⟨t,Q0⟩:=exq (l.getD i Yy);rw [Q0] at Z5 h3 Qi;have Z9:(t.kind != kd)=false:=by rw [bne_eq_false_iff_eq];exact h3
  have Q2:=@Qx;have Qz:=@Jd;have Zv:=@Je;exact L9
def Rh:Con:=Wc (fun (l:Sl (List UInt8)) (_:List UInt8)=>l.l.length≤1000000) (fun l x=>Zke l.l x)
structure w519k:Prop
theorem w519k.k (_:w519k) {p:Prop} (h:p:=by
 repeat' first|exact Qg|with_reducible apply And.intro|intro _
 all_goals first|with_reducible exact Jf|omega|exact ⟨k+1,by exact Qy,by omega,Eq.mpr hQ h2,by omega⟩|exact ⟨k+1,by exact Qy,by omega,fun m hm=>by have h3:=(Eq.mpr hQ h2:∀ j,j<k+1→(l.getD j []==s)=false) m hm;simpa using h3,by omega⟩|skip):p:=h
structure w518k:Prop
theorem w518k.k (_:w518k) {p:Prop} (h:p:=by
 repeat' first|exact Qg|with_reducible apply And.intro|intro _
 refine Zh [4,6,7,8,9,10,11,12,13,14,15,16,17] (fun k:Nat=>[(5,.d (.int .i64 k))]) (fun k:Nat=>[]) (fun k:Nat=>k≤l.length∧∀ j,j<k→(l.getD j []==s)=false) (fun k:Nat=>l.length-k) 0 ?_ ?_ ?_
 ·simp
 ·exact Qy
 rintro k ⟨hk,hno⟩;rcases Zl k l.length with ⟨hlt,Qh⟩|⟨hlt,Qh⟩
 ·have Qi:=Zo ([]:List UInt8) hlt;have hst:(l.getD k []==s)=false→∀ j,j<k+1→(l.getD j []==s)=false:=fun h=>U7 hno h;have hit:(l.getD k []==s)=true→R=true:=fun h=>by rw [←hR2];exact cN (p:=fun o=>o==s) [] k hlt h
  obtain ⟨Q,hQ⟩:=exq ((∀ j,j<k+1→(l.getD j []==s)=false));rw [hQ] at hst;obtain ⟨y,hy⟩:=exq (l.getD k []);rw [hy] at Qi hst hit;cases Z2:(y==s) with
  | true =>
   have hr:=hit Z2;subst hr;exact L9
  | false =>
   have h2:=hst Z2;have Kq:w519k:=⟨⟩;exact eY
 ·have hr:R=false:=by rw [←hR2];exact Dz (p:=fun o=>o==s) [] fun j hj=>hno j (by omega)
  subst hr;exact Zko):p:=h
theorem good_in6:Qr Tryz.prog (146,Rh):=by
 obtain ⟨Kx,Kt,Kc,Kd,Kb,Ku,Kw,K,_⟩:=Wi Z3 Zn [] false Wg;have Ko:=Rh.eq_def;refine Wh K Tryz.func146 [.tmp 4] rfl 18 rfl (fun c hc cvs hpre=>?_);unfold Rh at hpre;obtain ⟨⟨l⟩,s,rfl,hl⟩:=Jr hpre;simp only at hl;clear hpre;obtain ⟨R,Qd⟩:=exq (Zke l s);have hR2:=Qd;unfold Zke at hR2;cases hc;have Kq:w518k:=⟨⟩;exact eY
theorem Zoa {l:List Tok} {i site v:Int} {t:List Node} {a:Int} {ss:List Site} {b e:Int} (h:Yu l i site v=(t,a,ss,b,e)):Zqc l i site v=(⟨t⟩,a,⟨ss⟩,b,e):=by unfold Zqc;rw [h]
theorem dA {l:List Tok} (hl:l.length≤100000) (htx:∀ t∈l,t.text.length≤9223372036854775807) {i site v:Int} (h0:0≤i) (h1:i≤l.length) (hs:1≤site) (hv1:1≤v) (hv2:v≤100) :
  0≤(Yu l i site v).2.2.2.1∧(Yu l i site v).2.2.2.1≤l.length∧((Yu l i site v).2.2.2.2=0→i+1≤(Yu l i site v).2.1∧(Yu l i site v).2.1≤l.length∧((Yu l i site v).2.2.1.length:Int)≤(Yu l i site v).2.1-i∧W0 (Yu l i site v).1=true∧Wz (Yu l i site v).1∧((Yu l i site v).1.length:Int)≤(Yu l i site v).2.1-i ∧
   ∀ z,J3 (G3 z) (Yu l i site v).1=if site≤z∧z<site+(Yu l i site v).2.2.1.length then 1 else 0):=by
 have hE:=Ge (l:=l) (101-v).toNat ⟨i,site,[],0⟩ (by omega) h0 h1
 have hN:=Bi htx (101-v).toNat ⟨i,site,[],0⟩;unfold Yu;rw [if_neg (by omega)]
 simp only [if_neg (show ¬ (l.length:Int)<i by omega)]
 obtain ⟨⟨t,q⟩,hw⟩:=exq (Xd (101-v).toNat l ⟨i,site,[],0⟩);rw [hw] at hE hN ⊢;obtain ⟨qa,qi,qs,qe⟩:=q;have hlo:=hE.lo;have hhi:=hE.hi;simp only at hlo hhi ⊢;by_cases he:qe=0
 case neg=>rw [if_pos he];exact ⟨hlo,hhi,fun h=>absurd h he⟩
 rw [if_neg (by simpa using he)]
 by_cases hb:10000<t.length
 ·rw [if_pos hb];exact ⟨h0,h1,fun h=>absurd h (show ¬ (3:Int)=0 by decide)⟩
 rw [if_neg hb];cases hr:W0 t with
 | false=>rw [if_pos rfl];exact ⟨h0,h1,fun h=>absurd h (show ¬ (4:Int)=0 by decide)⟩
 | true =>
  rw [if_neg (by simp)]
  obtain ⟨k1,k2,k3⟩:=hE.ok he;obtain ⟨g1,g2,g3⟩:=hE.sites he;have g4:=hE.cnt he;simp only at k1 k2 g1 g2 g3 g4;have hp:1≤t.length:=by
   cases t with
   | nil=>exact absurd rfl k3
   | cons a t=>simp
  refine ⟨by show (0:Int)≤0;omega,by show (0:Int)≤l.length;omega,fun _=>⟨by show i+1≤qa;omega,k2,by show (qs.length:Int)≤qa-i;simp only [List.length_nil] at g2;omega,hr,hN,k1,fun z=>?_⟩⟩
  show J3 (G3 z) t=if site≤z∧z<site+(qs.length:Int) then 1 else 0
  rw [g4];simp only [List.length_nil] at g3;have:qi=site+(qs.length:Int):=by omega
  rw [this]
def Lr:Con:=Wq (fun (l:Sl Tok) (s:St6) (v:Int)=>St6Ok l.l s∧(s.e=0→1≤v∧v≤100)) (fun l s v=>((⟨(Cf l.l s v).1⟩,(Cf l.l s v).2):Sl Node×St6))
structure w520k:Prop
theorem w520k.k (_:w520k) {p:Prop} (h:p:=by
 repeat' first|exact Qg|with_reducible apply And.intro|intro _
 all_goals first|with_reducible exact Jf|omega|exact ⟨hlen,htx⟩|exact htx|rfl|trivial|skip):p:=h
structure w521k:Prop
theorem w521k.k (_:w521k) {p:Prop} (h:p:=by
 repeat' first|exact Qg|with_reducible apply And.intro|intro _
 all_goals first|with_reducible exact Jf|omega|exact ⟨hlen,htx⟩|exact htx|rfl|trivial|skip):p:=h
theorem good_typed6:Qr Tryz.prog (224,Lr):=by
 obtain ⟨Kx,Kt,Kc,Kd,Kb,Ku,Kw,K,Yj,Kv,_⟩:=Wi Z3 Zn [] false (Ja Zge Ro.eq_def (Ja Uq Pa Wg));have Ko:=Lr.eq_def;refine Wh K Tryz.func224 [.tmp 6,.cell 7 137] rfl 51 rfl (fun c hc cvs hpre=>?_);unfold Lr at hpre;obtain ⟨⟨l⟩,⟨i,ss,e⟩,v,rfl,hS,hv⟩:=G6 hpre;simp only at hS hv;clear hpre;have hlen:=hS.len;have hlo:=hS.lo;have hhi:=hS.hi;have hss:=hS.sites;have htx:=hS.long;simp only at hlo hhi hss;obtain ⟨⟨Rt,⟨Ra,Rs,Re⟩⟩,Qi⟩:=exq (Cf l ⟨i,ss,e⟩ v);have hR2:=Qi;unfold Cf at hR2;simp only at hR2;have Z2:(ss.map (enc:Site→D)).length=ss.length:=Zk ..;cases hc;refine Ys 3 ?_;by_cases he:e=0
 case neg =>
  rw [if_pos he] at hR2;have Qh:(e != 0)=true:=bne_iff_ne.2 he;simp only [Zb,St6.mk.injEq] at hR2;obtain ⟨rfl,rfl,rfl,rfl⟩:=hR2;have Qz:=@Qx;have Zv:=@Jd;have Zx:=@Je;exact L9
 have Qh:(e != 0)=false:=by rw [he];rfl
 rw [if_neg (by simpa using he)] at hR2
 obtain ⟨hv1,hv2⟩:=hv he;have hF:=dA hlen htx hlo hhi (site:=(ss.length:Int)+1) (by omega) hv1 hv2
 obtain ⟨⟨t,a,qs,bad,re⟩,hr⟩:=exq (Yu l i ((ss.length:Int)+1) v);rw [hr] at hR2 hF;have Qd:=Zoa hr;simp only at hR2 hF;obtain ⟨hF1,hF2,hF3⟩:=hF;by_cases hre:re=0
 case neg =>
  rw [if_pos hre] at hR2;have Z5:(re != 0)=true:=bne_iff_ne.2 hre;simp only [Zb,St6.mk.injEq] at hR2;obtain ⟨rfl,rfl,rfl,rfl⟩:=hR2;have Z9:Jp ⟨bad,ss,e⟩ re=⟨bad,ss,re⟩:=by unfold Jp;rw [if_pos he]
  have Qz:=@Zbr.eq_def;have Zv:=@Qx;have Zx:=@Jd;have Zu:=@Je;have Kq:w520k:=⟨⟩;exact eY
 have Z5:(re != 0)=false:=by rw [hre];rfl
 rw [if_neg (by simpa using hre)] at hR2
 obtain ⟨f1,f2,f3,-⟩:=hF3 hre;simp only [Zb,St6.mk.injEq] at hR2;obtain ⟨rfl,rfl,hRs,rfl⟩:=hR2;have Q0:ss.map (enc:Site→D)++qs.map enc=Rs.map enc:=by rw [←hRs,List.map_append]
 have Q2:(Rs.map (enc:Site→D)).length=ss.length+qs.length:=by rw [←hRs,Zk,Zj]
 have Qu:(qs.map (enc:Site→D)).length=qs.length:=Zk ..;clear hRs;have Qz:=@Zbr.eq_def;have Zv:=@Qx;have Zx:=@Jd;have Zu:=@Je;have Kq:w521k:=⟨⟩;exact eY
def Np:Con:=Wq (fun (l:Sl Tok) (s:St6) (v:Int)=>St6Ok l.l s∧(s.e=0→1≤s.at_∧1≤v∧v≤100)) (fun l s v=>((⟨(Uv l.l s v).1⟩,(Uv l.l s v).2):Sl Node×St6))
theorem St:Qr Tryz.prog (185,Np):=by
 obtain ⟨Kx,Kt,Kc,Kd,Kb,Ku,Kw,K,Yj,Kv,_⟩:=Wi Z3 Zn [] false (Ja good_typed6 Lr.eq_def (Ja Pn Ac Wg));have Ko:=Np.eq_def;refine Wh K Tryz.func185 [.tmp 6,.cell 7 137] rfl 52 rfl (fun c hc cvs hpre=>?_);unfold Np at hpre;obtain ⟨⟨l⟩,⟨i,ss,e⟩,v,rfl,hS,hv⟩:=G6 hpre;simp only at hS hv;clear hpre;have hlen:=hS.len;have hlo:=hS.lo;have hhi:=hS.hi;have hss:=hS.sites;have htx:=hS.txt;simp only at hlo hhi hss;obtain ⟨⟨Rt,⟨Ra,Rs,Re⟩⟩,Qi⟩:=exq (Uv l ⟨i,ss,e⟩ v);have Qd:=Qi;unfold Uv at Qd;simp only at Qd;have Z5:(ss.map (enc:Site→D)).length=ss.length:=Zk ..;cases hc;refine Ys 3 ?_;by_cases he:e=0
 case neg =>
  rw [if_pos he] at Qd;have Qh:(e != 0)=true:=bne_iff_ne.2 he;simp only [Zb,St6.mk.injEq] at Qd;obtain ⟨rfl,rfl,rfl,rfl⟩:=Qd;have Qz:=@Qx;have Zv:=@Jd;have Zx:=@Je;exact L9
 have Qh:(e != 0)=false:=by rw [he];rfl
 rw [if_neg (by simpa using he)] at Qd
 obtain ⟨hi1,hv1,hv2⟩:=hv he;cases Z2:T0 l ⟨i,ss,e⟩ 5 [58] with
 | true =>
  rw [Z2,if_pos rfl] at Qd;have hlt:i<l.length:=by
   unfold T0 at Z2;simp only [Zg,Jw] at Z2;exact Z2.2.1
  have hadv:Xh ⟨i,ss,e⟩=⟨i+1,ss,e⟩:=rfl;rw [hadv] at Qd;have hok:St6Ok l ⟨i+1,ss,e⟩:=⟨hlen,by show 0≤i+1;omega,by show i+1≤_;omega,hss,htx,hS.fig⟩
  have hvv:e=0→1≤v∧v≤100:=fun _=>⟨hv1,hv2⟩;have Qz:=@Qx;have Zv:=@Jd;have Zx:=@Je;exact L9
 | false =>
  rw [Z2,if_neg (by simp)] at Qd
  obtain ⟨i,rfl⟩:∃ n:Nat,i=n:=⟨i.toNat,by omega⟩
  have Z9:(i:Int)-1=((i-1:Nat):Int):=by omega
  have Qu:=Zo Yy (show i-1<l.length by omega)
  rw [Z9,Kh] at Qd;obtain ⟨t,ht⟩:=exq (l.getD (i-1) Yy);rw [ht] at Qu Qd;simp only [Zb,St6.mk.injEq] at Qd;obtain ⟨rfl,rfl,hRs,rfl⟩:=Qd;have Q0:ss.map (enc:Site→D)++[.agg [.int .i64 t.to,.int .i64 t.to,.bool true]]=Rs.map enc:=by rw [←hRs,List.map_append];rfl
  have Q2:(Rs.map (enc:Site→D)).length=ss.length+1:=by rw [←hRs,Zk,Zj];rfl
  have hRs2:(Rs.length:Int)=(ss.length:Int)+1:=by rw [←hRs,Zj];rfl
  clear hRs;have Qz:=@Qx;have Zv:=@Jd;have Zx:=@Je;exact L9
def Mi (l:List (Sl Part)):List Part:=l.flatMap fun x=>x.l
def Xr (p:Part) (l:List (Sl Part)):List Part:=p::Mi l
theorem Zgg {l:List (Sl Part)} {k:Nat} (h:k<l.length):Mi (l.take (k+1))=Mi (l.take k)++(l.getD k ⟨[]⟩).l:=by
 unfold Mi;rw [Gp (⟨[]⟩:Sl Part) h,List.flatMap_append];simp
theorem Zjr {l:List (Sl Part)} (h:∀ x∈l,x.l.length≤1000000):(Mi l).length≤1000000*l.length:=by
 induction l with
 | nil=>exact Zm _
 | cons x l ih =>
  have:=ih fun y hy=>h y (List.mem_cons_of_mem _ hy);have hx:=h x (by simp)
  unfold Mi at this ⊢;rw [List.flatMap_cons,Zj,Zi];omega
def T8 {A B E:Type} [Enc A] [Enc B] [Enc E] [Sz E] (p:A→B→Prop) (f:A→B→List E):Con:=⟨[false,false],[true],fun c=>match c with
 | [.d x,.d y]=>Up A x∧Up B y∧p (dec x) (dec y)
 | _=>False,fun c=>match c with
 | [.d x,.d y]=>.own (Sz.sz E) ((f (dec x) (dec y)).map enc)
 | _=>.d .nilp⟩
theorem Zj1 {A B E:Type} [Enc A] [Enc B] [Enc E] [Sz E] {p:A→B→Prop} {f:A→B→List E} {c:List CV} (h:(T8 p f).pre c):∃ a b,c=[.d (enc a),.d (enc b)]∧p a b:=by
 unfold T8 at h;simp only at h;split at h
 ·next x y=>exact ⟨dec x,dec y,by rw [←h.1,←h.2.1],h.2.2⟩
 ·exact h.elim
def Hd {A B C E S:Type} [Enc A] [Enc B] [Enc C] [Enc E] [Sz E] [Enc S] (p:A→B→C→Prop) (f:A→B→C→List E×S):Con:=⟨[false,false,false],[true,false],fun c=>match c with
 | [.d x,.d y,.d z]=>Up A x∧Up B y∧Up C z∧p (dec x) (dec y) (dec z)
 | _=>False,fun c=>match c with
 | [.d x,.d y,.d z]=>.tup [.own (Sz.sz E) ((f (dec x) (dec y) (dec z)).1.map enc),.d (enc (f (dec x) (dec y) (dec z)).2)]
 | _=>.d .nilp⟩
theorem Jv {A B C E S:Type} [Enc A] [Enc B] [Enc C] [Enc E] [Sz E] [Enc S] {p:A→B→C→Prop} {f:A→B→C→List E×S} {c:List CV} (h:(Hd p f).pre c):∃ a b d,c=[.d (enc a),.d (enc b),.d (enc d)]∧p a b d:=by
 unfold Hd at h;simp only at h;split at h
 ·next x y z=>exact ⟨dec x,dec y,dec z,by rw [←h.1,←h.2.1,←h.2.2.1],h.2.2.2⟩
 ·exact h.elim
def Zeo {A B C D' E S:Type} [Enc A] [Enc B] [Enc C] [Enc D'] [Enc E] [Sz E] [Enc S] (p:A→B→C→D'→Prop) (f:A→B→C→D'→List E×S):Con:=⟨[false,false,false,false],[true,false],fun c=>match c with
 | [.d x,.d y,.d z,.d w]=>Up A x∧Up B y∧Up C z∧Up D' w∧p (dec x) (dec y) (dec z) (dec w)
 | _=>False,fun c=>match c with
 | [.d x,.d y,.d z,.d w]=>.tup [.own (Sz.sz E) ((f (dec x) (dec y) (dec z) (dec w)).1.map enc),.d (enc (f (dec x) (dec y) (dec z) (dec w)).2)]
 | _=>.d .nilp⟩
theorem Zen {A B C D' E S:Type} [Enc A] [Enc B] [Enc C] [Enc D'] [Enc E] [Sz E] [Enc S] {p:A→B→C→D'→Prop} {f:A→B→C→D'→List E×S} {c:List CV} (h:(Zeo p f).pre c):∃ a b d e,c=[.d (enc a),.d (enc b),.d (enc d),.d (enc e)]∧p a b d e:=by
 unfold Zeo at h;simp only at h;split at h
 ·next x y z w=>exact ⟨dec x,dec y,dec z,dec w,by rw [←h.1,←h.2.1,←h.2.2.1,←h.2.2.2.1],h.2.2.2.2⟩
 ·exact h.elim
def Yi:Con:=T8 (fun (_:Part) (l:Sl (Sl Part))=>l.l.length≤10∧∀ x∈l.l,x.l.length≤1000000) (fun p l=>Xr p l.l)
theorem Kj:type_of% @Yi.eq_def:=@Yi.eq_def
structure w523k:Prop
theorem w523k.k (_:w523k) {p:Prop} (h:p:=by
 repeat' first|exact Qg|with_reducible apply And.intro|intro _
 all_goals first|with_reducible exact Jf|omega|exact ⟨k+1,by (have Ks:=hl2;have Iv:=hP1l;exact Qy)<;>omega,by omega,by omega⟩|skip):p:=h
structure w522k:Prop
theorem w522k.k (_:w522k) {p:Prop} (h:p:=by
 repeat' first|exact Qg|with_reducible apply And.intro|intro _
 refine Zh [9,10,11,12,13,14,15,16,17,18,19,20] (fun k:Nat=>[(5,.sl 8 ((p::Mi (l.take k)).map (enc:Part→D)).length),(6,.d (.int .i64 k))]) (fun k:Nat=>[(8,.row 8 ((p::Mi (l.take k)).map enc) 0)]) (fun k:Nat=>k≤l.length) (fun k:Nat=>l.length-k) 0 ?_ ?_ ?_
 ·omega
 ·have Ks:=@Mi.eq_1;have Iv:=@Z0;exact Qy
 rintro k hk;have hb:=hbound k;rcases Zl k l.length with ⟨hlt,Qh⟩|⟨hlt,Qh⟩
 ·have Qi:=Zo (⟨[]⟩:Sl Part) hlt;have hS:=Zgg hlt;have hx2:=hL (l.getD k ⟨[]⟩) (by simp [hlt])
  obtain ⟨⟨x⟩,hx⟩:=exq (l.getD k ⟨[]⟩);rw [hx] at Qi hS hx2;simp only at hS hx2;obtain ⟨P,hP⟩:=exq (Mi (l.take k));rw [hP] at hb hS;rw [hP];have Z2:(p::P).map (enc:Part→D)++x.map enc=(p::Mi (l.take (k+1))).map enc:=by rw [hS,←List.map_append,List.cons_append]
  have Qd:((p::P).map (enc:Part→D)).length=P.length+1:=by simp
  have hl2:(Mi (l.take (k+1))).length=P.length+x.length:=by rw [hS,Zj]
  have Z5:(x.map (enc:Part→D)).length=x.length:=Zk ..;obtain ⟨P1,hP1⟩:=exq (p::P);have hP1l:P1.length=P.length+1:=by rw [←hP1];rfl
  rw [hP1] at Z2 Qd;rw [hP1];have Kq:w523k:=⟨⟩;exact eY
 ·have hke:k=l.length:=by omega
  rw [hke,List.take_length];rw [hke] at Qh;have hm:p::Mi l=R:=by rw [←Z9];rfl
  rw [hm];have Qu:=@T8.eq_def;exact Zko):p:=h
theorem good_made6:Qr Tryz.prog (251,Yi):=by
 obtain ⟨Kx,Kt,Kc,Kd,Kb,Ku,Kw,K,_⟩:=Wi Z3 Zn [] false Wg;have Ko:=Kj;refine Wh K Tryz.func251 [.tmp 4] rfl 22 rfl (fun c hc cvs hpre=>?_);unfold Yi at hpre;obtain ⟨p,⟨l⟩,rfl,hl,hL⟩:=Zj1 hpre;simp only at hl hL;clear hpre;obtain ⟨R,Z9⟩:=exq (Xr p l);have hbound:∀ k,(Mi (l.take k)).length≤10000000:=fun k=>by
  have:=Zjr (l:=l.take k) fun x hx=>hL x (List.mem_of_mem_take hx);rw [List.length_take] at this;omega
 cases hc;have Qu:=@T8.eq_def;have Kq:w522k:=⟨⟩;exact eY
end Go.Am.Ty
