/- Contracts of functions that the law reaches, and plain laws. Conditions: those that each contract states. -/
import Derived.Test.YtilpfkjhahnfaaaGreatF6
set_option maxHeartbeats 4000000
set_option linter.unusedVariables false
set_option linter.unusedSimpArgs false
variable {p:Prop}
set_option maxRecDepth 100000
namespace Go.Am.Ty
open Go.Proofs
open Enc (enc dec)
def bM:Con:=Ut (Sl.mk Zqj)
theorem Zo4:Qq Tryz.prog (222,bM):=by
 obtain ⟨Kx,Kt,Kc,Kd,Kb,Ku,Kw,K,_⟩:=X2 Z4 Zq [] false X1;have Ko:=bM.eq_def;refine Wh K Tryz.func222 [.tmp 0] rfl 2 rfl (fun c hc cvs hpre=>?_);unfold bM at hpre;obtain rfl:=jL hpre;cases hc;exact Lp
def Aj:Con:=Ut (Sl.mk dS)
theorem Zmc:Qq Tryz.prog (223,Aj):=by
 obtain ⟨Kx,Kt,Kc,Kd,Kb,Ku,Kw,K,_⟩:=X2 Z4 Zq [] false X1;have Ko:=Aj.eq_def;refine Wh K Tryz.func223 [.tmp 0] rfl 2 rfl (fun c hc cvs hpre=>?_);unfold Aj at hpre;obtain rfl:=jL hpre;cases hc;exact Lp
def A3:Con:=Xj (fun (_:List UInt8)=>True) (fun s=>lB s)
structure Kct:Prop
theorem Kct.k (_:Kct) (h:p:=by
 repeat' first|exact Z1|with_reducible apply Zb|intro _
 all_goals first|with_reducible exact Qo|omega|exact ⟨k+1,by exact Qk,by omega,h2,by omega⟩|skip):p:=h
structure Kcs:Prop
theorem Kcs.k (_:Kcs) (h:p:=by
 repeat' first|exact Z1|with_reducible apply Zb|intro _
 refine Zi [2,6,7,8,9,10,11,12,13,14,15,16,17] (fun k:Nat=>[(4,.d (.int .i64 k))]) (fun k:Nat=>[]) (fun k:Nat=>k≤18∧∀ j,j<k→l.getD j []≠s) (fun k:Nat=>18-k) 0 ?_ ?_ ?_
 ·simp
 ·exact Qk
 rintro k ⟨hk,hno⟩;by_cases hlt:k<18
 ·have Z6:Yi (k:Int) 18=true:=by rw [Xa];omega
  have Qa:=Zr ([]:List UInt8) (show k<l.length by omega)
  have hst:l.getD k []≠s→∀ j,j<k+1→l.getD j []≠s:=fun h=>Ks hno h;have hit:(l.getD k []==s)=true→R=true:=fun h=>by rw [←hR2];exact A8 (p:=fun o=>o==s) [] k (by omega) h
  obtain ⟨y,hy⟩:=exq (l.getD k []);rw [hy] at Qa hst hit;cases Qc:(y==s) with
  | true =>
   have hr:=hit Qc;subst hr;exact Lp
  | false =>
   have h2:=hst (Za.1 Qc);have Kq:Kct:=⟨⟩;exact K7
 ·have Z6:Yi (k:Int) 18=false:=by rw [Q9];omega
  have hr:R=false:=by rw [←hR2];exact Ly (p:=fun o=>o==s) [] fun j hj=>Za.2 (hno j (by omega))
  subst hr;exact Zrv):p:=h
theorem good_IsKey2:Qq Tryz.prog (180,A3):=by
 obtain ⟨Kx,Kt,Kc,Kd,Kb,Ku,Kw,K,W4,_⟩:=X2 Z4 Zq [] false (Jh Zo4 bM.eq_def X1);have Ko:=A3.eq_def;refine Wh K Tryz.func180 [.tmp 2] rfl 18 rfl (fun c hc cvs hpre=>?_);unfold A3 at hpre;obtain ⟨s,rfl,-⟩:=Jr hpre;clear hpre;obtain ⟨R,Qh⟩:=exq (lB s);have hR2:=Qh;unfold lB at hR2;have hl:Zqj.length=18:=rfl;obtain ⟨l,Qd⟩:=exq (Zqj);rw [Qd] at hR2 hl;have Qe:(l.length:Int)=18:=by rw [hl];rfl
 cases hc;have Kq:Kcs:=⟨⟩;exact K7
def bO:Con:=Xj (fun (_:UInt8)=>True) (fun c=>Zhr c)
theorem aF {c a b:UInt8}:Wv c a b=(Wf (a.toNat:Int) (c.toNat:Int)&&Wf (c.toNat:Int) (b.toNat:Int)):=by
 unfold Wv;rw [Nn,Nn]
structure Kcu:Prop
theorem Kcu.k (_:Kcu) (h:p:=by
 repeat' first|exact Z1|with_reducible apply Zb|intro _
 all_goals first|with_reducible exact Qo|(rw [←hR2];clear hR2 Qv Qd Qe Z6 Qa Qc Qh Qz Qp K;simp_all;done)|(symm;rw [←hR2];clear hR2 Qv Qd Qe Z6 Qa Qc Qh Qz Qp K;simp_all;done)|skip):p:=h
theorem good_goes2:Qq Tryz.prog (178,bO):=by
 obtain ⟨Kx,Kt,Kc,Kd,Kb,Ku,Kw,K,_⟩:=X2 Z4 Zq [] false X1;have Ko:=bO.eq_def;refine Wh K Tryz.func178 [.tmp 2] rfl 29 rfl (fun c hc cvs hpre=>?_);unfold bO at hpre;obtain ⟨c,rfl,-⟩:=Jr hpre;clear hpre;obtain ⟨R,Qv⟩:=exq (Zhr c);have hR2:=Qv;unfold Zhr at hR2;rw [aF,aF,aF] at hR2;have e1:Wf ((97:UInt8).toNat:Int) (c.toNat:Int)=Wf 97 (c.toNat:Int):=rfl;have e2:Wf (c.toNat:Int) ((122:UInt8).toNat:Int)=Wf (c.toNat:Int) 122:=rfl;have e3:Wf ((65:UInt8).toNat:Int) (c.toNat:Int)=Wf 65 (c.toNat:Int):=rfl;have e4:Wf (c.toNat:Int) ((90:UInt8).toNat:Int)=Wf (c.toNat:Int) 90:=rfl;have e5:Wf ((48:UInt8).toNat:Int) (c.toNat:Int)=Wf 48 (c.toNat:Int):=rfl;have e6:Wf (c.toNat:Int) ((57:UInt8).toNat:Int)=Wf (c.toNat:Int) 57:=rfl;rw [e1,e2,e3,e4,e5,e6] at hR2;have Qp:((c.toNat:Int)==95)=(c==95):=Mb (b:=95);obtain ⟨b1,Qd⟩:=exq (Wf 97 (c.toNat:Int));obtain ⟨b2,Qe⟩:=exq (Wf (c.toNat:Int) 122);obtain ⟨b3,Z6⟩:=exq (Wf 65 (c.toNat:Int));obtain ⟨b4,Qa⟩:=exq (Wf (c.toNat:Int) 90);obtain ⟨b5,Qc⟩:=exq (Wf 48 (c.toNat:Int));obtain ⟨b6,Qh⟩:=exq (Wf (c.toNat:Int) 57);obtain ⟨b7,Qz⟩:=exq ((c==95));rw [Qd,Qe,Z6,Qa,Qc,Qh,Qz] at hR2;clear e1 e2 e3 e4 e5 e6;cases hc;have Ys:=Kt;have Yr:=Kt;have Ex:=Kt;have Wl:=Kt;have Nn:=Kt;have Kf:=Kt;have Q4:=@Zpd;have Z0:=@Zow;have Z3:=@Zpf;have Kq:Kcu:=⟨⟩;exact K7
def Ee:Con:=Xj (fun (_:UInt8)=>True) (fun c=>Wn c)
structure Kcv:Prop
theorem Kcv.k (_:Kcv) (h:p:=by
 repeat' first|exact Z1|with_reducible apply Zb|intro _
 all_goals first|with_reducible exact Qo|(rw [←hR2];clear hR2 Z6 Qd Qe K;simp_all;done)|(symm;rw [←hR2];clear hR2 Z6 Qd Qe K;simp_all;done)|skip):p:=h
theorem good_figure2:Qq Tryz.prog (182,Ee):=by
 obtain ⟨Kx,Kt,Kc,Kd,Kb,Ku,Kw,K,_⟩:=X2 Z4 Zq [] false X1;have Ko:=Ee.eq_def;refine Wh K Tryz.func182 [.tmp 2] rfl 9 rfl (fun c hc cvs hpre=>?_);unfold Ee at hpre;obtain ⟨c,rfl,-⟩:=Jr hpre;clear hpre;obtain ⟨R,Z6⟩:=exq (Wn c);have hR2:=Z6;unfold Wn at hR2;rw [aF] at hR2;have e5:Wf ((48:UInt8).toNat:Int) (c.toNat:Int)=Wf 48 (c.toNat:Int):=rfl;have e6:Wf (c.toNat:Int) ((57:UInt8).toNat:Int)=Wf (c.toNat:Int) 57:=rfl;rw [e5,e6] at hR2;obtain ⟨b5,Qd⟩:=exq (Wf 48 (c.toNat:Int));obtain ⟨b6,Qe⟩:=exq (Wf (c.toNat:Int) 57);rw [Qd,Qe] at hR2;clear e5 e6;cases hc;have Ys:=Kt;have Yr:=Kt;have Ex:=Kt;have Wl:=Kt;have Nn:=Kt;have Kf:=Kt;have Qa:=@Zpd;have Qc:=@Zow;have Qh:=@Zpf;have Kq:Kcv:=⟨⟩;exact K7
theorem B8 {s:List UInt8} {k:Nat} (h:k<s.length):s.drop k=s.getD k 0::s.drop (k+1):=by
 rw [List.drop_eq_getElem_cons h];simp [h]
def Tx:Con:=Wr (fun (s:List UInt8) (i:Int)=>s.length≤1000000∧0≤i∧i≤s.length) (fun s i=>(Ij s i.toNat:Int))
structure Kcx:Prop
theorem Kcx.k (_:Kcx) (h:p:=by
 repeat' first|exact Z1|with_reducible apply Zb|intro _
 all_goals first|with_reducible exact Qo|omega|exact ⟨k+1,by exact Qk,by omega,hst,by omega⟩|skip):p:=h
structure Kcy:Prop
theorem Kcy.k (_:Kcy) (h:p:=by
 repeat' first|exact Z1|with_reducible apply Zb|intro _
 all_goals first|with_reducible exact Qo|omega|exact ⟨k+1,by exact Qk,by omega,hst,by omega⟩|skip):p:=h
structure Kcz:Prop
theorem Kcz.k (_:Kcz) (h:p:=by
 repeat' first|exact Z1|with_reducible apply Zb|intro _
 all_goals first|with_reducible exact Qo|omega|exact ⟨k+1,by exact Qk,by omega,hst,by omega⟩|skip):p:=h
structure KcB:Prop
theorem KcB.k (_:KcB) (h:p:=by
 repeat' first|exact Z1|with_reducible apply Zb|intro _
 all_goals first|with_reducible exact Qo|omega|exact ⟨j,by exact Qk,by omega,hst,by omega⟩|skip):p:=h
structure KcC:Prop
theorem KcC.k (_:KcC) (h:p:=by
 repeat' first|exact Z1|with_reducible apply Zb|intro _
 all_goals first|with_reducible exact Qo|omega|exact ⟨j+1,by exact Qk,by omega,by omega,by omega,by omega⟩|skip):p:=h
structure KcD:Prop
theorem KcD.k (_:KcD) (h:p:=by
 repeat' first|exact Z1|with_reducible apply Zb|intro _
 all_goals first|with_reducible exact Qo|omega|exact ⟨j,by exact Qk,by omega,hst,by omega⟩|skip):p:=h
structure KcA:Prop
theorem KcA.k (_:KcA) (h:p:=by
 repeat' first|exact Z1|with_reducible apply Zb|intro _
 all_goals try with_reducible exact Qo
 all_goals try omega
 refine Zi [31,32,33,34,35,36,37,38,39,40,41,42] (fun j:Nat=>[(1,.d (.int .i64 j))]) (fun j:Nat=>[]) (fun j:Nat=>k≤j∧j≤s.length∧j+Fn true (s.drop j)=R) (fun j:Nat=>s.length-j) k ?_ ?_ ?_
 ·exact ⟨by omega,by omega,hin⟩
 ·exact Qk
 rintro j ⟨hkj,hj,hJ⟩;rcases Zn j s.length with ⟨hjt,Zz⟩|⟨hjt,Zz⟩
 ·rw [B8 hjt,Fn] at hJ;have hJ2:=B8 hjt;obtain ⟨d,Z7⟩:=exq (s.getD j 0);rw [Z7] at hJ hJ2;have Z9:((d.toNat:Int) != 10)=(d != 10):=by rw [bne,bne];exact congrArg _ (Mb (b:=10))
  by_cases hd10:d=10
  ·rw [if_pos hd10] at hJ;have Qg:(d != 10)=false:=by rw [hd10];rfl
   have hjk:k<j:=by
    rcases Nat.lt_or_ge k j with h|h
    ·exact h
    ·have:j=k:=by omega
     subst this;rw [Qe] at Z7;rw [←Z7,c4] at hd10;exact absurd hd10 (by decide)
   have hst:j+Fn false (s.drop j)=R:=by
    rw [hJ2,Fn,if_pos (.inr (.inr hd10))];omega
   have Kq:KcB:=⟨⟩;exact K7
  ·rw [if_neg hd10] at hJ;have Qg:(d != 10)=true:=bne_iff_ne.2 hd10;have Kq:KcC:=⟨⟩;exact K7
 ·have hje:j=s.length:=by omega
  have hst:j+Fn false (s.drop j)=R:=by
   rw [List.drop_eq_nil_of_le hjt] at hJ ⊢;exact hJ
  have Kq:KcD:=⟨⟩;exact K7):p:=h
structure Kcw:Prop
theorem Kcw.k (_:Kcw) (h:p:=by
 repeat' first|exact Z1|with_reducible apply Zb|intro _
 refine Zi [4,5,6,7,8,9,10,11,12,13,14,15,16,17,18,19,20,21,22,23,24,25,26,27,28,29,30,31,32,33,34,35,36,37,38,39,40,41,42,43] (fun k:Nat=>[(1,.d (.int .i64 k))]) (fun k:Nat=>[]) (fun k:Nat=>k≤s.length∧k+Fn false (s.drop k)=R) (fun k:Nat=>s.length-k) i ?_ ?_ ?_
 ·exact ⟨by omega,hR2⟩
 ·exact Qk
 rintro k ⟨hk,hG⟩;rcases Zn k s.length with ⟨hlt,Qd⟩|⟨hlt,Qd⟩
 ·rw [B8 hlt,Fn] at hG;obtain ⟨c,Qe⟩:=exq (s.getD k 0);rw [Qe] at hG;have Z6:((c.toNat:Int)==32)=(c==32):=Mb (b:=32);have Qc:((c.toNat:Int)==9)=(c==9):=Mb (b:=9);have Qp:((c.toNat:Int)==10)=(c==10):=Mb (b:=10);have Qv:((c.toNat:Int)==35)=(c==35):=Mb (b:=35);have k1:(k:Int)+1=((k+1:Nat):Int):=rfl;by_cases hg:c=32∨c=9∨c=10
  ·rw [if_pos hg] at hG;have hst:k+1+Fn false (s.drop (k+1))=R:=by omega
   by_cases c1:c=32
   ·have Qa:(c==32)=true:=Zm.2 c1;have Kq:Kcx:=⟨⟩;exact K7
   have Qa:(c==32)=false:=Za.2 c1;by_cases c2:c=9
   ·have Qh:(c==9)=true:=Zm.2 c2;have Kq:Kcy:=⟨⟩;exact K7
   have Qh:(c==9)=false:=Za.2 c2;have Qz:(c==10)=true:=Zm.2 (by rcases hg with h|h|h<;>first|exact h|contradiction)
   have Kq:Kcz:=⟨⟩;exact K7
  ·rw [if_neg hg] at hG;have Qa:(c==32)=false:=Za.2 fun h=>hg (.inl h);have Qh:(c==9)=false:=Za.2 fun h=>hg (.inr (.inl h));have Qz:(c==10)=false:=Za.2 fun h=>hg (.inr (.inr h));by_cases c4:c=35
   case neg =>
    have Q4:(c==35)=false:=Za.2 c4;rw [if_neg c4] at hG;have Z3:R=k:=by omega
    exact Lp
   have Q4:(c==35)=true:=Zm.2 c4;rw [if_pos c4] at hG;have hin:k+Fn true (s.drop k)=R:=by
    rw [B8 hlt,Qe,Fn,if_neg (by rw [c4];decide)]
    exact hG
   have Kq:KcA:=⟨⟩;exact K7
 ·rw [List.drop_eq_nil_of_le hlt] at hG;have Z3:R=k:=by simpa [Fn] using hG.symm
  exact Zrv):p:=h
theorem good_between2:Qq Tryz.prog (142,Tx):=by
 obtain ⟨Kx,Kt,Kc,Kd,Kb,Ku,Kw,K,_⟩:=X2 Z4 Zq [] false X1;have Ko:=Tx.eq_def;refine Wh K Tryz.func142 [.tmp 4] rfl 45 rfl (fun c hc cvs hpre=>?_);unfold Tx at hpre;obtain ⟨s,i,rfl,hs,hi0,hi1⟩:=Jv hpre;obtain ⟨i,rfl⟩:∃ n:Nat,i=n:=⟨i.toNat,by omega⟩
 clear hpre;obtain ⟨R,Z0⟩:=exq (Ij s i);have hR2:=Z0;unfold Ij at hR2;cases hc;refine Yv 2 ?_;have Kq:Kcw:=⟨⟩;exact K7
theorem Zkt {s:List UInt8} {i:Nat} {l:List (List UInt8)} {k:Nat} (h:k<l.length):S0 s i (l.drop k)=cond (kL s i (l.getD k [])) (l.getD k []) (S0 s i (l.drop (k+1))):=by
 rw [List.drop_eq_getElem_cons h,S0];simp [h]
def bG:Con:=Wr (fun (s:List UInt8) (i:Int)=>s.length≤1000000∧0≤i∧i≤s.length) (fun s i=>S3 s i.toNat)
structure KcF:Prop
theorem KcF.k (_:KcF) (h:p:=by
 repeat' first|exact Z1|with_reducible apply Zb|intro _
 all_goals first|with_reducible exact Qo|omega|(rw [Xy];omega)|exact ⟨k+1,by exact Qk,by omega,hS,by omega⟩|skip):p:=h
structure KcG:Prop
theorem KcG.k (_:KcG) (h:p:=by
 repeat' first|exact Z1|with_reducible apply Zb|intro _
 all_goals first|with_reducible exact Qo|omega|(rw [Xy];omega)|exact ⟨k+1,by exact Qk,by omega,hS,by omega⟩|skip):p:=h
structure KcE:Prop
theorem KcE.k (_:KcE) (h:p:=by
 repeat' first|exact Z1|with_reducible apply Zb|intro _
 refine Zi [4,8,9,10,11,12,13,14,15,16,17,18,19,20,21,22,23,24,25,26,27,28,29,30,31,32,33,34,35,36,37,38,39,40,41,42,43,44] (fun k:Nat=>[(6,.d (.int .i64 k))]) (fun k:Nat=>[]) (fun k:Nat=>k≤24∧S0 s i (l.drop k)=R) (fun k:Nat=>24-k) 0 ?_ ?_ ?_
 ·exact ⟨by omega,hR2⟩
 ·exact Qk
 rintro k ⟨hk,hS⟩;by_cases hlt:k<24
 ·have Z6:Yi (k:Int) 24=true:=by rw [Xa];omega
  have Qa:=Zr ([]:List UInt8) (show k<l.length by omega)
  have hx2:=hsz (l.getD k []) (by simp [show k<l.length by omega])
  rw [Zkt (by omega)] at hS
  obtain ⟨y,hy⟩:=exq (l.getD k []);rw [hy] at Qa hx2 hS;have Qc:(i:Int)+(y.length:Int)=((i+y.length:Nat):Int):=rfl;unfold kL at hS;cases Qh:Wf ((i+y.length:Nat):Int) (s.length:Int) with
  | false =>
   rw [Qh,Bool.false_and,cond_false] at hS;have Kq:KcF:=⟨⟩;exact K7
  | true =>
   rw [Qh,Bool.true_and] at hS;rw [Qx] at Qh;have Qp:Wf ((i+y.length:Nat):Int) (s.length:Int)=true:=by rw [Qx];exact Qh
   cases Qz:((s.take (i+y.length)).drop i==y) with
   | true =>
    rw [Qz,cond_true] at hS;subst hS;exact Lp
   | false =>
    rw [Qz,cond_false] at hS;have Kq:KcG:=⟨⟩;exact K7
 ·have Z6:Yi (k:Int) 24=false:=by rw [Q9];omega
  have hr:R=[]:=by
   rw [←hS,List.drop_eq_nil_of_le (by omega)]
   rfl
  subst hr;exact Zrv):p:=h
theorem good_sign2:Qq Tryz.prog (183,bG):=by
 obtain ⟨Kx,Kt,Kc,Kd,Kb,Ku,Kw,K,W4,_⟩:=X2 Z4 Zq [] false (Jh Zmc Aj.eq_def X1);have Ko:=bG.eq_def;refine Wh K Tryz.func183 [.tmp 4] rfl 45 rfl (fun c hc cvs hpre=>?_);unfold bG at hpre;obtain ⟨s,i,rfl,hs,hi0,hi1⟩:=Jv hpre;obtain ⟨i,rfl⟩:∃ n:Nat,i=n:=⟨i.toNat,by omega⟩
 clear hpre;obtain ⟨R,Qv⟩:=exq (S3 s i);have hR2:=Qv;unfold S3 at hR2;have hl:dS.length=24:=rfl;have hsz:∀ x∈dS,x.length≤2:=by decide
 obtain ⟨l,Qd⟩:=exq (dS);rw [Qd] at hR2 hl hsz;have Qe:(l.length:Int)=24:=by rw [hl];rfl
 cases hc;refine Yv 2 ?_;have Kq:KcE:=⟨⟩;exact K7
theorem Zci {s:List UInt8}:∀ {f i:Nat} {out:List UInt8},(dM f s i out).2.2≠0→(dM f s i out).2.1=0
 | 0,_,_,_=>rfl
 | f+1,i,out,h=>by
  unfold dM at h ⊢;split at h
  ·rename_i a;rw [if_pos a]
  rename_i a;rw [if_neg a];split at h
  ·exact absurd rfl h
  rename_i a;rw [if_neg a];split at h
  ·rename_i a;rw [if_pos a]
  rename_i a;rw [if_neg a];split at h
  ·rename_i a;rw [if_pos a];split at h
   ·rename_i a;rw [if_pos a]
   rename_i a;rw [if_neg a];exact Zci h
  ·rename_i a;rw [if_neg a];exact Zci h
theorem Zla {s:List UInt8} {i W:Nat} (hW:W≤s.length) {q:Nat} (hq:i+q<W):((s.take W).drop i).getD q 0=s.getD (i+q) 0:=by
 have h1:i+q<(s.take W).length:=by rw [List.length_take];omega
 rw [Zd,Zd,List.getElem?_drop,List.getElem?_take,if_pos hq]
theorem Zgt {s:List UInt8} {i W:Nat} (hi:i≤W) (hW:W≤s.length) (h:∀ m,i≤m→m<W→Wn (s.getD m 0)=true):((s.take W).drop i).all Wn=true:=by
 have hl:((s.take W).drop i).length=W-i:=by rw [List.length_drop,List.length_take];omega
 refine Cd (p:=Wn) 0 fun j hj=>?_;rw [hl] at hj;rw [Zla hW (by omega)]
 exact h _ (by omega) (by omega)
theorem dV {s:List UInt8} {i W m:Nat} (hW:W≤s.length) (h1:i≤m) (h2:m<W) (h:Wn (s.getD m 0)=false):((s.take W).drop i).all Wn=false:=by
 have hl:((s.take W).drop i).length=W-i:=by rw [List.length_drop,List.length_take];omega
 refine cF (p:=Wn) 0 (m-i) (by omega) ?_
 rw [Zla hW (by omega),show i+(m-i)=m by omega]
 exact h
theorem Zcq {s:List UInt8} {i:Nat}:(S3 s i).length≤2:=by
 have h:∀ l:List (List UInt8),(∀ x∈l,x.length≤2)→(S0 s i l).length≤2:=by
  intro l
  induction l with
  | nil=>intro _;simp [S0]
  | cons x l ih =>
   intro hl;rw [S0];cases kL s i x
   ·exact ih fun y hy=>hl y (List.mem_cons_of_mem _ hy)
   ·exact hl x (by simp)
 exact h dS (by decide)
def jB:Con:=Zeq (fun (s:List UInt8) (i:Int)=>s.length≤1000000∧0≤i∧i<s.length) (fun s i=>fU s i.toNat)
structure KcI:Prop
theorem KcI.k (_:KcI) (h:p:=by
 repeat' first|exact Z1|with_reducible apply Zb|intro _
 all_goals first|with_reducible exact Qo|omega|exact ⟨k+1,by exact Qk,by omega,by omega,h4,by omega⟩|skip):p:=h
structure KcK:Prop
theorem KcK.k (_:KcK) (h:p:=by
 repeat' first|exact Z1|with_reducible apply Zb|intro _
 all_goals first|with_reducible exact Qo|omega|exact ⟨j+1,by exact Qk,by omega,by omega,Eq.mpr hQ hq,by omega⟩|skip):p:=h
structure KcJ:Prop
theorem KcJ.k (_:KcJ) (h:p:=by
 repeat' first|exact Z1|with_reducible apply Zb|intro _
 all_goals try exact hlp
 all_goals try omega
 refine Zi [5,71,72,73,74,75,76,77,78,79,80,81] (fun j:Nat=>[(11,.d (.int .i64 j))]) (fun j:Nat=>[]) (fun j:Nat=>i≤j∧j≤W∧∀ m,i≤m→m<j→Wn (s.getD m 0)=true) (fun j:Nat=>W-j) i ?_ ?_ ?_
 ·exact ⟨by omega,by omega,fun m h1 h2=>absurd h2 (by omega)⟩
 ·exact Qk
 rintro j ⟨g1,g2,g3⟩;rcases Zn j W with ⟨hjt,Z7⟩|⟨hjt,Z7⟩
 ·have hfnj:=hfn g1 hjt;have hyj:Wn (s.getD j 0)=true→∀ m,i≤m→m<j+1→Wn (s.getD m 0)=true:=fun h m a b=>by
   rcases Nat.lt_or_ge m j with q|q
   ·exact g3 m a q
   ·have:m=j:=by omega
    subst this;exact h
  obtain ⟨Q,hQ⟩:=exq ((∀ m,i≤m→m<j+1→Wn (s.getD m 0)=true));rw [hQ] at hyj;obtain ⟨d,Qp⟩:=exq (s.getD j 0);rw [Qp] at hfnj hyj;cases Z9:Wn d with
  | true =>
   have hq:=hyj Z9;have Qn:=@J4;have Kq:KcK:=⟨⟩;exact K7
  | false =>
   rw [hfnj Z9,if_neg (by simp)] at hR2
   subst hR2;have Qn:=@J4;exact Lp
 ·rw [hfy (fun m a b=>g3 m a (by omega)),if_pos rfl] at hR2
  subst hR2;have Qn:=@J4;exact Lp):p:=h
structure KcM:Prop
theorem KcM.k (_:KcM) (h:p:=by
 repeat' first|exact Z1|with_reducible apply Zb|intro _
 all_goals first|with_reducible exact Qo|omega|exact ⟨j+1,by exact Qk,by omega,by omega,Eq.mpr hQ hq,by omega⟩|skip):p:=h
structure KcL:Prop
theorem KcL.k (_:KcL) (h:p:=by
 repeat' first|exact Z1|with_reducible apply Zb|intro _
 all_goals try exact hlp
 all_goals try omega
 refine Zi [5,71,72,73,74,75,76,77,78,79,80,81] (fun j:Nat=>[(11,.d (.int .i64 j))]) (fun j:Nat=>[]) (fun j:Nat=>i≤j∧j≤W∧∀ m,i≤m→m<j→Wn (s.getD m 0)=true) (fun j:Nat=>W-j) i ?_ ?_ ?_
 ·exact ⟨by omega,by omega,fun m h1 h2=>absurd h2 (by omega)⟩
 ·exact Qk
 rintro j ⟨g1,g2,g3⟩;rcases Zn j W with ⟨hjt,Z7⟩|⟨hjt,Z7⟩
 ·have hfnj:=hfn g1 hjt;have hyj:Wn (s.getD j 0)=true→∀ m,i≤m→m<j+1→Wn (s.getD m 0)=true:=fun h m a b=>by
   rcases Nat.lt_or_ge m j with q|q
   ·exact g3 m a q
   ·have:m=j:=by omega
    subst this;exact h
  obtain ⟨Q,hQ⟩:=exq ((∀ m,i≤m→m<j+1→Wn (s.getD m 0)=true));rw [hQ] at hyj;obtain ⟨d,Qp⟩:=exq (s.getD j 0);rw [Qp] at hfnj hyj;cases Z9:Wn d with
  | true =>
   have hq:=hyj Z9;have Qn:=@J4;have Kq:KcM:=⟨⟩;exact K7
  | false =>
   rw [hfnj Z9,if_neg (by simp)] at hR2
   subst hR2;have Qn:=@J4;exact Lp
 ·rw [hfy (fun m a b=>g3 m a (by omega)),if_pos rfl] at hR2
  subst hR2;have Qn:=@J4;exact Lp):p:=h
structure KcH:Prop
theorem KcH.k (_:KcH) (h:p:=by
 repeat' first|exact Z1|with_reducible apply Zb|intro _
 refine Zi [34,35,36,37,38,39,40,41,42,43,44,45] (fun k:Nat=>[(9,.d (.int .i64 k))]) (fun k:Nat=>[]) (fun k:Nat=>i≤k∧k≤s.length∧k+Gi (s.drop k)=W) (fun k:Nat=>s.length-k) i ?_ ?_ ?_
 ·exact ⟨by omega,by omega,hW⟩
 ·exact Qk
 rintro k ⟨h1,h2,h3⟩;rcases Zn k s.length with ⟨hlt,Qh⟩|⟨hlt,Qh⟩
 ·rw [B8 hlt,Gi] at h3;obtain ⟨d,Qp⟩:=exq (s.getD k 0);rw [Qp] at h3;cases Qz:Zhr d with
  | true =>
   rw [Qz,cond_true] at h3;have h4:k+1+Gi (s.drop (k+1))=W:=by omega
   have Kq:KcI:=⟨⟩;exact K7
  | false =>
   rw [Qz,cond_false,Nat.add_zero] at h3;rw [h3] at Qh Qp hlt;rw [h3];clear h3 h1 h2;obtain ⟨P,Qv⟩:=exq ((s.take W).drop i);rw [Qv] at hR2 hlp;have hfn:=fun {m:Nat} (a1:i≤m) (a2:m<W) (a3:Wn (s.getD m 0)=false)=>dV hWl a1 a2 a3;have hfy:=Zgt (s:=s) hWi hWl;rw [Qv] at hfn hfy;cases Q4:Sa P with
   | true =>
    rw [Q4,if_pos rfl] at hR2;subst hR2;have Qn:=@J4;exact Lp
   | false =>
   rw [Q4,if_neg (by simp)] at hR2
   cases Z0:lB P with
   | true =>
    rw [Z0,if_pos rfl] at hR2;subst hR2;have Qn:=@J4;exact Lp
   | false =>
   rw [Z0,if_neg (by simp)] at hR2
   cases Z3:Yo P with
   | true =>
    rw [Z3,if_pos rfl] at hR2;subst hR2;have Qn:=@J4;exact Lp
   | false =>
   rw [Z3,if_neg (by simp)] at hR2
   by_cases h0:0<Gi (s.drop i)
   ·rw [if_pos h0] at hR2;have Zz:Yi (i:Int) (W:Int)=true:=by rw [Xa];omega
    have Qg:(W:Int)-(i:Int)=(Gi (s.drop i):Int):=by omega
    have Qn:=@J4;have Kq:KcJ:=⟨⟩;exact K7
   ·rw [if_neg h0] at hR2;have Zz:Yi (i:Int) (W:Int)=false:=by rw [Q9];omega
    obtain ⟨g,Zv⟩:=exq (S3 s i);rw [Zv] at hR2;have hgl:g.length≤2:=by rw [←Zv];exact Zcq
    have Zw:(g != [])=!(g==[]):=rfl;subst hR2;have Qn:=@J4;exact Lp
 ·rw [List.drop_eq_nil_of_le hlt] at h3;have h3':k=W:=by simpa [Gi] using h3
  rw [h3'] at Qh hlt;rw [h3'];clear h3 h1 h2 h3';obtain ⟨P,Qv⟩:=exq ((s.take W).drop i);rw [Qv] at hR2 hlp;have hfn:=fun {m:Nat} (a1:i≤m) (a2:m<W) (a3:Wn (s.getD m 0)=false)=>dV hWl a1 a2 a3;have hfy:=Zgt (s:=s) hWi hWl;rw [Qv] at hfn hfy;cases Q4:Sa P with
  | true =>
   rw [Q4,if_pos rfl] at hR2;subst hR2;have Qn:=@J4;exact Lp
  | false =>
  rw [Q4,if_neg (by simp)] at hR2
  cases Z0:lB P with
  | true =>
   rw [Z0,if_pos rfl] at hR2;subst hR2;have Qn:=@J4;exact Lp
  | false =>
  rw [Z0,if_neg (by simp)] at hR2
  cases Z3:Yo P with
  | true =>
   rw [Z3,if_pos rfl] at hR2;subst hR2;have Qn:=@J4;exact Lp
  | false =>
  rw [Z3,if_neg (by simp)] at hR2
  by_cases h0:0<Gi (s.drop i)
  ·rw [if_pos h0] at hR2;have Zz:Yi (i:Int) (W:Int)=true:=by rw [Xa];omega
   have Qg:(W:Int)-(i:Int)=(Gi (s.drop i):Int):=by omega
   have Qn:=@J4;have Kq:KcL:=⟨⟩;exact K7
  ·rw [if_neg h0] at hR2;have Zz:Yi (i:Int) (W:Int)=false:=by rw [Q9];omega
   obtain ⟨g,Zv⟩:=exq (S3 s i);rw [Zv] at hR2;have hgl:g.length≤2:=by rw [←Zv];exact Zcq
   have Zw:(g != [])=!(g==[]):=rfl;subst hR2;exfalso;omega):p:=h
theorem good_one2:Qq Tryz.prog (143,jB):=by
 obtain ⟨Kx,Kt,Kc,Kd,Kb,Ku,Kw,K,W4,Gd,M4,Ln,Ek,cL,fW,_⟩:=X2 Z4 Zq [] false (Jh good_Unquote1 Tz.eq_def (Jh good_goes2 bO.eq_def (Jh good_IsTag1 Zce (Jh good_IsKey2 A3.eq_def (Jh good_IsWord1 Dk (Jh good_figure2 Ee.eq_def (Jh good_sign2 bG.eq_def X1)))))));have Ko:=jB.eq_def;refine Wh K Tryz.func143 [.cell 4 141,.tmp 5] rfl 100 rfl (fun c hc cvs hpre=>?_);unfold jB at hpre;obtain ⟨s,i,rfl,hs,hi0,hi1⟩:=lS hpre;obtain ⟨i,rfl⟩:∃ n:Nat,i=n:=⟨i.toNat,by omega⟩
 clear hpre;have hi:i<s.length:=by omega
 obtain ⟨R,Qc⟩:=exq (fU s i);have hR2:=Qc;unfold fU at hR2;obtain ⟨c,Qd⟩:=exq (s.getD i 0);rw [Qd] at hR2;have Qe:((c.toNat:Int)==34)=(c==34):=Mb (b:=34);by_cases h34:c=34
 ·rw [if_pos h34] at hR2;have Z6:(c==34)=true:=Zm.2 h34;have hdl:(s.drop i).length≤1000000:=by rw [List.length_drop];omega
  have hU:=Zix (s:=s.drop i);have hU4:(Ik (s.drop i)).2.2≠0→(Ik (s.drop i)).2.1=0:=by
   intro h;unfold Ik at h ⊢;split at h
   ·rename_i a;rw [if_pos a]
   ·rename_i a;rw [if_neg a];exact Zci h
  obtain ⟨⟨x,n,e⟩,Qa⟩:=exq (Ik (s.drop i));rw [Qa] at hR2 hU hU4;simp only at hR2 hU hU4;rw [List.length_drop] at hU;have hn:0≤n∧n≤1000000:=by
   by_cases he:e=0
   ·have:=hU he;omega
   ·have:=hU4 he;omega
  subst hR2;cases hc;refine Yv 6 ?_;have Qn:=@J4;exact Lp
 have Z6:(c==34)=false:=Za.2 h34;rw [if_neg h34] at hR2;have hw2:=fK (s.drop i);rw [List.length_drop] at hw2;obtain ⟨W,hW⟩:=exq (i+Gi (s.drop i));have hWi:i≤W:=by omega
 have hWl:W≤s.length:=by omega
 unfold Gp at hR2;rw [hW] at hR2;have hW3:(i:Int)+(Gi (s.drop i):Int)=(W:Int):=by omega
 rw [hW3] at hR2;have hlp:((s.take W).drop i).length≤9223372036854775807:=by rw [List.length_drop,List.length_take];omega
 cases hc;refine Yv 6 ?_;have Kq:KcH:=⟨⟩;exact K7
theorem Zp9 {s:List UInt8} {i:Nat} (hi:i<s.length) (h:(fU s i).2=true):∃ n:Nat,(fU s i).1.to=n∧i+1≤n∧n≤s.length:=by
 unfold fU at h ⊢;have hw:=fK (s.drop i);rw [List.length_drop] at hw;have hpl:(Gp s i).length=Gi (s.drop i):=by unfold Gp;rw [List.length_drop,List.length_take];omega
 split at h
 ·rename_i a;rw [if_pos a];have hU:=Zix (s:=s.drop i) (by simpa using h)
  rw [List.length_drop] at hU;exact ⟨i+(Ik (s.drop i)).2.1.toNat,by show (i:Int)+(Ik (s.drop i)).2.1=_;omega,by omega,by omega⟩
 rename_i a;rw [if_neg a];have hgo:∀ {k:Int} {x:List UInt8},x≠[]→x=Gp s i→∃ n:Nat,(Tok.mk k x i (i+Gi (s.drop i))).to=n∧i+1≤n∧n≤s.length:=fun {k x} hx he=>by
  have:x.length≠0:=by simpa using hx
  rw [he,hpl] at this;exact ⟨i+Gi (s.drop i),rfl,by omega,by omega⟩
 split at h
 ·rename_i a;rw [if_pos a];exact hgo (Zl7 a) rfl
 rename_i a;rw [if_neg a];split at h
 ·rename_i a;rw [if_pos a];refine hgo ?_ rfl;intro e;rw [e] at a;exact absurd a (by decide)
 rename_i a;rw [if_neg a];split at h
 ·rename_i a;rw [if_pos a];exact hgo (Zhl a) rfl
 rename_i a;rw [if_neg a];split at h
 ·rename_i a;rw [if_pos a];split at h
  ·rename_i b;rw [if_pos b];exact ⟨i+Gi (s.drop i),rfl,by omega,by omega⟩
  ·cases h
 ·rename_i a;rw [if_neg a];have hs:S3 s i≠[]:=by simpa using h
  have hl:∀ l:List (List UInt8),S0 s i l≠[]→i+(S0 s i l).length≤s.length:=by
   intro l
   induction l with
   | nil=>intro h;exact absurd rfl h
   | cons x l ih =>
    rw [S0];cases hx:kL s i x with
    | false=>exact ih
    | true =>
     intro _;rw [cond_true];unfold kL at hx;rw [Zk,Qx] at hx;omega
  have:=hl dS hs;have h0:(S3 s i).length≠0:=by simpa using hs
  unfold S3 at h0;exact ⟨i+(S3 s i).length,rfl,by unfold S3;omega,by unfold S3;omega⟩
def Ef:Con:=Uk (fun (s:List UInt8)=>s.length≤9223372036854775807) (fun s=>(⟨(Ba s).1⟩,(Ba s).2.1,(Ba s).2.2):List UInt8→Sl Tok×Int×Int)
structure KcO:Prop
theorem KcO.k (_:KcO) (h:p:=by
 repeat' first|exact Z1|with_reducible apply Zb|intro _
 all_goals first|with_reducible exact Qo|omega|exact ⟨(f,b1,out++[Tok.mk tk tt tf n]),by rw [hS];exact Qk,by simp only;omega,by simp only;omega,by simp only [Zh,Zj,List.length_nil];omega,h4,by simp only;omega⟩|skip):p:=h
structure KcP:Prop
theorem KcP.k (_:KcP) (h:p:=by
 repeat' first|exact Z1|with_reducible apply Zb|intro _
 all_goals first|with_reducible exact Qo|omega|(rw [hS];rfl)|(rw [hS])|rfl|skip):p:=h
structure KcN:Prop
theorem KcN.k (_:KcN) (h:p:=by
 repeat' first|exact Z1|with_reducible apply Zb|intro _
 all_goals try omega
 refine Zi [2,3,4,7,8,15,16,17,18,19,20,21,22,23,24,25,26,27,28,29,30,31,32,33,34,35] (fun p:Nat×Nat×List Tok=>[(5,.sl 12 (p.2.2.map (enc:Tok→D)).length),(6,.d (.int .i64 p.2.1))]) (fun p:Nat×Nat×List Tok=>[(12,.row 4 (p.2.2.map enc) 0)]) (fun p:Nat×Nat×List Tok=>s.length+1≤p.1+p.2.1∧p.2.1≤s.length∧p.2.2.length≤p.2.1∧Em p.1 s p.2.1 p.2.2=(R1,R2,R3)) (fun p:Nat×Nat×List Tok=>s.length-p.2.1) (s.length+1,b0,[]) ?_ ?_ ?_
 ·exact ⟨by simp only;omega,by simp only;omega,by simp,hR2⟩
 ·exact Qk
 rintro ⟨f,i,out⟩ ⟨h1,h2,h3,h4⟩;simp only at h1 h2 h3 h4;obtain ⟨f,rfl⟩:∃ g,f=g+1:=⟨f-1,by omega⟩
 rw [Em] at h4;have Qp:(out.map (enc:Tok→D)).length=out.length:=Zo ..;rcases Zn i s.length with ⟨hlt,Qa⟩|⟨hlt,Qa⟩
 ·rw [if_neg (by omega)] at h4
  have hto:=Zp9 hlt;obtain ⟨⟨t,ok⟩,Qc⟩:=exq (fU s i);rw [Qc] at h4 hto;simp only at h4 hto;cases ok with
  | false =>
   rw [if_pos rfl] at h4;injection h4 with e1 e2
   injection e2 with e2 e3
   subst e1 e2 e3;have Qz:=@J4;have Qv:=@Td;exact Lp
  | true =>
   rw [if_neg (by simp)] at h4
   obtain ⟨n,hn,hn1,hn2⟩:=hto rfl;have hbn:=aV (s:=s) hn2;obtain ⟨tk,tt,tf,tto⟩:=t;simp only at hn;subst hn;simp only [Zf] at h4;obtain ⟨b1,Qh⟩:=exq (Ij s n);rw [Qh] at h4 hbn;have hS:(out++[Tok.mk tk tt tf n]).map (enc:Tok→D)=out.map enc++[.agg [.int .i64 tk,.str tt,.int .i64 tf,.int .i64 n]]:=by rw [List.map_append];rfl
   have Qz:=@J4;have Qv:=@Td;have Kq:KcO:=⟨⟩;exact K7
 ·rw [if_pos (by omega)] at h4
  injection h4 with e1 e2
  injection e2 with e2 e3
  subst e1 e2 e3;have hS:(out++[Tok.mk 0 [] s.length s.length]).map (enc:Tok→D)=out.map enc++[.agg [.int .i64 0,.str [],.int .i64 s.length,.int .i64 s.length]]:=by rw [List.map_append];rfl
  have hS2:((out++[Tok.mk 0 [] s.length s.length]).map (enc:Tok→D)).length=out.length+1:=by simp
  have Qz:=@J4;have Qv:=@Td;have Kq:KcP:=⟨⟩;exact K7):p:=h
theorem good_Tokens2:Qq Tryz.prog (103,Ef):=by
 obtain ⟨Kx,Kt,Kc,Kd,Kb,Ku,Kw,K,W4,Gd,_⟩:=X2 Z4 Zq [] false (Jh good_between2 Tx.eq_def (Jh good_one2 jB.eq_def X1));have Ko:=Ef.eq_def;refine Wh K Tryz.func103 [.tmp 2,.tmp 3,.tmp 4] rfl 45 rfl (fun c hc cvs hpre=>?_);unfold Ef at hpre;obtain ⟨s,rfl,hs⟩:=Zer hpre;clear hpre;obtain ⟨⟨R1,R2,R3⟩,Qe⟩:=exq (Ba s);have hR2:=Qe;unfold Ba at hR2;by_cases h0:100000<s.length
 ·rw [if_pos h0] at hR2;have Qd:Yi 100000 (s.length:Int)=true:=by rw [Xa];omega
  injection hR2 with e1 e2
  injection e2 with e2 e3
  subst e1 e2 e3;cases hc;refine Yv 2 ?_;have Qz:=@Td;exact Lp
 have Qd:Yi 100000 (s.length:Int)=false:=by rw [Q9];omega
 rw [if_neg h0] at hR2;have hb0:=aV (s:=s) (i:=0) (by omega)
 obtain ⟨b0,Z6⟩:=exq (Ij s 0);rw [Z6] at hR2 hb0;cases hc;refine Yv 2 ?_;have Qz:=@Int.toNat_zero;have Qv:=@Td;have Kq:KcN:=⟨⟩;exact K7
theorem Hp {l:List Tok} {k:Nat}:tk l (k:Int)=l.getD k Kg:=by unfold tk;rw [Zf]
def Pm:Con:=Uj (fun (_:St4) (_ _:Int)=>True) (fun s i e=>Ke s i e)
theorem D7:Qq Tryz.prog (264,Pm):=by
 obtain ⟨Kx,Kt,Kc,Kd,Kb,Ku,Kw,K,_⟩:=X2 Z4 Zq [] false X1;have Ko:=Pm.eq_def;refine Wh K Tryz.func264 [.cell 6 261] rfl 12 rfl (fun c hc cvs hpre=>?_);unfold Pm at hpre;obtain ⟨s,i,e,rfl,-⟩:=Mg hpre;obtain ⟨R,Qd⟩:=exq (Ke s i e);have Qe:R=⟨i,s.site,s.sites,e⟩:=Qd.symm;cases hc;have Z6:=@Ea;have Qa:=@Mp;have Qc:=@Mt;have Qh:=@Dm;exact Lp
def Ar:Con:=Uj (fun (l:Sl Tok) (i:Int) (_:List UInt8)=>l.l.length≤1000000∧0≤i) (fun l i x=>S6 l.l i x)
theorem iJ:Qq Tryz.prog (263,Ar):=by
 obtain ⟨Kx,Kt,Kc,Kd,Kb,Ku,Kw,K,_⟩:=X2 Z4 Zq [] false X1;have Ko:=Ar.eq_def;refine Wh K Tryz.func263 [.tmp 6] rfl 28 rfl (fun c hc cvs hpre=>?_);unfold Ar at hpre;obtain ⟨⟨l⟩,i,x,rfl,hl,hi⟩:=Mg hpre;simp only at hl;obtain ⟨i,rfl⟩:∃ n:Nat,i=n:=⟨i.toNat,by omega⟩
 clear hpre;obtain ⟨R,Qa⟩:=exq (S6 l i x);have Qc:=Qa;unfold S6 at Qc;rw [Hp] at Qc;rcases Zn i l.length with ⟨hlt,Qd⟩|⟨hlt,Qd⟩
 ·have Qe:=Zr Kg hlt;obtain ⟨t,ht⟩:=exq (l.getD i Kg);rw [ht] at Qe Qc;rw [Qd,Bool.true_and] at Qc;obtain ⟨b1,Z6⟩:=exq ((t.kind==5));rw [Z6] at Qc;cases b1 with
  | false =>
   rw [Bool.false_and] at Qc;subst Qc;cases hc;have Qh:=@J4;have Qp:=@Ug;have Qz:=@Ui;have Qv:=@Vg;have Q4:=@Td;exact Lp
  | true =>
   rw [Bool.true_and] at Qc;cases hc;have Qh:=@J4;have Qp:=@Ug;have Qz:=@Ui;have Qv:=@Vg;have Q4:=@Td;exact Lp
 ·rw [Qd,Bool.false_and] at Qc;subst Qc;cases hc;have Qh:=@J4;have Qp:=@Ug;have Qz:=@Ui;have Qv:=@Vg;have Q4:=@Td;exact Zrv
def bR:Con:=Xj (fun (_:Tok)=>True) (fun t=>nF t)
structure KcQ:Prop
theorem KcQ.k (_:KcQ) (h:p:=by
 repeat' first|exact Z1|with_reducible apply Zb|intro _
 all_goals first|with_reducible exact Qo|(rw [←hR2];clear hR2 Qd K;simp_all;done)|(symm;rw [←hR2];clear hR2 Qd K;simp_all;done)|skip):p:=h
theorem good_base4:Qq Tryz.prog (267,bR):=by
 obtain ⟨Kx,Kt,Kc,Kd,Kb,Ku,Kw,K,_⟩:=X2 Z4 Zq [] false X1;have Ko:=bR.eq_def;refine Wh K Tryz.func267 [.tmp 2] rfl 16 rfl (fun c hc cvs hpre=>?_);unfold bR at hpre;obtain ⟨t,rfl,-⟩:=Jr hpre;clear hpre;obtain ⟨R,Qd⟩:=exq (nF t);have hR2:=Qd;unfold nF at hR2;cases hc;have Qe:=@J4;have Z6:=@Ug;have Qa:=@Ui;have Qc:=@Vg;have Qh:=@Td;have Kq:KcQ:=⟨⟩;exact K7
def C6:Con:=Uj (fun (l:Sl Tok) (s:St4) (_:List UInt8)=>l.l.length≤1000000∧0≤s.at_∧s.at_≤2000000) (fun l s x=>Uw l.l s x)
theorem nJ:Qq Tryz.prog (269,C6):=by
 obtain ⟨Kx,Kt,Kc,Kd,Kb,Ku,Kw,K,W4,Gd,_⟩:=X2 Z4 Zq [] false (Jh iJ Ar.eq_def (Jh D7 Pm.eq_def X1));have Ko:=C6.eq_def;refine Wh K Tryz.func269 [.cell 6 261] rfl 26 rfl (fun c hc cvs hpre=>?_);unfold C6 at hpre;obtain ⟨⟨l⟩,s,x,rfl,hl,hs0,hs1⟩:=Mg hpre;simp only at hl;clear hpre;obtain ⟨R,Qe⟩:=exq (Uw l s x);rcases Mm l s x with ⟨h1,Qc⟩|⟨h1,Qc⟩|⟨h1,Qc,h3⟩
 ·have Z6:R=s:=Qe.symm.trans Qc;have Qd:(s.e != 0)=true:=bne_iff_ne.2 h1;cases hc;have Qh:=@Ea;have Qp:=@Mp;have Qz:=@Mt;have Qv:=@Dm;exact Zrv
 ·have Z6:R=Ke s s.at_ 2:=Qe.symm.trans Qc;have Qd:(s.e != 0)=false:=by rw [h1];rfl
  have Qa:S6 l s.at_ x=false:=by
   cases hb:S6 l s.at_ x with
   | false=>rfl
   | true =>
    unfold Uw at Qc;rw [if_neg (by simpa using h1),hb,if_neg (by simp)] at Qc
    have:=congrArg St4.e Qc;rw [show (Ym s).e=s.e from rfl,h1] at this;exact absurd this (by show ¬ (0:Int)=2;decide)
  cases hc;have Qh:=@Ea;have Qp:=@Mp;have Qz:=@Mt;have Qv:=@Dm;exact Lp
 ·have Z6:R=⟨s.at_+1,s.site,s.sites,s.e⟩:=Qe.symm.trans h3;have Qd:(s.e != 0)=false:=by rw [h1];rfl
  cases hc;have Qh:=@Ea;have Qp:=@Mp;have Qz:=@Mt;have Qv:=@Dm;exact Lp
def Aq:Con:=Wr (fun (k:Int) (s:List UInt8)=>(k=6∨k=7)∧s.length≤9223372036854775807) (fun k s=>Ux k s)
structure KcR:Prop
theorem KcR.k (_:KcR) (h:p:=by
 repeat' first|exact Z1|with_reducible apply Zb|intro _
 all_goals first|omega|(rw [←hR2];simp_all;done)|(symm;rw [←hR2];simp_all;done)|skip):p:=h
structure KcS:Prop
theorem KcS.k (_:KcS) (h:p:=by
 repeat' first|exact Z1|with_reducible apply Zb|intro _
 all_goals first|omega|(rw [←hR2];simp_all;done)|(symm;rw [←hR2];simp_all;done)|skip):p:=h
theorem good_label3:Qq Tryz.prog (275,Aq):=by
 obtain ⟨Kx,Kt,Kc,Kd,Kb,Ku,Kw,K,W4,Gd,_⟩:=X2 Z4 Zq [] false (Jh good_IsTag1 Zce (Jh good_IsWord1 Dk X1));have Ko:=Aq.eq_def;refine Wh K Tryz.func275 [.tmp 4] rfl 19 rfl (fun c hc cvs hpre=>?_);unfold Aq at hpre;obtain ⟨k,s,rfl,hk,hs⟩:=Jv hpre;clear hpre;obtain ⟨R,Qe⟩:=exq (Ux k s);have hR2:=Qe;unfold Ux at hR2;obtain ⟨w,Qd⟩:=exq (Yo s);obtain ⟨g,Z6⟩:=exq (Sa s);rw [Qd,Z6] at hR2;rcases hk with rfl|rfl
 ·rw [if_neg (by decide)] at hR2
  cases hc;have Kq:KcR:=⟨⟩;exact K7
 ·rw [if_pos rfl] at hR2;cases hc;have Kq:KcS:=⟨⟩;exact K7
def Zck (types:List (List Node)):Nat:=(types.map List.length).sum
theorem Zwl {types:List (List Node)} {k:Nat} (h:k<types.length):(types.getD k []).length≤Zck types:=by
 unfold Zck
 induction types generalizing k with
 | nil=>simp at h
 | cons t types ih =>
  rw [List.map_cons,List.sum_cons];cases k with
  | zero=>simp
  | succ k =>
   have:=ih (k:=k) (by simpa using h)
   rw [List.getD_cons_succ];omega
def Zrg (labels:List (List UInt8)) (types:List (List Node)):Prop:=labels.length=types.length∧1≤types.length∧types.length≤50∧Zck types≤1000000∧(∀ t∈types,t≠[])∧∀ x∈labels,x.length≤9223372036854775807
def jF:Con:=Yq (fun (k:Int) (labels:Sl (List UInt8)) (types:Sl (Sl Node))=>(k=6∨k=7)∧Zrg labels.l (types.l.map Sl.l)) (fun k labels types=>((⟨(fF k labels.l (types.l.map Sl.l)).1⟩,(fF k labels.l (types.l.map Sl.l)).2):Sl Node×Int))
theorem Zd3 {types:List (Sl Node)} {k:Nat}:(types.map Sl.l).getD k []=(types.getD k ⟨[]⟩).l:=by
 rw [Zd,Zd,List.getElem?_map];cases types[k]?<;>rfl
structure KcU:Prop
theorem KcU.k (_:KcU) (h:p:=by
 repeat' first|exact Z1|with_reducible apply Zb|intro _
 all_goals first|with_reducible exact Qo|omega|exact Or.inr trivial|exact ⟨j+1,by exact Qk,by omega,Eq.mpr hQ hq,by omega⟩|skip):p:=h
structure KcX:Prop
theorem KcX.k (_:KcX) (h:p:=by
 repeat' first|exact Z1|with_reducible apply Zb|intro _
 all_goals first|with_reducible exact Qo|omega|exact ⟨m+1,by rw [hb',hS];exact Qk,by omega,by omega⟩|skip):p:=h
structure KcY:Prop
theorem KcY.k (_:KcY) (h:p:=by
 repeat' first|exact Z1|with_reducible apply Zb|intro _
 all_goals first|with_reducible exact Qo|omega|exact ⟨m+1,by rw [hb',hS1];exact Qk,by omega,by omega⟩|skip):p:=h
structure KcZ:Prop
theorem KcZ.k (_:KcZ) (h:p:=by
 repeat' first|exact Z1|with_reducible apply Zb|intro _
 all_goals first|with_reducible exact Qo|omega|exact ⟨m+1,by rw [hb',hS];exact Qk,by omega,by omega⟩|skip):p:=h
structure Kda:Prop
theorem Kda.k (_:Kda) (h:p:=by
 repeat' first|exact Z1|with_reducible apply Zb|intro _
 all_goals first|with_reducible exact Qo|omega|exact ⟨m+1,by rw [hb',hS];exact Qk,by omega,by omega⟩|skip):p:=h
structure Kdb:Prop
theorem Kdb.k (_:Kdb) (h:p:=by
 repeat' first|exact Z1|with_reducible apply Zb|intro _
 all_goals first|with_reducible exact Qo|omega|exact ⟨(i+1,x,O2),by (have Um:=hlen;have Ix:=hP3;exact Qk),by simp only;omega,by simp only;rw [show types.length-(i+1)=types.length-i-1 by omega];exact h2,by simp only;omega,by simp only;omega⟩|skip):p:=h
structure KcW:Prop
theorem KcW.k (_:KcW) (h:p:=by
 repeat' first|exact Z1|with_reducible apply Zb|intro _
 all_goals try with_reducible exact Qo
 refine Zi [66,67,68,69,70,71,72,73,74,75,76,77,78,79,80,81,82,83,84,85,86,87,88,89,90,91,92,93] (fun m:Nat=>[(12,.d (.int .i64 (Y4 labels done m))),(13,.d (.int .i64 m))]) (fun m:Nat=>[]) (fun m:Nat=>m≤types.length) (fun m:Nat=>types.length-m) 0 ?_ ?_ ?_
 ·omega
 ·have Um:=@Y4.eq_1;have Ix:=@Y4.eq_2;exact Qk
 rintro m hm;have hsp:=Df labels done m;rcases Zn m types.length with ⟨hmt,Q4⟩|⟨hmt,Q4⟩
 ·have Qc:=Zr ([]:List UInt8) (show m<labels.length by omega)
  have hS:Y4 labels done (m+1)=cond (Op.bytesLess done (labels.getD m [])&&(Yi (Y4 labels done m) 0||Op.bytesLess (labels.getD m []) (labels.getD (Y4 labels done m).toNat []))) (m:Int) (Y4 labels done m):=rfl;have hB:Y4 labels done m=-1∨(0≤Y4 labels done m∧Y4 labels done m<m):=by
   rcases hsp with ⟨h,_⟩|⟨b,Z9,he,_⟩
   ·exact .inl h
   ·exact .inr ⟨by omega,by omega⟩
  clear hsp;obtain ⟨b,Z9⟩:=exq (Y4 labels done m);obtain ⟨b',hb'⟩:=exq (Y4 labels done (m+1));rw [Z9] at hB hS;rw [hb'] at hS;rw [Z9];obtain ⟨x,hx⟩:=exq (labels.getD m []);rw [hx] at Qc hS;have Z0:=less_not x done;cases hl1:Op.bytesLess done x with
  | false =>
   rw [hl1,Bool.false_and,cond_false] at hS;rw [hl1,Bool.not_false] at Z0;have Kq:KcX:=⟨⟩;exact K7
  | true =>
   rw [hl1,Bool.true_and] at hS;rw [hl1,Bool.not_true] at Z0;rcases hB with hB|⟨hB0,hBk⟩
   ·subst hB;have hS1:b'=m:=hS;have Kq:KcY:=⟨⟩;exact K7
   ·obtain ⟨p,rfl⟩:=Int.eq_ofNat_of_zero_le hB0;have Z3:=Zr ([]:List UInt8) (show p<labels.length by omega)
    have Zz:Yi (p:Int) 0=false:=by rw [Q9];omega
    rw [Zf] at hS;obtain ⟨y,hy⟩:=exq (labels.getD p []);rw [hy] at Z3 hS;rw [Zz,Bool.false_or] at hS;cases Z7:Op.bytesLess x y with
    | true =>
     rw [Z7,cond_true] at hS;have Kq:KcZ:=⟨⟩;exact K7
    | false =>
     rw [Z7,cond_false] at hS;have Kq:Kda:=⟨⟩;exact K7
 ·have hme:m=types.length:=by omega
  rw [hme] at hsp Q4;rw [hme];rcases hsp with ⟨Z9,_⟩|⟨b,hbt,Z9,_⟩
  ·rw [Z9] at h2;rw [if_pos (by decide)] at h2
   injection h2 with e1 e2
   subst e1 e2;exact Lp
  ·rw [Z9] at h2;rw [if_neg (by omega),Zf] at h2
   have Qc:=Zr ([]:List UInt8) (show b<labels.length by omega)
   have Zv:=Zr (⟨[]⟩:Sl Node) hbt;obtain ⟨t1,t2⟩:=hty b hbt;rw [hTg b] at h2;have Qg:Yi (b:Int) 0=false:=by rw [Q9];omega
   obtain ⟨x,hx⟩:=exq (labels.getD b []);rw [hx] at Qc h2;obtain ⟨⟨u⟩,hu⟩:=exq (types.getD b ⟨[]⟩);rw [hu] at Zv t1 t2 h2;simp only at t1 t2 h2;cases u with
   | nil=>exact absurd rfl t1
   | cons y r =>
    have Q7:=Zgg (P:=out) (n:=y) (r:=r) (s:=x);have Qn:=Zms (P:=out) (n:=y) (r:=r);have Zw:out.map (enc:Node→D)++(y::r).map enc=(out++y::r).map enc:=by simp
    have hlen:(out++y::r).length=out.length+(r.length+1):=by simp
    have Q5:((out++y::r).map (enc:Node→D)).length=out.length+(r.length+1):=by rw [Zo,hlen]
    have hP3:(out++named x (y::r)).length=out.length+(r.length+1):=by rw [Zh,Zg2];rfl
    simp only [Zj] at t2;obtain ⟨O2,hO2⟩:=exq (out++named x (y::r));rw [hO2] at h2 Q7 hP3;obtain ⟨Q,hQ⟩:=exq (out++y::r);rw [hQ] at Q7 Qn Zw hlen Q5;obtain ⟨yr,hyr⟩:=exq (y::r);rw [hyr] at Zv Zw;have hyl:yr.length=r.length+1:=by rw [←hyr];rfl
    have Ja:(yr.map (enc:Node→D)).length=r.length+1:=by rw [Zo,hyl]
    have Kq:Kdb:=⟨⟩;exact K7):p:=h
structure KcV:Prop
theorem KcV.k (_:KcV) (h:p:=by
 repeat' first|exact Z1|with_reducible apply Zb|intro _
 all_goals try with_reducible exact Qo
 refine Zi [6,7,12,13,14,60,61,62,63,64,65,66,67,68,69,70,71,72,73,74,75,76,77,78,79,80,81,82,83,84,85,86,87,88,89,90,91,92,93,94,95,96,97,98,99,100,101,102,103,104,105,106,107,108,109,110,111,112] (fun p:Nat×List UInt8×List Node=>[(9,.sl 59 (p.2.2.map (enc:Node→D)).length),(10,.d (.str p.2.1)),(11,.d (.int .i64 p.1))]) (fun p:Nat×List UInt8×List Node=>[(59,.row 3 (p.2.2.map enc) 0)]) (fun p:Nat×List UInt8×List Node=>p.1≤types.length∧nS labels T (types.length-p.1) p.2.1 p.2.2=(R1,R2)∧p.2.2.length≤1+1000000*p.1) (fun p:Nat×List UInt8×List Node=>types.length-p.1) (0,[],[⟨6,[],types.length⟩]) ?_ ?_ ?_
 ·exact ⟨by simp,hR2,by simp⟩
 ·have Um:=@Q3;exact Qk
 rintro ⟨i,done,out⟩ ⟨h1,h2,h3⟩;simp only at h1 h2 h3;have Q6:(out.map (enc:Node→D)).length=out.length:=Zo ..;rcases Zn i types.length with ⟨hit,Qv⟩|⟨hit,Qv⟩
 ·rw [show types.length-i=(types.length-i-1)+1 by omega,nS,hTl] at h2
  have Kq:KcW:=⟨⟩;exact K7
 ·have hie:types.length-i=0:=by omega
  rw [hie] at h2;injection h2 with e1 e2
  subst e1 e2;exact Lp):p:=h
structure KcT:Prop
theorem KcT.k (_:KcT) (h:p:=by
 repeat' first|exact Z1|with_reducible apply Zb|intro _
 all_goals try with_reducible exact Qo
 all_goals try exact Or.inr trivial
 refine Zi [6,7,42,43,44,45,46,47,48,49,50,51,52,53,54] (fun j:Nat=>[(8,.d (.int .i64 j))]) (fun j:Nat=>[]) (fun j:Nat=>j≤types.length∧∀ m,m<j→Ux 6 (labels.getD m [])=true) (fun j:Nat=>types.length-j) 0 ?_ ?_ ?_
 ·simp
 ·exact Qk
 rintro j ⟨hj,hno⟩;rcases Zn j types.length with ⟨hjt,Qa⟩|⟨hjt,Qa⟩
 ·have Qc:=Zr ([]:List UInt8) (show j<labels.length by omega)
  have hxl:=r6 (labels.getD j []) (by simp [show j<labels.length by omega])
  have hst:Ux 6 (labels.getD j [])=true→∀ m,m<j+1→Ux 6 (labels.getD m [])=true:=fun h=>Ks hno h;obtain ⟨Q,hQ⟩:=exq ((∀ m,m<j+1→Ux 6 (labels.getD m [])=true));rw [hQ] at hst;have hbad:Ux 6 (labels.getD j [])=false→((List.range types.length).all fun k=>Ux 6 (labels.getD k []))=false:=fun h=>Lq j hjt h;obtain ⟨x,hx⟩:=exq (labels.getD j []);rw [hx] at Qc hxl hst hbad;cases Qh:Ux 6 x with
  | true =>
   have hq:=hst Qh;have Kq:KcU:=⟨⟩;exact K7
  | false =>
   rw [hbad Qh,if_pos rfl] at hR2;injection hR2 with e1 e2
   subst e1 e2;exact Lp
 ·rw [Mj (fun m hm=>hno m (by omega)),if_neg (by simp)] at hR2
  have Kq:KcV:=⟨⟩;exact K7):p:=h
structure Kdd:Prop
theorem Kdd.k (_:Kdd) (h:p:=by
 repeat' first|exact Z1|with_reducible apply Zb|intro _
 all_goals first|with_reducible exact Qo|omega|exact Or.inr trivial|exact ⟨j+1,by exact Qk,by omega,Eq.mpr hQ hq,by omega⟩|skip):p:=h
structure Kdg:Prop
theorem Kdg.k (_:Kdg) (h:p:=by
 repeat' first|exact Z1|with_reducible apply Zb|intro _
 all_goals first|with_reducible exact Qo|omega|exact ⟨m+1,by rw [hb',hS];exact Qk,by omega,by omega⟩|skip):p:=h
structure Kdh:Prop
theorem Kdh.k (_:Kdh) (h:p:=by
 repeat' first|exact Z1|with_reducible apply Zb|intro _
 all_goals first|with_reducible exact Qo|omega|exact ⟨m+1,by rw [hb',hS1];exact Qk,by omega,by omega⟩|skip):p:=h
structure Kdi:Prop
theorem Kdi.k (_:Kdi) (h:p:=by
 repeat' first|exact Z1|with_reducible apply Zb|intro _
 all_goals first|with_reducible exact Qo|omega|exact ⟨m+1,by rw [hb',hS];exact Qk,by omega,by omega⟩|skip):p:=h
structure Kdj:Prop
theorem Kdj.k (_:Kdj) (h:p:=by
 repeat' first|exact Z1|with_reducible apply Zb|intro _
 all_goals first|with_reducible exact Qo|omega|exact ⟨m+1,by rw [hb',hS];exact Qk,by omega,by omega⟩|skip):p:=h
structure Kdk:Prop
theorem Kdk.k (_:Kdk) (h:p:=by
 repeat' first|exact Z1|with_reducible apply Zb|intro _
 all_goals first|with_reducible exact Qo|omega|exact ⟨(i+1,x,O2),by (have Um:=hlen;have Ix:=hP3;exact Qk),by simp only;omega,by simp only;rw [show types.length-(i+1)=types.length-i-1 by omega];exact h2,by simp only;omega,by simp only;omega⟩|skip):p:=h
structure Kdf:Prop
theorem Kdf.k (_:Kdf) (h:p:=by
 repeat' first|exact Z1|with_reducible apply Zb|intro _
 all_goals try with_reducible exact Qo
 refine Zi [66,67,68,69,70,71,72,73,74,75,76,77,78,79,80,81,82,83,84,85,86,87,88,89,90,91,92,93] (fun m:Nat=>[(12,.d (.int .i64 (Y4 labels done m))),(13,.d (.int .i64 m))]) (fun m:Nat=>[]) (fun m:Nat=>m≤types.length) (fun m:Nat=>types.length-m) 0 ?_ ?_ ?_
 ·omega
 ·have Um:=@Y4.eq_1;have Ix:=@Y4.eq_2;exact Qk
 rintro m hm;have hsp:=Df labels done m;rcases Zn m types.length with ⟨hmt,Q4⟩|⟨hmt,Q4⟩
 ·have Qc:=Zr ([]:List UInt8) (show m<labels.length by omega)
  have hS:Y4 labels done (m+1)=cond (Op.bytesLess done (labels.getD m [])&&(Yi (Y4 labels done m) 0||Op.bytesLess (labels.getD m []) (labels.getD (Y4 labels done m).toNat []))) (m:Int) (Y4 labels done m):=rfl;have hB:Y4 labels done m=-1∨(0≤Y4 labels done m∧Y4 labels done m<m):=by
   rcases hsp with ⟨h,_⟩|⟨b,Z9,he,_⟩
   ·exact .inl h
   ·exact .inr ⟨by omega,by omega⟩
  clear hsp;obtain ⟨b,Z9⟩:=exq (Y4 labels done m);obtain ⟨b',hb'⟩:=exq (Y4 labels done (m+1));rw [Z9] at hB hS;rw [hb'] at hS;rw [Z9];obtain ⟨x,hx⟩:=exq (labels.getD m []);rw [hx] at Qc hS;have Z0:=less_not x done;cases hl1:Op.bytesLess done x with
  | false =>
   rw [hl1,Bool.false_and,cond_false] at hS;rw [hl1,Bool.not_false] at Z0;have Kq:Kdg:=⟨⟩;exact K7
  | true =>
   rw [hl1,Bool.true_and] at hS;rw [hl1,Bool.not_true] at Z0;rcases hB with hB|⟨hB0,hBk⟩
   ·subst hB;have hS1:b'=m:=hS;have Kq:Kdh:=⟨⟩;exact K7
   ·obtain ⟨p,rfl⟩:=Int.eq_ofNat_of_zero_le hB0;have Z3:=Zr ([]:List UInt8) (show p<labels.length by omega)
    have Zz:Yi (p:Int) 0=false:=by rw [Q9];omega
    rw [Zf] at hS;obtain ⟨y,hy⟩:=exq (labels.getD p []);rw [hy] at Z3 hS;rw [Zz,Bool.false_or] at hS;cases Z7:Op.bytesLess x y with
    | true =>
     rw [Z7,cond_true] at hS;have Kq:Kdi:=⟨⟩;exact K7
    | false =>
     rw [Z7,cond_false] at hS;have Kq:Kdj:=⟨⟩;exact K7
 ·have hme:m=types.length:=by omega
  rw [hme] at hsp Q4;rw [hme];rcases hsp with ⟨Z9,_⟩|⟨b,hbt,Z9,_⟩
  ·rw [Z9] at h2;rw [if_pos (by decide)] at h2
   injection h2 with e1 e2
   subst e1 e2;exact Lp
  ·rw [Z9] at h2;rw [if_neg (by omega),Zf] at h2
   have Qc:=Zr ([]:List UInt8) (show b<labels.length by omega)
   have Zv:=Zr (⟨[]⟩:Sl Node) hbt;obtain ⟨t1,t2⟩:=hty b hbt;rw [hTg b] at h2;have Qg:Yi (b:Int) 0=false:=by rw [Q9];omega
   obtain ⟨x,hx⟩:=exq (labels.getD b []);rw [hx] at Qc h2;obtain ⟨⟨u⟩,hu⟩:=exq (types.getD b ⟨[]⟩);rw [hu] at Zv t1 t2 h2;simp only at t1 t2 h2;cases u with
   | nil=>exact absurd rfl t1
   | cons y r =>
    have Q7:=Zgg (P:=out) (n:=y) (r:=r) (s:=x);have Qn:=Zms (P:=out) (n:=y) (r:=r);have Zw:out.map (enc:Node→D)++(y::r).map enc=(out++y::r).map enc:=by simp
    have hlen:(out++y::r).length=out.length+(r.length+1):=by simp
    have Q5:((out++y::r).map (enc:Node→D)).length=out.length+(r.length+1):=by rw [Zo,hlen]
    have hP3:(out++named x (y::r)).length=out.length+(r.length+1):=by rw [Zh,Zg2];rfl
    simp only [Zj] at t2;obtain ⟨O2,hO2⟩:=exq (out++named x (y::r));rw [hO2] at h2 Q7 hP3;obtain ⟨Q,hQ⟩:=exq (out++y::r);rw [hQ] at Q7 Qn Zw hlen Q5;obtain ⟨yr,hyr⟩:=exq (y::r);rw [hyr] at Zv Zw;have hyl:yr.length=r.length+1:=by rw [←hyr];rfl
    have Ja:(yr.map (enc:Node→D)).length=r.length+1:=by rw [Zo,hyl]
    have Kq:Kdk:=⟨⟩;exact K7):p:=h
structure Kde:Prop
theorem Kde.k (_:Kde) (h:p:=by
 repeat' first|exact Z1|with_reducible apply Zb|intro _
 all_goals try with_reducible exact Qo
 refine Zi [6,7,12,13,14,60,61,62,63,64,65,66,67,68,69,70,71,72,73,74,75,76,77,78,79,80,81,82,83,84,85,86,87,88,89,90,91,92,93,94,95,96,97,98,99,100,101,102,103,104,105,106,107,108,109,110,111,112] (fun p:Nat×List UInt8×List Node=>[(9,.sl 59 (p.2.2.map (enc:Node→D)).length),(10,.d (.str p.2.1)),(11,.d (.int .i64 p.1))]) (fun p:Nat×List UInt8×List Node=>[(59,.row 3 (p.2.2.map enc) 0)]) (fun p:Nat×List UInt8×List Node=>p.1≤types.length∧nS labels T (types.length-p.1) p.2.1 p.2.2=(R1,R2)∧p.2.2.length≤1+1000000*p.1) (fun p:Nat×List UInt8×List Node=>types.length-p.1) (0,[],[⟨7,[],types.length⟩]) ?_ ?_ ?_
 ·exact ⟨by simp,hR2,by simp⟩
 ·have Um:=@Q3;exact Qk
 rintro ⟨i,done,out⟩ ⟨h1,h2,h3⟩;simp only at h1 h2 h3;have Q6:(out.map (enc:Node→D)).length=out.length:=Zo ..;rcases Zn i types.length with ⟨hit,Qv⟩|⟨hit,Qv⟩
 ·rw [show types.length-i=(types.length-i-1)+1 by omega,nS,hTl] at h2
  have Kq:Kdf:=⟨⟩;exact K7
 ·have hie:types.length-i=0:=by omega
  rw [hie] at h2;injection h2 with e1 e2
  subst e1 e2;exact Lp):p:=h
structure Kdc:Prop
theorem Kdc.k (_:Kdc) (h:p:=by
 repeat' first|exact Z1|with_reducible apply Zb|intro _
 all_goals try with_reducible exact Qo
 all_goals try exact Or.inr trivial
 refine Zi [6,7,42,43,44,45,46,47,48,49,50,51,52,53,54] (fun j:Nat=>[(8,.d (.int .i64 j))]) (fun j:Nat=>[]) (fun j:Nat=>j≤types.length∧∀ m,m<j→Ux 7 (labels.getD m [])=true) (fun j:Nat=>types.length-j) 0 ?_ ?_ ?_
 ·simp
 ·exact Qk
 rintro j ⟨hj,hno⟩;rcases Zn j types.length with ⟨hjt,Qa⟩|⟨hjt,Qa⟩
 ·have Qc:=Zr ([]:List UInt8) (show j<labels.length by omega)
  have hxl:=r6 (labels.getD j []) (by simp [show j<labels.length by omega])
  have hst:Ux 7 (labels.getD j [])=true→∀ m,m<j+1→Ux 7 (labels.getD m [])=true:=fun h=>Ks hno h;obtain ⟨Q,hQ⟩:=exq ((∀ m,m<j+1→Ux 7 (labels.getD m [])=true));rw [hQ] at hst;have hbad:Ux 7 (labels.getD j [])=false→((List.range types.length).all fun k=>Ux 7 (labels.getD k []))=false:=fun h=>Lq j hjt h;obtain ⟨x,hx⟩:=exq (labels.getD j []);rw [hx] at Qc hxl hst hbad;cases Qh:Ux 7 x with
  | true =>
   have hq:=hst Qh;have Kq:Kdd:=⟨⟩;exact K7
  | false =>
   rw [hbad Qh,if_pos rfl] at hR2;injection hR2 with e1 e2
   subst e1 e2;exact Lp
 ·rw [Mj (fun m hm=>hno m (by omega)),if_neg (by simp)] at hR2
  have Kq:Kde:=⟨⟩;exact K7):p:=h
theorem good_Row3:Qq Tryz.prog (274,jF):=by
 obtain ⟨Kx,Kt,Kc,Kd,Kb,Ku,Kw,K,W4,_⟩:=X2 Z4 Zq [] false (Jh good_label3 Aq.eq_def X1);have Ko:=jF.eq_def;refine Wh K Tryz.func274 [.tmp 6,.tmp 7] rfl 114 rfl (fun c hc cvs hpre=>?_);unfold jF at hpre;obtain ⟨k,⟨labels⟩,⟨types⟩,rfl,hk,hRow⟩:=Mv hpre;simp only at hRow;obtain ⟨r1,r2,r3,r4,r5,r6⟩:Zrg labels (types.map Sl.l):=hRow;rw [Zo] at r1 r2 r3;clear hpre;obtain ⟨⟨R1,R2⟩,Qp⟩:=exq (fF k labels (types.map Sl.l));have hR2:=Qp;unfold fF at hR2;rw [Zo,if_neg (by omega)] at hR2
 have Qd:((labels.length:Int) != (types.length:Int))=false:=by rw [bne_eq_false_iff_eq];omega
 have Qe:Yi 50 (types.length:Int)=false:=by rw [Q9];omega
 have Z6:((types.length:Int)==0)=false:=by rw [Za];omega
 have hty:∀ j,j<types.length→(types.getD j ⟨[]⟩).l≠[]∧(types.getD j ⟨[]⟩).l.length≤1000000:=fun j hj=>by
  have h1:=Zwl (types:=types.map Sl.l) (k:=j) (by rw [Zo];exact hj)
  rw [Zd3] at h1;refine ⟨r5 _ ?_,by omega⟩
  rw [List.mem_map];exact ⟨_,by simp [hj],rfl⟩
 have hTl:(types.map Sl.l).length=types.length:=Zo ..;have hTg:=fun k=>Zd3 (types:=types) (k:=k);obtain ⟨T,Qz⟩:=exq (types.map Sl.l);rw [Qz] at Qp hR2 hTl hTg;clear r5 r4;cases hc;refine Yv 7 ?_;rcases hk with rfl|rfl
 ·have Kq:KcT:=⟨⟩;exact K7
 ·have Kq:Kdc:=⟨⟩;exact K7
def Zm1 {A B C E F H R S:Type} [Enc A] [Enc B] [Enc C] [Enc E] [Enc F] [Enc H] [Enc R] [Enc S] (p:A→B→C→E→F→H→Prop) (f:A→B→C→E→F→H→R×S):Con:=⟨[false,false,false,false,false,false],[false,false],fun c=>match c with
 | [.d x,.d y,.d z,.d w,.d u,.d v]=>K3 A x∧K3 B y∧K3 C z∧K3 E w∧K3 F u∧K3 H v∧p (dec x) (dec y) (dec z) (dec w) (dec u) (dec v)
 | _=>False,fun c=>match c with
 | [.d x,.d y,.d z,.d w,.d u,.d v]=>.tup [.d (enc (f (dec x) (dec y) (dec z) (dec w) (dec u) (dec v)).1),.d (enc (f (dec x) (dec y) (dec z) (dec w) (dec u) (dec v)).2)]
 | _=>.d .nilp⟩
theorem Zm0 {A B C E F H R S:Type} [Enc A] [Enc B] [Enc C] [Enc E] [Enc F] [Enc H] [Enc R] [Enc S] {p:A→B→C→E→F→H→Prop} {f:A→B→C→E→F→H→R×S} {c:List CV} (h:(Zm1 p f).pre c) :
  ∃ a b d e g i,c=[.d (enc a),.d (enc b),.d (enc d),.d (enc e),.d (enc g),.d (enc i)]∧p a b d e g i:=by
 unfold Zm1 at h;simp only at h;split at h
 ·next x y z w u v=>exact ⟨dec x,dec y,dec z,dec w,dec u,dec v,by rw [←h.1,←h.2.1,←h.2.2.1,←h.2.2.2.1,←h.2.2.2.2.1,←h.2.2.2.2.2.1],h.2.2.2.2.2.2⟩
 ·exact h.elim
structure St4Ok (l:List Tok) (s:St4):Prop where
 len:l.length≤100000
 lo:0≤s.at_
 hi:s.at_≤l.length
 sites:(s.sites.length:Int)≤1000000+s.at_
 site:0≤s.site∧s.site≤1000000+s.at_
 txt:∀ t∈l,t.text.length≤9223372036854775807
def Wc (n:Nat):Con:=Yq (fun (l:Sl Tok) (s:St4) (v:Int)=>St4Ok l.l s∧1≤v∧v≤100∧3*(101-v)+2<n) (fun l s v=>((⟨(Xw (101-v).toNat l.l s).1⟩,(Xw (101-v).toNat l.l s).2):Sl Node×St4))
theorem L3:type_of% @Wc.eq_def:=@Wc.eq_def
def Lh (n:Nat):Con:=Yq (fun (l:Sl Tok) (s:St4) (v:Int)=>St4Ok l.l s∧1≤v∧v≤100∧3*(101-v)+1<n) (fun l s v=>((⟨(Bz (Xw (100-v).toNat) (100-v).toNat l.l s).1⟩,(Bz (Xw (100-v).toNat) (100-v).toNat l.l s).2):Sl Node×St4))
def La (n:Nat):Con:=Zm1 (fun (l:Sl Tok) (s:St4) (v k:Int) (_ _:List UInt8)=>(St4Ok l.l s∧s.e=0∧1≤s.at_)∧(k=6∨k=7)∧1≤v∧v≤100∧3*(101-v)+3<n) (fun l s v k a b=>((⟨(mE (Xw (101-v).toNat) l.l s k a b).1⟩,(mE (Xw (101-v).toNat) l.l s k a b).2):Sl Node×St4))
structure IH4 (n:Nat):Prop where
 whole:Qq Tryz.prog (259,Wc n)
 atom:Qq Tryz.prog (262,Lh n)
 rows:Qq Tryz.prog (268,La n)
theorem oY:∀ c,¬ (Wc 0).pre c:=by
 intro c h;unfold Wc at h;obtain ⟨_,_,_,_,_,_,_,h⟩:=Mv h;omega
theorem Zep:∀ c,¬ (Lh 0).pre c:=by
 intro c h;unfold Lh at h;obtain ⟨_,_,_,_,_,_,_,h⟩:=Mv h;omega
theorem Zei:∀ c,¬ (La 0).pre c:=by
 intro c h;unfold La at h;obtain ⟨_,_,_,_,_,_,_,_,_,_,_,h⟩:=Zm0 h;omega
theorem dO {l:List Tok} {s:St4} {r:List Node×St4} (h:St4Ok l s) (hE:Eats l s r) (he:r.2.e=0):St4Ok l r.2:=by
 obtain ⟨h1,h2,h3,h4,h5,h6⟩:=h;have h7:=(hE.ok he).2.1;obtain ⟨h8,h9,h10⟩:=hE.sites he;exact ⟨h1,hE.lo,h7,by omega,by omega,h6⟩
theorem Ziz (n:Nat) (ih:IH4 n):Qq Tryz.prog (259,(Wc (n+1))):=by
 obtain ⟨Kx,Kt,Kc,Kd,Kb,Ku,Kw,K,W4,Gd,M4,Ln,Ek,_⟩:=X2 Z4 Zq [] false (Jh ih.atom (Lh.eq_def n) (Jh ih.whole (L3 n) (Jh iJ Ar.eq_def (Jh D7 Pm.eq_def (Jh good_Arrow3 A4.eq_def X1)))));have Ko:=(L3 (n+1));refine Wh K Tryz.func259 [.tmp 6,.cell 7 261] rfl 53 rfl (fun c hc cvs hpre=>?_);unfold Wc at hpre;obtain ⟨⟨l⟩,s,v,rfl,hS,hv1,hv2,hn⟩:=Mv hpre;simp only at hS;clear hpre;obtain ⟨d,hd⟩:∃ d:Nat,v=100-d:=⟨(100-v).toNat,by omega⟩
 subst hd;have Qd:(101-(100-(d:Int))).toNat=d+1:=by omega
 have Qe:(100-(100-(d:Int))).toNat=d:=by omega
 have Qv:(101-(100-(d:Int)+1)).toNat=d:=by omega
 obtain ⟨R,Qc⟩:=exq (Xw (d+1) l s);have hR2:=Qc;rw [Xw] at hR2;have hEa:=Zh4 (l:=l) (w:=Xw d) (d:=d) (s:=s) (fun hd s' h1 h2=>Mc d s' hd h1 h2) hS.lo hS.hi;obtain ⟨⟨a,q⟩,Z6⟩:=exq (Bz (Xw d) d l s);rw [Z6] at hR2 hEa;simp only at hR2;have hlo:=hEa.lo;have hhi:=hEa.hi;have hL:=hS.len;have hal:=hEa.len;simp only at hlo hhi hal;have hokq:q.e=0→St4Ok l q:=fun h=>dO hS hEa h;obtain ⟨qa,qi,qs,qe⟩:=q;simp only at hlo hhi hR2 hokq;have hA1:a.length≤100000:=by have:=hS.lo;omega
 cases hc;refine Yv 3 ?_;by_cases he:qe=0
 case neg =>
  rw [if_pos (.inl he)] at hR2;have Qa:(qe != 0)=true:=bne_iff_ne.2 he;subst hR2;have Z0:=@Ea;have Z3:=@Mp;have Zz:=@Mt;have Z7:=@Dm;exact Lp
 have Qa:(qe != 0)=false:=by rw [he];rfl
 cases Qh:S6 l qa [45,62] with
 | false =>
  rw [if_pos (.inr Qh)] at hR2;subst hR2;have Z0:=@Ea;have Z3:=@Mp;have Zz:=@Mt;have Z7:=@Dm;exact Lp
 | true =>
  rw [if_neg (by rw [Qh];simp [he])] at hR2
  by_cases hd0:d=0
  ·rw [if_pos hd0] at hR2;have Qp:Wf 100 (100-(d:Int))=true:=by rw [Qx];omega
   have Qz:Ke ⟨qa,qi,qs,qe⟩ qa 4=⟨qa,qi,qs,4⟩:=rfl;rw [Qz] at hR2;subst hR2;have Z0:=@Ea;have Z3:=@Mp;have Zz:=@Mt;have Z7:=@Dm;exact Lp
  rw [if_neg hd0] at hR2;have Qp:Wf 100 (100-(d:Int))=false:=by rw [←Bool.not_eq_true,Qx];omega
  have hlt:=Cx Qh;have hok2:=hokq he;have hok3:St4Ok l ⟨qa+1,qi,qs,qe⟩:=by
   obtain ⟨h1,h2,h3,h4,h5,h6⟩:=hok2;simp only at h2 h3 h4 h5;exact ⟨h1,by show 0≤qa+1;omega,by show qa+1≤_;omega,by show (qs.length:Int)≤1000000+(qa+1);omega,by show 0≤qi∧qi≤1000000+(qa+1);omega,h6⟩
  have hEb:=Mc (l:=l) d ⟨qa+1,qi,qs,qe⟩ hd0 hok3.lo hok3.hi;have hadv:Ym ⟨qa,qi,qs,qe⟩=⟨qa+1,qi,qs,qe⟩:=rfl;rw [hadv] at hR2;obtain ⟨⟨b,q2⟩,Q4⟩:=exq (Xw d l ⟨qa+1,qi,qs,qe⟩);rw [Q4] at hR2 hEb;have hbl:=hEb.len;simp only at hR2 hbl;obtain ⟨q2a,q2i,q2s,q2e⟩:=q2;have hB1:b.length≤100000:=by omega
  subst hR2;have Z0:=@Ea;have Z3:=@Mp;have Zz:=@Mt;have Z7:=@Dm;exact Lp
theorem Zdv {l:List Tok} {i:Int} {x:List UInt8} (h:S6 l i x=true):(tk l i).text=x:=by
 unfold S6 at h;simp only [Zk,Zm] at h;exact h.2.2
theorem lD {l:List Tok} {i:Int} {x y:List UInt8} (h:S6 l i x=true) (hxy:x≠y):S6 l i y=false:=by
 cases hb:S6 l i y with
 | false=>rfl
 | true=>exact absurd ((Zdv h).symm.trans (Zdv hb)) hxy
theorem Zrr {s:List Site} {x:Site}:s.map (enc:Site→D)++[.agg [.int .i64 x.frm,.int .i64 x.to,.bool x.miss]]=(s++[x]).map enc:=by rw [List.map_append];rfl
theorem Oz {a b d:Int} {c:List Site}:(enc (St4.mk a b c d):D)=.agg [.int .i64 a,.int .i64 b,.list 3 (c.map enc),.int .i64 d]:=rfl
theorem Zt4 {p:Prop} (h:p:=by (sym=>simp [Kt,Kc,Kd,Kb,Ku,Kw,Ko,W4,Gd,M4,Ln,Ek,cL,fW,oB,Zcc,Zcb,Qd,Qe,Z6,Qa,Qc,Qh,Qp,Qz,Qv,Q4,Z0,Z3,Zz,Z7,Z9,Qg,Zv,Zw,Qn,Q6,Q5,Ja,Q7,Q0,Jo,Jj,Wx,X9,Wq,Wp,Wo,Ur,Uq,Up,Kj,Ki,Kh,D.setCell.eq_1,Zf,Ys,Ztr,Zm1.eq_def,Q2,Q1,Jp,X0,Wt,Xr,Ji,Xb,L3,Jf,Qj,Mt,Ui,Jw,Q3,Qb,Uz,Oz,J4,Je,Yr,Ex,Jd,Qi,Mp,Ug,J3,Wl,J7,Nn,Yn,Wm,Jc,Ql,Dl,Pe,dN,Td,Vg,Kf,Zbv,Zbu,Zbt,Zbs,Zbr,Zbq,Zbp,Zbo,Zbn,Zbm,Zbl,Zbk,Zbj,Zbi,Zbh,Zbg,Zbf,Zbe,Zbd,Zbc,Zbb,Zba,Za9,Za8,Za7,Za6,Za5,Za4,Za3,Za2,Za1,Za0,Zaz,Zay,Zax,Zaw,Zav,Zau,Zat,Zas,Zar,Zaq,Zap,Zao,Zan,Zam,Zal,Zak,Zaj,Zai,Zah,Zag,Zaf,Zae,Zad,Zac,Zab,Zaa,zU,zT,zS,zR,zP,zO,zN,zM,zL,zI,zH,zG,zF,zE,zC,zB,zK,zW,zV,zY,zJ,zX,zZ,zQ,yU,yT,yS,yR,yP,yO,yN,yM,yL,yI,yH,yG,yF,yE,yD,yC,yB,yA,yK,yW,yV,yY,yJ,yX,yZ,yQ,xU,xT,xS,xR,xP,xO,xN,xM,xL,xI,xH,xG,xF,xE,xD,xC,xB,xA,xK,xW,xV,xY,xJ,xX,xZ,xQ,wU,wT,wS,wR,wL,wI,wH,wG,wF,wE,wD,wC,wA,wK,wW,wV,wY,wJ,wX,wZ,wQ,vU,vT,vS,vR,vP,vO,vN,vM,vL,vI,vH,vG,vF,vE,vD,vC,vB,vA,vK,vW,vV,vY,vJ,vX,vZ,vQ,uU,uT,uS,uR,uP,uO,uN,uM,uL,uI,uH,uG,uF,uE,uD,uC,uB,uA,uK,uW,uV,uY,uJ,uX,uZ,uQ,tU,tT,tS,tR,tP,tO,tN,tM,tL,tI,tH,tG,tF,tE,tD,tC,tB,tA,tK,tW,tV,tY,tJ,tX,tZ,tQ,sU,sT,sS,sR,sP,sO,sN,sM,sL,sI,sH,sG,sF,sE,sD,sC,sB,sA,sK,sW,sV,sY,sJ,sX,sZ,sQ,rU,rT,rS,rR,rP,rO,rN,rM,rL,rI,rH,rG,rF,rE,rD,rC,rB,rA,rK,rW,rV,rY,rJ,rX,rZ,rQ,qU,qT,qS,qR,qP,qO,qN,qM,qL,qI,qH,qG,qF,qE,qD,qC,qB,qA,qK,qW,qV,qY,qJ,qX,qZ,qQ,pU,pT,pS,pR,pL,pI,pH,pG,pF,pE,pD,pC,pA,pK,pW,pV,pY,pJ,pX,pZ,pQ,oU,oT,oS,oR,oP,oO,oN,oM,oL,oI,oH,oG,oF,oE,oD,oC,Tc,Tb,Ta,S9,S8,S7,Nk,Nj,Ni,Nh,Ng,Nf,Nd,Nc,Nb,Na,H9,H8,H7,H6,H5,H4,H3,H2,H0,Hz,Hy,Hx,Hw,Hv,Hu,Ht,Hs,Uc,Ub,Ua,V9,V8,V7,V6,V5,V4,V3,V2,V0,Vz,Vy,Vx,Vw,Vv,Vu,Vt,Vs,Vr,Vq,Vp,Vo,Vn,Vm,Vl,Vk,Vj,Vi,Vh])):p:=h
theorem nN {p:Prop} (h:p:=by
 (sym=>simp [Kt,Kc,Kd,Kb,Ku,Kw,Ko,W4,Gd,M4,Ln,Ek,cL,fW,oB,Zcc,Zcb,Qd,Qe,Z6,Qa,Qc,Qh,Qp,Qz,Qv,Q4,Z0,Z3,Zz,Z7,Z9,Qg,Zv,Zw,Qn,Q6,Q5,Ja,Q7,Q0,Jo,Jj,Wx,X9,Wq,Wp,Wo,Ur,Uq,Up,Kj,Ki,Kh,D.setCell.eq_1,Zf,Ys,Ztr,Zm1.eq_def,Q2,Q1,Jp,X0,Wt,Xr,Ji,Xb,L3,Jf,Qj,Mt,Ui,Jw,Q3,Qb,Uz,Oz,J4,Je,Yr,Ex,Jd,Qi,Mp,Ug,J3,Wl,J7,Nn,Yn,Wm,Jc,Ql,Dl,Pe,dN,Td,Vg,Kf,Zbv,Zbu,Zbt,Zbs,Zbr,Zbq,Zbp,Zbo,Zbn,Zbm,Zbl,Zbk,Zbj,Zbi,Zbh,Zbg,Zbf,Zbe,Zbd,Zbc,Zbb,Zba,Za9,Za8,Za7,Za6,Za5,Za4,Za3,Za2,Za1,Za0,Zaz,Zay,Zax,Zaw,Zav,Zau,Zat,Zas,Zar,Zaq,Zap,Zao,Zan,Zam,Zal,Zak,Zaj,Zai,Zah,Zag,Zaf,Zae,Zad,Zac,Zab,Zaa,zU,zT,zS,zR,zP,zO,zN,zM,zL,zI,zH,zG,zF,zE,zC,zB,zK,zW,zV,zY,zJ,zX,zZ,zQ,yU,yT,yS,yR,yP,yO,yN,yM,yL,yI,yH,yG,yF,yE,yD,yC,yB,yA,yK,yW,yV,yY,yJ,yX,yZ,yQ,xU,xT,xS,xR,xP,xO,xN,xM,xL,xI,xH,xG,xF,xE,xD,xC,xB,xA,xK,xW,xV,xY,xJ,xX,xZ,xQ,wU,wT,wS,wR,wL,wI,wH,wG,wF,wE,wD,wC,wA,wK,wW,wV,wY,wJ,wX,wZ,wQ,vU,vT,vS,vR,vP,vO,vN,vM,vL,vI,vH,vG,vF,vE,vD,vC,vB,vA,vK,vW,vV,vY,vJ,vX,vZ,vQ,uU,uT,uS,uR,uP,uO,uN,uM,uL,uI,uH,uG,uF,uE,uD,uC,uB,uA,uK,uW,uV,uY,uJ,uX,uZ,uQ,tU,tT,tS,tR,tP,tO,tN,tM,tL,tI,tH,tG,tF,tE,tD,tC,tB,tA,tK,tW,tV,tY,tJ,tX,tZ,tQ,sU,sT,sS,sR,sP,sO,sN,sM,sL,sI,sH,sG,sF,sE,sD,sC,sB,sA,sK,sW,sV,sY,sJ,sX,sZ,sQ,rU,rT,rS,rR,rP,rO,rN,rM,rL,rI,rH,rG,rF,rE,rD,rC,rB,rA,rK,rW,rV,rY,rJ,rX,rZ,rQ,qU,qT,qS,qR,qP,qO,qN,qM,qL,qI,qH,qG,qF,qE,qD,qC,qB,qA,qK,qW,qV,qY,qJ,qX,qZ,qQ,pU,pT,pS,pR,pL,pI,pH,pG,pF,pE,pD,pC,pA,pK,pW,pV,pY,pJ,pX,pZ,pQ,oU,oT,oS,oR,oP,oO,oN,oM,oL,oI,oH,oG,oF,oE,oD,oC,Tc,Tb,Ta,S9,S8,S7,Nk,Nj,Ni,Nh,Ng,Nf,Nd,Nc,Nb,Na,H9,H8,H7,H6,H5,H4,H3,H2,H0,Hz,Hy,Hx,Hw,Hv,Hu,Ht,Hs,Uc,Ub,Ua,V9,V8,V7,V6,V5,V4,V3,V2,V0,Vz,Vy,Vx,Vw,Vv,Vu,Vt,Vs,Vr,Vq,Vp,Vo,Vn,Vm,Vl,Vk,Vj,Vi,Vh];tactic =>
   try simp only [S4] at *
   try simp only [Znv] at *
   try simp (maxSteps:=4000000) only [Qd,Qe,Z6,Qa,Qc,Qh,Qp,Qz,Qv,Q4,Z0,Z3,Zz,Z7,Z9,Qg,Zv,Zw,Qn,Q6,Q5,Ja,Q7,Q0,Jo,Jj,Wx,X9,Wq,Wp,Wo,Ur,Uq,Up,Kj,Ki,Kh,D.setCell.eq_1,Zf,Ys,Ztr,Zm1.eq_def,Q2,Q1,Jp,X0,Wt,Xr,Ji,Xb,L3,Jf,Qj,Mt,Ui,Jw,Q3,Qb,Uz,Oz,J4,Je,Yr,Ex,Jd,Qi,Mp,Ug,J3,Wl,J7,Nn,Yn,Wm,Jc,Ql,Dl,Pe,dN,Td,Vg,Kf,cM]
   first|done|exact Kq.k)):p:=h
theorem Dh {p:Prop} (h:p:=by
 (sym=>simp [Kt,Kc,Kd,Kb,Ku,Kw,Ko,W4,Gd,M4,Ln,Ek,cL,fW,oB,Zcc,Zcb,Qd,Qe,Z6,Qa,Qc,Qh,Qp,Qz,Qv,Q4,Z0,Z3,Zz,Z7,Z9,Qg,Zv,Zw,Qn,Q6,Q5,Ja,Q7,Q0,Jo,Jj,Wx,X9,Wq,Wp,Wo,Ur,Uq,Up,Kj,Ki,Kh,D.setCell.eq_1,Zf,Ys,Ztr,Zm1.eq_def,Q2,Q1,Jp,X0,Wt,Xr,Ji,Xb,L3,Jf,Qj,Mt,Ui,Jw,Q3,Qb,Uz,Oz,J4,Je,Yr,Ex,Jd,Qi,Mp,Ug,J3,Wl,J7,Nn,Yn,Wm,Jc,Ql,Dl,Pe,dN,Td,Vg,Kf,Zbv,Zbu,Zbt,Zbs,Zbr,Zbq,Zbp,Zbo,Zbn,Zbm,Zbl,Zbk,Zbj,Zbi,Zbh,Zbg,Zbf,Zbe,Zbd,Zbc,Zbb,Zba,Za9,Za8,Za7,Za6,Za5,Za4,Za3,Za2,Za1,Za0,Zaz,Zay,Zax,Zaw,Zav,Zau,Zat,Zas,Zar,Zaq,Zap,Zao,Zan,Zam,Zal,Zak,Zaj,Zai,Zah,Zag,Zaf,Zae,Zad,Zac,Zab,Zaa,zU,zT,zS,zR,zP,zO,zN,zM,zL,zI,zH,zG,zF,zE,zC,zB,zK,zW,zV,zY,zJ,zX,zZ,zQ,yU,yT,yS,yR,yP,yO,yN,yM,yL,yI,yH,yG,yF,yE,yD,yC,yB,yA,yK,yW,yV,yY,yJ,yX,yZ,yQ,xU,xT,xS,xR,xP,xO,xN,xM,xL,xI,xH,xG,xF,xE,xD,xC,xB,xA,xK,xW,xV,xY,xJ,xX,xZ,xQ,wU,wT,wS,wR,wL,wI,wH,wG,wF,wE,wD,wC,wA,wK,wW,wV,wY,wJ,wX,wZ,wQ,vU,vT,vS,vR,vP,vO,vN,vM,vL,vI,vH,vG,vF,vE,vD,vC,vB,vA,vK,vW,vV,vY,vJ,vX,vZ,vQ,uU,uT,uS,uR,uP,uO,uN,uM,uL,uI,uH,uG,uF,uE,uD,uC,uB,uA,uK,uW,uV,uY,uJ,uX,uZ,uQ,tU,tT,tS,tR,tP,tO,tN,tM,tL,tI,tH,tG,tF,tE,tD,tC,tB,tA,tK,tW,tV,tY,tJ,tX,tZ,tQ,sU,sT,sS,sR,sP,sO,sN,sM,sL,sI,sH,sG,sF,sE,sD,sC,sB,sA,sK,sW,sV,sY,sJ,sX,sZ,sQ,rU,rT,rS,rR,rP,rO,rN,rM,rL,rI,rH,rG,rF,rE,rD,rC,rB,rA,rK,rW,rV,rY,rJ,rX,rZ,rQ,qU,qT,qS,qR,qP,qO,qN,qM,qL,qI,qH,qG,qF,qE,qD,qC,qB,qA,qK,qW,qV,qY,qJ,qX,qZ,qQ,pU,pT,pS,pR,pL,pI,pH,pG,pF,pE,pD,pC,pA,pK,pW,pV,pY,pJ,pX,pZ,pQ,oU,oT,oS,oR,oP,oO,oN,oM,oL,oI,oH,oG,oF,oE,oD,oC,Tc,Tb,Ta,S9,S8,S7,Nk,Nj,Ni,Nh,Ng,Nf,Nd,Nc,Nb,Na,H9,H8,H7,H6,H5,H4,H3,H2,H0,Hz,Hy,Hx,Hw,Hv,Hu,Ht,Hs,Uc,Ub,Ua,V9,V8,V7,V6,V5,V4,V3,V2,V0,Vz,Vy,Vx,Vw,Vv,Vu,Vt,Vs,Vr,Vq,Vp,Vo,Vn,Vm,Vl,Vk,Vj,Vi,Vh];tactic =>
   try simp only [S4] at *
   try simp only [Znv] at *
   try simp (maxSteps:=4000000) only [Qd,Qe,Z6,Qa,Qc,Qh,Qp,Qz,Qv,Q4,Z0,Z3,Zz,Z7,Z9,Qg,Zv,Zw,Qn,Q6,Q5,Ja,Q7,Q0,Jo,Jj,Wx,X9,Wq,Wp,Wo,Ur,Uq,Up,Kj,Ki,Kh,D.setCell.eq_1,Zf,Ys,Ztr,Zm1.eq_def,Q2,Q1,Jp,X0,Wt,Xr,Ji,Xb,L3,Jf,Qj,Mt,Ui,Jw,Q3,Qb,Uz,Oz,J4,Je,Yr,Ex,Jd,Qi,Mp,Ug,J3,Wl,J7,Nn,Yn,Wm,Jc,Ql,Dl,Pe,dN,Td,Vg,Kf,cM]
   repeat' first|with_reducible assumption|with_reducible apply Zb|intro _|omega|(rw [Xy];omega)
   all_goals first|with_reducible exact Qo|omega|rfl|trivial|exact Or.inr trivial|assumption|contradiction|exact Qk)):p:=h
structure Kdl:Prop
theorem Kdl.k (_:Kdl) (h:p:=by
 repeat' first|exact Z1|with_reducible apply Zb|intro _
 all_goals first|contradiction|with_reducible exact Qo|exact hS|exact hok3|exact ⟨hok3,he,by show (1:Int)≤(k:Int)+1;omega⟩|exact Or.inr trivial|omega|rfl|skip):p:=h
structure Kdm:Prop
theorem Kdm.k (_:Kdm) (h:p:=by
 repeat' first|exact Z1|with_reducible apply Zb|intro _
 all_goals first|contradiction|with_reducible exact Qo|exact hS|exact hok3|exact ⟨hok3,he,by show (1:Int)≤(k:Int)+1;omega⟩|exact Or.inr trivial|omega|rfl|skip):p:=h
structure Kdn:Prop
theorem Kdn.k (_:Kdn) (h:p:=by
 repeat' first|exact Z1|with_reducible apply Zb|intro _
 all_goals first|contradiction|with_reducible exact Qo|exact hS|exact hok3|exact ⟨hok3,he,by show (1:Int)≤(k:Int)+1;omega⟩|exact Or.inr trivial|omega|rfl|skip):p:=h
structure Kdo:Prop
theorem Kdo.k (_:Kdo) (h:p:=by
 repeat' first|exact Z1|with_reducible apply Zb|intro _
 all_goals first|contradiction|with_reducible exact Qo|exact hS|exact hok3|exact ⟨hok3,he,by show (1:Int)≤(k:Int)+1;omega⟩|exact Or.inr trivial|omega|rfl|skip):p:=h
structure Kdp:Prop
theorem Kdp.k (_:Kdp) (h:p:=by
 repeat' first|exact Z1|with_reducible apply Zb|intro _
 all_goals first|contradiction|with_reducible exact Qo|exact hS|exact hok3|exact ⟨hok3,he,by show (1:Int)≤(k:Int)+1;omega⟩|exact Or.inr trivial|omega|rfl|skip):p:=h
structure Kdq:Prop
theorem Kdq.k (_:Kdq) (h:p:=by
 repeat' first|exact Z1|with_reducible apply Zb|intro _
 all_goals first|contradiction|with_reducible exact Qo|exact hS|exact hok3|exact ⟨hok3,he,by show (1:Int)≤(k:Int)+1;omega⟩|exact Or.inr trivial|omega|rfl|skip):p:=h
structure Kdr:Prop
theorem Kdr.k (_:Kdr) (h:p:=by
 repeat' first|exact Z1|with_reducible apply Zb|intro _
 all_goals first|contradiction|with_reducible exact Qo|exact hS|exact hok3|exact ⟨hok3,he,by show (1:Int)≤(k:Int)+1;omega⟩|exact Or.inr trivial|omega|rfl|skip):p:=h
theorem stepi_atom4 (n:Nat) (ih:IH4 n):Qq Tryz.prog (262,(Lh (n+1))):=by
 obtain ⟨Kx,Kt,Kc,Kd,Kb,Ku,Kw,K,W4,Gd,M4,Ln,Ek,cL,_⟩:=X2 Z4 Zq [] false (Jh iJ Ar.eq_def (Jh D7 Pm.eq_def (Jh good_base4 bR.eq_def (Jh nJ C6.eq_def (Jh ih.rows (La.eq_def n) (Jh ih.whole (L3 n) X1))))));have Ko:=(Lh.eq_def (n+1));refine Wh K Tryz.func262 [.tmp 6,.cell 7 261] rfl 164 rfl (fun c hc cvs hpre=>?_);unfold Lh at hpre;obtain ⟨⟨l⟩,⟨k,si,ss,e⟩,v,rfl,hS,hv1,hv2,hn⟩:=Mv hpre;simp only at hS;clear hpre;obtain ⟨d,hd⟩:∃ d:Nat,v=100-d:=⟨(100-v).toNat,by omega⟩
 subst hd;have Qd:(100-(100-(d:Int))).toNat=d:=by omega
 have Qn:(101-(100-(d:Int)+1)).toNat=d:=by omega
 have hlen:=hS.len;have hlo:=hS.lo;have hhi:=hS.hi;have hss:=hS.sites;have hsi:=hS.site;simp only at hlo hhi hss hsi;obtain ⟨k,rfl⟩:∃ n:Nat,k=n:=⟨k.toNat,by omega⟩
 obtain ⟨R,Z6⟩:=exq (Bz (Xw d) d l ⟨k,si,ss,e⟩);have hR2:=Z6;unfold Bz at hR2;simp only at hR2;have Qv:(ss.map (enc:Site→D)).length=ss.length:=Zo ..;cases hc;refine Yv 10 ?_;by_cases he:e=0
 case neg =>
  rw [if_pos he] at hR2;have Qe:(e != 0)=true:=bne_iff_ne.2 he;subst hR2;exact Dh
 rw [if_neg (by simpa using he)] at hR2
 have Qe:(e != 0)=false:=by rw [he];rfl
 by_cases hlt:(l.length:Int)≤(k:Int)
 ·rw [if_pos hlt] at hR2;have Qa:Wf (l.length:Int) (k:Int)=true:=by rw [Qx];exact hlt
  subst hR2;have Qc:Ke ⟨(k:Int),si,ss,e⟩ (l.length:Int) 2=⟨l.length,si,ss,2⟩:=rfl;rw [Qc] at Z6;exact Dh
 rw [if_neg hlt] at hR2;have hkl:k<l.length:=by omega
 have Qa:Wf (l.length:Int) (k:Int)=false:=by rw [←Bool.not_eq_true,Qx];exact hlt
 have Qp:=Zr Kg hkl;have htx:=hS.txt (l.getD k Kg) (by simp [hkl])
 have hit:=fun {x:List UInt8} (h:S6 l (k:Int) x=true)=>Zdv h;rw [Hp] at hR2;simp only [Hp] at hit;obtain ⟨t,ht⟩:=exq (l.getD k Kg);rw [ht] at Qp hR2 htx;simp only [ht] at hit;cases Qh:S6 l (k:Int) [63] with
 | true =>
  rw [Qh,if_pos rfl] at hR2;have Qz:=Zrr (s:=ss) (x:=⟨t.frm,t.to,false⟩);have hsl:(ss++[Site.mk t.frm t.to false]).length=ss.length+1:=by simp
  obtain ⟨S2,hS2⟩:=exq (ss++[Site.mk t.frm t.to false]);rw [hS2] at Qz hsl hR2;have Q4:(S2.map (enc:Site→D)).length=ss.length+1:=by rw [Zo,hsl]
  subst hR2;exact Dh
 | false =>
 rw [Qh,if_neg (by simp)] at hR2
 obtain ⟨bs,Z0⟩:=exq (nF t);rw [Z0] at hR2;by_cases hb0:0≤bs
 ·rw [if_pos hb0] at hR2;have Z3:Wf 0 bs=true:=by rw [Qx];exact hb0
  have Qc:Ym ⟨(k:Int),si,ss,e⟩=⟨(k:Int)+1,si,ss,e⟩:=rfl;rw [Qc] at hR2;subst hR2;exact Dh
 rw [if_neg hb0] at hR2;have Z3:Wf 0 bs=false:=by rw [←Bool.not_eq_true,Qx];exact hb0
 have Zw:Ke ⟨(k:Int),si,ss,e⟩ (k:Int) 4=⟨k,si,ss,4⟩:=rfl;have Qg:Ke ⟨(k:Int),si,ss,e⟩ (k:Int) 2=⟨k,si,ss,2⟩:=rfl;have hadv:Ym ⟨(k:Int),si,ss,e⟩=⟨(k:Int)+1,si,ss,e⟩:=rfl;have hadv2:Ym ⟨(k:Int)+1,si,ss,e⟩=⟨(k:Int)+1+1,si,ss,e⟩:=rfl;rw [hadv,hadv2,Zw,Qg] at hR2;have hok3:St4Ok l ⟨(k:Int)+1,si,ss,e⟩:=⟨hlen,by show 0≤(k:Int)+1;omega,by show (k:Int)+1≤_;omega,by show (ss.length:Int)≤1000000+((k:Int)+1);omega,by show 0≤si∧si≤1000000+((k:Int)+1);omega,hS.txt⟩
 by_cases hnb:S6 l (k:Int) [40]=false∧S6 l (k:Int) [123]=false∧S6 l (k:Int) [91]=false
 ·rw [if_pos hnb] at hR2;obtain ⟨Zz,Z7,Z9⟩:=hnb;subst hR2;exact Dh
 rw [if_neg hnb] at hR2;have h3:S6 l (k:Int) [40]=true∨(S6 l (k:Int) [123]=true∨S6 l (k:Int) [91]=true):=by
  cases h1:S6 l (k:Int) [40] with
  | true=>exact .inl rfl
  | false =>
   cases h2:S6 l (k:Int) [123] with
   | true=>exact .inr (.inl rfl)
   | false =>
    cases h3:S6 l (k:Int) [91] with
    | true=>exact .inr (.inr rfl)
    | false=>exact absurd ⟨h1,h2,h3⟩ hnb
 clear hnb;rcases h3 with Zz|Z7|Z9
 ·have htt:=hit Zz;by_cases hd0:d=0
  ·rw [if_pos hd0] at hR2;have Zv:Wf 100 (100-(d:Int))=true:=by rw [Qx];omega
   subst hR2;have Kq:Kdl:=⟨⟩;exact nN
  rw [if_neg hd0] at hR2;have Zv:Wf 100 (100-(d:Int))=false:=by rw [←Bool.not_eq_true,Qx];omega
  rw [if_neg (by rw [htt];simp),if_neg (by rw [htt];decide),if_neg (by rw [htt];decide)] at hR2
  have Q6:(t.text==[123])=false:=by rw [htt];rfl
  have Q5:(t.text==[91])=false:=by rw [htt];rfl
  have hE:=Mc (l:=l) d ⟨(k:Int)+1,si,ss,e⟩ hd0 hok3.lo hok3.hi;obtain ⟨⟨wt,wq⟩,Qc⟩:=exq (Xw d l ⟨(k:Int)+1,si,ss,e⟩);rw [Qc] at hR2 hE;have hE1:=hE.lo;have hE2:=hE.hi;simp only at hR2 hE1 hE2;obtain ⟨wa,wi,ws,we⟩:=wq;simp only at hE1 hE2;obtain ⟨N,Ja⟩:=exq (Uw l ⟨wa,wi,ws,we⟩ [41]);rw [Ja] at hR2;obtain ⟨na,ni,ns,ne⟩:=N;subst hR2;have Kq:Kdm:=⟨⟩;exact nN
 ·have htt:=hit Z7;have Zz:S6 l (k:Int) [40]=false:=lD Z7 (by decide)
  by_cases hd0:d=0
  ·rw [if_pos hd0] at hR2;have Zv:Wf 100 (100-(d:Int))=true:=by rw [Qx];omega
   subst hR2;have Kq:Kdn:=⟨⟩;exact nN
  rw [if_neg hd0] at hR2;have Zv:Wf 100 (100-(d:Int))=false:=by rw [←Bool.not_eq_true,Qx];omega
  have Q6:(t.text==[123])=true:=by rw [htt];rfl
  cases Q7:S6 l ((k:Int)+1) [125] with
  | true =>
   rw [if_pos ⟨htt,Q7⟩] at hR2;subst hR2;have Kq:Kdo:=⟨⟩;exact nN
  | false =>
   rw [if_neg (by rw [Q7];simp),if_pos htt] at hR2
   obtain ⟨⟨wt,wq⟩,Qc⟩:=exq (mE (Xw d) l ⟨(k:Int)+1,si,ss,e⟩ 6 [44] [125]);rw [Qc] at hR2;obtain ⟨wa,wi,ws,we⟩:=wq;subst hR2;have Kq:Kdp:=⟨⟩;exact nN
 ·have htt:=hit Z9;have Zz:S6 l (k:Int) [40]=false:=lD Z9 (by decide)
  have Z7:S6 l (k:Int) [123]=false:=lD Z9 (by decide)
  by_cases hd0:d=0
  ·rw [if_pos hd0] at hR2;have Zv:Wf 100 (100-(d:Int))=true:=by rw [Qx];omega
   subst hR2;have Kq:Kdq:=⟨⟩;exact nN
  rw [if_neg hd0] at hR2;have Zv:Wf 100 (100-(d:Int))=false:=by rw [←Bool.not_eq_true,Qx];omega
  have Q6:(t.text==[123])=false:=by rw [htt];rfl
  have Q5:(t.text==[91])=true:=by rw [htt];rfl
  rw [if_neg (by rw [htt];simp),if_neg (by rw [htt];decide),if_pos htt] at hR2
  obtain ⟨⟨wt,wq⟩,Qc⟩:=exq (mE (Xw d) l ⟨(k:Int)+1,si,ss,e⟩ 7 [124] [93]);rw [Qc] at hR2;obtain ⟨wa,wi,ws,we⟩:=wq;subst hR2;have Kq:Kdr:=⟨⟩;exact nN
theorem Znf {l:List (List UInt8)} {x:List UInt8} {j:Nat} (h:j<l.length) (hx:(l.getD j []==x)=true):(l.any fun y=>y==x)=true:=A8 (p:=fun y=>y==x) [] j h hx
theorem Zkm {l:List (List UInt8)} {x:List UInt8}:l.map (enc:List UInt8→D)++[.str x]=(l++[x]).map enc:=by rw [List.map_append];rfl
theorem Zqc {l:List (List Node)}:(l.map Sl.mk).map Sl.l=l:=by
 rw [List.map_map];have:(Sl.l∘Sl.mk:List Node→List Node)=id:=rfl;rw [this,List.map_id]
structure Kdu:Prop
theorem Kdu.k (_:Kdu) (h:p:=by
 repeat' first|exact Z1|with_reducible apply Zb|intro _
 all_goals first|with_reducible exact Qo|omega|exact ⟨j+1,by exact Qk,by omega,Eq.mpr hQ hq,by omega⟩|exact ⟨j+1,by exact Qk,by omega,fun m hm=>by have h3:=(Eq.mpr hQ hq:∀ m,m<j+1→(labels.getD m []==t.text)=false) m hm;simpa using h3,by omega⟩|skip):p:=h
structure Kdv:Prop
theorem Kdv.k (_:Kdv) (h:p:=by
 repeat' first|exact Z1|with_reducible apply Zb|intro _
 all_goals first|contradiction|with_reducible exact Qo|omega|assumption|exact ⟨(f,qa+1,qi,qs,L2,T2),by (have Um:=hL2;have Ix:=htyl;exact Qk),by simp only;omega,by simp only;omega,by simp only;omega,by simp only;omega,hok2,htn,hL2e,g9,by simp only;omega⟩|skip):p:=h
structure Kdt:Prop
theorem Kdt.k (_:Kdt) (h:p:=by
 repeat' first|exact Z1|with_reducible apply Zb|intro _
 all_goals first|contradiction|with_reducible exact Qo|omega|assumption|skip
 refine Zi [12,73,74,75,76,77,78,79,80,81,82,83,84,85,86,87,88,89,90,91,92,93] (fun j:Nat=>[(17,.d (.int .i64 j))]) (fun j:Nat=>[]) (fun j:Nat=>j≤labels.length∧∀ m,m<j→(labels.getD m []==t.text)=false) (fun j:Nat=>labels.length-j) 0 ?_ ?_ ?_
 ·simp
 ·exact Qk
 rintro j ⟨hj,hno⟩;rcases Zn j labels.length with ⟨hjt,Qv⟩|⟨hjt,Qv⟩
 ·have Q4:=Zr ([]:List UInt8) hjt;have hany:=Znf (x:=t.text) hjt;have hst:(labels.getD j []==t.text)=false→∀ m,m<j+1→(labels.getD m []==t.text)=false:=fun h=>Ks hno h;obtain ⟨Q,hQ⟩:=exq ((∀ m,m<j+1→(labels.getD m []==t.text)=false));rw [hQ] at hst;obtain ⟨y,hy⟩:=exq (labels.getD j []);rw [hy] at Q4 hany hst;cases Z0:(y==t.text) with
  | true =>
   rw [if_pos (hany Z0)] at g9;subst g9;exact Dh
  | false =>
   have hq:=hst Z0;have Kq:Kdu:=⟨⟩;exact nN
 ·have hany:(labels.any fun y=>y==t.text)=false:=Ly (p:=fun y=>y==t.text) [] fun m hm=>hno m (by omega)
  rw [if_neg (by rw [hany];simp)] at g9
  by_cases h50:labels.length=50
  ·rw [if_pos h50] at g9;have Zz:((labels.length:Int)==50)=true:=by rw [Zm];omega
   subst g9;exact Dh
  rw [if_neg h50] at g9;have Zz:((labels.length:Int)==50)=false:=by rw [Za];omega
  have Qg:=Zkm (l:=labels) (x:=t.text);have hL2:(labels++[t.text]).length=labels.length+1:=by simp
  have hL2e:∀ x∈labels++[t.text],x.length≤9223372036854775807:=fun x hx=>by
   rcases List.mem_append.1 hx with h|h
   ·exact g8 x h
   ·rw [Zp] at h;subst h;exact htx
  obtain ⟨L2,hL2d⟩:=exq (labels++[t.text]);rw [hL2d] at g9 Qg hL2 hL2e;have Z9:(L2.map (enc:List UInt8→D)).length=labels.length+1:=by rw [Zo,hL2]
  have hss:=g6.sites;have hsi:=g6.site;simp only at hss hsi;have hc:=Mm l ⟨(k:Int)+1,si,ss,0⟩ [58];obtain ⟨N,Zv⟩:=exq (Uw l ⟨(k:Int)+1,si,ss,0⟩ [58]);rw [Zv] at hc g9;have hNok:St4Ok l N∧(N.e=0→(k:Int)+2≤N.at_):=by
   rcases hc with ⟨h1,_⟩|⟨_,h2⟩|⟨_,h2,h3⟩
   ·exact absurd rfl h1
   ·rw [h2];exact ⟨⟨hlen,by show 0≤(k:Int)+1;omega,by show (k:Int)+1≤l.length;omega,by show (ss.length:Int)≤1000000+((k:Int)+1);omega,by show 0≤si∧si≤1000000+((k:Int)+1);omega,htxt⟩,fun h=>absurd h (by show (2:Int)≠0;decide)⟩
   ·have:=Cx h2;simp only at this;rw [h3];exact ⟨⟨hlen,by show 0≤(k:Int)+1+1;omega,by show (k:Int)+1+1≤l.length;omega,by show (ss.length:Int)≤1000000+((k:Int)+1+1);omega,by show 0≤si∧si≤1000000+((k:Int)+1+1);omega,htxt⟩,fun _=>by show (k:Int)+2≤(k:Int)+1+1;omega⟩
  clear hc;obtain ⟨hNok,hNk⟩:=hNok;have hE:=hEw N hNok.lo hNok.hi;have Zw:=congrFun (congrFun Qd l) N;obtain ⟨⟨u,q⟩,hr⟩:=exq (w l N);rw [hr] at hE g9 Zw;simp only at g9;obtain ⟨na,ni,ns,ne⟩:=N;have hqok:q.e=0→St4Ok l q:=fun h=>dO hNok hE h;have hqlo:=hE.lo;have hqhi:=hE.hi;have hqk:=fun h=>hE.ok h;have hqe2:=hE.err;simp only at hqlo hqhi hqk hNk hqe2;obtain ⟨qa,qi,qs,qe⟩:=q;simp only at hqlo hqhi hqk hqok g9 hqe2;by_cases hqe:qe=0
  case neg =>
   rw [if_pos hqe] at g9;have Qn:(qe != 0)=true:=bne_iff_ne.2 hqe;subst g9;exact Dh
  have Qn:(qe != 0)=false:=by rw [hqe];rfl
  rw [if_neg (by simpa using hqe)] at g9
  obtain ⟨z1,z2,z3⟩:=hqk hqe;have hqok:=hqok hqe;have hne0:ne=0:=Classical.byContradiction fun h=>hqe2 h hqe;have hNk:=hNk hne0;subst hqe;have hty:Zck (types++[u])=Zck types+u.length:=by unfold Zck;simp
  have htn:∀ t∈types++[u],t≠[]:=fun x hx=>by
   rcases List.mem_append.1 hx with h|h
   ·exact g7 x h
   ·rw [Zp] at h;subst h;exact z3
  have htyl:(types++[u]).length=types.length+1:=by simp
  have Ja:(types.map Sl.mk).map (enc:Sl Node→D)++[enc (Sl.mk u)]=((types++[u]).map Sl.mk).map enc:=by rw [List.map_append,List.map_append];rfl
  obtain ⟨T2,hT2⟩:=exq (types++[u]);rw [hT2] at g9 hty htn htyl Ja;have Q5:((T2.map Sl.mk).map (enc:Sl Node→D)).length=types.length+1:=by rw [Zo,Zo,htyl]
  have Q7:=Zqc (l:=T2);have hRok:Zrg L2 T2:=⟨by omega,by omega,by omega,by omega,htn,hL2e⟩
  cases Q0:S6 l qa bt with
  | false =>
   rw [if_pos Q0] at g9;obtain ⟨N2,Jo⟩:=exq (Uw l ⟨qa,qi,qs,0⟩ fin);obtain ⟨⟨row,re⟩,Jj⟩:=exq (fF 6 L2 T2);rw [Jo,Jj] at g9;obtain ⟨n2a,n2i,n2s,n2e⟩:=N2;subst g9;exact Dh
  | true =>
   rw [if_neg (by rw [Q0];simp)] at g9
   have hadv2:Ym ⟨qa,qi,qs,0⟩=⟨qa+1,qi,qs,0⟩:=rfl;rw [hadv2] at g9;have hlt:=Cx Q0;have hok2:St4Ok l ⟨qa+1,qi,qs,0⟩:=by
    obtain ⟨h1,h2,h3,h4,h5,h6⟩:=hqok;simp only at h2 h3 h4 h5;exact ⟨h1,by show 0≤qa+1;omega,by show qa+1≤_;omega,by show (qs.length:Int)≤1000000+(qa+1);omega,by show 0≤qi∧qi≤1000000+(qa+1);omega,h6⟩
   have Kq:Kdv:=⟨⟩;exact nN):p:=h
structure Kds:Prop
theorem Kds.k (_:Kds) (h:p:=by
 repeat' first|exact Z1|with_reducible apply Zb|intro _
 refine Zi [12,16,17,18,19,20,21,24,25,26,27,28,29,30,31,32,33,34,35,36,37,38,39,40,41,42,43,44,45,46,47,48,49,50,51,52,53,54,55,56,57,58,59,60,61,62,63,64,65,66,67,68,69,70,71,72,73,74,75,76,77,78,79,80,81,82,83,84,85,86,87,88,89,90,91,92,93,94,95,96,97,98,99,100,101,102,103,104,105,106,107,108,109,110,111,112,113,114,115,116,117,118,119,120,121,122,123,124,125,126,127,128,129,130,131,132,133,134,135,136,137,138,139,140,141,142,143,144,145,146,147,148,149,150,151,152,153,154,155] (fun p:Nat×Int×Int×List Site×List (List UInt8)×List (List Node)=>[(14,.sl 22 (p.2.2.2.2.1.map (enc:List UInt8→D)).length),(15,.sl 23 ((p.2.2.2.2.2.map Sl.mk).map (enc:Sl Node→D)).length)]) (fun p:Nat×Int×Int×List Site×List (List UInt8)×List (List Node)=>[(7,.box true [.d (.int .i64 p.2.1),.d (.int .i64 p.2.2.1),.d (.list 3 (p.2.2.2.1.map enc)),.d (.int .i64 0)]),(22,.row 1 (p.2.2.2.2.1.map enc) 0),(23,.row 1 ((p.2.2.2.2.2.map Sl.mk).map enc) 0)]) (fun p:Nat×Int×Int×List Site×List (List UInt8)×List (List Node)=>p.1+p.2.2.2.2.1.length=51∧p.2.2.2.2.1.length≤50∧p.2.2.2.2.1.length=p.2.2.2.2.2.length∧(Zck p.2.2.2.2.2:Int)≤p.2.1∧St4Ok l ⟨p.2.1,p.2.2.1,p.2.2.2.1,0⟩∧(∀ t∈p.2.2.2.2.2,t≠[])∧(∀ x∈p.2.2.2.2.1,x.length≤9223372036854775807)∧Ep w l 6 bt fin p.1 ⟨p.2.1,p.2.2.1,p.2.2.2.1,0⟩ p.2.2.2.2.1 p.2.2.2.2.2=R) (fun p:Nat×Int×Int×List Site×List (List UInt8)×List (List Node)=>51-p.2.2.2.2.1.length) (51,k0,si0,ss0,[],[]) ?_ ?_ ?_
 ·exact ⟨rfl,by simp,rfl,by show (0:Int)≤k0;omega,hS,by simp,by simp,hR2⟩
 ·exact Qk
 rintro ⟨f,k,si,ss,labels,types⟩ ⟨g1,g2,g3,g4,g6,g7,g8,g9⟩;simp only at g1 g2 g3 g4 g6 g7 g8 g9;have hlo:=g6.lo;have hhi:=g6.hi;simp only at hlo hhi;obtain ⟨k,rfl⟩:∃ n:Nat,k=n:=⟨k.toNat,by omega⟩
 obtain ⟨f,rfl⟩:∃ g,f=g+1:=⟨f-1,by omega⟩
 rw [Ep] at g9;simp only [Hp] at g9;have Z6:Ke ⟨(k:Int),si,ss,0⟩ (k:Int) 2=⟨k,si,ss,2⟩:=rfl;have Z3:Ke ⟨(k:Int),si,ss,0⟩ (k:Int) 7=⟨k,si,ss,7⟩:=rfl;have Z7:Ke ⟨(k:Int),si,ss,0⟩ (k:Int) 3=⟨k,si,ss,3⟩:=rfl;have hadv:Ym ⟨(k:Int),si,ss,0⟩=⟨(k:Int)+1,si,ss,0⟩:=rfl;rw [Z6,Z3,Z7,hadv] at g9;have hwt:Zga 6=1:=by decide
 have hbd:nG l 6 ⟨(k:Int),si,ss,0⟩=(Wf l.length (k:Int)||(!((l.getD k Kg).kind==1)||!Yo (l.getD k Kg).text)):=by
  unfold nG;rw [hwt];simp only [Hp];simp
 have Qz:(labels.map (enc:List UInt8→D)).length=labels.length:=Zo ..;have Q6:((types.map Sl.mk).map (enc:Sl Node→D)).length=types.length:=by rw [Zo,Zo]
 have hkd7:(((6:Int)==7)=false):=by decide
 cases Qe:Wf l.length (k:Int) with
 | true =>
  rw [if_pos (by rw [hbd,Qe];rfl)] at g9
  subst g9;exact Dh
 | false =>
 have hkl:k<l.length:=by rw [←Bool.not_eq_true,Qx] at Qe;omega
 have Qc:=Zr Kg hkl;have htx:=htxt (l.getD k Kg) (by simp [hkl])
 obtain ⟨t,ht⟩:=exq (l.getD k Kg);rw [ht] at Qc htx g9 hbd;cases hkd:(t.kind==1) with
 | false =>
  have Qh:(t.kind != 1)=true:=by rw [bne,hkd];rfl
  rw [if_pos (by rw [hbd,Qe,hkd];rfl)] at g9
  subst g9;exact Dh
 | true =>
 have Qh:(t.kind != 1)=false:=by rw [bne,hkd];rfl
 cases Qp:Yo t.text with
 | false =>
  rw [if_pos (by rw [hbd,Qe,hkd,Qp];rfl)] at g9
  subst g9;exact Dh
 | true =>
 rw [if_neg (by rw [hbd,Qe,hkd,Qp];simp)] at g9
 have Kq:Kdt:=⟨⟩;exact nN):p:=h
structure Kdy:Prop
theorem Kdy.k (_:Kdy) (h:p:=by
 repeat' first|exact Z1|with_reducible apply Zb|intro _
 all_goals first|with_reducible exact Qo|omega|exact ⟨j+1,by exact Qk,by omega,Eq.mpr hQ hq,by omega⟩|exact ⟨j+1,by exact Qk,by omega,fun m hm=>by have h3:=(Eq.mpr hQ hq:∀ m,m<j+1→(labels.getD m []==t.text)=false) m hm;simpa using h3,by omega⟩|skip):p:=h
structure Kdz:Prop
theorem Kdz.k (_:Kdz) (h:p:=by
 repeat' first|exact Z1|with_reducible apply Zb|intro _
 all_goals first|contradiction|with_reducible exact Qo|omega|assumption|exact ⟨(f,qa+1,qi,qs,L2,T2),by (have Um:=hL2;have Ix:=htyl;exact Qk),by simp only;omega,by simp only;omega,by simp only;omega,by simp only;omega,hok2,htn,hL2e,g9,by simp only;omega⟩|skip):p:=h
structure Kdx:Prop
theorem Kdx.k (_:Kdx) (h:p:=by
 repeat' first|exact Z1|with_reducible apply Zb|intro _
 all_goals first|contradiction|with_reducible exact Qo|omega|assumption|skip
 refine Zi [12,73,74,75,76,77,78,79,80,81,82,83,84,85,86,87,88,89,90,91,92,93] (fun j:Nat=>[(17,.d (.int .i64 j))]) (fun j:Nat=>[]) (fun j:Nat=>j≤labels.length∧∀ m,m<j→(labels.getD m []==t.text)=false) (fun j:Nat=>labels.length-j) 0 ?_ ?_ ?_
 ·simp
 ·exact Qk
 rintro j ⟨hj,hno⟩;rcases Zn j labels.length with ⟨hjt,Qv⟩|⟨hjt,Qv⟩
 ·have Q4:=Zr ([]:List UInt8) hjt;have hany:=Znf (x:=t.text) hjt;have hst:(labels.getD j []==t.text)=false→∀ m,m<j+1→(labels.getD m []==t.text)=false:=fun h=>Ks hno h;obtain ⟨Q,hQ⟩:=exq ((∀ m,m<j+1→(labels.getD m []==t.text)=false));rw [hQ] at hst;obtain ⟨y,hy⟩:=exq (labels.getD j []);rw [hy] at Q4 hany hst;cases Z0:(y==t.text) with
  | true =>
   rw [if_pos (hany Z0)] at g9;subst g9;exact Dh
  | false =>
   have hq:=hst Z0;have Kq:Kdy:=⟨⟩;exact nN
 ·have hany:(labels.any fun y=>y==t.text)=false:=Ly (p:=fun y=>y==t.text) [] fun m hm=>hno m (by omega)
  rw [if_neg (by rw [hany];simp)] at g9
  by_cases h50:labels.length=50
  ·rw [if_pos h50] at g9;have Zz:((labels.length:Int)==50)=true:=by rw [Zm];omega
   subst g9;exact Dh
  rw [if_neg h50] at g9;have Zz:((labels.length:Int)==50)=false:=by rw [Za];omega
  have Qg:=Zkm (l:=labels) (x:=t.text);have hL2:(labels++[t.text]).length=labels.length+1:=by simp
  have hL2e:∀ x∈labels++[t.text],x.length≤9223372036854775807:=fun x hx=>by
   rcases List.mem_append.1 hx with h|h
   ·exact g8 x h
   ·rw [Zp] at h;subst h;exact htx
  obtain ⟨L2,hL2d⟩:=exq (labels++[t.text]);rw [hL2d] at g9 Qg hL2 hL2e;have Z9:(L2.map (enc:List UInt8→D)).length=labels.length+1:=by rw [Zo,hL2]
  have hss:=g6.sites;have hsi:=g6.site;simp only at hss hsi;have hc:=Mm l ⟨(k:Int)+1,si,ss,0⟩ [58];obtain ⟨N,Zv⟩:=exq (Uw l ⟨(k:Int)+1,si,ss,0⟩ [58]);rw [Zv] at hc g9;have hNok:St4Ok l N∧(N.e=0→(k:Int)+2≤N.at_):=by
   rcases hc with ⟨h1,_⟩|⟨_,h2⟩|⟨_,h2,h3⟩
   ·exact absurd rfl h1
   ·rw [h2];exact ⟨⟨hlen,by show 0≤(k:Int)+1;omega,by show (k:Int)+1≤l.length;omega,by show (ss.length:Int)≤1000000+((k:Int)+1);omega,by show 0≤si∧si≤1000000+((k:Int)+1);omega,htxt⟩,fun h=>absurd h (by show (2:Int)≠0;decide)⟩
   ·have:=Cx h2;simp only at this;rw [h3];exact ⟨⟨hlen,by show 0≤(k:Int)+1+1;omega,by show (k:Int)+1+1≤l.length;omega,by show (ss.length:Int)≤1000000+((k:Int)+1+1);omega,by show 0≤si∧si≤1000000+((k:Int)+1+1);omega,htxt⟩,fun _=>by show (k:Int)+2≤(k:Int)+1+1;omega⟩
  clear hc;obtain ⟨hNok,hNk⟩:=hNok;have hE:=hEw N hNok.lo hNok.hi;have Zw:=congrFun (congrFun Qd l) N;obtain ⟨⟨u,q⟩,hr⟩:=exq (w l N);rw [hr] at hE g9 Zw;simp only at g9;obtain ⟨na,ni,ns,ne⟩:=N;have hqok:q.e=0→St4Ok l q:=fun h=>dO hNok hE h;have hqlo:=hE.lo;have hqhi:=hE.hi;have hqk:=fun h=>hE.ok h;have hqe2:=hE.err;simp only at hqlo hqhi hqk hNk hqe2;obtain ⟨qa,qi,qs,qe⟩:=q;simp only at hqlo hqhi hqk hqok g9 hqe2;by_cases hqe:qe=0
  case neg =>
   rw [if_pos hqe] at g9;have Qn:(qe != 0)=true:=bne_iff_ne.2 hqe;subst g9;exact Dh
  have Qn:(qe != 0)=false:=by rw [hqe];rfl
  rw [if_neg (by simpa using hqe)] at g9
  obtain ⟨z1,z2,z3⟩:=hqk hqe;have hqok:=hqok hqe;have hne0:ne=0:=Classical.byContradiction fun h=>hqe2 h hqe;have hNk:=hNk hne0;subst hqe;have hty:Zck (types++[u])=Zck types+u.length:=by unfold Zck;simp
  have htn:∀ t∈types++[u],t≠[]:=fun x hx=>by
   rcases List.mem_append.1 hx with h|h
   ·exact g7 x h
   ·rw [Zp] at h;subst h;exact z3
  have htyl:(types++[u]).length=types.length+1:=by simp
  have Ja:(types.map Sl.mk).map (enc:Sl Node→D)++[enc (Sl.mk u)]=((types++[u]).map Sl.mk).map enc:=by rw [List.map_append,List.map_append];rfl
  obtain ⟨T2,hT2⟩:=exq (types++[u]);rw [hT2] at g9 hty htn htyl Ja;have Q5:((T2.map Sl.mk).map (enc:Sl Node→D)).length=types.length+1:=by rw [Zo,Zo,htyl]
  have Q7:=Zqc (l:=T2);have hRok:Zrg L2 T2:=⟨by omega,by omega,by omega,by omega,htn,hL2e⟩
  cases Q0:S6 l qa bt with
  | false =>
   rw [if_pos Q0] at g9;obtain ⟨N2,Jo⟩:=exq (Uw l ⟨qa,qi,qs,0⟩ fin);obtain ⟨⟨row,re⟩,Jj⟩:=exq (fF 7 L2 T2);rw [Jo,Jj] at g9;obtain ⟨n2a,n2i,n2s,n2e⟩:=N2;subst g9;exact Dh
  | true =>
   rw [if_neg (by rw [Q0];simp)] at g9
   have hadv2:Ym ⟨qa,qi,qs,0⟩=⟨qa+1,qi,qs,0⟩:=rfl;rw [hadv2] at g9;have hlt:=Cx Q0;have hok2:St4Ok l ⟨qa+1,qi,qs,0⟩:=by
    obtain ⟨h1,h2,h3,h4,h5,h6⟩:=hqok;simp only at h2 h3 h4 h5;exact ⟨h1,by show 0≤qa+1;omega,by show qa+1≤_;omega,by show (qs.length:Int)≤1000000+(qa+1);omega,by show 0≤qi∧qi≤1000000+(qa+1);omega,h6⟩
   have Kq:Kdz:=⟨⟩;exact nN):p:=h
structure Kdw:Prop
theorem Kdw.k (_:Kdw) (h:p:=by
 repeat' first|exact Z1|with_reducible apply Zb|intro _
 refine Zi [12,16,17,18,19,20,21,24,25,26,27,28,29,30,31,32,33,34,35,36,37,38,39,40,41,42,43,44,45,46,47,48,49,50,51,52,53,54,55,56,57,58,59,60,61,62,63,64,65,66,67,68,69,70,71,72,73,74,75,76,77,78,79,80,81,82,83,84,85,86,87,88,89,90,91,92,93,94,95,96,97,98,99,100,101,102,103,104,105,106,107,108,109,110,111,112,113,114,115,116,117,118,119,120,121,122,123,124,125,126,127,128,129,130,131,132,133,134,135,136,137,138,139,140,141,142,143,144,145,146,147,148,149,150,151,152,153,154,155] (fun p:Nat×Int×Int×List Site×List (List UInt8)×List (List Node)=>[(14,.sl 22 (p.2.2.2.2.1.map (enc:List UInt8→D)).length),(15,.sl 23 ((p.2.2.2.2.2.map Sl.mk).map (enc:Sl Node→D)).length)]) (fun p:Nat×Int×Int×List Site×List (List UInt8)×List (List Node)=>[(7,.box true [.d (.int .i64 p.2.1),.d (.int .i64 p.2.2.1),.d (.list 3 (p.2.2.2.1.map enc)),.d (.int .i64 0)]),(22,.row 1 (p.2.2.2.2.1.map enc) 0),(23,.row 1 ((p.2.2.2.2.2.map Sl.mk).map enc) 0)]) (fun p:Nat×Int×Int×List Site×List (List UInt8)×List (List Node)=>p.1+p.2.2.2.2.1.length=51∧p.2.2.2.2.1.length≤50∧p.2.2.2.2.1.length=p.2.2.2.2.2.length∧(Zck p.2.2.2.2.2:Int)≤p.2.1∧St4Ok l ⟨p.2.1,p.2.2.1,p.2.2.2.1,0⟩∧(∀ t∈p.2.2.2.2.2,t≠[])∧(∀ x∈p.2.2.2.2.1,x.length≤9223372036854775807)∧Ep w l 7 bt fin p.1 ⟨p.2.1,p.2.2.1,p.2.2.2.1,0⟩ p.2.2.2.2.1 p.2.2.2.2.2=R) (fun p:Nat×Int×Int×List Site×List (List UInt8)×List (List Node)=>51-p.2.2.2.2.1.length) (51,k0,si0,ss0,[],[]) ?_ ?_ ?_
 ·exact ⟨rfl,by simp,rfl,by show (0:Int)≤k0;omega,hS,by simp,by simp,hR2⟩
 ·exact Qk
 rintro ⟨f,k,si,ss,labels,types⟩ ⟨g1,g2,g3,g4,g6,g7,g8,g9⟩;simp only at g1 g2 g3 g4 g6 g7 g8 g9;have hlo:=g6.lo;have hhi:=g6.hi;simp only at hlo hhi;obtain ⟨k,rfl⟩:∃ n:Nat,k=n:=⟨k.toNat,by omega⟩
 obtain ⟨f,rfl⟩:∃ g,f=g+1:=⟨f-1,by omega⟩
 rw [Ep] at g9;simp only [Hp] at g9;have Z6:Ke ⟨(k:Int),si,ss,0⟩ (k:Int) 2=⟨k,si,ss,2⟩:=rfl;have Z3:Ke ⟨(k:Int),si,ss,0⟩ (k:Int) 7=⟨k,si,ss,7⟩:=rfl;have Z7:Ke ⟨(k:Int),si,ss,0⟩ (k:Int) 3=⟨k,si,ss,3⟩:=rfl;have hadv:Ym ⟨(k:Int),si,ss,0⟩=⟨(k:Int)+1,si,ss,0⟩:=rfl;rw [Z6,Z3,Z7,hadv] at g9;have hwt:Zga 7=2:=by decide
 have hbd:nG l 7 ⟨(k:Int),si,ss,0⟩=(Wf l.length (k:Int)||(!((l.getD k Kg).kind==2)||!Sa (l.getD k Kg).text)):=by
  unfold nG;rw [hwt];simp only [Hp];simp
 have Qz:(labels.map (enc:List UInt8→D)).length=labels.length:=Zo ..;have Q6:((types.map Sl.mk).map (enc:Sl Node→D)).length=types.length:=by rw [Zo,Zo]
 have hkd7:(((7:Int)==7)=true):=by decide
 cases Qe:Wf l.length (k:Int) with
 | true =>
  rw [if_pos (by rw [hbd,Qe];rfl)] at g9
  subst g9;exact Dh
 | false =>
 have hkl:k<l.length:=by rw [←Bool.not_eq_true,Qx] at Qe;omega
 have Qc:=Zr Kg hkl;have htx:=htxt (l.getD k Kg) (by simp [hkl])
 obtain ⟨t,ht⟩:=exq (l.getD k Kg);rw [ht] at Qc htx g9 hbd;cases hkd:(t.kind==2) with
 | false =>
  have Qh:(t.kind != 2)=true:=by rw [bne,hkd];rfl
  rw [if_pos (by rw [hbd,Qe,hkd];rfl)] at g9
  subst g9;exact Dh
 | true =>
 have Qh:(t.kind != 2)=false:=by rw [bne,hkd];rfl
 cases Qp:Sa t.text with
 | false =>
  rw [if_pos (by rw [hbd,Qe,hkd,Qp];rfl)] at g9
  subst g9;exact Dh
 | true =>
 rw [if_neg (by rw [hbd,Qe,hkd,Qp];simp)] at g9
 have Kq:Kdx:=⟨⟩;exact nN):p:=h
theorem stepi_rows4 (n:Nat) (ih:IH4 n):Qq Tryz.prog (268,(La (n+1))):=by
 obtain ⟨Kx,Kt,Kc,Kd,Kb,Ku,Kw,K,W4,Gd,M4,Ln,Ek,cL,fW,_⟩:=X2 Z4 Zq [] false (Jh iJ Ar.eq_def (Jh D7 Pm.eq_def (Jh nJ C6.eq_def (Jh ih.whole (L3 n) (Jh good_Row3 jF.eq_def (Jh good_IsWord1 Dk (Jh good_IsTag1 Zce X1)))))));have Ko:=(La.eq_def (n+1));refine Wh K Tryz.func268 [.tmp 12,.cell 13 261] rfl 156 rfl (fun c hc cvs hpre=>?_);unfold La at hpre;obtain ⟨⟨l⟩,⟨k0,si0,ss0,e0'⟩,v,kind,bt,fin,rfl,⟨hS,he0,hk1⟩,hk,hv1,hv2,hn⟩:=Zm0 hpre;simp only at hS he0 hk1;subst he0;clear hpre;obtain ⟨w,Qd⟩:=exq (Xw (101-v).toNat);have hEw:∀ s:St4,0≤s.at_→s.at_≤l.length→Eats l s (w l s):=fun s h1 h2=>by rw [←Qd];exact Mc _ s (by omega) h1 h2
 have hlen:=hS.len;have htxt:=hS.txt;obtain ⟨R,Qa⟩:=exq (mE w l ⟨k0,si0,ss0,0⟩ kind bt fin);have hR2:=Qa;unfold mE at hR2;cases hc;refine Yv 9 ?_;rcases hk with rfl|rfl
 ·have Kq:Kds:=⟨⟩;exact nN
 ·have Kq:Kdw:=⟨⟩;exact nN
theorem Qt:Y5 []:=fun _ h=>by cases h
theorem lY {a b:List Node} (ha:Y5 a) (hb:Y5 b):Y5 (a++b):=fun n hn=>by
 rcases List.mem_append.1 hn with h|h
 ·exact ha n h
 ·exact hb n h
theorem T7 {k n:Int}:Y5 [⟨k,[],n⟩]:=fun m hm=>by rw [Zp] at hm;subst hm;simp
theorem Zse {s:List UInt8} (hs:s.length≤9223372036854775807) {t:List Node} (h:Y5 t):Y5 (named s t):=by
 cases t with
 | nil=>exact h
 | cons a t =>
  intro n hn;rcases Zu.1 hn with rfl|hn
  ·exact hs
  ·exact h n (by simp [hn])
def Ze8 (labels:List (List UInt8)):Prop:=∀ x∈labels,x.length≤9223372036854775807
theorem Zrs {labels:List (List UInt8)} (h:Ze8 labels) (k:Nat):(labels.getD k []).length≤9223372036854775807:=by
 rw [Zd];cases hk:labels[k]? with
 | none=>simp
 | some x=>exact h x (List.mem_of_getElem? hk)
theorem Zsf {types:List (List Node)} (h:∀ t∈types,Y5 t) (k:Nat):Y5 (types.getD k []):=by
 rw [Zd];cases hk:types[k]? with
 | none=>exact Qt
 | some x=>exact h x (List.mem_of_getElem? hk)
theorem Zdb {labels:List (List UInt8)} (hl:Ze8 labels) {types:List (List Node)} (ht:∀ t∈types,Y5 t):∀ (k:Nat) (done:List UInt8) (out:List Node),Y5 out→Y5 (nS labels types k done out).1
 | 0,_,_,h=>h
 | k+1,done,out,h=>by
  rw [nS];split
  ·exact Qt
  ·exact Zdb hl ht k _ _ (lY h (Zse (Zrs hl _) (Zsf ht _)))
theorem Zon {k:Int} {labels:List (List UInt8)} (hl:Ze8 labels) {types:List (List Node)} (ht:∀ t∈types,Y5 t):Y5 (fF k labels types).1:=by
 unfold fF;split
 ·exact Qt
 split
 ·exact Qt
 exact Zdb hl ht _ _ _ T7
theorem Zt0 {l:List Tok} (h:∀ t∈l,t.text.length≤9223372036854775807) (i:Int):(tk l i).text.length≤9223372036854775807:=by
 unfold tk;rw [Zd];cases hk:l[i.toNat]? with
 | none=>simp [Kg]
 | some x=>exact h x (List.mem_of_getElem? hk)
theorem Of {w:List Tok→St4→List Node×St4} {l:List Tok} (hl:∀ t∈l,t.text.length≤9223372036854775807) (hw:∀ s,Y5 (w l s).1) {kind:Int} {bt fin:List UInt8}:∀ (f:Nat) (s:St4) (labels:List (List UInt8)) (types:List (List Node)),Ze8 labels→(∀ t∈types,Y5 t)→Y5 (Ep w l kind bt fin f s labels types).1
 | 0,_,_,_,_,_=>Qt
 | f+1,s,labels,types,h1,h2=>by
  have h3:Ze8 (labels++[(tk l s.at_).text]):=fun x hx=>by
   rcases List.mem_append.1 hx with h|h
   ·exact h1 x h
   ·rw [Zp] at h;subst h;exact Zt0 hl _
  have h4:∀ t∈types++[(w l (Uw l (Ym s) [58])).1],Y5 t:=fun x hx=>by
   rcases List.mem_append.1 hx with h|h
   ·exact h2 x h
   ·rw [Zp] at h;subst h;exact hw _
  rw [Ep];split
  ·exact Qt
  split
  ·exact Qt
  split
  ·exact Qt
  split
  ·exact Qt
  split
  ·exact Zon h3 h4
  ·exact Of hl hw f _ _ _ h3 h4
theorem Zlk {w:List Tok→St4→List Node×St4} {l:List Tok} (hl:∀ t∈l,t.text.length≤9223372036854775807) (hw:∀ s,Y5 (w l s).1) {d:Nat} {s:St4}:Y5 (Bz w d l s).1:=by
 unfold Bz;split
 ·exact Qt
 split
 ·exact Qt
 split
 ·exact T7
 split
 ·exact T7
 split
 ·exact Qt
 split
 ·exact Qt
 split
 ·exact T7
 split
 ·exact Of hl hw _ _ _ _ (fun _ h=>by cases h) (fun _ h=>by cases h)
 split
 ·exact Of hl hw _ _ _ _ (fun _ h=>by cases h) (fun _ h=>by cases h)
 ·exact hw _
theorem Th {l:List Tok} (hl:∀ t∈l,t.text.length≤9223372036854775807):∀ (d:Nat) (s:St4),Y5 (Xw d l s).1
 | 0,_=>Qt
 | d+1,s=>by
  have hA:=Zlk (w:=Xw d) hl (fun s=>Th hl d s) (d:=d) (s:=s);rw [Xw];split
  ·exact hA
  split
  ·exact Qt
  ·have h5:Y5 [(⟨5,[],0⟩:Node)]:=T7;exact lY h5 (lY hA (Th hl d _))
theorem jJ {a b d:Int}:(dec (.agg [.int .i64 a,.int .i64 b,.list 3 [],.int .i64 d]):St4)=⟨a,b,[],d⟩:=rfl
theorem gP {a b d:Int}:K3 St4 (.agg [.int .i64 a,.int .i64 b,.list 3 [],.int .i64 d])=True:=eq_true (Wg (St4.mk a b [] d))
theorem Qb2:∀ n,IH4 n
 | 0=>⟨Wz (Jz Tryz.func259 (by kernel_rfl) rfl) oY,Wz (Jz Tryz.func262 (by kernel_rfl) rfl) Zep,Wz (Jz Tryz.func268 (by kernel_rfl) rfl) Zei⟩
 | n+1=>⟨Ziz n (Qb2 n),stepi_atom4 n (Qb2 n),stepi_rows4 n (Qb2 n)⟩
def O5:Con:=Wc 400
theorem Zjo:Qq Tryz.prog (259,O5):=(Qb2 400).whole
theorem Ls:O5=Wc 400:=rfl
def Zjz {A B C E R S T U V:Type} [Enc A] [Enc B] [Enc C] [Enc E] [Enc R] [Enc S] [Enc T] [Enc U] [Enc V] (p:A→B→C→E→Prop) (f:A→B→C→E→R×S×T×U×V):Con:=⟨[false,false,false,false],[false,false,false,false,false],fun c=>match c with
 | [.d x,.d y,.d z,.d w]=>K3 A x∧K3 B y∧K3 C z∧K3 E w∧p (dec x) (dec y) (dec z) (dec w)
 | _=>False,fun c=>match c with
 | [.d x,.d y,.d z,.d w]=>.tup [.d (enc (f (dec x) (dec y) (dec z) (dec w)).1),.d (enc (f (dec x) (dec y) (dec z) (dec w)).2.1),.d (enc (f (dec x) (dec y) (dec z) (dec w)).2.2.1),.d (enc (f (dec x) (dec y) (dec z) (dec w)).2.2.2.1),.d (enc (f (dec x) (dec y) (dec z) (dec w)).2.2.2.2)]
 | _=>.d .nilp⟩
theorem Zvk {A B C E R S T U V:Type} [Enc A] [Enc B] [Enc C] [Enc E] [Enc R] [Enc S] [Enc T] [Enc U] [Enc V] {p:A→B→C→E→Prop} {f:A→B→C→E→R×S×T×U×V} {c:List CV} (h:(Zjz p f).pre c):∃ a b d e,c=[.d (enc a),.d (enc b),.d (enc d),.d (enc e)]∧p a b d e:=by
 unfold Zjz at h;simp only at h;split at h
 ·next x y z w=>exact ⟨dec x,dec y,dec z,dec w,by rw [←h.1,←h.2.1,←h.2.2.1,←h.2.2.2.1],h.2.2.2.2⟩
 ·exact h.elim
def Qam (l:List Tok) (i site level:Int):Sl Node×Int×Sl Site×Int×Int:=(⟨(U7 l i site level).1⟩,(U7 l i site level).2.1,⟨(U7 l i site level).2.2.1⟩,(U7 l i site level).2.2.2.1,(U7 l i site level).2.2.2.2)
def bT:Con:=Zjz (fun (l:Sl Tok) (i site v:Int)=>(l.l.length≤100000∧∀ t∈l.l,t.text.length≤9223372036854775807)∧0≤i∧i≤l.l.length∧1≤site∧site≤1000000∧1≤v∧v≤100) (fun l i site v=>Qam l.l i site v)
theorem Zo6:Qq Tryz.prog (249,bT):=by
 obtain ⟨Kx,Kt,Kc,Kd,Kb,Ku,Kw,K,W4,Gd,_⟩:=X2 Z4 Zq [] false (Jh Zjo O5.eq_def (Jh good_Right3 Dc.eq_def X1));have Ko:=bT.eq_def;refine Wh K Tryz.func249 [.tmp 8,.tmp 9,.tmp 10,.tmp 11,.tmp 12] rfl 60 rfl (fun c hc cvs hpre=>?_);unfold bT at hpre;obtain ⟨⟨l⟩,i,site,v,rfl,⟨hl,htx⟩,hi0,hi1,hs0,hs1,hv1,hv2⟩:=Zvk hpre;simp only at hl htx hi1;clear hpre;have hOk:St4Ok l ⟨i,site,[],0⟩:=⟨hl,hi0,hi1,by show ((0:Nat):Int)≤1000000+i;omega,by show 0≤site∧site≤1000000+i;omega,htx⟩
 obtain ⟨⟨R1,R2,R3,R4,R5⟩,hR⟩:=exq (U7 l i site v);have hR2:=hR;unfold U7 at hR2;rw [if_neg (by omega)] at hR2
 have Qa:Yi (l.length:Int) i=false:=by rw [Q9];omega
 have Qd:Yi i 0=false:=by rw [Q9];omega
 have Qe:Yi site 1=false:=by rw [Q9];omega
 have Z6:Yi v 1=false:=by rw [Q9];omega
 simp only [if_neg (show ¬ (l.length:Int)<i by omega)] at hR2
 have hE:=Mc (l:=l) (101-v).toNat ⟨i,site,[],0⟩ (by omega) hOk.lo hOk.hi
 have hNm:=Th htx (101-v).toNat ⟨i,site,[],0⟩;obtain ⟨⟨t,q⟩,Qc⟩:=exq (Xw (101-v).toNat l ⟨i,site,[],0⟩);rw [Qc] at hR2 hE hNm;have hEl:=hE.len;obtain ⟨qa,qi,qs,qe⟩:=q;simp only at hR2 hEl hNm;have htl:t.length≤9223372036854775807:=by omega
 have Qp:Qam l i site v=(⟨R1⟩,R2,⟨R3⟩,R4,R5):=by unfold Qam;rw [hR]
 cases hc;refine Yv 3 ?_;by_cases he:qe=0
 case neg =>
  rw [if_pos he] at hR2;have Qh:(qe != 0)=true:=bne_iff_ne.2 he;simp only [Ze] at hR2;obtain ⟨rfl,rfl,rfl,rfl,rfl⟩:=hR2;have Q4:=@Zjz.eq_def;have Z0:=@Ls;have Z3:=@jJ;have Zz:=@gP;exact Dh
 have Qh:(qe != 0)=false:=by rw [he];rfl
 rw [if_neg (by simpa using he)] at hR2
 by_cases h1:10000<t.length
 ·rw [if_pos h1] at hR2;have Qz:Yi 10000 (t.length:Int)=true:=by rw [Xa];omega
  simp only [Ze] at hR2;obtain ⟨rfl,rfl,rfl,rfl,rfl⟩:=hR2;have Q4:=@Zjz.eq_def;have Z0:=@Ls;have Z3:=@jJ;have Zz:=@gP;exact Dh
 rw [if_neg h1] at hR2;have Qz:Yi 10000 (t.length:Int)=false:=by rw [Q9];omega
 cases Qv:Y6 t with
 | false =>
  rw [if_pos Qv] at hR2;simp only [Ze] at hR2;obtain ⟨rfl,rfl,rfl,rfl,rfl⟩:=hR2;have Q4:=@Zjz.eq_def;have Z0:=@Ls;have Z3:=@jJ;have Zz:=@gP;exact Dh
 | true =>
  rw [if_neg (by rw [Qv];simp)] at hR2
  simp only [Ze] at hR2;obtain ⟨rfl,rfl,rfl,rfl,rfl⟩:=hR2;have Q4:=@Zjz.eq_def;have Z0:=@Ls;have Z3:=@jJ;have Zz:=@gP;exact Dh
structure St6 where
 at_:Int
 sites:List Site
 e:Int
 deriving DecidableEq
instance encSt6:Enc St6:=⟨fun a=>.agg [.int .i64 a.at_,.list 3 (a.sites.map enc),.int .i64 a.e],fun x=>match x with
 | .agg [a,c,d]=>⟨a.i,c.l.map dec,d.i⟩
 | _=>⟨0,[],0⟩,fun a=>by
  have h:∀ l:List Site,(l.map (enc:Site→D)).map dec=l:=fun l=>J2;cases a;simp [D.l,D.i,h]⟩
theorem Jg {a d:Int} {c:List Site}:(enc (St6.mk a c d):D)=.agg [.int .i64 a,.list 3 (c.map enc),.int .i64 d]:=rfl
theorem Ju {a d:Int} {c:List Site}:(dec (.agg [.int .i64 a,.list 3 (c.map enc),.int .i64 d]):St6)=⟨a,c,d⟩:=Enc.dec_enc (St6.mk a c d)
theorem Jt {a d:Int} {c:List Site}:K3 St6 (.agg [.int .i64 a,.list 3 (c.map enc),.int .i64 d])=True:=eq_true (Wg (St6.mk a c d))
def J8 (s:St6) (e:Int):St6:=if s.e=0 then ⟨s.at_,s.sites,e⟩ else s
def Fk (l:List Tok) (s:St6) (k:Int) (x:List UInt8):Bool:=(s.e==0)&&(Yi s.at_ l.length&&((tk l s.at_).kind==k&&(tk l s.at_).text==x))
def X3 (s:St6):St6:=⟨s.at_+1,s.sites,s.e⟩
def Qs (l:List Tok) (s:St6) (k:Int) (x:List UInt8):St6:=if s.e≠0 then s else if Fk l s k x=false then J8 s 2 else X3 s
def Jm (l:List Tok) (s:St6) (k:Int):List UInt8×St6:=if s.e≠0 then ([],s) else if (l.length:Int)≤s.at_∨(tk l s.at_).kind≠k then ([],J8 s 2) else ((tk l s.at_).text,X3 s)
def F5 (l:List Tok) (s:St6) (v:Int):List Node×St6 :=
 if s.e≠0 then ([],s)
 else if (U7 l s.at_ (s.sites.length+1) v).2.2.2.2≠0 then ([],⟨(U7 l s.at_ (s.sites.length+1) v).2.2.2.1,s.sites,(U7 l s.at_ (s.sites.length+1) v).2.2.2.2⟩)
 else ((U7 l s.at_ (s.sites.length+1) v).1,⟨(U7 l s.at_ (s.sites.length+1) v).2.1,s.sites++(U7 l s.at_ (s.sites.length+1) v).2.2.1,0⟩)
def G6 (l:List Tok) (s:St6) (v:Int):List Node×St6 :=
 if s.e≠0 then ([],s)
 else if Fk l s 5 [58]=true then F5 l (X3 s) v
 else ([⟨0,[],s.sites.length+1⟩],⟨s.at_,s.sites++[⟨(tk l (s.at_-1)).to,(tk l (s.at_-1)).to,true⟩],0⟩)
def R0 (l:List (List UInt8)) (x:List UInt8):Bool:=l.any fun y=>y==x
def Zy8 (s:List UInt8):Prop:=s.length≤18∧∀ c∈s,Wn c=true
structure St6Ok (l:List Tok) (s:St6):Prop where
 len:l.length≤100000
 lo:0≤s.at_
 hi:s.at_≤l.length
 sites:s.sites.length≤900000
 txt:∀ t∈l,t.text.length≤1000000
 fig:∀ t∈l,t.kind=3→Zy8 t.text
theorem St6Ok.long {l:List Tok} {s:St6} (h:St6Ok l s):∀ t∈l,t.text.length≤9223372036854775807:=fun t ht=>Nat.le_trans (h.txt t ht) (by omega)
def U0:Con:=Wr (fun (_:St6) (_:Int)=>True) (fun s e=>J8 s e)
theorem Lz:type_of% @U0.eq_def:=@U0.eq_def
theorem Gz:Qq Tryz.prog (147,U0):=by
 obtain ⟨Kx,Kt,Kc,Kd,Kb,Ku,Kw,K,_⟩:=X2 Z4 Zq [] false X1;have Ko:=Lz;refine Wh K Tryz.func147 [.cell 4 137] rfl 11 rfl (fun c hc cvs hpre=>?_);unfold U0 at hpre;obtain ⟨⟨k,ss,e⟩,x,rfl,-⟩:=Jv hpre;clear hpre;obtain ⟨R,Qe⟩:=exq (J8 ⟨k,ss,e⟩ x);have hR2:=Qe;unfold J8 at hR2;simp only at hR2;cases hc;by_cases he:e=0
 ·rw [if_pos he] at hR2;have Qd:(e==0)=true:=Zm.2 he;subst hR2;have Z6:=@Jg;have Qa:=@Jt;have Qc:=@Ju;exact Zt4
 ·rw [if_neg he] at hR2;have Qd:(e==0)=false:=Za.2 he;subst hR2;have Z6:=@Jg;have Qa:=@Jt;have Qc:=@Ju;exact Zt4
def Bl:Con:=Zfe (fun (l:Sl Tok) (s:St6) (_:Int) (_:List UInt8)=>l.l.length≤1000000∧0≤s.at_) (fun l s k x=>Fk l.l s k x)
theorem cR:type_of% @Bl.eq_def:=@Bl.eq_def
theorem Se:Qq Tryz.prog (144,Bl):=by
 obtain ⟨Kx,Kt,Kc,Kd,Kb,Ku,Kw,K,_⟩:=X2 Z4 Zq [] false X1;have Ko:=cR;refine Wh K Tryz.func144 [.tmp 8] rfl 39 rfl (fun c hc cvs hpre=>?_);unfold Bl at hpre;obtain ⟨⟨l⟩,⟨i,ss,e⟩,kd,x,rfl,hl,hi⟩:=Zj0 hpre;simp only at hl hi;obtain ⟨i,rfl⟩:∃ n:Nat,i=n:=⟨i.toNat,by omega⟩
 clear hpre;obtain ⟨R,Qe⟩:=exq (Fk l ⟨i,ss,e⟩ kd x);have Qh:=Qe;unfold Fk at Qh;simp only [Hp] at Qh;cases hc;refine Yv 2 ?_;cases Qd:(e==0) with
 | false =>
  rw [Qd,Bool.false_and] at Qh;subst Qh;have Qp:=@Jg;have Qz:=@Jt;have Qv:=@Ju;exact Zt4
 | true =>
 rw [Qd,Bool.true_and] at Qh;rcases Zn i l.length with ⟨hlt,Z6⟩|⟨hlt,Z6⟩
 ·have Qa:=Zr Kg hlt;obtain ⟨t,ht⟩:=exq (l.getD i Kg);rw [ht] at Qa Qh;rw [Z6,Bool.true_and] at Qh;obtain ⟨b1,Qc⟩:=exq ((t.kind==kd));rw [Qc] at Qh;cases b1 with
  | false =>
   rw [Bool.false_and] at Qh;subst Qh;have Qp:=@Jg;have Qz:=@Jt;have Qv:=@Ju;exact Dh
  | true =>
   rw [Bool.true_and] at Qh;have Qp:=@Jg;have Qz:=@Jt;have Qv:=@Ju;exact Dh
 ·rw [Z6,Bool.false_and] at Qh;subst Qh;have Qp:=@Jg;have Qz:=@Jt;have Qv:=@Ju;exact Zt4
theorem Ro (l:List Tok) (s:St6) (k:Int) (x:List UInt8):(s.e≠0∧Qs l s k x=s)∨(s.e=0∧Fk l s k x=false∧Qs l s k x=⟨s.at_,s.sites,2⟩)∨(s.e=0∧Fk l s k x=true∧Qs l s k x=⟨s.at_+1,s.sites,0⟩):=by
 unfold Qs;by_cases h:s.e=0
 ·rw [if_neg (by simpa using h)]
  cases hi:Fk l s k x with
  | false=>exact .inr (.inl ⟨h,rfl,by rw [if_pos rfl];unfold J8;rw [if_pos h]⟩)
  | true=>exact .inr (.inr ⟨h,rfl,by rw [if_neg (by simp)];unfold X3;rw [h]⟩)
 ·exact .inl ⟨h,if_pos h⟩
def C5:Con:=Zfe (fun (l:Sl Tok) (s:St6) (_:Int) (_:List UInt8)=>l.l.length≤1000000∧0≤s.at_∧s.at_≤2000000) (fun l s k x=>Qs l.l s k x)
theorem nX:Qq Tryz.prog (184,C5):=by
 obtain ⟨Kx,Kt,Kc,Kd,Kb,Ku,Kw,K,W4,Gd,_⟩:=X2 Z4 Zq [] false (Jh Se cR (Jh Gz Lz X1));have Ko:=C5.eq_def;refine Wh K Tryz.func184 [.cell 8 137] rfl 26 rfl (fun c hc cvs hpre=>?_);unfold C5 at hpre;obtain ⟨⟨l⟩,⟨i,ss,e⟩,kd,x,rfl,hl,hs0,hs1⟩:=Zj0 hpre;try simp only at hl hs0 hs1
 clear hpre;obtain ⟨⟨Ra,Rs,Re⟩,Qe⟩:=exq (Qs l ⟨i,ss,e⟩ kd x);have hcz:=Ro l ⟨i,ss,e⟩ kd x;rw [Qe] at hcz;simp only [St6.mk.injEq] at hcz;cases hc;rcases hcz with ⟨h1,rfl,rfl,rfl⟩|⟨rfl,Z6,rfl,rfl,rfl⟩|⟨rfl,Z6,rfl,rfl,rfl⟩
 ·have Qd:(Re != 0)=true:=bne_iff_ne.2 h1;have Qc:=@Jg;have Qh:=@Jt;have Qp:=@Ju;exact Zt4
 ·have Qa:J8 ⟨Ra,Rs,0⟩ 2=⟨Ra,Rs,2⟩:=rfl;have Qc:=@Jg;have Qh:=@Jt;have Qp:=@Ju;exact Dh
 ·have Qc:=@Jg;have Qh:=@Jt;have Qp:=@Ju;exact Dh
def Kr:Con:=Uj (fun (l:Sl Tok) (s:St6) (_:List UInt8)=>l.l.length≤1000000∧0≤s.at_∧s.at_≤2000000) (fun l s x=>Qs l.l s 5 x)
theorem P6:type_of% @Kr.eq_def:=@Kr.eq_def
theorem G9:Qq Tryz.prog (148,Kr):=by
 obtain ⟨Kx,Kt,Kc,Kd,Kb,Ku,Kw,K,W4,_⟩:=X2 Z4 Zq [] false (Jh nX C5.eq_def X1);have Ko:=P6;refine Wh K Tryz.func148 [.cell 6 137] rfl 11 rfl (fun c hc cvs hpre=>?_);unfold Kr at hpre;obtain ⟨⟨l⟩,⟨i,ss,e⟩,x,rfl,hl,hs0,hs1⟩:=Mg hpre;try simp only at hl hs0 hs1
 clear hpre;obtain ⟨⟨Ra,Rs,Re⟩,Qd⟩:=exq (Qs l ⟨i,ss,e⟩ 5 x);cases hc;have Qe:=@Jg;have Z6:=@Jt;have Qa:=@Ju;exact Dh
def C9:Con:=Uj (fun (l:Sl Tok) (s:St6) (_:List UInt8)=>l.l.length≤1000000∧0≤s.at_∧s.at_≤2000000) (fun l s x=>Qs l.l s 6 x)
theorem bZ:Qq Tryz.prog (252,C9):=by
 obtain ⟨Kx,Kt,Kc,Kd,Kb,Ku,Kw,K,W4,_⟩:=X2 Z4 Zq [] false (Jh nX C5.eq_def X1);have Ko:=C9.eq_def;refine Wh K Tryz.func252 [.cell 6 137] rfl 11 rfl (fun c hc cvs hpre=>?_);unfold C9 at hpre;obtain ⟨⟨l⟩,⟨i,ss,e⟩,x,rfl,hl,hs0,hs1⟩:=Mg hpre;try simp only at hl hs0 hs1
 clear hpre;obtain ⟨⟨Ra,Rs,Re⟩,Qd⟩:=exq (Qs l ⟨i,ss,e⟩ 6 x);cases hc;have Qe:=@Jg;have Z6:=@Jt;have Qa:=@Ju;exact Dh
theorem G7 (l:List Tok) (s:St6) (k:Int):(s.e≠0∧Jm l s k=([],s))∨(s.e=0∧(l.length:Int)≤s.at_∧Jm l s k=([],⟨s.at_,s.sites,2⟩))∨(s.e=0∧s.at_<l.length∧(tk l s.at_).kind≠k∧Jm l s k=([],⟨s.at_,s.sites,2⟩)) ∨
  (s.e=0∧s.at_<l.length∧(tk l s.at_).kind=k∧Jm l s k=((tk l s.at_).text,⟨s.at_+1,s.sites,0⟩)):=by
 unfold Jm;by_cases h:s.e=0
 ·rw [if_neg (by simpa using h)]
  by_cases h1:(l.length:Int)≤s.at_
  ·exact .inr (.inl ⟨h,h1,by rw [if_pos (.inl h1)];unfold J8;rw [if_pos h]⟩)
  ·by_cases h2:(tk l s.at_).kind=k
   ·exact .inr (.inr (.inr ⟨h,by omega,h2,by rw [if_neg (by simp only [h2];simp;omega)];unfold X3;rw [h]⟩))
   ·exact .inr (.inr (.inl ⟨h,by omega,h2,by rw [if_pos (.inr h2)];unfold J8;rw [if_pos h]⟩))
 ·exact .inl ⟨h,if_pos h⟩
def Y8:Con:=Yq (fun (l:Sl Tok) (s:St6) (_:Int)=>l.l.length≤1000000∧0≤s.at_∧s.at_≤2000000) (fun l s k=>Jm l.l s k)
theorem My:type_of% @Y8.eq_def:=@Y8.eq_def
theorem K4:Qq Tryz.prog (145,Y8):=by
 obtain ⟨Kx,Kt,Kc,Kd,Kb,Ku,Kw,K,W4,_⟩:=X2 Z4 Zq [] false (Jh Gz Lz X1);have Ko:=My;refine Wh K Tryz.func145 [.tmp 6,.cell 7 137] rfl 41 rfl (fun c hc cvs hpre=>?_);unfold Y8 at hpre;obtain ⟨⟨l⟩,⟨i,ss,e⟩,kd,rfl,hl,hs0,hs1⟩:=Mv hpre;simp only at hl hs0 hs1;clear hpre;obtain ⟨i,rfl⟩:∃ n:Nat,i=n:=⟨i.toNat,by omega⟩
 obtain ⟨⟨x,⟨Ra,Rs,Re⟩⟩,Qe⟩:=exq (Jm l ⟨i,ss,e⟩ kd);have hcz:=G7 l ⟨i,ss,e⟩ kd;rw [Qe] at hcz;simp only [St6.mk.injEq,Ze,Hp] at hcz;have Qa:J8 ⟨(i:Int),ss,0⟩ 2=⟨i,ss,2⟩:=rfl;have Qp:(i:Int)+1-1=(i:Int):=by omega
 cases hc;refine Yv 2 ?_;rcases hcz with ⟨h1,rfl,rfl,rfl,rfl⟩|⟨rfl,h2,rfl,rfl,rfl,rfl⟩|⟨rfl,h2,h3,rfl,rfl,rfl,rfl⟩|⟨rfl,h2,h3,rfl,rfl,rfl,rfl⟩
 ·have Qd:(Re != 0)=true:=bne_iff_ne.2 h1;have Qv:=@Jg;have Q4:=@Jt;have Z0:=@Ju;exact Dh
 ·have Z6:Wf (l.length:Int) (i:Int)=true:=by rw [Qx];exact h2
  have Qv:=@Jg;have Q4:=@Jt;have Z0:=@Ju;exact Zt4
 ·have Z6:Wf (l.length:Int) (i:Int)=false:=by rw [←Bool.not_eq_true,Qx];omega
  have Qc:=Zr Kg (show i<l.length by omega)
  obtain ⟨t,Qz⟩:=exq (l.getD i Kg);rw [Qz] at Qc h3;have Qh:(t.kind != kd)=true:=bne_iff_ne.2 h3;have Qv:=@Jg;have Q4:=@Jt;have Z0:=@Ju;exact Dh
 ·have Z6:Wf (l.length:Int) (i:Int)=false:=by rw [←Bool.not_eq_true,Qx];omega
  have Qc:=Zr Kg (show i<l.length by omega)
  obtain ⟨t,Qz⟩:=exq (l.getD i Kg);rw [Qz] at Qc h3 Qe;have Qh:(t.kind != kd)=false:=by rw [bne_eq_false_iff_eq];exact h3
  have Qv:=@Jg;have Q4:=@Jt;have Z0:=@Ju;exact Dh
def bN:Con:=Wr (fun (l:Sl (List UInt8)) (_:List UInt8)=>l.l.length≤1000000) (fun l x=>R0 l.l x)
structure KdB:Prop
theorem KdB.k (_:KdB) (h:p:=by
 repeat' first|exact Z1|with_reducible apply Zb|intro _
 all_goals first|with_reducible exact Qo|omega|exact ⟨k+1,by exact Qk,by omega,Eq.mpr hQ h2,by omega⟩|exact ⟨k+1,by exact Qk,by omega,fun m hm=>by have h3:=(Eq.mpr hQ h2:∀ j,j<k+1→(l.getD j []==s)=false) m hm;simpa using h3,by omega⟩|skip):p:=h
structure KdA:Prop
theorem KdA.k (_:KdA) (h:p:=by
 repeat' first|exact Z1|with_reducible apply Zb|intro _
 refine Zi [4,6,7,8,9,10,11,12,13,14,15,16,17] (fun k:Nat=>[(5,.d (.int .i64 k))]) (fun k:Nat=>[]) (fun k:Nat=>k≤l.length∧∀ j,j<k→(l.getD j []==s)=false) (fun k:Nat=>l.length-k) 0 ?_ ?_ ?_
 ·simp
 ·exact Qk
 rintro k ⟨hk,hno⟩;rcases Zn k l.length with ⟨hlt,Qd⟩|⟨hlt,Qd⟩
 ·have Qe:=Zr ([]:List UInt8) hlt;have hst:(l.getD k []==s)=false→∀ j,j<k+1→(l.getD j []==s)=false:=fun h=>Ks hno h;have hit:(l.getD k []==s)=true→R=true:=fun h=>by rw [←hR2];exact A8 (p:=fun o=>o==s) [] k hlt h
  obtain ⟨Q,hQ⟩:=exq ((∀ j,j<k+1→(l.getD j []==s)=false));rw [hQ] at hst;obtain ⟨y,hy⟩:=exq (l.getD k []);rw [hy] at Qe hst hit;cases Z6:(y==s) with
  | true =>
   have hr:=hit Z6;subst hr;exact Dh
  | false =>
   have h2:=hst Z6;have Kq:KdB:=⟨⟩;exact nN
 ·have hr:R=false:=by rw [←hR2];exact Ly (p:=fun o=>o==s) [] fun j hj=>hno j (by omega)
  subst hr;exact Zt4):p:=h
theorem good_in6:Qq Tryz.prog (146,bN):=by
 obtain ⟨Kx,Kt,Kc,Kd,Kb,Ku,Kw,K,_⟩:=X2 Z4 Zq [] false X1;have Ko:=bN.eq_def;refine Wh K Tryz.func146 [.tmp 4] rfl 18 rfl (fun c hc cvs hpre=>?_);unfold bN at hpre;obtain ⟨⟨l⟩,s,rfl,hl⟩:=Jv hpre;simp only at hl;clear hpre;obtain ⟨R,Qa⟩:=exq (R0 l s);have hR2:=Qa;unfold R0 at hR2;cases hc;have Kq:KdA:=⟨⟩;exact nN
theorem Zyg {l:List Tok} {i site v:Int} {t:List Node} {a:Int} {ss:List Site} {b e:Int} (h:U7 l i site v=(t,a,ss,b,e)):Qam l i site v=(⟨t⟩,a,⟨ss⟩,b,e):=by unfold Qam;rw [h]
theorem mG {l:List Tok} (hl:l.length≤100000) (htx:∀ t∈l,t.text.length≤9223372036854775807) {i site v:Int} (h0:0≤i) (h1:i≤l.length) (hs:1≤site) (hv1:1≤v) (hv2:v≤100) :
  0≤(U7 l i site v).2.2.2.1∧(U7 l i site v).2.2.2.1≤l.length∧((U7 l i site v).2.2.2.2=0→i+1≤(U7 l i site v).2.1∧(U7 l i site v).2.1≤l.length∧((U7 l i site v).2.2.1.length:Int)≤(U7 l i site v).2.1-i∧Y6 (U7 l i site v).1=true∧Y5 (U7 l i site v).1∧((U7 l i site v).1.length:Int)≤(U7 l i site v).2.1-i ∧
   ∀ z,Xl (Ms z) (U7 l i site v).1=if site≤z∧z<site+(U7 l i site v).2.2.1.length then 1 else 0):=by
 have hE:=Mc (l:=l) (101-v).toNat ⟨i,site,[],0⟩ (by omega) h0 h1
 have hN:=Th htx (101-v).toNat ⟨i,site,[],0⟩;unfold U7;rw [if_neg (by omega)]
 simp only [if_neg (show ¬ (l.length:Int)<i by omega)]
 obtain ⟨⟨t,q⟩,hw⟩:=exq (Xw (101-v).toNat l ⟨i,site,[],0⟩);rw [hw] at hE hN ⊢;obtain ⟨qa,qi,qs,qe⟩:=q;have hlo:=hE.lo;have hhi:=hE.hi;simp only at hlo hhi ⊢;by_cases he:qe=0
 case neg=>rw [if_pos he];exact ⟨hlo,hhi,fun h=>absurd h he⟩
 rw [if_neg (by simpa using he)]
 by_cases hb:10000<t.length
 ·rw [if_pos hb];exact ⟨h0,h1,fun h=>absurd h (show ¬ (3:Int)=0 by decide)⟩
 rw [if_neg hb];cases hr:Y6 t with
 | false=>rw [if_pos rfl];exact ⟨h0,h1,fun h=>absurd h (show ¬ (4:Int)=0 by decide)⟩
 | true =>
  rw [if_neg (by simp)]
  obtain ⟨k1,k2,k3⟩:=hE.ok he;obtain ⟨g1,g2,g3⟩:=hE.sites he;have g4:=hE.cnt he;simp only at k1 k2 g1 g2 g3 g4;have hp:1≤t.length:=by
   cases t with
   | nil=>exact absurd rfl k3
   | cons a t=>simp
  refine ⟨by show (0:Int)≤0;omega,by show (0:Int)≤l.length;omega,fun _=>⟨by show i+1≤qa;omega,k2,by show (qs.length:Int)≤qa-i;simp only [List.length_nil] at g2;omega,hr,hN,k1,fun z=>?_⟩⟩
  show Xl (Ms z) t=if site≤z∧z<site+(qs.length:Int) then 1 else 0
  rw [g4];simp only [List.length_nil] at g3;have:qi=site+(qs.length:Int):=by omega
  rw [this]
def C3:Con:=Yq (fun (l:Sl Tok) (s:St6) (v:Int)=>St6Ok l.l s∧(s.e=0→1≤v∧v≤100)) (fun l s v=>((⟨(F5 l.l s v).1⟩,(F5 l.l s v).2):Sl Node×St6))
structure KdC:Prop
theorem KdC.k (_:KdC) (h:p:=by
 repeat' first|exact Z1|with_reducible apply Zb|intro _
 all_goals first|with_reducible exact Qo|omega|exact ⟨hlen,htx⟩|exact htx|rfl|trivial|skip):p:=h
structure KdD:Prop
theorem KdD.k (_:KdD) (h:p:=by
 repeat' first|exact Z1|with_reducible apply Zb|intro _
 all_goals first|with_reducible exact Qo|omega|exact ⟨hlen,htx⟩|exact htx|rfl|trivial|skip):p:=h
theorem good_typed6:Qq Tryz.prog (224,C3):=by
 obtain ⟨Kx,Kt,Kc,Kd,Kb,Ku,Kw,K,W4,Gd,_⟩:=X2 Z4 Zq [] false (Jh Zo6 bT.eq_def (Jh Gz Lz X1));have Ko:=C3.eq_def;refine Wh K Tryz.func224 [.tmp 6,.cell 7 137] rfl 51 rfl (fun c hc cvs hpre=>?_);unfold C3 at hpre;obtain ⟨⟨l⟩,⟨i,ss,e⟩,v,rfl,hS,hv⟩:=Mv hpre;simp only at hS hv;clear hpre;have hlen:=hS.len;have hlo:=hS.lo;have hhi:=hS.hi;have hss:=hS.sites;have htx:=hS.long;simp only at hlo hhi hss;obtain ⟨⟨Rt,⟨Ra,Rs,Re⟩⟩,Qe⟩:=exq (F5 l ⟨i,ss,e⟩ v);have hR2:=Qe;unfold F5 at hR2;simp only at hR2;have Z6:(ss.map (enc:Site→D)).length=ss.length:=Zo ..;cases hc;refine Yv 3 ?_;by_cases he:e=0
 case neg =>
  rw [if_pos he] at hR2;have Qd:(e != 0)=true:=bne_iff_ne.2 he;simp only [Ze,St6.mk.injEq] at hR2;obtain ⟨rfl,rfl,rfl,rfl⟩:=hR2;have Q4:=@Jg;have Z0:=@Jt;have Z3:=@Ju;exact Dh
 have Qd:(e != 0)=false:=by rw [he];rfl
 rw [if_neg (by simpa using he)] at hR2
 obtain ⟨hv1,hv2⟩:=hv he;have hF:=mG hlen htx hlo hhi (site:=(ss.length:Int)+1) (by omega) hv1 hv2
 obtain ⟨⟨t,a,qs,bad,re⟩,hr⟩:=exq (U7 l i ((ss.length:Int)+1) v);rw [hr] at hR2 hF;have Qa:=Zyg hr;simp only at hR2 hF;obtain ⟨hF1,hF2,hF3⟩:=hF;by_cases hre:re=0
 case neg =>
  rw [if_pos hre] at hR2;have Qc:(re != 0)=true:=bne_iff_ne.2 hre;simp only [Ze,St6.mk.injEq] at hR2;obtain ⟨rfl,rfl,rfl,rfl⟩:=hR2;have Qh:J8 ⟨bad,ss,e⟩ re=⟨bad,ss,re⟩:=by unfold J8;rw [if_pos he]
  have Q4:=@Zjz.eq_def;have Z0:=@Jg;have Z3:=@Jt;have Zz:=@Ju;have Kq:KdC:=⟨⟩;exact nN
 have Qc:(re != 0)=false:=by rw [hre];rfl
 rw [if_neg (by simpa using hre)] at hR2
 obtain ⟨f1,f2,f3,-⟩:=hF3 hre;simp only [Ze,St6.mk.injEq] at hR2;obtain ⟨rfl,rfl,hRs,rfl⟩:=hR2;have Qz:ss.map (enc:Site→D)++qs.map enc=Rs.map enc:=by rw [←hRs,List.map_append]
 have Qv:(Rs.map (enc:Site→D)).length=ss.length+qs.length:=by rw [←hRs,Zo,Zh]
 have Qp:(qs.map (enc:Site→D)).length=qs.length:=Zo ..;clear hRs;have Q4:=@Zjz.eq_def;have Z0:=@Jg;have Z3:=@Jt;have Zz:=@Ju;have Kq:KdD:=⟨⟩;exact nN
def Po:Con:=Yq (fun (l:Sl Tok) (s:St6) (v:Int)=>St6Ok l.l s∧(s.e=0→1≤s.at_∧1≤v∧v≤100)) (fun l s v=>((⟨(G6 l.l s v).1⟩,(G6 l.l s v).2):Sl Node×St6))
theorem D8:Qq Tryz.prog (185,Po):=by
 obtain ⟨Kx,Kt,Kc,Kd,Kb,Ku,Kw,K,W4,Gd,_⟩:=X2 Z4 Zq [] false (Jh good_typed6 C3.eq_def (Jh Se cR X1));have Ko:=Po.eq_def;refine Wh K Tryz.func185 [.tmp 6,.cell 7 137] rfl 52 rfl (fun c hc cvs hpre=>?_);unfold Po at hpre;obtain ⟨⟨l⟩,⟨i,ss,e⟩,v,rfl,hS,hv⟩:=Mv hpre;simp only at hS hv;clear hpre;have hlen:=hS.len;have hlo:=hS.lo;have hhi:=hS.hi;have hss:=hS.sites;have htx:=hS.txt;simp only at hlo hhi hss;obtain ⟨⟨Rt,⟨Ra,Rs,Re⟩⟩,Qe⟩:=exq (G6 l ⟨i,ss,e⟩ v);have Qa:=Qe;unfold G6 at Qa;simp only at Qa;have Qc:(ss.map (enc:Site→D)).length=ss.length:=Zo ..;cases hc;refine Yv 3 ?_;by_cases he:e=0
 case neg =>
  rw [if_pos he] at Qa;have Qd:(e != 0)=true:=bne_iff_ne.2 he;simp only [Ze,St6.mk.injEq] at Qa;obtain ⟨rfl,rfl,rfl,rfl⟩:=Qa;have Q4:=@Jg;have Z0:=@Jt;have Z3:=@Ju;exact Dh
 have Qd:(e != 0)=false:=by rw [he];rfl
 rw [if_neg (by simpa using he)] at Qa
 obtain ⟨hi1,hv1,hv2⟩:=hv he;cases Z6:Fk l ⟨i,ss,e⟩ 5 [58] with
 | true =>
  rw [Z6,if_pos rfl] at Qa;have hlt:i<l.length:=by
   unfold Fk at Z6;simp only [Zk,Xa] at Z6;exact Z6.2.1
  have hadv:X3 ⟨i,ss,e⟩=⟨i+1,ss,e⟩:=rfl;rw [hadv] at Qa;have hok:St6Ok l ⟨i+1,ss,e⟩:=⟨hlen,by show 0≤i+1;omega,by show i+1≤_;omega,hss,htx,hS.fig⟩
  have hvv:e=0→1≤v∧v≤100:=fun _=>⟨hv1,hv2⟩;have Q4:=@Jg;have Z0:=@Jt;have Z3:=@Ju;exact Dh
 | false =>
  rw [Z6,if_neg (by simp)] at Qa
  obtain ⟨i,rfl⟩:∃ n:Nat,i=n:=⟨i.toNat,by omega⟩
  have Qh:(i:Int)-1=((i-1:Nat):Int):=by omega
  have Qp:=Zr Kg (show i-1<l.length by omega)
  rw [Qh,Hp] at Qa;obtain ⟨t,ht⟩:=exq (l.getD (i-1) Kg);rw [ht] at Qp Qa;simp only [Ze,St6.mk.injEq] at Qa;obtain ⟨rfl,rfl,hRs,rfl⟩:=Qa;have Qz:ss.map (enc:Site→D)++[.agg [.int .i64 t.to,.int .i64 t.to,.bool true]]=Rs.map enc:=by rw [←hRs,List.map_append];rfl
  have Qv:(Rs.map (enc:Site→D)).length=ss.length+1:=by rw [←hRs,Zo,Zh];rfl
  have hRs2:(Rs.length:Int)=(ss.length:Int)+1:=by rw [←hRs,Zh];rfl
  clear hRs;have Q4:=@Jg;have Z0:=@Jt;have Z3:=@Ju;exact Dh
def Bw (l:List (Sl Part)):List Part:=l.flatMap fun x=>x.l
def Wu (p:Part) (l:List (Sl Part)):List Part:=p::Bw l
theorem Zpa {l:List (Sl Part)} {k:Nat} (h:k<l.length):Bw (l.take (k+1))=Bw (l.take k)++(l.getD k ⟨[]⟩).l:=by
 unfold Bw;rw [Km (⟨[]⟩:Sl Part) h,List.flatMap_append];simp
theorem Zs5 {l:List (Sl Part)} (h:∀ x∈l,x.l.length≤1000000):(Bw l).length≤1000000*l.length:=by
 induction l with
 | nil=>exact Zl _
 | cons x l ih =>
  have:=ih fun y hy=>h y (List.mem_cons_of_mem _ hy);have hx:=h x (by simp)
  unfold Bw at this ⊢;rw [List.flatMap_cons,Zh,Zj];omega
def Fu {A B E:Type} [Enc A] [Enc B] [Enc E] [Sz E] (p:A→B→Prop) (f:A→B→List E):Con:=⟨[false,false],[true],fun c=>match c with
 | [.d x,.d y]=>K3 A x∧K3 B y∧p (dec x) (dec y)
 | _=>False,fun c=>match c with
 | [.d x,.d y]=>.own (Sz.sz E) ((f (dec x) (dec y)).map enc)
 | _=>.d .nilp⟩
theorem Zte {A B E:Type} [Enc A] [Enc B] [Enc E] [Sz E] {p:A→B→Prop} {f:A→B→List E} {c:List CV} (h:(Fu p f).pre c):∃ a b,c=[.d (enc a),.d (enc b)]∧p a b:=by
 unfold Fu at h;simp only at h;split at h
 ·next x y=>exact ⟨dec x,dec y,by rw [←h.1,←h.2.1],h.2.2⟩
 ·exact h.elim
def M1 {A B C E S:Type} [Enc A] [Enc B] [Enc C] [Enc E] [Sz E] [Enc S] (p:A→B→C→Prop) (f:A→B→C→List E×S):Con:=⟨[false,false,false],[true,false],fun c=>match c with
 | [.d x,.d y,.d z]=>K3 A x∧K3 B y∧K3 C z∧p (dec x) (dec y) (dec z)
 | _=>False,fun c=>match c with
 | [.d x,.d y,.d z]=>.tup [.own (Sz.sz E) ((f (dec x) (dec y) (dec z)).1.map enc),.d (enc (f (dec x) (dec y) (dec z)).2)]
 | _=>.d .nilp⟩
theorem Xe {A B C E S:Type} [Enc A] [Enc B] [Enc C] [Enc E] [Sz E] [Enc S] {p:A→B→C→Prop} {f:A→B→C→List E×S} {c:List CV} (h:(M1 p f).pre c):∃ a b d,c=[.d (enc a),.d (enc b),.d (enc d)]∧p a b d:=by
 unfold M1 at h;simp only at h;split at h
 ·next x y z=>exact ⟨dec x,dec y,dec z,by rw [←h.1,←h.2.1,←h.2.2.1],h.2.2.2⟩
 ·exact h.elim
def Zm3 {A B C D' E S:Type} [Enc A] [Enc B] [Enc C] [Enc D'] [Enc E] [Sz E] [Enc S] (p:A→B→C→D'→Prop) (f:A→B→C→D'→List E×S):Con:=⟨[false,false,false,false],[true,false],fun c=>match c with
 | [.d x,.d y,.d z,.d w]=>K3 A x∧K3 B y∧K3 C z∧K3 D' w∧p (dec x) (dec y) (dec z) (dec w)
 | _=>False,fun c=>match c with
 | [.d x,.d y,.d z,.d w]=>.tup [.own (Sz.sz E) ((f (dec x) (dec y) (dec z) (dec w)).1.map enc),.d (enc (f (dec x) (dec y) (dec z) (dec w)).2)]
 | _=>.d .nilp⟩
theorem Zm2 {A B C D' E S:Type} [Enc A] [Enc B] [Enc C] [Enc D'] [Enc E] [Sz E] [Enc S] {p:A→B→C→D'→Prop} {f:A→B→C→D'→List E×S} {c:List CV} (h:(Zm3 p f).pre c):∃ a b d e,c=[.d (enc a),.d (enc b),.d (enc d),.d (enc e)]∧p a b d e:=by
 unfold Zm3 at h;simp only at h;split at h
 ·next x y z w=>exact ⟨dec x,dec y,dec z,dec w,by rw [←h.1,←h.2.1,←h.2.2.1,←h.2.2.2.1],h.2.2.2.2⟩
 ·exact h.elim
def Us:Con:=Fu (fun (_:Part) (l:Sl (Sl Part))=>l.l.length≤10∧∀ x∈l.l,x.l.length≤1000000) (fun p l=>Wu p l.l)
theorem Hr:type_of% @Us.eq_def:=@Us.eq_def
structure KdF:Prop
theorem KdF.k (_:KdF) (h:p:=by
 repeat' first|exact Z1|with_reducible apply Zb|intro _
 all_goals first|with_reducible exact Qo|omega|exact ⟨k+1,by (have Um:=hl2;have Ix:=hP1l;exact Qk)<;>omega,by omega,by omega⟩|skip):p:=h
structure KdE:Prop
theorem KdE.k (_:KdE) (h:p:=by
 repeat' first|exact Z1|with_reducible apply Zb|intro _
 refine Zi [9,10,11,12,13,14,15,16,17,18,19,20] (fun k:Nat=>[(5,.sl 8 ((p::Bw (l.take k)).map (enc:Part→D)).length),(6,.d (.int .i64 k))]) (fun k:Nat=>[(8,.row 8 ((p::Bw (l.take k)).map enc) 0)]) (fun k:Nat=>k≤l.length) (fun k:Nat=>l.length-k) 0 ?_ ?_ ?_
 ·omega
 ·have Um:=@Bw.eq_1;have Ix:=@Qb;exact Qk
 rintro k hk;have hb:=hbound k;rcases Zn k l.length with ⟨hlt,Qd⟩|⟨hlt,Qd⟩
 ·have Qe:=Zr (⟨[]⟩:Sl Part) hlt;have hS:=Zpa hlt;have hx2:=hL (l.getD k ⟨[]⟩) (by simp [hlt])
  obtain ⟨⟨x⟩,hx⟩:=exq (l.getD k ⟨[]⟩);rw [hx] at Qe hS hx2;simp only at hS hx2;obtain ⟨P,hP⟩:=exq (Bw (l.take k));rw [hP] at hb hS;rw [hP];have Z6:(p::P).map (enc:Part→D)++x.map enc=(p::Bw (l.take (k+1))).map enc:=by rw [hS,←List.map_append,List.cons_append]
  have Qa:((p::P).map (enc:Part→D)).length=P.length+1:=by simp
  have hl2:(Bw (l.take (k+1))).length=P.length+x.length:=by rw [hS,Zh]
  have Qc:(x.map (enc:Part→D)).length=x.length:=Zo ..;obtain ⟨P1,hP1⟩:=exq (p::P);have hP1l:P1.length=P.length+1:=by rw [←hP1];rfl
  rw [hP1] at Z6 Qa;rw [hP1];have Kq:KdF:=⟨⟩;exact nN
 ·have hke:k=l.length:=by omega
  rw [hke,List.take_length];rw [hke] at Qd;have hm:p::Bw l=R:=by rw [←Qh];rfl
  rw [hm];have Qp:=@Fu.eq_def;exact Zt4):p:=h
theorem good_made6:Qq Tryz.prog (251,Us):=by
 obtain ⟨Kx,Kt,Kc,Kd,Kb,Ku,Kw,K,_⟩:=X2 Z4 Zq [] false X1;have Ko:=Hr;refine Wh K Tryz.func251 [.tmp 4] rfl 22 rfl (fun c hc cvs hpre=>?_);unfold Us at hpre;obtain ⟨p,⟨l⟩,rfl,hl,hL⟩:=Zte hpre;simp only at hl hL;clear hpre;obtain ⟨R,Qh⟩:=exq (Wu p l);have hbound:∀ k,(Bw (l.take k)).length≤10000000:=fun k=>by
  have:=Zs5 (l:=l.take k) fun x hx=>hL x (List.mem_of_mem_take hx);rw [List.length_take] at this;omega
 cases hc;have Qp:=@Fu.eq_def;have Kq:KdE:=⟨⟩;exact nN
def oK {A B C E R S:Type} [Enc A] [Enc B] [Enc C] [Enc E] [Enc R] [Enc S] (p:A→B→C→E→Prop) (f:A→B→C→E→R×S):Con:=⟨[false,false,false,false],[false,false],fun c=>match c with
 | [.d x,.d y,.d z,.d w]=>K3 A x∧K3 B y∧K3 C z∧K3 E w∧p (dec x) (dec y) (dec z) (dec w)
 | _=>False,fun c=>match c with
 | [.d x,.d y,.d z,.d w]=>.tup [.d (enc (f (dec x) (dec y) (dec z) (dec w)).1),.d (enc (f (dec x) (dec y) (dec z) (dec w)).2)]
 | _=>.d .nilp⟩
theorem Zvj {A B C E R S:Type} [Enc A] [Enc B] [Enc C] [Enc E] [Enc R] [Enc S] {p:A→B→C→E→Prop} {f:A→B→C→E→R×S} {c:List CV} (h:(oK p f).pre c):∃ a b d e,c=[.d (enc a),.d (enc b),.d (enc d),.d (enc e)]∧p a b d e:=by
 unfold oK at h;simp only at h;split at h
 ·next x y z w=>exact ⟨dec x,dec y,dec z,dec w,by rw [←h.1,←h.2.1,←h.2.2.1,←h.2.2.2.1],h.2.2.2.2⟩
 ·exact h.elim
def Yc (l:List Tok) (s:St6) (k:Int) (had:List (List UInt8)):List UInt8×St6 :=
 if (Jm l s k).2.e≠0 then Jm l s k
 else if R0 had (Jm l s k).1=true then ((Jm l s k).1,⟨s.at_,s.sites,7⟩)
 else if 50≤had.length then ((Jm l s k).1,⟨s.at_,s.sites,3⟩)
 else Jm l s k
def C8:Con:=oK (fun (l:Sl Tok) (s:St6) (_:Int) (had:Sl (List UInt8))=>(l.l.length≤1000000∧0≤s.at_∧s.at_≤2000000)∧had.l.length≤1000000) (fun l s k had=>Yc l.l s k had.l)
theorem nY:Qq Tryz.prog (253,C8):=by
 obtain ⟨Kx,Kt,Kc,Kd,Kb,Ku,Kw,K,W4,Gd,M4,_⟩:=X2 Z4 Zq [] false (Jh K4 My (Jh good_in6 bN.eq_def (Jh Gz Lz X1)));have Ko:=C8.eq_def;refine Wh K Tryz.func253 [.tmp 8,.cell 9 137] rfl 38 rfl (fun c hc cvs hpre=>?_);unfold C8 at hpre;obtain ⟨⟨l⟩,⟨i,ss,e⟩,kd,⟨had⟩,rfl,⟨hl,hs0,hs1⟩,hh⟩:=Zvj hpre;simp only at hl hs0 hs1 hh;clear hpre;obtain ⟨⟨Rx,⟨Ra,Rs,Re⟩⟩,Z6⟩:=exq (Yc l ⟨i,ss,e⟩ kd had);have hR2:=Z6;unfold Yc at hR2;have hcz:=G7 l ⟨i,ss,e⟩ kd;obtain ⟨⟨x,q⟩,Qd⟩:=exq (Jm l ⟨i,ss,e⟩ kd);rw [Qd] at hR2 hcz;obtain ⟨qa,qs,qe⟩:=q;simp only at hR2;have he0:qe=0→e=0:=fun h=>by
  rcases hcz with ⟨h1,h2⟩|⟨h1,_⟩|⟨h1,_⟩|⟨h1,_⟩
  ·simp only [Ze,St6.mk.injEq] at h2;rw [←h2.2.2.2];exact h
  ·exact h1
  ·exact h1
  ·exact h1
 clear hcz;cases hc;refine Yv 2 ?_;by_cases hq:qe=0
 case neg =>
  rw [if_pos hq] at hR2;have Qe:(qe != 0)=true:=bne_iff_ne.2 hq;simp only [Ze,St6.mk.injEq] at hR2;obtain ⟨rfl,rfl,rfl,rfl⟩:=hR2;have Qz:=@oK.eq_def;have Qv:=@Jg;have Q4:=@Jt;have Z0:=@Ju;exact Dh
 have Qe:(qe != 0)=false:=by rw [hq];rfl
 have he:=he0 hq;subst he;rw [if_neg (by simpa using hq)] at hR2
 have Qc:J8 ⟨i,ss,0⟩ 7=⟨i,ss,7⟩:=rfl;have Qp:J8 ⟨i,ss,0⟩ 3=⟨i,ss,3⟩:=rfl;cases Qa:R0 had x with
 | true =>
  rw [Qa,if_pos rfl] at hR2;simp only [Ze,St6.mk.injEq] at hR2;obtain ⟨rfl,rfl,rfl,rfl⟩:=hR2;have Qz:=@oK.eq_def;have Qv:=@Jg;have Q4:=@Jt;have Z0:=@Ju;exact Dh
 | false =>
  rw [Qa,if_neg (by simp)] at hR2
  by_cases h50:50≤had.length
  ·rw [if_pos h50] at hR2;have Qh:Wf 50 (had.length:Int)=true:=by rw [Qx];omega
   simp only [Ze,St6.mk.injEq] at hR2;obtain ⟨rfl,rfl,rfl,rfl⟩:=hR2;have Qz:=@oK.eq_def;have Qv:=@Jg;have Q4:=@Jt;have Z0:=@Ju;exact Dh
  ·rw [if_neg h50] at hR2;have Qh:Wf 50 (had.length:Int)=false:=by rw [←Bool.not_eq_true,Qx];omega
   simp only [Ze,St6.mk.injEq] at hR2;obtain ⟨rfl,rfl,rfl,rfl⟩:=hR2;have Qz:=@oK.eq_def;have Qv:=@Jg;have Q4:=@Jt;have Z0:=@Ju;exact Dh
def Qau (t:Tok):Bool :=
 if t.kind=1∨t.kind=3∨t.kind=4 then true
 else if t.kind=6 then (t.text==[116,114,117,101])||(t.text==[102,97,108,115,101])
 else if t.kind=5 then (t.text==[40])||((t.text==[123])||(t.text==[91]))
 else false
def Mw (l:List Tok) (s:St6):Bool:=if s.e≠0∨(l.length:Int)≤s.at_ then false else Qau (tk l s.at_)
def So:Con:=Wr (fun (l:Sl Tok) (s:St6)=>l.l.length≤1000000∧0≤s.at_) (fun l s=>Mw l.l s)
structure KdG:Prop
theorem KdG.k (_:KdG) (h:p:=by
 repeat' first|exact Z1|with_reducible apply Zb|intro _
 all_goals first|with_reducible exact Qo|omega|(rw [←hR2];clear hR2 Qe K Qa ht;simp_all;done)|(symm;rw [←hR2];clear hR2 Qe K Qa ht;simp_all;done)|(rename_i h1 h2;rw [←hR2,if_neg (by omega),if_neg (by omega),if_pos (by assumption),Za.2 h1,Za.2 h2];rfl)|trivial|skip):p:=h
theorem good_begins6:Qq Tryz.prog (261,So):=by
 obtain ⟨Kx,Kt,Kc,Kd,Kb,Ku,Kw,K,_⟩:=X2 Z4 Zq [] false X1;have Ko:=So.eq_def;refine Wh K Tryz.func261 [.tmp 4] rfl 52 rfl (fun c hc cvs hpre=>?_);unfold So at hpre;obtain ⟨⟨l⟩,⟨i,ss,e⟩,rfl,hl,hs0⟩:=Jv hpre;simp only at hl hs0;clear hpre;obtain ⟨i,rfl⟩:∃ n:Nat,i=n:=⟨i.toNat,by omega⟩
 obtain ⟨R,Qe⟩:=exq (Mw l ⟨i,ss,e⟩);have hR2:=Qe;unfold Mw at hR2;simp only [Hp] at hR2;cases hc;refine Yv 3 ?_;by_cases he:e=0
 case neg =>
  rw [if_pos (.inl he)] at hR2;have Qd:(e != 0)=true:=bne_iff_ne.2 he;subst hR2;have Qc:=@Jg;have Qh:=@Jt;have Qp:=@Ju;exact Zt4
 have Qd:(e != 0)=false:=by rw [he];rfl
 by_cases hlt:(l.length:Int)≤(i:Int)
 ·rw [if_pos (.inr hlt)] at hR2;have Z6:Wf (l.length:Int) (i:Int)=true:=by rw [Qx];exact hlt
  subst hR2;have Qc:=@Jg;have Qh:=@Jt;have Qp:=@Ju;exact Zt4
 rw [if_neg (by simp only [he];simp;omega)] at hR2
 have Z6:Wf (l.length:Int) (i:Int)=false:=by rw [←Bool.not_eq_true,Qx];exact hlt
 have Qa:=Zr Kg (show i<l.length by omega)
 obtain ⟨t,ht⟩:=exq (l.getD i Kg);rw [ht] at Qa hR2;unfold Qau at hR2;have Qc:=@Jg;have Qh:=@Jt;have Qp:=@Ju;have Kq:KdG:=⟨⟩;exact nN
def Rd (b:Int):List (List UInt8):=if b=0 then [[124,124]] else if b=1 then [[38,38]] else if b=2 then [[60],[61,61]] else if b=3 then [[43],[45],[43,43]] else [[42],[47]]
def Ai:Con:=Xj (fun (_:Int)=>True) (fun b=>Sl.mk (Rd b))
structure KdH:Prop
theorem KdH.k (_:KdH) (h:p:=by
 repeat' first|exact Z1|with_reducible apply Zb|intro _
 all_goals first|with_reducible exact Qo|(rw [←hR2];simp_all;done)|(rw [←hR2];simp_all;rfl)|(rw [←hR2,if_pos (by assumption)];rfl)|(rw [←hR2,if_neg (by assumption),if_pos (by assumption)];rfl)|(rw [←hR2,if_neg (by assumption),if_neg (by assumption),if_pos (by assumption)];rfl)|(rw [←hR2,if_neg (by assumption),if_neg (by assumption),if_neg (by assumption),if_pos (by assumption)];rfl)|(rw [←hR2,if_neg (by assumption),if_neg (by assumption),if_neg (by assumption),if_neg (by assumption)];rfl)|skip):p:=h
theorem good_signs6:Qq Tryz.prog (255,Ai):=by
 obtain ⟨Kx,Kt,Kc,Kd,Kb,Ku,Kw,K,_⟩:=X2 Z4 Zq [] false X1;have Ko:=Ai.eq_def;refine Wh K Tryz.func255 [.tmp 2] rfl 17 rfl (fun c hc cvs hpre=>?_);unfold Ai at hpre;obtain ⟨b,rfl,-⟩:=Jr hpre;clear hpre;obtain ⟨R,Qd⟩:=exq (Rd b);have hR2:=Qd;unfold Rd at hR2;cases hc;have Kq:KdH:=⟨⟩;exact nN
def Zwy:List UInt8→Int→Int
 | [],n=>n
 | c::r,n=>Zwy r (10*n+((c.toNat:Int)-48))
def gY (s:List UInt8):Int:=Zwy s 0
theorem Zyn {c:UInt8} (h:Wn c=true):48≤c.toNat∧c.toNat≤57:=by
 unfold Wn Wv at h;simp only [Zk,decide_eq_true_eq,UInt8.le_iff_toNat_le] at h;exact h
def Ec:Con:=Xj (fun (s:List UInt8)=>Zy8 s) (fun s=>gY s)
structure KdJ:Prop
theorem KdJ.k (_:KdJ) (h:p:=by
 repeat' first|exact Z1|with_reducible apply Zb|intro _
 all_goals first|with_reducible exact Qo|omega|(rw [Zjl];omega)|(rw [Xy];omega)|exact ⟨(k+1,10*n+((d.toNat:Int)-48)),by exact Qk,by simp only;omega,by simp only;omega,hb,h4,by simp only;omega⟩|skip):p:=h
structure KdI:Prop
theorem KdI.k (_:KdI) (h:p:=by
 repeat' first|exact Z1|with_reducible apply Zb|intro _
 refine Zi [5,6,7,8,9,10,11,12,13,14,15,16,17,18] (fun p:Nat×Int=>[(3,.d (.int .i64 p.2)),(4,.d (.int .i64 p.1))]) (fun p:Nat×Int=>[]) (fun p:Nat×Int=>p.1≤s.length∧0≤p.2∧p.2<10 ^ p.1∧Zwy (s.drop p.1) p.2=R) (fun p:Nat×Int=>s.length-p.1) (0,0) ?_ ?_ ?_
 ·exact ⟨by simp,by simp,by simp,hR2⟩
 ·exact Qk
 rintro ⟨k,n⟩ ⟨h1,h2,h3,h4⟩;simp only at h1 h2 h3 h4;rcases Zn k s.length with ⟨hlt,Qd⟩|⟨hlt,Qd⟩
 ·rw [B8 hlt,Zwy] at h4;have hc48:=Zyn (hf (s.getD k 0) (by simp [hlt]))
  obtain ⟨d,Qe⟩:=exq (s.getD k 0);rw [Qe] at h4 hc48;have hp:(10:Int) ^ (k+1)=10*10 ^ k:=by rw [Int.pow_succ];omega
  have hp2:(10:Int) ^ (k+1)≤1000000000000000000:=by
   have Qc:(10:Nat) ^ (k+1)≤10 ^ 18:=Nat.pow_le_pow_right (by omega) (by omega)
   have h6:((10 ^ (k+1):Nat):Int)≤((10 ^ 18:Nat):Int):=by exact_mod_cast Qc
   simpa using h6
  have hb:10*n+((d.toNat:Int)-48)<10 ^ (k+1):=by rw [hp];omega
  have hn10:10*n≤1000000000000000000:=by omega
  have Kq:KdJ:=⟨⟩;exact nN
 ·have hke:s.drop k=[]:=List.drop_eq_nil_of_le hlt;rw [hke] at h4;have Qc:n=R:=h4;exact Zt4):p:=h
theorem good_number6:Qq Tryz.prog (270,Ec):=by
 obtain ⟨Kx,Kt,Kc,Kd,Kb,Ku,Kw,K,_⟩:=X2 Z4 Zq [] false X1;have Ko:=Ec.eq_def;refine Wh K Tryz.func270 [.tmp 2] rfl 20 rfl (fun c hc cvs hpre=>?_);unfold Ec at hpre;obtain ⟨s,rfl,hs,hf⟩:=Jr hpre;clear hpre;obtain ⟨R,Qa⟩:=exq (gY s);have hR2:=Qa;unfold gY at hR2;have Z6:((48:UInt8).toNat:Int)=48:=rfl;cases hc;have Kq:KdI:=⟨⟩;exact nN
def aJ {A B C R S T:Type} [Enc A] [Enc B] [Enc C] [Enc R] [Enc S] [Enc T] (p:A→B→C→Prop) (f:A→B→C→R×S×T):Con:=⟨[false,false,false],[false,false,false],fun c=>match c with
 | [.d x,.d y,.d z]=>K3 A x∧K3 B y∧K3 C z∧p (dec x) (dec y) (dec z)
 | _=>False,fun c=>match c with
 | [.d x,.d y,.d z]=>.tup [.d (enc (f (dec x) (dec y) (dec z)).1),.d (enc (f (dec x) (dec y) (dec z)).2.1),.d (enc (f (dec x) (dec y) (dec z)).2.2)]
 | _=>.d .nilp⟩
theorem Ztf {A B C R S T:Type} [Enc A] [Enc B] [Enc C] [Enc R] [Enc S] [Enc T] {p:A→B→C→Prop} {f:A→B→C→R×S×T} {c:List CV} (h:(aJ p f).pre c):∃ a b d,c=[.d (enc a),.d (enc b),.d (enc d)]∧p a b d:=by
 unfold aJ at h;simp only at h;split at h
 ·next x y z=>exact ⟨dec x,dec y,dec z,by rw [←h.1,←h.2.1,←h.2.2.1],h.2.2.2⟩
 ·exact h.elim
def Pr (l:List Tok) (s:St6) (v:Int):List UInt8×List Node×St6:=((Jm l s 1).1,(G6 l (Jm l s 1).2 v).1,(G6 l (Jm l s 1).2 v).2)
theorem Zsg {l:List Tok} {s:St6} (h:St6Ok l s) (k:Int):St6Ok l (Jm l s k).2∧((Jm l s k).2.e=0→s.e=0∧(Jm l s k).2.at_=s.at_+1∧(Jm l s k).2.sites=s.sites):=by
 rcases G7 l s k with ⟨h1,h2⟩|⟨h1,_,h2⟩|⟨h1,_,_,h2⟩|⟨h1,h3,_,h2⟩
 ·rw [h2];exact ⟨h,fun e=>absurd e h1⟩
 ·rw [h2];exact ⟨⟨h.len,h.lo,h.hi,h.sites,h.txt,h.fig⟩,fun e=>absurd e (by show ¬ (2:Int)=0;decide)⟩
 ·rw [h2];exact ⟨⟨h.len,h.lo,h.hi,h.sites,h.txt,h.fig⟩,fun e=>absurd e (by show ¬ (2:Int)=0;decide)⟩
 ·rw [h2];have:=h.lo;exact ⟨⟨h.len,by show 0≤s.at_+1;omega,by show s.at_+1≤_;omega,h.sites,h.txt,h.fig⟩,fun _=>⟨h1,rfl,rfl⟩⟩
def Lf:Con:=aJ (fun (l:Sl Tok) (s:St6) (v:Int)=>St6Ok l.l s∧(s.e=0→1≤v∧v≤100)) (fun l s v=>(((Pr l.l s v).1,⟨(Pr l.l s v).2.1⟩,(Pr l.l s v).2.2):List UInt8×Sl Node×St6))
theorem Ou:Qq Tryz.prog (250,Lf):=by
 obtain ⟨Kx,Kt,Kc,Kd,Kb,Ku,Kw,K,W4,Gd,_⟩:=X2 Z4 Zq [] false (Jh K4 My (Jh D8 Po.eq_def X1));have Ko:=Lf.eq_def;refine Wh K Tryz.func250 [.tmp 6,.tmp 7,.cell 8 137] rfl 27 rfl (fun c hc cvs hpre=>?_);unfold Lf at hpre;obtain ⟨⟨l⟩,⟨i,ss,e⟩,v,rfl,hS,hv⟩:=Ztf hpre;simp only at hS hv;clear hpre;have hlen:=hS.len;have hlo:=hS.lo;have hhi:=hS.hi;simp only at hlo hhi;obtain ⟨⟨Rx,Rt,⟨Ra,Rs,Re⟩⟩,Z6⟩:=exq (Pr l ⟨i,ss,e⟩ v);have hR2:=Z6;unfold Pr at hR2;obtain ⟨hok,hgo⟩:=Zsg hS 1;obtain ⟨⟨x,⟨qa,qs,qe⟩⟩,Qd⟩:=exq (Jm l ⟨i,ss,e⟩ 1);rw [Qd] at hR2 hok hgo;simp only at hR2 hok hgo;have hvv:qe=0→1≤qa∧1≤v∧v≤100:=fun h=>by
  obtain ⟨g1,g2,_⟩:=hgo h;have:=hv g1;omega
 obtain ⟨⟨t,⟨ma,ms,me⟩⟩,Qe⟩:=exq (G6 l ⟨qa,qs,qe⟩ v);rw [Qe] at hR2;simp only [Ze,St6.mk.injEq] at hR2;obtain ⟨rfl,rfl,rfl,rfl,rfl⟩:=hR2;cases hc;have Qa:=@aJ.eq_def;have Qc:=@Jg;have Qh:=@Jt;have Qp:=@Ju;exact Dh
end Go.Am.Ty
