/- Contracts of functions that the law reaches, and plain laws. Conditions: those that each contract states. -/
import Derived.Test.YtilpfkjhahnfaaaGreatK9
set_option maxHeartbeats 8000000
set_option linter.unusedVariables false
set_option linter.unusedSimpArgs false
set_option maxRecDepth 100000
namespace Go.Am.Ty
open Go.Proofs Gr
open Enc (enc dec)
def Rl:Con:=Wc (fun (a b:Sl Mod6)=>(Lo a.l.length∧∀ m∈a.l,In6 m)∧Lo b.l.length∧∀ m∈b.l,In6 m) (fun a b=>a.l==b.l)
structure w625k:Prop
theorem w625k.k (_:w625k) {p:Prop} (h:p:=by
 repeat' first|exact Qg|with_reducible apply And.intro|intro _
 all_goals first|with_reducible exact Jf|omega|exact x1|exact y1|exact ⟨k+1,by exact Qy,by omega,h2,by omega⟩|skip):p:=h
structure w624k:Prop
theorem w624k.k (_:w624k) {p:Prop} (h:p:=by
 repeat' first|exact Qg|with_reducible apply And.intro|intro _
 refine Zh [4,11,12,13,14,15,16,17,18,19,20,21,22,23,24,25,26] (fun k:Nat=>[(5,.d (.int .i64 k))]) (fun k:Nat=>[]) (fun k:Nat=>k≤a.length∧∀ j,j<k→a.getD j Jl=b.getD j Jl) (fun k:Nat=>a.length-k) 0 ?_ ?_ ?_
 ·exact ⟨by omega,fun j hj=>absurd hj (Nat.not_lt_zero j)⟩
 ·exact Qy
 rintro k ⟨hk,hno⟩;rcases Zl k a.length with ⟨hlt,Z2⟩|⟨hlt,Z2⟩
 ·have Qd:=Zo Jl hlt;have Z5:=Zo Jl (show k<b.length by omega)
  have hst:a.getD k Jl=b.getD k Jl→∀ j,j<k+1→a.getD j Jl=b.getD j Jl:=fun h=>U7 hno h;have hbad:a.getD k Jl≠b.getD k Jl→(a==b)=false:=by
   intro h;rw [Zf];intro e;exact h (by rw [e])
  have x1:=ha2 (a.getD k Jl) (by simp [hlt])
  have y1:=hb2 (b.getD k Jl) (by simp [show k<b.length by omega])
  obtain ⟨x,hx⟩:=exq (a.getD k Jl);obtain ⟨y,hy⟩:=exq (b.getD k Jl);rw [hx] at Qd hst hbad x1;rw [hy] at Z5 hst hbad y1;obtain ⟨xn,xi,xd,xs⟩:=x;obtain ⟨yn,yi,yd,ys⟩:=y;cases Z9:((⟨xn,xi,xd,xs⟩:Mod6)==⟨yn,yi,yd,ys⟩) with
  | false =>
   have Qi:=hbad (by simpa using Z9)
   clear hno;exact Sd
  | true =>
   have h2:=hst (by simpa using Z9)
   clear hno;have Kq:w625k:=⟨⟩;exact Un
 ·have Qi:(a==b)=true:=by
   rw [Zp];exact Lg Jl hlen fun j hj=>hno j (by omega)
  clear hno;exact Zfm):p:=h
theorem good_Same9:Qr Tryz.prog (18,Rl):=by
 obtain ⟨Kx,Kt,Kc,Kd,Kb,Ku,Kw,K,Yj,_⟩:=Wi Z3 Zn [] false (Ja good_One6 aL.eq_def Wg);have Ko:=Rl.eq_def;refine Wh K Tryz.func18 [.tmp 4] rfl 27 rfl (fun c hc cvs hpre=>?_);unfold Rl at hpre;obtain ⟨⟨a⟩,⟨b⟩,rfl,⟨ha,ha2⟩,hb,hb2⟩:=Jr hpre;simp only at ha ha2 hb hb2;by_cases hlen:a.length=b.length
 case neg =>
  have Qh:((a.length:Int) != (b.length:Int))=true:=by rw [bne_iff_ne];omega
  have Qi:(a==b)=false:=by rw [Zf];intro e;exact hlen (by rw [e])
  cases hc;exact Zfm
 have Qh:((a.length:Int) != (b.length:Int))=false:=by rw [hlen,bne_self_eq_false]
 cases hc;have Kq:w624k:=⟨⟩;exact Un
structure Bd where
 name:List UInt8
 t:List Node
 deriving DecidableEq
instance encBd:Enc Bd:=⟨fun a=>.agg [.str a.name,.list 3 (a.t.map enc)],fun x=>match x with
 | .agg [a,b]=>⟨a.s,b.l.map dec⟩
 | _=>⟨[],[]⟩,fun a=>by
  have h1:∀ l:List Node,(l.map (enc:Node→D)).map dec=l:=fun l=>Jz;cases a;simp [D.l,D.s,h1]⟩
instance szBd:Sz Bd:=⟨2⟩
theorem fF:Sz.sz Bd=2:=rfl
theorem Gz {a:List UInt8} {b:List Node}:(enc (Bd.mk a b):D)=.agg [.str a,.list 3 (b.map enc)]:=rfl
def Zbt:Bd:=⟨[],[]⟩
def Zra (l:List Bd):Prop:=Lo l.length∧∀ b∈l,Lo b.t.length
def Px:Con:=Wc (fun (a b:Sl Bd)=>Zra a.l∧Zra b.l) (fun a b=>a.l==b.l)
structure w627k:Prop
theorem w627k.k (_:w627k) {p:Prop} (h:p:=by
 repeat' first|exact Qg|with_reducible apply And.intro|intro _
 all_goals first|with_reducible exact Jf|omega|exact ⟨k+1,by exact Qy,by omega,h9,by omega⟩|skip):p:=h
structure w626k:Prop
theorem w626k.k (_:w626k) {p:Prop} (h:p:=by
 repeat' first|exact Qg|with_reducible apply And.intro|intro _
 refine Zh [4,11,12,13,14,15,16,17,18,19,20,21,22,23,24,25,26,27,28,29,30,31,32,33,34,35,36,37,38,39,40,41] (fun k:Nat=>[(5,.d (.int .i64 k))]) (fun k:Nat=>[]) (fun k:Nat=>k≤a.length∧∀ j,j<k→a.getD j Zbt=b.getD j Zbt) (fun k:Nat=>a.length-k) 0 ?_ ?_ ?_
 ·exact ⟨by omega,fun j hj=>absurd hj (Nat.not_lt_zero j)⟩
 ·exact Qy
 rintro k ⟨hk,hno⟩;rcases Zl k a.length with ⟨hlt,Z2⟩|⟨hlt,Z2⟩
 ·have Qd:=Zo Zbt hlt;have Z5:=Zo Zbt (show k<b.length by omega)
  have hst:a.getD k Zbt=b.getD k Zbt→∀ j,j<k+1→a.getD j Zbt=b.getD j Zbt:=fun h=>U7 hno h;have hbad:a.getD k Zbt≠b.getD k Zbt→(a==b)=false:=by
   intro h;rw [Zf];intro e;exact h (by rw [e])
  have x1:=ha2 (a.getD k Zbt) (by simp [hlt])
  have y1:=hb2 (b.getD k Zbt) (by simp [show k<b.length by omega])
  obtain ⟨x,hx⟩:=exq (a.getD k Zbt);obtain ⟨y,hy⟩:=exq (b.getD k Zbt);rw [hx] at Qd hst hbad x1;rw [hy] at Z5 hst hbad y1;obtain ⟨xn,xt⟩:=x;obtain ⟨yn,yt⟩:=y;simp only at x1 y1;clear hno;cases Z9:xn==yn with
  | false =>
   have g1b:(xn != yn)=true:=by rw [bne,Z9];rfl
   have Qi:=hbad (fun e=>by injection e with e _;rw [e,beq_self_eq_true] at Z9;cases Z9)
   clear hst hbad;have Q0:=@Gz;have Q2:=@fF;exact Sd
  | true =>
   have g1b:(xn != yn)=false:=by rw [bne,Z9];rfl
   cases Qu:xt==yt with
   | false =>
    have Qi:=hbad (fun e=>by injection e with _ e;rw [e,beq_self_eq_true] at Qu;cases Qu)
    clear hst hbad;have Q0:=@Gz;have Q2:=@fF;exact Sd
   | true =>
    have h9:=hst (by rw [(by simpa using Z9:xn=yn),(by simpa using Qu:xt=yt)])
    clear hst hbad;have Q0:=@Gz;have Q2:=@fF;have Kq:w627k:=⟨⟩;exact Un
 ·have Qi:(a==b)=true:=by
   rw [Zp];exact Lg Zbt hlen fun j hj=>hno j (by omega)
  clear hno;have Q0:=@fF;exact Zfm):p:=h
theorem good_Bounds9:Qr Tryz.prog (19,Px):=by
 obtain ⟨Kx,Kt,Kc,Kd,Kb,Ku,Kw,K,Yj,_⟩:=Wi Z3 Zn [] false (Ja good_One3 T7.eq_def Wg);have Ko:=Px.eq_def;refine Wh K Tryz.func19 [.tmp 4] rfl 42 rfl (fun c hc cvs hpre=>?_);unfold Px at hpre;obtain ⟨⟨a⟩,⟨b⟩,rfl,⟨ha,ha2⟩,hb,hb2⟩:=Jr hpre;simp only at ha ha2 hb hb2;by_cases hlen:a.length=b.length
 case neg =>
  have Qh:((a.length:Int) != (b.length:Int))=true:=by rw [bne_iff_ne];omega
  have Qi:(a==b)=false:=by rw [Zf];intro e;exact hlen (by rw [e])
  cases hc;refine Ys 2 ?_;have Q0:=@fF;exact Zfm
 have Qh:((a.length:Int) != (b.length:Int))=false:=by rw [hlen,bne_self_eq_false]
 cases hc;refine Ys 2 ?_;have Q0:=@fF;have Kq:w626k:=⟨⟩;exact Un
def Bl:Con:=Wc (fun (t:Sl Node) (b:Int)=>Zmf t.l∧0≤b∧b≤1000000) (fun t b=>Sl.mk (He b t.l))
structure w629k:Prop
theorem w629k.k (_:w629k) {p:Prop} (h:p:=by
 repeat' first|exact Qg|with_reducible apply And.intro|intro _
 all_goals first|with_reducible exact Jf|omega|contradiction|exact ⟨k+1,by (have Ks:=hnx;exact Qy),by omega,by omega⟩|skip):p:=h
structure w630k:Prop
theorem w630k.k (_:w630k) {p:Prop} (h:p:=by
 repeat' first|exact Qg|with_reducible apply And.intro|intro _
 all_goals first|with_reducible exact Jf|omega|contradiction|exact ⟨k+1,by exact Qy,by omega,by omega⟩|skip):p:=h
structure w631k:Prop
theorem w631k.k (_:w631k) {p:Prop} (h:p:=by
 repeat' first|exact Qg|with_reducible apply And.intro|intro _
 all_goals first|with_reducible exact Jf|omega|contradiction|exact ⟨k+1,by (have Ks:=hnx;exact Qy),by omega,by omega⟩|skip):p:=h
structure w628k:Prop
theorem w628k.k (_:w628k) {p:Prop} (h:p:=by
 repeat' first|exact Qg|with_reducible apply And.intro|intro _
 refine Zh [10,11,12,13,14,15,16,17,18,19,20,21,22,23,24,25,26,27,28,29,30,31,32,33,34,35,36,37,38,39,40] (fun k:Nat=>[(6,.d (.int .i64 k))]) (fun k:Nat=>[(7,.row 3 ((L8 (fun _=>Yk b) t k).map enc) 0)]) (fun k:Nat=>k≤t.length) (fun k:Nat=>t.length-k) 0 ?_ ?_ ?_
 ·omega
 ·have Ks:=@Ts;exact Qy
 rintro k hk;have Z5:=Cv (f:=fun _=>Yk b) (l:=t) k;rcases Zl k t.length with ⟨hlt,Qi⟩|⟨hlt,Qi⟩
 ·have Z2:=Zo n0 (show k<(L8 (fun _=>Yk b) t k).length by omega)
  rw [A5 n0 hlt] at Z2;have hset:=Cu n0 hlt (f:=fun _=>Yk b);have hsame:=Zc3 n0 hlt (f:=fun _=>Yk b);have hbn:=hb (t.getD k n0) (by simp [hlt])
  obtain ⟨y,hy⟩:=exq (t.getD k n0);rw [hy] at Z2 hset hsame hbn;obtain ⟨yk,yn,yi⟩:=y;simp only at hbn;obtain ⟨P,hP⟩:=exq (L8 (fun _=>Yk b) t k);rw [hP] at Z2 hset hsame Z5 ⊢;have Z9:(P.map (enc:Node→D)).length=t.length:=by rw [Zk,Z5]
  by_cases h0:yk=0
  case neg =>
   have Qd:(yk==0)=false:=by rw [Zf];exact h0
   have hnx:=hsame (by unfold Yk;rw [if_neg (fun h=>h0 h.1)])
   have Kq:w629k:=⟨⟩;exact Un
  subst h0;have Qd:((0:Int)==0)=true:=rfl;rcases Xf 0 yi with ⟨h1,Qu⟩|⟨h1,Qu⟩
  ·have hyb:=hbn rfl;have Q0:(P.map (enc:Node→D)).set k (.agg [.int .i64 0,.str yn,.int .i64 (yi+b)])=(L8 (fun _=>Yk b) t (k+1)).map enc:=by
    rw [←hset];unfold Yk;rw [if_pos ⟨rfl,h1⟩,←Na];rfl
   have Kq:w630k:=⟨⟩;exact Un
  ·have hnx:=hsame (by unfold Yk;rw [if_neg (fun h=>by have:=h.2;simp only at this;omega)])
   have Kq:w631k:=⟨⟩;exact Un
 ·have hke:k=t.length:=by omega
  have hfu:L8 (fun _=>Yk b) t k=R:=by rw [hke,Tt,←Qh];rfl
  have Q2:R.length=t.length:=by rw [←hfu,Z5]
  rw [hfu];exact Sd):p:=h
theorem good_shifted9:Qr Tryz.prog (47,Bl):=by
 obtain ⟨Kx,Kt,Kc,Kd,Kb,Ku,Kw,K,_⟩:=Wi Z3 Zn [] false Wg;have Ko:=Bl.eq_def;refine Wh K Tryz.func47 [.tmp 4] rfl 42 rfl (fun c hc cvs hpre=>?_);unfold Bl at hpre;obtain ⟨⟨t⟩,b,rfl,⟨ht,hb⟩,hf0,hf1⟩:=Jr hpre;simp only at ht hb;clear hpre;obtain ⟨R,Qh⟩:=exq (He b t);cases hc;refine Ys 2 ?_;have Kq:w628k:=⟨⟩;exact Un
def Dm:Con:=Wp (fun (l:Sl Mod6) (site:Int)=>SitesOk l.l∧dL .i64 site) (fun l site=>Ed l.l site)
structure w633k:Prop
theorem w633k.k (_:w633k) {p:Prop} (h:p:=by
 repeat' first|exact Qg|with_reducible apply And.intro|intro _
 all_goals first|with_reducible exact Jf|omega|exact ⟨k+1,by exact Qy,by omega,.inr (by omega),fun _=>hw,by omega⟩|skip):p:=h
structure w632k:Prop
theorem w632k.k (_:w632k) {p:Prop} (h:p:=by
 repeat' first|exact Qg|with_reducible apply And.intro|intro _
 refine Zh [4,5,6,8,9,10,11,12,13,14,15,16,17,18,19,20,21,22,23,24,25,26,27,28,29,30,31,32,33,34,35] (fun k:Nat=>[(7,.d (.int .i64 k)),(1,.d (.int .i64 (site-ah l k)))]) (fun k:Nat=>[]) (fun k:Nat=>k≤l.length∧(k=0∨(ah l k:Int)<site)∧((ah l k:Int)<site→Ce l site (l.length-k) k=Ce l site l.length 0)) (fun k:Nat=>l.length-k) 0 ?_ ?_ ?_
 ·exact ⟨by omega,.inl rfl,fun _=>rfl⟩
 ·have Ks:=@bZ;exact Qy
 rintro k ⟨hk,hc,hw⟩;have hbk:=eJ hS k hk;rcases Zl k l.length with ⟨hlt,Qh⟩|⟨hlt,Qh⟩
 ·rcases Xf 0 (site-(ah l k:Int)) with ⟨h1,Qi⟩|⟨h1,Qi⟩
  ·replace hw:=hw (by omega)
   have Z2:=Zo Jl hlt;have hs:=bX hlt;have hs1:=hS.sites (l.getD k Jl) (by simp [hlt])
   have hm1:=Zng (l:=l) (j:=k+1) (k:=l.length) (by omega) (Zm _)
   obtain ⟨m,hm⟩:=exq (l.getD k Jl);rw [hm] at hs Z2 hs1;obtain ⟨mn,mi,md,ms⟩:=m;simp only at hs hs1;obtain ⟨f,hf⟩:∃ f,l.length-k=f+1:=⟨l.length-k-1,by omega⟩
   rw [hf,Ce] at hw;rcases Mo (site-(ah l k:Int)) (ms.length:Int) with ⟨h2,Qd⟩|⟨h2,Qd⟩
   ·rw [if_neg (by omega)] at hw
    rw [if_neg (by omega),←hw] at hR2
    subst hR2;exact Sd
   ·rw [if_pos (by omega)] at hw
    have hf2:l.length-(k+1)=f:=by omega
    have Z9:site-(ah l k:Int)-(ms.length:Int)=site-(ah l (k+1):Int):=by omega
    rw [←hf2] at hw;have Kq:w633k:=⟨⟩;exact Un
  ·have hk0:k=0:=by
    rcases hc with h|h
    ·exact h
    ·omega
   rw [if_pos (.inl (by rw [hk0,bZ] at h1;omega))] at hR2
   subst hR2;clear hw;exact Zfm
 ·have hke:k=l.length:=by omega
  have hR3:R=(0,0,6):=by
   rw [←hR2,if_pos];rcases hc with h|h
   ·rcases Int.lt_or_le site 1 with h1|h1
    ·exact .inl h1
    ·refine .inr ?_;rw [←hke,h,bZ];omega
   ·exact .inr (by rw [←hke];exact h)
  subst hR3;clear hw hR2;exact Zfm):p:=h
theorem good_Where9:Qr Tryz.prog (17,Dm):=by
 obtain ⟨Kx,Kt,Kc,Kd,Kb,Ku,Kw,K,_⟩:=Wi Z3 Zn [] false Wg;have Ko:=Dm.eq_def;refine Wh K Tryz.func17 [.tmp 4,.tmp 5,.tmp 6] rfl 36 rfl (fun c hc cvs hpre=>?_);unfold Dm at hpre;obtain ⟨⟨l⟩,site,rfl,hS,hsr⟩:=Dw hpre;simp only at hS hsr;clear hpre;obtain ⟨R,Z5⟩:=exq (Ed l site);have hR2:=Z5;unfold Ed at hR2;have hlen:=hS.len;rw [Xb] at hsr;cases hc;refine Ys 2 ?_;have Kq:w632k:=⟨⟩;exact Un
def Zb6 {α:Type} (f:Nat→α→α) (l:List α) (k:Nat):List α:=(l.take k).mapIdx f
section
variable {α:Type} {f:Nat→α→α} {l:List α}
theorem Zcb:Zb6 f l 0=[]:=by simp [Zb6]
theorem Zcd:Zb6 f l l.length=l.mapIdx f:=by simp [Zb6]
theorem Zg1 {k:Nat} (h:k≤l.length):(Zb6 f l k).length=k:=by
 unfold Zb6;simp;omega
theorem Zcc (d:α) {k:Nat} (h:k<l.length):Zb6 f l (k+1)=Zb6 f l k++[f k (l.getD k d)]:=by
 unfold Zb6;rw [Gp d h,List.mapIdx_append];simp [show min k l.length=k by omega]
end
def S1:Con:=Uh (fun (l:Sl Mod6)=>NumOk l.l) (fun l=>Nc l.l)
theorem Zmj {p:Prop} (h:p:=by (sym=>simp [Kt,Kc,Kd,Kb,Ku,Kw,Ko,Yj,Kv,P4,B6,D2,It,bD,jC,jH,jG,Qh,Qi,Z2,Qd,Z5,Z9,Qu,Q0,Q2,Qz,Zv,Zx,Zu,Zy,Zz,Z4,Zs,Zt,Z8,Qt,Qw,Qv,Qj,Qq,Q6,Q9,Wb,Xp,X8,X7,X6,V7,V6,V5,Ul,Uk,Uj,D.setCell.eq_1,Jo,Ec,Q1,Uh.eq_def,Jt,Qn,U1,Gz,J1,Q4,Qf,U0,Qm,Jn,Kr,Ql,Uy,Jc,X3,Qk,fF,P7,Ta,Bf,Mh,Xe,wU,wT,wS,wR,wP,wO,wN,wM,wL,wI,wH,wG,wF,wE,wD,wC,wB,wA,wK,wW,wV,wY,wJ,wX,wZ,wQ,vU,vT,vS,vR,vP,vO,vN,vM,vL,vI,vH,vG,vF,vE,vD,vC,vB,vA,vK,vW,vV,vY,vJ,vX,vZ,vQ,uU,uT,uS,uR,uP,uO,uN,uM,uL,uI,uH,uG,uF,uE,uD,uC,uB,uA,uK,uW,uV,uY,uJ,uX,uZ,uQ,tU,tT,tS,tR,tP,tO,tN,tM,tL,tI,tH,tG,tF,tE,tD,tC,tB,tA,tK,tW,tV,tY,tJ,tX,tZ,tQ,sU,sT,sS,sR,sP,sO,sN,sM,sL,sI,sH,sG,sF,sE,sD,sC,sB,sA,sK,sW,sV,sY,sJ,sX,sZ,sQ,rU,rT,rS,rR,rP,rO,rN,rM,rL,rI,rH,rG,rF,rE,rD,rC,rB,rA,rK,rW,rV,rY,rJ,rX,rZ,rQ,qU,qT,qS,qR,qP,qO,qN,qM,qL,qI,qH,qG,qF,qE,qD,qC,qB,qA,qK,qW,qV,qY,qJ,qX,qZ,qQ,pU,pT,pS,pR,pP,pO,pN,pM,pL,pI,pH,pG,pF,pE,pD,pC,pB,pA,pK,pW,pV,pY,pJ,pX,pZ,pQ,oU,oT,oS,oR,oP,oO,oN,oM,oL,oI,oH,oG,oF,oE,oD,oC,oB,oA,oK,oW,oV,oY,oJ,oX,oZ,oQ,nU,nT,nS,nR,nP,nO,nN,nM,nL,nI,nH,nG,nF,nE,nD,nC,nB,nA,nK,nW,nV,nY,nJ,nX,nZ,nQ,mU,mT,mS,mR,mP,mO,mN,mM,mL,mI,mH,mG,mF,mE,mD,mC,mB,mA,mK,mW,mV,mY,mJ,mX,mZ,mQ,lU,lT,lS,lR,lP,lO,lN,lM,lL,lI,lH,lG,lF,lE,lD,lC,lB,lA,lK,lW,lV,lY,lJ,lX,lZ,lQ,kU,kT,kS,kR,kP,kO,kN,kM,kL,kI,kH,kG,kF,kE,kD,kC,kB,kA,kK,kW,kV,kY,kJ,kX,kZ,kQ,jU,jT,jS,jR,jP,jO,jN,jM,jL,jI,S9,S8,S7,S6,S5,S4,H6,H5,H4,H3,H2,H1,H0,Hz,Hy,Hx,Hw,Hv,Hu,Ht,Hs,Hr,Hq,Hp,Ho,Hn,Hm,Hl,Hk,Hj,Hi,Hh,Hg,V2,V1,V0,Vz,Vy,Vx,Vw,Vv,Vu,Vt,Vs,Vr,Vq,Vp,Vo,Vn,Vm,Vl,Vk,Vj,Vi,Vh,Vg,Vf,Ve,Vd,Vc,Vb,Va,Y9,Y8])):p:=h
theorem Cj {p:Prop} (h:p:=by
 (sym=>simp [Kt,Kc,Kd,Kb,Ku,Kw,Ko,Yj,Kv,P4,B6,D2,It,bD,jC,jH,jG,Qh,Qi,Z2,Qd,Z5,Z9,Qu,Q0,Q2,Qz,Zv,Zx,Zu,Zy,Zz,Z4,Zs,Zt,Z8,Qt,Qw,Qv,Qj,Qq,Q6,Q9,Wb,Xp,X8,X7,X6,V7,V6,V5,Ul,Uk,Uj,D.setCell.eq_1,Jo,Ec,Q1,Uh.eq_def,Jt,Qn,U1,Gz,J1,Q4,Qf,U0,Qm,Jn,Kr,Ql,Uy,Jc,X3,Qk,fF,P7,Ta,Bf,Mh,Xe,wU,wT,wS,wR,wP,wO,wN,wM,wL,wI,wH,wG,wF,wE,wD,wC,wB,wA,wK,wW,wV,wY,wJ,wX,wZ,wQ,vU,vT,vS,vR,vP,vO,vN,vM,vL,vI,vH,vG,vF,vE,vD,vC,vB,vA,vK,vW,vV,vY,vJ,vX,vZ,vQ,uU,uT,uS,uR,uP,uO,uN,uM,uL,uI,uH,uG,uF,uE,uD,uC,uB,uA,uK,uW,uV,uY,uJ,uX,uZ,uQ,tU,tT,tS,tR,tP,tO,tN,tM,tL,tI,tH,tG,tF,tE,tD,tC,tB,tA,tK,tW,tV,tY,tJ,tX,tZ,tQ,sU,sT,sS,sR,sP,sO,sN,sM,sL,sI,sH,sG,sF,sE,sD,sC,sB,sA,sK,sW,sV,sY,sJ,sX,sZ,sQ,rU,rT,rS,rR,rP,rO,rN,rM,rL,rI,rH,rG,rF,rE,rD,rC,rB,rA,rK,rW,rV,rY,rJ,rX,rZ,rQ,qU,qT,qS,qR,qP,qO,qN,qM,qL,qI,qH,qG,qF,qE,qD,qC,qB,qA,qK,qW,qV,qY,qJ,qX,qZ,qQ,pU,pT,pS,pR,pP,pO,pN,pM,pL,pI,pH,pG,pF,pE,pD,pC,pB,pA,pK,pW,pV,pY,pJ,pX,pZ,pQ,oU,oT,oS,oR,oP,oO,oN,oM,oL,oI,oH,oG,oF,oE,oD,oC,oB,oA,oK,oW,oV,oY,oJ,oX,oZ,oQ,nU,nT,nS,nR,nP,nO,nN,nM,nL,nI,nH,nG,nF,nE,nD,nC,nB,nA,nK,nW,nV,nY,nJ,nX,nZ,nQ,mU,mT,mS,mR,mP,mO,mN,mM,mL,mI,mH,mG,mF,mE,mD,mC,mB,mA,mK,mW,mV,mY,mJ,mX,mZ,mQ,lU,lT,lS,lR,lP,lO,lN,lM,lL,lI,lH,lG,lF,lE,lD,lC,lB,lA,lK,lW,lV,lY,lJ,lX,lZ,lQ,kU,kT,kS,kR,kP,kO,kN,kM,kL,kI,kH,kG,kF,kE,kD,kC,kB,kA,kK,kW,kV,kY,kJ,kX,kZ,kQ,jU,jT,jS,jR,jP,jO,jN,jM,jL,jI,S9,S8,S7,S6,S5,S4,H6,H5,H4,H3,H2,H1,H0,Hz,Hy,Hx,Hw,Hv,Hu,Ht,Hs,Hr,Hq,Hp,Ho,Hn,Hm,Hl,Hk,Hj,Hi,Hh,Hg,V2,V1,V0,Vz,Vy,Vx,Vw,Vv,Vu,Vt,Vs,Vr,Vq,Vp,Vo,Vn,Vm,Vl,Vk,Vj,Vi,Vh,Vg,Vf,Ve,Vd,Vc,Vb,Va,Y9,Y8];tactic =>
   try simp only [Sh] at *
   try simp only [Zhf] at *
   try simp (maxSteps:=4000000) only [Qh,Qi,Z2,Qd,Z5,Z9,Qu,Q0,Q2,Qz,Zv,Zx,Zu,Zy,Zz,Z4,Zs,Zt,Z8,Qt,Qw,Qv,Qj,Qq,Q6,Q9,Wb,Xp,X8,X7,X6,V7,V6,V5,Ul,Uk,Uj,D.setCell.eq_1,Jo,Ec,Q1,Uh.eq_def,Jt,Qn,U1,Gz,J1,Q4,Qf,U0,Qm,Jn,Kr,Ql,Uy,Jc,X3,Qk,fF,P7,Ta,Bf,Mh,Xe,Ix]
   first|done|exact Kq.k)):p:=h
theorem Zmq {p:Prop} (h:p:=by
 (sym=>simp [Kt,Kc,Kd,Kb,Ku,Kw,Ko,Yj,Kv,P4,B6,D2,It,bD,jC,jH,jG,Qh,Qi,Z2,Qd,Z5,Z9,Qu,Q0,Q2,Qz,Zv,Zx,Zu,Zy,Zz,Z4,Zs,Zt,Z8,Qt,Qw,Qv,Qj,Qq,Q6,Q9,Wb,Xp,X8,X7,X6,V7,V6,V5,Ul,Uk,Uj,D.setCell.eq_1,Jo,Ec,Q1,Uh.eq_def,Jt,Qn,U1,Gz,J1,Q4,Qf,U0,Qm,Jn,Kr,Ql,Uy,Jc,X3,Qk,fF,P7,Ta,Bf,Mh,Xe,wU,wT,wS,wR,wP,wO,wN,wM,wL,wI,wH,wG,wF,wE,wD,wC,wB,wA,wK,wW,wV,wY,wJ,wX,wZ,wQ,vU,vT,vS,vR,vP,vO,vN,vM,vL,vI,vH,vG,vF,vE,vD,vC,vB,vA,vK,vW,vV,vY,vJ,vX,vZ,vQ,uU,uT,uS,uR,uP,uO,uN,uM,uL,uI,uH,uG,uF,uE,uD,uC,uB,uA,uK,uW,uV,uY,uJ,uX,uZ,uQ,tU,tT,tS,tR,tP,tO,tN,tM,tL,tI,tH,tG,tF,tE,tD,tC,tB,tA,tK,tW,tV,tY,tJ,tX,tZ,tQ,sU,sT,sS,sR,sP,sO,sN,sM,sL,sI,sH,sG,sF,sE,sD,sC,sB,sA,sK,sW,sV,sY,sJ,sX,sZ,sQ,rU,rT,rS,rR,rP,rO,rN,rM,rL,rI,rH,rG,rF,rE,rD,rC,rB,rA,rK,rW,rV,rY,rJ,rX,rZ,rQ,qU,qT,qS,qR,qP,qO,qN,qM,qL,qI,qH,qG,qF,qE,qD,qC,qB,qA,qK,qW,qV,qY,qJ,qX,qZ,qQ,pU,pT,pS,pR,pP,pO,pN,pM,pL,pI,pH,pG,pF,pE,pD,pC,pB,pA,pK,pW,pV,pY,pJ,pX,pZ,pQ,oU,oT,oS,oR,oP,oO,oN,oM,oL,oI,oH,oG,oF,oE,oD,oC,oB,oA,oK,oW,oV,oY,oJ,oX,oZ,oQ,nU,nT,nS,nR,nP,nO,nN,nM,nL,nI,nH,nG,nF,nE,nD,nC,nB,nA,nK,nW,nV,nY,nJ,nX,nZ,nQ,mU,mT,mS,mR,mP,mO,mN,mM,mL,mI,mH,mG,mF,mE,mD,mC,mB,mA,mK,mW,mV,mY,mJ,mX,mZ,mQ,lU,lT,lS,lR,lP,lO,lN,lM,lL,lI,lH,lG,lF,lE,lD,lC,lB,lA,lK,lW,lV,lY,lJ,lX,lZ,lQ,kU,kT,kS,kR,kP,kO,kN,kM,kL,kI,kH,kG,kF,kE,kD,kC,kB,kA,kK,kW,kV,kY,kJ,kX,kZ,kQ,jU,jT,jS,jR,jP,jO,jN,jM,jL,jI,S9,S8,S7,S6,S5,S4,H6,H5,H4,H3,H2,H1,H0,Hz,Hy,Hx,Hw,Hv,Hu,Ht,Hs,Hr,Hq,Hp,Ho,Hn,Hm,Hl,Hk,Hj,Hi,Hh,Hg,V2,V1,V0,Vz,Vy,Vx,Vw,Vv,Vu,Vt,Vs,Vr,Vq,Vp,Vo,Vn,Vm,Vl,Vk,Vj,Vi,Vh,Vg,Vf,Ve,Vd,Vc,Vb,Va,Y9,Y8];tactic =>
   try simp only [Sh] at *
   try simp only [Zhf] at *
   try simp (maxSteps:=4000000) only [Qh,Qi,Z2,Qd,Z5,Z9,Qu,Q0,Q2,Qz,Zv,Zx,Zu,Zy,Zz,Z4,Zs,Zt,Z8,Qt,Qw,Qv,Qj,Qq,Q6,Q9,Wb,Xp,X8,X7,X6,V7,V6,V5,Ul,Uk,Uj,D.setCell.eq_1,Jo,Ec,Q1,Uh.eq_def,Jt,Qn,U1,Gz,J1,Q4,Qf,U0,Qm,Jn,Kr,Ql,Uy,Jc,X3,Qk,fF,P7,Ta,Bf,Mh,Xe,Ix]
   repeat' first|with_reducible assumption|with_reducible apply And.intro|intro _|omega|(rw [Xb];omega)
   all_goals first|with_reducible exact Jf|omega|rfl|trivial|exact Or.inr trivial|assumption|contradiction|exact Qy)):p:=h
structure w635k:Prop
theorem w635k.k (_:w635k) {p:Prop} (h:p:=by
 repeat' first|exact Qg|with_reducible apply And.intro|intro _
 all_goals first|with_reducible exact Jf|omega|rfl|trivial|(simp;done)|skip):p:=h
structure w637k:Prop
theorem w637k.k (_:w637k) {p:Prop} (h:p:=by
 repeat' first|exact Qg|with_reducible apply And.intro|intro _
 all_goals first|with_reducible exact Jf|omega|exact ⟨k+1,by rw [←hnx];(have Ks:=@Q4;exact Qy),by omega,by omega⟩|skip):p:=h
structure w639k:Prop
theorem w639k.k (_:w639k) {p:Prop} (h:p:=by
 repeat' first|exact Qg|with_reducible apply And.intro|intro _
 all_goals first|with_reducible exact Jf|omega|exact lowt2 _ (by assumption) (by assumption)|exact ⟨lowt1,lowt2⟩|exact ⟨d+1,by rw [←hnx];(have Ks:=@J1;have Iv:=hTe;exact Qy),by omega,by omega⟩|skip):p:=h
structure w640k:Prop
theorem w640k.k (_:w640k) {p:Prop} (h:p:=by
 repeat' first|exact Qg|with_reducible apply And.intro|intro _
 all_goals first|with_reducible exact Jf|omega|exact lpt|exact lpu|exact ⟨j+1,by (have Ks:=Zs;have Iv:=r9b;exact Qy),by omega,by omega⟩|skip):p:=h
structure w638k:Prop
theorem w638k.k (_:w638k) {p:Prop} (h:p:=by
 repeat' first|exact Qg|with_reducible apply And.intro|intro _
 all_goals first|with_reducible exact Jf|omega|skip
 refine Zh [58,59,60,61,62,63,64,65,66,67,68,69,70,71,72,73,74,75,76,77,78,79,80,81,82,83,84,85] (fun j:Nat=>[(12,.d (.int .i64 j))]) (fun j:Nat=>[(54,.row 8 ((L8 (fun _=>Xz b) xe j).map enc) 0)]) (fun j:Nat=>j≤xe.length) (fun j:Nat=>xe.length-j) 0 ?_ ?_ ?_
 ·omega
 ·have Ks:=@Ts;exact Qy
 rintro j hj;have hjlen:=Cv (f:=fun _=>Xz b) (l:=xe) j;rcases Zl j xe.length with ⟨hjlt,Q2⟩|⟨hjlt,Q2⟩
 rotate_left
 ·have hje:j=xe.length:=by omega
  have hfu:L8 (fun _=>Xz b) xe j=xe.mapIdx fun _=>Xz b:=by rw [hje,Tt]
  have Qz:(xe.mapIdx fun _=>Xz b).length=xe.length:=by simp
  have hnx:Q++[⟨xn,He b xt,xe.mapIdx fun _=>Xz b⟩]=Zb6 (fun _=>X0 b) md (d+1):=by
   rw [hsuccd];rfl
  rw [hfu];rw [hje] at Q2;obtain ⟨E2,hE2⟩:=exq ((xe.mapIdx fun _=>Xz b));obtain ⟨T2,Zv⟩:=exq (He b xt);rw [hE2,Zv] at hnx;have hTe:(enc (Sl.mk T2):D)=.list 3 (T2.map enc):=rfl;rw [hE2] at Qz ⊢;have Kq:w639k:=⟨⟩;exact Cj
 have Zy:=Zo e0 (show j<(L8 (fun _=>Xz b) xe j).length by omega)
 rw [A5 e0 hjlt] at Zy;have hsetj:=Cu e0 hjlt (f:=fun _=>Xz b);have hlowp:=lowe (xe.getD j e0) (by simp [hjlt])
 obtain ⟨p,hp⟩:=exq (xe.getD j e0);rw [hp] at Zy hsetj hlowp;obtain ⟨pk,pl,pn,pb,pm,pq,pt,pu⟩:=p;obtain ⟨lpt,lpu⟩:=hlowp;simp only at lpt lpu;obtain ⟨S,hSq⟩:=exq (L8 (fun _=>Xz b) xe j);rw [hSq] at Zy hsetj hjlen ⊢;have Zx:(S.map (enc:Part→D)).length=xe.length:=by rw [Zk,hjlen]
 obtain ⟨T2,Zv⟩:=exq (He b pt);obtain ⟨U2,Zt⟩:=exq (He b pu);have Zz:(S.map (enc:Part→D)).set j (.agg [.int .i64 pk,.str pl,.str pn,.str pb,.int .i64 pm,.int .i64 pq,enc (Sl.mk T2),.list 3 (pu.map enc)])=(S.set j ⟨pk,pl,pn,pb,pm,pq,T2,pu⟩).map enc:=Na (y:=(⟨pk,pl,pn,pb,pm,pq,T2,pu⟩:Part));have Z4:el ((S.set j ⟨pk,pl,pn,pb,pm,pq,T2,pu⟩).map (enc:Part→D)) j=.agg [.int .i64 pk,.str pl,.str pn,.str pb,.int .i64 pm,.int .i64 pq,enc (Sl.mk T2),.list 3 (pu.map enc)]:=Io (by omega)
 have Zs:((S.set j ⟨pk,pl,pn,pb,pm,pq,T2,pu⟩).map (enc:Part→D)).set j (.agg [.int .i64 pk,.str pl,.str pn,.str pb,.int .i64 pm,.int .i64 pq,enc (Sl.mk T2),enc (Sl.mk U2)])=(L8 (fun _=>Xz b) xe (j+1)).map enc:=by
  rw [←hsetj];have:Xz b ⟨pk,pl,pn,pb,pm,pq,pt,pu⟩=⟨pk,pl,pn,pb,pm,pq,T2,U2⟩:=by unfold Xz;rw [Zv,Zt]
  rw [this];refine Eq.trans (Na (y:=(⟨pk,pl,pn,pb,pm,pq,T2,U2⟩:Part))) ?_;rw [List.set_set]
 have r9b:(S.map (enc:Part→D)).set j (.agg [.int .i64 pk,.str pl,.str pn,.str pb,.int .i64 pm,.int .i64 pq,enc (Sl.mk T2),enc (Sl.mk U2)])=(L8 (fun _=>Xz b) xe (j+1)).map enc:=by
  rw [←Zs,←Na,List.set_set]
 have Zu:((S.set j ⟨pk,pl,pn,pb,pm,pq,T2,pu⟩).map (enc:Part→D)).length=xe.length:=by rw [Zk,List.length_set,hjlen]
 have hS2:(S.set j ⟨pk,pl,pn,pb,pm,pq,T2,pu⟩).length=xe.length:=by rw [List.length_set,hjlen]
 have Zy:el (S.map (enc:Part→D)) j=.agg [.int .i64 pk,.str pl,.str pn,.str pb,.int .i64 pm,.int .i64 pq,.list 3 (pt.map enc),.list 3 (pu.map enc)]:=Zy;have Kq:w640k:=⟨⟩;exact Cj):p:=h
structure w636k:Prop
theorem w636k.k (_:w636k) {p:Prop} (h:p:=by
 repeat' first|exact Qg|with_reducible apply And.intro|intro _
 all_goals first|with_reducible exact Jf|omega|skip
 refine Zh [10,11,12,36,37,38,39,40,41,42,43,44,45,46,47,48,49,50,51,52,53,54,55,56,57,58,59,60,61,62,63,64,65,66,67,68,69,70,71,72,73,74,75,76,77,78,79,80,81,82,83,84,85,86,87,88,89,90,91,92,93,94,95,96,97,98] (fun d:Nat=>[(9,.d (.int .i64 d))]) (fun d:Nat=>[(8,.box true [.d (.str mn),.d (.list 1 (mi.map enc)),.sl 97 ((Zb6 (fun _=>X0 b) md d).map (enc:Def6→D)).length,.d (.list 3 (ms.map enc))]),(97,.row 3 ((Zb6 (fun _=>X0 b) md d).map enc) 0)]) (fun d:Nat=>d≤md.length) (fun d:Nat=>md.length-d) 0 ?_ ?_ ?_
 ·omega
 ·have Ks:=@Zcb;exact Qy
 rintro d hd;have hdlen:=Zg1 (f:=fun _=>X0 b) (l:=md) hd;rcases Zl d md.length with ⟨hdlt,Z5⟩|⟨hdlt,Z5⟩
 rotate_left
 ·have hde:d=md.length:=by omega
  have hfu:Zb6 (fun _=>X0 b) md d=md.mapIdx fun _=>X0 b:=by rw [hde,Zcd]
  have hnx:P++[⟨mn,mi,md.mapIdx fun _=>X0 b,ms⟩]=Zb6 (V4 l) l (k+1):=by
   rw [hsucc];unfold V4;rw [hbq]
  have Z9:(md.mapIdx fun _=>X0 b).length=md.length:=by simp
  rw [hfu];rw [hde] at Z5;obtain ⟨Ds,hDs⟩:=exq ((md.mapIdx fun _=>X0 b));rw [hDs] at Z9 hnx ⊢;have Kq:w637k:=⟨⟩;exact Cj
 have Q0:=Zo Jq hdlt;have hsuccd:=Zcc Jq hdlt (f:=fun _=>X0 b);have hlowd:=hlow (md.getD d Jq) (by simp [hdlt])
 obtain ⟨x,hx⟩:=exq (md.getD d Jq);rw [hx] at Q0 hsuccd hlowd;obtain ⟨xn,xt,xe⟩:=x;obtain ⟨⟨lowt1,lowt2⟩,lowl,lowe⟩:=hlowd;simp only at lowt1 lowt2 lowl lowe;obtain ⟨Q,hQ⟩:=exq (Zb6 (fun _=>X0 b) md d);rw [hQ] at hsuccd hdlen ⊢;have Kq:w638k:=⟨⟩;exact Cj):p:=h
structure w634k:Prop
theorem w634k.k (_:w634k) {p:Prop} (h:p:=by
 repeat' first|exact Qg|with_reducible apply And.intro|intro _
 refine Zh [8,9,10,11,12,14,15,16,17,18,19,20,21,22,23,24,25,26,27,28,29,30,31,32,33,34,35,36,37,38,39,40,41,42,43,44,45,46,47,48,49,50,51,52,53,54,55,56,57,58,59,60,61,62,63,64,65,66,67,68,69,70,71,72,73,74,75,76,77,78,79,80,81,82,83,84,85,86,87,88,89,90,91,92,93,94,95,96,97,98,99,100,101,102,103,104,105,106,107,108,109,110] (fun k:Nat=>[(5,.sl 13 ((Zb6 (V4 l) l k).map (enc:Mod6→D)).length),(6,.d (.int .i64 (ah l k))),(7,.d (.int .i64 k))]) (fun k:Nat=>[(13,.row 4 ((Zb6 (V4 l) l k).map enc) 0)]) (fun k:Nat=>k≤l.length) (fun k:Nat=>l.length-k) 0 ?_ ?_ ?_
 ·omega
 ·have Ks:=@Zcb;have Iv:=@bZ;exact Qy
 rintro k hk;have hpl:=Zg1 (f:=V4 l) (l:=l) hk;have hbk:=eJ hS k hk;rcases Zl k l.length with ⟨hlt,Qh⟩|⟨hlt,Qh⟩
 rotate_left
 ·have hke:k=l.length:=by omega
  rw [hke,Zcd];rw [hke] at Qh;rcases Xf 60 (ah l l.length:Int) with ⟨h6,Qi⟩|⟨h6,Qi⟩
  ·rw [if_pos (by omega)] at hR2
   subst hR2;exact Zmq
  ·rw [if_neg (by omega)] at hR2
   subst hR2;have Kq:w635k:=⟨⟩;exact Cj
 have Qd:=Zo Jl hlt;have hsucc:=Zcc Jl hlt (f:=V4 l);have hahs:=bX hlt;have hmem:l.getD k Jl∈l:=by simp [hlt]
 have hdl:=hN.len _ hmem;have hlow:=hN.low _ hmem;have hsl:=hS.sites _ hmem;obtain ⟨m,hm⟩:=exq (l.getD k Jl);rw [hm] at Qd hsucc hdl hlow hahs hsl;obtain ⟨mn,mi,md,ms⟩:=m;simp only at hdl hlow hahs hsl;obtain ⟨P,hP⟩:=exq (Zb6 (V4 l) l k);rw [hP] at hsucc hpl ⊢;obtain ⟨b,hbq⟩:∃ b:Int,(ah l k:Int)=b:=⟨_,rfl⟩;have hb0:0≤b:=by omega
 have hb1:b≤1000000:=by omega
 have Qu:b+(ms.length:Int)=(ah l (k+1):Int):=by omega
 rw [hbq];have Kq:w636k:=⟨⟩;exact Cj):p:=h
theorem good_Number9:Qr Tryz.prog (15,S1):=by
 obtain ⟨Kx,Kt,Kc,Kd,Kb,Ku,Kw,K,Yj,_⟩:=Wi Z3 Zn [] false (Ja good_shifted9 Bl.eq_def Wg);have Ko:=S1.eq_def;refine Wh K Tryz.func15 [.tmp 2,.tmp 3,.tmp 4] rfl 115 rfl (fun c hc cvs hpre=>?_);unfold S1 at hpre;obtain ⟨⟨l⟩,rfl,hN⟩:=cI hpre;simp only at hN;clear hpre;have hS:=hN.sites;obtain ⟨R,Z2⟩:=exq (Nc l);have hR2:=Z2;unfold Nc at hR2;have hlen:=hS.len;cases hc;refine Ys 7 ?_;have Kq:w634k:=⟨⟩;exact Cj
def Zb7 (p:List UInt8) (x:Def6):Bd:=⟨p++x.name,x.t⟩
def Nv (i:List UInt8) (x:Mod6):List Bd:=if x.name=i then x.defs.map (Zb7 (x.name++[33])) else []
def Eo (l:List Mod6) (i:List UInt8):List Bd:=l.flatMap (Nv i)
def aV (l:List Mod6) (m d:Nat):List Bd:=(l.getD m Jl).imps.flatMap (Eo l)++((l.getD m Jl).defs.take d).map (Zb7 [])
def aW (l:List Mod6) (m d:Int):List Bd :=
 if m<0∨(l.length:Int)≤m∨d<0∨((l.getD m.toNat Jl).defs.length:Int)≤d then [] else aV l m.toNat d.toNat
structure EnvOk (l:List Mod6):Prop where
 len:l.length≤20
 name:∀ m∈l,m.name.length≤1000000
 iname:∀ m∈l,∀ i∈m.imps,i.length≤1000000
 dname:∀ m∈l,∀ d∈m.defs,d.name.length≤1000000
 imps:∀ m∈l,m.imps.length≤2000
 defs:∀ m∈l,m.defs.length≤1000
theorem C7 {α β:Type} {f:α→List β} {c:Nat}:∀ {l:List α},(∀ x∈l,(f x).length≤c)→(l.flatMap f).length≤c*l.length
 | [],_=>by simp
 | x::l,h=>by
  have h1:=h x (by simp)
  have h2:=C7 (f:=f) (c:=c) (l:=l) fun y hy=>h y (by simp [hy])
  rw [List.flatMap_cons,Zj,Zi,Nat.mul_add];omega
theorem Zda {l:List Mod6} (h:EnvOk l) {x:Mod6} (hx:x∈l) (i:List UInt8):(Nv i x).length≤1000:=by
 unfold Nv;split
 ·rw [Zk];exact h.defs x hx
 ·simp
theorem Zk0 {l:List Mod6} (h:EnvOk l) (i:List UInt8):(Eo l i).length≤20000:=by
 have:=C7 (f:=Nv i) (c:=1000) (l:=l) fun x hx=>Zda h hx i;have:=h.len;unfold Eo;omega
theorem Zbh {l:List Mod6} (h:EnvOk l) (is:List (List UInt8)):(is.flatMap (Eo l)).length≤20000*is.length:=C7 fun x _=>Zk0 h x
theorem C6 {α β:Type} (f:α→List β) (z:α) {l:List α} {k:Nat} (h:k<l.length):(l.take (k+1)).flatMap f=(l.take k).flatMap f++f (l.getD k z):=by
 rw [Gp z h,List.flatMap_append];simp
theorem yP {α β:Type} (f:α→β) (z:α) {l:List α} {k:Nat} (h:k<l.length):(l.take (k+1)).map f=(l.take k).map f++[f (l.getD k z)]:=by
 rw [Gp z h,List.map_append];simp
def P2 (l:List Mod6) (is:List (List UInt8)) (i:Nat):List Bd:=(is.take i).flatMap (Eo l)
def L7 (l:List Mod6) (x:List UInt8) (E:List Bd) (k:Nat):List Bd:=E++(l.take k).flatMap (Nv x)
def P3 (p:List UInt8) (ds:List Def6) (E:List Bd) (j:Nat):List Bd:=E++(ds.take j).map (Zb7 p)
theorem cR {l:List Mod6} {is:List (List UInt8)}:P2 l is 0=[]:=by simp [P2]
theorem Zaj {l:List Mod6} {x:List UInt8} {E:List Bd}:L7 l x E 0=E:=by simp [L7]
theorem R9 {p:List UInt8} {ds:List Def6} {E:List Bd}:P3 p ds E 0=E:=by simp [P3]
theorem cS {l:List Mod6} {is:List (List UInt8)} {i:Nat} (h:i<is.length):P2 l is (i+1)=L7 l (is.getD i []) (P2 l is i) l.length:=by
 unfold P2 L7;rw [C6 (Eo l) [] h,List.take_length];rfl
theorem Cc {l:List Mod6} {is:List (List UInt8)}:P2 l is is.length=is.flatMap (Eo l):=by
 unfold P2;rw [List.take_length]
theorem cP {l:List Mod6} {x:List UInt8} {E:List Bd} {k:Nat} (h:k<l.length):L7 l x E (k+1)=L7 l x E k++Nv x (l.getD k Jl):=by
 unfold L7;rw [C6 (Nv x) Jl h,List.append_assoc]
theorem Aa {p:List UInt8} {ds:List Def6} {E:List Bd} {j:Nat} (h:j<ds.length):P3 p ds E (j+1)=P3 p ds E j++[Zb7 p (ds.getD j Jq)]:=by
 unfold P3;rw [yP (Zb7 p) Jq h,List.append_assoc]
theorem Zak {p:List UInt8} {ds:List Def6} {E:List Bd}:P3 p ds E ds.length=E++ds.map (Zb7 p):=by
 unfold P3;rw [List.take_length]
theorem bY {p:List UInt8} {ds:List Def6} {E:List Bd} {j:Nat}:(P3 p ds E j).length≤E.length+ds.length:=by
 unfold P3;rw [Zj,Zk,List.length_take];omega
theorem bJ {l:List Mod6} (h:EnvOk l) {is:List (List UInt8)} {i:Nat}:(P2 l is i).length≤20000*is.length:=by
 have:=Zbh h (is.take i);rw [List.length_take] at this;unfold P2;omega
theorem Ze6 {l:List Mod6} (h:EnvOk l) {x:List UInt8} {E:List Bd} {k:Nat}:(L7 l x E k).length≤E.length+20000:=by
 have h1:=C7 (f:=Nv x) (c:=1000) (l:=l.take k) fun y hy=>Zda h (List.mem_of_mem_take hy) x;have h2:=h.len;rw [List.length_take] at h1;unfold L7;rw [Zj];omega
def aN:Con:=Um (fun (l:Sl Mod6) (_ _:Int)=>EnvOk l.l) (fun l m d=>Sl.mk (aW l.l m d))
structure w644k:Prop
theorem w644k.k (_:w644k) {p:Prop} (h:p:=by
 repeat' first|exact Qg|with_reducible apply And.intro|intro _
 all_goals first|with_reducible exact Jf|omega|(simp only [Zj,Zi,List.length_nil];omega)|exact ⟨j+1,by rw [hsn4];(have Ks:=@Gz;exact Qy),by omega,by omega⟩|skip):p:=h
structure w645k:Prop
theorem w645k.k (_:w645k) {p:Prop} (h:p:=by
 repeat' first|exact Qg|with_reducible apply And.intro|intro _
 all_goals first|with_reducible exact Jf|omega|exact ⟨k+1,by exact Qy,by omega,by omega⟩|skip):p:=h
structure w643k:Prop
theorem w643k.k (_:w643k) {p:Prop} (h:p:=by
 repeat' first|exact Qg|with_reducible apply And.intro|intro _
 all_goals first|with_reducible exact Jf|omega|skip
 refine Zh [11,53,54,55,56,57,58,59,60,61,62,63,64,65,66,67,68,69,70,71,72,73,74,75,76,77,78,79,80,81,82,83,84,85,86,87,88,89,90,91,92,93,94,95,96,97,98,99,100,101] (fun j:Nat=>[(7,.sl 13 ((P3 (yn++[33]) yd F j).map (enc:Bd→D)).length),(10,.d (.int .i64 j))]) (fun j:Nat=>[(13,.row 2 ((P3 (yn++[33]) yd F j).map enc) 0)]) (fun j:Nat=>j≤yd.length) (fun j:Nat=>yd.length-j) 0 ?_ ?_ ?_
 ·omega
 ·have Ks:=@R9;exact Qy
 rintro j hj;have hGl:=bY (p:=yn++[33]) (ds:=yd) (E:=F) (j:=j);rcases Zl j yd.length with ⟨hjlt,Zu⟩|⟨hjlt,Zu⟩
 ·have Zx:=Zo Jq hjlt;have hsn4:=Aa (p:=yn++[33]) (E:=F) hjlt;have hzn:=hkdn (yd.getD j Jq) (by simp [hjlt])
  obtain ⟨Z,hZ⟩:=exq (yd.getD j Jq);rw [hZ] at Zx hsn4 hzn;obtain ⟨zn,zt,ze⟩:=Z;simp only at hzn;obtain ⟨G,hG⟩:=exq (P3 (yn++[33]) yd F j);rw [hG] at hsn4 hGl ⊢;have hbn:Zb7 (yn++[33]) ⟨zn,zt,ze⟩=⟨yn++[33]++zn,zt⟩:=rfl;rw [hbn] at hsn4;clear hkdn hin;have Kq:w644k:=⟨⟩;exact Cj
 ·have hje:j=yd.length:=by omega
  have hnx:P3 (yn++[33]) yd F j=L7 l x E (k+1):=by rw [hsn2,hje,Zak]
  rw [hnx];clear hkdn hin;have Kq:w645k:=⟨⟩;exact Cj):p:=h
structure w647k:Prop
theorem w647k.k (_:w647k) {p:Prop} (h:p:=by
 repeat' first|exact Qg|with_reducible apply And.intro|intro _
 all_goals first|with_reducible exact Jf|omega|exact ⟨k+1,by rw [hsn2];exact Qy,by omega,by omega⟩|skip):p:=h
structure w648k:Prop
theorem w648k.k (_:w648k) {p:Prop} (h:p:=by
 repeat' first|exact Qg|with_reducible apply And.intro|intro _
 all_goals first|with_reducible exact Jf|omega|exact ⟨k+1,by rw [hsn2];exact Qy,by omega,by omega⟩|skip):p:=h
structure w646k:Prop
theorem w646k.k (_:w646k) {p:Prop} (h:p:=by
 repeat' first|exact Qg|with_reducible apply And.intro|intro _
 all_goals first|with_reducible exact Jf|omega|skip
 refine Zh [11,53,54,55,56,57,58,59,60,61,62,63,64,65,66,67,68,69,70,71,72,73,74,75,76,77,78,79,80,81,82,83,84,85,86,87,88,89,90,91,92,93,94,95,96,97,98,99,100,101] (fun j:Nat=>[(7,.sl 13 (F.map (enc:Bd→D)).length),(10,.d (.int .i64 0))]) (fun j:Nat=>[(13,.row 2 (F.map enc) 0)]) (fun j:Nat=>True) (fun j:Nat=>0) 0 ?_ ?_ ?_
 ·trivial
 ·exact Qy
 rintro j -;rcases Zl 0 yd.length with ⟨hjlt,Zu⟩|⟨hjlt,Zu⟩
 ·rw [Int.natCast_zero] at Zu;have Kq:w647k:=⟨⟩;exact Cj
 ·rw [Int.natCast_zero] at Zu;have Kq:w648k:=⟨⟩;exact Cj):p:=h
structure w649k:Prop
theorem w649k.k (_:w649k) {p:Prop} (h:p:=by
 repeat' first|exact Qg|with_reducible apply And.intro|intro _
 all_goals first|with_reducible exact Jf|omega|exact ⟨i+1,by exact Qy,by omega,by omega⟩|skip):p:=h
structure w642k:Prop
theorem w642k.k (_:w642k) {p:Prop} (h:p:=by
 repeat' first|exact Qg|with_reducible apply And.intro|intro _
 all_goals first|with_reducible exact Jf|omega|skip
 refine Zh [10,11,47,48,49,50,51,52,53,54,55,56,57,58,59,60,61,62,63,64,65,66,67,68,69,70,71,72,73,74,75,76,77,78,79,80,81,82,83,84,85,86,87,88,89,90,91,92,93,94,95,96,97,98,99,100,101] (fun k:Nat=>[(7,.sl 13 ((L7 l x E k).map (enc:Bd→D)).length),(9,.d (.int .i64 k))]) (fun k:Nat=>[(13,.row 2 ((L7 l x E k).map enc) 0)]) (fun k:Nat=>k≤l.length) (fun k:Nat=>l.length-k) 0 ?_ ?_ ?_
 ·omega
 ·have Ks:=@Zaj;exact Qy
 rintro k hk;have hFl:=Ze6 hE (x:=x) (E:=E) (k:=k);rcases Zl k l.length with ⟨hklt,Qz⟩|⟨hklt,Qz⟩
 ·have Zv:=Zo Jl hklt;have hsn2:=cP (x:=x) (E:=E) hklt;have hkmem:l.getD k Jl∈l:=by simp [hklt]
  have hkd:=hE.defs _ hkmem;have hkn:=hE.name _ hkmem;have hkdn:=hE.dname _ hkmem;obtain ⟨Y,hY⟩:=exq (l.getD k Jl);rw [hY] at Zv hsn2 hkd hkn hkdn;obtain ⟨yn,yi,yd,ys⟩:=Y;simp only at hkd hkn hkdn;have hof:Nv x ⟨yn,yi,yd,ys⟩=if yn=x then yd.map (Zb7 (yn++[33])) else []:=rfl
  rw [hof] at hsn2;obtain ⟨F,hF⟩:=exq (L7 l x E k);rw [hF] at hFl hsn2 ⊢;have hFlen:F.length≤20000*2000+20000:=by omega
  by_cases hyn:yn=x
  ·rw [if_pos hyn] at hsn2;have Zy:(yn==x)=true:=by rw [Zp];exact hyn
   have Kq:w643k:=⟨⟩;exact Cj
  ·rw [if_neg hyn,List.append_nil] at hsn2;have Zy:(yn==x)=false:=by rw [Zf];exact hyn
   clear hkdn hin;have Kq:w646k:=⟨⟩;exact Cj
 ·have hkl:k=l.length:=by omega
  have hnx:L7 l x E k=P2 l mi (i+1):=by rw [hkl,hsn]
  rw [hnx];clear hin;have Kq:w649k:=⟨⟩;exact Cj):p:=h
structure w651k:Prop
theorem w651k.k (_:w651k) {p:Prop} (h:p:=by
 repeat' first|exact Qg|with_reducible apply And.intro|intro _
 all_goals first|with_reducible exact Jf|omega|exact ⟨j+1,by rw [hsn4];(have Ks:=@Gz;exact Qy),by omega,by omega⟩|skip):p:=h
structure w650k:Prop
theorem w650k.k (_:w650k) {p:Prop} (h:p:=by
 repeat' first|exact Qg|with_reducible apply And.intro|intro _
 all_goals first|with_reducible exact Jf|omega|skip
 refine Zh [102,103,104,105,106,107,108,109,110,111,112,113,114,115,116,117,118,119,120,121,122,123,124,125,126,127,128] (fun j:Nat=>[(7,.sl 13 ((P3 [] md E j).map (enc:Bd→D)).length),(12,.d (.int .i64 j))]) (fun j:Nat=>[(13,.row 2 ((P3 [] md E j).map enc) 0)]) (fun j:Nat=>j≤d) (fun j:Nat=>d-j) 0 ?_ ?_ ?_
 ·omega
 ·have Ks:=@R9;exact Qy
 rintro j hj;have hGl:=bY (p:=[]) (ds:=md) (E:=E) (j:=j);rcases Zl j d with ⟨hjlt,Zu⟩|⟨hjlt,Zu⟩
 ·have hjm:j<md.length:=by omega
  have Zx:=Zo Jq hjm;have hsn4:=Aa (p:=[]) (E:=E) hjm;obtain ⟨Z,hZ⟩:=exq (md.getD j Jq);rw [hZ] at Zx hsn4;obtain ⟨zn,zt,ze⟩:=Z;obtain ⟨G,hG⟩:=exq (P3 [] md E j);rw [hG] at hsn4 hGl ⊢;have hbn:Zb7 [] ⟨zn,zt,ze⟩=⟨zn,zt⟩:=rfl;rw [hbn] at hsn4;have Kq:w651k:=⟨⟩;exact Cj
 ·have hje:j=d:=by omega
  rw [hje] at Zu ⊢;rw [hR3];exact Zmq):p:=h
structure w641k:Prop
theorem w641k.k (_:w641k) {p:Prop} (h:p:=by
 repeat' first|exact Qg|with_reducible apply And.intro|intro _
 all_goals first|with_reducible exact Jf|omega|skip
 have hin:=hE.iname _ hmem0;rw [hM] at hin;simp only at hin;refine Zh [9,10,11,37,38,39,40,41,42,43,44,45,46,47,48,49,50,51,52,53,54,55,56,57,58,59,60,61,62,63,64,65,66,67,68,69,70,71,72,73,74,75,76,77,78,79,80,81,82,83,84,85,86,87,88,89,90,91,92,93,94,95,96,97,98,99,100,101] (fun i:Nat=>[(7,.sl 13 ((P2 l mi i).map (enc:Bd→D)).length),(8,.d (.int .i64 i))]) (fun i:Nat=>[(13,.row 2 ((P2 l mi i).map enc) 0)]) (fun i:Nat=>i≤mi.length) (fun i:Nat=>mi.length-i) 0 ?_ ?_ ?_
 ·omega
 ·have Ks:=@cR;exact Qy
 rintro i hi;have hEl:=bJ hE (is:=mi) (i:=i);rcases Zl i mi.length with ⟨hilt,Q0⟩|⟨hilt,Q0⟩
 ·have Q2:=Zo ([]:List UInt8) hilt;have hsn:=cS (l:=l) hilt;obtain ⟨x,hx⟩:=exq (mi.getD i []);rw [hx] at Q2 hsn;have Q2:el (mi.map enc) i=(.str x:D):=Q2;obtain ⟨E,hEq⟩:=exq (P2 l mi i);rw [hEq] at hsn hEl ⊢;have Kq:w642k:=⟨⟩;exact Cj
 ·have hie:i=mi.length:=by omega
  rw [hie] at hEl Q0 ⊢;rw [Cc] at hEl ⊢;obtain ⟨E,hEq⟩:=exq (mi.flatMap (Eo l));rw [hEq] at hEl hR2 ⊢;have hEl2:E.length≤40000000:=by omega
  have hR3:P3 [] md E d=R:=hR2;clear hin;have Kq:w650k:=⟨⟩;exact Cj):p:=h
theorem good_Env9:Qr Tryz.prog (21,aN):=by
 obtain ⟨Kx,Kt,Kc,Kd,Kb,Ku,Kw,K,_⟩:=Wi Z3 Zn [] false Wg;have Ko:=aN.eq_def;refine Wh K Tryz.func21 [.tmp 6] rfl 130 rfl (fun c hc cvs hpre=>?_);unfold aN at hpre;obtain ⟨⟨l⟩,m,d,rfl,hE⟩:=Gl hpre;simp only at hE;clear hpre;obtain ⟨R,Qi⟩:=exq (aW l m d);have hR2:=Qi;unfold aW at hR2;have hlen:=hE.len;cases hc;refine Ys 8 ?_;rcases Xf m 0 with ⟨h1,Qh⟩|⟨h1,Qh⟩
 ·rw [if_pos (.inl h1)] at hR2;subst hR2;exact Zmq
 obtain ⟨m,rfl⟩:∃ n:Nat,m=n:=⟨m.toNat,by omega⟩
 rcases Mo (l.length:Int) (m:Int) with ⟨h2,Z2⟩|⟨h2,Z2⟩
 ·rw [if_pos (.inr (.inl h2))] at hR2;subst hR2;exact Zmq
 rcases Xf d 0 with ⟨h3,Qd⟩|⟨h3,Qd⟩
 ·rw [if_pos (.inr (.inr (.inl h3)))] at hR2;subst hR2;exact Zmq
 obtain ⟨d,rfl⟩:∃ n:Nat,d=n:=⟨d.toNat,by omega⟩
 have hml:m<l.length:=by omega
 have Z9:=Zo Jl hml;have hmem:l.getD m Jl∈l:=by simp [hml]
 have hmem0:=hmem;have hil:=hE.imps _ hmem;have hdl:=hE.defs _ hmem;rw [Ze,Ze] at hR2;unfold aV at hR2;obtain ⟨M,hM⟩:=exq (l.getD m Jl);rw [hM] at Z9 hil hdl hR2;obtain ⟨mn,mi,md,ms⟩:=M;simp only at hil hdl hR2;have Qu:((m:Nat):Int).toNat=m:=Ze m;rcases Mo (md.length:Int) (d:Int) with ⟨h4,Z5⟩|⟨h4,Z5⟩
 ·rw [if_pos (.inr (.inr (.inr h4)))] at hR2;subst hR2;exact Zmq
 rw [if_neg (by omega)] at hR2
 have Kq:w641k:=⟨⟩;exact Cj
theorem Zll {x y:List UInt8}:D.eqb (.str x) (.str y)=(x==y):=rfl
theorem cV:∀ {ks:List (List UInt8)},Ux .str (ks.map enc)=True
 | []=>rfl
 | k::ks=>by
  show (True∧Ux .str (ks.map enc))=True;rw [cV,true_and]
theorem Zbb {x:List UInt8}:∀ {ks:List (List UInt8)},Tx (.str x) (ks.map enc)=Zbk x ks
 | []=>rfl
 | k::ks=>by
  show (D.eqb (.str x) (.str k)||Tx (.str x) (ks.map enc))=_;rw [Zbb,Zll,Zbk]
theorem Zhj {x:List UInt8} {z:Mod6}:∀ {ks:List (List UInt8)} {vs:List Mod6},eE (.str x) (enc z) (ks.map enc) (vs.map enc)=enc (E4 x z ks vs)
 | [],vs=>by cases vs<;>rfl
 | k::ks,[]=>rfl
 | k::ks,v::vs=>by
  show cond (D.eqb (.str x) (.str k)) (enc v) (eE (.str x) (enc z) (ks.map enc) (vs.map enc))=_;rw [Zhj,Zll,E4];cases x==k<;>rfl
theorem Zk1 {x:List UInt8} {ks:List (List UInt8)} {vs:List Mod6}:eE (.str x) (.agg [.str [],.list 1 [],.list 3 [],.list 3 []]) (ks.map enc) (vs.map enc)=enc (E4 x Jl ks vs):=Zhj (z:=Jl)
theorem Zm1 {x:List UInt8} {ks:List (List UInt8)}:gG (.str x) (ks.map enc)=(As x ks).map enc:=by
 unfold gG As;rw [Zbb];cases Zbk x ks
 ·simp only [cond_false,List.map_append,List.map_cons,List.map_nil];rfl
 ·rfl
theorem Zdo {x:List UInt8} {v:Mod6}:∀ {ks:List (List UInt8)} {vs:List Mod6},Eu (.str x) (enc v) (ks.map enc) (vs.map enc)=(E3 x v ks vs).map enc
 | [],vs=>by cases vs<;>rfl
 | k::ks,[]=>rfl
 | k::ks,u::vs=>by
  show cond (D.eqb (.str x) (.str k)) (enc v::vs.map enc) (enc u::Eu (.str x) (enc v) (ks.map enc) (vs.map enc))=_;rw [Zdo,Zll,E3];cases x==k<;>rfl
structure MM where
 ks:List (List UInt8)
 vs:List Mod6
instance encMM:Enc MM:=⟨fun a=>.map (a.ks.map enc) (a.vs.map enc),fun x=>match x with
 | .map a b=>⟨a.map dec,b.map dec⟩
 | _=>⟨[],[]⟩,fun a=>by
  obtain ⟨k,v⟩:=a;have h1:(k.map (enc:List UInt8→D)).map dec=k:=Jz;have h2:(v.map (enc:Mod6→D)).map dec=v:=Jz;simp only [h1,h2]⟩
theorem Zln {a:List (List UInt8)} {b:List Mod6}:(enc (MM.mk a b):D)=.map (a.map enc) (b.map enc):=rfl
def N1 (l:List Mod6):Nat→MM
 | 0=>⟨[],[]⟩
 | k+1=>⟨As (nm l k) (N1 l k).ks,E3 (nm l k) (l.getD k Jl) (N1 l k).ks (N1 l k).vs⟩
def Zkb (l:List Mod6):Prop:=∀ i j,i<j→j<l.length→nm l i≠nm l j
theorem Zdg (l:List Mod6):∀ k,(N1 l k).ks.length=(N1 l k).vs.length
 | 0=>rfl
 | k+1=>by
  show (As (nm l k) (N1 l k).ks).length=(E3 (nm l k) (l.getD k Jl) (N1 l k).ks (N1 l k).vs).length;rw [zG (Zdg l k)]
theorem Zmz {l:List Mod6} {k:Nat}:(l.getD k Jl).name=nm l k:=rfl
theorem Zdh {l:List Mod6} (hD:Zkb l) (i:List UInt8):∀ k,k≤l.length→(E4 i Jl (N1 l k).ks (N1 l k).vs).defs.map (Zb7 (i++[33]))=(l.take k).flatMap (Nv i)∧(E4 i Jl (N1 l k).ks (N1 l k).vs∈l∨E4 i Jl (N1 l k).ks (N1 l k).vs=Jl)
 | 0,_=>⟨rfl,.inr rfl⟩
 | k+1,hk=>by
  obtain ⟨ih1,ih2⟩:=Zdh hD i k (by omega)
  have hkl:k<l.length:=by omega
  have hM:N1 l (k+1)=⟨As (nm l k) (N1 l k).ks,E3 (nm l k) (l.getD k Jl) (N1 l k).ks (N1 l k).vs⟩:=rfl;rw [hM];simp only;rw [Zd2 (Zdg l k),C6 (Nv i) Jl hkl];cases h:(i==nm l k) with
  | false =>
   rw [Zf] at h;rw [cond_false,ih1];refine ⟨?_,ih2⟩;unfold Nv;rw [if_neg (fun e=>h e.symm),List.append_nil]
  | true =>
   have h:=eq_of_beq h;rw [cond_true];refine ⟨?_,.inl (by simp [hkl])⟩
   have hz:(l.take k).flatMap (Nv i)=[]:=by
    rw [List.flatMap_eq_nil_iff];intro x hx;obtain ⟨j,hj,rfl⟩:=List.mem_iff_getElem.1 hx;rw [List.length_take] at hj;unfold Nv;rw [if_neg];intro e;refine hD j k (by omega) hkl ?_
    have hj2:j<l.length:=by omega
    have hg:l.getD j m0=l[j]:=by simp [hj2]
    show (l.getD j m0).name=nm l k;rw [←h,←e,hg,List.getElem_take]
   rw [hz,List.nil_append];unfold Nv;have h2:(l.getD k Jl).name=i:=h.symm;rw [if_pos h2,h2]
def Bp:Con:=Xy (fun (l:Sl Mod6)=>l.l.length≤1000000) (fun l=>N1 l.l l.l.length)
structure w653k:Prop
theorem w653k.k (_:w653k) {p:Prop} (h:p:=by
 repeat' first|exact Qg|with_reducible apply And.intro|intro _
 all_goals first|with_reducible exact Jf|omega|exact ⟨k+1,by rw [hS];exact Qy,by omega,by omega⟩|skip):p:=h
structure w652k:Prop
theorem w652k.k (_:w652k) {p:Prop} (h:p:=by
 repeat' first|exact Qg|with_reducible apply And.intro|intro _
 refine Zh [5,10,11,12,13,14,15,16,17] (fun k:Nat=>[(9,.d (.int .i64 k))]) (fun k:Nat=>[(6,.mp ((N1 l k).ks.map enc) ((N1 l k).vs.map enc) false)]) (fun k:Nat=>k≤l.length) (fun k:Nat=>l.length-k) 0 ?_ ?_ ?_
 ·omega
 ·have Ks:=@N1.eq_1;have Iv:=@N1.eq_2;exact Qy
 rintro k hk;rcases Zl k l.length with ⟨hlt,Qh⟩|⟨hlt,Qh⟩
 ·have Qi:=Zo Jl hlt;have hS:N1 l (k+1)=⟨As (nm l k) (N1 l k).ks,E3 (nm l k) (l.getD k Jl) (N1 l k).ks (N1 l k).vs⟩:=rfl;rw [←Zmz] at hS;obtain ⟨x,hx⟩:=exq (l.getD k Jl);obtain ⟨A,Qd⟩:=exq (N1 l k);rw [hx] at Qi;rw [hx,Qd] at hS;rw [Qd];obtain ⟨ks,vs⟩:=A;obtain ⟨mn,mi,md,ms⟩:=x;simp only at hS;have Z2:=Zdo (x:=mn) (v:=⟨mn,mi,md,ms⟩) (ks:=ks) (vs:=vs);rw [Q4] at Z2;have Z5:=@cV;have Z9:=@Zbb;have Qu:=@Zm1;have Kq:w653k:=⟨⟩;exact Cj
 ·have hkl:k=l.length:=by omega
  rw [hkl];rw [hkl] at Qh;obtain ⟨A,Qd⟩:=exq (N1 l l.length);rw [Qd];obtain ⟨ks,vs⟩:=A;have Z5:=@Zln;exact Zmq):p:=h
theorem good_modulesS:Qr Tryz.prog (50,Bp):=by
 obtain ⟨Kx,Kt,Kc,Kd,Kb,Ku,Kw,K,_⟩:=Wi Z3 Zn [] false Wg;have Ko:=Bp.eq_def;refine Wh K Tryz.func50 [.tmp 2] rfl 19 rfl (fun c hc cvs hpre=>?_);unfold Bp at hpre;obtain ⟨⟨l⟩,rfl,hl⟩:=J4 hpre;simp only at hl;clear hpre;cases hc;have Kq:w652k:=⟨⟩;exact Cj
def Gk {A B C E:Type} [Enc A] [Enc B] [Enc C] [Enc E] [Sz E] (p:A→B→C→Prop) (f:A→B→C→List E):Con:=⟨[false,false,false],[true],fun c=>match c with
 | [.d x,.d y,.d z]=>Up A x∧Up B y∧Up C z∧p (dec x) (dec y) (dec z)
 | _=>False,fun c=>match c with
 | [.d x,.d y,.d z]=>.own (Sz.sz E) ((f (dec x) (dec y) (dec z)).map enc)
 | _=>.d .nilp⟩
theorem Zj0 {A B C E:Type} [Enc A] [Enc B] [Enc C] [Enc E] [Sz E] {p:A→B→C→Prop} {f:A→B→C→List E} {c:List CV} (h:(Gk p f).pre c):∃ a b d,c=[.d (enc a),.d (enc b),.d (enc d)]∧p a b d:=by
 unfold Gk at h;simp only at h;split at h
 ·next x y z=>exact ⟨dec x,dec y,dec z,by rw [←h.1,←h.2.1,←h.2.2.1],h.2.2.2⟩
 ·exact h.elim
def Fc:Con:=Gk (fun (l:Sl Mod6) (_ _:Int)=>EnvOk l.l∧Zkb l.l) (fun l m d=>aW l.l m d)
structure w656k:Prop
theorem w656k.k (_:w656k) {p:Prop} (h:p:=by
 repeat' first|exact Qg|with_reducible apply And.intro|intro _
 all_goals first|with_reducible exact Jf|omega|(simp only [Zj,Zi,List.length_nil];omega)|exact ⟨j+1,by rw [hsn4];(have Ks:=@Gz;exact Qy),by omega,by omega⟩|skip):p:=h
structure w657k:Prop
theorem w657k.k (_:w657k) {p:Prop} (h:p:=by
 repeat' first|exact Qg|with_reducible apply And.intro|intro _
 all_goals first|with_reducible exact Jf|omega|exact ⟨i+1,by exact Qy,by omega,by omega⟩|skip):p:=h
structure w655k:Prop
theorem w655k.k (_:w655k) {p:Prop} (h:p:=by
 repeat' first|exact Qg|with_reducible apply And.intro|intro _
 all_goals first|with_reducible exact Jf|omega|rfl|skip
 refine Zh [12,55,56,57,58,59,60,61,62,63,64,65,66,67,68,69] (fun j:Nat=>[(8,.sl 68 ((P3 (x++[33]) yd E j).map (enc:Bd→D)).length),(54,.d (.int .i64 j))]) (fun j:Nat=>[(68,.row 2 ((P3 (x++[33]) yd E j).map enc) 0)]) (fun j:Nat=>j≤yd.length) (fun j:Nat=>yd.length-j) 0 ?_ ?_ ?_
 ·omega
 ·have Ks:=@R9;exact Qy
 rintro j hj;have hGl:=bY (p:=x++[33]) (ds:=yd) (E:=E) (j:=j);rcases Zl j yd.length with ⟨hjlt,Zu⟩|⟨hjlt,Zu⟩
 ·have Zx:=Zo Jq hjlt;have hsn4:=Aa (p:=x++[33]) (E:=E) hjlt;have hzn:=hydn (yd.getD j Jq) (by simp [hjlt])
  obtain ⟨Z,hZ⟩:=exq (yd.getD j Jq);rw [hZ] at Zx hsn4 hzn;obtain ⟨zn,zt,ze⟩:=Z;simp only at hzn;obtain ⟨G,hG⟩:=exq (P3 (x++[33]) yd E j);rw [hG] at hsn4 hGl ⊢;have hbn:Zb7 (x++[33]) ⟨zn,zt,ze⟩=⟨x++[33]++zn,zt⟩:=rfl;rw [hbn] at hsn4;clear hydn;have Zs:=@Gk.eq_def;have Kq:w656k:=⟨⟩;exact Cj
 ·have hje:j=yd.length:=by omega
  have hnx:P3 (x++[33]) yd E j=P2 l mi (i+1):=by rw [hje,hnx0]
  rw [hnx];clear hydn;have Zs:=@Gk.eq_def;have Kq:w657k:=⟨⟩;exact Cj):p:=h
structure w659k:Prop
theorem w659k.k (_:w659k) {p:Prop} (h:p:=by
 repeat' first|exact Qg|with_reducible apply And.intro|intro _
 all_goals first|with_reducible exact Jf|omega|exact ⟨j+1,by rw [hsn4];(have Ks:=@Gz;exact Qy),by omega,by omega⟩|skip):p:=h
structure w658k:Prop
theorem w658k.k (_:w658k) {p:Prop} (h:p:=by
 repeat' first|exact Qg|with_reducible apply And.intro|intro _
 all_goals first|with_reducible exact Jf|omega|skip
 refine Zh [14,80,81,82,83,84,85,86,87,88,89,90,91] (fun j:Nat=>[(8,.sl 68 ((P3 [] md E j).map (enc:Bd→D)).length),(79,.d (.int .i64 j))]) (fun j:Nat=>[(68,.row 2 ((P3 [] md E j).map enc) 0)]) (fun j:Nat=>j≤d) (fun j:Nat=>d-j) 0 ?_ ?_ ?_
 ·omega
 ·have Ks:=@R9;exact Qy
 rintro j hj;have hGl:=bY (p:=[]) (ds:=md) (E:=E) (j:=j);rcases Zl j d with ⟨hjlt,Zu⟩|⟨hjlt,Zu⟩
 ·have hjm:j<md.length:=by omega
  have Zx:=Zo Jq (show j<(md.take d).length by omega)
  have hgd:(md.take d).getD j Jq=md.getD j Jq:=by
   rw [Zc,Zc,List.getElem?_take_of_lt hjlt]
  rw [hgd] at Zx;have hsn4:=Aa (p:=[]) (E:=E) hjm;obtain ⟨Z,hZ⟩:=exq (md.getD j Jq);rw [hZ] at Zx hsn4;obtain ⟨zn,zt,ze⟩:=Z;obtain ⟨G,hG⟩:=exq (P3 [] md E j);rw [hG] at hsn4 hGl ⊢;have hbn:Zb7 [] ⟨zn,zt,ze⟩=⟨zn,zt⟩:=rfl;rw [hbn] at hsn4;have Zs:=@Gk.eq_def;have Kq:w659k:=⟨⟩;exact Cj
 ·have hje:j=d:=by omega
  rw [hje] at Zu ⊢;rw [hR3];have Zs:=@Gk.eq_def;exact Zmj):p:=h
structure w654k:Prop
theorem w654k.k (_:w654k) {p:Prop} (h:p:=by
 repeat' first|exact Qg|with_reducible apply And.intro|intro _
 all_goals first|with_reducible exact Jf|omega|skip
 refine Zh [10,12,46,47,48,49,50,51,52,53,54,55,56,57,58,59,60,61,62,63,64,65,66,67,68,69,70] (fun i:Nat=>[(8,.sl 68 ((P2 l mi i).map (enc:Bd→D)).length),(45,.d (.int .i64 i))]) (fun i:Nat=>[(68,.row 2 ((P2 l mi i).map enc) 0)]) (fun i:Nat=>i≤mi.length) (fun i:Nat=>mi.length-i) 0 ?_ ?_ ?_
 ·omega
 ·have Ks:=@cR;exact Qy
 rintro i hi;have hEl:=bJ hE (is:=mi) (i:=i);rcases Zl i mi.length with ⟨hilt,Q2⟩|⟨hilt,Q2⟩
 ·have Qz:=Zo ([]:List UInt8) hilt;have hsn:=cS (l:=l) hilt;have hxl:=hin (mi.getD i []) (by simp [hilt])
  obtain ⟨x,hx⟩:=exq (mi.getD i []);rw [hx] at Qz hsn hxl;have Qz:el (mi.map enc) i=(.str x:D):=Qz;obtain ⟨E,hEq⟩:=exq (P2 l mi i);rw [hEq] at hsn hEl ⊢;obtain ⟨hg1,hg2⟩:=hmodm x;clear hmodm;have hyd:(E4 x Jl ks vs).defs.length≤1000:=by
   rcases hg2 with h|h
   ·exact hE.defs _ h
   ·rw [h];decide
  have hydn:∀ d∈(E4 x Jl ks vs).defs,d.name.length≤1000000:=by
   rcases hg2 with h|h
   ·exact hE.dname _ h
   ·rw [h];intro d hd;cases hd
  obtain ⟨Y,Zv⟩:=exq (E4 x Jl ks vs);rw [Zv] at hg1 hyd hydn;clear hg2;obtain ⟨yn,yi,yd,ys⟩:=Y;simp only at hg1 hyd hydn;rw [List.take_length] at hg1;have hnx0:P3 (x++[33]) yd E yd.length=P2 l mi (i+1):=by
   rw [hsn,Zak,hg1];unfold L7;rw [List.take_length]
  clear hin;have Zs:=@cV;have Zt:=@Zbb;have Z8:=@Zk1;have Qt:=@Gk.eq_def;have Kq:w655k:=⟨⟩;exact Cj
 ·have hie:i=mi.length:=by omega
  clear hmodm hin;rw [hie] at hEl Q2 ⊢;rw [Cc] at hEl ⊢;obtain ⟨E,hEq⟩:=exq (mi.flatMap (Eo l));rw [hEq] at hEl hR2 ⊢;have hEl2:E.length≤40000000:=by omega
  have hR3:P3 [] md E d=R:=hR2;have Zz:List.take d (md.map (enc:Def6→D))=(md.take d).map enc:=List.map_take.symm;have Z4:(md.take d).length=d:=by rw [List.length_take];omega
  have Zs:=@Gk.eq_def;have Kq:w658k:=⟨⟩;exact Cj):p:=h
theorem good_EnvS:Qr Tryz.prog (20,Fc):=by
 obtain ⟨Kx,Kt,Kc,Kd,Kb,Ku,Kw,K,Yj,_⟩:=Wi Z3 Zn [] false (Ja good_modulesS Bp.eq_def Wg);have Ko:=Fc.eq_def;refine Wh K Tryz.func20 [.tmp 6] rfl 93 rfl (fun c hc cvs hpre=>?_);unfold Fc at hpre;obtain ⟨⟨l⟩,m,d,rfl,hE,hD⟩:=Zj0 hpre;simp only at hE hD;clear hpre;obtain ⟨R,Qi⟩:=exq (aW l m d);have hR2:=Qi;unfold aW at hR2;have hlen:=hE.len;cases hc;refine Ys 5 ?_;rcases Xf m 0 with ⟨h1,Qh⟩|⟨h1,Qh⟩
 ·rw [if_pos (.inl h1)] at hR2;subst hR2;have Zs:=@Gk.eq_def;exact Zmj
 obtain ⟨m,rfl⟩:∃ n:Nat,m=n:=⟨m.toNat,by omega⟩
 rcases Mo (l.length:Int) (m:Int) with ⟨h2,Z2⟩|⟨h2,Z2⟩
 ·rw [if_pos (.inr (.inl h2))] at hR2;subst hR2;have Zs:=@Gk.eq_def;exact Zmj
 rcases Xf d 0 with ⟨h3,Qd⟩|⟨h3,Qd⟩
 ·rw [if_pos (.inr (.inr (.inl h3)))] at hR2;subst hR2;have Zs:=@Gk.eq_def;exact Zmj
 obtain ⟨d,rfl⟩:∃ n:Nat,d=n:=⟨d.toNat,by omega⟩
 have hml:m<l.length:=by omega
 have Z9:=Zo Jl hml;have hmem:l.getD m Jl∈l:=by simp [hml]
 have hil:=hE.imps _ hmem;have hdl:=hE.defs _ hmem;rw [Ze,Ze] at hR2;unfold aV at hR2;obtain ⟨M,hM⟩:=exq (l.getD m Jl);rw [hM] at Z9 hil hdl hR2;obtain ⟨mn,mi,md,ms⟩:=M;simp only at hil hdl hR2;have Qu:((m:Nat):Int).toNat=m:=Ze m;have Zy:((d:Nat):Int).toNat=d:=Ze d;have hmodm:=fun i=>Zdh hD i l.length (Zm _);obtain ⟨A,Q0⟩:=exq (N1 l l.length);rw [Q0] at hmodm;rcases Mo (md.length:Int) (d:Int) with ⟨h4,Z5⟩|⟨h4,Z5⟩
 ·rw [if_pos (.inr (.inr (.inr h4)))] at hR2;subst hR2;have Zs:=@Gk.eq_def;exact Zmq
 rw [if_neg (by omega)] at hR2
 have hin:=hE.iname _ hmem;rw [hM] at hin;simp only at hin;obtain ⟨ks,vs⟩:=A;simp only at hmodm;have Zs:=@Zln;have Zt:=@Gk.eq_def;have Kq:w654k:=⟨⟩;exact Cj
theorem Zi0 {l:List Us} (hU:Zgw l) (hF:Zj9 l) (hA:¬ Zox l) {r:Nat} (hr:r<l.length) :
  ∃ k:Nat,Wx l ((List.range l.length).map (Tv l (U9 l r))) l.length=(k:Int)∧k<l.length∧Tv l (U9 l r) k=true:=by
 have ih:=Za6 hU hF hA r (by omega)
 have hlen:=Ug l r;obtain ⟨O,hO⟩:=exq (U9 l r);rw [hO] at ih hlen ⊢;have hex:∃ k:Nat,k<l.length∧(k:Int)∉O:=Classical.byContradiction fun hn=>by
  have:=Zgu l.length O fun k hk=>Classical.byContradiction fun h=>hn ⟨k,hk,h⟩;omega
 obtain ⟨k,hk,hkO⟩:=hex;have hkC:nm l k∉O.map fun x=>nm l x.toNat:=fun h=>by
  obtain ⟨y,hy,he⟩:=List.mem_map.1 h;obtain ⟨k',rfl,hk'⟩:=ih y hy;rw [Ze] at he;have:=fC hU hk' hk he;exact hkO (this▸hy)
 obtain ⟨j,hj,h1,h2⟩:=Zc2 hU hF hA (C:=O.map fun x=>nm l x.toNat) _ k hk (Zm _) hkC;have hmay:Tv l O j=true:=by
  unfold Tv;rw [Zg,Bool.not_eq_true'];refine ⟨?_,?_⟩
  ·rw [←Bool.not_eq_true,Fy];exact fun h=>h1 (List.mem_map.2 ⟨_,h,by rw [Ze]⟩)
  ·unfold Cr;rw [Ze,List.all_eq_true];intro s hs;obtain ⟨y,hy,he⟩:=List.mem_map.1 (h2 s hs);obtain ⟨k',rfl,hk'⟩:=ih y hy;rw [Ze] at he;rw [Fy,←he,Xv,hU k' hk'];exact hy
 rcases Rz (l:=l) (is:=(List.range l.length).map (Tv l O)) l.length with ⟨_,hno⟩|⟨k',h,hk',hm,_⟩
 ·have:=hno j hj;rw [Et hj,hmay] at this;cases this
 ·rw [Et hk'] at hm;exact ⟨k',h,hk',hm⟩
theorem Fs {l:List Us}:∀ {r i:Nat},i<r→(U9 l r).getD i 0=Wx l ((List.range l.length).map (Tv l (U9 l i))) l.length
 | r+1,i,h=>by
  rw [U9,Zc];rcases Nat.lt_or_ge i r with h1|h1
  ·rw [List.getElem?_append_left (by rw [Ug];exact h1),←Zc]
   exact Fs h1
  ·have:i=r:=by omega
   subst this;rw [List.getElem?_append_right (by rw [Ug];exact Zm _),Ug,Nat.sub_self]
   rfl
theorem Zky {l:List Us} {r:Nat} {x:Int} (h:x∈U9 l r):∃ j,j<r∧(U9 l r).getD j 0=x:=by
 obtain ⟨j,hj,rfl⟩:=List.mem_iff_getElem.1 h;rw [Ug] at hj;exact ⟨j,hj,by rw [Zc,Zd (by rw [Ug];exact hj)];rfl⟩
theorem Zfw {l:List Us} {r i:Nat} (h:i<r):(U9 l r).getD i 0∈U9 l r:=by
 rw [Zc,Zd (by rw [Ug];exact h)]
 exact List.getElem_mem _
theorem Zc8 {l:List Us} (h20:l.length≤20) (h:(K1 l).2.2=0):Zgw l∧Zj9 l∧¬ Zox l∧(K1 l).1.l=U9 l l.length:=by
 cases hu:(List.range l.length).find? (iC l) with
 | some i=>unfold K1 at h;rw [hu] at h;cases h
 | none =>
 cases hf:(List.range l.length).find? (Ew l) with
 | some i=>unfold K1 at h;rw [hu] at h;simp only at h;rw [hf] at h;cases h
 | none =>
 cases hc:Xu 0 (Wx l ((List.range l.length).map (cG l)) l.length) with
 | true =>
  unfold K1 at h;rw [hu] at h;simp only at h;rw [hf] at h;simp only at h;rw [hc] at h;cases h
 | false =>
  refine ⟨Zce.1 hu,Zd3.1 hf,fun h=>?_,?_⟩
  ·rw [(Zes h20).2 h] at hc;cases hc
  ·unfold K1;rw [hu];simp only;rw [hf];simp only;rw [hc];rfl
def Zib (l:List Mod6):Prop:=∀ m,m<l.length→∀ s∈Zbi l m,∃ k,k<m∧nm l k=s
theorem Zkx {l:List Mod6} {O:List Int} {i k:Nat} (hi:i<O.length) (h:O.getD i 0=(k:Int)):(H9 l O).getD i m0=l.getD k m0:=by
 unfold H9;rw [Zc,List.getElem?_map,Zd hi];rw [Zc,Zd hi] at h;simp only [Option.getD_some] at h;simp only [Option.map_some,Option.getD_some];rw [h,Ze];rfl
theorem Zc7 {l:List Mod6} (hU:Zgw l) (hF:Zj9 l) (hA:¬ Zox l):Zkb (H9 l (U9 l l.length))∧Zib (H9 l (U9 l l.length)):=by
 have hlen:(H9 l (U9 l l.length)).length=l.length:=by unfold H9;rw [Zk,Ug]
 have hat:∀ i,i<l.length→∃ k:Nat,(U9 l l.length).getD i 0=k∧k<l.length∧Tv l (U9 l i) k=true∧(H9 l (U9 l l.length)).getD i m0=l.getD k m0:=fun i hi=>by
  obtain ⟨k,h1,h2,h3⟩:=Zi0 hU hF hA hi;rw [←Fs hi] at h1;exact ⟨k,h1,h2,h3,Zkx (by rw [Ug];exact hi) h1⟩
 have hmem:∀ i j,j<i→i≤l.length→∃ k:Nat,(U9 l l.length).getD j 0=k∧(k:Int)∈U9 l i:=fun i j hj hi=>by
  obtain ⟨k,h1,h2,_⟩:=hat j (by omega)
  refine ⟨k,h1,?_⟩;rw [←h1,Fs (show j<l.length by omega),←Fs hj]
  exact Zfw hj
 refine ⟨fun i j hij hj he=>?_,fun m hm s hs=>?_⟩
 ·rw [hlen] at hj;obtain ⟨a,a1,a2,_,a4⟩:=hat i (by omega)
  obtain ⟨b,b1,b2,b3,b4⟩:=hat j hj;unfold nm at he;rw [a4,b4] at he;have e:=fC hU a2 b2 he;subst e;obtain ⟨k,k1,k2⟩:=hmem j i hij (by omega)
  rw [a1] at k1;have:a=k:=by omega
  subst this;unfold Tv at b3;rw [Fy.2 k2] at b3;cases b3
 ·rw [hlen] at hm;obtain ⟨b,b1,b2,b3,b4⟩:=hat m hm;unfold Zbi at hs;rw [b4] at hs;unfold Tv at b3;rw [Zg] at b3;have h:=b3.2;unfold Cr at h;rw [Ze,List.all_eq_true] at h;have h:=h s hs;rw [Fy] at h;obtain ⟨j,hj,he⟩:=Zky h;obtain ⟨a,a1,a2,_,a4⟩:=hat j (by omega)
  refine ⟨j,hj,?_⟩;unfold nm;rw [a4];have hz:Xv l s=a:=by
   rw [←he,Fs hj,←Fs (show j<l.length by omega),a1]
  unfold Xv at hz;cases hr:Yv l s with
  | none=>rw [hr] at hz;simp only at hz;omega
  | some q =>
   rw [hr] at hz;simp only at hz;have:q=a:=by omega
   subst this;exact iW hr
theorem El {t:Tx9} (h:(Ud t).2=true):Zkb (Ud t).1∧Zib (Ud t).1:=by
 have hG:=A4 t;have h20:=hG.few.1;unfold Ud at h ⊢;split at h
 ·cases h
 rename_i hr;rw [if_neg hr];have he:(K1 (D5 t).1).2.2=0:=by simpa using h
 obtain ⟨h1,h2,h3,h4⟩:=Zc8 h20 he;show Zkb (H9 _ _)∧Zib (H9 _ _);rw [h4];exact Zc7 h1 h2 h3
theorem hK {l:List Mod6} (h20:l.length≤20) (hG:∀ m∈l,Good9 m):EnvOk l :=
 ⟨h20,fun m hm=>by have:=(hG m hm).name;omega,fun m hm=>(hG m hm).short,fun m hm d hd=>((hG m hm).fit d hd).name,fun m hm=>by have:=(hG m hm).ilen;omega,fun m hm=>by have:=(hG m hm).dlen;omega⟩
theorem Zld {e:List Part} (hl:e.length≤300000) (h:∀ p∈e,Tm p):Zmg e :=
 ⟨by omega,fun p hp=>⟨by have:=(h p hp).1.1;omega,by have:=(h p hp).2.1.1;omega⟩⟩
theorem Zjm {m:Mod6} (h:Good9 m):In6 m :=
 ⟨by have:=h.ilen;show _≤_;omega,by have:=h.dlen;show _≤_;omega,by have:=h.slen;show _≤_;omega,fun d hd=>by have:=(h.fit d hd).t;show _≤_;omega,fun d hd=>Zld (h.fit d hd).e (h.fit d hd).fit⟩
theorem Zin {l:List Mod6} {k:Nat} {m:Mod6} (h:Good9 m):In6 (V4 l k m):=by
 have hd:∀ d∈(V4 l k m).defs,∃ d'∈m.defs,d=X0 (ah l k) d':=fun d hd=>by
  unfold V4 at hd;simp only at hd;obtain ⟨i,hi,rfl⟩:=List.mem_mapIdx.1 hd;exact ⟨_,List.getElem_mem hi,rfl⟩
 refine ⟨by have:=h.ilen;show m.imps.length≤_;omega,by have:=h.dlen;unfold V4;simp only [List.length_mapIdx];show _≤_;omega,by have:=h.slen;show m.sites.length≤_;omega,fun d hx=>?_,fun d hx=>?_⟩
 ·obtain ⟨d',hd',rfl⟩:=hd d hx;have:=(h.fit d' hd').t;unfold X0 He;simp only [List.length_mapIdx];show _≤_;omega
 ·obtain ⟨d',hd',rfl⟩:=hd d hx;have hf:=h.fit d' hd';refine ⟨by have:=hf.e;unfold X0;simp only [List.length_mapIdx];omega,fun p hp=>?_⟩
  unfold X0 at hp;simp only at hp;obtain ⟨i,hi,rfl⟩:=List.mem_mapIdx.1 hp;have:=hf.fit _ (List.getElem_mem hi);unfold Xz He;refine ⟨?_,?_⟩
  ·have:=this.1.1;simp only [List.length_mapIdx];omega
  ·have:=this.2.1.1;simp only [List.length_mapIdx];omega
theorem Zoc {l:List Mod6} (h20:l.length≤20) (hG:∀ m∈l,Good9 m):Lo (Nc l).1.l.length∧∀ m∈(Nc l).1.l,In6 m:=by
 unfold Nc;split
 ·exact ⟨by show 0≤_;omega,fun m hm=>by cases hm⟩
 ·refine ⟨by show (l.mapIdx (V4 l)).length≤_;simp only [List.length_mapIdx];omega,fun m hm=>?_⟩
  obtain ⟨i,hi,rfl⟩:=List.mem_mapIdx.1 hm;exact Zin (hG _ (List.getElem_mem hi))
theorem Zlm {l:List Mod6} (h20:l.length≤20) (hG:∀ m∈l,Good9 m) (m d:Int):Zra (aW l m d):=by
 have hE:=hK h20 hG;have ht:∀ m∈l,∀ d∈m.defs,d.t.length≤100001:=fun m hm d hd=>((hG m hm).fit d hd).t;unfold aW;split
 ·exact ⟨by show 0≤_;omega,fun b hb=>by cases hb⟩
 rename_i hn;have hml:m.toNat<l.length:=by omega
 have hmem:l.getD m.toNat Jl∈l:=by simp [hml]
 unfold aV;refine ⟨?_,fun b hb=>?_⟩
 ·have h1:=Zbh hE (l.getD m.toNat Jl).imps;have h2:=hE.imps _ hmem;have h3:=hE.defs _ hmem;rw [Zj,Zk,List.length_take];show _≤_;omega
 ·rcases List.mem_append.1 hb with hb|hb
  ·obtain ⟨i,_,hb⟩:=List.mem_flatMap.1 hb;obtain ⟨x,hx,hb⟩:=List.mem_flatMap.1 hb;unfold Nv at hb;split at hb
   ·obtain ⟨d',hd',rfl⟩:=List.mem_map.1 hb;have:=ht x hx d' hd';show d'.t.length≤_;omega
   ·cases hb
  ·obtain ⟨d',hd',rfl⟩:=List.mem_map.1 hb;have:=ht _ hmem d' (List.mem_of_mem_take hd');show d'.t.length≤_;omega
structure At2 where
 a:Int
 b:Int
instance encAt2:Enc At2:=⟨fun x=>.agg [.int .i64 x.a,.int .i64 x.b],fun x=>match x with
 | .agg [a,b]=>⟨a.i,b.i⟩
 | _=>⟨0,0⟩,fun a=>rfl⟩
theorem Zhz {a b:Int}:(enc (At2.mk a b):D)=.agg [.int .i64 a,.int .i64 b]:=rfl
theorem Zh2 {a b:Int}:(dec (.agg [.int .i64 a,.int .i64 b]):At2)=⟨a,b⟩:=rfl
theorem Zhp {a b:Int}:Up At2 (.agg [.int .i64 a,.int .i64 b])=True:=eq_true rfl
def con_ScopeNumbers:Con:=Um (fun (_:Tx9) (site:Int) (_:At2)=>dL .i64 site) (fun _ _ _=>true)
structure w660k:Prop
theorem w660k.k (_:w660k) {p:Prop} (h:p:=by
 repeat' first|exact Qg|with_reducible apply And.intro|intro _
 all_goals first|with_reducible exact Jf|omega|exact hN|exact hS|exact hE|exact hD|exact hL|exact hP|exact hB|exact hL.2 _ (by assumption)|exact hP.2 _ (by assumption)|exact hB.2 _ (by assumption)|rfl|trivial|skip):p:=h
theorem good_ScopeNumbers:Qr Tryz.prog (3,con_ScopeNumbers):=by
 obtain ⟨Kx,Kt,Kc,Kd,Kb,Ku,Kw,K,Yj,Kv,P4,B6,D2,It,bD,jC,jH,jG,_⟩:=Wi Z3 Zn [] false (Ja good_Program9 Md.eq_def (Ja dP Lz.eq_def (Ja good_NumberS Pw.eq_def (Ja good_Number9 S1.eq_def (Ja good_WhereS L4.eq_def (Ja good_Where9 Dm.eq_def (Ja good_Same9 Rl.eq_def (Ja good_EnvS Fc.eq_def (Ja good_Env9 aN.eq_def (Ja good_Bounds9 Px.eq_def Wg))))))))));have Ko:=con_ScopeNumbers.eq_def;refine Wh K Tryz.func3 [.tmp 6] rfl 115 rfl (fun c hc cvs hpre=>?_);unfold con_ScopeNumbers at hpre;obtain ⟨⟨names,texts⟩,site,⟨ma,da⟩,rfl,hsr⟩:=Gl hpre;clear hpre;have hg:=Aj ⟨names,texts⟩;have ha:=El (t:=⟨names,texts⟩);obtain ⟨⟨l,ok⟩,Qh⟩:=exq (Ud ⟨names,texts⟩);rw [Qh] at hg ha;simp only at hg ha;obtain ⟨h20,hG⟩:=hg;have hN:=Zlc h20 hG;have hS:=hN.sites;have hE:=hK h20 hG;have hL:Lo l.length∧∀ m∈l,In6 m:=⟨by show _≤_;omega,fun m hm=>Zjm (hG m hm)⟩
 have hP:=Zoc h20 hG;have hB:=Zlm h20 hG ma da;clear hG;cases hc;refine Ys 7 ?_;cases ok with
 | false =>
  have Q2:=@Gk.eq_def;have Qz:=@Zhz;have Zv:=@Zh2;have Zx:=@Zhp;exact Zmj
 | true =>
  have hD:=(ha rfl).1;obtain ⟨⟨⟨P⟩,n,e⟩,Qi⟩:=exq (Nc l);rw [Qi] at hP;simp only at hP;obtain ⟨⟨wa,wb,wc⟩,Z2⟩:=exq (Ed l site);obtain ⟨B,Qd⟩:=exq (aW l ma da);rw [Qd] at hB;have Z5:(P==P)=true:=beq_self_eq_true P;have Z9:(l==l)=true:=beq_self_eq_true l;have Qu:(B==B)=true:=beq_self_eq_true B;have Q0:=fun x:Int=>beq_self_eq_true x;have Q2:=@Gk.eq_def;have Qz:=@Zhz;have Zv:=@Zh2;have Zx:=@Zhp;have Kq:w660k:=⟨⟩;exact Cj
theorem Zgv {l : List Mod6} (hD : Zkb l) (hA : Zib l) {m : Nat} (hm : m < l.length) {x : List UInt8} (hx : x ∈ Zbi l m) (E : List Bd) : ∀ k, m ≤ k → k ≤ l.length → L7 l x E k = L7 l x E m := by
  intro k hk
  induction k with
  | zero => intro _; have : m = 0 := by omega
            subst this; rfl
  | succ k ih =>
    intro hk2;rcases Nat.lt_or_ge k m with h | h
    · have : m = k + 1 := by omega
      subst this; rfl
    · rw [cP (by omega), ih h (by omega)]
      obtain ⟨j, hj, he⟩ := hA m hm x hx;have hne : ¬ (l.getD k Jl).name = x := fun e => hD j k (by omega) (by omega) (by rw [he]; exact e.symm)
      unfold Nv;rw [if_neg hne, List.append_nil]
theorem Zjx {l:List Mod6} {m d:Nat} (h:d<(l.getD m Jl).defs.length):aV l m (d+1)=aV l m d++[Zb7 [] ((l.getD m Jl).defs.getD d Jq)]:=by
 unfold aV;rw [yP (Zb7 []) Jq h,List.append_assoc]
theorem Znb {l:List Mod6} {m d:Nat} (hm:m<l.length) (hd:d<(l.getD m Jl).defs.length):aW l m d=aV l m d:=by
 unfold aW;rw [if_neg (by rw [Ze];omega),Ze,Ze]
theorem Zdb {l:List Mod6} {is:List (List UInt8)} {b:Bd} (h:b∈is.flatMap (Eo l)):(33:UInt8)∈b.name:=by
 obtain ⟨i,_,h⟩:=List.mem_flatMap.1 h;obtain ⟨x,_,h⟩:=List.mem_flatMap.1 h;unfold Nv at h;split at h
 ·obtain ⟨d,_,rfl⟩:=List.mem_map.1 h;unfold Zb7;simp
 ·cases h
def xV (s:List UInt8) (k:Nat):Bool:=(s.take k).any fun c=>c==33
theorem Zjc {s:List UInt8}:xV s 0=false:=rfl
theorem Zjd {s:List UInt8} {k:Nat} (h:k<s.length):xV s (k+1)=(xV s k||s.getD k 0==33):=by
 unfold xV;rw [Gp (0:UInt8) h,List.any_append];simp
theorem Zje {s:List UInt8} (h:(33:UInt8)∈s):xV s s.length=true:=by
 unfold xV;rw [List.take_length,List.any_eq_true];exact ⟨33,h,by simp⟩
def con_ScopeEnvs:Con:=Um (fun (_:Tx9) (m d:Int)=>dL .i64 m∧dL .i64 d) (fun _ _ _=>true)
structure w661k:Prop
theorem w661k.k (_:w661k) {p:Prop} (h:p:=by
 repeat' first|exact Qg|with_reducible apply And.intro|intro _
 all_goals first|with_reducible exact Jf|omega|exact hE|exact hD|exact b1|exact b1.2 _ (by assumption)|rfl|trivial|skip):p:=h
structure w664k:Prop
theorem w664k.k (_:w664k) {p:Prop} (h:p:=by
 repeat' first|exact Qg|with_reducible apply And.intro|intro _
 all_goals first|with_reducible exact Jf|omega|exact ⟨k+1,by exact Qy,by omega,by omega⟩|skip):p:=h
structure w665k:Prop
theorem w665k.k (_:w665k) {p:Prop} (h:p:=by
 repeat' first|exact Qg|with_reducible apply And.intro|intro _
 all_goals first|with_reducible exact Jf|omega|exact ⟨k+1,by (have Ks:=hl2;exact Qy),by omega,by omega⟩|skip):p:=h
structure w666k:Prop
theorem w666k.k (_:w666k) {p:Prop} (h:p:=by
 repeat' first|exact Qg|with_reducible apply And.intro|intro _
 all_goals first|with_reducible exact Jf|omega|exact ⟨i+1,by exact Qy,by omega,by omega⟩|skip):p:=h
structure w663k:Prop
theorem w663k.k (_:w663k) {p:Prop} (h:p:=by
 repeat' first|exact Qg|with_reducible apply And.intro|intro _
 all_goals first|with_reducible exact Jf|omega|skip
 refine Zh [100,101,102,103,104,105,106,107,108,109,110,111,112,113,114,115,116,117,118,119,120,121,122,123,124,125,126] (fun k:Nat=>[(11,.d (.int .i64 (L7 l x E k).length)),(13,.d (.int .i64 k))]) (fun k:Nat=>[]) (fun k:Nat=>k≤m) (fun k:Nat=>m-k) 0 ?_ ?_ ?_
 ·omega
 ·have Ks:=@Zaj;exact Qy
 rintro k hk;have hFl:=Ze6 hE (x:=x) (E:=E) (k:=k);rcases Zl k m with ⟨hklt,Zt⟩|⟨hklt,Zt⟩
 ·have hkl:k<l.length:=by omega
  have Zs:=Zo Jl hkl;have hsn2:=cP (x:=x) (E:=E) hkl;have hkd:=hE.defs _ (show l.getD k Jl∈l by simp [hkl])
  obtain ⟨Y,hY⟩:=exq (l.getD k Jl);rw [hY] at Zs hsn2 hkd;obtain ⟨yn,yi,yd,ys⟩:=Y;simp only at hkd;have hof:Nv x ⟨yn,yi,yd,ys⟩=if yn=x then yd.map (Zb7 (yn++[33])) else []:=rfl
  rw [hof] at hsn2;have hl2:(L7 l x E (k+1)).length=(L7 l x E k).length+if yn=x then yd.length else 0:=by
   rw [hsn2,Zj];split<;>simp
  obtain ⟨F,hF⟩:=exq (L7 l x E k);rw [hF] at hFl hl2 ⊢;clear hsn2;by_cases hyn:yn=x
  ·rw [if_pos hyn] at hl2;have Qt:(F.length:Int)+(yd.length:Int)=((L7 l x E (k+1)).length:Int):=by omega
   have Z8:(yn==x)=true:=by rw [Zp];exact hyn
   have Kq:w664k:=⟨⟩;exact Cj
  ·rw [if_neg hyn,Nat.add_zero] at hl2;have Z8:(yn==x)=false:=by rw [Zf];exact hyn
   have Kq:w665k:=⟨⟩;exact Cj
 ·have hkm:k=m:=by omega
  have hnx:L7 l x E k=P2 l mi (i+1):=by rw [hkm,hsn]
  rw [hnx];have Kq:w666k:=⟨⟩;exact Cj):p:=h
structure w669k:Prop
theorem w669k.k (_:w669k) {p:Prop} (h:p:=by
 repeat' first|exact Qg|with_reducible apply And.intro|intro _
 all_goals first|with_reducible exact Jf|omega|exact ⟨k+1,by (have Ks:=hms;exact Qy),by omega,by omega⟩|skip):p:=h
structure w670k:Prop
theorem w670k.k (_:w670k) {p:Prop} (h:p:=by
 repeat' first|exact Qg|with_reducible apply And.intro|intro _
 all_goals first|with_reducible exact Jf|omega|exact ⟨k+1,by (have Ks:=hms;exact Qy),by omega,by omega⟩|skip):p:=h
structure w671k:Prop
theorem w671k.k (_:w671k) {p:Prop} (h:p:=by
 repeat' first|exact Qg|with_reducible apply And.intro|intro _
 all_goals first|with_reducible exact Jf|omega|exact ⟨k+1,by (have Ks:=hms;exact Qy),by omega,by omega⟩|skip):p:=h
structure w672k:Prop
theorem w672k.k (_:w672k) {p:Prop} (h:p:=by
 repeat' first|exact Qg|with_reducible apply And.intro|intro _
 all_goals first|with_reducible exact Jf|omega|exact ⟨j+1,by exact Qy,by omega,by omega⟩|skip):p:=h
structure w668k:Prop
theorem w668k.k (_:w668k) {p:Prop} (h:p:=by
 repeat' first|exact Qg|with_reducible apply And.intro|intro _
 all_goals first|with_reducible exact Jf|omega|skip
 refine Zh [133,134,135,136,137,138,139,140,141,142,143,144,145,146,147,148,149,150,151,152,153] (fun k:Nat=>[(15,.d (.bool (xV zn k))),(16,.d (.int .i64 k))]) (fun k:Nat=>[]) (fun k:Nat=>k≤zn.length) (fun k:Nat=>zn.length-k) 0 ?_ ?_ ?_
 ·omega
 ·have Ks:=@Zjc;exact Qy
 rintro k hk;rcases Zl k zn.length with ⟨hklt,Zt⟩|⟨hklt,Zt⟩
 ·have hms:=Zjd hklt;obtain ⟨y,Qv⟩:=exq (zn.getD k 0);rw [Qv] at hms;cases hmm:xV zn k with
  | true =>
   rw [hmm,Bool.true_or] at hms;have Kq:w669k:=⟨⟩;exact Cj
  | false =>
   rw [hmm,Bool.false_or] at hms;cases Qj:((y.toNat:Int)==33) with
   | true =>
    have:y=33:=Zg2.1 Qj;have hms:xV zn (k+1)=true:=by rw [hms,this];rfl
    have Kq:w670k:=⟨⟩;exact Cj
   | false =>
    have:¬ y=33:=fun e=>by rw [Zg2.2 e] at Qj;cases Qj
    have hms:xV zn (k+1)=false:=by rw [hms];exact beq_eq_false_iff_ne.2 this
    have Kq:w671k:=⟨⟩;exact Cj
 ·have hke:k=zn.length:=by omega
  rw [hke,hmk];rw [hke] at Zt;have Kq:w672k:=⟨⟩;exact Cj):p:=h
structure w667k:Prop
theorem w667k.k (_:w667k) {p:Prop} (h:p:=by
 repeat' first|exact Qg|with_reducible apply And.intro|intro _
 all_goals first|with_reducible exact Jf|omega|skip
 refine Zh [6,15,16,127,128,129,130,131,132,133,134,135,136,137,138,139,140,141,142,143,144,145,146,147,148,149,150,151,152,153,154,155] (fun j:Nat=>[(14,.d (.int .i64 j))]) (fun j:Nat=>[]) (fun j:Nat=>j≤B.length) (fun j:Nat=>B.length-j) 0 ?_ ?_ ?_
 ·omega
 ·exact Qy
 rintro j hj;rcases Zl j B.length with ⟨hjlt,Qw⟩|⟨hjlt,Qw⟩
 ·have Zs:=Zo Zbt hjlt;have hmk:=Zje (hall (B.getD j Zbt) (by simp [hjlt]))
  have hnl:=hname (B.getD j Zbt) (by simp [hjlt])
  obtain ⟨Z,hZ⟩:=exq (B.getD j Zbt);rw [hZ] at Zs hmk hnl;obtain ⟨zn,zt⟩:=Z;simp only at hmk hnl;clear hall hname;have Kq:w668k:=⟨⟩;exact Cj
 ·have Qq:((B.length:Int)==(B.length:Int))=true:=beq_self_eq_true _;clear hall hname;exact Zmj):p:=h
structure w662k:Prop
theorem w662k.k (_:w662k) {p:Prop} (h:p:=by
 repeat' first|exact Qg|with_reducible apply And.intro|intro _
 all_goals first|with_reducible exact Jf|omega|exact hE|exact hD|skip
 refine Zh [13,90,91,92,93,94,95,96,97,98,99,100,101,102,103,104,105,106,107,108,109,110,111,112,113,114,115,116,117,118,119,120,121,122,123,124,125,126] (fun i:Nat=>[(11,.d (.int .i64 (P2 l mi i).length)),(12,.d (.int .i64 i))]) (fun i:Nat=>[]) (fun i:Nat=>i≤mi.length) (fun i:Nat=>mi.length-i) 0 ?_ ?_ ?_
 ·omega
 ·have Ks:=@cR;exact Qy
 rintro i hi;have hil:=bJ hE (is:=mi) (i:=i);rcases Zl i mi.length with ⟨hilt,Z4⟩|⟨hilt,Z4⟩
 ·have Q2:=Zo ([]:List UInt8) hilt;have hsn:=cS (l:=l) hilt;have hah:=Zgv hD hA hml (himp (mi.getD i []) (by simp [hilt])) (P2 l mi i) l.length (by omega) (Zm _)
  obtain ⟨x,hx⟩:=exq (mi.getD i []);rw [hx] at Q2 hsn hah;rw [hah] at hsn;have Q2:el (mi.map enc) i=(.str x:D):=Q2;obtain ⟨E,hEq⟩:=exq (P2 l mi i);rw [hEq] at hsn hil ⊢;clear himp hah hall hname;have Kq:w663k:=⟨⟩;exact Cj
 ·have hie:i=mi.length:=by omega
  rw [hie] at hil Z4 ⊢;rw [hB] at hil ⊢;clear himp;have Kq:w667k:=⟨⟩;exact Cj):p:=h
theorem good_ScopeEnvs:Qr Tryz.prog (4,con_ScopeEnvs):=by
 obtain ⟨Kx,Kt,Kc,Kd,Kb,Ku,Kw,K,Yj,Kv,P4,B6,_⟩:=Wi Z3 Zn [] false (Ja good_Program9 Md.eq_def (Ja dP Lz.eq_def (Ja good_EnvS Fc.eq_def (Ja good_Bounds9 Px.eq_def Wg))));have Ko:=con_ScopeEnvs.eq_def;refine Wh K Tryz.func4 [.tmp 6] rfl 163 rfl (fun c hc cvs hpre=>?_);unfold con_ScopeEnvs at hpre;obtain ⟨⟨names,texts⟩,m,d,rfl,hmr,hdr⟩:=Gl hpre;rw [Xb] at hmr hdr;clear hpre;have hg:=Aj ⟨names,texts⟩;have ha:=El (t:=⟨names,texts⟩);obtain ⟨⟨l,ok⟩,Qh⟩:=exq (Ud ⟨names,texts⟩);rw [Qh] at hg ha;simp only at hg ha;obtain ⟨h20,hG⟩:=hg;have hE:=hK h20 hG;have hBi:=Zlm h20 hG;clear hG;cases hc;refine Ys 10 ?_;cases ok with
 | false =>
  have Q6:=@Gk.eq_def;exact Zmj
 | true =>
  obtain ⟨hD,hA⟩:=ha rfl;rcases Xf m 0 with ⟨h1,Qi⟩|⟨h1,Qi⟩
  ·have Q6:=@Gk.eq_def;exact Zmj
  obtain ⟨m,rfl⟩:∃ n:Nat,m=n:=⟨m.toNat,by omega⟩
  rcases Mo (l.length:Int) (m:Int) with ⟨h2,Z2⟩|⟨h2,Z2⟩
  ·have Q6:=@Gk.eq_def;exact Zmj
  rcases Xf d 0 with ⟨h3,Qd⟩|⟨h3,Qd⟩
  ·have Q6:=@Gk.eq_def;exact Zmj
  have hml:m<l.length:=by omega
  have Z9:=Zo Jl hml;have hdef:=fun (k:Nat) (h:k<(l.getD m Jl).defs.length)=>Znb (d:=k) hml h;have hsuc:=fun (k:Nat) (h:k<(l.getD m Jl).defs.length)=>Zjx (l:=l) (m:=m) (d:=k) h;have himp:∀ x∈(l.getD m Jl).imps,x∈Zbi l m:=fun x hx=>hx;have hzero:aV l m 0=(l.getD m Jl).imps.flatMap (Eo l):=by unfold aV;simp
  have hml2:(l.getD m Jl).imps.length≤2000:=hE.imps _ (by simp [hml])
  obtain ⟨M,hM⟩:=exq (l.getD m Jl);rw [hM] at Z9 hdef hsuc himp hzero hml2;obtain ⟨mn,mi,md,ms⟩:=M;simp only at hdef hsuc himp hzero hml2;have Qu:((m:Nat):Int).toNat=m:=Ze m;rcases Mo (md.length:Int) d with ⟨h4,Z5⟩|⟨h4,Z5⟩
  ·have Q6:=@Gk.eq_def;exact Zmq
  rcases Xf 0 d with ⟨h5,Q0⟩|⟨h5,Q0⟩
  ·obtain ⟨c,hc⟩:∃ c:Nat,d=c+1:=⟨(d-1).toNat,by omega⟩
   have hcl:c<md.length:=by omega
   have Zv:d-1=(c:Int):=by omega
   have Qz:((c:Nat):Int).toNat=c:=Ze c;have Q2:=Zo Jq hcl;have Zx:aW l m d=aV l m (c+1):=by rw [hc];exact hdef (c+1) (by omega)
   have Zu:aW l m c=aV l m c:=hdef c hcl;have e3:=hsuc c hcl;have b1:=hBi m d;have b2:=hBi m c;rw [Zx] at b1;rw [Zu] at b2;obtain ⟨X,hX⟩:=exq (md.getD c Jq);rw [hX] at Q2 e3;obtain ⟨xn,xt,xe⟩:=X;have hbn:Zb7 [] ⟨xn,xt,xe⟩=⟨xn,xt⟩:=rfl;rw [hbn] at e3;obtain ⟨W,hW⟩:=exq (aV l m c);rw [hW] at Zu e3 b2;rw [e3] at Zx b1;have hWl:W.length≤50000000:=by
    rw [←hW];unfold aV;rw [hM,Zj,Zk,List.length_take];have i1:=Zbh hE mi;have i2:=hE.defs _ (show l.getD m Jl∈l by simp [hml])
    rw [hM] at i2;simp only at i2 ⊢;omega
   have Zz:W.map (enc:Bd→D)++[.agg [.str xn,.list 3 (xt.map enc)]]=(W++[(⟨xn,xt⟩:Bd)]).map enc:=by simp [Gz]
   have Zy:(W++[(⟨xn,xt⟩:Bd)]==W++[⟨xn,xt⟩])=true:=beq_self_eq_true _;clear hdef hsuc himp hzero hBi;have Q6:=@Gk.eq_def;have Kq:w661k:=⟨⟩;exact Cj
  ·have hd0:d=0:=by omega
   subst hd0;have hmd:0<md.length:=by omega
   have Zx:aW l m 0=P2 l mi mi.length:=by rw [Cc];exact (hdef 0 hmd).trans hzero
   have hall:∀ b∈P2 l mi mi.length,(33:UInt8)∈b.name:=fun b Qj=>Zdb (l:=l) (is:=mi) (by rw [Cc] at Qj;exact Qj)
   have hname:∀ b∈P2 l mi mi.length,b.name.length≤9223372036854775807:=fun b Qj=>by
    rw [Cc] at Qj;obtain ⟨i,hi,Qj⟩:=List.mem_flatMap.1 Qj;obtain ⟨x,hx,Qj⟩:=List.mem_flatMap.1 Qj;unfold Nv at Qj;split at Qj
    ·obtain ⟨d',hd',rfl⟩:=List.mem_map.1 Qj;have i1:=hE.name x hx;have i2:=hE.dname x hx d' hd';unfold Zb7;simp only [Zj,Zi,List.length_nil];omega
    ·cases Qj
   have hEl:=bJ hE (is:=mi) (i:=mi.length);obtain ⟨B,hB⟩:=exq (P2 l mi mi.length);rw [hB] at Zx hall hname hEl;clear hdef hsuc hzero hBi;have Q6:=@Gk.eq_def;have Kq:w662k:=⟨⟩;exact Cj
open Go.Proofs
theorem rdAt2:Zn2 Tryz.prog 25 2 true At2 (fun _=>True) :=
 (Zkv Tryz.underlying25 (by kernel_rfl) (by kernel_rfl) rdN).mono fun x h=>by
  obtain ⟨ds,rfl,hl,h⟩:=h
  match ds,hl with
  | [a,b],_ =>
   obtain ⟨p,rfl,hp⟩:=h a (by simp)
   obtain ⟨q,rfl,hq⟩:=h b (by simp)
   exact ⟨⟨p,q⟩,rfl,trivial⟩
end Go.Am.Ty
