/- Contracts of functions that the law reaches, and plain laws. Conditions: those that each contract states. -/
import Derived.Test.YtilpfkjhahnfaaaGreatF8
set_option maxHeartbeats 8000000
set_option linter.unusedVariables false
set_option linter.unusedSimpArgs false
variable {p:Prop}
set_option maxRecDepth 100000
namespace Go.Am.Ty
open Go.Proofs
open Enc (enc dec)
theorem Zgc {s:List UInt8} (h:s.length≤1500):Toks (Ba s).1∧(Ba s).1.length≤1501:=by
 have hlen:(Ba s).1.length≤1501:=by
  unfold Ba;split
  ·simp
  ·have hb:=aV (s:=s) (i:=0) (by omega)
   obtain ⟨h1,h2,h3⟩:=kF (s:=s) (by omega) (s.length+1) (Ij s 0) [] (fun t ht=>by cases ht) hb.2 (by simp)
   omega
 exact ⟨⟨by omega,(Zkk s).1⟩,hlen⟩
def Zpm (defs:List Def6):Nat:=defs.findIdx fun d=>!Gm d.e
def Eu (name text:List UInt8):Mod6×Int×Int :=
 let t:=Ba text
 if t.2.2≠0 then (Js,t.2.1,t.2.2)
 else
  let r:=Uf t.1 name
  if r.2.1.e≠0 then (Js,(tk t.1 (Zsk r.2.1.at_ (t.1.length-1))).frm,r.2.1.e)
  else if Zpm r.1.defs<r.1.defs.length then (Js,(tk t.1 (r.2.2.getD (Zpm r.1.defs) 0)).frm,4)
  else (r.1,0,0)
def A0:Con:=Wy (fun (_ text:List UInt8)=>text.length≤1500) (fun name text=>Eu name text)
theorem Zs7 {p:Part} (h:F3 p):Zy6 p:=by
 obtain ⟨⟨h1,h2⟩,⟨h3,h4⟩,h5,h6,h7⟩:=h;exact ⟨⟨⟨by omega,h2⟩,⟨by omega,h4⟩,by omega,by omega,by omega⟩,by omega⟩
theorem Zt3 {p:Prop} (h:p:=by (sym=>simp [Kt,Kc,Kd,Kb,Ku,Kw,Ko,W4,Gd,M4,Ln,Ek,cL,fW,oB,Zcc,Zcb,Qd,Qe,Z6,Qa,Qc,Qh,Qp,Qz,Qv,Q4,Z0,Z3,Zz,Z7,Z9,Qg,Zv,Zw,Qn,Q6,Q5,Ja,Q7,Q0,Jo,Jj,Wx,X9,Wq,Wp,Wo,Ur,Uq,Up,Kj,Ki,Kh,D.setCell.eq_1,Ka,Q2,Q1,Jp,X0,Wt,Ji,Vf,Xo,Jf,Qj,Ju,Ui,Jw,J0,Jb,Q3,Qb,Uz,Jg,J4,Je,Vc,Xm,Jd,Qi,Jt,Ug,J3,J7,Yn,Wm,Js.eq_def,Jc,Ql,P4,L4,Dl,Pe,dN,Td,Vg,Zbv,Zbu,Zbt,Zbs,Zbr,Zbq,Zbp,Zbo,Zbn,Zbm,Zbl,Zbk,Zbj,Zbi,Zbh,Zbg,Zbf,Zbe,Zbd,Zbc,Zbb,Zba,Za9,Za8,Za7,Za6,Za5,Za4,Za3,Za2,Za1,Za0,Zaz,Zay,Zax,Zaw,Zav,Zau,Zat,Zas,Zar,Zaq,Zap,Zao,Zan,Zam,Zal,Zak,Zaj,Zai,Zah,Zag,Zaf,Zae,Zad,Zac,Zab,Zaa,zU,zT,zS,zR,zP,zO,zN,zM,zL,zI,zH,zG,zF,zE,zC,zB,zK,zW,zV,zY,zJ,zX,zZ,zQ,yU,yT,yS,yR,yP,yO,yN,yM,yL,yI,yH,yG,yF,yE,yD,yC,yB,yA,yK,yW,yV,yY,yJ,yX,yZ,yQ,xU,xT,xS,xR,xP,xO,xN,xM,xL,xI,xH,xG,xF,xE,xD,xC,xB,xA,xK,xW,xV,xY,xJ,xX,xZ,xQ,wU,wT,wS,wR,wL,wI,wH,wG,wF,wE,wD,wC,wA,wK,wW,wV,wY,wJ,wX,wZ,wQ,vU,vT,vS,vR,vP,vO,vN,vM,vL,vI,vH,vG,vF,vE,vD,vC,vB,vA,vK,vW,vV,vY,vJ,vX,vZ,vQ,uU,uT,uS,uR,uP,uO,uN,uM,uL,uI,uH,uG,uF,uE,uD,uC,uB,uA,uK,uW,uV,uY,uJ,uX,uZ,uQ,tU,tT,tS,tR,tP,tO,tN,tM,tL,tI,tH,tG,tF,tE,tD,tC,tB,tA,tK,tW,tV,tY,tJ,tX,tZ,tQ,sU,sT,sS,sR,sP,sO,sN,sM,sL,sI,sH,sG,sF,sE,sD,sC,sB,sA,sK,sW,sV,sY,sJ,sX,sZ,sQ,rU,rT,rS,rR,rP,rO,rN,rM,rL,rI,rH,rG,rF,rE,rD,rC,rB,rA,rK,rW,rV,rY,rJ,rX,rZ,rQ,qU,qT,qS,qR,qP,qO,qN,qM,qL,qI,qH,qG,qF,qE,qD,qC,qB,qA,qK,qW,qV,qY,qJ,qX,qZ,qQ,pU,pT,pS,pR,pL,pI,pH,pG,pF,pE,pD,pC,pA,pK,pW,pV,pY,pJ,pX,pZ,pQ,oU,oT,oS,oR,oP,oO,oN,oM,oL,oI,oH,oG,oF,oE,oD,oC,Tc,Tb,Ta,S9,S8,S7,Nk,Nj,Ni,Nh,Ng,Nf,Nd,Nc,Nb,Na,H9,H8,H7,H6,H5,H4,H3,H2,H0,Hz,Hy,Hx,Hw,Hv,Hu,Ht,Hs,Uc,Ub,Ua,V9,V8,V7,V6,V5,V4,V3,V2,V0,Vz,Vy,Vx,Vw,Vv,Vu,Vt,Vs,Vr,Vq,Vp,Vo,Vn,Vm,Vl,Vk,Vj,Vi,Vh])):p:=h
theorem Gk {p:Prop} (h:p:=by
 (sym=>simp [Kt,Kc,Kd,Kb,Ku,Kw,Ko,W4,Gd,M4,Ln,Ek,cL,fW,oB,Zcc,Zcb,Qd,Qe,Z6,Qa,Qc,Qh,Qp,Qz,Qv,Q4,Z0,Z3,Zz,Z7,Z9,Qg,Zv,Zw,Qn,Q6,Q5,Ja,Q7,Q0,Jo,Jj,Wx,X9,Wq,Wp,Wo,Ur,Uq,Up,Kj,Ki,Kh,D.setCell.eq_1,Ka,Q2,Q1,Jp,X0,Wt,Ji,Vf,Xo,Jf,Qj,Ju,Ui,Jw,J0,Jb,Q3,Qb,Uz,Jg,J4,Je,Vc,Xm,Jd,Qi,Jt,Ug,J3,J7,Yn,Wm,Js.eq_def,Jc,Ql,P4,L4,Dl,Pe,dN,Td,Vg,Zbv,Zbu,Zbt,Zbs,Zbr,Zbq,Zbp,Zbo,Zbn,Zbm,Zbl,Zbk,Zbj,Zbi,Zbh,Zbg,Zbf,Zbe,Zbd,Zbc,Zbb,Zba,Za9,Za8,Za7,Za6,Za5,Za4,Za3,Za2,Za1,Za0,Zaz,Zay,Zax,Zaw,Zav,Zau,Zat,Zas,Zar,Zaq,Zap,Zao,Zan,Zam,Zal,Zak,Zaj,Zai,Zah,Zag,Zaf,Zae,Zad,Zac,Zab,Zaa,zU,zT,zS,zR,zP,zO,zN,zM,zL,zI,zH,zG,zF,zE,zC,zB,zK,zW,zV,zY,zJ,zX,zZ,zQ,yU,yT,yS,yR,yP,yO,yN,yM,yL,yI,yH,yG,yF,yE,yD,yC,yB,yA,yK,yW,yV,yY,yJ,yX,yZ,yQ,xU,xT,xS,xR,xP,xO,xN,xM,xL,xI,xH,xG,xF,xE,xD,xC,xB,xA,xK,xW,xV,xY,xJ,xX,xZ,xQ,wU,wT,wS,wR,wL,wI,wH,wG,wF,wE,wD,wC,wA,wK,wW,wV,wY,wJ,wX,wZ,wQ,vU,vT,vS,vR,vP,vO,vN,vM,vL,vI,vH,vG,vF,vE,vD,vC,vB,vA,vK,vW,vV,vY,vJ,vX,vZ,vQ,uU,uT,uS,uR,uP,uO,uN,uM,uL,uI,uH,uG,uF,uE,uD,uC,uB,uA,uK,uW,uV,uY,uJ,uX,uZ,uQ,tU,tT,tS,tR,tP,tO,tN,tM,tL,tI,tH,tG,tF,tE,tD,tC,tB,tA,tK,tW,tV,tY,tJ,tX,tZ,tQ,sU,sT,sS,sR,sP,sO,sN,sM,sL,sI,sH,sG,sF,sE,sD,sC,sB,sA,sK,sW,sV,sY,sJ,sX,sZ,sQ,rU,rT,rS,rR,rP,rO,rN,rM,rL,rI,rH,rG,rF,rE,rD,rC,rB,rA,rK,rW,rV,rY,rJ,rX,rZ,rQ,qU,qT,qS,qR,qP,qO,qN,qM,qL,qI,qH,qG,qF,qE,qD,qC,qB,qA,qK,qW,qV,qY,qJ,qX,qZ,qQ,pU,pT,pS,pR,pL,pI,pH,pG,pF,pE,pD,pC,pA,pK,pW,pV,pY,pJ,pX,pZ,pQ,oU,oT,oS,oR,oP,oO,oN,oM,oL,oI,oH,oG,oF,oE,oD,oC,Tc,Tb,Ta,S9,S8,S7,Nk,Nj,Ni,Nh,Ng,Nf,Nd,Nc,Nb,Na,H9,H8,H7,H6,H5,H4,H3,H2,H0,Hz,Hy,Hx,Hw,Hv,Hu,Ht,Hs,Uc,Ub,Ua,V9,V8,V7,V6,V5,V4,V3,V2,V0,Vz,Vy,Vx,Vw,Vv,Vu,Vt,Vs,Vr,Vq,Vp,Vo,Vn,Vm,Vl,Vk,Vj,Vi,Vh];tactic =>
   try simp only [S4] at *
   try simp only [Znv] at *
   try simp (maxSteps:=4000000) only [Qd,Qe,Z6,Qa,Qc,Qh,Qp,Qz,Qv,Q4,Z0,Z3,Zz,Z7,Z9,Qg,Zv,Zw,Qn,Q6,Q5,Ja,Q7,Q0,Jo,Jj,Wx,X9,Wq,Wp,Wo,Ur,Uq,Up,Kj,Ki,Kh,D.setCell.eq_1,Ka,Q2,Q1,Jp,X0,Wt,Ji,Vf,Xo,Jf,Qj,Ju,Ui,Jw,J0,Jb,Q3,Qb,Uz,Jg,J4,Je,Vc,Xm,Jd,Qi,Jt,Ug,J3,J7,Yn,Wm,Js.eq_def,Jc,Ql,P4,L4,Dl,Pe,dN,Td,Vg,cM]
   first|done|exact Kq.k)):p:=h
theorem E5 {p:Prop} (h:p:=by
 (sym=>simp [Kt,Kc,Kd,Kb,Ku,Kw,Ko,W4,Gd,M4,Ln,Ek,cL,fW,oB,Zcc,Zcb,Qd,Qe,Z6,Qa,Qc,Qh,Qp,Qz,Qv,Q4,Z0,Z3,Zz,Z7,Z9,Qg,Zv,Zw,Qn,Q6,Q5,Ja,Q7,Q0,Jo,Jj,Wx,X9,Wq,Wp,Wo,Ur,Uq,Up,Kj,Ki,Kh,D.setCell.eq_1,Ka,Q2,Q1,Jp,X0,Wt,Ji,Vf,Xo,Jf,Qj,Ju,Ui,Jw,J0,Jb,Q3,Qb,Uz,Jg,J4,Je,Vc,Xm,Jd,Qi,Jt,Ug,J3,J7,Yn,Wm,Js.eq_def,Jc,Ql,P4,L4,Dl,Pe,dN,Td,Vg,Zbv,Zbu,Zbt,Zbs,Zbr,Zbq,Zbp,Zbo,Zbn,Zbm,Zbl,Zbk,Zbj,Zbi,Zbh,Zbg,Zbf,Zbe,Zbd,Zbc,Zbb,Zba,Za9,Za8,Za7,Za6,Za5,Za4,Za3,Za2,Za1,Za0,Zaz,Zay,Zax,Zaw,Zav,Zau,Zat,Zas,Zar,Zaq,Zap,Zao,Zan,Zam,Zal,Zak,Zaj,Zai,Zah,Zag,Zaf,Zae,Zad,Zac,Zab,Zaa,zU,zT,zS,zR,zP,zO,zN,zM,zL,zI,zH,zG,zF,zE,zC,zB,zK,zW,zV,zY,zJ,zX,zZ,zQ,yU,yT,yS,yR,yP,yO,yN,yM,yL,yI,yH,yG,yF,yE,yD,yC,yB,yA,yK,yW,yV,yY,yJ,yX,yZ,yQ,xU,xT,xS,xR,xP,xO,xN,xM,xL,xI,xH,xG,xF,xE,xD,xC,xB,xA,xK,xW,xV,xY,xJ,xX,xZ,xQ,wU,wT,wS,wR,wL,wI,wH,wG,wF,wE,wD,wC,wA,wK,wW,wV,wY,wJ,wX,wZ,wQ,vU,vT,vS,vR,vP,vO,vN,vM,vL,vI,vH,vG,vF,vE,vD,vC,vB,vA,vK,vW,vV,vY,vJ,vX,vZ,vQ,uU,uT,uS,uR,uP,uO,uN,uM,uL,uI,uH,uG,uF,uE,uD,uC,uB,uA,uK,uW,uV,uY,uJ,uX,uZ,uQ,tU,tT,tS,tR,tP,tO,tN,tM,tL,tI,tH,tG,tF,tE,tD,tC,tB,tA,tK,tW,tV,tY,tJ,tX,tZ,tQ,sU,sT,sS,sR,sP,sO,sN,sM,sL,sI,sH,sG,sF,sE,sD,sC,sB,sA,sK,sW,sV,sY,sJ,sX,sZ,sQ,rU,rT,rS,rR,rP,rO,rN,rM,rL,rI,rH,rG,rF,rE,rD,rC,rB,rA,rK,rW,rV,rY,rJ,rX,rZ,rQ,qU,qT,qS,qR,qP,qO,qN,qM,qL,qI,qH,qG,qF,qE,qD,qC,qB,qA,qK,qW,qV,qY,qJ,qX,qZ,qQ,pU,pT,pS,pR,pL,pI,pH,pG,pF,pE,pD,pC,pA,pK,pW,pV,pY,pJ,pX,pZ,pQ,oU,oT,oS,oR,oP,oO,oN,oM,oL,oI,oH,oG,oF,oE,oD,oC,Tc,Tb,Ta,S9,S8,S7,Nk,Nj,Ni,Nh,Ng,Nf,Nd,Nc,Nb,Na,H9,H8,H7,H6,H5,H4,H3,H2,H0,Hz,Hy,Hx,Hw,Hv,Hu,Ht,Hs,Uc,Ub,Ua,V9,V8,V7,V6,V5,V4,V3,V2,V0,Vz,Vy,Vx,Vw,Vv,Vu,Vt,Vs,Vr,Vq,Vp,Vo,Vn,Vm,Vl,Vk,Vj,Vi,Vh];tactic =>
   try simp only [S4] at *
   try simp only [Znv] at *
   try simp (maxSteps:=4000000) only [Qd,Qe,Z6,Qa,Qc,Qh,Qp,Qz,Qv,Q4,Z0,Z3,Zz,Z7,Z9,Qg,Zv,Zw,Qn,Q6,Q5,Ja,Q7,Q0,Jo,Jj,Wx,X9,Wq,Wp,Wo,Ur,Uq,Up,Kj,Ki,Kh,D.setCell.eq_1,Ka,Q2,Q1,Jp,X0,Wt,Ji,Vf,Xo,Jf,Qj,Ju,Ui,Jw,J0,Jb,Q3,Qb,Uz,Jg,J4,Je,Vc,Xm,Jd,Qi,Jt,Ug,J3,J7,Yn,Wm,Js.eq_def,Jc,Ql,P4,L4,Dl,Pe,dN,Td,Vg,cM]
   repeat' first|with_reducible assumption|with_reducible apply Zb|intro _|omega|(rw [Xy];omega)
   all_goals first|with_reducible exact Qo|omega|rfl|trivial|exact Or.inr trivial|assumption|contradiction|exact Qk)):p:=h
structure Kel:Prop
theorem Kel.k (_:Kel) (h:p:=by
 repeat' first|exact Z1|with_reducible apply Zb|intro _
 all_goals first|with_reducible exact Qo|omega|exact hef|exact ⟨k+1,by exact Qk,by omega,hst,by omega⟩|skip):p:=h
structure Kek:Prop
theorem Kek.k (_:Kek) (h:p:=by
 repeat' first|exact Z1|with_reducible apply Zb|intro _
 refine Zi [5,6,48,49,50,51,52,53,54,55,56,57,58,59,60,61,62,63,64,65,66,67,68,69,70,71] (fun k:Nat=>[(13,.d (.int .i64 k))]) (fun k:Nat=>[]) (fun k:Nat=>k≤md.length∧∀ j,j<k→Gm (md.getD j Jx).e=true) (fun k:Nat=>md.length-k) 0 ?_ ?_ ?_
 ·exact ⟨by omega,fun j hj=>absurd hj (Nat.not_lt_zero j)⟩
 ·exact Qk
 rintro k ⟨Qh,hno⟩;rcases Zn k md.length with ⟨hlt,Qz⟩|⟨hlt,Qz⟩
 ·have Qp:=Zr Jx hlt;have hbk:=hbad k hlt hno;have hst:Gm (md.getD k Jx).e=true→∀ j,j<k+1→Gm (md.getD j Jx).e=true:=fun h=>Ks hno h;have hfk:=hfit (md.getD k Jx) (by simp [hlt])
  obtain ⟨y,hy⟩:=exq (md.getD k Jx);rw [hy] at Qp hbk hst hfk;have hel:y.e.length≤9223372036854775807:=by have:=hfk.e;omega
  have hef:∀ p∈y.e,Zy6 p:=fun p hp=>Zs7 (hfk.fit p hp);cases Z0:Gm y.e with
  | false =>
   have hbk:=hbk Z0;rw [hbk,if_pos hlt] at hR2;have hplk:k<pl.length:=by omega
   have Qv:=Zr (0:Int) hplk;have hpk:=hpr (pl.getD k 0) (by simp [hplk])
   obtain ⟨x,hx⟩:=exq (pl.getD k 0);rw [hx] at Qv hpk hR2;obtain ⟨x,rfl⟩:∃ n:Nat,x=n:=⟨x.toNat,by omega⟩
   simp only [Hp] at hR2;have Q4:=Zr Kg (show x<l.length by omega)
   obtain ⟨t,ht⟩:=exq (l.getD x Kg);rw [ht] at Q4 hR2;subst hR2;clear hno hfit hok hpr hgood;have Z3:=@Ve;exact E5
  | true =>
   have hst:=hst Z0;clear hno hfit hok hpr hgood hbk;have Z3:=@Ve;have Kq:Kel:=⟨⟩;exact Gk
 ·have hke:k=md.length:=by omega
  rw [hke] at hno Qz;rw [if_neg (hgood hno)] at hR2;subst hR2;clear hno hfit hok hpr hgood;exact E5):p:=h
theorem good_Parse6:Qq Tryz.prog (58,A0):=by
 obtain ⟨Kx,Kt,Kc,Kd,Kb,Ku,Kw,K,W4,Gd,M4,_⟩:=X2 Z4 Zq [] false (Jh good_Tokens2 Ef.eq_def (Jh good_module6 Ed.eq_def (Jh good_Right5 Ay.eq_def X1)));have Ko:=A0.eq_def;refine Wh K Tryz.func58 [.cell 4 43,.tmp 5,.tmp 6] rfl 73 rfl (fun c hc cvs hpre=>?_);unfold A0 at hpre;obtain ⟨name,text,rfl,htx⟩:=eS hpre;clear hpre;obtain ⟨R,Z6⟩:=exq (Eu name text);have hR2:=Z6;unfold Eu at hR2;simp only at hR2;obtain ⟨hT,hTl⟩:=Zgc htx;have h1l:=(Zkk text).2.2;obtain ⟨⟨l,at1,e1⟩,Qd⟩:=exq (Ba text);rw [Qd] at hR2 hT hTl h1l;simp only at hR2 hT hTl h1l;have htx2:text.length≤9223372036854775807:=by omega
 have hll:l.length≤9223372036854775807:=by omega
 by_cases he1:e1=0
 case neg =>
  rw [if_pos he1] at hR2;have Qe:(e1 != 0)=true:=bne_iff_ne.2 he1;subst hR2;cases hc;refine Yv 4 ?_;exact E5
 rw [if_neg (by simpa using he1)] at hR2
 have Qe:(e1 != 0)=false:=by rw [bne_eq_false_iff_eq];exact he1
 have h1l:=h1l he1;obtain ⟨hP,hdl,hfit,hok⟩:=Zde hT name;obtain ⟨⟨m,⟨i2,ss2,e2⟩,pl⟩,Qa⟩:=exq (Uf l name);rw [Qa] at hR2 hP hdl hfit hok;simp only at hR2 hP hdl hfit hok;have hlo:=hP.lo;have hhi:=hP.hi;simp only at hlo hhi;by_cases he2:e2=0
 case neg =>
  rw [if_pos he2] at hR2;have Qc:(e2 != 0)=true:=bne_iff_ne.2 he2;obtain ⟨k,Qh,hkl⟩:∃ k:Nat,Zsk i2 ((l.length:Int)-1)=k∧k<l.length:=by
   refine ⟨(Zsk i2 ((l.length:Int)-1)).toNat,?_,?_⟩<;>unfold Zsk<;>split<;>omega
  have Qp:=Zr Kg hkl;rw [Qh] at hR2;simp only [Hp] at hR2;obtain ⟨t,ht⟩:=exq (l.getD k Kg);rw [ht] at Qp hR2;subst hR2;cases hc;refine Yv 4 ?_;exact E5
 rw [if_neg (by simpa using he2)] at hR2
 have Qc:(e2 != 0)=false:=by rw [bne_eq_false_iff_eq];exact he2
 obtain ⟨hM,hpl,hpr⟩:=hok he2;obtain ⟨mn,mi,md,ms⟩:=m;simp only at hR2 hdl hfit hpl;have hbad:∀ k,k<md.length→(∀ j,j<k→Gm (md.getD j Jx).e=true)→Gm (md.getD k Jx).e=false→Zpm md=k:=fun k Qh h1 h2=>by
  unfold Zpm;rw [List.findIdx_eq Qh];refine ⟨?_,fun j hj=>?_⟩
  ·simpa [Qh] using h2
  ·have:=h1 j hj;simpa [show j<md.length by omega] using this
 have hgood:(∀ j,j<md.length→Gm (md.getD j Jx).e=true)→¬ Zpm md<md.length:=fun h1 h2=>by
  unfold Zpm at h2;have h3:=List.findIdx_getElem (w:=h2);have h4:=h1 _ h2;simp [h2] at h4;simp [h4] at h3
 cases hc;refine Yv 4 ?_;have Kq:Kek:=⟨⟩;exact Gk
end Go.Am.Ty
namespace Go.Am.Ty.Gr
open Go.Proofs
open Enc (enc dec)
abbrev Lo (n:Nat):Prop:=n≤9223372036854775807
theorem nM {p:Nat→Prop} {k:Nat} (h:∀ j,j<k→p j) (hk:p k):∀ j,j<k+1→p j:=fun j hj=>by
 rcases Nat.lt_or_ge j k with h1|h1
 ·exact h j h1
 ·have:j=k:=by omega
  exact this▸hk
def Znw (l:List Int) (n:Int):Bool:=l.any fun x=>x==n
def O8:Con:=Wr (fun (l:Sl Int) (_:Int)=>Lo l.l.length) (fun l n=>Znw l.l n)
structure Ken:Prop
theorem Ken.k (_:Ken) (h:p:=by
 repeat' first|exact Z1|with_reducible apply Zb|intro _
 all_goals first|with_reducible exact Qo|omega|exact ⟨k+1,by exact Qk,by omega,h2,by omega⟩|skip):p:=h
structure Kem:Prop
theorem Kem.k (_:Kem) (h:p:=by
 repeat' first|exact Z1|with_reducible apply Zb|intro _
 refine Zi [4,6,7,8,9,10,11,12,13,14,15,16,17] (fun k:Nat=>[(5,.d (.int .i64 k))]) (fun k:Nat=>[]) (fun k:Nat=>k≤l.length∧∀ j,j<k→l.getD j 0≠n) (fun k:Nat=>l.length-k) 0 ?_ ?_ ?_
 ·simp
 ·exact Qk
 rintro k ⟨hk,hno⟩;rcases Zn k l.length with ⟨hlt,Qd⟩|⟨hlt,Qd⟩
 ·have Qe:=Zr (0:Int) hlt;have hst:l.getD k 0≠n→∀ j,j<k+1→l.getD j 0≠n:=by
   intro h j hj;by_cases e:j=k
   ·subst e;exact h
   ·exact hno j (by omega)
  have hit:(l.getD k 0==n)=true→Znw l n=true:=fun h=>A8 0 k hlt h;obtain ⟨x,hx⟩:=exq (l.getD k 0);rw [hx] at Qe hst hit;cases Z6:(x==n) with
  | true =>
   have Qa:=hit Z6;exact E5
  | false =>
   have h2:=hst (by simpa using Z6)
   have Kq:Ken:=⟨⟩;exact Gk
 ·have Qa:Znw l n=false:=Ly 0 fun j hj=>Za.2 (hno j (by omega))
  exact Zt3):p:=h
theorem good_In08:Qq Tryz.prog (89,O8):=by
 obtain ⟨Kx,Kt,Kc,Kd,Kb,Ku,Kw,K,_⟩:=X2 Z4 Zq [] false X1;have Ko:=O8.eq_def;refine Wh K Tryz.func89 [.tmp 4] rfl 18 rfl (fun c hc cvs hpre=>?_);unfold O8 at hpre;obtain ⟨⟨l⟩,n,rfl,hl⟩:=Jv hpre;simp only at hl;cases hc;have Kq:Kem:=⟨⟩;exact Gk
abbrev Xd:=Mod6
theorem S1:Sz.sz Xd=4:=rfl
theorem Xi {m:Xd}:(enc m:D)=.agg [.str m.name,.list 1 (m.imps.map enc),.list 3 (m.defs.map enc),.list 3 (m.sites.map enc)]:=rfl
def m0:Xd:=⟨[],[],[],[]⟩
abbrev nm (l:List Xd) (k:Nat):List UInt8:=(l.getD k m0).name
def Xv:List Xd→List UInt8→Option Nat
 | [],_=>none
 | m::l,s=>if m.name=s then some 0 else (Xv l s).map (·+1)
def Wb (l:List Xd) (s:List UInt8):Int:=match Xv l s with
 | some k=>k
 | none=>-1
theorem Zmm:∀ {l:List Xd} {s:List UInt8} {k:Nat},k<l.length→(∀ j,j<k→nm l j≠s)→nm l k=s→Xv l s=some k
 | [],s,k,h,_,_=>by simp at h
 | m::l,s,0,_,_,h=>by
  simp only [nm,List.getD_cons_zero] at h;simp [Xv,h]
 | m::l,s,k+1,h,hno,hk=>by
  have h0:=hno 0 (by omega)
  simp only [nm,List.getD_cons_zero] at h0;rw [Xv,if_neg h0,Zmm (k:=k) (by simpa using h) (fun j hj=>by
   have:=hno (j+1) (by omega)
   simpa [nm] using this) (by simpa [nm] using hk)]
  rfl
theorem Zd9:∀ {l:List Xd} {s:List UInt8},(∀ j,j<l.length→nm l j≠s)→Xv l s=none
 | [],s,_=>rfl
 | m::l,s,hno=>by
  have h0:=hno 0 (by simp)
  simp only [nm,List.getD_cons_zero] at h0;rw [Xv,if_neg h0,Zd9 fun j hj=>by
   have:=hno (j+1) (by simpa using hj)
   simpa [nm] using this]
  rfl
theorem Zu7 {l:List Xd} {s:List UInt8} {k:Nat} (h:k<l.length) (hno:∀ j,j<k→nm l j≠s) (hk:nm l k=s):Wb l s=k:=by
 rw [Wb,Zmm h hno hk]
theorem Zpc {l:List Xd} {s:List UInt8} (hno:∀ j,j<l.length→nm l j≠s):Wb l s=-1:=by
 rw [Wb,Zd9 hno]
def Ca:Con:=Wr (fun (l:Sl Xd) (_:List UInt8)=>Lo l.l.length) (fun l s=>Wb l.l s)
structure Kep:Prop
theorem Kep.k (_:Kep) (h:p:=by
 repeat' first|exact Z1|with_reducible apply Zb|intro _
 all_goals first|with_reducible exact Qo|omega|exact ⟨k+1,by exact Qk,by omega,h2,by omega⟩|skip):p:=h
structure Keo:Prop
theorem Keo.k (_:Keo) (h:p:=by
 repeat' first|exact Z1|with_reducible apply Zb|intro _
 refine Zi [4,6,7,8,9,10,11,12,13,14,15,16,17,18,19] (fun k:Nat=>[(5,.d (.int .i64 k))]) (fun k:Nat=>[]) (fun k:Nat=>k≤l.length∧∀ j,j<k→nm l j≠s) (fun k:Nat=>l.length-k) 0 ?_ ?_ ?_
 ·simp
 ·exact Qk
 rintro k ⟨hk,hno⟩;rcases Zn k l.length with ⟨hlt,Qd⟩|⟨hlt,Qd⟩
 ·have Qe:=Zr m0 hlt;have hst:nm l k≠s→∀ j,j<k+1→nm l j≠s:=fun h=>nM hno h;have hit:nm l k=s→Wb l s=k:=fun h=>Zu7 hlt hno h;unfold nm at hst hit;obtain ⟨x,hx⟩:=exq (l.getD k m0);rw [hx] at Qe hst hit;cases Z6:(x.name==s) with
  | true =>
   have Qa:=hit (by simpa using Z6)
   have Qc:=@Xi;have Qh:=@S1;exact E5
  | false =>
   have h2:=hst (by simpa using Z6)
   have Qc:=@Xi;have Qh:=@S1;have Kq:Kep:=⟨⟩;exact Gk
 ·have Qa:Wb l s=-1:=Zpc fun j hj=>hno j (by omega)
  have Qc:=@S1;exact Zt3):p:=h
theorem good_find8:Qq Tryz.prog (86,Ca):=by
 obtain ⟨Kx,Kt,Kc,Kd,Kb,Ku,Kw,K,_⟩:=X2 Z4 Zq [] false X1;have Ko:=Ca.eq_def;refine Wh K Tryz.func86 [.tmp 4] rfl 20 rfl (fun c hc cvs hpre=>?_);unfold Ca at hpre;obtain ⟨⟨l⟩,s,rfl,hl⟩:=Jv hpre;simp only at hl;cases hc;have Kq:Keo:=⟨⟩;exact Gk
abbrev imp (l:List Xd) (k:Nat):List (List UInt8):=(l.getD k m0).imps
def aC (l:List Xd):Prop:=l.length≤20∧∀ k,(imp l k).length≤2000
theorem Tm {l:List Xd} (h:aC l):l.length≤20:=h.1
theorem bB {l:List Xd} (h:aC l) (k:Nat):(imp l k).length≤2000:=h.2 k
theorem Yu:∀ {l:List Xd} {s:List UInt8} {k:Nat},Xv l s=some k→k<l.length
 | [],s,k,h=>by simp [Xv] at h
 | m::l,s,k,h=>by
  rw [Xv] at h;by_cases hm:m.name=s
  ·rw [if_pos hm] at h;injection h with h
   subst h;simp
  ·rw [if_neg hm] at h;cases hf:Xv l s with
   | none=>rw [hf] at h;cases h
   | some j =>
    rw [hf] at h;simp only [Option.map_some,Zc] at h;have:=Yu hf;simp only [Zj];omega
def Es (l:List Xd) (i:Int) (come:List Int):Bool:=(imp l i.toNat).all fun s=>Znw come (Wb l s)
def Al:Con:=Uj (fun (l:Sl Xd) (i:Int) (c:Sl Int)=>aC l.l∧0≤i∧i<l.l.length∧Lo c.l.length) (fun l i c=>Es l.l i c.l)
structure Ker:Prop
theorem Ker.k (_:Ker) (h:p:=by
 repeat' first|exact Z1|with_reducible apply Zb|intro _
 all_goals first|with_reducible exact Qo|omega|exact ⟨k+1,by exact Qk,by omega,hs,by omega⟩|skip):p:=h
structure Keq:Prop
theorem Keq.k (_:Keq) (h:p:=by
 repeat' first|exact Z1|with_reducible apply Zb|intro _
 refine Zi [6,8,9,10,11,12,13,14,15,16,17,18,19,20,21,22,23,24,25,26,27,28,29,30] (fun k:Nat=>[(7,.d (.int .i64 k))]) (fun k:Nat=>[]) (fun k:Nat=>k≤x.imps.length∧∀ j,j<k→Znw c0 (Wb l (x.imps.getD j []))=true) (fun k:Nat=>x.imps.length-k) 0 ?_ ?_ ?_
 ·simp
 ·exact Qk
 rintro k ⟨hk,hno⟩;rcases Zn k x.imps.length with ⟨hlt,Qd⟩|⟨hlt,Qd⟩
 ·have Z6:=Zr ([]:List UInt8) hlt;have hst:Znw c0 (Wb l (x.imps.getD k []))=true→∀ j,j<k+1→Znw c0 (Wb l (x.imps.getD j []))=true:=fun h=>nM hno h;have hbad:Znw c0 (Wb l (x.imps.getD k []))=false→R=false:=fun h=>by
   rw [←hR2];exact cF (p:=fun s=>Znw c0 (Wb l s)) [] k hlt h
  obtain ⟨y,hy⟩:=exq (x.imps.getD k []);rw [hy] at Z6 hst hbad;cases Qa:Znw c0 (Wb l y) with
  | true =>
   have hs:=hst Qa;have Qh:=@Xi;have Qp:=@S1;have Kq:Ker:=⟨⟩;exact Gk
  | false =>
   have hr:=hbad Qa;subst hr;have Qh:=@Xi;have Qp:=@S1;exact E5
 ·have hr:R=true:=by
   rw [←hR2];exact Cd (p:=fun s=>Znw c0 (Wb l s)) [] fun j hj=>hno j (by omega)
  subst hr;have Qh:=@Xi;have Qp:=@S1;exact E5):p:=h
theorem good_ready8:Qq Tryz.prog (90,Al):=by
 obtain ⟨Kx,Kt,Kc,Kd,Kb,Ku,Kw,K,W4,Gd,_⟩:=X2 Z4 Zq [] false (Jh good_find8 Ca.eq_def (Jh good_In08 O8.eq_def X1));have Ko:=Al.eq_def;refine Wh K Tryz.func90 [.tmp 6] rfl 31 rfl (fun c hc cvs hpre=>?_);unfold Al at hpre;obtain ⟨⟨l⟩,i,⟨c0⟩,rfl,hf,hi0,hil,hcl⟩:=Mg hpre;simp only at hf hi0 hil hcl;clear hpre;obtain ⟨n,rfl⟩:=Int.eq_ofNat_of_zero_le hi0;have hl20:=Tm hf;have hi20:=bB hf n;have hnl:n<l.length:=by omega
 have Qe:=Zr m0 hnl;obtain ⟨R,Qc⟩:=exq (Es l n c0);have hR2:=Qc;unfold Es at hR2;rw [Zf] at hR2;unfold imp at hR2 hi20;obtain ⟨x,hx⟩:=exq (l.getD n m0);rw [hx] at Qe hR2 hi20;cases hc;have Kq:Keq:=⟨⟩;exact Gk
def W5 (l:List Xd) (is:List Bool):Nat→Int
 | 0=>-1
 | k+1=>cond (is.getD k false&&(Yi (W5 l is k) 0||Op.bytesLess (nm l k) (nm l (W5 l is k).toNat))) (k:Int) (W5 l is k)
theorem Ze0 (l:List Xd) (is:List Bool):∀ k,W5 l is k=-1∨(0≤W5 l is k∧W5 l is k<k)
 | 0=>.inl rfl
 | k+1=>by
  have ih:=Ze0 l is k;rw [W5];cases is.getD k false&&(Yi (W5 l is k) 0||Op.bytesLess (nm l k) (nm l (W5 l is k).toNat)) with
  | true=>right;simp only [cond_true];omega
  | false=>simp only [cond_false];omega
def Ap:Con:=Wr (fun (l:Sl Xd) (is:Sl Bool)=>l.l.length≤20∧is.l.length=l.l.length) (fun l is=>W5 l.l is.l l.l.length)
structure Ket:Prop
theorem Ket.k (_:Ket) (h:p:=by
 repeat' first|exact Z1|with_reducible apply Zb|intro _
 all_goals first|with_reducible exact Qo|omega|exact ⟨k+1,by rw [hb',hS];exact Qk,by omega,by omega⟩|skip):p:=h
structure Keu:Prop
theorem Keu.k (_:Keu) (h:p:=by
 repeat' first|exact Z1|with_reducible apply Zb|intro _
 all_goals first|with_reducible exact Qo|omega|exact ⟨k+1,by rw [hb',hS1];exact Qk,by omega,by omega⟩|skip):p:=h
structure Kev:Prop
theorem Kev.k (_:Kev) (h:p:=by
 repeat' first|exact Z1|with_reducible apply Zb|intro _
 all_goals first|with_reducible exact Qo|omega|exact ⟨k+1,by rw [hb',hS];exact Qk,by omega,by omega⟩|skip):p:=h
structure Kew:Prop
theorem Kew.k (_:Kew) (h:p:=by
 repeat' first|exact Z1|with_reducible apply Zb|intro _
 all_goals first|with_reducible exact Qo|omega|exact ⟨k+1,by rw [hb',hS];exact Qk,by omega,by omega⟩|skip):p:=h
structure Kes:Prop
theorem Kes.k (_:Kes) (h:p:=by
 repeat' first|exact Z1|with_reducible apply Zb|intro _
 refine Zi [7,8,9,10,11,12,13,14,15,16,17,18,19,20,21,22,23,24,25,26,27,28,29,30,31,32,33,34] (fun k:Nat=>[(5,.d (.int .i64 (W5 l is k))),(6,.d (.int .i64 k))]) (fun k:Nat=>[]) (fun k:Nat=>k≤l.length) (fun k:Nat=>l.length-k) 0 ?_ ?_ ?_
 ·simp
 ·have Um:=@W5.eq_1;have Ix:=@W5.eq_2;exact Qk
 rintro k hk;rcases Zn k l.length with ⟨hlt,Qd⟩|⟨hlt,Qd⟩
 ·have Qe:=Zr m0 hlt;have Z6:=Zr false (show k<is.length by omega)
  have hB:=Ze0 l is k;have hS:W5 l is (k+1)=cond (is.getD k false&&(Yi (W5 l is k) 0||Op.bytesLess (nm l k) (nm l (W5 l is k).toNat))) (k:Int) (W5 l is k):=rfl;obtain ⟨b,hb⟩:=exq (W5 l is k);obtain ⟨b',hb'⟩:=exq (W5 l is (k+1));rw [hb] at hB;rw [hb,hb'] at hS;rw [hb];unfold nm at hS;obtain ⟨x,hx⟩:=exq (l.getD k m0);rw [hx] at Qe hS;cases hk1:is.getD k false with
  | false =>
   rw [hk1] at Z6 hS;simp only [Bool.false_and,cond_false] at hS;have Qz:=@Xi;have Qv:=@S1;have Kq:Ket:=⟨⟩;exact Gk
  | true =>
   rw [hk1] at Z6 hS;simp only [Bool.true_and] at hS;rcases hB with hB|⟨hB0,hBk⟩
   ·subst hB;have hS1:b'=k:=hS;have Qz:=@Xi;have Qv:=@S1;have Kq:Keu:=⟨⟩;exact Gk
   ·obtain ⟨p,rfl⟩:=Int.eq_ofNat_of_zero_le hB0;have Qa:=Zr m0 (show p<l.length by omega)
    have Qc:Yi (p:Int) 0=false:=by rw [Q9];omega
    rw [Zf] at hS;obtain ⟨y,hy⟩:=exq (l.getD p m0);rw [hy] at Qa hS;rw [Qc,Bool.false_or] at hS;cases Qh:Op.bytesLess x.name y.name with
    | true =>
     rw [Qh,cond_true] at hS;have Qz:=@Xi;have Qv:=@S1;have Kq:Kev:=⟨⟩;exact Gk
    | false =>
     rw [Qh,cond_false] at hS;have Qz:=@Xi;have Qv:=@S1;have Kq:Kew:=⟨⟩;exact Gk
 ·have Qp:k=l.length:=by omega
  rw [Qp];have Qz:=@S1;exact E5):p:=h
theorem good_least8:Qq Tryz.prog (88,Ap):=by
 obtain ⟨Kx,Kt,Kc,Kd,Kb,Ku,Kw,K,_⟩:=X2 Z4 Zq [] false X1;have Ko:=Ap.eq_def;refine Wh K Tryz.func88 [.tmp 4] rfl 36 rfl (fun c hc cvs hpre=>?_);unfold Ap at hpre;obtain ⟨⟨l⟩,⟨is⟩,rfl,hl,his⟩:=Jv hpre;simp only at hl his;clear hpre;cases hc;refine Yv 2 ?_;have Kq:Kes:=⟨⟩;exact Gk
def Zwe (l:List Xd) (b:List Bool) (s:List UInt8):List Bool:=match Xv l s with
 | some n=>b.set n true
 | none=>b
def S5 (l:List Xd) (b:List Bool) (ss:List (List UInt8)):List Bool:=ss.foldl (Zwe l) b
def Zcm (l:List Xd) (i:Int) (b:List Bool) (k:Nat):List Bool:=cond (((k:Int) != i)&&!b.getD k false) b (S5 l b (imp l k))
def Gj (l:List Xd) (i:Int) (b:List Bool):Nat→List Bool
 | 0=>b
 | k+1=>Zcm l i (Gj l i b k) k
def X6 (l:List Xd) (i:Int):Nat→List Bool
 | 0=>List.replicate l.length false
 | r+1=>Gj l i (X6 l i r) l.length
def Jl (l:List Xd) (i:Int):List Bool:=X6 l i (l.length+1)
theorem Zqb {l:List Xd} {b:List Bool} {s:List UInt8}:(Zwe l b s).length=b.length:=by
 unfold Zwe;split<;>simp
theorem aP {l:List Xd}:∀ {ss:List (List UInt8)} {b:List Bool},(S5 l b ss).length=b.length
 | [],b=>rfl
 | s::ss,b=>by
  show (S5 l (Zwe l b s) ss).length=_;rw [aP,Zqb]
theorem Zdg {l:List Xd} {b:List Bool} {ss:List (List UInt8)} {j:Nat} (h:j<ss.length):S5 l b (ss.take (j+1))=Zwe l (S5 l b (ss.take j)) (ss.getD j []):=by
 unfold S5;rw [List.take_succ_eq_append_getElem h,List.foldl_append];simp [h]
theorem Znz {l:List Xd} {i:Int} {b:List Bool} {k:Nat}:(Zcm l i b k).length=b.length:=by
 unfold Zcm;cases ((k:Int) != i)&&!b.getD k false
 ·rw [cond_false,aP]
 ·rfl
theorem B3 {l:List Xd} {i:Int} {b:List Bool}:∀ k,(Gj l i b k).length=b.length
 | 0=>rfl
 | k+1=>by rw [Gj,Znz,B3 k]
theorem X4 {l:List Xd} {i:Int}:∀ r,(X6 l i r).length=l.length
 | 0=>by simp [X6]
 | r+1=>by rw [X6,B3,X4 r]
theorem Zls {b:List Bool} {n:Nat}:(b.map (enc:Bool→D)).set n (.bool true)=(b.set n true).map enc:=by
 rw [List.map_set];rfl
def Tt:Con:=Wr (fun (l:Sl Xd) (_:Int)=>aC l.l) (fun l i=>Sl.mk (Jl l.l i))
structure Kez:Prop
theorem Kez.k (_:Kez) (h:p:=by
 repeat' first|exact Z1|with_reducible apply Zb|intro _
 all_goals first|with_reducible exact Qo|omega|exact ⟨k+1,by rw [hb2,hnx1];exact Qk,by omega,by omega⟩|skip):p:=h
structure KeB:Prop
theorem KeB.k (_:KeB) (h:p:=by
 repeat' first|exact Z1|with_reducible apply Zb|intro _
 all_goals first|with_reducible exact Qo|omega|exact ⟨j+1,by rw [hsn];exact Qk,by omega,by omega⟩|skip):p:=h
structure KeC:Prop
theorem KeC.k (_:KeC) (h:p:=by
 repeat' first|exact Z1|with_reducible apply Zb|intro _
 all_goals first|with_reducible exact Qo|omega|exact ⟨j+1,by rw [hsn,←hms];exact Qk,by omega,by omega⟩|skip):p:=h
structure KeD:Prop
theorem KeD.k (_:KeD) (h:p:=by
 repeat' first|exact Z1|with_reducible apply Zb|intro _
 all_goals first|with_reducible exact Qo|omega|exact ⟨k+1,by rw [hb2,hnx1];exact Qk,by omega,by omega⟩|skip):p:=h
structure KeA:Prop
theorem KeA.k (_:KeA) (h:p:=by
 repeat' first|exact Z1|with_reducible apply Zb|intro _
 refine Zi [9,35,36,37,38,39,40,41,42,43,44,45,46,47,48,49,50,51,52,53,54,55,56,57,58,59] (fun j:Nat=>[(8,.d (.int .i64 j))]) (fun j:Nat=>[(12,.row 1 ((S5 l b1 (x.imps.take j)).map enc) 0)]) (fun j:Nat=>j≤x.imps.length) (fun j:Nat=>x.imps.length-j) 0 ?_ ?_ ?_
 ·omega
 ·have Um:=@S5.eq_1;exact Qk
 rintro j hj;have Z3:=aP (l:=l) (ss:=x.imps.take j) (b:=b1);obtain ⟨b3,hb3⟩:=exq (S5 l b1 (x.imps.take j));rw [hb3] at Z3 ⊢;rcases Zn j x.imps.length with ⟨hjl,Qv⟩|⟨hjl,Qv⟩
 ·have Q4:=Zr ([]:List UInt8) hjl;have hsn:=Zdg (l:=l) (b:=b1) hjl;rw [hb3] at hsn;obtain ⟨y,hy⟩:=exq (x.imps.getD j []);rw [hy] at Q4 hsn;unfold Zwe at hsn;cases hfn:Xv l y with
  | none =>
   have Z0:Wb l y=-1:=by unfold Wb;rw [hfn]
   rw [hfn] at hsn;simp only at hsn;have Zw:=@Xi;have Qn:=@S1;have Kq:KeB:=⟨⟩;exact Gk
  | some p =>
   have Z0:Wb l y=p:=by unfold Wb;rw [hfn]
   have hpl:=Yu hfn;have Zz:Wf 0 (p:Int)=true:=by rw [Qx];omega
   rw [hfn] at hsn;simp only at hsn;have hms:=Zls (b:=b3) (n:=p);have Z7:=Zr false (show p<b3.length by omega)
   obtain ⟨bv,hbv⟩:=exq (b3.getD p false);rw [hbv] at Z7;have Zw:=@Xi;have Qn:=@S1;have Kq:KeC:=⟨⟩;exact Gk
 ·have hje:j=x.imps.length:=by omega
  rw [hje,List.take_length] at hb3;rw [hb3] at hnx1;have Zw:=@Xi;have Qn:=@S1;have Kq:KeD:=⟨⟩;exact Gk):p:=h
structure KeF:Prop
theorem KeF.k (_:KeF) (h:p:=by
 repeat' first|exact Z1|with_reducible apply Zb|intro _
 all_goals first|with_reducible exact Qo|omega|exact ⟨j+1,by rw [hsn];exact Qk,by omega,by omega⟩|skip):p:=h
structure KeG:Prop
theorem KeG.k (_:KeG) (h:p:=by
 repeat' first|exact Z1|with_reducible apply Zb|intro _
 all_goals first|with_reducible exact Qo|omega|exact ⟨j+1,by rw [hsn,←hms];exact Qk,by omega,by omega⟩|skip):p:=h
structure KeH:Prop
theorem KeH.k (_:KeH) (h:p:=by
 repeat' first|exact Z1|with_reducible apply Zb|intro _
 all_goals first|with_reducible exact Qo|omega|exact ⟨k+1,by rw [hb2,hnx1];exact Qk,by omega,by omega⟩|skip):p:=h
structure KeE:Prop
theorem KeE.k (_:KeE) (h:p:=by
 repeat' first|exact Z1|with_reducible apply Zb|intro _
 refine Zi [9,35,36,37,38,39,40,41,42,43,44,45,46,47,48,49,50,51,52,53,54,55,56,57,58,59] (fun j:Nat=>[(8,.d (.int .i64 j))]) (fun j:Nat=>[(12,.row 1 ((S5 l b1 (x.imps.take j)).map enc) 0)]) (fun j:Nat=>j≤x.imps.length) (fun j:Nat=>x.imps.length-j) 0 ?_ ?_ ?_
 ·omega
 ·have Um:=@S5.eq_1;exact Qk
 rintro j hj;have Z3:=aP (l:=l) (ss:=x.imps.take j) (b:=b1);obtain ⟨b3,hb3⟩:=exq (S5 l b1 (x.imps.take j));rw [hb3] at Z3 ⊢;rcases Zn j x.imps.length with ⟨hjl,Qv⟩|⟨hjl,Qv⟩
 ·have Q4:=Zr ([]:List UInt8) hjl;have hsn:=Zdg (l:=l) (b:=b1) hjl;rw [hb3] at hsn;obtain ⟨y,hy⟩:=exq (x.imps.getD j []);rw [hy] at Q4 hsn;unfold Zwe at hsn;cases hfn:Xv l y with
  | none =>
   have Z0:Wb l y=-1:=by unfold Wb;rw [hfn]
   rw [hfn] at hsn;simp only at hsn;have Zw:=@Xi;have Qn:=@S1;have Kq:KeF:=⟨⟩;exact Gk
  | some p =>
   have Z0:Wb l y=p:=by unfold Wb;rw [hfn]
   have hpl:=Yu hfn;have Zz:Wf 0 (p:Int)=true:=by rw [Qx];omega
   rw [hfn] at hsn;simp only at hsn;have hms:=Zls (b:=b3) (n:=p);have Z7:=Zr false (show p<b3.length by omega)
   obtain ⟨bv,hbv⟩:=exq (b3.getD p false);rw [hbv] at Z7;have Zw:=@Xi;have Qn:=@S1;have Kq:KeG:=⟨⟩;exact Gk
 ·have hje:j=x.imps.length:=by omega
  rw [hje,List.take_length] at hb3;rw [hb3] at hnx1;have Zw:=@Xi;have Qn:=@S1;have Kq:KeH:=⟨⟩;exact Gk):p:=h
structure KeI:Prop
theorem KeI.k (_:KeI) (h:p:=by
 repeat' first|exact Z1|with_reducible apply Zb|intro _
 all_goals first|with_reducible exact Qo|omega|exact ⟨r+1,by exact Qk,by omega,by omega⟩|skip):p:=h
structure Key:Prop
theorem Key.k (_:Key) (h:p:=by
 repeat' first|exact Z1|with_reducible apply Zb|intro _
 refine Zi [8,9,19,20,21,22,23,24,25,26,27,28,29,30,31,32,33,34,35,36,37,38,39,40,41,42,43,44,45,46,47,48,49,50,51,52,53,54,55,56,57,58,59] (fun k:Nat=>[(7,.d (.int .i64 k))]) (fun k:Nat=>[(12,.row 1 ((Gj l i b0 k).map enc) 0)]) (fun k:Nat=>k≤l.length) (fun k:Nat=>l.length-k) 0 ?_ ?_ ?_
 ·omega
 ·have Um:=@Gj.eq_1;have Ix:=@Gj.eq_2;exact Qk
 rintro k hk;have Qh:=B3 (l:=l) (i:=i) (b:=b0) k;have hnx1:Gj l i b0 (k+1)=cond (((k:Int) != i)&&!(Gj l i b0 k).getD k false) (Gj l i b0 k) (S5 l (Gj l i b0 k) (imp l k)):=rfl;obtain ⟨b1,hb1⟩:=exq (Gj l i b0 k);obtain ⟨b2,hb2⟩:=exq (Gj l i b0 (k+1));rw [hb1] at Qh;rw [hb1,hb2] at hnx1;rcases Zn k l.length with ⟨hlt,Qe⟩|⟨hlt,Qe⟩
 ·rw [hb1];have Z6:=Zr m0 hlt;have Qa:=Zr false (show k<b1.length by omega)
  have hi20:=bB hf k;unfold imp at hi20 hnx1;obtain ⟨x,hx⟩:=exq (l.getD k m0);rw [hx] at Z6 hi20 hnx1;cases hc1:(((k:Int) != i)&&!b1.getD k false) with
  | true =>
   rw [hc1,cond_true] at hnx1;simp only [Zk,Bool.not_eq_true'] at hc1;obtain ⟨Qc,hk2⟩:=hc1;rw [hk2] at Qa;have Zw:=@Xi;have Qn:=@S1;have Kq:Kez:=⟨⟩;exact Gk
  | false =>
   rw [hc1,cond_false] at hnx1;obtain ⟨c1,hcc⟩:=exq (b1.getD k false);rw [hcc] at Qa hc1;obtain ⟨c2,Qz⟩:=exq (((k:Int) != i));rw [Qz] at hc1;have inner:True:=trivial;cases c2 with
   | true =>
    have hc1':c1=true:=by simpa using hc1
    subst hc1';have Zw:=@Xi;have Qn:=@S1;have Kq:KeA:=⟨⟩;exact Gk
   | false =>
    have Zw:=@Xi;have Qn:=@S1;have Kq:KeE:=⟨⟩;exact Gk
 ·have Z9:k=l.length:=by omega
  rw [Z9,←hnx];have Zw:=@S1;have Kq:KeI:=⟨⟩;exact Gk):p:=h
structure Kex:Prop
theorem Kex.k (_:Kex) (h:p:=by
 repeat' first|exact Z1|with_reducible apply Zb|intro _
 refine Zi [7,8,9,13,14,15,16,17,18,19,20,21,22,23,24,25,26,27,28,29,30,31,32,33,34,35,36,37,38,39,40,41,42,43,44,45,46,47,48,49,50,51,52,53,54,55,56,57,58,59] (fun r:Nat=>[(5,.sl 12 l.length),(6,.d (.int .i64 r))]) (fun r:Nat=>[(12,.row 1 ((X6 l i r).map enc) 0)]) (fun r:Nat=>r≤l.length+1) (fun r:Nat=>l.length+1-r) 0 ?_ ?_ ?_
 ·omega
 ·have Um:=@X6.eq_1;have Ix:=@X6.eq_2;exact Qk
 rintro r hr;have Qp:=X4 (l:=l) (i:=i) r;have hnx:X6 l i (r+1)=Gj l i (X6 l i r) l.length:=rfl;obtain ⟨b0,Zv⟩:=exq (X6 l i r);by_cases hrl:r≤l.length
 ·have Qd:Wf (r:Int) (l.length:Int)=true:=by rw [Qx];omega
  rw [Zv] at Qp hnx ⊢;have Zw:=@S1;have Kq:Key:=⟨⟩;exact Gk
 ·have hrl':r=l.length+1:=by omega
  have Qd:Wf (r:Int) (l.length:Int)=false:=by rw [aR];omega
  have Qg:Jl l i=b0:=by unfold Jl;rw [←hrl',Zv]
  rw [Zv] at Qp;rw [Zv];have Zw:=@S1;exact E5):p:=h
theorem good_reached8:Qq Tryz.prog (87,Tt):=by
 obtain ⟨Kx,Kt,Kc,Kd,Kb,Ku,Kw,K,W4,_⟩:=X2 Z4 Zq [] false (Jh good_find8 Ca.eq_def X1);have Ko:=Tt.eq_def;refine Wh K Tryz.func87 [.tmp 4] rfl 61 rfl (fun c hc cvs hpre=>?_);unfold Tt at hpre;obtain ⟨⟨l⟩,i,rfl,hf⟩:=Jv hpre;simp only at hf;clear hpre;have hl20:=Tm hf;cases hc;refine Yv 3 ?_;have Zw:=@S1;have Kq:Kex:=⟨⟩;exact Gk
def W0 {A R S T:Type} [Enc A] [Enc R] [Enc S] [Enc T] (p:A→Prop) (f:A→R×S×T):Con:=⟨[false],[false,false,false],fun c=>match c with
 | [.d x]=>K3 A x∧p (dec x)
 | _=>False,fun c=>match c with
 | [.d x]=>.tup [.d (enc (f (dec x)).1),.d (enc (f (dec x)).2.1),.d (enc (f (dec x)).2.2)]
 | _=>.d .nilp⟩
theorem kW:type_of% @W0.eq_def:=@W0.eq_def
theorem cV {A R S T:Type} [Enc A] [Enc R] [Enc S] [Enc T] {p:A→Prop} {f:A→R×S×T} {c:List CV} (h:(W0 p f).pre c):∃ a,c=[.d (enc a)]∧p a:=by
 unfold W0 at h;simp only at h;split at h
 ·next x=>exact ⟨dec x,by rw [←h.1],h.2⟩
 ·exact h.elim
theorem iL {p:Nat→Bool}:∀ {n k:Nat},k<n→(∀ j,j<k→p j=false)→p k=true→(List.range n).find? p=some k:=by
 intro n k hk hno hp;rw [List.find?_eq_some_iff_append];refine ⟨hp,List.range k,(List.range' (k+1) (n-k-1)),?_,fun a ha=>?_⟩
 ·rw [List.range_eq_range',List.range_eq_range',show n=k+(1+(n-k-1)) by omega,List.range'_append_1.symm]
  rw [show 1+(n-k-1)=(n-k-1)+1 by omega,List.range'_succ]
  simp
 ·rw [hno a (List.mem_range.1 ha)];rfl
theorem iI {p:Nat→Bool} {n:Nat} (hno:∀ j,j<n→p j=false):(List.range n).find? p=none:=by
 rw [List.find?_eq_none];intro x hx;rw [hno x (List.mem_range.1 hx)];simp
def fillN (f:Nat→Bool) (n:Nat):Nat→List Bool
 | 0=>List.replicate n false
 | k+1=>(fillN f n k).set k (f k)
theorem Fo (f:Nat→Bool) (n:Nat):∀ k,(fillN f n k).length=n
 | 0=>by simp [fillN]
 | k+1=>by rw [fillN,List.length_set,Fo f n k]
theorem Zmn (f:Nat→Bool) (n:Nat):∀ k j,k≤n→j<n→(fillN f n k)[j]?=some (if j<k then f j else false)
 | 0,j,_,hj=>by simp [fillN,hj]
 | k+1,j,hk,hj=>by
  have ih:=Zmn f n k j (by omega) hj
  rw [fillN,List.getElem?_set];by_cases e:k=j
  ·subst e;rw [if_pos rfl,if_pos (by rw [Fo];exact hj),if_pos (by omega)]
  ·rw [if_neg e,ih];by_cases h:j<k
   ·rw [if_pos h,if_pos (by omega)]
   ·rw [if_neg h,if_neg (by omega)]
theorem bK (f:Nat→Bool) (n:Nat):fillN f n n=(List.range n).map f:=by
 apply List.ext_getElem?;intro j;rcases Nat.lt_or_ge j n with hj|hj
 ·rw [Zmn f n n j (Zl _) hj,if_pos hj];simp [hj]
 ·rw [List.getElem?_eq_none (by rw [Fo];exact hj),List.getElem?_eq_none (by simpa using hj)]
def It (l:List Xd) (k:Nat):Bool:=Yi (Wb l (nm l k)) (k:Int)
def Bv (l:List Xd) (k:Nat):Bool:=(imp l k).any fun s=>Yi (Wb l s) 0
def Dj (l:List Xd) (k:Nat):Bool:=(Jl l (k:Int)).getD k false
def mayB (l:List Xd) (out:List Int) (k:Nat):Bool:=!Znw out (k:Int)&&Es l (k:Int) out
def Gy (l:List Xd):Nat→List Int
 | 0=>[]
 | r+1=>Gy l r++[W5 l ((List.range l.length).map (mayB l (Gy l r))) l.length]
theorem Gt (l:List Xd):∀ r,(Gy l r).length=r
 | 0=>rfl
 | r+1=>by rw [Gy,Zh,Gt l r];rfl
def W9 (l:List Xd):Sl Int×Int×Int:=match (List.range l.length).find? (It l) with
 | some i=>(⟨[]⟩,i,7)
 | none=>match (List.range l.length).find? (Bv l) with
  | some i=>(⟨[]⟩,i,6)
  | none=>cond (Wf 0 (W5 l ((List.range l.length).map (Dj l)) l.length)) (⟨[]⟩,W5 l ((List.range l.length).map (Dj l)) l.length,8) (⟨Gy l l.length⟩,0,0)
def Dd:Con:=W0 (fun (l:Sl Xd)=>aC l.l) (fun l=>W9 l.l)
structure KeK:Prop
theorem KeK.k (_:KeK) (h:p:=by
 repeat' first|exact Z1|with_reducible apply Zb|intro _
 all_goals first|with_reducible exact Qo|omega|exact ⟨k+1,by exact Qk,by omega,hs,by omega⟩|skip):p:=h
structure KeN:Prop
theorem KeN.k (_:KeN) (h:p:=by
 repeat' first|exact Z1|with_reducible apply Zb|intro _
 all_goals first|with_reducible exact Qo|omega|exact ⟨j+1,by exact Qk,by omega,hs,by omega⟩|skip):p:=h
structure KeO:Prop
theorem KeO.k (_:KeO) (h:p:=by
 repeat' first|exact Z1|with_reducible apply Zb|intro _
 all_goals first|with_reducible exact Qo|omega|exact ⟨k+1,by exact Qk,by omega,hs,by omega⟩|skip):p:=h
structure KeM:Prop
theorem KeM.k (_:KeM) (h:p:=by
 repeat' first|exact Z1|with_reducible apply Zb|intro _
 refine Zi [2,3,4,36,37,38,39,40,41,42,43,44,45,46,47,48,49,50,51,52,53,54,55,56,57] (fun j:Nat=>[(7,.d (.int .i64 j))]) (fun j:Nat=>[]) (fun j:Nat=>j≤x.imps.length∧∀ i,i<j→0≤Wb l (x.imps.getD i [])) (fun j:Nat=>x.imps.length-j) 0 ?_ ?_ ?_
 ·simp
 ·exact Qk
 rintro j ⟨hj,hnj⟩;rcases Zn j x.imps.length with ⟨hjl,Qc⟩|⟨hjl,Qc⟩
 ·have Qh:=Zr ([]:List UInt8) hjl;have hsj:Yi (Wb l (x.imps.getD j [])) 0=false→∀ i,i<j+1→0≤Wb l (x.imps.getD i []):=fun h=>nM hnj (by rw [Q9] at h;omega)
  have hbj:Yi (Wb l (x.imps.getD j [])) 0=true→R1=⟨[]⟩∧R2=k∧R3=6:=fun h=>hit (A8 (p:=fun s=>Yi (Wb l s) 0) [] j hjl h);obtain ⟨y,hy⟩:=exq (x.imps.getD j []);rw [hy] at Qh hsj hbj;cases Z6:Yi (Wb l y) 0 with
  | true =>
   obtain ⟨e1,e2,e3⟩:=hbj Z6;subst e1 e2 e3;have Zv:=@W0.eq_def;have Zw:=@Xi;have Qn:=@S1;exact E5
  | false =>
   have hs:=hsj Z6;have Zv:=@Xi;have Zw:=@S1;have Kq:KeN:=⟨⟩;exact Gk
 ·have hs:=hst (Ly (p:=fun s=>Yi (Wb l s) 0) [] fun i hi=>by have:=hnj i (by omega);rw [Q9];omega)
  have Zv:=@Xi;have Zw:=@S1;have Kq:KeO:=⟨⟩;exact Gk):p:=h
structure KeQ:Prop
theorem KeQ.k (_:KeQ) (h:p:=by
 repeat' first|exact Z1|with_reducible apply Zb|intro _
 all_goals first|with_reducible exact Qo|omega|exact ⟨k+1,by rw [hS3,←hms];exact Qk,by omega,by omega⟩|skip):p:=h
structure KeT:Prop
theorem KeT.k (_:KeT) (h:p:=by
 repeat' first|exact Z1|with_reducible apply Zb|intro _
 all_goals first|with_reducible exact Qo|omega|exact ⟨(k+1,r),by simp only [hS,←hm1];exact Qk,by simp only;omega,by simp only;omega,by simp only;omega⟩|skip):p:=h
structure KeU:Prop
theorem KeU.k (_:KeU) (h:p:=by
 repeat' first|exact Z1|with_reducible apply Zb|intro _
 all_goals first|with_reducible exact Qo|omega|exact ⟨(k+1,r),by simp only [hS,←hm1];exact Qk,by simp only;omega,by simp only;omega,by simp only;omega⟩|skip):p:=h
structure KeV:Prop
theorem KeV.k (_:KeV) (h:p:=by
 repeat' first|exact Z1|with_reducible apply Zb|intro _
 all_goals first|with_reducible exact Qo|omega|exact ⟨(r+1,gz),by simp only [ho2,hoS];refine Qcr ?_;exact Zz.symm,by simp only;omega,by simp only;omega,by simp only;omega⟩|skip):p:=h
structure KeS:Prop
theorem KeS.k (_:KeS) (h:p:=by
 repeat' first|exact Z1|with_reducible apply Zb|intro _
 all_goals try omega
 refine Zi [90,91,92,93,94,95,96,97,98,99,100,101,102,103,104,105,106,107,108] (fun q:Nat×Nat=>[(13,.d (.int .i64 q.1))]) (fun q:Nat×Nat=>[(82,.row 1 (o.map enc) q.2),(89,.row 1 ((fillN (mayB l o) l.length q.1).map enc) 0)]) (fun q:Nat×Nat=>q.1≤l.length∧q.2≤r) (fun q:Nat×Nat=>l.length-q.1) (0,fz) ?_ ?_ ?_
 ·simp;omega
 ·have Um:=@fillN.eq_1;have Ix:=@fillN.eq_2;exact Qk
 rintro ⟨k,gz⟩ ⟨hk,hgz⟩;simp only at hk hgz ⊢;have Q4:=Fo (mayB l o) l.length k;have hS:fillN (mayB l o) l.length (k+1)=(fillN (mayB l o) l.length k).set k (!Znw o (k:Int)&&Es l (k:Int) o):=rfl;rcases Zn k l.length with ⟨hlt,Qd⟩|⟨hlt,Qd⟩
 ·obtain ⟨b,Z6⟩:=exq (fillN (mayB l o) l.length k);rw [Z6] at Q4 hS ⊢;have Qz:=Zr false (show k<b.length by omega)
  obtain ⟨c2,hcd⟩:=exq (b.getD k false);rw [hcd] at Qz;have hms:∀ v,(b.map (enc:Bool→D)).set k (.bool v)=(b.set k v).map enc:=fun v=>by rw [List.map_set];rfl
  cases Z7:Znw o (k:Int) with
  | true =>
   rw [Z7] at hS;simp only [Bool.not_true,Bool.false_and] at hS;have hm1:=hms false;have Zv:=@S1;have Kq:KeT:=⟨⟩;exact Gk
  | false =>
   rw [Z7] at hS;simp only [Bool.not_false,Bool.true_and] at hS;obtain ⟨v,Z9⟩:=exq (Es l (k:Int) o);rw [Z9] at hS;have hm1:=hms v;have Zv:=@S1;have Kq:KeU:=⟨⟩;exact Gk
 ·have hkl2:k=l.length:=by omega
  rw [hkl2,bK] at Q4;rw [hkl2] at Qd;rw [hkl2,bK];obtain ⟨my,hmy⟩:=exq ((List.range l.length).map (mayB l o));rw [hmy] at Q4 hoS ⊢;obtain ⟨z,Qg⟩:=exq (W5 l my l.length);rw [Qg] at hoS;have Zv:=@S1;have Kq:KeV:=⟨⟩;exact Gk):p:=h
structure KeR:Prop
theorem KeR.k (_:KeR) (h:p:=by
 repeat' first|exact Z1|with_reducible apply Zb|intro _
 all_goals try omega
 refine Zi [12,13,86,87,88,89,90,91,92,93,94,95,96,97,98,99,100,101,102,103,104,105,106,107,108,109,110,111,112,113,114,115] (fun q:Nat×Nat=>[(11,.sl 82 ((Gy l q.1).map (enc:Int→D)).length),(85,.d (.int .i64 q.1))]) (fun q:Nat×Nat=>[(82,.row 1 ((Gy l q.1).map enc) q.2)]) (fun q:Nat×Nat=>q.1≤l.length∧q.2≤q.1) (fun q:Nat×Nat=>l.length-q.1) (0,0) ?_ ?_ ?_
 ·simp
 ·have Um:=@Gy.eq_1;have Ix:=@Gy.eq_2;exact Qk
 clear Qd;rintro ⟨r,fz⟩ ⟨hr,hfz⟩;simp only at hr hfz ⊢;have Zz:=Gt l r;have hoS:Gy l (r+1)=Gy l r++[W5 l ((List.range l.length).map (mayB l (Gy l r))) l.length]:=rfl;rcases Zn r l.length with ⟨hrlt,Qp⟩|⟨hrlt,Qp⟩
 ·obtain ⟨o,ho⟩:=exq (Gy l r);obtain ⟨o2,ho2⟩:=exq (Gy l (r+1));rw [ho] at Zz;rw [ho,ho2] at hoS;rw [ho];have Zv:=@S1;have Kq:KeS:=⟨⟩;exact Gk
 ·have Qv:r=l.length:=by omega
  rw [Qv] at Qp ⊢;have Zv:=@W0.eq_def;have Zw:=@S1;exact E5):p:=h
structure KeP:Prop
theorem KeP.k (_:KeP) (h:p:=by
 repeat' first|exact Z1|with_reducible apply Zb|intro _
 refine Zi [61,62,63,64,65,66,67,68,69,70,71,72,73,74,75] (fun k:Nat=>[(9,.d (.int .i64 k))]) (fun k:Nat=>[(60,.row 1 ((fillN (Dj l) l.length k).map enc) 0)]) (fun k:Nat=>k≤l.length) (fun k:Nat=>l.length-k) 0 ?_ ?_ ?_
 ·omega
 ·have Um:=@fillN.eq_1;have Ix:=@fillN.eq_2;exact Qk
 clear Qd hlt hk;rintro k hk;have Q4:=Fo (Dj l) l.length k;have hS3:fillN (Dj l) l.length (k+1)=(fillN (Dj l) l.length k).set k ((Jl l (k:Int)).getD k false):=rfl;rcases Zn k l.length with ⟨hlt,Qd⟩|⟨hlt,Qd⟩
 ·obtain ⟨b,Z6⟩:=exq (fillN (Dj l) l.length k);rw [Z6] at Q4 hS3 ⊢;have Qv:(Jl l (k:Int)).length=l.length:=X4 _;have Qh:=Zr false (show k<(Jl l (k:Int)).length by omega)
  have Qz:=Zr false (show k<b.length by omega)
  obtain ⟨c1,hcc⟩:=exq ((Jl l (k:Int)).getD k false);obtain ⟨c2,hcd⟩:=exq (b.getD k false);rw [hcc] at Qh hS3;rw [hcd] at Qz;have hms:(b.map (enc:Bool→D)).set k (.bool c1)=(b.set k c1).map enc:=by rw [List.map_set];rfl
  obtain ⟨rb,Qp⟩:=exq (Jl l (k:Int));rw [Qp] at Qv Qh;have Zv:=@S1;have Kq:KeQ:=⟨⟩;exact Gk
 have hkl:k=l.length:=by omega
 rw [hkl,bK] at Q4;rw [hkl,bK];obtain ⟨cy,hcy⟩:=exq ((List.range l.length).map (Dj l));rw [hcy] at Q4 hR2 ⊢;rw [hkl] at Qd;obtain ⟨best,Z0⟩:=exq (W5 l cy l.length);rw [Z0] at hR2;cases Z3:Wf 0 best with
 | true =>
  rw [Z3,cond_true] at hR2;injection hR2 with e1 e2
  injection e2 with e2 e3
  subst e1 e2 e3;have Zv:=@W0.eq_def;have Zw:=@S1;exact E5
 | false =>
 rw [Z3,cond_false] at hR2;injection hR2 with e1 e2
 injection e2 with e2 e3
 subst e1 e2 e3;have Zv:=@S1;have Kq:KeR:=⟨⟩;exact Gk):p:=h
structure KeL:Prop
theorem KeL.k (_:KeL) (h:p:=by
 repeat' first|exact Z1|with_reducible apply Zb|intro _
 refine Zi [2,3,4,7,30,31,32,33,34,35,36,37,38,39,40,41,42,43,44,45,46,47,48,49,50,51,52,53,54,55,56,57] (fun k:Nat=>[(6,.d (.int .i64 k))]) (fun k:Nat=>[]) (fun k:Nat=>k≤l.length∧∀ j,j<k→Bv l j=false) (fun k:Nat=>l.length-k) 0 ?_ ?_ ?_
 ·simp
 ·exact Qk
 clear Qd hlt hk;rintro k ⟨hk,hno⟩;rcases Zn k l.length with ⟨hlt,Qd⟩|⟨hlt,Qd⟩
 ·have Qe:=Zr m0 hlt;have hi20:=bB hf k;have hst:Bv l k=false→∀ j,j<k+1→Bv l j=false:=fun h=>nM hno h;have hit:Bv l k=true→R1=⟨[]⟩∧R2=k∧R3=6:=fun h=>by
   rw [iL hlt hno h] at hR2;injection hR2 with e1 e2
   injection e2 with e2 e3
   exact ⟨e1.symm,e2.symm,e3.symm⟩
  unfold Bv at hst hit;unfold imp at hi20 hst hit;obtain ⟨x,hx⟩:=exq (l.getD k m0);rw [hx] at Qe hst hit hi20;have Zv:=@S1;have Kq:KeM:=⟨⟩;exact Gk
 have hlack:=iI (p:=Bv l) (n:=l.length) fun j hj=>hno j (by omega)
 rw [hlack] at hR2;simp only at hR2;clear hno;have Zv:=@S1;have Kq:KeP:=⟨⟩;exact Gk):p:=h
structure KeJ:Prop
theorem KeJ.k (_:KeJ) (h:p:=by
 repeat' first|exact Z1|with_reducible apply Zb|intro _
 refine Zi [2,3,4,14,15,16,17,18,19,20,21,22,23,24,25,26,27,28,29] (fun k:Nat=>[(5,.d (.int .i64 k))]) (fun k:Nat=>[]) (fun k:Nat=>k≤l.length∧∀ j,j<k→It l j=false) (fun k:Nat=>l.length-k) 0 ?_ ?_ ?_
 ·simp
 ·exact Qk
 rintro k ⟨hk,hno⟩;rcases Zn k l.length with ⟨hlt,Qd⟩|⟨hlt,Qd⟩
 ·have Qe:=Zr m0 hlt;have hst:It l k=false→∀ j,j<k+1→It l j=false:=fun h=>nM hno h;have hit:It l k=true→R1=⟨[]⟩∧R2=k∧R3=7:=fun h=>by
   rw [iL hlt hno h] at hR2;injection hR2 with e1 e2
   injection e2 with e2 e3
   exact ⟨e1.symm,e2.symm,e3.symm⟩
  unfold It nm at hst hit;obtain ⟨x,hx⟩:=exq (l.getD k m0);rw [hx] at Qe hst hit;cases Z6:Yi (Wb l x.name) (k:Int) with
  | true =>
   obtain ⟨e1,e2,e3⟩:=hit Z6;subst e1 e2 e3;have Zv:=@W0.eq_def;have Zw:=@Xi;have Qn:=@S1;exact E5
  | false =>
   have hs:=hst Z6;have Zv:=@Xi;have Zw:=@S1;have Kq:KeK:=⟨⟩;exact Gk
 have hdup:=iI (p:=It l) (n:=l.length) fun j hj=>hno j (by omega)
 rw [hdup] at hR2;simp only at hR2;clear hno;have Zv:=@S1;have Kq:KeL:=⟨⟩;exact Gk):p:=h
theorem good_Order8:Qq Tryz.prog (40,Dd):=by
 obtain ⟨Kx,Kt,Kc,Kd,Kb,Ku,Kw,K,W4,Gd,M4,Ln,Ek,_⟩:=X2 Z4 Zq [] false (Jh good_find8 Ca.eq_def (Jh good_reached8 Tt.eq_def (Jh good_least8 Ap.eq_def (Jh good_In08 O8.eq_def (Jh good_ready8 Al.eq_def X1)))));have Ko:=Dd.eq_def;refine Wh K Tryz.func40 [.tmp 2,.tmp 3,.tmp 4] rfl 117 rfl (fun c hc cvs hpre=>?_);unfold Dd at hpre;obtain ⟨⟨l⟩,rfl,hf⟩:=cV hpre;simp only at hf;clear hpre;have hl20:=Tm hf;obtain ⟨R1,R2,R3,Qa⟩:∃ a b d,W9 l=(a,b,d):=⟨_,_,_,rfl⟩;have hR2:=Qa;unfold W9 at hR2;cases hc;refine Yv 7 ?_;have Kq:KeJ:=⟨⟩;exact Gk
def fX (l:List Xd) (k j:Nat):Prop:=∃ s∈imp l k,Xv l s=some j
inductive Path (l:List Xd):Nat→Nat→Prop
 | one {k j:Nat}:fX l k j→Path l k j
 | more {k j n:Nat}:fX l k j→Path l j n→Path l k n
theorem F8 {l:List Xd} {k j:Nat} (h:fX l k j):k<l.length∧j<l.length:=by
 obtain ⟨s,hs,hj⟩:=h;refine ⟨?_,Yu hj⟩;rcases Nat.lt_or_ge k l.length with h|h
 ·exact h
 ·unfold imp at hs;rw [Zd,List.getElem?_eq_none h] at hs;cases hs
theorem Zbz {l:List Xd} {k j:Nat} (h:Path l k j):k<l.length∧j<l.length:=by
 induction h with
 | one h=>exact F8 h
 | more h _ ih=>exact ⟨(F8 h).1,ih.2⟩
theorem Path.trans {l:List Xd} {a b c:Nat} (h:Path l a b) (k:Path l b c):Path l a c:=by
 induction h with
 | one h=>exact .more h k
 | more h _ ih=>exact .more h (ih k)
theorem Path.snoc {l:List Xd} {a b c:Nat} (h:Path l a b) (k:fX l b c):Path l a c:=h.trans (.one k)
theorem I9 {l:List Xd} {M:Nat→Prop} (hM:∀ k j,M k→fX l k j→M j) {i k:Nat} (h:Path l i k) (h1:∀ j,fX l i j→M j):M k:=by
 induction h with
 | one h=>exact h1 _ h
 | more h _ ih=>exact ih fun j hj=>hM _ _ (h1 _ h) hj
theorem Zu0 {b:List Bool} {n k:Nat} (hn:n<b.length):(b.set n true).getD k false=(b.getD k false||(n==k)):=by
 rw [Zd,List.getElem?_set,Zd];by_cases h:n=k
 ·subst h;simp [hn]
 ·rw [if_neg h];have:(n==k)=false:=by rw [Za];exact h
  rw [this,Bool.or_false]
theorem Zyk {l:List Xd} {b:List Bool} (hb:b.length=l.length) (s:List UInt8) (k:Nat):(Zwe l b s).getD k false=true↔b.getD k false=true∨Xv l s=some k:=by
 unfold Zwe;cases h:Xv l s with
 | none=>simp
 | some n =>
  have:=Yu h;simp only;rw [Zu0 (by omega),Bool.or_eq_true,Zm]
  simp
theorem Zlr {l:List Xd}:∀ {ss:List (List UInt8)} {b:List Bool} (_:b.length=l.length) (k:Nat),(S5 l b ss).getD k false=true↔b.getD k false=true∨∃ s∈ss,Xv l s=some k
 | [],b,hb,k=>by simp [S5]
 | s::ss,b,hb,k=>by
  show (S5 l (Zwe l b s) ss).getD k false=true↔_;rw [Zlr (by rw [Zqb,hb]) k,Zyk hb]
  simp only [Zu,exists_eq_or_imp,or_assoc]
theorem kH {l:List Xd} {i:Nat} {b:List Bool} (hb:b.length=l.length) (k j:Nat) :
  (Zcm l i b k).getD j false=true↔b.getD j false=true∨((k=i∨b.getD k false=true)∧fX l k j):=by
 unfold Zcm;cases hc:(((k:Int) != (i:Int))&&!b.getD k false) with
 | true =>
  rw [cond_true];rw [Zk,Bool.not_eq_true',bne_iff_ne] at hc;constructor
  ·exact .inl
  ·rintro (h|⟨h|h,_⟩)
   ·exact h
   ·exact absurd (by rw [h]) hc.1
   ·rw [hc.2] at h;cases h
 | false =>
  rw [cond_false,Zlr hb];rw [Bool.and_eq_false_iff,bne_eq_false_iff_eq,Bool.not_eq_false'] at hc;have h1:k=i∨b.getD k false=true:=by
   rcases hc with h|h
   ·exact .inl (by omega)
   ·exact .inr h
  constructor
  ·rintro (h|h)
   ·exact .inl h
   ·exact .inr ⟨h1,h⟩
  ·rintro (h|⟨_,h⟩)
   ·exact .inl h
   ·exact .inr h
theorem I0 {l:List Xd} {i:Nat} {b:List Bool} (hb:b.length=l.length):∀ n j,b.getD j false=true→(Gj l i b n).getD j false=true
 | 0,_,h=>h
 | n+1,j,h=>by
  rw [Gj,kH (by rw [B3,hb])]
  exact .inl (I0 hb n j h)
theorem mV {l:List Xd} {i:Nat} {b:List Bool} (hb:b.length=l.length):∀ n k j,k<n→(k=i∨b.getD k false=true)→fX l k j→(Gj l i b n).getD j false=true
 | 0,_,_,h,_,_=>by omega
 | n+1,k,j,h,hk,hs=>by
  rw [Gj,kH (by rw [B3,hb])]
  by_cases e:k=n
  ·subst e;refine .inr ⟨?_,hs⟩;rcases hk with h|h
   ·exact .inl h
   ·exact .inr (I0 hb k k h)
  ·exact .inl (mV hb n k j (by omega) hk hs)
theorem F7 {l:List Xd} {i:Nat} {b:List Bool} (hb:b.length=l.length) (h0:∀ k,b.getD k false=true→Path l i k):∀ n k,(Gj l i b n).getD k false=true→Path l i k
 | 0,k,h=>h0 k h
 | n+1,j,h=>by
  rw [Gj,kH (by rw [B3,hb])] at h
  rcases h with h|⟨h|h,hs⟩
  ·exact F7 hb h0 n j h
  ·subst h;exact .one hs
  ·exact (F7 hb h0 n n h).snoc hs
theorem fH {l:List Xd} {i:Nat}:∀ r k,(X6 l i r).getD k false=true→Path l i k
 | 0,k,h=>by
  have:(List.replicate l.length false).getD k false=false:=by
   rw [Zd,List.getElem?_replicate];split<;>rfl
  change (List.replicate l.length false).getD k false=true at h
  rw [this] at h;cases h
 | r+1,k,h=>F7 (X4 r) (fun k=>fH r k) l.length k h
theorem Zjy:∀ {b c:List Bool},b.length=c.length→(∀ k,b.getD k false=true→c.getD k false=true)→b=c∨b.countP id<c.countP id
 | [],[],_,_=>.inl rfl
 | [],_::_,h,_=>by simp at h
 | _::_,[],h,_=>by simp at h
 | x::b,y::c,h,hm=>by
  have h0:=hm 0;simp only [List.getD_cons_zero] at h0;have ih:=Zjy (b:=b) (c:=c) (by simpa using h) (fun k=>by simpa using hm (k+1))
  rcases ih with e|e
  ·subst e;cases x with
   | true=>rw [h0 rfl];exact .inl rfl
   | false =>
    cases y with
    | false=>exact .inl rfl
    | true=>right;simp
  ·right;cases x with
   | true=>rw [h0 rfl];simpa using e
   | false=>cases y<;>simp<;>omega
theorem Zky {l:List Xd} {i:Nat} (r:Nat):X6 l i r=X6 l i (r+1)∨(X6 l i r).countP id<(X6 l i (r+1)).countP id :=
 Zjy (by rw [X4,X4]) fun k h=>I0 (X4 r) _ k h
theorem I4 {l:List Xd} {i:Nat} {r:Nat} (h:X6 l i r=X6 l i (r+1)):∀ k,X6 l i (r+k)=X6 l i r
 | 0=>rfl
 | k+1=>by
  show X6 l i ((r+k)+1)=_;rw [X6,I4 h k];exact h.symm
theorem fG {l:List Xd} {i:Nat}:∀ r,(∃ q,q<r∧X6 l i q=X6 l i (q+1))∨r≤(X6 l i r).countP id
 | 0=>.inr (Nat.zero_le _)
 | r+1=>by
  rcases fG r with ⟨q,h1,h2⟩|h
  ·exact .inl ⟨q,by omega,h2⟩
  ·rcases Zky (l:=l) (i:=i) r with e|e
   ·exact .inl ⟨r,by omega,e⟩
   ·exact .inr (by omega)
theorem I5 {l:List Xd} {i:Nat}:∀ k j,(k=i∨(Jl l i).getD k false=true)→fX l k j→(Jl l i).getD j false=true:=by
 have hst:Jl l i=X6 l i (l.length+1+1):=by
  rcases fG (l:=l) (i:=i) (l.length+1) with ⟨q,h1,h2⟩|h
  ·have e1:=I4 h2 (l.length+1-q);have e2:=I4 h2 (l.length+1+1-q);rw [show q+(l.length+1-q)=l.length+1 by omega] at e1
   rw [show q+(l.length+1+1-q)=l.length+1+1 by omega] at e2
   unfold Jl;rw [e1,e2]
  ·have h3:=List.countP_le_length (p:=id) (l:=X6 l i (l.length+1));have h4:=X4 (l:=l) (i:=i) (l.length+1);omega
 intro k j hk hs;rw [hst];exact mV (X4 _) l.length k j (F8 hs).1 hk hs
theorem X5 {l:List Xd} {i k:Nat}:(Jl l i).getD k false=true↔Path l i k :=
 ⟨fun h=>fH _ k h,fun h=>I9 (M:=fun k=>(Jl l i).getD k false=true) (fun k j hk hs=>I5 k j (.inr hk) hs) h fun j hj=>I5 i j (.inl rfl) hj⟩
theorem Zuq {x y:List UInt8}:Op.bytesLess x y=true↔x<y:=by rw [bytesLess_eq,decide_eq_true_eq]
theorem less_not {x y:List UInt8}:Op.bytesLess x y=false↔y≤x:=by
 rw [bytesLess_eq,decide_eq_false_iff_not,List.not_lt]
theorem Uy:∀ {l:List Xd} {s:List UInt8} {k:Nat},Xv l s=some k→nm l k=s
 | [],s,k,h=>by simp [Xv] at h
 | m::l,s,k,h=>by
  rw [Xv] at h;by_cases hm:m.name=s
  ·rw [if_pos hm] at h;injection h with h
   subst h;exact hm
  ·rw [if_neg hm] at h;cases hf:Xv l s with
   | none=>rw [hf] at h;cases h
   | some j =>
    rw [hf] at h;simp only [Option.map_some,Zc] at h;subst h;have:=Uy hf;simpa [nm] using this
theorem Ox:∀ {l:List Xd} {k:Nat},k<l.length→∃ j,Xv l (nm l k)=some j∧j≤k
 | [],k,h=>by simp at h
 | m::l,0,_=>⟨0,by simp [Xv,nm],Zl _⟩
 | m::l,k+1,h=>by
  by_cases hm:m.name=nm (m::l) (k+1)
  ·exact ⟨0,by rw [Xv,if_pos hm],Nat.zero_le _⟩
  ·obtain ⟨j,h1,h2⟩:=Ox (l:=l) (k:=k) (by simpa using h)
   have e:nm (m::l) (k+1)=nm l k:=by simp [nm]
   rw [e] at hm ⊢;exact ⟨j+1,by rw [Xv,if_neg hm,h1];rfl,by omega⟩
def M3 (l:List Xd):Prop:=∀ k,k<l.length→Xv l (nm l k)=some k
def fY (l:List Xd):Prop:=∀ k,k<l.length→∀ s∈imp l k,∃ j,Xv l s=some j
theorem P9 {l:List Xd} (h:M3 l) {a b:Nat} (ha:a<l.length) (hb:b<l.length) (e:nm l a=nm l b):a=b:=by
 have h1:=h a ha;rw [e,h b hb] at h1;injection h1 with h1
 exact h1.symm
theorem Iy {l:List Xd}:(List.range l.length).find? (It l)=none↔M3 l:=by
 rw [List.find?_eq_none];constructor
 ·intro h k hk;obtain ⟨j,h1,h2⟩:=Ox hk;have:=h k (List.mem_range.2 hk);rw [Bool.not_eq_true] at this;unfold It Wb at this;rw [h1] at this;simp only at this;rw [Q9] at this;rw [h1,show j=k by omega]
 ·intro h k hk;rw [List.mem_range] at hk;unfold It Wb;rw [h k hk];simp only;rw [Xa];omega
theorem Ov {l:List Xd}:(List.range l.length).find? (Bv l)=none↔fY l:=by
 rw [List.find?_eq_none];constructor
 ·intro h k hk s hs;have:=h k (List.mem_range.2 hk);rw [Bool.not_eq_true] at this;unfold Bv at this;rw [List.any_eq_false] at this;have:=this s hs;rw [Bool.not_eq_true] at this;unfold Wb at this;cases hf:Xv l s with
  | none=>rw [hf] at this;cases this
  | some j=>exact ⟨j,rfl⟩
 ·intro h k hk;rw [List.mem_range] at hk;rw [Bool.not_eq_true];unfold Bv;rw [List.any_eq_false];intro s hs;obtain ⟨j,hj⟩:=h k hk s hs;unfold Wb;rw [hj];simp only;rw [Xa];omega
theorem Ll {l:List Xd} {is:List Bool}:∀ n,(W5 l is n=-1∧∀ j,j<n→is.getD j false=false) ∨
  ∃ k:Nat,W5 l is n=k∧k<n∧is.getD k false=true∧∀ j,j<n→is.getD j false=true→nm l k≤nm l j
 | 0=>.inl ⟨rfl,fun j hj=>by omega⟩
 | n+1=>by
  rw [W5];rcases Ll (l:=l) (is:=is) n with ⟨h,hno⟩|⟨k,h,hk,his,hle⟩
  ·rw [h];cases hn:is.getD n false with
   | false =>
    rw [Bool.false_and,cond_false];exact .inl ⟨rfl,nM hno hn⟩
   | true =>
    right;refine ⟨n,rfl,by omega,hn,fun j hj hj2=>?_⟩
    by_cases e:j=n
    ·subst e;exact List.le_refl _
    ·rw [hno j (by omega)] at hj2;cases hj2
  ·rw [h,Zf,show Yi (k:Int) 0=false by rw [Q9];omega,Bool.false_or]
   cases hn:is.getD n false with
   | false =>
    rw [Bool.false_and,cond_false];refine .inr ⟨k,rfl,by omega,his,fun j hj hj2=>?_⟩
    by_cases e:j=n
    ·subst e;rw [hn] at hj2;cases hj2
    ·exact hle j (by omega) hj2
   | true =>
    rw [Bool.true_and];cases hb:Op.bytesLess (nm l n) (nm l k) with
    | true =>
     rw [cond_true];rw [Zuq] at hb;refine .inr ⟨n,rfl,by omega,hn,fun j hj hj2=>?_⟩
     by_cases e:j=n
     ·subst e;exact List.le_refl _
     ·exact List.le_trans (List.le_of_lt hb) (hle j (by omega) hj2)
    | false =>
     rw [cond_false];rw [less_not] at hb;refine .inr ⟨k,rfl,by omega,his,fun j hj hj2=>?_⟩
     by_cases e:j=n
     ·subst e;exact hb
     ·exact hle j (by omega) hj2
def Znq (l:List Xd):Prop:=∃ k,Path l k k
theorem Zk8 {l:List Xd} (hU:M3 l) (hF:fY l) (hA:¬ Znq l) {C:List (List UInt8)}:∀ n k,k<l.length→(Jl l k).countP id≤n→nm l k∉C→∃ j,j<l.length∧(nm l j∉C∧∀ s∈imp l j,s∈C):=by
 intro n
 induction n with
 | zero =>
  intro k hk hn hC;by_cases h:∀ s∈imp l k,s∈C
  ·exact ⟨k,hk,⟨hC,h⟩⟩
  ·obtain ⟨s,h2⟩:=Classical.not_forall.1 h;obtain ⟨hs,hsC⟩:=Classical.not_imp.1 h2;obtain ⟨j,hj⟩:=hF k hk s hs;have h1:(Jl l k).getD j false=true:=X5.2 (.one ⟨s,hs,hj⟩);have h0:(Jl l k).countP id=0:=by omega
   rw [List.countP_eq_zero] at h0;have hjl:j<(Jl l k).length:=by have:(Jl l k).length=l.length:=X4 _;rw [this];exact Yu hj
   have:=h0 _ (List.getElem_mem hjl);rw [Zd,Zg hjl] at h1;exact absurd h1 this
 | succ n ih =>
  intro k hk hn hC;by_cases h:∀ s∈imp l k,s∈C
  ·exact ⟨k,hk,⟨hC,h⟩⟩
  ·obtain ⟨s,h2⟩:=Classical.not_forall.1 h;obtain ⟨hs,hsC⟩:=Classical.not_imp.1 h2;obtain ⟨j,hj⟩:=hF k hk s hs;have hkj:fX l k j:=⟨s,hs,hj⟩;have hjl:=Yu hj;refine ih j hjl ?_ (by rw [Uy hj];exact hsC)
   have l1:(Jl l j).length=l.length:=X4 _;have l2:(Jl l k).length=l.length:=X4 _;rcases Zjy (b:=Jl l j) (c:=Jl l k) (by rw [l1,l2]) (fun x hx=>X5.2 (.more hkj (X5.1 hx))) with e|e
   ·have h1:(Jl l k).getD j false=true:=X5.2 (.one hkj);rw [←e,X5] at h1;exact absurd ⟨j,h1⟩ hA
   ·omega
theorem Tl {l:List Int} {n:Int}:Znw l n=true↔n∈l:=by
 unfold Znw;rw [List.any_eq_true];exact ⟨fun ⟨x,h1,h2⟩=>by rw [Zm] at h2;exact h2▸h1,fun h=>⟨n,h,by simp⟩⟩
theorem Bf {f:Nat→Bool} {n k:Nat} (h:k<n):((List.range n).map f).getD k false=f k:=by
 rw [Zd];simp [h]
theorem Fv {l:List Xd} (hl:l.length≤20):Wf 0 (W5 l ((List.range l.length).map (Dj l)) l.length)=true↔Znq l:=by
 rw [Qx];rcases Ll (l:=l) (is:=(List.range l.length).map (Dj l)) l.length with ⟨h,hno⟩|⟨k,h,hk,his,_⟩
 ·rw [h];refine ⟨fun h=>by omega,fun ⟨k,hk⟩=>?_⟩
  have hkl:=(Zbz hk).1;have:=hno k hkl;rw [Bf hkl] at this;have h2:(Jl l k).getD k false=true:=X5.2 hk
  change (Jl l k).getD k false=false at this
  rw [h2] at this;cases this
 ·rw [h];refine ⟨fun _=>⟨k,?_⟩,fun _=>by omega⟩
  rw [Bf hk] at his;exact X5.1 his
theorem Zpr:∀ (n:Nat) (O:List Int),(∀ k:Nat,k<n→(k:Int)∈O)→n≤O.length
 | 0,O,_=>Nat.zero_le _
 | n+1,O,h=>by
  have h0:=h n (by omega)
  have h1:=Zpr n (O.erase n) fun k hk=>(List.mem_erase_of_ne (by omega)).2 (h k (by omega))
  rw [List.length_erase_of_mem h0] at h1;have:0<O.length:=List.length_pos_of_mem h0;omega
theorem Zjc {l:List Xd} (hU:M3 l) (hF:fY l) (hA:¬ Znq l):∀ r,r≤l.length→∀ x∈Gy l r,∃ k:Nat,x=k∧k<l.length
 | 0,_,x,hx=>by simp [Gy] at hx
 | r+1,hr,x,hx=>by
  have ih:=Zjc hU hF hA r (by omega)
  rw [Gy] at hx;rcases List.mem_append.1 hx with hx|hx
  ·exact ih x hx
  rw [Zp] at hx;obtain ⟨O,hO⟩:=exq (Gy l r);have hlen:=Gt l r;rw [hO] at ih hx hlen;have hex:∃ k:Nat,k<l.length∧(k:Int)∉O:=Classical.byContradiction fun hn=>by
   have:=Zpr l.length O fun k hk=>Classical.byContradiction fun h=>hn ⟨k,hk,h⟩;omega
  obtain ⟨k,hk,hkO⟩:=hex;have hkC:nm l k∉O.map fun x=>nm l x.toNat:=fun h=>by
   obtain ⟨y,hy,he⟩:=List.mem_map.1 h;obtain ⟨k',rfl,hk'⟩:=ih y hy;rw [Zf] at he;have:=P9 hU hk' hk he;exact hkO (this▸hy)
  obtain ⟨j,hj,h1,h2⟩:=Zk8 hU hF hA (C:=O.map fun x=>nm l x.toNat) _ k hk (Zl _) hkC;have hmay:mayB l O j=true:=by
   unfold mayB;rw [Zk,Bool.not_eq_true'];refine ⟨?_,?_⟩
   ·rw [←Bool.not_eq_true,Tl];exact fun h=>h1 (List.mem_map.2 ⟨_,h,by rw [Zf]⟩)
   ·unfold Es;rw [Zf,List.all_eq_true];intro s hs;obtain ⟨y,hy,he⟩:=List.mem_map.1 (h2 s hs);obtain ⟨k',rfl,hk'⟩:=ih y hy;rw [Zf] at he;rw [Tl,←he,Wb,hU k' hk'];exact hy
  rcases Ll (l:=l) (is:=(List.range l.length).map (mayB l O)) l.length with ⟨_,hno⟩|⟨k',h,hk',_,_⟩
  ·have:=hno j hj;rw [Bf hj,hmay] at this;cases this
  ·exact ⟨k',by rw [hx,h],hk'⟩
theorem Fe {l:List Xd} (h20:l.length≤20):∀ x∈(W9 l).1.l,∃ k:Nat,x=k∧k<l.length:=by
 intro x hx;unfold W9 at hx;split at hx
 ·cases hx
 rename_i hu;split at hx
 ·cases hx
 rename_i hf;cases hc:Wf 0 (W5 l ((List.range l.length).map (Dj l)) l.length) with
 | true =>
  rw [hc] at hx;cases hx
 | false =>
  rw [hc] at hx;have hA:¬ Znq l:=fun h=>by
   rw [(Fv h20).2 h] at hc;cases hc
  exact Zjc (Iy.1 hu) (Ov.1 hf) hA l.length (Zl _) x hx
end Go.Am.Ty.Gr
namespace Go.Am.Ty
open Go.Proofs Gr
open Enc (enc dec)
structure Tx9 where
 names:List (List UInt8)
 texts:List (List UInt8)
 deriving DecidableEq
instance encTx9:Enc Tx9:=⟨fun a=>.agg [.list 1 (a.names.map enc),.list 1 (a.texts.map enc)],fun x=>match x with
 | .agg [a,b]=>⟨a.l.map dec,b.l.map dec⟩
 | _=>⟨[],[]⟩,fun a=>by
  have h:∀ l:List (List UInt8),(l.map (enc:List UInt8→D)).map dec=l:=fun l=>J2;cases a;simp [D.l,h]⟩
theorem Y1 {a b:List (List UInt8)}:(enc (Tx9.mk a b):D)=.agg [.list 1 (a.map enc),.list 1 (b.map enc)]:=rfl
theorem Y2 {a b:List (List UInt8)}:(dec (.agg [.list 1 (a.map enc),.list 1 (b.map enc)]):Tx9)=⟨a,b⟩:=Enc.dec_enc (Tx9.mk a b)
theorem Yz {a b:List (List UInt8)}:K3 Tx9 (.agg [.list 1 (a.map enc),.list 1 (b.map enc)])=True:=eq_true (Wg (Tx9.mk a b))
structure Good9 (m:Mod6):Prop where
 name:m.name.length≤50
 short:∀ x∈m.imps,x.length≤1000000
 ilen:m.imps.length≤1502
 dlen:m.defs.length≤200
 fit:∀ d∈m.defs,FitD d
 ok:∀ d∈m.defs,d.t≠[]∧Y6 d.t=true∧d.e≠[]
 right:∀ d∈m.defs,Gm d.e=true
 slen:m.sites.length≤1501
 cnt:∀ z,Zh7 z m.defs=if 1≤z∧z<(m.sites.length:Int)+1 then 1 else 0
theorem Zld {name text:List UInt8} (hn:name.length≤50) (ht:text.length≤1500) (h:(Eu name text).2.2=0):Good9 (Eu name text).1:=by
 obtain ⟨hT,hTl⟩:=Zgc ht;unfold Eu at h ⊢;simp only at h ⊢;split at h
 ·exact absurd h (by assumption)
 rename_i h1;rw [if_neg h1];split at h
 ·exact absurd h (by assumption)
 rename_i h2;rw [if_neg h2];split at h
 ·exact absurd h (by show ¬ (4:Int)=0;decide)
 rename_i h3;rw [if_neg h3];obtain ⟨_,_,_,hok⟩:=Zde hT name;obtain ⟨hM,_,_⟩:=hok (by simpa using h2)
 refine ⟨by show (Uf (Ba text).1 name).1.name.length≤50;rw [hM.name];exact hn,hM.short,by have:=hM.ilen;show (Uf (Ba text).1 name).1.imps.length≤1502;omega,hM.dlen,hM.fit,hM.ok,fun d hd=>?_,by have:=hM.slen;show (Uf (Ba text).1 name).1.sites.length≤1501;omega,hM.cnt⟩
 refine Classical.byContradiction fun hr=>h3 ?_;unfold Zpm;rw [List.findIdx_lt_length];exact ⟨d,hd,by simpa using hr⟩
def E9:List (List UInt8)→List (List UInt8)→List Mod6→List Mod6×Bool
 | n::ns,t::ts,out=>if 50<n.length∨1500<t.length then ([],false) else if (Eu n t).2.2≠0 then ([],false) else E9 ns ts (out++[(Eu n t).1])
 | _,_,out=>(out,true)
def Dq (t:Tx9):List Mod6×Bool:=if t.names.length≠t.texts.length∨6<t.names.length then ([],false) else E9 t.names t.texts []
theorem Zcz:∀ (ns ts:List (List UInt8)) (out:List Mod6),(∀ m∈out,Good9 m)→∀ m∈(E9 ns ts out).1,Good9 m
 | [],_,out,h=>by rw [E9];exact h;intro a b c d e;cases e
 | _::_,[],out,h=>by rw [E9];exact h;intro a b c d e f;cases f
 | n::ns,t::ts,out,h=>by
  rw [E9];split
  ·intro m hm;cases hm
  rename_i h1;split
  ·intro m hm;cases hm
  rename_i h2;refine Zcz ns ts _ fun m hm=>?_;rcases List.mem_append.1 hm with hm|hm
  ·exact h m hm
  ·rw [Zp] at hm;subst hm;exact Zld (by omega) (by omega) (by simpa using h2)
theorem Zgp:∀ (ns ts:List (List UInt8)) (out:List Mod6),(E9 ns ts out).1.length≤out.length+ns.length
 | [],_,out=>by rw [E9];exact Nat.le_add_right _ _;intro a b c d e;cases e
 | _::_,[],out=>by rw [E9];exact Nat.le_add_right _ _;intro a b c d e f;cases f
 | n::ns,t::ts,out=>by
  rw [E9];split
  ·simp
  split
  ·simp
  have:=Zgp ns ts (out++[(Eu n t).1]);simp only [Zh,Zj,List.length_nil] at this ⊢;omega
structure Goods (l:List Mod6):Prop where
 len:l.length≤6
 good:∀ m∈l,Good9 m
theorem Cn (t:Tx9):Goods (Dq t).1:=by
 unfold Dq;split
 ·exact ⟨by simp,fun m hm=>(by cases hm)⟩
 ·have:=Zgp t.names t.texts [];simp only [List.length_nil] at this;exact ⟨by omega,Zcz _ _ _ fun m hm=>(by cases hm)⟩
theorem Goods.few {l:List Mod6} (h:Goods l):aC l:=by
 refine ⟨by have:=h.len;omega,fun k=>?_⟩
 show (l.getD k m0).imps.length≤2000;rcases Nat.lt_or_ge k l.length with hk|hk
 ·rw [Zd,Zg hk];have:=(h.good _ (List.getElem_mem hk)).ilen;simp only [Option.getD_some];omega
 ·rw [Zd,List.getElem?_eq_none hk];simp [m0]
def Cb:Con:=Y3 (fun (_:Tx9)=>True) (fun t=>((⟨(Dq t).1⟩,(Dq t).2):Sl Mod6×Bool))
structure KeX:Prop
theorem KeX.k (_:KeX) (h:p:=by
 repeat' first|exact Z1|with_reducible apply Zb|intro _
 all_goals first|with_reducible exact Qo|omega|rfl|trivial|exact ⟨(k+1,out++[⟨mn,mi,md,ms⟩]),by (have Um:=@Jb;exact Qk),by omega,by simp;omega,hL,by omega⟩|skip):p:=h
structure KeW:Prop
theorem KeW.k (_:KeW) (h:p:=by
 repeat' first|exact Z1|with_reducible apply Zb|intro _
 refine Zi [2,3,6,7,8,23,24,25,26,27,28,29,30,31,32,33,34,35,36,37,38,39,40,41,42,43,44,45,46,47,48,49,50,51,52,53,54,55,56,57,58,59,60,61,62,63,64,65,66] (fun p:Nat×List Mod6=>[(5,.d (.int .i64 p.1)),(4,.sl 9 (p.2.map (enc:Mod6→D)).length)]) (fun p:Nat×List Mod6=>[(9,.row 4 (p.2.map enc) 0)]) (fun p:Nat×List Mod6=>p.1≤names.length∧p.2.length=p.1∧E9 (names.drop p.1) (texts.drop p.1) p.2=R) (fun p:Nat×List Mod6=>names.length-p.1) (0,[]) ?_ ?_ ?_
 ·exact ⟨by omega,rfl,hR2⟩
 ·exact Qk
 rintro ⟨k,out⟩ ⟨hk,hol,hL⟩;simp only at hk hol hL;rcases Zn k names.length with ⟨hlt,Qa⟩|⟨hlt,Qa⟩
 ·have hlt2:k<texts.length:=by omega
  have Qc:=Zr ([]:List UInt8) hlt;have Qh:=Zr ([]:List UInt8) hlt2;rw [List.drop_eq_getElem_cons hlt,List.drop_eq_getElem_cons hlt2,E9] at hL;have e1:names.getD k []=names[k]:=by simp [hlt]
  have e2:texts.getD k []=texts[k]:=by simp [hlt2]
  rw [←e1,←e2] at hL;obtain ⟨n,hn⟩:=exq (names.getD k []);obtain ⟨t,ht⟩:=exq (texts.getD k []);rw [hn] at Qc hL;rw [ht] at Qh hL;clear e1 e2;rcases Xx 50 (n.length:Int) with ⟨h1,Qp⟩|⟨h1,Qp⟩
  ·rw [if_pos (.inl (by omega))] at hL
   subst hL;have Z0:=@Y1;have Z3:=@Y2;have Zz:=@Yz;exact E5
  rcases Xx 1500 (t.length:Int) with ⟨h2,Qz⟩|⟨h2,Qz⟩
  ·rw [if_pos (.inr (by omega))] at hL
   subst hL;have Z0:=@Y1;have Z3:=@Y2;have Zz:=@Yz;exact E5
  rw [if_neg (by omega)] at hL
  obtain ⟨⟨⟨mn,mi,md,ms⟩,a,e⟩,Qv⟩:=exq (Eu n t);rw [Qv] at hL;simp only at hL;by_cases he:e=0
  case neg =>
   rw [if_pos he] at hL;have Q4:(e != 0)=true:=bne_iff_ne.2 he;subst hL;have Z0:=@Y1;have Z3:=@Y2;have Zz:=@Yz;exact E5
  rw [if_neg (by simpa using he)] at hL
  have Q4:(e != 0)=false:=by rw [bne_eq_false_iff_eq];exact he
  have Z0:=@Y1;have Z3:=@Y2;have Zz:=@Yz;have Kq:KeX:=⟨⟩;exact Gk
 ·have hke:k=names.length:=by omega
  rw [hke,List.drop_length,E9] at hL;rotate_left
  ·intro a b c d e;cases e
  rw [hke] at Qa;subst hL;have Z0:=@Y1;have Z3:=@Y2;have Zz:=@Yz;exact E5):p:=h
theorem good_Read9:Qq Tryz.prog (25,Cb):=by
 obtain ⟨Kx,Kt,Kc,Kd,Kb,Ku,Kw,K,W4,_⟩:=X2 Z4 Zq [] false (Jh good_Parse6 A0.eq_def X1);have Ko:=Cb.eq_def;refine Wh K Tryz.func25 [.tmp 2,.tmp 3] rfl 68 rfl (fun c hc cvs hpre=>?_);unfold Cb at hpre;obtain ⟨⟨names,texts⟩,rfl,-⟩:=Zic hpre;clear hpre;obtain ⟨R,Qe⟩:=exq (Dq ⟨names,texts⟩);have hR2:=Qe;unfold Dq at hR2;simp only at hR2;cases hc;refine Yv 4 ?_;by_cases hlen:names.length=texts.length
 case neg =>
  rw [if_pos (.inl hlen)] at hR2;have Qd:((names.length:Int) != (texts.length:Int))=true:=by rw [bne_iff_ne];omega
  subst hR2;have Z0:=@Y1;have Z3:=@Y2;have Zz:=@Yz;exact E5
 have Qd:((names.length:Int) != (texts.length:Int))=false:=by rw [hlen,bne_self_eq_false]
 rcases Xx 6 (names.length:Int) with ⟨h6,Z6⟩|⟨h6,Z6⟩
 ·rw [if_pos (.inr (by omega))] at hR2
  subst hR2;have Z0:=@Y1;have Z3:=@Y2;have Zz:=@Yz;exact E5
 rw [if_neg (by omega)] at hR2
 have Z0:=@Y1;have Z3:=@Y2;have Zz:=@Yz;have Kq:KeW:=⟨⟩;exact Gk
def Xh (l:List Mod6) (O:List Int):List Mod6:=O.map fun x=>l.getD x.toNat Js
def Gn (t:Tx9):List Mod6×Bool:=if (Dq t).2=false then ([],false) else (Xh (Dq t).1 (W9 (Dq t).1).1.l,(W9 (Dq t).1).2.2==0)
def Bn:Con:=Y3 (fun (_:Tx9)=>True) (fun t=>((⟨(Gn t).1⟩,(Gn t).2):Sl Mod6×Bool))
theorem fR {l:List Xd} (h:l.length≤20):(W9 l).1.l.length≤20:=by
 unfold W9;split
 ·simp
 split
 ·simp
 cases Wf 0 (W5 l ((List.range l.length).map (Dj l)) l.length) with
 | true=>simp
 | false =>
  show (Gy l l.length).length≤20;rw [Gt];exact h
structure KeZ:Prop
theorem KeZ.k (_:KeZ) (h:p:=by
 repeat' first|exact Z1|with_reducible apply Zb|intro _
 all_goals first|with_reducible exact Qo|omega|rfl|trivial|exact ⟨k+1,by (have Um:=hst;have Ix:=@Xf;exact Qk),by omega,by omega⟩|skip):p:=h
structure KeY:Prop
theorem KeY.k (_:KeY) (h:p:=by
 repeat' first|exact Z1|with_reducible apply Zb|intro _
 all_goals first|exact hF|skip
 refine Zi [25,26,27,28,29,30,31,32,33,34,35,36,37,38,39,40] (fun k:Nat=>[(10,.d (.int .i64 k)),(9,.sl 24 ((Xh l (O.take k)).map (enc:Mod6→D)).length)]) (fun k:Nat=>[(24,.row 4 ((Xh l (O.take k)).map enc) 0)]) (fun k:Nat=>k≤O.length) (fun k:Nat=>O.length-k) 0 ?_ ?_ ?_
 ·omega
 ·have Um:=@Xh.eq_1;exact Qk
 rintro k hk;have hpl:(Xh l (O.take k)).length≤20:=by unfold Xh;rw [Zo,List.length_take];omega
 rcases Zn k O.length with ⟨hlt,Qa⟩|⟨hlt,Qa⟩
 ·have Qc:=Zr (0:Int) hlt;obtain ⟨j,hj,hjl⟩:=hin (O.getD k 0) (by simp [hlt])
  have Qh:=Zr Js hjl;have hst:Xh l (O.take (k+1))=Xh l (O.take k)++[l.getD j Js]:=by
   unfold Xh;rw [Km (0:Int) hlt,List.map_append];simp only [List.map_cons,List.map_nil];rw [hj,Zf]
  rw [hj] at Qc;obtain ⟨P,hP⟩:=exq (Xh l (O.take k));rw [hP] at hst hpl ⊢;obtain ⟨m,hm⟩:=exq (l.getD j Js);rw [hm] at Qh hst;clear hin hF hG;have Qp:=@W0.eq_def;have Qz:=@Xf;have Kq:KeZ:=⟨⟩;exact Gk
 ·have hke:k=O.length:=by omega
  rw [hke,List.take_length];rw [hke] at Qa;subst hR2;have Qp:=@W0.eq_def;exact E5):p:=h
theorem good_Program9:Qq Tryz.prog (12,Bn):=by
 obtain ⟨Kx,Kt,Kc,Kd,Kb,Ku,Kw,K,W4,Gd,_⟩:=X2 Z4 Zq [] false (Jh good_Read9 Cb.eq_def (Jh good_Order8 Dd.eq_def X1));have Ko:=Bn.eq_def;refine Wh K Tryz.func12 [.tmp 2,.tmp 3] rfl 44 rfl (fun c hc cvs hpre=>?_);unfold Bn at hpre;obtain ⟨⟨names,texts⟩,rfl,-⟩:=Zic hpre;clear hpre;obtain ⟨R,Qe⟩:=exq (Gn ⟨names,texts⟩);have hR2:=Qe;unfold Gn at hR2;have hG:=Cn ⟨names,texts⟩;have hF:=hG.few;have h20:=hF.1;have hin:=Fe h20;have hol:=fR h20;obtain ⟨⟨l,ok⟩,Qd⟩:=exq (Dq ⟨names,texts⟩);rw [Qd] at hR2 hG hF h20 hin hol;simp only at hR2 hG hF h20 hin hol;cases hc;refine Yv 2 ?_;cases ok with
 | false =>
  rw [if_pos rfl] at hR2;subst hR2;have Qp:=@W0.eq_def;have Qz:=@Y1;have Qv:=@Y2;have Q4:=@Yz;exact E5
 | true =>
  rw [if_neg (by simp)] at hR2
  obtain ⟨⟨⟨O⟩,b,e⟩,Z6⟩:=exq (W9 l);rw [Z6] at hR2 hin hol;simp only at hR2 hin hol;have Qp:=@W0.eq_def;have Qz:=@Y1;have Qv:=@Y2;have Q4:=@Yz;have Kq:KeY:=⟨⟩;exact Gk
theorem dY (t:Tx9):(Gn t).1.length≤20∧∀ m∈(Gn t).1,Good9 m:=by
 have hG:=Cn t;have h20:=hG.few.1;unfold Gn;split
 ·exact ⟨by simp,fun m hm=>(by cases hm)⟩
 ·refine ⟨by show (Xh _ _).length≤20;unfold Xh;rw [Zo];exact fR h20,fun m hm=>?_⟩
  obtain ⟨x,hx,rfl⟩:=List.mem_map.1 hm;obtain ⟨k,rfl,hk⟩:=Fe h20 x hx;rw [Zf,Zd,Zg hk];exact hG.good _ (List.getElem_mem hk)
def ah (l:List Mod6) (k:Nat):Nat:=((l.take k).map fun m=>m.sites.length).sum
def U5 (l:List Mod6) (k:Nat):List Int:=(List.range k).map fun j=>(ah l j:Int)
structure SitesOk (l:List Mod6):Prop where
 len:l.length≤20
 sites:∀ m∈l,m.sites.length≤2000
theorem Zrf (l:List Mod6):ah l 0=0:=rfl
theorem Zj6 {l:List Mod6} {k:Nat} (h:k<l.length):ah l (k+1)=ah l k+(l.getD k Js).sites.length:=by
 unfold ah;rw [Km Js h,List.map_append,List.sum_append];simp
theorem Ze5 {l:List Mod6} (h:SitesOk l):∀ k,k≤l.length→ah l k≤2000*k
 | 0,_=>Zl _
 | k+1,hk=>by
  have ih:=Ze5 h k (by omega)
  rw [Zj6 (by omega)]
  have:=h.sites (l.getD k Js) (by rw [Zd,Zg (show k<l.length by omega)];exact List.getElem_mem _)
  omega
theorem fQ (l:List Mod6) (k:Nat):(U5 l k).length=k:=by unfold U5;simp
theorem Fz {l:List Mod6} {j k:Nat} (h:j<k):(U5 l k).getD j 0=ah l j:=by
 unfold U5;rw [Zd];simp [h]
theorem Znj (l:List Mod6) (k:Nat):U5 l (k+1)=U5 l k++[(ah l k:Int)]:=by
 unfold U5;rw [List.range_succ,List.map_append];rfl
def Db:Con:=Xj (fun (l:Sl Mod6)=>SitesOk l.l) (fun l=>Sl.mk (U5 l.l (l.l.length+1)))
structure Kfb:Prop
theorem Kfb.k (_:Kfb) (h:p:=by
 repeat' first|exact Z1|with_reducible apply Zb|intro _
 all_goals first|with_reducible exact Qo|omega|exact ⟨k+1,by (have Um:=hst;exact Qk),by omega,by omega⟩|skip):p:=h
structure Kfa:Prop
theorem Kfa.k (_:Kfa) (h:p:=by
 repeat' first|exact Z1|with_reducible apply Zb|intro _
 refine Zi [4,5,10,11,12,13,14,15,16,17,18,19,20,21,22,23,24,25] (fun k:Nat=>[(3,.sl 6 ((U5 l (k+1)).map (enc:Int→D)).length),(9,.d (.int .i64 k))]) (fun k:Nat=>[(6,.row 1 ((U5 l (k+1)).map enc) 0)]) (fun k:Nat=>k≤l.length) (fun k:Nat=>l.length-k) 0 ?_ ?_ ?_
 ·omega
 ·have Um:=@U5.eq_1;have Ix:=@ah.eq_1;exact Qk
 rintro k hk;have hA:=fQ l (k+1);have hak:=Ze5 hS k hk;rcases Zn k l.length with ⟨hlt,Qe⟩|⟨hlt,Qe⟩
 ·have Z6:=Zr Js hlt;have Qa:=Zr (0:Int) (show k<(U5 l (k+1)).length by omega)
  rw [Fz (show k<k+1 by omega)] at Qa
  have hs:=Zj6 hlt;have hss:=hS.sites (l.getD k Js) (by simp [hlt])
  have hst:=Znj l (k+1);obtain ⟨m,hm⟩:=exq (l.getD k Js);rw [hm] at Z6 hs hss;obtain ⟨mn,mi,md,ms⟩:=m;simp only at hs hss;have Qc:(ah l k:Int)+(ms.length:Int)=(ah l (k+1):Int):=by omega
  obtain ⟨A,hAq⟩:=exq (U5 l (k+1));rw [hAq] at hA Qa hst ⊢;have Kq:Kfb:=⟨⟩;exact Gk
 ·have hke:k=l.length:=by omega
  rw [hke] at Qe;rw [hke,Qh];exact E5):p:=h
theorem good_aheadS:Qq Tryz.prog (41,Db):=by
 obtain ⟨Kx,Kt,Kc,Kd,Kb,Ku,Kw,K,_⟩:=X2 Z4 Zq [] false X1;have Ko:=Db.eq_def;refine Wh K Tryz.func41 [.tmp 2] rfl 27 rfl (fun c hc cvs hpre=>?_);unfold Db at hpre;obtain ⟨⟨l⟩,rfl,hS⟩:=Jr hpre;simp only at hS;clear hpre;obtain ⟨R,Qh⟩:=exq (U5 l (l.length+1));have hlen:=hS.len;have Qd:U5 l 1=[0]:=rfl;cases hc;have Kq:Kfa:=⟨⟩;exact Gk
def kE (l:List Mod6) (site:Int):Nat→Nat→Nat
 | 0,k=>k
 | f+1,k=>if (ah l (k+1):Int)<site then kE l site f (k+1) else k
def Ziu (l:List Mod6) (site:Int):Int×Int×Int :=
 if site<1∨(ah l l.length:Int)<site then (0,0,6) else ((kE l site l.length 0:Int),site-ah l (kE l site l.length 0),0)
def Aw:Con:=Wy (fun (l:Sl Mod6) (site:Int)=>SitesOk l.l∧Zhp .i64 site) (fun l site=>Ziu l.l site)
structure Kfd:Prop
theorem Kfd.k (_:Kfd) (h:p:=by
 repeat' first|exact Z1|with_reducible apply Zb|intro _
 all_goals first|with_reducible exact Qo|omega|exact ⟨(f,k+1),by exact Qk,by omega,hL,h3,by omega⟩|skip):p:=h
structure Kfc:Prop
theorem Kfc.k (_:Kfc) (h:p:=by
 repeat' first|exact Z1|with_reducible apply Zb|intro _
 all_goals first|exact hS|skip
 refine Zi [22,23,24,25,26,27,28,29,30] (fun p:Nat×Nat=>[(8,.d (.int .i64 p.2))]) (fun p:Nat×Nat=>[]) (fun p:Nat×Nat=>p.1+p.2=l.length∧kE l site p.1 p.2=W∧(ah l p.2:Int)<site) (fun p:Nat×Nat=>p.1) (l.length,0) ?_ ?_ ?_
 ·exact ⟨by simp,hW,by rw [Zrf];omega⟩
 ·exact Qk
 rintro ⟨f,k⟩ ⟨hfk,hL,hlt⟩;simp only at hfk hL hlt;have hkl:k<l.length:=by
  refine Nat.lt_of_le_of_ne (by omega) fun e=>?_
  rw [e] at hlt;omega
 obtain ⟨f,rfl⟩:∃ q,f=q+1:=⟨f-1,by omega⟩
 rw [kE] at hL;have Qp:=hat (k+1) (by omega)
 have Qv:=hat k (by omega)
 have hb:=Ze5 hS (k+1) (by omega)
 have Qh:((k:Int)+1).toNat=k+1:=by omega
 rcases Xx (ah l (k+1):Int) site with ⟨h3,Qz⟩|⟨h3,Qz⟩
 ·rw [if_pos h3] at hL;clear hat;have Kq:Kfd:=⟨⟩;exact Gk
 ·rw [if_neg (by omega)] at hL
  subst hL;subst hR2;clear hat;exact E5):p:=h
theorem good_WhereS:Qq Tryz.prog (16,Aw):=by
 obtain ⟨Kx,Kt,Kc,Kd,Kb,Ku,Kw,K,W4,_⟩:=X2 Z4 Zq [] false (Jh good_aheadS Db.eq_def X1);have Ko:=Aw.eq_def;refine Wh K Tryz.func16 [.tmp 4,.tmp 5,.tmp 6] rfl 38 rfl (fun c hc cvs hpre=>?_);unfold Aw at hpre;obtain ⟨⟨l⟩,site,rfl,hS,hsr⟩:=eS hpre;simp only at hS hsr;clear hpre;obtain ⟨R,Z6⟩:=exq (Ziu l site);have hR2:=Z6;unfold Ziu at hR2;have hlen:=hS.len;have hal:=Ze5 hS l.length (Zl _);have hA:=fQ l (l.length+1);have Qa:=Zr (0:Int) (show l.length<(U5 l (l.length+1)).length by omega)
 rw [Fz (show l.length<l.length+1 by omega)] at Qa
 have hat:∀ j,j≤l.length→el ((U5 l (l.length+1)).map (enc:Int→D)) j=enc (ah l j:Int):=fun j hj=>by
  have:=Zr (0:Int) (show j<(U5 l (l.length+1)).length by omega)
  rw [Fz (by omega)] at this
  exact this
 obtain ⟨A,Qd⟩:=exq (U5 l (l.length+1));rw [Qd] at hA Qa hat;rw [Xy] at hsr;cases hc;refine Yv 2 ?_;rcases Xx site 1 with ⟨h1,Qe⟩|⟨h1,Qe⟩
 ·rw [if_pos (.inl h1)] at hR2;subst hR2;exact E5
 rcases Xx (ah l l.length:Int) site with ⟨h2,Qc⟩|⟨h2,Qc⟩
 ·rw [if_pos (.inr h2)] at hR2;subst hR2;exact E5
 rw [if_neg (by omega)] at hR2
 obtain ⟨W,hW⟩:=exq (kE l site l.length 0);rw [hW] at hR2;have Kq:Kfc:=⟨⟩;exact Gk
def Dg {α:Type} (f:Nat→α→α) (l:List α) (k:Nat):List α:=(l.take k).mapIdx f++l.drop k
section
variable {α:Type} {f:Nat→α→α} {l:List α}
theorem Rl (k:Nat):(Dg f l k).length=l.length:=by
 unfold Dg;simp;omega
theorem Fb:Dg f l 0=l:=by simp [Dg]
theorem Fc:Dg f l l.length=l.mapIdx f:=by simp [Dg]
theorem eZ (d:α) {k:Nat} (h:k<l.length):(Dg f l k).getD k d=l.getD k d:=by
 unfold Dg;rw [Zd,List.getElem?_append_right (by simp;omega)]
 simp [show min k l.length=k by omega,Zd]
theorem Rk (d:α) {k:Nat} (h:k<l.length):(Dg f l k).set k (f k (l.getD k d))=Dg f l (k+1):=by
 unfold Dg;rw [List.set_append_right _ _ (by simp;omega),Km d h,List.mapIdx_append]
 simp only [List.length_mapIdx,List.length_take,show min k l.length=k by omega,Nat.sub_self]
 rw [List.drop_eq_getElem_cons h,Jy];simp
theorem Zk9 (d:α) {k:Nat} (h:k<l.length) (e:f k (l.getD k d)=l.getD k d):Dg f l (k+1)=Dg f l k:=by
 rw [←Rk d h,e,←eZ d h (f:=f)];have h2:k<(Dg f l k).length:=by rw [Rl];exact h
 rw [Zd,Zg h2];simp
end
theorem M8 {α:Type} [Enc α] {l:List α} {k:Nat} {y:α}:(l.map (enc:α→D)).set k (enc y)=(l.set k y).map enc:=(List.map_set ..).symm
def As:Con:=G3 (fun (t:Sl Node)=>t.l.length≤1000000) (fun t=>t.l)
structure Kfe:Prop
theorem Kfe.k (_:Kfe) (h:p:=by
 repeat' first|exact Z1|with_reducible apply Zb|intro _
 all_goals first|omega|(simp_all;done)|skip):p:=h
theorem good_cloneT:Qq Tryz.prog (44,As):=by
 obtain ⟨Kx,Kt,Kc,Kd,Kb,Ku,Kw,K,_⟩:=X2 Z4 Zq [4] false X1;have Ko:=As.eq_def;refine Wh K Tryz.func44 [.tmp 2] rfl 8 rfl (fun c hc cvs hpre=>?_);unfold As at hpre;obtain ⟨⟨t⟩,rfl,ht⟩:=cY hpre;simp only at ht;clear hpre;cases hc;have Kq:Kfe:=⟨⟩;exact Gk
def Au:Con:=G3 (fun (t:Sl Part)=>t.l.length≤1000000) (fun t=>t.l)
structure Kff:Prop
theorem Kff.k (_:Kff) (h:p:=by
 repeat' first|exact Z1|with_reducible apply Zb|intro _
 all_goals first|omega|(simp_all;done)|skip):p:=h
theorem good_cloneE:Qq Tryz.prog (46,Au):=by
 obtain ⟨Kx,Kt,Kc,Kd,Kb,Ku,Kw,K,_⟩:=X2 Z4 Zq [4] false X1;have Ko:=Au.eq_def;refine Wh K Tryz.func46 [.tmp 2] rfl 8 rfl (fun c hc cvs hpre=>?_);unfold Au at hpre;obtain ⟨⟨t⟩,rfl,ht⟩:=cY hpre;simp only at ht;clear hpre;cases hc;have Kq:Kff:=⟨⟩;exact Gk
def Lx:Con:=G3 (fun (t:Sl Def6)=>t.l.length≤1000000) (fun t=>t.l)
structure Kfg:Prop
theorem Kfg.k (_:Kfg) (h:p:=by
 repeat' first|exact Z1|with_reducible apply Zb|intro _
 all_goals first|omega|(simp_all;done)|skip):p:=h
theorem good_cloneDefs:Qq Tryz.prog (45,Lx):=by
 obtain ⟨Kx,Kt,Kc,Kd,Kb,Ku,Kw,K,_⟩:=X2 Z4 Zq [4] false X1;have Ko:=Lx.eq_def;refine Wh K Tryz.func45 [.tmp 2] rfl 8 rfl (fun c hc cvs hpre=>?_);unfold Lx at hpre;obtain ⟨⟨t⟩,rfl,ht⟩:=cY hpre;simp only at ht;clear hpre;cases hc;have Kq:Kfg:=⟨⟩;exact Gk
def Lw:Con:=G3 (fun (t:Sl Mod6)=>t.l.length≤1000000) (fun t=>t.l)
structure Kfh:Prop
theorem Kfh.k (_:Kfh) (h:p:=by
 repeat' first|exact Z1|with_reducible apply Zb|intro _
 all_goals first|omega|(simp_all;done)|skip):p:=h
theorem good_cloneMods:Qq Tryz.prog (42,Lw):=by
 obtain ⟨Kx,Kt,Kc,Kd,Kb,Ku,Kw,K,_⟩:=X2 Z4 Zq [4] false X1;have Ko:=Lw.eq_def;refine Wh K Tryz.func42 [.tmp 2] rfl 8 rfl (fun c hc cvs hpre=>?_);unfold Lw at hpre;obtain ⟨⟨t⟩,rfl,ht⟩:=cY hpre;simp only at ht;clear hpre;cases hc;have Kq:Kfh:=⟨⟩;exact Gk
structure PtrI where
 x:Int
structure PtrL where
 l:List Int
instance encPtrI:Enc PtrI:=⟨fun a=>.ptr 1 (.int .i64 a.x),fun x=>match x with
 | .ptr _ a=>⟨a.i⟩
 | _=>⟨0⟩,fun a=>rfl⟩
instance encPtrL:Enc PtrL:=⟨fun a=>.ptr 1 (.list 1 (a.l.map enc)),fun x=>match x with
 | .ptr _ a=>⟨a.l.map dec⟩
 | _=>⟨[]⟩,fun a=>by
  cases a;simp only [D.l];rw [J2]⟩
theorem Si {a:Int}:(enc (PtrI.mk a):D)=.ptr 1 (.int .i64 a):=rfl
theorem Sm {a:Int}:(dec (.ptr 1 (.int .i64 a)):PtrI)=⟨a⟩:=rfl
theorem Sc {a:Int}:K3 PtrI (.ptr 1 (.int .i64 a))=True:=eq_true rfl
theorem Sh {a:List Int}:(enc (PtrL.mk a):D)=.ptr 1 (.list 1 (a.map enc)):=rfl
theorem Sk {a:List Int}:(dec (.ptr 1 (.list 1 (a.map enc))):PtrL)=⟨a⟩:=Enc.dec_enc (PtrL.mk a)
theorem Sb {a:List Int}:K3 PtrL (.ptr 1 (.list 1 (a.map enc)))=True:=eq_true (Wg (PtrL.mk a))
def Uv (by_:Int) (n:Node):Node:=if n.kind=0∧0<n.n then ⟨n.kind,n.name,n.n+by_⟩ else n
def M2 (by_:Int) (t:List Node):List Node:=t.mapIdx fun _=>Uv by_
def Ak:Con:=Uj (fun (t:Sl Node) (fr:PtrL) (i:PtrI)=>t.l.length≤1000000∧(∀ n∈t.l,n.kind=0→n.n≤1000000)∧0≤i.x∧i.x<fr.l.length∧fr.l.length≤1000∧0≤fr.l.getD i.x.toNat 0∧fr.l.getD i.x.toNat 0≤1000000) (fun t fr i=>Sl.mk (M2 (fr.l.getD i.x.toNat 0) t.l))
structure Kfj:Prop
theorem Kfj.k (_:Kfj) (h:p:=by
 repeat' first|exact Z1|with_reducible apply Zb|intro _
 all_goals first|with_reducible exact Qo|omega|contradiction|exact ⟨k+1,by (have Um:=hnx;exact Qk),by omega,by omega⟩|skip):p:=h
structure Kfk:Prop
theorem Kfk.k (_:Kfk) (h:p:=by
 repeat' first|exact Z1|with_reducible apply Zb|intro _
 all_goals first|with_reducible exact Qo|omega|contradiction|exact ⟨k+1,by exact Qk,by omega,by omega⟩|skip):p:=h
structure Kfl:Prop
theorem Kfl.k (_:Kfl) (h:p:=by
 repeat' first|exact Z1|with_reducible apply Zb|intro _
 all_goals first|with_reducible exact Qo|omega|contradiction|exact ⟨k+1,by (have Um:=hnx;exact Qk),by omega,by omega⟩|skip):p:=h
structure Kfi:Prop
theorem Kfi.k (_:Kfi) (h:p:=by
 repeat' first|exact Z1|with_reducible apply Zb|intro _
 refine Zi [6,7,13,14,15,16,17,18,19,20,21,22,23,24,25,26,27,28,29,30,31,32,33,34,35,36,37] (fun k:Nat=>[(12,.d (.int .i64 k))]) (fun k:Nat=>[(9,.row 3 ((Dg (fun _=>Uv b) t k).map enc) 0)]) (fun k:Nat=>k≤t.length) (fun k:Nat=>t.length-k) 0 ?_ ?_ ?_
 ·omega
 ·have Um:=@Fb;exact Qk
 rintro k hk;have Qp:=Rl (f:=fun _=>Uv b) (l:=t) k;rcases Zn k t.length with ⟨hlt,Qa⟩|⟨hlt,Qa⟩
 ·have Qc:=Zr n0 (show k<(Dg (fun _=>Uv b) t k).length by omega)
  rw [eZ n0 hlt] at Qc;have hset:=Rk n0 hlt (f:=fun _=>Uv b);have hsame:=Zk9 n0 hlt (f:=fun _=>Uv b);have hbn:=hb (t.getD k n0) (by simp [hlt])
  obtain ⟨y,hy⟩:=exq (t.getD k n0);rw [hy] at Qc hset hsame hbn;obtain ⟨yk,yn,yi⟩:=y;simp only at hbn;obtain ⟨P,hP⟩:=exq (Dg (fun _=>Uv b) t k);rw [hP] at Qc hset hsame Qp ⊢;have Qz:(P.map (enc:Node→D)).length=t.length:=by rw [Zo,Qp]
  by_cases h0:yk=0
  case neg =>
   have Qh:(yk==0)=false:=by rw [Za];exact h0
   have hnx:=hsame (by unfold Uv;rw [if_neg (fun h=>h0 h.1)])
   have Zz:=@Si;have Z7:=@Sh;have Z9:=@Sm;have Qg:=@Sk;have Zv:=@Sc;have Zw:=@Sb;have Kq:Kfj:=⟨⟩;exact Gk
  subst h0;have Qh:((0:Int)==0)=true:=rfl;rcases Xx 0 yi with ⟨h1,Qv⟩|⟨h1,Qv⟩
  ·have hyb:=hbn rfl;have Z0:(P.map (enc:Node→D)).set k (.agg [.int .i64 0,.str yn,.int .i64 (yi+b)])=(Dg (fun _=>Uv b) t (k+1)).map enc:=by
    rw [←hset];unfold Uv;rw [if_pos ⟨rfl,h1⟩,←M8];rfl
   have Zz:=@Si;have Z7:=@Sh;have Z9:=@Sm;have Qg:=@Sk;have Zv:=@Sc;have Zw:=@Sb;have Kq:Kfk:=⟨⟩;exact Gk
  ·have hnx:=hsame (by unfold Uv;rw [if_neg (fun h=>by have:=h.2;simp only at this;omega)])
   have Zz:=@Si;have Z7:=@Sh;have Z9:=@Sm;have Qg:=@Sk;have Zv:=@Sc;have Zw:=@Sb;have Kq:Kfl:=⟨⟩;exact Gk
 ·have hke:k=t.length:=by omega
  have hfu:Dg (fun _=>Uv b) t k=R:=by rw [hke,Fc,←Z6];rfl
  have Z3:R.length=t.length:=by rw [←hfu,Qp]
  rw [hfu];have Zz:=@Si;have Z7:=@Sh;have Z9:=@Sm;have Qg:=@Sk;have Zv:=@Sc;have Zw:=@Sb;exact E5):p:=h
theorem good_shiftS:Qq Tryz.prog (43,Ak):=by
 obtain ⟨Kx,Kt,Kc,Kd,Kb,Ku,Kw,K,W4,_⟩:=X2 Z4 Zq [] false (Jh good_cloneT As.eq_def X1);have Ko:=Ak.eq_def;refine Wh K Tryz.func43 [.tmp 4] rfl 39 rfl (fun c hc cvs hpre=>?_);unfold Ak at hpre;obtain ⟨⟨t⟩,⟨fr⟩,⟨i⟩,rfl,ht,hb,hi0,hil,hfl,hf0,hf1⟩:=Mg hpre;simp only at ht hb hi0 hil hfl hf0 hf1;clear hpre;obtain ⟨i,rfl⟩:∃ n:Nat,i=n:=⟨i.toNat,by omega⟩
 rw [Zf] at hf0 hf1;have Q4:=Zr (0:Int) (show i<fr.length by omega)
 have Qd:((i:Nat):Int).toNat=i:=Zf i;obtain ⟨b,Qe⟩:=exq (fr.getD i 0);rw [Qe] at hf0 hf1 Q4;obtain ⟨R,Z6⟩:=exq (M2 b t);cases hc;refine Yv 2 ?_;have Zz:=@Si;have Z7:=@Sh;have Z9:=@Sm;have Qg:=@Sk;have Zv:=@Sc;have Zw:=@Sb;have Kq:Kfi:=⟨⟩;exact Gk
end Go.Am.Ty
namespace Go.Am
theorem Zj9 {C:Ctx} {c:Code} {Q:AExit→AS→Prop} {st:AS} (ks:List Nat) (i:Nat) (kills:List Nat) {α:Type} (vals:α→List (Nat×AV)) (objs:α→List (Nat×Obj)) (ok:α→Prop) (μ:α→Nat) (a0:α) (h0:ok a0)
  (hw:Zy0 ks st (Kk st kills (vals a0) (objs a0))) (h:∀ a,ok a→Shut (Mi C c (aA (fun s'=>∃ a',Qbm i s' (Kk st kills (vals a') (objs a'))∧ok a'∧μ a'<μ a) Q) (Kk st kills (vals a) (objs a)))):Zin C c Q st :=
 ⟨α,fun a=>Kk st kills (vals a) (objs a),ok,μ,Qbm i,fun _ _ h=>.inr (.inr (.inl ⟨i,h⟩)),⟨a0,⟨ks,hw⟩,h0⟩,fun a ha=>(h a ha).out⟩
end Go.Am
namespace Go.Am.Ty
open Go.Proofs Gr
open Enc (enc dec)
theorem eO {α:Type} [Enc α] {l:List α} {k:Nat} {y:α} (h:k<l.length):el ((l.set k y).map (enc:α→D)) k=enc y:=by
 unfold el;rw [Zd];simp [h]
theorem Zyt {l:List D} {k:Nat} {y:D} (h:k<l.length):el (l.set k y) k=y:=by
 unfold el;rw [Zd];simp [h]
def W7 (b:Int) (p:Part):Part:=⟨p.kind,p.label,p.name,p.bind,p.many,p.num,M2 b p.t,M2 b p.u⟩
def W8 (b:Int) (d:Def6):Def6:=⟨d.name,M2 b d.t,d.e.mapIdx fun _=>W7 b⟩
def K8 (l:List Mod6) (k:Nat) (m:Mod6):Mod6:=⟨m.name,m.imps,m.defs.mapIdx fun _=>W8 (ah l k),m.sites⟩
def K0 (l:List Mod6):Sl Mod6×Int×Int:=if 60<ah l l.length then (⟨[]⟩,0,11) else (⟨l.mapIdx (K8 l)⟩,(ah l l.length:Int),0)
def Zv7 (t:List Node):Prop:=t.length≤1000000∧∀ n∈t,n.kind=0→n.n≤1000000
structure LowD (d:Def6):Prop where
 t:Zv7 d.t
 len:d.e.length≤1000000
 e:∀ p∈d.e,Zv7 p.t∧Zv7 p.u
structure NumOk (l:List Mod6):Prop where
 sites:SitesOk l
 len:∀ m∈l,m.defs.length≤1000
 low:∀ m∈l,∀ d∈m.defs,LowD d
def Sr:Con:=W0 (fun (l:Sl Mod6)=>NumOk l.l) (fun l=>K0 l.l)
structure Kfn:Prop
theorem Kfn.k (_:Kfn) (h:p:=by
 repeat' first|exact Z1|with_reducible apply Zb|intro _
 all_goals first|with_reducible exact Qo|omega|rfl|trivial|(simp;done)|skip):p:=h
structure Kfp:Prop
theorem Kfp.k (_:Kfp) (h:p:=by
 repeat' first|exact Z1|with_reducible apply Zb|intro _
 all_goals first|with_reducible exact Qo|omega|exact ⟨k+1,by (have Um:=hset2;have Ix:=Q4;have Zwc:=hPk;exact Qdp),by omega,by omega⟩|skip):p:=h
structure Kfr:Prop
theorem Kfr.k (_:Kfr) (h:p:=by
 repeat' first|exact Z1|with_reducible apply Zb|intro _
 all_goals first|with_reducible exact Qo|omega|exact lowt2 _ (by assumption) (by assumption)|exact ⟨d+1,by (have Um:=Q6;have Ix:=r9b;exact Qk),by omega,by omega⟩|skip):p:=h
structure Kfs:Prop
theorem Kfs.k (_:Kfs) (h:p:=by
 repeat' first|exact Z1|with_reducible apply Zb|intro _
 all_goals first|with_reducible exact Qo|omega|exact lp2 _ (by assumption) (by assumption)|exact lp4 _ (by assumption) (by assumption)|exact ⟨j+1,by (have Um:=Q6;have Ix:=r9b;exact Qk),by omega,by omega⟩|skip):p:=h
structure Kfq:Prop
theorem Kfq.k (_:Kfq) (h:p:=by
 repeat' first|exact Z1|with_reducible apply Zb|intro _
 all_goals first|with_reducible exact Qo|omega|skip
 refine Zi [12,13,57,58,59,60,61,62,63,64,65,66,67,68,69,70,71,72,73,74,75,76,77] (fun j:Nat=>[(56,.d (.int .i64 j))]) (fun j:Nat=>[(53,.row 8 ((Dg (fun _=>W7 b) xe j).map enc) 0)]) (fun j:Nat=>j≤xe.length) (fun j:Nat=>xe.length-j) 0 ?_ ?_ ?_
 ·omega
 ·have Um:=@Fb;exact Qk
 rintro j hj;have hjlen:=Rl (f:=fun _=>W7 b) (l:=xe) j;rcases Zn j xe.length with ⟨hjlt,Z9⟩|⟨hjlt,Z9⟩
 rotate_left
 ·have hje:j=xe.length:=by omega
  have hfu:Dg (fun _=>W7 b) xe j=xe.mapIdx fun _=>W7 b:=by rw [hje,Fc]
  have Qg:(xe.mapIdx fun _=>W7 b).length=xe.length:=by simp
  rw [hfu];obtain ⟨E2,hE2⟩:=exq ((xe.mapIdx fun _=>W7 b));obtain ⟨T2,Q7⟩:=exq (M2 b xt);rw [hE2] at Qg ⊢;have Zw:(Q.map (enc:Def6→D)).set d (.agg [.str xn,enc (Sl.mk T2),.list 8 (xe.map enc)])=(Q.set d ⟨xn,T2,xe⟩).map enc:=M8 (y:=(⟨xn,T2,xe⟩:Def6));have Qn:el ((Q.set d ⟨xn,T2,xe⟩).map (enc:Def6→D)) d=.agg [.str xn,enc (Sl.mk T2),.list 8 (xe.map enc)]:=eO (by omega)
  have Q6:((Q.set d ⟨xn,T2,xe⟩).map (enc:Def6→D)).set d (.agg [.str xn,enc (Sl.mk T2),.list 8 (E2.map enc)])=(Dg (fun _=>W8 b) md (d+1)).map enc:=by
   rw [←hsetd];have:W8 b ⟨xn,xt,xe⟩=⟨xn,T2,E2⟩:=by unfold W8;rw [Q7,hE2]
   rw [this];refine Eq.trans (M8 (y:=(⟨xn,T2,E2⟩:Def6))) ?_;rw [List.set_set]
  have r9b:(Q.map (enc:Def6→D)).set d (.agg [.str xn,enc (Sl.mk T2),.list 8 (E2.map enc)])=(Dg (fun _=>W8 b) md (d+1)).map enc:=by
   rw [←Q6,←M8,List.set_set]
  have Zv:((Q.set d ⟨xn,T2,xe⟩).map (enc:Def6→D)).length=md.length:=by rw [Zo,List.length_set,hdlen]
  have X9:=@Si;have Wq:=@Sh;have Wp:=@Sm;have Wo:=@Sk;have Ur:=@Sc;have Uq:=@Sb;have Up:=@W0.eq_def;have Kq:Kfr:=⟨⟩;exact Gk
 have Jj:=Zr e0 (show j<(Dg (fun _=>W7 b) xe j).length by omega)
 rw [eZ e0 hjlt] at Jj;have hsetj:=Rk e0 hjlt (f:=fun _=>W7 b);have hlowp:=lowe (xe.getD j e0) (by simp [hjlt])
 obtain ⟨p,hp⟩:=exq (xe.getD j e0);rw [hp] at Jj hsetj hlowp;obtain ⟨pk,pl,pn,pb,pm,pq,pt,pu⟩:=p;obtain ⟨⟨lp1,lp2⟩,lp3,lp4⟩:=hlowp;simp only at lp1 lp2 lp3 lp4;obtain ⟨S,hSq⟩:=exq (Dg (fun _=>W7 b) xe j);rw [hSq] at Jj hsetj hjlen ⊢;have Q0:(S.map (enc:Part→D)).length=xe.length:=by rw [Zo,hjlen]
 obtain ⟨T2,Q7⟩:=exq (M2 b pt);obtain ⟨U2,Wx⟩:=exq (M2 b pu);have Zw:(S.map (enc:Part→D)).set j (.agg [.int .i64 pk,.str pl,.str pn,.str pb,.int .i64 pm,.int .i64 pq,enc (Sl.mk T2),.list 3 (pu.map enc)])=(S.set j ⟨pk,pl,pn,pb,pm,pq,T2,pu⟩).map enc:=M8 (y:=(⟨pk,pl,pn,pb,pm,pq,T2,pu⟩:Part));have Qn:el ((S.set j ⟨pk,pl,pn,pb,pm,pq,T2,pu⟩).map (enc:Part→D)) j=.agg [.int .i64 pk,.str pl,.str pn,.str pb,.int .i64 pm,.int .i64 pq,enc (Sl.mk T2),.list 3 (pu.map enc)]:=eO (by omega)
 have Q6:((S.set j ⟨pk,pl,pn,pb,pm,pq,T2,pu⟩).map (enc:Part→D)).set j (.agg [.int .i64 pk,.str pl,.str pn,.str pb,.int .i64 pm,.int .i64 pq,enc (Sl.mk T2),enc (Sl.mk U2)])=(Dg (fun _=>W7 b) xe (j+1)).map enc:=by
  rw [←hsetj];have:W7 b ⟨pk,pl,pn,pb,pm,pq,pt,pu⟩=⟨pk,pl,pn,pb,pm,pq,T2,U2⟩:=by unfold W7;rw [Q7,Wx]
  rw [this];refine Eq.trans (M8 (y:=(⟨pk,pl,pn,pb,pm,pq,T2,U2⟩:Part))) ?_;rw [List.set_set]
 have r9b:(S.map (enc:Part→D)).set j (.agg [.int .i64 pk,.str pl,.str pn,.str pb,.int .i64 pm,.int .i64 pq,enc (Sl.mk T2),enc (Sl.mk U2)])=(Dg (fun _=>W7 b) xe (j+1)).map enc:=by
  rw [←Q6,←M8,List.set_set]
 have Jo:((S.set j ⟨pk,pl,pn,pb,pm,pq,T2,pu⟩).map (enc:Part→D)).length=xe.length:=by rw [Zo,List.length_set,hjlen]
 have Jj:el (S.map (enc:Part→D)) j=.agg [.int .i64 pk,.str pl,.str pn,.str pb,.int .i64 pm,.int .i64 pq,.list 3 (pt.map enc),.list 3 (pu.map enc)]:=Jj;have X9:=@Si;have Wq:=@Sh;have Wp:=@Sm;have Wo:=@Sk;have Ur:=@Sc;have Uq:=@Sb;have Up:=@W0.eq_def;have Kq:Kfs:=⟨⟩;exact Gk):p:=h
structure Kfo:Prop
theorem Kfo.k (_:Kfo) (h:p:=by
 repeat' first|exact Z1|with_reducible apply Zb|intro _
 all_goals first|with_reducible exact Qo|omega|skip
 refine Znl [8] [9,10,11,12,13,47,48,49,50,51,52,53,54,55,56,57,58,59,60,61,62,63,64,65,66,67,68,69,70,71,72,73,74,75,76,77,78,79,80,81,82,83,84,85,86,87,88,89,90,91,92,93,94,95,96,97,98,99] (fun d:Nat=>[(8,.d (.clo 43 [.ptr 1 (.list 1 (A.map enc)),.ptr 1 (.int .i64 k)])),(46,.d (.int .i64 d))]) (fun d:Nat=>[(7,.fbox 1 (.int .i64 k)),(37,.row 3 ((Dg (fun _=>W8 b) md d).map enc) 0)]) (fun d:Nat=>d≤md.length) (fun d:Nat=>md.length-d) 0 ?_ ?_ ?_
 ·omega
 ·have Um:=@Fb;exact Qcs
 rintro d hd;have hdlen:=Rl (f:=fun _=>W8 b) (l:=md) d;rcases Zn d md.length with ⟨hdlt,Z0⟩|⟨hdlt,Z0⟩
 rotate_left
 ·have hde:d=md.length:=by omega
  have hfu:Dg (fun _=>W8 b) md d=md.mapIdx fun _=>W8 b:=by rw [hde,Fc]
  have hset2:(P.map (enc:Mod6→D)).set k (.agg [.str mn,.list 1 (mi.map enc),.list 3 ((md.mapIdx fun _=>W8 b).map enc),.list 3 (ms.map enc)])=(Dg (K8 l) l (k+1)).map enc:=by
   rw [←hset,←M8];unfold K8;rw [hbq];rfl
  have hPk:k<(P.map (enc:Mod6→D)).length:=by omega
  have Z3:(md.mapIdx fun _=>W8 b).length=md.length:=by simp
  rw [hfu];have X9:=@Si;have Wq:=@Sh;have Wp:=@Sm;have Wo:=@Sk;have Ur:=@Sc;have Uq:=@Sb;have Up:=@W0.eq_def;have Kq:Kfp:=⟨⟩;exact Gk
 have Zz:=Zr Jx (show d<(Dg (fun _=>W8 b) md d).length by omega)
 rw [eZ Jx hdlt] at Zz;have hsetd:=Rk Jx hdlt (f:=fun _=>W8 b);have hlowd:=hlow (md.getD d Jx) (by simp [hdlt])
 obtain ⟨x,hx⟩:=exq (md.getD d Jx);rw [hx] at Zz hsetd hlowd;obtain ⟨xn,xt,xe⟩:=x;obtain ⟨⟨lowt1,lowt2⟩,lowl,lowe⟩:=hlowd;simp only at lowt1 lowt2 lowl lowe;obtain ⟨Q,hQ⟩:=exq (Dg (fun _=>W8 b) md d);rw [hQ] at Zz hsetd hdlen ⊢;have Z7:(Q.map (enc:Def6→D)).length=md.length:=by rw [Zo,hdlen]
 have X9:=@W0.eq_def;have Kq:Kfq:=⟨⟩;exact Gk):p:=h
structure Kfm:Prop
theorem Kfm.k (_:Kfm) (h:p:=by
 repeat' first|exact Z1|with_reducible apply Zb|intro _
 all_goals first|exact hS|omega|skip
 refine Zj9 [5] 23 [7,8,9,10,11,12,13,27,28,29,30,31,32,33,34,35,36,37,38,39,40,41,42,43,44,45,46,47,48,49,50,51,52,53,54,55,56,57,58,59,60,61,62,63,64,65,66,67,68,69,70,71,72,73,74,75,76,77,78,79,80,81,82,83,84,85,86,87,88,89,90,91,92,93,94,95,96,97,98,99,100] (fun k:Nat=>[(5,.d (.ptr 1 (.list 1 (A.map enc)))),(26,.d (.int .i64 k))]) (fun k:Nat=>[(5,.fbox 1 (.list 1 (A.map enc))),(23,.row 4 ((Dg (K8 l) l k).map enc) k),(50023,.slot k 2)]) (fun k:Nat=>k≤l.length) (fun k:Nat=>l.length-k) 0 ?_ ?_ ?_
 ·omega
 ·have Um:=@Fb;exact Qcs
 rintro k hk;have hpl:=Rl (f:=K8 l) (l:=l) k;rcases Zn k l.length with ⟨hlt,Qh⟩|⟨hlt,Qh⟩
 rotate_left
 ·have hke:k=l.length:=by omega
  rw [hke];rw [hke] at Qh;rw [Fc];subst hR2;have X9:=@W0.eq_def;have Kq:Kfn:=⟨⟩;exact Gk
 have Qp:=Zr Js hlt;have Qz:=Zr Js (show k<(Dg (K8 l) l k).length by omega)
 rw [eZ Js hlt] at Qz;have hset:=Rk Js hlt (f:=K8 l);have hmem:l.getD k Js∈l:=by simp [hlt]
 have hdl:=hN.len _ hmem;have hlow:=hN.low _ hmem;have hbk:=Ze5 hS k hk;have Ja:=hatD k hk;obtain ⟨m,hm⟩:=exq (l.getD k Js);rw [hm] at Qp Qz hset hdl hlow;obtain ⟨mn,mi,md,ms⟩:=m;simp only at hdl hlow;obtain ⟨P,hP⟩:=exq (Dg (K8 l) l k);rw [hP] at Qz hset hpl ⊢;have Qv:(P.map (enc:Mod6→D)).length=l.length:=by rw [Zo,hpl]
 have Q5:((k:Nat):Int).toNat=k:=Zf k;obtain ⟨b,hbq⟩:∃ b:Int,(ah l k:Int)=b:=⟨_,rfl⟩;rw [hbq] at Ja;have hb0:0≤b:=by omega
 have hb1:b≤1000000:=by omega
 have Q4:∀ X:D,((P.map (enc:Mod6→D)).set k X).length=l.length:=fun X=>by rw [List.length_set,Qv]
 have hkl:(k:Int)<(l.length:Int):=by omega
 have X9:=@W0.eq_def;have Kq:Kfo:=⟨⟩;exact Gk):p:=h
theorem good_NumberS:Qq Tryz.prog (14,Sr):=by
 obtain ⟨Kx,Kt,Kc,Kd,Kb,Ku,Kw,K,W4,Gd,M4,Ln,Ek,_⟩:=X2 Z4 Zq [] false (Jh good_aheadS Db.eq_def (Jh good_cloneMods Lw.eq_def (Jh good_cloneDefs Lx.eq_def (Jh good_cloneE Au.eq_def (Jh good_shiftS Ak.eq_def X1)))));have Ko:=Sr.eq_def;refine Wh K Tryz.func14 [.tmp 2,.tmp 3,.tmp 4] rfl 107 rfl (fun c hc cvs hpre=>?_);unfold Sr at hpre;obtain ⟨⟨l⟩,rfl,hN⟩:=cV hpre;simp only at hN;clear hpre;have hS:=hN.sites;obtain ⟨R,Qc⟩:=exq (K0 l);have hR2:=Qc;unfold K0 at hR2;have hlen:=hS.len;have hA:=fQ l (l.length+1);have hat:∀ j,j≤l.length→el ((U5 l (l.length+1)).map (enc:Int→D)) j=enc (ah l j:Int):=fun j hj=>by
  have:=Zr (0:Int) (show j<(U5 l (l.length+1)).length by omega)
  rw [Fz (by omega)] at this
  exact this
 have hatD:∀ j,j≤l.length→(U5 l (l.length+1)).getD j 0=ah l j:=fun j hj=>Fz (by omega)
 have Z6:=hat l.length (Zl _);have hal:=Ze5 hS l.length (Zl _);obtain ⟨A,Qd⟩:=exq (U5 l (l.length+1));rw [Qd] at hA Z6 hat hatD;have Qe:(A.map (enc:Int→D)).length=l.length+1:=by rw [Zo,hA]
 cases hc;refine Yv 6 ?_;rcases Xx 60 (ah l l.length:Int) with ⟨h6,Qa⟩|⟨h6,Qa⟩
 ·rw [if_pos (by omega)] at hR2
  subst hR2;have X9:=@W0.eq_def;exact E5
 rw [if_neg (by omega)] at hR2
 have X9:=@W0.eq_def;have Kq:Kfm:=⟨⟩;exact Gk
def kA:Site:=⟨0,0,false⟩
def gD:List Mod6:=[⟨[97],[],[],[kA,kA]⟩,⟨[98],[],[],[kA,kA,kA]⟩]
theorem Zsp:NumOk gD:=by
 refine ⟨⟨by decide,fun m hm=>?_⟩,fun m hm=>?_,fun m hm d hd=>?_⟩
 ·simp only [gD,Zu,Kl,or_false] at hm;rcases hm with rfl|rfl<;>simp
 ·simp only [gD,Zu,Kl,or_false] at hm;rcases hm with rfl|rfl<;>simp
 ·simp only [gD,Zu,Kl,or_false] at hm;rcases hm with rfl|rfl<;>simp at hd
def Pq:Con:=Ut true
theorem D9:Qq Tryz.prog (13,Pq):=by
 obtain ⟨Kx,Kt,Kc,Kd,Kb,Ku,Kw,K,W4,Gd,_⟩:=X2 Z4 Zq [] false (Jh good_WhereS Aw.eq_def (Jh good_NumberS Sr.eq_def X1));have Ko:=Pq.eq_def;refine Wh K Tryz.func13 [.tmp 0] rfl 43 rfl (fun c hc cvs hpre=>?_);unfold Pq at hpre;obtain rfl:=jL hpre;clear hpre;have hN:=Zsp;have hS:=hN.sites;have Qh:Ziu gD 4=(1,2,0):=by decide
 have Qp:K0 gD=(⟨gD.mapIdx (K8 gD)⟩,5,0):=by
  unfold K0;rw [if_neg (by decide)]
  rfl
 have hr:Zhp .i64 4:=by rw [Xy];omega
 have Qd:(dec (.agg [.str [97],.list 1 [],.list 3 [],.list 3 (List.replicate 2 (.agg [.int .i64 0,.int .i64 0,.bool false]))]):Mod6)=⟨[97],[],[],[kA,kA]⟩:=rfl;have Qe:(dec (.agg [.str [98],.list 1 [],.list 3 [],.list 3 (List.replicate 3 (.agg [.int .i64 0,.int .i64 0,.bool false]))]):Mod6)=⟨[98],[],[],[kA,kA,kA]⟩:=rfl;have Z6:K3 Mod6 (.agg [.str [97],.list 1 [],.list 3 [],.list 3 (List.replicate 2 (.agg [.int .i64 0,.int .i64 0,.bool false]))])=True:=eq_true rfl;have Qa:K3 Mod6 (.agg [.str [98],.list 1 [],.list 3 [],.list 3 (List.replicate 3 (.agg [.int .i64 0,.int .i64 0,.bool false]))])=True:=eq_true rfl;have Qc:[(⟨[97],[],[],[kA,kA]⟩:Mod6),⟨[98],[],[],[kA,kA,kA]⟩]=gD:=rfl;cases hc;refine Yv 2 ?_;have Qz:=@W0.eq_def;exact E5
theorem Zoo {t:List Node} (h:∀ z:Int,100000<z→Xl (Ms z) t=0) (hl:t.length≤100001):Zv7 t:=by
 refine ⟨by omega,fun n hn hk=>Int.not_lt.1 fun hh=>?_⟩
 have:=h n.n (by omega)
 unfold Xl at this;have h1:=List.sum_eq_zero_iff_forall_eq_nat.1 this (Ms n.n n) (List.mem_map_of_mem hn);unfold Ms at h1;rw [if_pos ⟨hk,rfl⟩] at h1;cases h1
theorem fB {α:Type} {w:α→Nat} {l:List α} (h:(l.map w).sum=0) {x:α} (hx:x∈l):w x=0 :=
 List.sum_eq_zero_iff_forall_eq_nat.1 h (w x) (List.mem_map_of_mem hx)
theorem Zmd {l:List Mod6} (h20:l.length≤20) (hG:∀ m∈l,Good9 m):NumOk l:=by
 refine ⟨⟨h20,fun m hm=>by have:=(hG m hm).slen;omega⟩,fun m hm=>by have:=(hG m hm).dlen;omega,fun m hm d hd=>?_⟩
 have hg:=hG m hm;have hf:=hg.fit d hd;have hz:∀ z:Int,100000<z→Ztb z d=0:=fun z hz=>by
  have h1:=hg.cnt z;have h2:=hg.slen;rw [if_neg (by omega)] at h1
  unfold Zh7 at h1;exact fB h1 hd
 refine ⟨Zoo (fun z h=>?_) hf.t,by have:=hf.e;omega,fun p hp=>?_⟩
 ·have:=hz z h;unfold Ztb at this;omega
 ·have hp1:∀ z:Int,100000<z→G5 z p=0:=fun z h=>by
   have h1:=hz z h;unfold Ztb at h1;have h2:Y7 z d.e=0:=by omega
   unfold Y7 at h2;exact fB h2 hp
  have hfp:=hf.fit p hp;exact ⟨Zoo (fun z h=>by have:=hp1 z h;unfold G5 at this;omega) hfp.1.1,Zoo (fun z h=>by have:=hp1 z h;unfold G5 at this;omega) hfp.2.1.1⟩
open Go.Proofs
theorem Zv4 {p q:D→Prop} {ds:List D} (h:Zwa [p,q] ds):∃ a b,ds=[a,b]∧p a∧q b:=by
 match ds,h with
 | [a,b],h=>exact ⟨a,b,rfl,h.1,h.2.1⟩
theorem Zp7:Qbr Tryz.prog 22 1 false (Sl (List UInt8)) (fun a=>a.l.length≤maxLen∧∀ y∈a.l,y.length≤maxLen):=Zye Tryz.underlying22 (by kernel_rfl) rfl (by decide) (Zws Tryz.underlying9)
theorem rdTx9:Qbr Tryz.prog 24 2 true Tx9 (fun a=>a.names.length≤maxLen) :=
 (Zr4 (ps:=[_,_]) Tryz.underlying24 (by kernel_rfl) rfl ⟨rfl,by kernel_rfl,Zp7,rfl,by kernel_rfl,Zp7,trivial⟩).mono fun x h=>by
  obtain ⟨ds,rfl,h⟩:=h;obtain ⟨a,b,rfl,⟨⟨k⟩,rfl,hk,_⟩,⟨⟨t⟩,rfl,ht⟩⟩:=Zv4 h;exact ⟨⟨k,t⟩,rfl,hk⟩
theorem Ry {α:Type} (d:α) {a b:List α} (hl:a.length=b.length) (h:∀ j,j<a.length→a.getD j d=b.getD j d):a=b:=by
 refine List.ext_getElem hl fun j h1 h2=>?_;have:=h j h1;simpa [h1,h2] using this
def T0:Con:=Wr (fun (a b:Sl (List UInt8))=>Lo a.l.length∧Lo b.l.length) (fun a b=>a.l==b.l)
structure Kfu:Prop
theorem Kfu.k (_:Kfu) (h:p:=by
 repeat' first|exact Z1|with_reducible apply Zb|intro _
 all_goals first|with_reducible exact Qo|omega|exact ⟨k+1,by exact Qk,by omega,h2,by omega⟩|skip):p:=h
structure Kft:Prop
theorem Kft.k (_:Kft) (h:p:=by
 repeat' first|exact Z1|with_reducible apply Zb|intro _
 refine Zi [4,11,12,13,14,15,16,17,18,19,20,21,22,23,24,25] (fun k:Nat=>[(5,.d (.int .i64 k))]) (fun k:Nat=>[]) (fun k:Nat=>k≤a.length∧∀ j,j<k→a.getD j []=b.getD j []) (fun k:Nat=>a.length-k) 0 ?_ ?_ ?_
 ·exact ⟨by omega,fun j hj=>absurd hj (Nat.not_lt_zero j)⟩
 ·exact Qk
 rintro k ⟨hk,hno⟩;rcases Zn k a.length with ⟨hlt,Z6⟩|⟨hlt,Z6⟩
 ·have Qa:=Zr ([]:List UInt8) hlt;have Qc:=Zr ([]:List UInt8) (show k<b.length by omega)
  have hst:a.getD k []=b.getD k []→∀ j,j<k+1→a.getD j []=b.getD j []:=fun h=>Ks hno h;have hbad:a.getD k []≠b.getD k []→(a==b)=false:=by
   intro h;rw [Za];intro e;exact h (by rw [e])
  obtain ⟨x,hx⟩:=exq (a.getD k []);obtain ⟨y,hy⟩:=exq (b.getD k []);rw [hx] at Qa hst hbad;rw [hy] at Qc hst hbad;cases Qh:(x==y) with
  | false =>
   have Qe:=hbad (by simpa using Qh)
   exact E5
  | true =>
   have h2:=hst (by simpa using Qh)
   have Kq:Kfu:=⟨⟩;exact Gk
 ·have Qe:(a==b)=true:=by
   rw [Zm];exact Ry [] hlen fun j hj=>hno j (by omega)
  exact Zt3):p:=h
theorem good_Strings5:Qq Tryz.prog (130,T0):=by
 obtain ⟨Kx,Kt,Kc,Kd,Kb,Ku,Kw,K,_⟩:=X2 Z4 Zq [] false X1;have Ko:=T0.eq_def;refine Wh K Tryz.func130 [.tmp 4] rfl 26 rfl (fun c hc cvs hpre=>?_);unfold T0 at hpre;obtain ⟨⟨a⟩,⟨b⟩,rfl,ha,hb⟩:=Jv hpre;simp only at ha hb;by_cases hlen:a.length=b.length
 case neg =>
  have Qd:((a.length:Int) != (b.length:Int))=true:=by rw [bne_iff_ne];omega
  have Qe:(a==b)=false:=by rw [Za];intro e;exact hlen (by rw [e])
  cases hc;exact Zt3
 have Qd:((a.length:Int) != (b.length:Int))=false:=by rw [hlen,bne_self_eq_false]
 cases hc;have Kq:Kft:=⟨⟩;exact Gk
def Ax:Con:=Wr (fun (a b:Sl Site)=>Lo a.l.length∧Lo b.l.length) (fun a b=>a.l==b.l)
def Zjs (a b:Site):Bool:=(a.frm==b.frm)&&((a.to==b.to)&&(a.miss==b.miss))
theorem Zmr {a b:Site}:Zjs a b=true↔a=b:=by
 obtain ⟨a1,a2,a3⟩:=a;obtain ⟨b1,b2,b3⟩:=b;simp [Zjs]
structure Kfw:Prop
theorem Kfw.k (_:Kfw) (h:p:=by
 repeat' first|exact Z1|with_reducible apply Zb|intro _
 all_goals first|with_reducible exact Qo|omega|rfl|(simp_all;done)|skip):p:=h
structure Kfx:Prop
theorem Kfx.k (_:Kfx) (h:p:=by
 repeat' first|exact Z1|with_reducible apply Zb|intro _
 all_goals first|with_reducible exact Qo|omega|exact ⟨k+1,by exact Qk,by omega,h2,by omega⟩|(simp_all;done)|skip):p:=h
structure Kfv:Prop
theorem Kfv.k (_:Kfv) (h:p:=by
 repeat' first|exact Z1|with_reducible apply Zb|intro _
 refine Zi [4,11,12,13,14,15,16,17,18,19,20,21,22,23,24,25] (fun k:Nat=>[(5,.d (.int .i64 k))]) (fun k:Nat=>[]) (fun k:Nat=>k≤a.length∧∀ j,j<k→a.getD j kA=b.getD j kA) (fun k:Nat=>a.length-k) 0 ?_ ?_ ?_
 ·exact ⟨by omega,fun j hj=>absurd hj (Nat.not_lt_zero j)⟩
 ·exact Qk
 rintro k ⟨hk,hno⟩;rcases Zn k a.length with ⟨hlt,Z6⟩|⟨hlt,Z6⟩
 ·have Qa:=Zr kA hlt;have Qc:=Zr kA (show k<b.length by omega)
  have hst:a.getD k kA=b.getD k kA→∀ j,j<k+1→a.getD j kA=b.getD j kA:=fun h=>Ks hno h;have hbad:a.getD k kA≠b.getD k kA→(a==b)=false:=by
   intro h;rw [Za];intro e;exact h (by rw [e])
  obtain ⟨x,hx⟩:=exq (a.getD k kA);obtain ⟨y,hy⟩:=exq (b.getD k kA);rw [hx] at Qa hst hbad;rw [hy] at Qc hst hbad;have hiff:=Zmr (a:=x) (b:=y);unfold Zjs at hiff;cases Qh:((x.frm==y.frm)&&((x.to==y.to)&&(x.miss==y.miss))) with
  | false =>
   have Qe:=hbad (fun e=>by rw [Qh] at hiff;exact Bool.noConfusion (hiff.2 e))
   have Kq:Kfw:=⟨⟩;exact Gk
  | true =>
   have h2:=hst (hiff.1 Qh);have Kq:Kfx:=⟨⟩;exact Gk
 ·have Qe:(a==b)=true:=by
   rw [Zm];exact Ry kA hlen fun j hj=>hno j (by omega)
  exact Zt3):p:=h
theorem good_Sites4:Qq Tryz.prog (92,Ax):=by
 obtain ⟨Kx,Kt,Kc,Kd,Kb,Ku,Kw,K,_⟩:=X2 Z4 Zq [] false X1;have Ko:=Ax.eq_def;refine Wh K Tryz.func92 [.tmp 4] rfl 26 rfl (fun c hc cvs hpre=>?_);unfold Ax at hpre;obtain ⟨⟨a⟩,⟨b⟩,rfl,ha,hb⟩:=Jv hpre;simp only at ha hb;by_cases hlen:a.length=b.length
 case neg =>
  have Qd:((a.length:Int) != (b.length:Int))=true:=by rw [bne_iff_ne];omega
  have Qe:(a==b)=false:=by rw [Za];intro e;exact hlen (by rw [e])
  cases hc;exact Zt3
 have Qd:((a.length:Int) != (b.length:Int))=false:=by rw [hlen,bne_self_eq_false]
 cases hc;have Kq:Kfv:=⟨⟩;exact Gk
def dX (x y:Def6):Bool:=(x.name==y.name)&&(E7 x.t y.t&&dJ x.e y.e)
def dT (a b:List Def6):Bool:=(List.range a.length).all fun j=>dX (a.getD j Jx) (b.getD j Jx)
theorem Zkw {a b:List Def6} (h:∀ j,j<a.length→dX (a.getD j Jx) (b.getD j Jx)=true):dT a b=true:=by
 unfold dT;rw [List.all_eq_true];exact fun j hj=>h j (List.mem_range.1 hj)
theorem Zi4 {a b:List Def6} {k:Nat} (hk:k<a.length) (h:dX (a.getD k Jx) (b.getD k Jx)=false):dT a b=false:=by
 unfold dT;rw [←Bool.not_eq_true,List.all_eq_true];intro hh;have:=hh k (List.mem_range.2 hk);rw [h] at this;cases this
def mB (a b:Mod6):Bool:=(a.name==b.name)&&((a.imps==b.imps)&&((a.defs.length==b.defs.length)&&dT a.defs b.defs))
structure In6 (m:Mod6):Prop where
 imps:Lo m.imps.length
 defs:Lo m.defs.length
 sites:Lo m.sites.length
 t:∀ d∈m.defs,Lo d.t.length
 e:∀ d∈m.defs,Zwh d.e
def bS:Con:=Wr (fun (a b:Mod6)=>In6 a∧In6 b) (fun a b=>mB a b)
structure Kfz:Prop
theorem Kfz.k (_:Kfz) (h:p:=by
 repeat' first|exact Z1|with_reducible apply Zb|intro _
 all_goals first|with_reducible exact Qo|omega|exact x2|exact y2|exact ⟨k+1,by exact Qk,by omega,h9,by omega⟩|rfl|trivial|skip):p:=h
structure Kfy:Prop
theorem Kfy.k (_:Kfy) (h:p:=by
 repeat' first|exact Z1|with_reducible apply Zb|intro _
 refine Zi [4,6,7,30,31,32,33,34,35,36,37,38,39,40,41,42,43,44,45,46,47,48,49,50,51,52,53,54,55,56,57,58,59,60,61,62,63,64,65,66,67] (fun k:Nat=>[(5,.d (.int .i64 k))]) (fun k:Nat=>[]) (fun k:Nat=>k≤ad.length∧∀ j,j<k→dX (ad.getD j Jx) (bd.getD j Jx)=true) (fun k:Nat=>ad.length-k) 0 ?_ ?_ ?_
 ·exact ⟨by omega,fun j hj=>absurd hj (Nat.not_lt_zero j)⟩
 ·exact Qk
 rintro k ⟨hk,hno⟩;rcases Zn k ad.length with ⟨hlt,Qc⟩|⟨hlt,Qc⟩
 ·have Qh:=Zr Jx hlt;have Qp:=Zr Jx (show k<bd.length by omega)
  have hst:dX (ad.getD k Jx) (bd.getD k Jx)=true→∀ j,j<k+1→dX (ad.getD j Jx) (bd.getD j Jx)=true:=fun h=>Ks hno h;have hbad:dX (ad.getD k Jx) (bd.getD k Jx)=false→R=false:=fun h=>by rw [←hR2];exact Zi4 hlt h
  have x1:=a4 (ad.getD k Jx) (by simp [hlt])
  have x2:=a5 (ad.getD k Jx) (by simp [hlt])
  have y1:=b4 (bd.getD k Jx) (by simp [show k<bd.length by omega])
  have y2:=b5 (bd.getD k Jx) (by simp [show k<bd.length by omega])
  obtain ⟨x,hx⟩:=exq (ad.getD k Jx);obtain ⟨y,hy⟩:=exq (bd.getD k Jx);rw [hx] at Qh hst hbad x1 x2;rw [hy] at Qp hst hbad y1 y2;obtain ⟨xn,xt,xe⟩:=x;obtain ⟨yn,yt,ye⟩:=y;unfold dX at hst hbad;simp only at hst hbad x1 x2 y1 y2;clear hno;cases Qz:xn==yn with
  | false =>
   have g1b:(xn != yn)=true:=by rw [bne,Qz];rfl
   have Qv:=hbad (by rw [Qz];rfl)
   clear hst hbad;exact E5
  | true =>
   have g1b:(xn != yn)=false:=by rw [bne,Qz];rfl
   cases Q4:E7 xt yt with
   | false =>
    have Qv:=hbad (by rw [Qz,Q4];rfl)
    clear hst hbad;exact E5
   | true =>
    cases Z0:dJ xe ye with
    | false =>
     have Qv:=hbad (by rw [Qz,Q4,Z0];rfl)
     clear hst hbad;exact E5
    | true =>
     have h9:=hst (by rw [Qz,Q4,Z0];rfl)
     clear hst hbad;have Kq:Kfz:=⟨⟩;exact Gk
 ·have hke:k=ad.length:=by omega
  have Qv:R=true:=by rw [←hR2];exact Zkw fun j hj=>hno j (by omega)
  clear hno;exact Zt3):p:=h
theorem good_Same6:Qq Tryz.prog (91,bS):=by
 obtain ⟨Kx,Kt,Kc,Kd,Kb,Ku,Kw,K,W4,Gd,M4,_⟩:=X2 Z4 Zq [] false (Jh good_Strings5 T0.eq_def (Jh good_Same3 Fr.eq_def (Jh good_Same5 Fq.eq_def X1)));have Ko:=bS.eq_def;refine Wh K Tryz.func91 [.tmp 4] rfl 68 rfl (fun c hc cvs hpre=>?_);unfold bS at hpre;obtain ⟨⟨an,ai,ad,sa⟩,⟨bn,bi,bd,bs⟩,rfl,⟨a1,a2,a3,a4,a5⟩,⟨b1,b2,b3,b4,b5⟩⟩:=Jv hpre;simp only at a1 a2 a3 a4 a5 b1 b2 b3 b4 b5;clear hpre;obtain ⟨R,Qe⟩:=exq (mB ⟨an,ai,ad,sa⟩ ⟨bn,bi,bd,bs⟩);have hR2:=Qe;unfold mB at hR2;simp only at hR2;cases hc;refine Yv 4 ?_;cases Qd:an==bn with
 | false =>
  have h1b:(an != bn)=true:=by rw [bne,Qd];rfl
  rw [Qd,Bool.false_and] at hR2;subst hR2;exact Zt3
 | true =>
  have h1b:(an != bn)=false:=by rw [bne,Qd];rfl
  rw [Qd,Bool.true_and] at hR2;cases Z6:ai==bi with
  | false =>
   rw [Z6,Bool.false_and] at hR2;subst hR2;exact E5
  | true =>
   rw [Z6,Bool.true_and] at hR2;by_cases h3:ad.length=bd.length
   case neg =>
    have Qa:((ad.length:Int) != (bd.length:Int))=true:=by rw [bne_iff_ne];omega
    have h3c:(ad.length==bd.length)=false:=by rw [Za];exact h3
    rw [h3c,Bool.false_and] at hR2;subst hR2;exact E5
   have Qa:((ad.length:Int) != (bd.length:Int))=false:=by rw [h3,bne_self_eq_false]
   have h3c:(ad.length==bd.length)=true:=by rw [Zm];exact h3
   rw [h3c,Bool.true_and] at hR2;have Kq:Kfy:=⟨⟩;exact Gk
theorem Zn8 (a:Mod6):mB a a=true:=by
 unfold mB dT dX E7 dJ;simp
theorem Zn7 {a b:Mod6} (h:mB a b=true):a.name=b.name∧a.imps=b.imps∧a.defs.length=b.defs.length∧∀ j,j<a.defs.length→(a.defs.getD j Jx).name=(b.defs.getD j Jx).name:=by
 unfold mB at h;simp only [Zk,Zm] at h;obtain ⟨h1,h2,h3,h4⟩:=h;refine ⟨h1,h2,h3,fun j hj=>?_⟩;unfold dT at h4;rw [List.all_eq_true] at h4;have:=h4 j (List.mem_range.2 hj);unfold dX at this;simp only [Zk,Zm] at this;exact this.1
def jG:Con:=Wr (fun (a b:Mod6)=>In6 a∧In6 b) (fun a b=>a==b)
structure KfB:Prop
theorem KfB.k (_:KfB) (h:p:=by
 repeat' first|exact Z1|with_reducible apply Zb|intro _
 all_goals first|with_reducible exact Qo|omega|exact x2|exact y2|exact ⟨k+1,by exact Qk,by omega,h9,by omega⟩|rfl|trivial|skip):p:=h
structure KfA:Prop
theorem KfA.k (_:KfA) (h:p:=by
 repeat' first|exact Z1|with_reducible apply Zb|intro _
 all_goals first|exact hA2|exact hB2|skip
 refine Zi [4,18,19,20,21,22,23,24,25,26,27,28,29,30,31,32,33,34,35,36,37,38,39,40,41,42,43,44,45,46,47,48,49,50,51,52,53,54] (fun k:Nat=>[(5,.d (.int .i64 k))]) (fun k:Nat=>[]) (fun k:Nat=>k≤ad.length∧∀ j,j<k→ad.getD j Jx=bd.getD j Jx) (fun k:Nat=>ad.length-k) 0 ?_ ?_ ?_
 ·exact ⟨by omega,fun j hj=>absurd hj (Nat.not_lt_zero j)⟩
 ·exact Qk
 rintro k ⟨hk,hst⟩;rcases Zn k ad.length with ⟨hlt,Qc⟩|⟨hlt,Qc⟩
 ·have Qh:=Zr Jx hlt;have Qp:=Zr Jx (show k<bd.length by omega)
  have hst:ad.getD k Jx=bd.getD k Jx→∀ j,j<k+1→ad.getD j Jx=bd.getD j Jx:=fun h=>Ks hst h;have hbad:ad.getD k Jx≠bd.getD k Jx→R=false:=fun h=>hno fun e=>by injection e with _ _ e _;exact h (by rw [e])
  have x1:=a4 (ad.getD k Jx) (by simp [hlt])
  have x2:=a5 (ad.getD k Jx) (by simp [hlt])
  have y1:=b4 (bd.getD k Jx) (by simp [show k<bd.length by omega])
  have y2:=b5 (bd.getD k Jx) (by simp [show k<bd.length by omega])
  have hnm:=e4 k hlt;obtain ⟨x,hx⟩:=exq (ad.getD k Jx);obtain ⟨y,hy⟩:=exq (bd.getD k Jx);rw [hx] at Qh hst hbad x1 x2 hnm;rw [hy] at Qp hst hbad y1 y2 hnm;obtain ⟨xn,xt,xe⟩:=x;obtain ⟨yn,yt,ye⟩:=y;simp only at x1 x2 y1 y2 hnm;cases Qz:xt==yt with
  | false =>
   have Z6:=hbad (fun e=>by injection e with _ e _;rw [e,beq_self_eq_true] at Qz;cases Qz)
   clear hst hbad;exact E5
  | true =>
   cases Qv:xe==ye with
   | false =>
    have Z6:=hbad (fun e=>by injection e with _ _ e;rw [e,beq_self_eq_true] at Qv;cases Qv)
    clear hst hbad;exact E5
   | true =>
    have h9:=hst (by rw [hnm,(by simpa using Qz:xt=yt),(by simpa using Qv:xe=ye)])
    clear hst hbad;have Kq:KfB:=⟨⟩;exact Gk
 ·have Z6:R=true:=by
   rw [←Qe,Zm,e1,e2,e5,Ry Jx e3 fun j hj=>hst j (by omega)]
  clear hst;exact Zt3):p:=h
theorem good_One6:Qq Tryz.prog (48,jG):=by
 obtain ⟨Kx,Kt,Kc,Kd,Kb,Ku,Kw,K,W4,Gd,M4,Ln,_⟩:=X2 Z4 Zq [] false (Jh good_Same6 bS.eq_def (Jh good_Sites4 Ax.eq_def (Jh good_One3 O7.eq_def (Jh good_One5 jH.eq_def X1))));have Ko:=jG.eq_def;refine Wh K Tryz.func48 [.tmp 4] rfl 55 rfl (fun c hc cvs hpre=>?_);unfold jG at hpre;obtain ⟨⟨an,ai,ad,sa⟩,⟨bn,bi,bd,bs⟩,rfl,hA,hB⟩:=Jv hpre;clear hpre;have hA2:=hA;have hB2:=hB;obtain ⟨a1,a2,a3,a4,a5⟩:=hA;obtain ⟨b1,b2,b3,b4,b5⟩:=hB;simp only at a1 a2 a3 a4 a5 b1 b2 b3 b4 b5;obtain ⟨R,Qe⟩:=exq (((⟨an,ai,ad,sa⟩:Mod6)==⟨bn,bi,bd,bs⟩));have hno:(⟨an,ai,ad,sa⟩:Mod6)≠⟨bn,bi,bd,bs⟩→R=false:=fun h=>by rw [←Qe,Za];exact h
 cases hc;refine Yv 3 ?_;cases Qd:mB ⟨an,ai,ad,sa⟩ ⟨bn,bi,bd,bs⟩ with
 | false =>
  have Z6:=hno (fun e=>by rw [e,Zn8] at Qd;cases Qd)
  exact E5
 | true =>
  obtain ⟨e1,e2,e3,e4⟩:=Zn7 Qd;simp only at e1 e2 e3 e4;cases Qa:sa==bs with
  | false =>
   have Z6:=hno (fun e=>by injection e with _ _ _ e;rw [e,beq_self_eq_true] at Qa;cases Qa)
   exact E5
  | true =>
   have e5:sa=bs:=by simpa using Qa
   have Kq:KfA:=⟨⟩;exact Gk
def Fp:Con:=Wr (fun (a b:Sl Mod6)=>(Lo a.l.length∧∀ m∈a.l,In6 m)∧Lo b.l.length∧∀ m∈b.l,In6 m) (fun a b=>a.l==b.l)
structure KfD:Prop
theorem KfD.k (_:KfD) (h:p:=by
 repeat' first|exact Z1|with_reducible apply Zb|intro _
 all_goals first|with_reducible exact Qo|omega|exact x1|exact y1|exact ⟨k+1,by exact Qk,by omega,h2,by omega⟩|skip):p:=h
structure KfC:Prop
theorem KfC.k (_:KfC) (h:p:=by
 repeat' first|exact Z1|with_reducible apply Zb|intro _
 refine Zi [4,11,12,13,14,15,16,17,18,19,20,21,22,23,24,25,26] (fun k:Nat=>[(5,.d (.int .i64 k))]) (fun k:Nat=>[]) (fun k:Nat=>k≤a.length∧∀ j,j<k→a.getD j Js=b.getD j Js) (fun k:Nat=>a.length-k) 0 ?_ ?_ ?_
 ·exact ⟨by omega,fun j hj=>absurd hj (Nat.not_lt_zero j)⟩
 ·exact Qk
 rintro k ⟨hk,hno⟩;rcases Zn k a.length with ⟨hlt,Z6⟩|⟨hlt,Z6⟩
 ·have Qa:=Zr Js hlt;have Qc:=Zr Js (show k<b.length by omega)
  have hst:a.getD k Js=b.getD k Js→∀ j,j<k+1→a.getD j Js=b.getD j Js:=fun h=>Ks hno h;have hbad:a.getD k Js≠b.getD k Js→(a==b)=false:=by
   intro h;rw [Za];intro e;exact h (by rw [e])
  have x1:=ha2 (a.getD k Js) (by simp [hlt])
  have y1:=hb2 (b.getD k Js) (by simp [show k<b.length by omega])
  obtain ⟨x,hx⟩:=exq (a.getD k Js);obtain ⟨y,hy⟩:=exq (b.getD k Js);rw [hx] at Qa hst hbad x1;rw [hy] at Qc hst hbad y1;obtain ⟨xn,xi,xd,xs⟩:=x;obtain ⟨yn,yi,yd,ys⟩:=y;cases Qh:((⟨xn,xi,xd,xs⟩:Mod6)==⟨yn,yi,yd,ys⟩) with
  | false =>
   have Qe:=hbad (by simpa using Qh)
   clear hno;exact E5
  | true =>
   have h2:=hst (by simpa using Qh)
   clear hno;have Kq:KfD:=⟨⟩;exact Gk
 ·have Qe:(a==b)=true:=by
   rw [Zm];exact Ry Js hlen fun j hj=>hno j (by omega)
  clear hno;exact Zt3):p:=h
theorem good_Same9:Qq Tryz.prog (18,Fp):=by
 obtain ⟨Kx,Kt,Kc,Kd,Kb,Ku,Kw,K,W4,_⟩:=X2 Z4 Zq [] false (Jh good_One6 jG.eq_def X1);have Ko:=Fp.eq_def;refine Wh K Tryz.func18 [.tmp 4] rfl 27 rfl (fun c hc cvs hpre=>?_);unfold Fp at hpre;obtain ⟨⟨a⟩,⟨b⟩,rfl,⟨ha,ha2⟩,hb,hb2⟩:=Jv hpre;simp only at ha ha2 hb hb2;by_cases hlen:a.length=b.length
 case neg =>
  have Qd:((a.length:Int) != (b.length:Int))=true:=by rw [bne_iff_ne];omega
  have Qe:(a==b)=false:=by rw [Za];intro e;exact hlen (by rw [e])
  cases hc;exact Zt3
 have Qd:((a.length:Int) != (b.length:Int))=false:=by rw [hlen,bne_self_eq_false]
 cases hc;have Kq:KfC:=⟨⟩;exact Gk
structure Bd where
 name:List UInt8
 t:List Node
 deriving DecidableEq
instance encBd:Enc Bd:=⟨fun a=>.agg [.str a.name,.list 3 (a.t.map enc)],fun x=>match x with
 | .agg [a,b]=>⟨a.s,b.l.map dec⟩
 | _=>⟨[],[]⟩,fun a=>by
  have h1:∀ l:List Node,(l.map (enc:Node→D)).map dec=l:=fun l=>J2;cases a;simp [D.l,D.s,h1]⟩
instance szBd:Sz Bd:=⟨2⟩
theorem Zff:Sz.sz Bd=2:=rfl
theorem Nt {a:List UInt8} {b:List Node}:(enc (Bd.mk a b):D)=.agg [.str a,.list 3 (b.map enc)]:=rfl
theorem Zee {a:List UInt8} {b:List Node}:(dec (.agg [.str a,.list 3 (b.map enc)]):Bd)=⟨a,b⟩:=Enc.dec_enc (Bd.mk a b)
theorem Zdt {a:List UInt8} {b:List Node}:K3 Bd (.agg [.str a,.list 3 (b.map enc)])=True:=eq_true (Wg (Bd.mk a b))
def jU:Bd:=⟨[],[]⟩
def Tp:Con:=Wr (fun (t:Sl Node) (b:Int)=>Zv7 t.l∧0≤b∧b≤1000000) (fun t b=>Sl.mk (M2 b t.l))
structure KfF:Prop
theorem KfF.k (_:KfF) (h:p:=by
 repeat' first|exact Z1|with_reducible apply Zb|intro _
 all_goals first|with_reducible exact Qo|omega|contradiction|exact ⟨k+1,by (have Um:=hnx;exact Qk),by omega,by omega⟩|skip):p:=h
structure KfG:Prop
theorem KfG.k (_:KfG) (h:p:=by
 repeat' first|exact Z1|with_reducible apply Zb|intro _
 all_goals first|with_reducible exact Qo|omega|contradiction|exact ⟨k+1,by exact Qk,by omega,by omega⟩|skip):p:=h
structure KfH:Prop
theorem KfH.k (_:KfH) (h:p:=by
 repeat' first|exact Z1|with_reducible apply Zb|intro _
 all_goals first|with_reducible exact Qo|omega|contradiction|exact ⟨k+1,by (have Um:=hnx;exact Qk),by omega,by omega⟩|skip):p:=h
structure KfE:Prop
theorem KfE.k (_:KfE) (h:p:=by
 repeat' first|exact Z1|with_reducible apply Zb|intro _
 refine Zi [10,11,12,13,14,15,16,17,18,19,20,21,22,23,24,25,26,27,28,29,30,31,32,33,34,35,36,37,38,39,40] (fun k:Nat=>[(6,.d (.int .i64 k))]) (fun k:Nat=>[(7,.row 3 ((Dg (fun _=>Uv b) t k).map enc) 0)]) (fun k:Nat=>k≤t.length) (fun k:Nat=>t.length-k) 0 ?_ ?_ ?_
 ·omega
 ·have Um:=@Fb;exact Qk
 rintro k hk;have Qc:=Rl (f:=fun _=>Uv b) (l:=t) k;rcases Zn k t.length with ⟨hlt,Qe⟩|⟨hlt,Qe⟩
 ·have Z6:=Zr n0 (show k<(Dg (fun _=>Uv b) t k).length by omega)
  rw [eZ n0 hlt] at Z6;have hset:=Rk n0 hlt (f:=fun _=>Uv b);have hsame:=Zk9 n0 hlt (f:=fun _=>Uv b);have hbn:=hb (t.getD k n0) (by simp [hlt])
  obtain ⟨y,hy⟩:=exq (t.getD k n0);rw [hy] at Z6 hset hsame hbn;obtain ⟨yk,yn,yi⟩:=y;simp only at hbn;obtain ⟨P,hP⟩:=exq (Dg (fun _=>Uv b) t k);rw [hP] at Z6 hset hsame Qc ⊢;have Qh:(P.map (enc:Node→D)).length=t.length:=by rw [Zo,Qc]
  by_cases h0:yk=0
  case neg =>
   have Qa:(yk==0)=false:=by rw [Za];exact h0
   have hnx:=hsame (by unfold Uv;rw [if_neg (fun h=>h0 h.1)])
   have Kq:KfF:=⟨⟩;exact Gk
  subst h0;have Qa:((0:Int)==0)=true:=rfl;rcases Xx 0 yi with ⟨h1,Qp⟩|⟨h1,Qp⟩
  ·have hyb:=hbn rfl;have Qz:(P.map (enc:Node→D)).set k (.agg [.int .i64 0,.str yn,.int .i64 (yi+b)])=(Dg (fun _=>Uv b) t (k+1)).map enc:=by
    rw [←hset];unfold Uv;rw [if_pos ⟨rfl,h1⟩,←M8];rfl
   have Kq:KfG:=⟨⟩;exact Gk
  ·have hnx:=hsame (by unfold Uv;rw [if_neg (fun h=>by have:=h.2;simp only at this;omega)])
   have Kq:KfH:=⟨⟩;exact Gk
 ·have hke:k=t.length:=by omega
  have hfu:Dg (fun _=>Uv b) t k=R:=by rw [hke,Fc,←Qd];rfl
  have Qv:R.length=t.length:=by rw [←hfu,Qc]
  rw [hfu];exact E5):p:=h
theorem good_shifted9:Qq Tryz.prog (47,Tp):=by
 obtain ⟨Kx,Kt,Kc,Kd,Kb,Ku,Kw,K,_⟩:=X2 Z4 Zq [] false X1;have Ko:=Tp.eq_def;refine Wh K Tryz.func47 [.tmp 4] rfl 42 rfl (fun c hc cvs hpre=>?_);unfold Tp at hpre;obtain ⟨⟨t⟩,b,rfl,⟨ht,hb⟩,hf0,hf1⟩:=Jv hpre;simp only at ht hb;clear hpre;obtain ⟨R,Qd⟩:=exq (M2 b t);cases hc;refine Yv 2 ?_;have Kq:KfE:=⟨⟩;exact Gk
def Zkd {α:Type} (f:Nat→α→α) (l:List α) (k:Nat):List α:=(l.take k).mapIdx f
section
variable {α:Type} {f:Nat→α→α} {l:List α}
theorem Zkg:Zkd f l 0=[]:=by simp [Zkd]
theorem Zki:Zkd f l l.length=l.mapIdx f:=by simp [Zkd]
theorem Zpx {k:Nat} (h:k≤l.length):(Zkd f l k).length=k:=by
 unfold Zkd;simp;omega
theorem Zkh (d:α) {k:Nat} (h:k<l.length):Zkd f l (k+1)=Zkd f l k++[f k (l.getD k d)]:=by
 unfold Zkd;rw [Km d h,List.mapIdx_append];simp [show min k l.length=k by omega]
end
def Eg:Con:=W0 (fun (l:Sl Mod6)=>NumOk l.l) (fun l=>K0 l.l)
structure KfJ:Prop
theorem KfJ.k (_:KfJ) (h:p:=by
 repeat' first|exact Z1|with_reducible apply Zb|intro _
 all_goals first|with_reducible exact Qo|omega|rfl|trivial|(simp;done)|skip):p:=h
structure KfL:Prop
theorem KfL.k (_:KfL) (h:p:=by
 repeat' first|exact Z1|with_reducible apply Zb|intro _
 all_goals first|with_reducible exact Qo|omega|exact ⟨k+1,by rw [←hnx];(have Um:=@Jb;exact Qk),by omega,by omega⟩|skip):p:=h
structure KfN:Prop
theorem KfN.k (_:KfN) (h:p:=by
 repeat' first|exact Z1|with_reducible apply Zb|intro _
 all_goals first|with_reducible exact Qo|omega|exact lowt2 _ (by assumption) (by assumption)|exact ⟨lowt1,lowt2⟩|exact ⟨d+1,by rw [←hnx];(have Um:=@J0;have Ix:=hTe;exact Qk),by omega,by omega⟩|skip):p:=h
structure KfO:Prop
theorem KfO.k (_:KfO) (h:p:=by
 repeat' first|exact Z1|with_reducible apply Zb|intro _
 all_goals first|with_reducible exact Qo|omega|exact lpt|exact lpu|exact ⟨j+1,by (have Um:=Zv;have Ix:=r9b;exact Qk),by omega,by omega⟩|skip):p:=h
structure KfM:Prop
theorem KfM.k (_:KfM) (h:p:=by
 repeat' first|exact Z1|with_reducible apply Zb|intro _
 all_goals first|with_reducible exact Qo|omega|skip
 refine Zi [58,59,60,61,62,63,64,65,66,67,68,69,70,71,72,73,74,75,76,77,78,79,80,81,82,83,84,85] (fun j:Nat=>[(12,.d (.int .i64 j))]) (fun j:Nat=>[(54,.row 8 ((Dg (fun _=>W7 b) xe j).map enc) 0)]) (fun j:Nat=>j≤xe.length) (fun j:Nat=>xe.length-j) 0 ?_ ?_ ?_
 ·omega
 ·have Um:=@Fb;exact Qk
 rintro j hj;have hjlen:=Rl (f:=fun _=>W7 b) (l:=xe) j;rcases Zn j xe.length with ⟨hjlt,Qv⟩|⟨hjlt,Qv⟩
 rotate_left
 ·have hje:j=xe.length:=by omega
  have hfu:Dg (fun _=>W7 b) xe j=xe.mapIdx fun _=>W7 b:=by rw [hje,Fc]
  have Q4:(xe.mapIdx fun _=>W7 b).length=xe.length:=by simp
  have hnx:Q++[⟨xn,M2 b xt,xe.mapIdx fun _=>W7 b⟩]=Zkd (fun _=>W8 b) md (d+1):=by
   rw [hsuccd];rfl
  rw [hfu];rw [hje] at Qv;obtain ⟨E2,hE2⟩:=exq ((xe.mapIdx fun _=>W7 b));obtain ⟨T2,Z0⟩:=exq (M2 b xt);rw [hE2,Z0] at hnx;have hTe:(enc (Sl.mk T2):D)=.list 3 (T2.map enc):=rfl;rw [hE2] at Q4 ⊢;have Qn:=@W0.eq_def;have Kq:KfN:=⟨⟩;exact Gk
 have Z7:=Zr e0 (show j<(Dg (fun _=>W7 b) xe j).length by omega)
 rw [eZ e0 hjlt] at Z7;have hsetj:=Rk e0 hjlt (f:=fun _=>W7 b);have hlowp:=lowe (xe.getD j e0) (by simp [hjlt])
 obtain ⟨p,hp⟩:=exq (xe.getD j e0);rw [hp] at Z7 hsetj hlowp;obtain ⟨pk,pl,pn,pb,pm,pq,pt,pu⟩:=p;obtain ⟨lpt,lpu⟩:=hlowp;simp only at lpt lpu;obtain ⟨S,hSq⟩:=exq (Dg (fun _=>W7 b) xe j);rw [hSq] at Z7 hsetj hjlen ⊢;have Z3:(S.map (enc:Part→D)).length=xe.length:=by rw [Zo,hjlen]
 obtain ⟨T2,Z0⟩:=exq (M2 b pt);obtain ⟨U2,Zw⟩:=exq (M2 b pu);have Z9:(S.map (enc:Part→D)).set j (.agg [.int .i64 pk,.str pl,.str pn,.str pb,.int .i64 pm,.int .i64 pq,enc (Sl.mk T2),.list 3 (pu.map enc)])=(S.set j ⟨pk,pl,pn,pb,pm,pq,T2,pu⟩).map enc:=M8 (y:=(⟨pk,pl,pn,pb,pm,pq,T2,pu⟩:Part));have Qg:el ((S.set j ⟨pk,pl,pn,pb,pm,pq,T2,pu⟩).map (enc:Part→D)) j=.agg [.int .i64 pk,.str pl,.str pn,.str pb,.int .i64 pm,.int .i64 pq,enc (Sl.mk T2),.list 3 (pu.map enc)]:=eO (by omega)
 have Zv:((S.set j ⟨pk,pl,pn,pb,pm,pq,T2,pu⟩).map (enc:Part→D)).set j (.agg [.int .i64 pk,.str pl,.str pn,.str pb,.int .i64 pm,.int .i64 pq,enc (Sl.mk T2),enc (Sl.mk U2)])=(Dg (fun _=>W7 b) xe (j+1)).map enc:=by
  rw [←hsetj];have:W7 b ⟨pk,pl,pn,pb,pm,pq,pt,pu⟩=⟨pk,pl,pn,pb,pm,pq,T2,U2⟩:=by unfold W7;rw [Z0,Zw]
  rw [this];refine Eq.trans (M8 (y:=(⟨pk,pl,pn,pb,pm,pq,T2,U2⟩:Part))) ?_;rw [List.set_set]
 have r9b:(S.map (enc:Part→D)).set j (.agg [.int .i64 pk,.str pl,.str pn,.str pb,.int .i64 pm,.int .i64 pq,enc (Sl.mk T2),enc (Sl.mk U2)])=(Dg (fun _=>W7 b) xe (j+1)).map enc:=by
  rw [←Zv,←M8,List.set_set]
 have Zz:((S.set j ⟨pk,pl,pn,pb,pm,pq,T2,pu⟩).map (enc:Part→D)).length=xe.length:=by rw [Zo,List.length_set,hjlen]
 have hS2:(S.set j ⟨pk,pl,pn,pb,pm,pq,T2,pu⟩).length=xe.length:=by rw [List.length_set,hjlen]
 have Z7:el (S.map (enc:Part→D)) j=.agg [.int .i64 pk,.str pl,.str pn,.str pb,.int .i64 pm,.int .i64 pq,.list 3 (pt.map enc),.list 3 (pu.map enc)]:=Z7;have Qn:=@W0.eq_def;have Kq:KfO:=⟨⟩;exact Gk):p:=h
structure KfK:Prop
theorem KfK.k (_:KfK) (h:p:=by
 repeat' first|exact Z1|with_reducible apply Zb|intro _
 all_goals first|with_reducible exact Qo|omega|skip
 refine Zi [10,11,12,36,37,38,39,40,41,42,43,44,45,46,47,48,49,50,51,52,53,54,55,56,57,58,59,60,61,62,63,64,65,66,67,68,69,70,71,72,73,74,75,76,77,78,79,80,81,82,83,84,85,86,87,88,89,90,91,92,93,94,95,96,97,98] (fun d:Nat=>[(9,.d (.int .i64 d))]) (fun d:Nat=>[(8,.box true [.d (.str mn),.d (.list 1 (mi.map enc)),.sl 97 ((Zkd (fun _=>W8 b) md d).map (enc:Def6→D)).length,.d (.list 3 (ms.map enc))]),(97,.row 3 ((Zkd (fun _=>W8 b) md d).map enc) 0)]) (fun d:Nat=>d≤md.length) (fun d:Nat=>md.length-d) 0 ?_ ?_ ?_
 ·omega
 ·have Um:=@Zkg;exact Qk
 rintro d hd;have hdlen:=Zpx (f:=fun _=>W8 b) (l:=md) hd;rcases Zn d md.length with ⟨hdlt,Qc⟩|⟨hdlt,Qc⟩
 rotate_left
 ·have hde:d=md.length:=by omega
  have hfu:Zkd (fun _=>W8 b) md d=md.mapIdx fun _=>W8 b:=by rw [hde,Zki]
  have hnx:P++[⟨mn,mi,md.mapIdx fun _=>W8 b,ms⟩]=Zkd (K8 l) l (k+1):=by
   rw [hsucc];unfold K8;rw [hbq]
  have Qh:(md.mapIdx fun _=>W8 b).length=md.length:=by simp
  rw [hfu];rw [hde] at Qc;obtain ⟨Ds,hDs⟩:=exq ((md.mapIdx fun _=>W8 b));rw [hDs] at Qh hnx ⊢;have Qn:=@W0.eq_def;have Kq:KfL:=⟨⟩;exact Gk
 have Qz:=Zr Jx hdlt;have hsuccd:=Zkh Jx hdlt (f:=fun _=>W8 b);have hlowd:=hlow (md.getD d Jx) (by simp [hdlt])
 obtain ⟨x,hx⟩:=exq (md.getD d Jx);rw [hx] at Qz hsuccd hlowd;obtain ⟨xn,xt,xe⟩:=x;obtain ⟨⟨lowt1,lowt2⟩,lowl,lowe⟩:=hlowd;simp only at lowt1 lowt2 lowl lowe;obtain ⟨Q,hQ⟩:=exq (Zkd (fun _=>W8 b) md d);rw [hQ] at hsuccd hdlen ⊢;have Qn:=@W0.eq_def;have Kq:KfM:=⟨⟩;exact Gk):p:=h
structure KfI:Prop
theorem KfI.k (_:KfI) (h:p:=by
 repeat' first|exact Z1|with_reducible apply Zb|intro _
 refine Zi [8,9,10,11,12,14,15,16,17,18,19,20,21,22,23,24,25,26,27,28,29,30,31,32,33,34,35,36,37,38,39,40,41,42,43,44,45,46,47,48,49,50,51,52,53,54,55,56,57,58,59,60,61,62,63,64,65,66,67,68,69,70,71,72,73,74,75,76,77,78,79,80,81,82,83,84,85,86,87,88,89,90,91,92,93,94,95,96,97,98,99,100,101,102,103,104,105,106,107,108,109,110] (fun k:Nat=>[(5,.sl 13 ((Zkd (K8 l) l k).map (enc:Mod6→D)).length),(6,.d (.int .i64 (ah l k))),(7,.d (.int .i64 k))]) (fun k:Nat=>[(13,.row 4 ((Zkd (K8 l) l k).map enc) 0)]) (fun k:Nat=>k≤l.length) (fun k:Nat=>l.length-k) 0 ?_ ?_ ?_
 ·omega
 ·have Um:=@Zkg;have Ix:=@Zrf;exact Qk
 rintro k hk;have hpl:=Zpx (f:=K8 l) (l:=l) hk;have hbk:=Ze5 hS k hk;rcases Zn k l.length with ⟨hlt,Qd⟩|⟨hlt,Qd⟩
 rotate_left
 ·have hke:k=l.length:=by omega
  rw [hke,Zki];rw [hke] at Qd;rcases Xx 60 (ah l l.length:Int) with ⟨h6,Qe⟩|⟨h6,Qe⟩
  ·rw [if_pos (by omega)] at hR2
   subst hR2;have Qn:=@W0.eq_def;exact E5
  ·rw [if_neg (by omega)] at hR2
   subst hR2;have Qn:=@W0.eq_def;have Kq:KfJ:=⟨⟩;exact Gk
 have Qa:=Zr Js hlt;have hsucc:=Zkh Js hlt (f:=K8 l);have hahs:=Zj6 hlt;have hmem:l.getD k Js∈l:=by simp [hlt]
 have hdl:=hN.len _ hmem;have hlow:=hN.low _ hmem;have hsl:=hS.sites _ hmem;obtain ⟨m,hm⟩:=exq (l.getD k Js);rw [hm] at Qa hsucc hdl hlow hahs hsl;obtain ⟨mn,mi,md,ms⟩:=m;simp only at hdl hlow hahs hsl;obtain ⟨P,hP⟩:=exq (Zkd (K8 l) l k);rw [hP] at hsucc hpl ⊢;obtain ⟨b,hbq⟩:∃ b:Int,(ah l k:Int)=b:=⟨_,rfl⟩;have hb0:0≤b:=by omega
 have hb1:b≤1000000:=by omega
 have Qp:b+(ms.length:Int)=(ah l (k+1):Int):=by omega
 rw [hbq];have Qn:=@W0.eq_def;have Kq:KfK:=⟨⟩;exact Gk):p:=h
theorem good_Number9:Qq Tryz.prog (15,Eg):=by
 obtain ⟨Kx,Kt,Kc,Kd,Kb,Ku,Kw,K,W4,_⟩:=X2 Z4 Zq [] false (Jh good_shifted9 Tp.eq_def X1);have Ko:=Eg.eq_def;refine Wh K Tryz.func15 [.tmp 2,.tmp 3,.tmp 4] rfl 115 rfl (fun c hc cvs hpre=>?_);unfold Eg at hpre;obtain ⟨⟨l⟩,rfl,hN⟩:=cV hpre;simp only at hN;clear hpre;have hS:=hN.sites;obtain ⟨R,Z6⟩:=exq (K0 l);have hR2:=Z6;unfold K0 at hR2;have hlen:=hS.len;cases hc;refine Yv 7 ?_;have Qn:=@W0.eq_def;have Kq:KfI:=⟨⟩;exact Gk
end Go.Am.Ty
