/- Contracts of functions that the law reaches, and plain laws. Conditions: those that each contract states. -/
import Derived.Test.YtilpfkjhahnfaaaK3
set_option maxHeartbeats 4000000
set_option linter.unusedVariables false
set_option linter.unusedSimpArgs false
namespace Go.Am.Ty
open Go.Proofs
open Enc (enc dec)
theorem one2_to {s:List UInt8} {i:Nat} (hi:i<s.length) (h:(one2 s i).2=true):∃ n:Nat,(one2 s i).1.to=n∧i+1≤n∧n≤s.length:=by
 unfold one2 at h ⊢
 have hw:=word2_le (s.drop i)
 rw [List.length_drop] at hw
 have hpl:(T9 s i).length=T6 (s.drop i):=by unfold T9;rw [List.length_drop,List.length_take];omega
 split at h
 ·rename_i a
  rw [if_pos a]
  have hU:=unq1_le (s:=s.drop i) (by simpa using h)
  rw [List.length_drop] at hU
  exact ⟨i+(unq1 (s.drop i)).2.1.toNat,by show (i:Int)+(unq1 (s.drop i)).2.1=_;omega,by omega,by omega⟩
 rename_i a
 rw [if_neg a]
 have hgo:∀ {k:Int} {x:List UInt8},x≠[]→x=T9 s i→∃ n:Nat,(Tok.mk k x i (i+T6 (s.drop i))).to=n∧i+1≤n∧n≤s.length:=fun {k x} hx he=>by
  have:x.length≠0:=by simpa using hx
  rw [he,hpl] at this
  exact ⟨i+T6 (s.drop i),rfl,by omega,by omega⟩
 split at h
 ·rename_i a
  rw [if_pos a]
  exact hgo (isTag_ne a) rfl
 rename_i a
 rw [if_neg a]
 split at h
 ·rename_i a
  rw [if_pos a]
  refine hgo ?_ rfl
  intro e
  rw [e] at a
  exact absurd a (by decide)
 rename_i a
 rw [if_neg a]
 split at h
 ·rename_i a
  rw [if_pos a]
  exact hgo (isWord_ne a) rfl
 rename_i a
 rw [if_neg a]
 split at h
 ·rename_i a
  rw [if_pos a]
  split at h
  ·rename_i b
   rw [if_pos b]
   exact ⟨i+T6 (s.drop i),rfl,by omega,by omega⟩
  ·cases h
 ·rename_i a
  rw [if_neg a]
  have hs:I2 s i≠[]:=by simpa using h
  have hl:∀ l:List (List UInt8),Ix s i l≠[]→i+(Ix s i l).length≤s.length:=by
   intro l
   induction l with
   | nil=>intro h;exact absurd rfl h
   | cons x l ih =>
    rw [Ix]
    cases hx:signAt s i x with
    | false=>exact ih
    | true =>
     intro _
     rw [cond_true]
     unfold signAt at hx
     rw [bX,G4] at hx
     omega
  have:=hl signs2 hs
  have h0:(I2 s i).length≠0:=by simpa using hs
  unfold I2 at h0
  exact ⟨i+(I2 s i).length,rfl,by unfold I2;omega,by unfold I2;omega⟩
def P9:Con:=Ng (fun (s:List UInt8)=>s.length≤9223372036854775807) (fun s=>(⟨(F9 s).1⟩,(F9 s).2.1,(F9 s).2.2):List UInt8→Sl Tok×Int×Int)
noncomputable def Il:Ctx:=⟨tab,lkC [(26,So),(27,Eu)],60,lkB [],[],false⟩
theorem Er:Il.τ=tab:=rfl
theorem ctx_Tokens2_c:Il.Γ=lkC [(26,So),(27,Eu)]:=rfl
theorem Es:Il.dp=60:=rfl
theorem ctx_Tokens2_b:Il.Δ=lkB []:=rfl
set_option maxRecDepth 100000 in
theorem good_Tokens2:Hg Try.prog (23,P9):=by
 refine ⟨Ke Try.func23 (by kernel_rfl) rfl,?_⟩
 have K:Gu Try.prog Il:=Ko G7 Kw (by
  intro p hp
  simp only [bQ,bZ,or_false] at hp
  rcases hp with rfl|rfl
  ·exact good_between2
  ·exact good_one2) (by simp)
 obtain ⟨c,hc⟩:∃ c,Try.f23.body=some c:=⟨_,rfl⟩
 refine Kn K Try.func23 hc [.tmp 2,.tmp 3,.tmp 4] rfl 45 rfl (fun cvs hpre=>?_)
 change P9.pre cvs at hpre
 unfold P9 at hpre
 obtain ⟨s,rfl,hs⟩:=con1tt_pre hpre
 clear hpre
 obtain ⟨⟨R1,R2,R3⟩,hR⟩:∃ R,F9 s=R:=⟨_,rfl⟩
 have hR2:=hR
 unfold F9 at hR2
 by_cases h0:100000<s.length
 ·rw [if_pos h0] at hR2
  have hz:ltB 100000 (s.length:Int)=true:=by rw [Hf];omega
  injection hR2 with e1 e2
  injection e2 with e2 e3
  subst e1 e2 e3
  simp only [Try.f23,aZ] at hc
  subst hc
  refine Gf 2 (of_decide_eq_true (by kernel_rfl)) ?_
  (sym=>simp [hz,hR,mY,Gl,Kq,U9,G9,Kf,Kg,K8,Er,Es,P9.eq_def,Zb,Zc,Ze,Zf,Zn,Zo,Z6,Qd,Qf,Qp,Qq,Qr,Qs,Qu,Qv,Qw,Qx,Q1,Jd,Jj,Jq,Jr,Js,Jt,Jv,Jy,J2,J3,J6,J7,Xj,Xl,Xm,Xq,Xr,Xu,Xw,Xx,Xy,X6,X7,X8,X9,Wc,Wf,Wj,Wl,Wo,Wp,Wt,Wv,Wx,Wz,Yc,Ye,Yn,Yo,Yr,Ys,Yt,Yu,Yv,Yw,Yy,Y9,Vj,Vm,Vy,V0,V1,V5,V6,U5,K9,Kh,K2,Ku];tactic =>
   try simp only [Uq] at *;try simp only [nc2] at *
   try simp (maxSteps:=4000000) only [hz,hR,mY,Gl,Kq,U9,G9,Kf,Kg,K8,U6]
   repeat' first|with_reducible assumption|with_reducible apply And.intro|intro _|omega|(rw [Uk];omega)
   all_goals first|omega|rfl|skip)
 have hz:ltB 100000 (s.length:Int)=false:=by rw [Hm];omega
 rw [if_neg h0] at hR2
 have hb0:=betw2_le (s:=s) (i:=0) (by omega)
 obtain ⟨b0,hb⟩:∃ b,betw2 s 0=b:=⟨_,rfl⟩
 rw [hb] at hR2 hb0
 simp only [Try.f23,aZ] at hc
 subst hc
 refine Gf 2 (of_decide_eq_true (by kernel_rfl)) ?_
 (sym=>simp [hz,hb,mY,Int.toNat_zero,Gl,Kq,U9,G9,Kf,Kg,K8,Er,ctx_Tokens2_c,Es,ctx_Tokens2_b,P9.eq_def,So.eq_def,Eu.eq_def,Zb,Zc,Ze,Zf,Zn,Zo,Zr,Z1,Z6,Qb,Qd,Qf,Qg,Qh,Qs,Qu,Qv,Qw,Qx,Q1,Q4,Q5,Q6,Q7,Q8,Q9,Ja,Jb,Jc,Je,Jj,Jq,Jr,Js,Jt,Jv,Jy,J0,J2,J6,J7,Xe,Xg,Xi,Xj,Xl,Xm,Xn,Xo,Xr,Xu,Xw,Xx,Xy,X1,X6,X7,X8,X9,Wb,Wc,Wd,Wf,Wg,Wi,Wj,Wl,Wo,Wp,Wt,Wv,Wx,Wz,Yc,Ye,Yn,Yo,Yr,Ys,Yt,Yu,Yv,Yw,Yx,Yy,Y2,Y3,Y9,Vj,Vm,Vz,V0,V1,V2,V5,V6,U5,K9,Kh,K2,Ku];tactic =>
  try simp only [Uq] at *;try simp only [nc2] at *
  try simp (maxSteps:=4000000) only [hz,hb,mY,Int.toNat_zero,Gl,Kq,U9,G9,Kf,Kg,K8,U6]
  repeat' first|with_reducible assumption|with_reducible apply And.intro|intro _|omega|(rw [Uk];omega)
  all_goals try omega
  refine Kk [2,3,4,7,8,15,16,17,18,19,20,21,22,23,24,25,26,27,28,29,30,31,32,33,34,35] (fun p:Nat×Nat×List Tok=>[(5,.sl 12 (p.2.2.map (enc:Tok→D)).length),(6,.d (.int .i64 p.2.1))]) (fun p:Nat×Nat×List Tok=>[(12,.row 4 (p.2.2.map enc) 0)]) (fun p:Nat×Nat×List Tok=>s.length+1≤p.1+p.2.1∧p.2.1≤s.length∧p.2.2.length≤p.2.1∧toks2L p.1 s p.2.1 p.2.2=(R1,R2,R3)) (fun p:Nat×Nat×List Tok=>s.length-p.2.1) (s.length+1,b0,[]) ?_ ?_ ?_
  ·exact ⟨by simp only;omega,by simp only;omega,by simp,hR2⟩
  ·exact wkq
  rintro ⟨f,i,out⟩ ⟨h1,h2,h3,h4⟩
  simp only at h1 h2 h3 h4
  obtain ⟨f,rfl⟩:∃ g,f=g+1:=⟨f-1,by omega⟩
  rw [toks2L] at h4
  have hol:(out.map (enc:Tok→D)).length=out.length:=bV ..
  rcases Kt i s.length with ⟨hlt,hlb⟩|⟨hlt,hlb⟩
  ·rw [if_neg (by omega)] at h4
   have hto:=one2_to hlt
   obtain ⟨⟨t,ok⟩,ht⟩:∃ q,one2 s i=q:=⟨_,rfl⟩
   rw [ht] at h4 hto
   simp only at h4 hto
   cases ok with
   | false =>
    rw [if_pos rfl] at h4
    injection h4 with e1 e2
    injection e2 with e2 e3
    subst e1 e2 e3
    (sym=>simp [hlb,ht,hR,mY,U1,Gl,aX,Kq,U9,G9,Kf,Kg,K8,Er,ctx_Tokens2_c,Es,ctx_Tokens2_b,So.eq_def,Eu.eq_def,Zb,Zc,Ze,Zf,Zg,Zn,Zo,Zp,Zq,Zu,Zw,Z6,Qa,Qb,Qd,Qe,Qf,Qg,Qh,Qi,Qm,Qn,Qp,Qq,Qr,Qs,Qu,Qv,Qw,Qx,Q1,Q2,Q3,Q8,Ja,Jb,Jc,Jd,Je,Jl,Jm,Jn,Js,Jt,Jv,Jw,Jx,Jy,Jz,J2,J3,Xb,Xe,Xg,Xi,Xj,Xl,Xm,Xn,Xq,Xr,Xu,Xw,Xx,Xy,X0,X6,X7,X8,X9,Wb,Wd,Wf,Wh,Wi,Wj,Wl,Wo,Wp,Wr,Wt,Wu,Wv,Wx,Wy,Wz,W6,Yd,Yn,Yo,Yp,Yq,Ys,Yu,Yv,Yw,Yx,Yy,Y2,Y3,Y6,Y9,Vj,Vm,Vy,V0,V1,V2,V3,V4,V5,V6,Uj,U5,K9,Kh,K2,Ku];tactic =>
     try simp only [Uq] at *;try simp only [nc2] at *
     try simp (maxSteps:=4000000) only [hlb,ht,hR,mY,U1,Gl,aX,Kq,U9,G9,Kf,Kg,K8,U6]
     repeat' first|with_reducible assumption|with_reducible apply And.intro|intro _|omega|(rw [Uk];omega)
     all_goals first|with_reducible exact okq|omega|rfl|skip)
   | true =>
    rw [if_neg (by simp)] at h4
    obtain ⟨n,hn,hn1,hn2⟩:=hto rfl
    have hbn:=betw2_le (s:=s) hn2
    obtain ⟨tk,tt,tf,tto⟩:=t
    simp only at hn
    subst hn
    simp only [aX] at h4
    obtain ⟨b1,hb1⟩:∃ b,betw2 s n=b:=⟨_,rfl⟩
    rw [hb1] at h4 hbn
    have hS:(out++[Tok.mk tk tt tf n]).map (enc:Tok→D)=out.map enc++[.agg [.int .i64 tk,.str tt,.int .i64 tf,.int .i64 n]]:=by rw [List.map_append];rfl
    (sym=>simp [hlb,ht,hb1,hol,mY,U1,Gl,aX,Kq,U9,G9,Kf,Kg,K8,Er,ctx_Tokens2_c,Es,ctx_Tokens2_b,So.eq_def,Eu.eq_def,Zb,Zc,Ze,Zf,Zg,Zo,Zp,Zq,Zr,Zs,Zu,Zv,Zw,Zx,Z1,Z4,Z5,Z6,Qa,Qb,Qd,Qe,Qf,Qg,Qh,Qi,Qj,Qm,Qn,Qo,Qs,Qu,Qv,Qw,Qx,Q1,Q2,Q3,Q4,Q5,Q6,Q7,Q8,Q9,Ja,Jb,Jc,Je,Jl,Jm,Jn,Js,Jt,Ju,Jv,Jw,Jx,Jy,Jz,J0,J1,J2,Xb,Xe,Xg,Xi,Xj,Xl,Xm,Xn,Xr,Xu,Xw,Xx,Xy,Xz,X0,X1,X6,X7,X8,X9,Wb,Wd,Wf,Wg,Wh,Wi,Wj,Wl,Wm,Wn,Wo,Wp,Wr,Wt,Wu,Wv,Wx,Wy,Wz,W6,Yc,Yd,Yn,Yo,Yp,Yq,Ys,Yt,Yu,Yv,Yw,Yx,Yy,Y2,Y3,Y5,Y9,Vi,Vo,Vy,Vz,V0,V1,V2,V3,V4,V5,V6,Ui,Uj,U5,K9,Kh,K2,Ku];tactic =>
     try simp only [Uq] at *;try simp only [nc2] at *
     try simp (maxSteps:=4000000) only [hlb,ht,hb1,hol,mY,U1,Gl,aX,Kq,U9,G9,Kf,Kg,K8,U6]
     repeat' first|with_reducible assumption|with_reducible apply And.intro|intro _|omega|(rw [Uk];omega)
     all_goals first|with_reducible exact okq|omega|exact ⟨(f,b1,out++[Tok.mk tk tt tf n]),by rw [hS];exact wkq,by simp only;omega,by simp only;omega,by simp only [bY,bJ,List.length_nil];omega,h4,by simp only;omega⟩|skip)
  ·rw [if_pos (by omega)] at h4
   injection h4 with e1 e2
   injection e2 with e2 e3
   subst e1 e2 e3
   have hS:(out++[Tok.mk 0 [] s.length s.length]).map (enc:Tok→D)=out.map enc++[.agg [.int .i64 0,.str [],.int .i64 s.length,.int .i64 s.length]]:=by rw [List.map_append];rfl
   have hS2:((out++[Tok.mk 0 [] s.length s.length]).map (enc:Tok→D)).length=out.length+1:=by simp
   (sym=>simp [hlb,hR,hol,mY,U1,Gl,aX,Kq,U9,G9,Kf,Kg,K8,Er,Es,Zb,Zc,Ze,Zf,Zg,Zo,Zr,Z1,Z2,Z4,Z5,Z6,Qd,Qf,Qj,Qn,Qp,Qq,Qr,Qs,Qu,Qv,Qw,Qx,Q0,Q1,Q3,Q4,Q5,Q6,Q7,Q9,Ja,Jb,Jd,Jl,Jm,Jn,Js,Jt,Ju,Jv,Jw,Jx,Jy,Jz,J0,J1,J2,J4,Xb,Xj,Xl,Xm,Xp,Xq,Xr,Xu,Xw,Xx,Xy,Xz,X0,X1,X6,X7,X8,X9,Wg,Wh,Wi,Wj,Wl,Wm,Wn,Wo,Wp,Wr,Wt,Wv,Wx,Wz,W2,W6,Yn,Yo,Yp,Yq,Y9,Vi,Vj,Vo,Vr,Vz,V0,V1,V2,V3,V5,V6,U5,K9,Kh,K2,Ku];tactic =>
    try simp only [Uq] at *;try simp only [nc2] at *
    try simp (maxSteps:=4000000) only [hlb,hR,hol,mY,U1,Gl,aX,Kq,U9,G9,Kf,Kg,K8,U6]
    repeat' first|with_reducible assumption|with_reducible apply And.intro|intro _|omega|(rw [Uk];omega)
    all_goals first|with_reducible exact okq|omega|(rw [hS];rfl)|(rw [hS])|rfl|skip))
theorem C6 {l:List Tok} {k:Nat}:tk l (k:Int)=l.getD k Td:=by unfold tk;rw [aX]
def Ge:Con:=Lr (fun (_:St4) (_ _:Int)=>True) (fun s i e=>Tc s i e)
theorem nZ:type_of% @Ge.eq_def:=@Ge.eq_def
noncomputable def ctx_wrong4:Ctx:=⟨tab,lkC [],60,lkB [],[],false⟩
theorem ctx_wrong4_t:ctx_wrong4.τ=tab:=rfl
theorem ctx_wrong4_d:ctx_wrong4.dp=60:=rfl
set_option maxRecDepth 100000 in
theorem good_wrong4:Hg Try.prog (90,Ge):=by
 refine ⟨Ke Try.func90 (by kernel_rfl) rfl,?_⟩
 have K:Gu Try.prog ctx_wrong4:=Ko G7 Kw (by simp) (by simp)
 obtain ⟨c,hc⟩:∃ c,Try.f90.body=some c:=⟨_,rfl⟩
 refine Kn K Try.func90 hc [.cell 6 125] rfl 12 rfl (fun cvs hpre=>?_)
 change Ge.pre cvs at hpre
 unfold Ge at hpre
 obtain ⟨s,i,e,rfl,-⟩:=Is hpre
 obtain ⟨R,hR⟩:∃ R,Tc s i e=R:=⟨_,rfl⟩
 have hR2:R=⟨i,s.site,s.sites,e⟩:=hR.symm
 simp only [Try.f90,aZ] at hc
 subst hc
 (sym=>simp [hR,hR2,Cs,K4,K5,Cm,ctx_wrong4_t,ctx_wrong4_d,nZ,Za,Zb,Zc,Ze,Zf,Zo,Zp,Zq,Zs,Zu,Zv,Zw,Zx,Qj,Qm,Qn,Qo,Qp,Qq,Qr,Qs,Qu,Qv,Qw,Qx,Q1,Q3,Ja,Jb,Jd,Jj,Jq,Jr,J2,Xa,Xb,Xf,Xj,Xl,Xq,Xr,Xu,Xw,Xx,Xy,X0,X6,X7,X8,X9,Wc,Wf,Wh,Wi,Wj,Wl,Wm,Wn,W2,W6,Yc,Yn,Yo,Yp,Yq,Yr,Ys,Yt,Yu,Yv,Yw,Yx,Vr,V0,V1,V4,V5,V6,Ui,Uj,U5,Ks,Nr];tactic =>
  try simp only [Uq] at *;try simp only [nc2] at *
  try simp (maxSteps:=4000000) only [hR,hR2,Cs,K4,K5,Cm,U6]
  repeat' first|with_reducible assumption|with_reducible apply And.intro|intro _|omega|(rw [Uk];omega)
  all_goals first|rfl|skip)
def He:Con:=Lr (fun (l:Sl Tok) (i:Int) (_:List UInt8)=>l.l.length≤1000000∧0≤i) (fun l i x=>is4 l.l i x)
theorem nQ:type_of% @He.eq_def:=@He.eq_def
noncomputable def ctx_is4:Ctx:=⟨tab,lkC [],60,lkB [],[],false⟩
theorem ctx_is4_t:ctx_is4.τ=tab:=rfl
theorem ctx_is4_d:ctx_is4.dp=60:=rfl
theorem ctx_is4_u:ctx_is4.cuts=[]:=rfl
set_option maxRecDepth 100000 in
theorem good_is4:Hg Try.prog (89,He):=by
 refine ⟨Ke Try.func89 (by kernel_rfl) rfl,?_⟩
 have K:Gu Try.prog ctx_is4:=Ko G7 Kw (by simp) (by simp)
 obtain ⟨c,hc⟩:∃ c,Try.f89.body=some c:=⟨_,rfl⟩
 refine Kn K Try.func89 hc [.tmp 6] rfl 28 rfl (fun cvs hpre=>?_)
 change He.pre cvs at hpre
 unfold He at hpre
 obtain ⟨⟨l⟩,i,x,rfl,hl,hi⟩:=Is hpre
 simp only at hl
 obtain ⟨i,rfl⟩:∃ n:Nat,i=n:=⟨i.toNat,by omega⟩
 clear hpre
 obtain ⟨R,hR⟩:∃ R,is4 l i x=R:=⟨_,rfl⟩
 have hR2:=hR
 unfold is4 at hR2
 rw [C6] at hR2
 rcases Kt i l.length with ⟨hlt,hlb⟩|⟨hlt,hlb⟩
 ·have q1:=K7 Td hlt
  obtain ⟨t,ht⟩:∃ t,l.getD i Td=t:=⟨_,rfl⟩
  rw [ht] at q1 hR2
  rw [hlb,Bool.true_and] at hR2
  obtain ⟨b1,h1⟩:∃ b,(t.kind==5)=b:=⟨_,rfl⟩
  rw [h1] at hR2
  cases b1 with
  | false =>
   rw [Bool.false_and] at hR2
   subst hR2
   simp only [Try.f89,aZ] at hc
   subst hc
   (sym=>simp [hlb,q1,h1,hR,U1,Kb,Kc,Ka,Gl,ctx_is4_t,ctx_is4_d,ctx_is4_u,nQ,Za,Zb,Zc,Zd,Ze,Zf,Zo,Zp,Zq,Zs,Zt,Zv,Zx,Zy,Z6,Qd,Qf,Qp,Qq,Qr,Qs,Qu,Qv,Qw,Qx,Q1,Jd,Jf,Jj,Jq,Jr,J2,Xf,Xj,Xl,Xq,Xr,Xu,Xw,Xx,Xy,X6,X7,X8,X9,Wc,Wf,Wj,Wl,Wm,Wn,Wt,Wx,W1,W7,Yb,Yc,Yd,Ye,Yf,Yg,Yn,Yo,Yp,Yq,Yr,Ys,Yx,Yy,Yz,Y7,Va,Vj,Vk,Vy,Vz,V0,V1,V3,V5,V6,Ui,U5,Kh,K2,Ku];tactic =>
    try simp only [Uq] at *;try simp only [nc2] at *
    try simp (maxSteps:=4000000) only [hlb,q1,h1,hR,U1,Kb,Kc,Ka,Gl,U6]
    repeat' first|with_reducible assumption|with_reducible apply And.intro|intro _|omega|(rw [Uk];omega)
    all_goals first|with_reducible exact okq|omega|rfl|skip)
  | true =>
   rw [Bool.true_and] at hR2
   simp only [Try.f89,aZ] at hc
   subst hc
   (sym=>simp [hlb,q1,h1,hR2,hR,U1,Kb,Kc,Ka,Gl,ctx_is4_t,ctx_is4_d,ctx_is4_u,nQ,Za,Zb,Zc,Zd,Ze,Zf,Zo,Zp,Zq,Zs,Zt,Zv,Zx,Zy,Z6,Qd,Qf,Qp,Qq,Qr,Qs,Qu,Qv,Qw,Qx,Q1,Jd,Jf,Jj,Jq,Jr,J2,Xf,Xj,Xl,Xq,Xr,Xu,Xw,Xx,Xy,X6,X7,X8,X9,Wc,Wf,Wj,Wl,Wm,Wn,Wt,Wv,Wx,Wz,W1,W7,W9,Yb,Yc,Yd,Ye,Yf,Yg,Yn,Yo,Yp,Yq,Yr,Ys,Yx,Yy,Yz,Y7,Va,Vj,Vk,Vy,Vz,V0,V1,V2,V3,V5,V6,Ui,U5,Kh,K2,Ku];tactic =>
    try simp only [Uq] at *;try simp only [nc2] at *
    try simp (maxSteps:=4000000) only [hlb,q1,h1,hR2,hR,U1,Kb,Kc,Ka,Gl,U6]
    repeat' first|with_reducible assumption|with_reducible apply And.intro|intro _|omega|(rw [Uk];omega)
    all_goals first|with_reducible exact okq|omega|rfl|skip)
 ·rw [hlb,Bool.false_and] at hR2
  subst hR2
  simp only [Try.f89,aZ] at hc
  subst hc
  (sym=>simp [hlb,hR,U1,Kb,Kc,Ka,Gl,ctx_is4_t,ctx_is4_d,nQ,Za,Zb,Zc,Zd,Ze,Zf,Zo,Zt,Z6,Qd,Qf,Qp,Qq,Qr,Qs,Qu,Qv,Qw,Qx,Q1,Jd,Jj,Jq,Jr,J2,Xf,Xj,Xl,Xq,Xr,Xu,Xw,Xx,Xy,X6,X7,X8,X9,Wc,Wf,Wj,Wl,Wm,Wn,Wt,Wx,Yc,Yd,Ye,Yf,Yg,Yn,Yo,Yp,Yq,Yr,Ys,Yx,Yy,Yz,Va,Vk,Vz,V1,V3,V5,V6,U5,Kh,K2,Ku])
def Ps:Con:=L9 (fun (_:Tok)=>True) (fun t=>base4 t)
noncomputable def ctx_base4:Ctx:=⟨tab,lkC [],60,lkB [],[],false⟩
theorem ctx_base4_t:ctx_base4.τ=tab:=rfl
theorem ctx_base4_d:ctx_base4.dp=60:=rfl
theorem ctx_base4_u:ctx_base4.cuts=[]:=rfl
set_option maxRecDepth 100000 in
theorem good_base4:Hg Try.prog (93,Ps):=by
 refine ⟨Ke Try.func93 (by kernel_rfl) rfl,?_⟩
 have K:Gu Try.prog ctx_base4:=Ko G7 Kw (by simp) (by simp)
 obtain ⟨c,hc⟩:∃ c,Try.f93.body=some c:=⟨_,rfl⟩
 refine Kn K Try.func93 hc [.tmp 2] rfl 16 rfl (fun cvs hpre=>?_)
 change Ps.pre cvs at hpre
 unfold Ps at hpre
 obtain ⟨t,rfl,-⟩:=Mt hpre
 clear hpre
 obtain ⟨R,hR⟩:∃ R,base4 t=R:=⟨_,rfl⟩
 have hR2:=hR
 unfold base4 at hR2
 simp only [Try.f93,aZ] at hc
 subst hc
 (sym=>simp [hR,U1,Kb,Kc,Ka,Gl,ctx_base4_t,ctx_base4_d,ctx_base4_u,Ps.eq_def,Za,Zb,Zc,Ze,Zf,Zg,Zo,Zp,Zq,Zs,Zu,Zv,Zx,Qd,Qf,Qn,Qo,Qp,Qq,Qr,Qs,Qu,Qv,Qw,Qx,Q1,Ja,Jb,Jd,Jf,Jj,Jq,Jr,J2,Xb,Xd,Xi,Xj,Xl,Xm,Xn,Xq,Xr,Xu,Xw,Xx,Xy,X6,X7,X8,X9,Wc,Wf,Wg,Wh,Wi,Wj,Wl,Wm,Wn,Wt,Wv,Wx,Wz,W6,Yc,Yn,Yo,Yp,Yq,Yr,Ys,Vj,Vl,Vn,Vz,V0,V1,V5,V6,Ui,U5,Kh,Ku];tactic =>
  try simp only [Uq] at *;try simp only [nc2] at *
  try simp (maxSteps:=4000000) only [hR,U1,Kb,Kc,Ka,Gl,U6]
  repeat' first|with_reducible assumption|with_reducible apply And.intro|intro _|omega|(rw [Uk];omega)
  all_goals first|with_reducible exact okq|(rw [←hR2];clear hR2 hR K;simp_all;done)|(symm;rw [←hR2];clear hR2 hR K;simp_all;done)|skip)
def Gt:Con:=Lr (fun (l:Sl Tok) (s:St4) (_:List UInt8)=>l.l.length≤1000000∧0≤s.at_∧s.at_≤2000000) (fun l s x=>S1 l.l s x)
theorem nJ:type_of% @Gt.eq_def:=@Gt.eq_def
noncomputable def Ff:Ctx:=⟨tab,lkC [(89,He),(90,Ge)],60,lkB [],[],false⟩
theorem ctx_needs4_t:Ff.τ=tab:=rfl
theorem ctx_needs4_c:Ff.Γ=lkC [(89,He),(90,Ge)]:=rfl
theorem ctx_needs4_d:Ff.dp=60:=rfl
theorem ctx_needs4_b:Ff.Δ=lkB []:=rfl
theorem ctx_needs4_u:Ff.cuts=[]:=rfl
theorem ctx_needs4_w:Ff.wr=false:=rfl
set_option maxRecDepth 100000 in
theorem good_needs4:Hg Try.prog (95,Gt):=by
 refine ⟨Ke Try.func95 (by kernel_rfl) rfl,?_⟩
 have K:Gu Try.prog Ff:=Ko G7 Kw (by
  intro p hp
  simp only [bQ,bZ,or_false] at hp
  rcases hp with rfl|rfl
  ·exact good_is4
  ·exact good_wrong4) (by simp)
 obtain ⟨c,hc⟩:∃ c,Try.f95.body=some c:=⟨_,rfl⟩
 refine Kn K Try.func95 hc [.cell 6 125] rfl 26 rfl (fun cvs hpre=>?_)
 change Gt.pre cvs at hpre
 unfold Gt at hpre
 obtain ⟨⟨l⟩,s,x,rfl,hl,hs0,hs1⟩:=Is hpre
 simp only at hl
 clear hpre
 obtain ⟨R,hR⟩:∃ R,S1 l s x=R:=⟨_,rfl⟩
 rcases D5 l s x with ⟨h1,h2⟩|⟨h1,h2⟩|⟨h1,h2,h3⟩
 ·have hR2:R=s:=hR.symm.trans h2
  have he:(s.e != 0)=true:=bne_iff_ne.2 h1
  simp only [Try.f95,aZ] at hc
  subst hc
  (sym=>simp [he,hR,hR2,Cs,K4,K5,Cm,ctx_needs4_t,ctx_needs4_d,ctx_needs4_u,nJ,Za,Zb,Zc,Ze,Zf,Zo,Zp,Zq,Zs,Zu,Zv,Zw,Zx,Qd,Qf,Qj,Qm,Qn,Qo,Qp,Qq,Qr,Qs,Qu,Qv,Qw,Qx,Q1,Q3,Ja,Jb,Jd,Jf,Jj,Jq,Jr,J2,Xa,Xb,Xf,Xj,Xl,Xm,Xq,Xr,Xu,Xx,Xy,X0,X6,X7,X8,X9,Wc,Wf,Wh,Wi,Wj,Wl,Wm,Wn,Wt,Wx,W6,Ye,Yn,Yo,Yp,Yq,Yr,Ys,Yt,Yu,Yv,Yw,Yy,Yz,Va,Vj,Vy,Vz,V0,V1,V4,V5,V6,Ui,Uj,U5,K9,Kh,Ks,K2,Ku,Nr])
 ·have hR2:R=Tc s s.at_ 2:=hR.symm.trans h2
  have he:(s.e != 0)=false:=by rw [h1];rfl
  have hi:is4 l s.at_ x=false:=by
   cases hb:is4 l s.at_ x with
   | false=>rfl
   | true =>
    unfold S1 at h2
    rw [if_neg (by simpa using h1),hb,if_neg (by simp)] at h2
    have:=congrArg St4.e h2
    rw [show (Ld s).e=s.e from rfl,h1] at this
    exact absurd this (by show ¬ (0:Int)=2;decide)
  simp only [Try.f95,aZ] at hc
  subst hc
  (sym=>simp [he,hi,hR,hR2,Cs,K4,K5,Cm,ctx_needs4_t,ctx_needs4_c,ctx_needs4_d,ctx_needs4_b,ctx_needs4_u,nQ,nJ,nZ,Za,Zb,Zc,Ze,Zf,Zo,Zp,Zq,Zs,Zu,Zv,Zw,Zx,Qb,Qd,Qe,Qf,Qg,Qh,Qj,Qm,Qn,Qo,Qp,Qq,Qr,Qs,Qu,Qv,Qw,Qx,Q1,Q3,Q8,Ja,Jb,Jc,Jd,Je,Jf,Jj,Jq,Jr,J2,Xa,Xb,Xf,Xi,Xj,Xl,Xm,Xq,Xr,Xu,Xw,Xx,Xy,X0,X6,X7,X8,X9,Wb,Wc,Wd,Wf,Wh,Wi,Wj,Wl,Wm,Wn,Wt,Wu,Wx,Wy,W6,Yd,Ye,Yn,Yo,Yp,Yq,Yr,Ys,Yt,Yu,Yv,Yw,Yx,Yy,Yz,Y2,Y3,Y4,Y6,Va,Vj,Vy,Vz,V0,V1,V2,V4,V5,V6,Ui,Uj,U5,K9,Kh,Ks,K2,Ku,Nr];tactic =>
   try simp only [Uq] at *;try simp only [nc2] at *
   try simp (maxSteps:=4000000) only [he,hi,hR,hR2,Cs,K4,K5,Cm,U6]
   repeat' first|with_reducible assumption|with_reducible apply And.intro|intro _|omega|(rw [Uk];omega)
   all_goals first|with_reducible exact okq|omega|rfl|skip)
 ·have hR2:R=⟨s.at_+1,s.site,s.sites,s.e⟩:=hR.symm.trans h3
  have he:(s.e != 0)=false:=by rw [h1];rfl
  simp only [Try.f95,aZ] at hc
  subst hc
  (sym=>simp [he,h2,hR,hR2,Cs,K4,K5,Cm,ctx_needs4_t,ctx_needs4_c,ctx_needs4_d,ctx_needs4_b,ctx_needs4_u,ctx_needs4_w,nQ,nJ,nZ,Za,Zb,Zc,Ze,Zf,Zo,Zp,Zq,Zs,Zu,Zv,Zw,Zx,Qb,Qd,Qe,Qf,Qg,Qh,Qj,Qm,Qn,Qo,Qp,Qq,Qr,Qs,Qu,Qv,Qw,Qx,Q1,Q3,Q8,Ja,Jb,Jc,Jd,Je,Jf,Jj,Jq,Jr,J2,Xa,Xb,Xf,Xi,Xj,Xl,Xm,Xq,Xr,Xu,Xw,Xx,Xy,X0,X6,X7,X8,X9,Wb,Wc,Wd,Wf,Wh,Wi,Wj,Wl,Wm,Wn,Wt,Wu,Wx,Wy,W2,W6,Yd,Ye,Yn,Yo,Yp,Yq,Yr,Ys,Yt,Yu,Yv,Yw,Yx,Yy,Yz,Y2,Y3,Y4,Y5,Va,Vj,Vr,Vz,V0,V1,V2,V4,V5,V6,Ui,Uj,U5,K9,Kh,Ks,K2,Ku,Nr];tactic =>
   try simp only [Uq] at *;try simp only [nc2] at *
   try simp (maxSteps:=4000000) only [he,h2,hR,hR2,Cs,K4,K5,Cm,U6]
   repeat' first|with_reducible assumption|with_reducible apply And.intro|intro _|omega|(rw [Uk];omega)
   all_goals first|with_reducible exact okq|omega|rfl|skip)
def Mm:Con:=Ms (fun (k:Int) (s:List UInt8)=>(k=6∨k=7)∧s.length≤9223372036854775807) (fun k s=>S3 k s)
noncomputable def Ah:Ctx:=⟨tab,lkC [(40,Kj),(42,Kd)],60,lkB [],[],false⟩
theorem ctx_label3_t:Ah.τ=tab:=rfl
theorem ctx_label3_c:Ah.Γ=lkC [(40,Kj),(42,Kd)]:=rfl
theorem ctx_label3_d:Ah.dp=60:=rfl
theorem ctx_label3_b:Ah.Δ=lkB []:=rfl
theorem ctx_label3_u:Ah.cuts=[]:=rfl
set_option maxRecDepth 100000 in
theorem good_label3:Hg Try.prog (101,Mm):=by
 refine ⟨Ke Try.func101 (by kernel_rfl) rfl,?_⟩
 have K:Gu Try.prog Ah:=Ko G7 Kw (by
  intro p hp
  simp only [bQ,bZ,or_false] at hp
  rcases hp with rfl|rfl
  ·exact Fx
  ·exact Cr) (by simp)
 obtain ⟨c,hc⟩:∃ c,Try.f101.body=some c:=⟨_,rfl⟩
 refine Kn K Try.func101 hc [.tmp 4] rfl 19 rfl (fun cvs hpre=>?_)
 change Mm.pre cvs at hpre
 unfold Mm at hpre
 obtain ⟨k,s,rfl,hk,hs⟩:=Bb hpre
 clear hpre
 obtain ⟨R,hR⟩:∃ R,S3 k s=R:=⟨_,rfl⟩
 have hR2:=hR
 unfold S3 at hR2
 obtain ⟨w,hw⟩:∃ w,Lf s=w:=⟨_,rfl⟩
 obtain ⟨g,hg⟩:∃ g,A7 s=g:=⟨_,rfl⟩
 rw [hw,hg] at hR2
 rcases hk with rfl|rfl
 ·rw [if_neg (by decide)] at hR2
  simp only [Try.f101,aZ] at hc
  subst hc
  (sym=>simp [hw,hR,ctx_label3_t,ctx_label3_c,ctx_label3_d,ctx_label3_b,ctx_label3_u,lV,lY,Mm.eq_def,Za,Zb,Zc,Zd,Ze,Zf,Zt,Qb,Qd,Qf,Qg,Qh,Qp,Qq,Qr,Qs,Qu,Qv,Qw,Qx,Q1,Q8,Jc,Jd,Je,Jf,Jj,Jq,Jr,J2,Xd,Xe,Xj,Xl,Xq,Xr,Xu,Xw,Xx,X6,X7,X8,X9,Wb,Wc,Wd,Wf,Wj,Wl,Wm,Wn,Wt,Wx,Yc,Yd,Ye,Yn,Yo,Yp,Yq,Yr,Ys,Yx,Yy,Y3,Vj,Vk,Vy,Vz,V0,V1,V5,V6,U5,Kh];tactic =>
   try simp only [Uq] at *;try simp only [nc2] at *
   try simp (maxSteps:=4000000) only [hw,hR,U6]
   repeat' first|with_reducible assumption|with_reducible apply And.intro|intro _|omega|(rw [Uk];omega)
   all_goals first|omega|(rw [←hR2];simp_all;done)|(symm;rw [←hR2];simp_all;done)|skip)
 ·rw [if_pos rfl] at hR2
  simp only [Try.f101,aZ] at hc
  subst hc
  (sym=>simp [hg,hR,ctx_label3_t,ctx_label3_c,ctx_label3_d,ctx_label3_b,ctx_label3_u,lV,lY,Mm.eq_def,Za,Zb,Zc,Zd,Ze,Zf,Zt,Qb,Qd,Qf,Qg,Qh,Qp,Qq,Qr,Qs,Qu,Qv,Qw,Qx,Q1,Q8,Jc,Jd,Je,Jf,Jj,Jq,Jr,J2,Xd,Xe,Xj,Xl,Xq,Xr,Xu,Xw,Xx,X6,X7,X8,X9,Wb,Wc,Wd,Wf,Wj,Wl,Wm,Wn,Wt,Wx,Yc,Yd,Ye,Yn,Yo,Yp,Yq,Yr,Ys,Yx,Yy,Y3,Vj,Vk,Vy,Vz,V0,V1,V5,V6,U5,Kh];tactic =>
   try simp only [Uq] at *;try simp only [nc2] at *
   try simp (maxSteps:=4000000) only [hg,hR,U6]
   repeat' first|with_reducible assumption|with_reducible apply And.intro|intro _|omega|(rw [Uk];omega)
   all_goals first|omega|(rw [←hR2];simp_all;done)|(symm;rw [←hR2];simp_all;done)|skip)
def tsum (types:List (List Node)):Nat:=(types.map List.length).sum
theorem tsum_at {types:List (List Node)} {k:Nat} (h:k<types.length):(types.getD k []).length≤tsum types:=by
 unfold tsum
 induction types generalizing k with
 | nil=>simp at h
 | cons t types ih =>
  rw [List.map_cons,List.sum_cons]
  cases k with
  | zero=>simp
  | succ k =>
   have:=ih (k:=k) (by simpa using h)
   rw [List.getD_cons_succ]
   omega
def RowOk (labels:List (List UInt8)) (types:List (List Node)):Prop:=labels.length=types.length∧1≤types.length∧types.length≤50∧tsum types≤1000000∧(∀ t∈types,t≠[])∧∀ x∈labels,x.length≤9223372036854775807
def Me:Con:=Kl (fun (k:Int) (labels:Sl (List UInt8)) (types:Sl (Sl Node))=>(k=6∨k=7)∧RowOk labels.l (types.l.map Sl.l)) (fun k labels types=>((⟨(row3 k labels.l (types.l.map Sl.l)).1⟩,(row3 k labels.l (types.l.map Sl.l)).2):Sl Node×Int))
theorem oJ:type_of% @Me.eq_def:=@Me.eq_def
theorem getD_mapSl {types:List (Sl Node)} {k:Nat}:(types.map Sl.l).getD k []=(types.getD k ⟨[]⟩).l:=by
 rw [aY,aY,List.getElem?_map]
 cases types[k]?<;>rfl
noncomputable def ctx_Row3:Ctx:=⟨tab,lkC [(101,Mm)],60,lkB [],[],false⟩
theorem Nb:ctx_Row3.τ=tab:=rfl
theorem L6:ctx_Row3.Γ=lkC [(101,Mm)]:=rfl
theorem L5:ctx_Row3.dp=60:=rfl
theorem L7:ctx_Row3.Δ=lkB []:=rfl
theorem ctx_Row3_u:ctx_Row3.cuts=[]:=rfl
theorem Bq:ctx_Row3.wr=false:=rfl
set_option maxRecDepth 100000 in
theorem good_Row3:Hg Try.prog (100,Me):=by
 refine ⟨Ke Try.func100 (by kernel_rfl) rfl,?_⟩
 have K:Gu Try.prog ctx_Row3:=Ko G7 Kw (by
  intro p hp
  simp only [bQ,bZ,or_false] at hp
  rcases hp with rfl
  ·exact good_label3) (by simp)
 obtain ⟨c,hc⟩:∃ c,Try.f100.body=some c:=⟨_,rfl⟩
 refine Kn K Try.func100 hc [.tmp 6,.tmp 7] rfl 114 rfl (fun cvs hpre=>?_)
 change Me.pre cvs at hpre
 unfold Me at hpre
 obtain ⟨k,⟨labels⟩,⟨types⟩,rfl,hk,hRow⟩:=El hpre
 simp only at hRow
 obtain ⟨r1,r2,r3,r4,r5,r6⟩:RowOk labels (types.map Sl.l):=hRow
 rw [bV] at r1 r2 r3
 clear hpre
 obtain ⟨⟨R1,R2⟩,hR⟩:∃ R,row3 k labels (types.map Sl.l)=R:=⟨_,rfl⟩
 have hR2:=hR
 unfold row3 at hR2
 rw [bV,if_neg (by omega)] at hR2
 have hleq:((labels.length:Int) != (types.length:Int))=false:=by rw [bne_eq_false_iff_eq];omega
 have h50:ltB 50 (types.length:Int)=false:=by rw [Hm];omega
 have hn0:((types.length:Int)==0)=false:=by rw [aQ];omega
 have hty:∀ j,j<types.length→(types.getD j ⟨[]⟩).l≠[]∧(types.getD j ⟨[]⟩).l.length≤1000000:=fun j hj=>by
  have h1:=tsum_at (types:=types.map Sl.l) (k:=j) (by rw [bV];exact hj)
  rw [getD_mapSl] at h1
  refine ⟨r5 _ ?_,by omega⟩
  rw [List.mem_map]
  exact ⟨_,by simp [hj],rfl⟩
 have hTl:(types.map Sl.l).length=types.length:=bV ..
 have hTg:=fun k=>getD_mapSl (types:=types) (k:=k)
 obtain ⟨T,hT⟩:∃ T,types.map Sl.l=T:=⟨_,rfl⟩
 rw [hT] at hR hR2 hTl hTg
 clear r5 r4
 simp only [Try.f100,aZ] at hc
 subst hc
 refine Gf 7 (of_decide_eq_true (by kernel_rfl)) ?_
 rcases hk with rfl|rfl
 ·(sym=>simp [hleq,h50,hn0,szN,Nb,ctx_Row3_u,oJ,Zb,Zc,Zd,Ze,Zf,Zn,Zo,Zt,Z6,Qd,Qf,Qs,Qu,Qv,Qw,Qx,Jf,Jj,Jq,Jr,Js,Jt,Jv,Jw,Jy,Jz,J6,J7,Xh,Xi,Xj,Xl,Xm,Xn,Xo,Xr,Xu,Xw,Xx,Xy,X6,X7,X8,X9,Wc,Wf,Wj,Wl,Wm,Wn,Wo,Wp,Wt,Wx,Yc,Yf,Yg,Yl,Ym,Yn,Yo,Yr,Ys,Yt,Yu,Yv,Yw,Yx,Yz,Y9,Va,Vj,Vk,Vm,Vz,V0,V1,V3,V5,V6,U5,K9,Kh,Gg,K6,K1,Nw];tactic =>
   try simp only [Uq] at *;try simp only [nc2] at *
   try simp (maxSteps:=4000000) only [hleq,h50,hn0,szN,U6]
   repeat' first|with_reducible assumption|with_reducible apply And.intro|intro _|omega|(rw [Uk];omega)
   all_goals try with_reducible exact okq
   all_goals try exact Or.inr trivial
   refine Kk [6,7,42,43,44,45,46,47,48,49,50,51,52,53,54] (fun j:Nat=>[(8,.d (.int .i64 j))]) (fun j:Nat=>[]) (fun j:Nat=>j≤types.length∧∀ m,m<j→S3 6 (labels.getD m [])=true) (fun j:Nat=>types.length-j) 0 ?_ ?_ ?_
   ·simp
   ·exact wkq
   rintro j ⟨hj,hno⟩
   rcases Kt j types.length with ⟨hjt,hjb⟩|⟨hjt,hjb⟩
   ·have q1:=K7 ([]:List UInt8) (show j<labels.length by omega)
    have hxl:=r6 (labels.getD j []) (by simp [show j<labels.length by omega])
    have hst:S3 6 (labels.getD j [])=true→∀ m,m<j+1→S3 6 (labels.getD m [])=true:=fun h=>A1 hno h
    obtain ⟨Q,hQ⟩:∃ Q,(∀ m,m<j+1→S3 6 (labels.getD m [])=true)=Q:=⟨_,rfl⟩
    rw [hQ] at hst
    have hbad:S3 6 (labels.getD j [])=false→((List.range types.length).all fun k=>S3 6 (labels.getD k []))=false:=fun h=>Ay j hjt h
    obtain ⟨x,hx⟩:∃ x,labels.getD j []=x:=⟨_,rfl⟩
    rw [hx] at q1 hxl hst hbad
    cases hL:S3 6 x with
    | true =>
     have hq:=hst hL
     (sym=>simp [hjb,q1,hL,szN,Nb,L6,L5,L7,Bq,Mm.eq_def,Zb,Zc,Ze,Zf,Zg,Zo,Zp,Zq,Zv,Zy,Z6,Qb,Qd,Qe,Qf,Qg,Qh,Qs,Qu,Qv,Qw,Qx,Q1,Q8,Jc,Je,Jl,Jm,Jn,Js,Jt,Jv,Jw,Jy,Jz,J2,Xe,Xi,Xj,Xl,Xm,Xn,Xr,Xu,Xw,Xx,Xy,X6,X7,X8,X9,Wb,Wd,Wf,Wo,Wp,Wr,Wt,Wu,Wx,Wy,W1,W9,Yd,Ye,Yf,Yg,Yl,Ym,Yn,Yo,Yx,Yy,Y2,Y3,Y5,Y7,Y9,Va,Vj,Vy,Vz,V0,V1,V2,V3,V5,V6,Ui,U5,K9,Kh,Gg,K6,K1,Nw];tactic =>
      try simp only [Uq] at *;try simp only [nc2] at *
      try simp (maxSteps:=4000000) only [hjb,q1,hL,szN,U6]
      repeat' first|with_reducible assumption|with_reducible apply And.intro|intro _|omega|(rw [Uk];omega)
      all_goals first|with_reducible exact okq|omega|exact Or.inr trivial|exact ⟨j+1,wkq,by omega,Eq.mpr hQ hq,by omega⟩|skip)
    | false =>
     rw [hbad hL,if_pos rfl] at hR2
     injection hR2 with e1 e2
     subst e1 e2
     (sym=>simp [hjb,q1,hL,hR,hT,szN,Nb,L6,L5,L7,Mm.eq_def,Zb,Zc,Ze,Zf,Zg,Zn,Zo,Zp,Zq,Zv,Zy,Z6,Qb,Qd,Qe,Qf,Qg,Qh,Qp,Qq,Qr,Qs,Qu,Qv,Qw,Qx,Q1,Q8,Jc,Jd,Je,Jl,Jm,Jn,Js,Jt,Jv,Jw,Jy,Jz,J2,J3,Xe,Xi,Xj,Xl,Xm,Xn,Xq,Xr,Xu,Xw,Xx,Xy,X6,X7,X8,X9,Wb,Wd,Wf,Wo,Wp,Wr,Wt,Wu,Wx,Wy,W1,W9,Yd,Ye,Yf,Yg,Yl,Ym,Yn,Yo,Yx,Yy,Y2,Y3,Y6,Y7,Y9,Va,Vj,Vm,Vy,V0,V1,V2,V3,V5,V6,Ui,U5,K9,Kh,Gg,K6,K1,Nw];tactic =>
      try simp only [Uq] at *;try simp only [nc2] at *
      try simp (maxSteps:=4000000) only [hjb,q1,hL,hR,hT,szN,U6]
      repeat' first|with_reducible assumption|with_reducible apply And.intro|intro _|omega|(rw [Uk];omega)
      all_goals first|with_reducible exact okq|omega|rfl|trivial|exact Or.inr trivial|skip)
   ·rw [D2 (fun m hm=>hno m (by omega)),if_neg (by simp)] at hR2
    (sym=>simp [hjb,szN,Nb,L5,Zb,Zc,Ze,Zf,Zg,Zo,Zr,Z1,Z2,Z6,Qd,Qf,Qj,Qn,Qs,Qu,Qv,Qw,Qx,Q0,Q3,Q4,Q5,Q6,Q7,Q9,Ja,Jb,Jl,Jm,Jn,Js,Jt,Jv,Jw,Jy,Jz,J0,J1,J2,Xb,Xj,Xl,Xm,Xn,Xo,Xp,Xr,Xu,Xw,Xx,Xy,X0,X1,X6,X7,X8,X9,Wg,Wh,Wi,Wj,Wl,Wm,Wn,Wo,Wp,Wr,Wt,Wx,W2,W6,Yf,Yg,Ym,Yn,Yo,Yp,Yq,Y9,Va,Vi,Vj,Vl,Vn,Vo,Vr,Vz,V0,V1,V2,V3,V5,V6,U5,K9,Kh,Gg,K6,K1,Nw];tactic =>
     try simp only [Uq] at *;try simp only [nc2] at *
     try simp (maxSteps:=4000000) only [hjb,szN,U6]
     repeat' first|with_reducible assumption|with_reducible apply And.intro|intro _|omega|(rw [Uk];omega)
     all_goals try with_reducible exact okq
     refine Kk [6,7,12,13,14,60,61,62,63,64,65,66,67,68,69,70,71,72,73,74,75,76,77,78,79,80,81,82,83,84,85,86,87,88,89,90,91,92,93,94,95,96,97,98,99,100,101,102,103,104,105,106,107,108,109,110,111,112] (fun p:Nat×List UInt8×List Node=>[(9,.sl 59 (p.2.2.map (enc:Node→D)).length),(10,.d (.str p.2.1)),(11,.d (.int .i64 p.1))]) (fun p:Nat×List UInt8×List Node=>[(59,.row 3 (p.2.2.map enc) 0)]) (fun p:Nat×List UInt8×List Node=>p.1≤types.length∧rowL labels T (types.length-p.1) p.2.1 p.2.2=(R1,R2)∧p.2.2.length≤1+1000000*p.1) (fun p:Nat×List UInt8×List Node=>types.length-p.1) (0,[],[⟨6,[],types.length⟩]) ?_ ?_ ?_
     ·exact ⟨by simp,hR2,by simp⟩
     ·((try simp only [Ul,U0,Ux,U8,upd,U7,Ki,K0,Nat.reduceDiv,Nat.reduceMod,Nat.reduceMul,Nat.reduceAdd,Nat.reduceEqDiff,aV,aW,if_true,if_false,reduceIte]);(first|refine Wk.of_fl ?_|skip);simp only [Wk,wkK,Ga,wkT,wk1,AV.kept,keptAll,wkO,lk,Uw,and_true,true_and,and_self,Nat.reduceEqDiff,Nat.reduceLeDiff,if_true,if_false,reduceIte,reduceCtorEq,Option.isSome,false_implies];try simp [Wk,wkK,wkT,wk1,AV.kept,keptAll,wkO,lk,Uw,Ur])
     rintro ⟨i,done,out⟩ ⟨h1,h2,h3⟩
     simp only at h1 h2 h3
     have hol:(out.map (enc:Node→D)).length=out.length:=bV ..
     rcases Kt i types.length with ⟨hit,hib⟩|⟨hit,hib⟩
     ·rw [show types.length-i=(types.length-i-1)+1 by omega,rowL,hTl] at h2
      (sym=>simp [hib,szN,Nb,Zb,Zc,Ze,Zf,Zo,Z6,Qd,Qf,Qs,Qu,Qv,Qw,Qx,Jb,Jl,Jm,Jn,Js,Jt,Jv,Jw,Jx,Jy,Jz,Xi,Xj,Xl,Xm,Xn,Xo,Xr,Xu,Xw,Xx,Xy,X6,X7,X8,X9,Wo,Wp,Wr,Wt,Wx,Yf,Yg,Ym,Yn,Yo,Yp,Y9,Va,Vj,Vy,V0,V1,V2,V3,V5,V6,U5,K9,Kh,Gg,K6,K1,Nw];tactic =>
       try simp only [Uq] at *;try simp only [nc2] at *
       try simp (maxSteps:=4000000) only [hib,szN,U6]
       repeat' first|with_reducible assumption|with_reducible apply And.intro|intro _|omega|(rw [Uk];omega)
       all_goals try with_reducible exact okq
       refine Kk [66,67,68,69,70,71,72,73,74,75,76,77,78,79,80,81,82,83,84,85,86,87,88,89,90,91,92,93] (fun m:Nat=>[(12,.d (.int .i64 (S0 labels done m))),(13,.d (.int .i64 m))]) (fun m:Nat=>[]) (fun m:Nat=>m≤types.length) (fun m:Nat=>types.length-m) 0 ?_ ?_ ?_
       ·omega
       ·((try simp only [Ul,U0,Ux,U8,upd,U7,Ki,K0,Nat.reduceDiv,Nat.reduceMod,Nat.reduceMul,Nat.reduceAdd,Nat.reduceEqDiff,aV,aW,if_true,if_false,reduceIte]);(first|refine Wk.of_fl ?_|skip);simp only [Wk,wkK,Ga,wkT,wk1,AV.kept,keptAll,wkO,lk,Uw,and_true,true_and,and_self,Nat.reduceEqDiff,Nat.reduceLeDiff,if_true,if_false,reduceIte,reduceCtorEq,Option.isSome,false_implies];try simp [Wk,wkK,wkT,wk1,AV.kept,keptAll,wkO,lk,Uw,S0])
       rintro m hm
       have hsp:=best3_spec labels done m
       rcases Kt m types.length with ⟨hmt,hmb⟩|⟨hmt,hmb⟩
       ·have q1:=K7 ([]:List UInt8) (show m<labels.length by omega)
        have hS:S0 labels done (m+1)=cond (Op.bytesLess done (labels.getD m [])&&(ltB (S0 labels done m) 0||Op.bytesLess (labels.getD m []) (labels.getD (S0 labels done m).toNat []))) (m:Int) (S0 labels done m):=rfl
        have hB:S0 labels done m=-1∨(0≤S0 labels done m∧S0 labels done m<m):=by
         rcases hsp with ⟨h,_⟩|⟨b,hb,he,_⟩
         ·exact .inl h
         ·exact .inr ⟨by omega,by omega⟩
        clear hsp
        obtain ⟨b,hb⟩:∃ b,S0 labels done m=b:=⟨_,rfl⟩
        obtain ⟨b',hb'⟩:∃ b,S0 labels done (m+1)=b:=⟨_,rfl⟩
        rw [hb] at hB hS
        rw [hb'] at hS
        rw [hb]
        obtain ⟨x,hx⟩:∃ x,labels.getD m []=x:=⟨_,rfl⟩
        rw [hx] at q1 hS
        have hg:=less_not x done
        cases hl1:Op.bytesLess done x with
        | false =>
         rw [hl1,Bool.false_and,cond_false] at hS
         rw [hl1,Bool.not_false] at hg
         (sym=>simp [hmb,q1,hg,Nb,L6,L7,Bq,Mm.eq_def,Zb,Zc,Zd,Ze,Zf,Zg,Zh,Zi,Zj,Zk,Zl,Zm,Zo,Zp,Zq,Zt,Zv,Zy,Z6,Qd,Qf,Qs,Qt,Qu,Qv,Qw,Qx,Qy,Qz,Jl,Jm,Jn,Js,Jt,Jv,Jw,Jy,Jz,Xe,Xi,Xj,Xk,Xl,Xm,Xn,Xr,Xs,Xt,Xu,Xv,Xw,Xx,Xy,X2,X6,X7,X8,X9,Wh,Wi,Wm,Wn,Wo,Wp,Wr,Wt,Wv,Wx,Wz,W1,W9,Ye,Yf,Yg,Yl,Ym,Yn,Yo,Y5,Y7,Y9,Va,Vj,Vk,Vy,Vz,V0,V1,V2,V3,V4,V5,V6,V8,Ui,U5,K9,Kh,Gg,K6,K1,Nw];tactic =>
          try simp only [Uq] at *;try simp only [nc2] at *
          try simp (maxSteps:=4000000) only [hmb,q1,hg,U6]
          repeat' first|with_reducible assumption|with_reducible apply And.intro|intro _|omega|(rw [Uk];omega)
          all_goals first|with_reducible exact okq|omega|exact ⟨m+1,by rw [hb',hS];exact wkq,by omega,by omega⟩|skip)
        | true =>
         rw [hl1,Bool.true_and] at hS
         rw [hl1,Bool.not_true] at hg
         rcases hB with hB|⟨hB0,hBk⟩
         ·subst hB
          have hS1:b'=m:=hS
          (sym=>simp [hmb,q1,hg,Nb,L6,L7,Bq,Mm.eq_def,Zb,Zc,Zd,Ze,Zf,Zg,Zh,Zi,Zj,Zk,Zl,Zm,Zo,Zp,Zq,Zt,Zv,Zy,Z6,Qd,Qf,Qs,Qt,Qu,Qv,Qw,Qx,Qy,Qz,Jl,Jm,Jn,Js,Jt,Jv,Jw,Jy,Jz,Xe,Xi,Xj,Xk,Xl,Xm,Xn,Xr,Xs,Xt,Xu,Xv,Xw,Xx,Xy,X2,X6,X7,X8,X9,Wh,Wi,Wm,Wn,Wo,Wp,Wr,Wt,Wv,Wx,Wz,W1,W9,Ye,Yf,Yg,Yl,Ym,Yn,Yo,Y6,Y7,Y9,Va,Vj,Vk,Vy,Vz,V0,V1,V2,V3,V4,V5,V6,V8,Ui,U5,K9,Kh,Gg,K6,K1,Nw];tactic =>
           try simp only [Uq] at *;try simp only [nc2] at *
           try simp (maxSteps:=4000000) only [hmb,q1,hg,U6]
           repeat' first|with_reducible assumption|with_reducible apply And.intro|intro _|omega|(rw [Uk];omega)
           all_goals first|with_reducible exact okq|omega|exact ⟨m+1,by rw [hb',hS1];exact wkq,by omega,by omega⟩|skip)
         ·obtain ⟨p,rfl⟩:=Int.eq_ofNat_of_zero_le hB0
          have q3:=K7 ([]:List UInt8) (show p<labels.length by omega)
          have hp0:ltB (p:Int) 0=false:=by rw [Hm];omega
          rw [aX] at hS
          obtain ⟨y,hy⟩:∃ y,labels.getD p []=y:=⟨_,rfl⟩
          rw [hy] at q3 hS
          rw [hp0,Bool.false_or] at hS
          cases hlss:Op.bytesLess x y with
          | true =>
           rw [hlss,cond_true] at hS
           (sym=>simp [hmb,q1,hg,q3,hp0,hlss,Nb,L6,L7,Bq,Mm.eq_def,Zb,Zc,Zd,Ze,Zf,Zg,Zh,Zi,Zj,Zk,Zl,Zm,Zo,Zp,Zq,Zt,Zv,Zy,Z6,Qd,Qf,Qs,Qt,Qu,Qv,Qw,Qx,Qy,Qz,Jl,Jm,Jn,Js,Jt,Jv,Jw,Jy,Jz,Xe,Xi,Xj,Xk,Xl,Xm,Xn,Xr,Xs,Xt,Xu,Xv,Xw,Xx,Xy,X2,X6,X7,X8,X9,Wh,Wi,Wm,Wn,Wo,Wp,Wr,Wt,Wv,Wx,Wz,W1,W9,Ye,Yf,Yg,Yl,Ym,Yn,Yo,Y6,Y7,Y9,Va,Vj,Vk,Vy,Vz,V0,V1,V2,V3,V4,V5,V6,V8,Ui,U5,K9,Kh,Gg,K6,K1,Nw];tactic =>
            try simp only [Uq] at *;try simp only [nc2] at *
            try simp (maxSteps:=4000000) only [hmb,q1,hg,q3,hp0,hlss,U6]
            repeat' first|with_reducible assumption|with_reducible apply And.intro|intro _|omega|(rw [Uk];omega)
            all_goals first|with_reducible exact okq|omega|exact ⟨m+1,by rw [hb',hS];exact wkq,by omega,by omega⟩|skip)
          | false =>
           rw [hlss,cond_false] at hS
           (sym=>simp [hmb,q1,hg,q3,hp0,hlss,Nb,L6,L7,Bq,Mm.eq_def,Zb,Zc,Zd,Ze,Zf,Zg,Zh,Zi,Zj,Zk,Zl,Zm,Zo,Zp,Zq,Zt,Zv,Zy,Z6,Qd,Qf,Qs,Qt,Qu,Qv,Qw,Qx,Qy,Qz,Jl,Jm,Jn,Js,Jt,Jv,Jw,Jy,Jz,Xe,Xi,Xj,Xk,Xl,Xm,Xn,Xr,Xs,Xt,Xu,Xv,Xw,Xx,Xy,X2,X6,X7,X8,X9,Wh,Wi,Wm,Wn,Wo,Wp,Wr,Wt,Wv,Wx,Wz,W1,W9,Ye,Yf,Yg,Yl,Ym,Yn,Yo,Y6,Y7,Y9,Va,Vj,Vk,Vy,Vz,V0,V1,V2,V3,V4,V5,V6,V8,Ui,U5,K9,Kh,Gg,K6,K1,Nw];tactic =>
            try simp only [Uq] at *;try simp only [nc2] at *
            try simp (maxSteps:=4000000) only [hmb,q1,hg,q3,hp0,hlss,U6]
            repeat' first|with_reducible assumption|with_reducible apply And.intro|intro _|omega|(rw [Uk];omega)
            all_goals first|with_reducible exact okq|omega|exact ⟨m+1,by rw [hb',hS];exact wkq,by omega,by omega⟩|skip)
       ·have hme:m=types.length:=by omega
        rw [hme] at hsp hmb
        rw [hme]
        rcases hsp with ⟨hb,_⟩|⟨b,hbt,hb,_⟩
        ·rw [hb] at h2
         rw [if_pos (by decide)] at h2
         injection h2 with e1 e2
         subst e1 e2
         (sym=>simp [hmb,hb,hR,hT,szN,Nb,L5,Bq,Zb,Zc,Ze,Zf,Zg,Zn,Zo,Zp,Zq,Zs,Zv,Zw,Zx,Zy,Z4,Z5,Z6,Qd,Qf,Qp,Qq,Qr,Qs,Qu,Qv,Qw,Qx,Q1,Ja,Jb,Jd,Jl,Jm,Jn,Js,Jt,Ju,Jv,Jw,Jx,Jy,Jz,J2,J3,Xi,Xj,Xl,Xm,Xp,Xq,Xr,Xu,Xw,Xx,Xy,Xz,X6,X7,X8,X9,Wm,Wn,Wo,Wp,Wr,Wt,Wx,W1,Yf,Yg,Yl,Ym,Yn,Yo,Yp,Y7,Y9,Va,Vj,Vm,Vz,V0,V1,V2,V3,V5,V6,Ui,Uj,U5,K9,Kh,Gg,K6,K1,Nw];tactic =>
          try simp only [Uq] at *;try simp only [nc2] at *
          try simp (maxSteps:=4000000) only [hmb,hb,hR,hT,szN,U6]
          repeat' first|with_reducible assumption|with_reducible apply And.intro|intro _|omega|(rw [Uk];omega)
          all_goals first|with_reducible exact okq|omega|rfl|trivial|exact Or.inr trivial|skip)
        ·rw [hb] at h2
         rw [if_neg (by omega),aX] at h2
         have q1:=K7 ([]:List UInt8) (show b<labels.length by omega)
         have q2:=K7 (⟨[]⟩:Sl Node) hbt
         obtain ⟨t1,t2⟩:=hty b hbt
         rw [hTg b] at h2
         have hb0:ltB (b:Int) 0=false:=by rw [Hm];omega
         obtain ⟨x,hx⟩:∃ x,labels.getD b []=x:=⟨_,rfl⟩
         rw [hx] at q1 h2
         obtain ⟨⟨u⟩,hu⟩:∃ u,types.getD b ⟨[]⟩=u:=⟨_,rfl⟩
         rw [hu] at q2 t1 t2 h2
         simp only at t1 t2 h2
         cases u with
         | nil=>exact absurd rfl t1
         | cons y r =>
          have hS2:=set_named (P:=out) (n:=y) (r:=r) (s:=x)
          have hel:=el_named (P:=out) (n:=y) (r:=r)
          have hap:out.map (enc:Node→D)++(y::r).map enc=(out++y::r).map enc:=by simp
          have hlen:(out++y::r).length=out.length+(r.length+1):=by simp
          have hlen2:((out++y::r).map (enc:Node→D)).length=out.length+(r.length+1):=by rw [bV,hlen]
          have hP3:(out++named x (y::r)).length=out.length+(r.length+1):=by rw [bY,named_len];rfl
          simp only [bJ] at t2
          obtain ⟨O2,hO2⟩:∃ O,out++named x (y::r)=O:=⟨_,rfl⟩
          rw [hO2] at h2 hS2 hP3
          obtain ⟨Q,hQ⟩:∃ Q,out++y::r=Q:=⟨_,rfl⟩
          rw [hQ] at hS2 hel hap hlen hlen2
          obtain ⟨yr,hyr⟩:∃ q,y::r=q:=⟨_,rfl⟩
          rw [hyr] at q2 hap
          have hyl:yr.length=r.length+1:=by rw [←hyr];rfl
          have hyl2:(yr.map (enc:Node→D)).length=r.length+1:=by rw [bV,hyl]
          (sym=>simp [hmb,hb,hb0,q1,q2,hap,hel,hol,hlen2,hyl2,hS2,Ur,Ut,Uv,Us,szN,Uu,Nb,L5,Bq,Zb,Zc,Ze,Zf,Zg,Zo,Zp,Zq,Zs,Zv,Zw,Zx,Zy,Z4,Z5,Z6,Qd,Qf,Qs,Qu,Qv,Qw,Qx,Ja,Jb,Jl,Jm,Jn,Js,Jt,Ju,Jv,Jw,Jx,Jy,Jz,J2,J9,Xi,Xj,Xl,Xm,Xp,Xr,Xu,Xw,Xx,Xy,Xz,X6,X7,X8,X9,Wm,Wn,Wo,Wp,Wr,Wt,Wx,W1,W4,W9,Ye,Yf,Yg,Yi,Yl,Ym,Yn,Yo,Yp,Yq,Y7,Y9,Va,Vj,Vz,V0,V1,V2,V3,V5,V6,Ui,Uj,U5,K9,Kh,Gg,K6,K1,Nw];tactic =>
           try simp only [Uq] at *;try simp only [nc2] at *
           try simp (maxSteps:=4000000) only [hmb,hb,hb0,q1,q2,hap,hel,hol,hlen2,hyl2,hS2,Ur,Ut,Uv,Us,szN,Uu,U6]
           repeat' first|with_reducible assumption|with_reducible apply And.intro|intro _|omega|(rw [Uk];omega)
           all_goals first|with_reducible exact okq|omega|exact ⟨(i+1,x,O2),by ((try simp only [Ul,U0,Ux,U8,upd,U7,Ki,K0,Nat.reduceDiv,Nat.reduceMod,Nat.reduceMul,Nat.reduceAdd,Nat.reduceEqDiff,aV,aW,if_true,if_false,reduceIte]);(first|refine Wk.of_fl ?_|skip);simp only [Wk,wkK,Ga,wkT,wk1,AV.kept,keptAll,wkO,lk,Uw,and_true,true_and,and_self,Nat.reduceEqDiff,Nat.reduceLeDiff,if_true,if_false,reduceIte,reduceCtorEq,Option.isSome,false_implies];try simp [Wk,wkK,wkT,wk1,AV.kept,keptAll,wkO,lk,Uw,hlen,hP3]),by simp only;omega,by simp only;rw [show types.length-(i+1)=types.length-i-1 by omega];exact h2,by simp only;omega,by simp only;omega⟩|skip))
     ·have hie:types.length-i=0:=by omega
      rw [hie] at h2
      injection h2 with e1 e2
      subst e1 e2
      (sym=>simp [hib,hR,hT,szN,Nb,L5,Zb,Zc,Ze,Zf,Zg,Zo,Z6,Qd,Qf,Qp,Qq,Qr,Qs,Qu,Qv,Qw,Qx,Q1,Ja,Jb,Jd,Jl,Jm,Jn,Js,Jt,Ju,Jv,Jw,Jx,Jy,Jz,J2,J4,Xj,Xl,Xm,Xp,Xq,Xr,Xu,Xw,Xx,Xy,X6,X7,X8,X9,Wo,Wp,Wr,Wt,Wx,Yf,Yg,Ym,Yn,Yo,Yp,Yq,Y9,Va,Vj,Vz,V0,V1,V2,V3,V5,V6,U5,K9,Kh,Gg,K6,K1,Nw];tactic =>
       try simp only [Uq] at *;try simp only [nc2] at *
       try simp (maxSteps:=4000000) only [hib,hR,hT,szN,U6]
       repeat' first|with_reducible assumption|with_reducible apply And.intro|intro _|omega|(rw [Uk];omega)
       all_goals first|with_reducible exact okq|omega|rfl|trivial|exact Or.inr trivial|skip)))
 ·(sym=>simp [hleq,h50,hn0,szN,Nb,ctx_Row3_u,oJ,Zb,Zc,Zd,Ze,Zf,Zn,Zo,Zt,Z6,Qd,Qf,Qs,Qu,Qv,Qw,Qx,Jf,Jj,Jq,Jr,Js,Jt,Jv,Jw,Jy,Jz,J6,J7,Xh,Xi,Xj,Xl,Xm,Xn,Xo,Xr,Xu,Xw,Xx,Xy,X6,X7,X8,X9,Wc,Wf,Wj,Wl,Wm,Wn,Wo,Wp,Wt,Wx,Yc,Yf,Yg,Yl,Ym,Yn,Yo,Yr,Ys,Yt,Yu,Yv,Yw,Yx,Yz,Y9,Va,Vj,Vk,Vm,Vy,Vz,V0,V1,V3,V5,V6,U5,K9,Kh,Gg,K6,K1,Nw];tactic =>
   try simp only [Uq] at *;try simp only [nc2] at *
   try simp (maxSteps:=4000000) only [hleq,h50,hn0,szN,U6]
   repeat' first|with_reducible assumption|with_reducible apply And.intro|intro _|omega|(rw [Uk];omega)
   all_goals try with_reducible exact okq
   all_goals try exact Or.inr trivial
   refine Kk [6,7,42,43,44,45,46,47,48,49,50,51,52,53,54] (fun j:Nat=>[(8,.d (.int .i64 j))]) (fun j:Nat=>[]) (fun j:Nat=>j≤types.length∧∀ m,m<j→S3 7 (labels.getD m [])=true) (fun j:Nat=>types.length-j) 0 ?_ ?_ ?_
   ·simp
   ·exact wkq
   rintro j ⟨hj,hno⟩
   rcases Kt j types.length with ⟨hjt,hjb⟩|⟨hjt,hjb⟩
   ·have q1:=K7 ([]:List UInt8) (show j<labels.length by omega)
    have hxl:=r6 (labels.getD j []) (by simp [show j<labels.length by omega])
    have hst:S3 7 (labels.getD j [])=true→∀ m,m<j+1→S3 7 (labels.getD m [])=true:=fun h=>A1 hno h
    obtain ⟨Q,hQ⟩:∃ Q,(∀ m,m<j+1→S3 7 (labels.getD m [])=true)=Q:=⟨_,rfl⟩
    rw [hQ] at hst
    have hbad:S3 7 (labels.getD j [])=false→((List.range types.length).all fun k=>S3 7 (labels.getD k []))=false:=fun h=>Ay j hjt h
    obtain ⟨x,hx⟩:∃ x,labels.getD j []=x:=⟨_,rfl⟩
    rw [hx] at q1 hxl hst hbad
    cases hL:S3 7 x with
    | true =>
     have hq:=hst hL
     (sym=>simp [hjb,q1,hL,szN,Nb,L6,L5,L7,Bq,Mm.eq_def,Zb,Zc,Ze,Zf,Zg,Zo,Zp,Zq,Zv,Zy,Z6,Qb,Qd,Qe,Qf,Qg,Qh,Qs,Qu,Qv,Qw,Qx,Q1,Q8,Jc,Je,Jl,Jm,Jn,Js,Jt,Jv,Jw,Jy,Jz,J2,Xe,Xi,Xj,Xl,Xm,Xn,Xr,Xu,Xw,Xx,Xy,X6,X7,X8,X9,Wb,Wd,Wf,Wo,Wp,Wr,Wt,Wu,Wx,Wy,W1,W9,Yd,Ye,Yf,Yg,Yl,Ym,Yn,Yo,Yx,Yy,Y2,Y3,Y5,Y7,Y9,Va,Vj,Vy,Vz,V0,V1,V2,V3,V5,V6,Ui,U5,K9,Kh,Gg,K6,K1,Nw];tactic =>
      try simp only [Uq] at *;try simp only [nc2] at *
      try simp (maxSteps:=4000000) only [hjb,q1,hL,szN,U6]
      repeat' first|with_reducible assumption|with_reducible apply And.intro|intro _|omega|(rw [Uk];omega)
      all_goals first|with_reducible exact okq|omega|exact Or.inr trivial|exact ⟨j+1,wkq,by omega,Eq.mpr hQ hq,by omega⟩|skip)
    | false =>
     rw [hbad hL,if_pos rfl] at hR2
     injection hR2 with e1 e2
     subst e1 e2
     (sym=>simp [hjb,q1,hL,hR,hT,szN,Nb,L6,L5,L7,Mm.eq_def,Zb,Zc,Ze,Zf,Zg,Zn,Zo,Zp,Zq,Zv,Zy,Z6,Qb,Qd,Qe,Qf,Qg,Qh,Qp,Qq,Qr,Qs,Qu,Qv,Qw,Qx,Q1,Q8,Jc,Jd,Je,Jl,Jm,Jn,Js,Jt,Jv,Jw,Jy,Jz,J2,J3,Xe,Xi,Xj,Xl,Xm,Xn,Xq,Xr,Xu,Xw,Xx,Xy,X6,X7,X8,X9,Wb,Wd,Wf,Wo,Wp,Wr,Wt,Wu,Wx,Wy,W1,W9,Yd,Ye,Yf,Yg,Yl,Ym,Yn,Yo,Yx,Yy,Y2,Y3,Y6,Y7,Y9,Va,Vj,Vm,Vy,V0,V1,V2,V3,V5,V6,Ui,U5,K9,Kh,Gg,K6,K1,Nw];tactic =>
      try simp only [Uq] at *;try simp only [nc2] at *
      try simp (maxSteps:=4000000) only [hjb,q1,hL,hR,hT,szN,U6]
      repeat' first|with_reducible assumption|with_reducible apply And.intro|intro _|omega|(rw [Uk];omega)
      all_goals first|with_reducible exact okq|omega|rfl|trivial|exact Or.inr trivial|skip)
   ·rw [D2 (fun m hm=>hno m (by omega)),if_neg (by simp)] at hR2
    (sym=>simp [hjb,szN,Nb,L5,Zb,Zc,Ze,Zf,Zg,Zo,Zr,Z1,Z2,Z6,Qd,Qf,Qj,Qn,Qs,Qu,Qv,Qw,Qx,Q0,Q3,Q4,Q5,Q6,Q7,Q9,Ja,Jb,Jl,Jm,Jn,Js,Jt,Jv,Jw,Jy,Jz,J0,J1,J2,Xb,Xj,Xl,Xm,Xn,Xo,Xp,Xr,Xu,Xw,Xx,Xy,X0,X1,X6,X7,X8,X9,Wg,Wh,Wi,Wj,Wl,Wm,Wn,Wo,Wp,Wr,Wt,Wx,W2,W6,Yf,Yg,Ym,Yn,Yo,Yp,Yq,Y9,Va,Vi,Vj,Vl,Vn,Vo,Vr,Vz,V0,V1,V2,V3,V5,V6,U5,K9,Kh,Gg,K6,K1,Nw];tactic =>
     try simp only [Uq] at *;try simp only [nc2] at *
     try simp (maxSteps:=4000000) only [hjb,szN,U6]
     repeat' first|with_reducible assumption|with_reducible apply And.intro|intro _|omega|(rw [Uk];omega)
     all_goals try with_reducible exact okq
     refine Kk [6,7,12,13,14,60,61,62,63,64,65,66,67,68,69,70,71,72,73,74,75,76,77,78,79,80,81,82,83,84,85,86,87,88,89,90,91,92,93,94,95,96,97,98,99,100,101,102,103,104,105,106,107,108,109,110,111,112] (fun p:Nat×List UInt8×List Node=>[(9,.sl 59 (p.2.2.map (enc:Node→D)).length),(10,.d (.str p.2.1)),(11,.d (.int .i64 p.1))]) (fun p:Nat×List UInt8×List Node=>[(59,.row 3 (p.2.2.map enc) 0)]) (fun p:Nat×List UInt8×List Node=>p.1≤types.length∧rowL labels T (types.length-p.1) p.2.1 p.2.2=(R1,R2)∧p.2.2.length≤1+1000000*p.1) (fun p:Nat×List UInt8×List Node=>types.length-p.1) (0,[],[⟨7,[],types.length⟩]) ?_ ?_ ?_
     ·exact ⟨by simp,hR2,by simp⟩
     ·((try simp only [Ul,U0,Ux,U8,upd,U7,Ki,K0,Nat.reduceDiv,Nat.reduceMod,Nat.reduceMul,Nat.reduceAdd,Nat.reduceEqDiff,aV,aW,if_true,if_false,reduceIte]);(first|refine Wk.of_fl ?_|skip);simp only [Wk,wkK,Ga,wkT,wk1,AV.kept,keptAll,wkO,lk,Uw,and_true,true_and,and_self,Nat.reduceEqDiff,Nat.reduceLeDiff,if_true,if_false,reduceIte,reduceCtorEq,Option.isSome,false_implies];try simp [Wk,wkK,wkT,wk1,AV.kept,keptAll,wkO,lk,Uw,Ur])
     rintro ⟨i,done,out⟩ ⟨h1,h2,h3⟩
     simp only at h1 h2 h3
     have hol:(out.map (enc:Node→D)).length=out.length:=bV ..
     rcases Kt i types.length with ⟨hit,hib⟩|⟨hit,hib⟩
     ·rw [show types.length-i=(types.length-i-1)+1 by omega,rowL,hTl] at h2
      (sym=>simp [hib,szN,Nb,Zb,Zc,Ze,Zf,Zo,Z6,Qd,Qf,Qs,Qu,Qv,Qw,Qx,Jb,Jl,Jm,Jn,Js,Jt,Jv,Jw,Jx,Jy,Jz,Xi,Xj,Xl,Xm,Xn,Xo,Xr,Xu,Xw,Xx,Xy,X6,X7,X8,X9,Wo,Wp,Wr,Wt,Wx,Yf,Yg,Ym,Yn,Yo,Yp,Y9,Va,Vj,Vy,V0,V1,V2,V3,V5,V6,U5,K9,Kh,Gg,K6,K1,Nw];tactic =>
       try simp only [Uq] at *;try simp only [nc2] at *
       try simp (maxSteps:=4000000) only [hib,szN,U6]
       repeat' first|with_reducible assumption|with_reducible apply And.intro|intro _|omega|(rw [Uk];omega)
       all_goals try with_reducible exact okq
       refine Kk [66,67,68,69,70,71,72,73,74,75,76,77,78,79,80,81,82,83,84,85,86,87,88,89,90,91,92,93] (fun m:Nat=>[(12,.d (.int .i64 (S0 labels done m))),(13,.d (.int .i64 m))]) (fun m:Nat=>[]) (fun m:Nat=>m≤types.length) (fun m:Nat=>types.length-m) 0 ?_ ?_ ?_
       ·omega
       ·((try simp only [Ul,U0,Ux,U8,upd,U7,Ki,K0,Nat.reduceDiv,Nat.reduceMod,Nat.reduceMul,Nat.reduceAdd,Nat.reduceEqDiff,aV,aW,if_true,if_false,reduceIte]);(first|refine Wk.of_fl ?_|skip);simp only [Wk,wkK,Ga,wkT,wk1,AV.kept,keptAll,wkO,lk,Uw,and_true,true_and,and_self,Nat.reduceEqDiff,Nat.reduceLeDiff,if_true,if_false,reduceIte,reduceCtorEq,Option.isSome,false_implies];try simp [Wk,wkK,wkT,wk1,AV.kept,keptAll,wkO,lk,Uw,S0])
       rintro m hm
       have hsp:=best3_spec labels done m
       rcases Kt m types.length with ⟨hmt,hmb⟩|⟨hmt,hmb⟩
       ·have q1:=K7 ([]:List UInt8) (show m<labels.length by omega)
        have hS:S0 labels done (m+1)=cond (Op.bytesLess done (labels.getD m [])&&(ltB (S0 labels done m) 0||Op.bytesLess (labels.getD m []) (labels.getD (S0 labels done m).toNat []))) (m:Int) (S0 labels done m):=rfl
        have hB:S0 labels done m=-1∨(0≤S0 labels done m∧S0 labels done m<m):=by
         rcases hsp with ⟨h,_⟩|⟨b,hb,he,_⟩
         ·exact .inl h
         ·exact .inr ⟨by omega,by omega⟩
        clear hsp
        obtain ⟨b,hb⟩:∃ b,S0 labels done m=b:=⟨_,rfl⟩
        obtain ⟨b',hb'⟩:∃ b,S0 labels done (m+1)=b:=⟨_,rfl⟩
        rw [hb] at hB hS
        rw [hb'] at hS
        rw [hb]
        obtain ⟨x,hx⟩:∃ x,labels.getD m []=x:=⟨_,rfl⟩
        rw [hx] at q1 hS
        have hg:=less_not x done
        cases hl1:Op.bytesLess done x with
        | false =>
         rw [hl1,Bool.false_and,cond_false] at hS
         rw [hl1,Bool.not_false] at hg
         (sym=>simp [hmb,q1,hg,Nb,L6,L7,Bq,Mm.eq_def,Zb,Zc,Zd,Ze,Zf,Zg,Zh,Zi,Zj,Zk,Zl,Zm,Zo,Zp,Zq,Zt,Zv,Zy,Z6,Qd,Qf,Qs,Qt,Qu,Qv,Qw,Qx,Qy,Qz,Jl,Jm,Jn,Js,Jt,Jv,Jw,Jy,Jz,Xe,Xi,Xj,Xk,Xl,Xm,Xn,Xr,Xs,Xt,Xu,Xv,Xw,Xx,Xy,X2,X6,X7,X8,X9,Wh,Wi,Wm,Wn,Wo,Wp,Wr,Wt,Wv,Wx,Wz,W1,W9,Ye,Yf,Yg,Yl,Ym,Yn,Yo,Y5,Y7,Y9,Va,Vj,Vk,Vy,Vz,V0,V1,V2,V3,V4,V5,V6,V8,Ui,U5,K9,Kh,Gg,K6,K1,Nw];tactic =>
          try simp only [Uq] at *;try simp only [nc2] at *
          try simp (maxSteps:=4000000) only [hmb,q1,hg,U6]
          repeat' first|with_reducible assumption|with_reducible apply And.intro|intro _|omega|(rw [Uk];omega)
          all_goals first|with_reducible exact okq|omega|exact ⟨m+1,by rw [hb',hS];exact wkq,by omega,by omega⟩|skip)
        | true =>
         rw [hl1,Bool.true_and] at hS
         rw [hl1,Bool.not_true] at hg
         rcases hB with hB|⟨hB0,hBk⟩
         ·subst hB
          have hS1:b'=m:=hS
          (sym=>simp [hmb,q1,hg,Nb,L6,L7,Bq,Mm.eq_def,Zb,Zc,Zd,Ze,Zf,Zg,Zh,Zi,Zj,Zk,Zl,Zm,Zo,Zp,Zq,Zt,Zv,Zy,Z6,Qd,Qf,Qs,Qt,Qu,Qv,Qw,Qx,Qy,Qz,Jl,Jm,Jn,Js,Jt,Jv,Jw,Jy,Jz,Xe,Xi,Xj,Xk,Xl,Xm,Xn,Xr,Xs,Xt,Xu,Xv,Xw,Xx,Xy,X2,X6,X7,X8,X9,Wh,Wi,Wm,Wn,Wo,Wp,Wr,Wt,Wv,Wx,Wz,W1,W9,Ye,Yf,Yg,Yl,Ym,Yn,Yo,Y6,Y7,Y9,Va,Vj,Vk,Vy,Vz,V0,V1,V2,V3,V4,V5,V6,V8,Ui,U5,K9,Kh,Gg,K6,K1,Nw];tactic =>
           try simp only [Uq] at *;try simp only [nc2] at *
           try simp (maxSteps:=4000000) only [hmb,q1,hg,U6]
           repeat' first|with_reducible assumption|with_reducible apply And.intro|intro _|omega|(rw [Uk];omega)
           all_goals first|with_reducible exact okq|omega|exact ⟨m+1,by rw [hb',hS1];exact wkq,by omega,by omega⟩|skip)
         ·obtain ⟨p,rfl⟩:=Int.eq_ofNat_of_zero_le hB0
          have q3:=K7 ([]:List UInt8) (show p<labels.length by omega)
          have hp0:ltB (p:Int) 0=false:=by rw [Hm];omega
          rw [aX] at hS
          obtain ⟨y,hy⟩:∃ y,labels.getD p []=y:=⟨_,rfl⟩
          rw [hy] at q3 hS
          rw [hp0,Bool.false_or] at hS
          cases hlss:Op.bytesLess x y with
          | true =>
           rw [hlss,cond_true] at hS
           (sym=>simp [hmb,q1,hg,q3,hp0,hlss,Nb,L6,L7,Bq,Mm.eq_def,Zb,Zc,Zd,Ze,Zf,Zg,Zh,Zi,Zj,Zk,Zl,Zm,Zo,Zp,Zq,Zt,Zv,Zy,Z6,Qd,Qf,Qs,Qt,Qu,Qv,Qw,Qx,Qy,Qz,Jl,Jm,Jn,Js,Jt,Jv,Jw,Jy,Jz,Xe,Xi,Xj,Xk,Xl,Xm,Xn,Xr,Xs,Xt,Xu,Xv,Xw,Xx,Xy,X2,X6,X7,X8,X9,Wh,Wi,Wm,Wn,Wo,Wp,Wr,Wt,Wv,Wx,Wz,W1,W9,Ye,Yf,Yg,Yl,Ym,Yn,Yo,Y6,Y7,Y9,Va,Vj,Vk,Vy,Vz,V0,V1,V2,V3,V4,V5,V6,V8,Ui,U5,K9,Kh,Gg,K6,K1,Nw];tactic =>
            try simp only [Uq] at *;try simp only [nc2] at *
            try simp (maxSteps:=4000000) only [hmb,q1,hg,q3,hp0,hlss,U6]
            repeat' first|with_reducible assumption|with_reducible apply And.intro|intro _|omega|(rw [Uk];omega)
            all_goals first|with_reducible exact okq|omega|exact ⟨m+1,by rw [hb',hS];exact wkq,by omega,by omega⟩|skip)
          | false =>
           rw [hlss,cond_false] at hS
           (sym=>simp [hmb,q1,hg,q3,hp0,hlss,Nb,L6,L7,Bq,Mm.eq_def,Zb,Zc,Zd,Ze,Zf,Zg,Zh,Zi,Zj,Zk,Zl,Zm,Zo,Zp,Zq,Zt,Zv,Zy,Z6,Qd,Qf,Qs,Qt,Qu,Qv,Qw,Qx,Qy,Qz,Jl,Jm,Jn,Js,Jt,Jv,Jw,Jy,Jz,Xe,Xi,Xj,Xk,Xl,Xm,Xn,Xr,Xs,Xt,Xu,Xv,Xw,Xx,Xy,X2,X6,X7,X8,X9,Wh,Wi,Wm,Wn,Wo,Wp,Wr,Wt,Wv,Wx,Wz,W1,W9,Ye,Yf,Yg,Yl,Ym,Yn,Yo,Y6,Y7,Y9,Va,Vj,Vk,Vy,Vz,V0,V1,V2,V3,V4,V5,V6,V8,Ui,U5,K9,Kh,Gg,K6,K1,Nw];tactic =>
            try simp only [Uq] at *;try simp only [nc2] at *
            try simp (maxSteps:=4000000) only [hmb,q1,hg,q3,hp0,hlss,U6]
            repeat' first|with_reducible assumption|with_reducible apply And.intro|intro _|omega|(rw [Uk];omega)
            all_goals first|with_reducible exact okq|omega|exact ⟨m+1,by rw [hb',hS];exact wkq,by omega,by omega⟩|skip)
       ·have hme:m=types.length:=by omega
        rw [hme] at hsp hmb
        rw [hme]
        rcases hsp with ⟨hb,_⟩|⟨b,hbt,hb,_⟩
        ·rw [hb] at h2
         rw [if_pos (by decide)] at h2
         injection h2 with e1 e2
         subst e1 e2
         (sym=>simp [hmb,hb,hR,hT,szN,Nb,L5,Bq,Zb,Zc,Ze,Zf,Zg,Zn,Zo,Zp,Zq,Zs,Zv,Zw,Zx,Zy,Z4,Z5,Z6,Qd,Qf,Qp,Qq,Qr,Qs,Qu,Qv,Qw,Qx,Q1,Ja,Jb,Jd,Jl,Jm,Jn,Js,Jt,Ju,Jv,Jw,Jx,Jy,Jz,J2,J3,Xi,Xj,Xl,Xm,Xp,Xq,Xr,Xu,Xw,Xx,Xy,Xz,X6,X7,X8,X9,Wm,Wn,Wo,Wp,Wr,Wt,Wx,W1,Yf,Yg,Yl,Ym,Yn,Yo,Yp,Y7,Y9,Va,Vj,Vm,Vz,V0,V1,V2,V3,V5,V6,Ui,Uj,U5,K9,Kh,Gg,K6,K1,Nw];tactic =>
          try simp only [Uq] at *;try simp only [nc2] at *
          try simp (maxSteps:=4000000) only [hmb,hb,hR,hT,szN,U6]
          repeat' first|with_reducible assumption|with_reducible apply And.intro|intro _|omega|(rw [Uk];omega)
          all_goals first|with_reducible exact okq|omega|rfl|trivial|exact Or.inr trivial|skip)
        ·rw [hb] at h2
         rw [if_neg (by omega),aX] at h2
         have q1:=K7 ([]:List UInt8) (show b<labels.length by omega)
         have q2:=K7 (⟨[]⟩:Sl Node) hbt
         obtain ⟨t1,t2⟩:=hty b hbt
         rw [hTg b] at h2
         have hb0:ltB (b:Int) 0=false:=by rw [Hm];omega
         obtain ⟨x,hx⟩:∃ x,labels.getD b []=x:=⟨_,rfl⟩
         rw [hx] at q1 h2
         obtain ⟨⟨u⟩,hu⟩:∃ u,types.getD b ⟨[]⟩=u:=⟨_,rfl⟩
         rw [hu] at q2 t1 t2 h2
         simp only at t1 t2 h2
         cases u with
         | nil=>exact absurd rfl t1
         | cons y r =>
          have hS2:=set_named (P:=out) (n:=y) (r:=r) (s:=x)
          have hel:=el_named (P:=out) (n:=y) (r:=r)
          have hap:out.map (enc:Node→D)++(y::r).map enc=(out++y::r).map enc:=by simp
          have hlen:(out++y::r).length=out.length+(r.length+1):=by simp
          have hlen2:((out++y::r).map (enc:Node→D)).length=out.length+(r.length+1):=by rw [bV,hlen]
          have hP3:(out++named x (y::r)).length=out.length+(r.length+1):=by rw [bY,named_len];rfl
          simp only [bJ] at t2
          obtain ⟨O2,hO2⟩:∃ O,out++named x (y::r)=O:=⟨_,rfl⟩
          rw [hO2] at h2 hS2 hP3
          obtain ⟨Q,hQ⟩:∃ Q,out++y::r=Q:=⟨_,rfl⟩
          rw [hQ] at hS2 hel hap hlen hlen2
          obtain ⟨yr,hyr⟩:∃ q,y::r=q:=⟨_,rfl⟩
          rw [hyr] at q2 hap
          have hyl:yr.length=r.length+1:=by rw [←hyr];rfl
          have hyl2:(yr.map (enc:Node→D)).length=r.length+1:=by rw [bV,hyl]
          (sym=>simp [hmb,hb,hb0,q1,q2,hap,hel,hol,hlen2,hyl2,hS2,Ur,Ut,Uv,Us,szN,Uu,Nb,L5,Bq,Zb,Zc,Ze,Zf,Zg,Zo,Zp,Zq,Zs,Zv,Zw,Zx,Zy,Z4,Z5,Z6,Qd,Qf,Qs,Qu,Qv,Qw,Qx,Ja,Jb,Jl,Jm,Jn,Js,Jt,Ju,Jv,Jw,Jx,Jy,Jz,J2,J9,Xi,Xj,Xl,Xm,Xp,Xr,Xu,Xw,Xx,Xy,Xz,X6,X7,X8,X9,Wm,Wn,Wo,Wp,Wr,Wt,Wx,W1,W4,W9,Ye,Yf,Yg,Yi,Yl,Ym,Yn,Yo,Yp,Yq,Y7,Y9,Va,Vj,Vz,V0,V1,V2,V3,V5,V6,Ui,Uj,U5,K9,Kh,Gg,K6,K1,Nw];tactic =>
           try simp only [Uq] at *;try simp only [nc2] at *
           try simp (maxSteps:=4000000) only [hmb,hb,hb0,q1,q2,hap,hel,hol,hlen2,hyl2,hS2,Ur,Ut,Uv,Us,szN,Uu,U6]
           repeat' first|with_reducible assumption|with_reducible apply And.intro|intro _|omega|(rw [Uk];omega)
           all_goals first|with_reducible exact okq|omega|exact ⟨(i+1,x,O2),by ((try simp only [Ul,U0,Ux,U8,upd,U7,Ki,K0,Nat.reduceDiv,Nat.reduceMod,Nat.reduceMul,Nat.reduceAdd,Nat.reduceEqDiff,aV,aW,if_true,if_false,reduceIte]);(first|refine Wk.of_fl ?_|skip);simp only [Wk,wkK,Ga,wkT,wk1,AV.kept,keptAll,wkO,lk,Uw,and_true,true_and,and_self,Nat.reduceEqDiff,Nat.reduceLeDiff,if_true,if_false,reduceIte,reduceCtorEq,Option.isSome,false_implies];try simp [Wk,wkK,wkT,wk1,AV.kept,keptAll,wkO,lk,Uw,hlen,hP3]),by simp only;omega,by simp only;rw [show types.length-(i+1)=types.length-i-1 by omega];exact h2,by simp only;omega,by simp only;omega⟩|skip))
     ·have hie:types.length-i=0:=by omega
      rw [hie] at h2
      injection h2 with e1 e2
      subst e1 e2
      (sym=>simp [hib,hR,hT,szN,Nb,L5,Zb,Zc,Ze,Zf,Zg,Zo,Z6,Qd,Qf,Qp,Qq,Qr,Qs,Qu,Qv,Qw,Qx,Q1,Ja,Jb,Jd,Jl,Jm,Jn,Js,Jt,Ju,Jv,Jw,Jx,Jy,Jz,J2,J4,Xj,Xl,Xm,Xp,Xq,Xr,Xu,Xw,Xx,Xy,X6,X7,X8,X9,Wo,Wp,Wr,Wt,Wx,Yf,Yg,Ym,Yn,Yo,Yp,Yq,Y9,Va,Vj,Vz,V0,V1,V2,V3,V5,V6,U5,K9,Kh,Gg,K6,K1,Nw];tactic =>
       try simp only [Uq] at *;try simp only [nc2] at *
       try simp (maxSteps:=4000000) only [hib,hR,hT,szN,U6]
       repeat' first|with_reducible assumption|with_reducible apply And.intro|intro _|omega|(rw [Uk];omega)
       all_goals first|with_reducible exact okq|omega|rfl|trivial|exact Or.inr trivial|skip)))
def Cz {A B C E F H R S:Type} [Enc A] [Enc B] [Enc C] [Enc E] [Enc F] [Enc H] [Enc R] [Enc S] (p:A→B→C→E→F→H→Prop) (f:A→B→C→E→F→H→R×S):Con:=⟨[false,false,false,false,false,false],[false,false],fun c=>match c with
 | [.d x,.d y,.d z,.d w,.d u,.d v]=>isE A x∧isE B y∧isE C z∧isE E w∧isE F u∧isE H v∧p (dec x) (dec y) (dec z) (dec w) (dec u) (dec v)
 | _=>False,fun c=>match c with
 | [.d x,.d y,.d z,.d w,.d u,.d v]=>.tup [.d (enc (f (dec x) (dec y) (dec z) (dec w) (dec u) (dec v)).1),.d (enc (f (dec x) (dec y) (dec z) (dec w) (dec u) (dec v)).2)]
 | _=>.d .nilp⟩
theorem nX:type_of% @Cz.eq_def:=@Cz.eq_def
theorem cn6t_pre {A B C E F H R S:Type} [Enc A] [Enc B] [Enc C] [Enc E] [Enc F] [Enc H] [Enc R] [Enc S] {p:A→B→C→E→F→H→Prop} {f:A→B→C→E→F→H→R×S} {c:List CV} (h:(Cz p f).pre c) :
  ∃ a b d e g i,c=[.d (enc a),.d (enc b),.d (enc d),.d (enc e),.d (enc g),.d (enc i)]∧p a b d e g i:=by
 unfold Cz at h
 simp only at h
 split at h
 ·next x y z w u v=>exact ⟨dec x,dec y,dec z,dec w,dec u,dec v,by rw [←h.1,←h.2.1,←h.2.2.1,←h.2.2.2.1,←h.2.2.2.2.1,←h.2.2.2.2.2.1],h.2.2.2.2.2.2⟩
 ·exact h.elim
structure St4Ok (l:List Tok) (s:St4):Prop where
 len:l.length≤100000
 lo:0≤s.at_
 hi:s.at_≤l.length
 sites:(s.sites.length:Int)≤1000000+s.at_
 site:0≤s.site∧s.site≤1000000+s.at_
 txt:∀ t∈l,t.text.length≤9223372036854775807
def Kz (n:Nat):Con:=Kl (fun (l:Sl Tok) (s:St4) (v:Int)=>St4Ok l.l s∧1≤v∧v≤100∧3*(101-v)+2<n) (fun l s v=>((⟨(M7 (101-v).toNat l.l s).1⟩,(M7 (101-v).toNat l.l s).2):Sl Node×St4))
theorem mV:type_of% @Kz.eq_def:=@Kz.eq_def
def N0 (n:Nat):Con:=Kl (fun (l:Sl Tok) (s:St4) (v:Int)=>St4Ok l.l s∧1≤v∧v≤100∧3*(101-v)+1<n) (fun l s v=>((⟨(R0 (M7 (100-v).toNat) (100-v).toNat l.l s).1⟩,(R0 (M7 (100-v).toNat) (100-v).toNat l.l s).2):Sl Node×St4))
def Mi (n:Nat):Con:=Cz (fun (l:Sl Tok) (s:St4) (v k:Int) (_ _:List UInt8)=>(St4Ok l.l s∧s.e=0∧1≤s.at_)∧(k=6∨k=7)∧1≤v∧v≤100∧3*(101-v)+3<n) (fun l s v k a b=>((⟨(rows4 (M7 (101-v).toNat) l.l s k a b).1⟩,(rows4 (M7 (101-v).toNat) l.l s k a b).2):Sl Node×St4))
structure IH4 (n:Nat):Prop where
 whole:Hg Try.prog (83,Kz n)
 atom:Hg Try.prog (88,N0 n)
 rows:Hg Try.prog (94,Mi n)
theorem con_whole4_zero:∀ c,¬ (Kz 0).pre c:=by
 intro c h
 unfold Kz at h
 obtain ⟨_,_,_,_,_,_,_,h⟩:=El h
 omega
theorem con_atom4_zero:∀ c,¬ (N0 0).pre c:=by
 intro c h
 unfold N0 at h
 obtain ⟨_,_,_,_,_,_,_,h⟩:=El h
 omega
theorem con_rows4_zero:∀ c,¬ (Mi 0).pre c:=by
 intro c h
 unfold Mi at h
 obtain ⟨_,_,_,_,_,_,_,_,_,_,_,h⟩:=cn6t_pre h
 omega
theorem st4Ok_eats {l:List Tok} {s:St4} {r:List Node×St4} (h:St4Ok l s) (hE:Eats l s r) (he:r.2.e=0):St4Ok l r.2:=by
 obtain ⟨h1,h2,h3,h4,h5,h6⟩:=h
 have h7:=(hE.ok he).2.1
 obtain ⟨h8,h9,h10⟩:=hE.sites he
 exact ⟨h1,hE.lo,h7,by omega,by omega,h6⟩
noncomputable def E5 (n:Nat):Ctx:=⟨tab,lkC [(88,(N0 n)),(83,(Kz n)),(89,He),(90,Ge),(91,T4)],60,lkB [],[],false⟩
theorem Oa (n:Nat):(E5 n).τ=tab:=rfl
theorem Oc (n:Nat):(E5 n).Γ=lkC [(88,(N0 n)),(83,(Kz n)),(89,He),(90,Ge),(91,T4)]:=rfl
theorem Ob (n:Nat):(E5 n).dp=60:=rfl
theorem Od (n:Nat):(E5 n).Δ=lkB []:=rfl
theorem I9 (n:Nat):(E5 n).cuts=[]:=rfl
theorem I8 (n:Nat):(E5 n).wr=false:=rfl
set_option maxRecDepth 100000 in
theorem stepi_whole4 (n:Nat) (ih:IH4 n):Hg Try.prog (83,(Kz (n+1))):=by
 refine ⟨Ke Try.func83 (by kernel_rfl) rfl,?_⟩
 have K:Gu Try.prog (E5 n):=Ko G7 Kw (by
  intro p hp
  simp only [bQ,bZ,or_false] at hp
  rcases hp with rfl|rfl|rfl|rfl|rfl
  ·exact ih.atom
  ·exact ih.whole
  ·exact good_is4
  ·exact good_wrong4
  ·exact good_Arrow3) (by simp)
 obtain ⟨c,hc⟩:∃ c,Try.f83.body=some c:=⟨_,rfl⟩
 refine Kn K Try.func83 hc [.tmp 6,.cell 7 125] rfl 53 rfl (fun cvs hpre=>?_)
 change (Kz (n+1)).pre cvs at hpre
 unfold Kz at hpre
 obtain ⟨⟨l⟩,s,v,rfl,hS,hv1,hv2,hn⟩:=El hpre
 simp only at hS
 clear hpre
 obtain ⟨d,hd⟩:∃ d:Nat,v=100-d:=⟨(100-v).toNat,by omega⟩
 subst hd
 have hd1:(101-(100-(d:Int))).toNat=d+1:=by omega
 have hd2:(100-(100-(d:Int))).toNat=d:=by omega
 have hd3:(101-(100-(d:Int)+1)).toNat=d:=by omega
 obtain ⟨R,hR⟩:∃ R,M7 (d+1) l s=R:=⟨_,rfl⟩
 have hR2:=hR
 rw [M7] at hR2
 have hEa:=eats_atom (l:=l) (w:=M7 d) (d:=d) (s:=s) (fun hd s' h1 h2=>Dt d s' hd h1 h2) hS.lo hS.hi
 obtain ⟨⟨a,q⟩,ha⟩:∃ a,R0 (M7 d) d l s=a:=⟨_,rfl⟩
 rw [ha] at hR2 hEa
 simp only at hR2
 have hlo:=hEa.lo
 have hhi:=hEa.hi
 have hL:=hS.len
 have hal:=hEa.len
 simp only at hlo hhi hal
 have hokq:q.e=0→St4Ok l q:=fun h=>st4Ok_eats hS hEa h
 obtain ⟨qa,qi,qs,qe⟩:=q
 simp only at hlo hhi hR2 hokq
 have hA1:a.length≤100000:=by have:=hS.lo;omega
 simp only [Try.f83,aZ] at hc
 subst hc
 refine Gf 3 (of_decide_eq_true (by kernel_rfl)) ?_
 by_cases he:qe=0
 case neg =>
  rw [if_pos (.inl he)] at hR2
  have hb:(qe != 0)=true:=bne_iff_ne.2 he
  subst hR2
  (sym=>simp [hd1,hd2,ha,hb,hR,lQ,Cs,K4,K5,Cm,Oa,Oc,Ob,Od,I9,I8,T4.eq_def,N0.eq_def,nQ,mV,nZ,Zb,Zc,Zd,Ze,Zf,Zh,Zi,Zj,Zk,Zl,Zm,Zn,Zo,Zp,Zq,Zs,Zt,Zu,Zv,Zw,Zx,Qa,Qb,Qd,Qe,Qf,Qg,Qh,Qi,Qj,Qm,Qn,Qo,Qp,Qq,Qr,Qs,Qt,Qu,Qv,Qw,Qx,Qy,Qz,Q1,Q2,Q3,Q8,Ja,Jb,Jc,Jd,Je,Jf,Jj,Jq,Jr,Js,Jt,Ju,Jv,Jw,Jx,Jy,Jz,J2,J3,J6,J7,Xa,Xb,Xe,Xf,Xi,Xj,Xk,Xl,Xm,Xq,Xr,Xs,Xt,Xu,Xv,Xw,Xx,Xy,X0,X2,X3,X4,X5,X6,X7,X8,X9,Wb,Wc,Wd,Wf,Wg,Wh,Wi,Wj,Wl,Wm,Wn,Wo,Wp,Wt,Wu,Wx,Wy,W2,W6,Yc,Yd,Yn,Yo,Yp,Yq,Yr,Ys,Yt,Yu,Yv,Yw,Yx,Yy,Yz,Y2,Y3,Y4,Y9,Va,Vj,Vk,Vl,Vm,Vn,Vr,Vy,Vz,V0,V1,V2,V4,V5,V6,V8,Ui,Uj,U5,K9,Ks,K2,Ku,Nr];tactic =>
   try simp only [Uq] at *;try simp only [nc2] at *
   try simp (maxSteps:=4000000) only [hd1,hd2,ha,hb,hR,lQ,Cs,K4,K5,Cm,U6]
   repeat' first|with_reducible assumption|with_reducible apply And.intro|intro _|omega|(rw [Uk];omega)
   all_goals first|contradiction|with_reducible exact okq|exact hS|omega|rfl|skip)
 have hb:(qe != 0)=false:=by rw [he];rfl
 cases hi:is4 l qa [45,62] with
 | false =>
  rw [if_pos (.inr hi)] at hR2
  subst hR2
  (sym=>simp [hd1,hd2,ha,hb,hi,hR,lQ,Cs,K4,K5,Cm,Oa,Oc,Ob,Od,I9,I8,T4.eq_def,N0.eq_def,nQ,mV,nZ,Zb,Zc,Zd,Ze,Zf,Zh,Zi,Zj,Zk,Zl,Zm,Zn,Zo,Zp,Zq,Zs,Zt,Zu,Zv,Zw,Zx,Qa,Qb,Qd,Qe,Qf,Qg,Qh,Qi,Qj,Qm,Qn,Qo,Qp,Qq,Qr,Qs,Qt,Qu,Qv,Qw,Qx,Qy,Qz,Q1,Q2,Q3,Q8,Ja,Jb,Jc,Jd,Je,Jf,Jj,Jq,Jr,Js,Jt,Ju,Jv,Jw,Jx,Jy,Jz,J2,J3,J6,J7,Xa,Xb,Xe,Xf,Xi,Xj,Xk,Xl,Xm,Xq,Xr,Xs,Xt,Xu,Xv,Xw,Xx,Xy,X0,X2,X3,X4,X5,X6,X7,X8,X9,Wb,Wc,Wd,Wf,Wg,Wh,Wi,Wj,Wl,Wm,Wn,Wo,Wp,Wt,Wu,Wx,Wy,W2,W6,Yc,Yd,Yn,Yo,Yp,Yq,Yr,Ys,Yt,Yu,Yv,Yw,Yx,Yy,Yz,Y2,Y3,Y4,Y9,Va,Vj,Vk,Vl,Vm,Vn,Vr,Vy,Vz,V0,V1,V2,V4,V5,V6,V8,Ui,Uj,U5,K9,Ks,K2,Ku,Nr];tactic =>
   try simp only [Uq] at *;try simp only [nc2] at *
   try simp (maxSteps:=4000000) only [hd1,hd2,ha,hb,hi,hR,lQ,Cs,K4,K5,Cm,U6]
   repeat' first|with_reducible assumption|with_reducible apply And.intro|intro _|omega|(rw [Uk];omega)
   all_goals first|contradiction|with_reducible exact okq|exact hS|omega|rfl|skip)
 | true =>
  rw [if_neg (by rw [hi];simp [he])] at hR2
  by_cases hd0:d=0
  ·rw [if_pos hd0] at hR2
   have hge:leB 100 (100-(d:Int))=true:=by rw [G4];omega
   have hw:Tc ⟨qa,qi,qs,qe⟩ qa 4=⟨qa,qi,qs,4⟩:=rfl
   rw [hw] at hR2
   subst hR2
   (sym=>simp [hd1,hd2,ha,hb,hi,hge,hw,hR,lQ,Cs,K4,K5,Cm,Oa,Oc,Ob,Od,I9,I8,T4.eq_def,N0.eq_def,nQ,mV,nZ,Zb,Zc,Zd,Ze,Zf,Zh,Zi,Zj,Zk,Zl,Zm,Zn,Zo,Zp,Zq,Zs,Zt,Zu,Zv,Zw,Zx,Qa,Qb,Qd,Qe,Qf,Qg,Qh,Qi,Qj,Qm,Qn,Qo,Qp,Qq,Qr,Qs,Qt,Qu,Qv,Qw,Qx,Qy,Qz,Q1,Q2,Q3,Q8,Ja,Jb,Jc,Jd,Je,Jf,Jj,Jq,Jr,Js,Jt,Jv,Jw,Jy,Jz,J2,J3,J6,J7,Xa,Xb,Xe,Xf,Xi,Xj,Xk,Xl,Xm,Xq,Xr,Xs,Xt,Xu,Xv,Xw,Xx,Xy,X0,X2,X6,X7,X8,X9,Wb,Wc,Wd,Wf,Wg,Wh,Wi,Wj,Wl,Wm,Wn,Wo,Wp,Wt,Wu,Wx,Wy,W6,Yc,Yd,Yn,Yo,Yr,Ys,Yt,Yu,Yv,Yw,Yx,Yy,Yz,Y2,Y3,Y4,Y9,Va,Vj,Vk,Vl,Vm,Vn,Vy,Vz,V0,V1,V2,V4,V5,V6,V8,Ui,Uj,U5,K9,Ks,K2,Ku,Nr];tactic =>
    try simp only [Uq] at *;try simp only [nc2] at *
    try simp (maxSteps:=4000000) only [hd1,hd2,ha,hb,hi,hge,hw,hR,lQ,Cs,K4,K5,Cm,U6]
    repeat' first|with_reducible assumption|with_reducible apply And.intro|intro _|omega|(rw [Uk];omega)
    all_goals first|contradiction|with_reducible exact okq|exact hS|omega|rfl|skip)
  rw [if_neg hd0] at hR2
  have hge:leB 100 (100-(d:Int))=false:=by rw [←Bool.not_eq_true,G4];omega
  have hlt:=is4_lt hi
  have hok2:=hokq he
  have hok3:St4Ok l ⟨qa+1,qi,qs,qe⟩:=by
   obtain ⟨h1,h2,h3,h4,h5,h6⟩:=hok2
   simp only at h2 h3 h4 h5
   exact ⟨h1,by show 0≤qa+1;omega,by show qa+1≤_;omega,by show (qs.length:Int)≤1000000+(qa+1);omega,by show 0≤qi∧qi≤1000000+(qa+1);omega,h6⟩
  have hEb:=Dt (l:=l) d ⟨qa+1,qi,qs,qe⟩ hd0 hok3.lo hok3.hi
  have hadv:Ld ⟨qa,qi,qs,qe⟩=⟨qa+1,qi,qs,qe⟩:=rfl
  rw [hadv] at hR2
  obtain ⟨⟨b,q2⟩,hbb⟩:∃ b,M7 d l ⟨qa+1,qi,qs,qe⟩=b:=⟨_,rfl⟩
  rw [hbb] at hR2 hEb
  have hbl:=hEb.len
  simp only at hR2 hbl
  obtain ⟨q2a,q2i,q2s,q2e⟩:=q2
  have hB1:b.length≤100000:=by omega
  subst hR2
  (sym=>simp [hd1,hd2,hd3,ha,hb,hi,hge,hbb,hR,lQ,Cs,K4,K5,Cm,Ur,Ut,Uv,Us,szN,Uu,Oa,Oc,Ob,Od,I9,I8,T4.eq_def,N0.eq_def,nQ,mV,nZ,Zb,Zc,Zd,Ze,Zf,Zh,Zi,Zj,Zk,Zl,Zm,Zn,Zo,Zp,Zq,Zs,Zt,Zu,Zv,Zw,Zx,Qa,Qb,Qd,Qe,Qf,Qg,Qh,Qi,Qj,Qm,Qn,Qo,Qp,Qq,Qr,Qs,Qt,Qu,Qv,Qw,Qx,Qy,Qz,Q1,Q2,Q3,Q8,Ja,Jb,Jc,Jd,Je,Jf,Jj,Jq,Jr,Js,Jt,Ju,Jv,Jw,Jx,Jy,Jz,J2,J6,J7,Xa,Xb,Xe,Xf,Xi,Xj,Xk,Xl,Xm,Xq,Xr,Xs,Xt,Xu,Xv,Xw,Xx,Xy,X0,X2,X3,X4,X5,X6,X7,X8,X9,Wb,Wc,Wd,Wf,Wg,Wh,Wi,Wj,Wl,Wm,Wn,Wo,Wp,Wt,Wu,Wx,Wy,W2,W6,Yc,Yd,Yn,Yo,Yp,Yq,Yr,Ys,Yt,Yu,Yv,Yw,Yx,Yy,Yz,Y2,Y3,Y4,Y9,Va,Vj,Vk,Vl,Vm,Vn,Vr,Vy,Vz,V0,V1,V2,V4,V5,V6,V8,Ui,Uj,U5,K9,Ks,K2,Ku,Nr];tactic =>
   try simp only [Uq] at *;try simp only [nc2] at *
   try simp (maxSteps:=4000000) only [hd1,hd2,hd3,ha,hb,hi,hge,hbb,hR,lQ,Cs,K4,K5,Cm,Ur,Ut,Uv,Us,szN,Uu,U6]
   repeat' first|with_reducible assumption|with_reducible apply And.intro|intro _|omega|(rw [Uk];omega)
   all_goals first|contradiction|with_reducible exact okq|exact hS|exact hok3|omega|rfl|skip)
theorem is4_text {l:List Tok} {i:Int} {x:List UInt8} (h:is4 l i x=true):(tk l i).text=x:=by
 unfold is4 at h
 simp only [bX,cQ] at h
 exact h.2.2
theorem is4_other {l:List Tok} {i:Int} {x y:List UInt8} (h:is4 l i x=true) (hxy:x≠y):is4 l i y=false:=by
 cases hb:is4 l i y with
 | false=>rfl
 | true=>exact absurd ((is4_text h).symm.trans (is4_text hb)) hxy
theorem site_snoc {s:List Site} {x:Site}:s.map (enc:Site→D)++[.agg [.int .i64 x.frm,.int .i64 x.to,.bool x.miss]]=(s++[x]).map enc:=by rw [List.map_append];rfl
theorem K3 {a b d:Int} {c:List Site}:(enc (St4.mk a b c d):D)=.agg [.int .i64 a,.int .i64 b,.list 3 (c.map enc),.int .i64 d]:=rfl
noncomputable def An (n:Nat):Ctx:=⟨tab,lkC [(89,He),(90,Ge),(93,Ps),(95,Gt),(94,(Mi n)),(83,(Kz n))],60,lkB [],[],false⟩
theorem B3 (n:Nat):(An n).τ=tab:=rfl
theorem B5 (n:Nat):(An n).Γ=lkC [(89,He),(90,Ge),(93,Ps),(95,Gt),(94,(Mi n)),(83,(Kz n))]:=rfl
theorem B4 (n:Nat):(An n).dp=60:=rfl
theorem B6 (n:Nat):(An n).Δ=lkB []:=rfl
theorem B1 (n:Nat):(An n).cuts=[]:=rfl
theorem Dy (n:Nat):(An n).wr=false:=rfl
set_option maxRecDepth 100000 in
theorem stepi_atom4 (n:Nat) (ih:IH4 n):Hg Try.prog (88,(N0 (n+1))):=by
 refine ⟨Ke Try.func88 (by kernel_rfl) rfl,?_⟩
 have K:Gu Try.prog (An n):=Ko G7 Kw (by
  intro p hp
  simp only [bQ,bZ,or_false] at hp
  rcases hp with rfl|rfl|rfl|rfl|rfl|rfl
  ·exact good_is4
  ·exact good_wrong4
  ·exact good_base4
  ·exact good_needs4
  ·exact ih.rows
  ·exact ih.whole) (by simp)
 obtain ⟨c,hc⟩:∃ c,Try.f88.body=some c:=⟨_,rfl⟩
 refine Kn K Try.func88 hc [.tmp 6,.cell 7 125] rfl 164 rfl (fun cvs hpre=>?_)
 change (N0 (n+1)).pre cvs at hpre
 unfold N0 at hpre
 obtain ⟨⟨l⟩,⟨k,si,ss,e⟩,v,rfl,hS,hv1,hv2,hn⟩:=El hpre
 simp only at hS
 clear hpre
 obtain ⟨d,hd⟩:∃ d:Nat,v=100-d:=⟨(100-v).toNat,by omega⟩
 subst hd
 have hd2:(100-(100-(d:Int))).toNat=d:=by omega
 have hd3:(101-(100-(d:Int)+1)).toNat=d:=by omega
 have hlen:=hS.len
 have hlo:=hS.lo
 have hhi:=hS.hi
 have hss:=hS.sites
 have hsi:=hS.site
 simp only at hlo hhi hss hsi
 obtain ⟨k,rfl⟩:∃ n:Nat,k=n:=⟨k.toNat,by omega⟩
 obtain ⟨R,hR⟩:∃ R,R0 (M7 d) d l ⟨k,si,ss,e⟩=R:=⟨_,rfl⟩
 have hR2:=hR
 unfold R0 at hR2
 simp only at hR2
 have hssm:(ss.map (enc:Site→D)).length=ss.length:=bV ..
 simp only [Try.f88,aZ] at hc
 subst hc
 refine Gf 10 (of_decide_eq_true (by kernel_rfl)) ?_
 by_cases he:e=0
 case neg =>
  rw [if_pos he] at hR2
  have hb:(e != 0)=true:=bne_iff_ne.2 he
  subst hR2
  (sym=>simp [hd2,hb,hR,lQ,K3,K4,K5,B3,B5,B4,B6,B1,Dy,N0.eq_def,Ps.eq_def,nQ,nJ,Mi.eq_def,mV,nZ,Zb,Zc,Ze,Zf,Zh,Zi,Zj,Zk,Zl,Zm,Zn,Zo,Zp,Zq,Zs,Zu,Zv,Zw,Zx,Qd,Qf,Qj,Qm,Qn,Qo,Qp,Qq,Qr,Qs,Qt,Qu,Qv,Qw,Qx,Qy,Qz,Q1,Q3,Ja,Jb,Jd,Jf,Jj,Jq,Jr,Js,Jt,Jv,Jw,Jy,Jz,J2,J3,J6,J7,Xa,Xb,Xd,Xf,Xj,Xk,Xl,Xm,Xq,Xr,Xs,Xt,Xu,Xv,Xw,Xx,Xy,X0,X2,X6,X7,X8,X9,Wc,Wf,Wh,Wi,Wj,Wl,Wm,Wn,Wo,Wp,Wt,Wx,W6,Yc,Yn,Yo,Yr,Ys,Yt,Yu,Yv,Yw,Yx,Yz,Y9,Va,Vj,Vm,Vy,Vz,V0,V1,V2,V4,V5,V6,V8,Ui,Uj,U5,K9,Kh,Ks,Mr,K6,K1,K2,Ku,H2,Nr];tactic =>
   try simp only [Uq] at *;try simp only [nc2] at *
   try simp (maxSteps:=4000000) only [hd2,hb,hR,lQ,K3,K4,K5,U6]
   repeat' first|with_reducible assumption|with_reducible apply And.intro|intro _|omega|(rw [Uk];omega)
   all_goals first|contradiction|with_reducible exact okq|exact hS|omega|rfl|skip)
 rw [if_neg (by simpa using he)] at hR2
 have hb:(e != 0)=false:=by rw [he];rfl
 by_cases hlt:(l.length:Int)≤(k:Int)
 ·rw [if_pos hlt] at hR2
  have hge:leB (l.length:Int) (k:Int)=true:=by rw [G4];exact hlt
  subst hR2
  have hw:Tc ⟨(k:Int),si,ss,e⟩ (l.length:Int) 2=⟨l.length,si,ss,2⟩:=rfl
  rw [hw] at hR
  (sym=>simp [hd2,hb,hge,hw,hR,lQ,K3,K4,K5,B3,B5,B4,B6,B1,N0.eq_def,Ps.eq_def,nQ,nJ,Mi.eq_def,mV,nZ,Zb,Zc,Ze,Zf,Zn,Zo,Zp,Zq,Zs,Zu,Zv,Zw,Zx,Z6,Qb,Qd,Qf,Qg,Qh,Qj,Qm,Qn,Qo,Qp,Qq,Qr,Qs,Qu,Qv,Qw,Qx,Q1,Q3,Q8,Ja,Jb,Jc,Jd,Je,Jf,Jj,Jq,Jr,Js,Jt,Jv,Jw,Jy,Jz,J2,J3,J6,J7,Xa,Xb,Xd,Xf,Xi,Xj,Xl,Xm,Xq,Xr,Xu,Xw,Xx,Xy,X0,X6,X7,X8,X9,Wb,Wc,Wd,Wf,Wh,Wi,Wj,Wl,Wm,Wn,Wo,Wp,Wt,Wx,W6,Yc,Yf,Yg,Yn,Yo,Yr,Ys,Yt,Yu,Yv,Yw,Yx,Yz,Y2,Y9,Va,Vj,Vm,Vy,Vz,V0,V1,V2,V3,V4,V5,V6,Ui,Uj,U5,K9,Kh,Ks,Mr,K6,K1,K2,Ku,H2,Nr];tactic =>
   try simp only [Uq] at *;try simp only [nc2] at *
   try simp (maxSteps:=4000000) only [hd2,hb,hge,hw,hR,lQ,K3,K4,K5,U6]
   repeat' first|with_reducible assumption|with_reducible apply And.intro|intro _|omega|(rw [Uk];omega)
   all_goals first|contradiction|with_reducible exact okq|exact hS|omega|rfl|skip)
 rw [if_neg hlt] at hR2
 have hkl:k<l.length:=by omega
 have hge:leB (l.length:Int) (k:Int)=false:=by rw [←Bool.not_eq_true,G4];exact hlt
 have q1:=K7 Td hkl
 have htx:=hS.txt (l.getD k Td) (by simp [hkl])
 have hit:=fun {x:List UInt8} (h:is4 l (k:Int) x=true)=>is4_text h
 rw [C6] at hR2
 simp only [C6] at hit
 obtain ⟨t,ht⟩:∃ t,l.getD k Td=t:=⟨_,rfl⟩
 rw [ht] at q1 hR2 htx
 simp only [ht] at hit
 cases h63:is4 l (k:Int) [63] with
 | true =>
  rw [h63,if_pos rfl] at hR2
  have hsn:=site_snoc (s:=ss) (x:=⟨t.frm,t.to,false⟩)
  have hsl:(ss++[Site.mk t.frm t.to false]).length=ss.length+1:=by simp
  obtain ⟨S2,hS2⟩:∃ S,ss++[Site.mk t.frm t.to false]=S:=⟨_,rfl⟩
  rw [hS2] at hsn hsl hR2
  have hsl2:(S2.map (enc:Site→D)).length=ss.length+1:=by rw [bV,hsl]
  subst hR2
  (sym=>simp [hd2,hb,hge,h63,q1,hsn,hssm,hsl2,hR,lQ,U1,Gl,F8,K3,K4,K5,Ur,Ut,Uv,Us,szN,Uu,B3,B5,B4,B6,B1,Dy,N0.eq_def,Ps.eq_def,nQ,nJ,Mi.eq_def,mV,nZ,Zb,Zc,Ze,Zf,Zh,Zi,Zj,Zk,Zl,Zm,Zn,Zo,Zp,Zq,Zr,Zs,Zu,Zv,Zw,Zx,Zy,Z1,Z2,Z4,Z5,Z6,Qb,Qd,Qf,Qg,Qh,Qj,Qm,Qn,Qo,Qp,Qq,Qr,Qs,Qt,Qu,Qv,Qw,Qx,Qy,Qz,Q0,Q1,Q3,Q4,Q5,Q6,Q7,Q8,Q9,Ja,Jb,Jc,Jd,Je,Jf,Jj,Jq,Jr,Js,Jt,Jv,Jw,Jy,Jz,J0,J1,J2,J4,J5,J6,J7,Xa,Xb,Xd,Xf,Xi,Xj,Xk,Xl,Xm,Xq,Xr,Xs,Xt,Xu,Xv,Xw,Xx,Xy,Xz,X0,X1,X2,X4,X6,X7,X8,X9,Wb,Wc,Wd,Wf,Wg,Wh,Wi,Wj,Wl,Wm,Wn,Wo,Wp,Wt,Ww,Wx,W0,W1,W2,W6,W7,Yb,Yc,Yd,Yf,Yg,Yn,Yo,Yp,Yq,Yr,Ys,Yt,Yu,Yv,Yw,Yx,Yy,Yz,Y2,Y3,Y4,Y7,Y9,Va,Vi,Vj,Vl,Vm,Vn,Vo,Vr,Vw,Vy,Vz,V0,V1,V2,V3,V4,V5,V6,V8,Ue,Uf,Ug,Uh,Ui,Uj,U5,K9,Kh,Ks,Mr,K6,K1,K2,Ku,H2,Nr];tactic =>
   try simp only [Uq] at *;try simp only [nc2] at *
   try simp (maxSteps:=4000000) only [hd2,hb,hge,h63,q1,hsn,hssm,hsl2,hR,lQ,U1,Gl,F8,K3,K4,K5,Ur,Ut,Uv,Us,szN,Uu,U6]
   repeat' first|with_reducible assumption|with_reducible apply And.intro|intro _|omega|(rw [Uk];omega)
   all_goals first|contradiction|with_reducible exact okq|exact hS|omega|rfl|skip)
 | false =>
 rw [h63,if_neg (by simp)] at hR2
 obtain ⟨bs,hbs⟩:∃ b,base4 t=b:=⟨_,rfl⟩
 rw [hbs] at hR2
 by_cases hb0:0≤bs
 ·rw [if_pos hb0] at hR2
  have hbb:leB 0 bs=true:=by rw [G4];exact hb0
  have hw:Ld ⟨(k:Int),si,ss,e⟩=⟨(k:Int)+1,si,ss,e⟩:=rfl
  rw [hw] at hR2
  subst hR2
  (sym=>simp [hd2,hb,hge,h63,q1,hbs,hbb,hR,lQ,U1,Kb,Kc,Ka,Gl,K3,K4,K5,Ur,Ut,Uv,Us,szN,Uu,B3,B5,B4,B6,B1,Dy,N0.eq_def,Ps.eq_def,nQ,nJ,Mi.eq_def,mV,nZ,Zb,Zc,Ze,Zf,Zh,Zi,Zj,Zk,Zl,Zm,Zn,Zo,Zp,Zq,Zr,Zs,Zu,Zv,Zw,Zx,Zy,Z1,Z2,Z6,Qb,Qd,Qf,Qg,Qh,Qj,Qm,Qn,Qo,Qp,Qq,Qr,Qs,Qt,Qu,Qv,Qw,Qx,Qy,Qz,Q0,Q1,Q3,Q4,Q5,Q6,Q7,Q8,Q9,Ja,Jb,Jc,Jd,Je,Jf,Jj,Jq,Jr,Js,Jt,Jv,Jw,Jy,Jz,J0,J1,J2,J4,J6,J7,J8,Xa,Xb,Xd,Xf,Xi,Xj,Xk,Xl,Xm,Xq,Xr,Xs,Xt,Xu,Xv,Xw,Xx,Xy,X0,X1,X2,X4,X6,X7,X8,X9,Wb,Wc,Wd,Wf,Wg,Wh,Wi,Wj,Wl,Wm,Wn,Wo,Wp,Wt,Wx,W1,W2,W6,Yc,Yd,Yf,Yg,Yn,Yo,Yp,Yr,Ys,Yt,Yu,Yv,Yw,Yx,Yy,Yz,Y2,Y3,Y4,Y7,Y9,Va,Vi,Vj,Vl,Vm,Vn,Vo,Vr,Vy,Vz,V0,V1,V2,V3,V4,V5,V6,V8,Ui,Uj,U5,K9,Kh,Ks,Mr,K6,K1,K2,Ku,H2,Nr];tactic =>
   try simp only [Uq] at *;try simp only [nc2] at *
   try simp (maxSteps:=4000000) only [hd2,hb,hge,h63,q1,hbs,hbb,hR,lQ,U1,Kb,Kc,Ka,Gl,K3,K4,K5,Ur,Ut,Uv,Us,szN,Uu,U6]
   repeat' first|with_reducible assumption|with_reducible apply And.intro|intro _|omega|(rw [Uk];omega)
   all_goals first|contradiction|with_reducible exact okq|exact hS|omega|rfl|skip)
 rw [if_neg hb0] at hR2
 have hbb:leB 0 bs=false:=by rw [←Bool.not_eq_true,G4];exact hb0
 have hw5:Tc ⟨(k:Int),si,ss,e⟩ (k:Int) 4=⟨k,si,ss,4⟩:=rfl
 have hw2:Tc ⟨(k:Int),si,ss,e⟩ (k:Int) 2=⟨k,si,ss,2⟩:=rfl
 have hadv:Ld ⟨(k:Int),si,ss,e⟩=⟨(k:Int)+1,si,ss,e⟩:=rfl
 have hadv2:Ld ⟨(k:Int)+1,si,ss,e⟩=⟨(k:Int)+1+1,si,ss,e⟩:=rfl
 rw [hadv,hadv2,hw5,hw2] at hR2
 have hok3:St4Ok l ⟨(k:Int)+1,si,ss,e⟩:=⟨hlen,by show 0≤(k:Int)+1;omega,by show (k:Int)+1≤_;omega,by show (ss.length:Int)≤1000000+((k:Int)+1);omega,by show 0≤si∧si≤1000000+((k:Int)+1);omega,hS.txt⟩
 by_cases hnb:is4 l (k:Int) [40]=false∧is4 l (k:Int) [123]=false∧is4 l (k:Int) [91]=false
 ·rw [if_pos hnb] at hR2
  obtain ⟨h40,h123,h91⟩:=hnb
  subst hR2
  (sym=>simp [hd2,hb,hge,h63,q1,hbs,hbb,h40,h123,h91,hw2,hR,lQ,U1,Kb,Kc,Ka,Gl,K3,K4,K5,Ur,Ut,Uv,Us,szN,Uu,B3,B5,B4,B6,B1,N0.eq_def,Ps.eq_def,nQ,nJ,Mi.eq_def,mV,nZ,Zb,Zc,Zd,Ze,Zf,Zn,Zo,Zp,Zq,Zs,Zt,Zu,Zv,Zw,Zx,Zy,Z6,Qb,Qd,Qe,Qf,Qg,Qh,Qj,Qm,Qn,Qo,Qp,Qq,Qr,Qs,Qu,Qv,Qw,Qx,Q1,Q3,Q8,Ja,Jb,Jc,Jd,Je,Jf,Jj,Jq,Jr,Js,Jt,Jv,Jw,Jy,Jz,J2,J3,J6,J7,J8,Xa,Xb,Xd,Xf,Xi,Xj,Xl,Xm,Xq,Xr,Xu,Xw,Xx,Xy,X0,X6,X7,X8,X9,Wb,Wc,Wd,Wf,Wg,Wh,Wi,Wj,Wl,Wm,Wn,Wo,Wp,Wt,Wu,Wx,Wy,W1,W6,Yc,Yd,Yf,Yg,Yn,Yo,Yr,Ys,Yt,Yu,Yv,Yw,Yx,Yy,Yz,Y2,Y3,Y4,Y6,Y7,Y9,Va,Vj,Vk,Vl,Vm,Vn,Vy,Vz,V0,V1,V2,V3,V4,V5,V6,Ui,Uj,U5,K9,Kh,Ks,Mr,K6,K1,K2,Ku,H2,Nr];tactic =>
   try simp only [Uq] at *;try simp only [nc2] at *
   try simp (maxSteps:=4000000) only [hd2,hb,hge,h63,q1,hbs,hbb,h40,h123,h91,hw2,hR,lQ,U1,Kb,Kc,Ka,Gl,K3,K4,K5,Ur,Ut,Uv,Us,szN,Uu,U6]
   repeat' first|with_reducible assumption|with_reducible apply And.intro|intro _|omega|(rw [Uk];omega)
   all_goals first|contradiction|with_reducible exact okq|exact hS|omega|rfl|skip)
 rw [if_neg hnb] at hR2
 have h3:is4 l (k:Int) [40]=true∨(is4 l (k:Int) [123]=true∨is4 l (k:Int) [91]=true):=by
  cases h1:is4 l (k:Int) [40] with
  | true=>exact .inl rfl
  | false =>
   cases h2:is4 l (k:Int) [123] with
   | true=>exact .inr (.inl rfl)
   | false =>
    cases h3:is4 l (k:Int) [91] with
    | true=>exact .inr (.inr rfl)
    | false=>exact absurd ⟨h1,h2,h3⟩ hnb
 clear hnb
 rcases h3 with h40|h123|h91
 ·have htt:=hit h40
  by_cases hd0:d=0
  ·rw [if_pos hd0] at hR2
   have hlv:leB 100 (100-(d:Int))=true:=by rw [G4];omega
   subst hR2
   (sym=>simp [hd2,hb,hge,h63,q1,hbs,hbb,h40,hlv,hw5,hR,lQ,U1,Kb,Kc,Ka,Gl,K3,K4,K5,Ur,Ut,Uv,Us,szN,Uu,B3,B5,B4,B6,B1,N0.eq_def,Ps.eq_def,nQ,nJ,Mi.eq_def,mV,nZ,Zb,Zc,Zd,Ze,Zf,Zn,Zo,Zp,Zq,Zs,Zt,Zu,Zv,Zw,Zx,Zy,Z6,Qb,Qd,Qe,Qf,Qg,Qh,Qj,Qm,Qn,Qo,Qp,Qq,Qr,Qs,Qu,Qv,Qw,Qx,Q1,Q3,Q8,Ja,Jb,Jc,Jd,Je,Jf,Jj,Jq,Jr,Js,Jt,Jv,Jw,Jy,Jz,J2,J3,J6,J7,J8,Xa,Xb,Xd,Xf,Xi,Xj,Xl,Xm,Xq,Xr,Xu,Xw,Xx,Xy,X0,X6,X7,X8,X9,Wb,Wc,Wd,Wf,Wg,Wh,Wi,Wj,Wl,Wm,Wn,Wo,Wp,Wt,Wu,Wx,Wy,W1,W6,Yc,Yd,Yf,Yg,Yn,Yo,Yr,Ys,Yt,Yu,Yv,Yw,Yx,Yy,Yz,Y2,Y3,Y4,Y5,Y7,Y9,Va,Vj,Vk,Vl,Vm,Vn,Vy,Vz,V0,V1,V2,V3,V4,V5,V6,Ui,Uj,U5,K9,Kh,Ks,Mr,K6,K1,K2,Ku,H2,Nr];tactic =>
    try simp only [Uq] at *;try simp only [nc2] at *
    try simp (maxSteps:=4000000) only [hd2,hb,hge,h63,q1,hbs,hbb,h40,hlv,hw5,hR,lQ,U1,Kb,Kc,Ka,Gl,K3,K4,K5,Ur,Ut,Uv,Us,szN,Uu,U6]
    repeat' first|with_reducible assumption|with_reducible apply And.intro|intro _|omega|(rw [Uk];omega)
    all_goals first|contradiction|with_reducible exact okq|exact hS|exact hok3|exact ⟨hok3,he,by show (1:Int)≤(k:Int)+1;omega⟩|exact Or.inr trivial|omega|rfl|skip)
  rw [if_neg hd0] at hR2
  have hlv:leB 100 (100-(d:Int))=false:=by rw [←Bool.not_eq_true,G4];omega
  rw [if_neg (by rw [htt];simp),if_neg (by rw [htt];decide),if_neg (by rw [htt];decide)] at hR2
  have ht1:(t.text==[123])=false:=by rw [htt];rfl
  have ht2:(t.text==[91])=false:=by rw [htt];rfl
  have hE:=Dt (l:=l) d ⟨(k:Int)+1,si,ss,e⟩ hd0 hok3.lo hok3.hi
  obtain ⟨⟨wt,wq⟩,hw⟩:∃ w,M7 d l ⟨(k:Int)+1,si,ss,e⟩=w:=⟨_,rfl⟩
  rw [hw] at hR2 hE
  have hE1:=hE.lo
  have hE2:=hE.hi
  simp only at hR2 hE1 hE2
  obtain ⟨wa,wi,ws,we⟩:=wq
  simp only at hE1 hE2
  obtain ⟨N,hN⟩:∃ N,S1 l ⟨wa,wi,ws,we⟩ [41]=N:=⟨_,rfl⟩
  rw [hN] at hR2
  obtain ⟨na,ni,ns,ne⟩:=N
  subst hR2
  (sym=>simp [hd2,hd3,hb,hge,h63,q1,hbs,hbb,h40,hlv,ht1,ht2,hw,hN,hR,lQ,U1,Kb,Kc,Ka,Gl,K3,K4,K5,Ur,Ut,Uv,Us,szN,Uu,B3,B5,B4,B6,B1,Dy,N0.eq_def,Ps.eq_def,nQ,nJ,Mi.eq_def,mV,nZ,Zb,Zc,Zd,Ze,Zf,Zn,Zo,Zp,Zq,Zs,Zt,Zu,Zv,Zw,Zx,Zy,Z6,Qa,Qb,Qd,Qe,Qf,Qg,Qh,Qi,Qj,Qm,Qn,Qo,Qp,Qq,Qr,Qs,Qu,Qv,Qw,Qx,Q1,Q2,Q3,Q8,Ja,Jb,Jc,Jd,Je,Jf,Jj,Jq,Jr,Js,Jt,Ju,Jv,Jw,Jx,Jy,Jz,J2,J6,J7,J8,Xa,Xb,Xd,Xf,Xi,Xj,Xl,Xm,Xq,Xr,Xu,Xw,Xx,Xy,X0,X6,X7,X8,X9,Wb,Wc,Wd,Wf,Wg,Wh,Wi,Wj,Wl,Wm,Wn,Wo,Wp,Wt,Wu,Wv,Wx,Wy,Wz,W1,W2,W6,W9,Yb,Yc,Yd,Yf,Yg,Yn,Yo,Yp,Yq,Yr,Ys,Yt,Yu,Yv,Yw,Yx,Yy,Yz,Y2,Y3,Y4,Y5,Y7,Y9,Va,Vj,Vk,Vl,Vm,Vn,Vr,Vz,V0,V1,V2,V3,V4,V5,V6,Ui,Uj,U5,K9,Kh,Ks,Mr,K6,K1,K2,Ku,H2,Nr];tactic =>
   try simp only [Uq] at *;try simp only [nc2] at *
   try simp (maxSteps:=4000000) only [hd2,hd3,hb,hge,h63,q1,hbs,hbb,h40,hlv,ht1,ht2,hw,hN,hR,lQ,U1,Kb,Kc,Ka,Gl,K3,K4,K5,Ur,Ut,Uv,Us,szN,Uu,U6]
   repeat' first|with_reducible assumption|with_reducible apply And.intro|intro _|omega|(rw [Uk];omega)
   all_goals first|contradiction|with_reducible exact okq|exact hS|exact hok3|exact ⟨hok3,he,by show (1:Int)≤(k:Int)+1;omega⟩|exact Or.inr trivial|omega|rfl|skip)
 ·have htt:=hit h123
  have h40:is4 l (k:Int) [40]=false:=is4_other h123 (by decide)
  by_cases hd0:d=0
  ·rw [if_pos hd0] at hR2
   have hlv:leB 100 (100-(d:Int))=true:=by rw [G4];omega
   subst hR2
   (sym=>simp [hd2,hb,hge,h63,q1,hbs,hbb,h40,h123,hlv,hw5,hR,lQ,U1,Kb,Kc,Ka,Gl,K3,K4,K5,Ur,Ut,Uv,Us,szN,Uu,B3,B5,B4,B6,B1,N0.eq_def,Ps.eq_def,nQ,nJ,Mi.eq_def,mV,nZ,Zb,Zc,Zd,Ze,Zf,Zn,Zo,Zp,Zq,Zs,Zt,Zu,Zv,Zw,Zx,Zy,Z6,Qb,Qd,Qe,Qf,Qg,Qh,Qj,Qm,Qn,Qo,Qp,Qq,Qr,Qs,Qu,Qv,Qw,Qx,Q1,Q3,Q8,Ja,Jb,Jc,Jd,Je,Jf,Jj,Jq,Jr,Js,Jt,Jv,Jw,Jy,Jz,J2,J3,J6,J7,J8,Xa,Xb,Xd,Xf,Xi,Xj,Xl,Xm,Xq,Xr,Xu,Xw,Xx,Xy,X0,X6,X7,X8,X9,Wb,Wc,Wd,Wf,Wg,Wh,Wi,Wj,Wl,Wm,Wn,Wo,Wp,Wt,Wu,Wx,Wy,W1,W6,Yc,Yd,Yf,Yg,Yn,Yo,Yr,Ys,Yt,Yu,Yv,Yw,Yx,Yy,Yz,Y2,Y3,Y4,Y5,Y6,Y7,Y9,Va,Vj,Vk,Vl,Vm,Vn,Vy,Vz,V0,V1,V2,V3,V4,V5,V6,Ui,Uj,U5,K9,Kh,Ks,Mr,K6,K1,K2,Ku,H2,Nr];tactic =>
    try simp only [Uq] at *;try simp only [nc2] at *
    try simp (maxSteps:=4000000) only [hd2,hb,hge,h63,q1,hbs,hbb,h40,h123,hlv,hw5,hR,lQ,U1,Kb,Kc,Ka,Gl,K3,K4,K5,Ur,Ut,Uv,Us,szN,Uu,U6]
    repeat' first|with_reducible assumption|with_reducible apply And.intro|intro _|omega|(rw [Uk];omega)
    all_goals first|contradiction|with_reducible exact okq|exact hS|exact hok3|exact ⟨hok3,he,by show (1:Int)≤(k:Int)+1;omega⟩|exact Or.inr trivial|omega|rfl|skip)
  rw [if_neg hd0] at hR2
  have hlv:leB 100 (100-(d:Int))=false:=by rw [←Bool.not_eq_true,G4];omega
  have ht1:(t.text==[123])=true:=by rw [htt];rfl
  cases h125:is4 l ((k:Int)+1) [125] with
  | true =>
   rw [if_pos ⟨htt,h125⟩] at hR2
   subst hR2
   (sym=>simp [hd2,hd3,hb,hge,h63,q1,hbs,hbb,h40,h123,hlv,ht1,h125,hR,lQ,U1,Kb,Kc,Ka,Gl,K3,K4,K5,Ur,Ut,Uv,Us,szN,Uu,B3,B5,B4,B6,B1,Dy,N0.eq_def,Ps.eq_def,nQ,nJ,Mi.eq_def,mV,nZ,Zb,Zc,Zd,Ze,Zf,Zh,Zi,Zj,Zk,Zl,Zm,Zn,Zo,Zp,Zq,Zr,Zs,Zt,Zu,Zv,Zw,Zx,Zy,Z1,Z2,Z6,Qb,Qd,Qe,Qf,Qg,Qh,Qj,Qm,Qn,Qo,Qp,Qq,Qr,Qs,Qt,Qu,Qv,Qw,Qx,Qy,Qz,Q0,Q1,Q3,Q4,Q5,Q6,Q7,Q8,Q9,Ja,Jb,Jc,Jd,Je,Jf,Jj,Jq,Jr,Js,Jt,Jv,Jw,Jy,Jz,J0,J1,J2,J4,J6,J7,J8,Xa,Xb,Xd,Xf,Xi,Xj,Xk,Xl,Xm,Xq,Xr,Xs,Xt,Xu,Xv,Xw,Xx,Xy,X0,X1,X2,X4,X6,X7,X8,X9,Wb,Wc,Wd,Wf,Wg,Wh,Wi,Wj,Wl,Wm,Wn,Wo,Wp,Wt,Wu,Wv,Wx,Wy,Wz,W1,W2,W6,W9,Yb,Yc,Yd,Yf,Yg,Yn,Yo,Yp,Yr,Ys,Yt,Yu,Yv,Yw,Yx,Yy,Yz,Y2,Y3,Y4,Y5,Y6,Y7,Y9,Va,Vi,Vj,Vk,Vl,Vm,Vn,Vo,Vr,Vy,Vz,V0,V1,V2,V3,V4,V5,V6,V8,Ui,Uj,U5,K9,Kh,Ks,Mr,K6,K1,K2,Ku,H2,Nr];tactic =>
    try simp only [Uq] at *;try simp only [nc2] at *
    try simp (maxSteps:=4000000) only [hd2,hd3,hb,hge,h63,q1,hbs,hbb,h40,h123,hlv,ht1,h125,hR,lQ,U1,Kb,Kc,Ka,Gl,K3,K4,K5,Ur,Ut,Uv,Us,szN,Uu,U6]
    repeat' first|with_reducible assumption|with_reducible apply And.intro|intro _|omega|(rw [Uk];omega)
    all_goals first|contradiction|with_reducible exact okq|exact hS|exact hok3|exact ⟨hok3,he,by show (1:Int)≤(k:Int)+1;omega⟩|exact Or.inr trivial|omega|rfl|skip)
  | false =>
   rw [if_neg (by rw [h125];simp),if_pos htt] at hR2
   obtain ⟨⟨wt,wq⟩,hw⟩:∃ w,rows4 (M7 d) l ⟨(k:Int)+1,si,ss,e⟩ 6 [44] [125]=w:=⟨_,rfl⟩
   rw [hw] at hR2
   obtain ⟨wa,wi,ws,we⟩:=wq
   subst hR2
   (sym=>simp [hd2,hd3,hb,hge,h63,q1,hbs,hbb,h40,h123,hlv,ht1,h125,hw,hR,lQ,nX,U1,Kb,Kc,Ka,Gl,K3,K4,K5,Ur,Ut,Uv,Us,szN,Uu,B3,B5,B4,B6,B1,Dy,N0.eq_def,Ps.eq_def,nQ,nJ,Mi.eq_def,mV,nZ,Zb,Zc,Zd,Ze,Zf,Zn,Zo,Zp,Zq,Zs,Zt,Zu,Zv,Zw,Zx,Zy,Z6,Qa,Qb,Qd,Qe,Qf,Qg,Qh,Qi,Qj,Qm,Qn,Qo,Qp,Qq,Qr,Qs,Qu,Qv,Qw,Qx,Q1,Q2,Q3,Q8,Ja,Jb,Jc,Jd,Je,Jf,Jj,Jq,Jr,Js,Jt,Jv,Jw,Jy,Jz,J2,J6,J7,J8,Xa,Xb,Xd,Xf,Xi,Xj,Xl,Xm,Xq,Xr,Xu,Xw,Xx,Xy,X0,X6,X7,X8,X9,Wb,Wc,Wd,Wf,Wg,Wh,Wi,Wj,Wl,Wm,Wn,Wo,Wp,Wt,Wu,Wv,Wx,Wy,Wz,W1,W2,W6,W9,Yb,Yc,Yd,Yf,Yg,Yn,Yo,Yr,Ys,Yt,Yu,Yv,Yw,Yx,Yy,Yz,Y2,Y3,Y4,Y5,Y6,Y7,Y9,Va,Vj,Vk,Vl,Vm,Vn,Vr,Vy,Vz,V0,V1,V2,V3,V4,V5,V6,Ui,Uj,U5,K9,Kh,Ks,Mr,K6,K1,K2,Ku,H2,Nr];tactic =>
    try simp only [Uq] at *;try simp only [nc2] at *
    try simp (maxSteps:=4000000) only [hd2,hd3,hb,hge,h63,q1,hbs,hbb,h40,h123,hlv,ht1,h125,hw,hR,lQ,nX,U1,Kb,Kc,Ka,Gl,K3,K4,K5,Ur,Ut,Uv,Us,szN,Uu,U6]
    repeat' first|with_reducible assumption|with_reducible apply And.intro|intro _|omega|(rw [Uk];omega)
    all_goals first|contradiction|with_reducible exact okq|exact hS|exact hok3|exact ⟨hok3,he,by show (1:Int)≤(k:Int)+1;omega⟩|exact Or.inr trivial|omega|rfl|skip)
 ·have htt:=hit h91
  have h40:is4 l (k:Int) [40]=false:=is4_other h91 (by decide)
  have h123:is4 l (k:Int) [123]=false:=is4_other h91 (by decide)
  by_cases hd0:d=0
  ·rw [if_pos hd0] at hR2
   have hlv:leB 100 (100-(d:Int))=true:=by rw [G4];omega
   subst hR2
   (sym=>simp [hd2,hb,hge,h63,q1,hbs,hbb,h40,h123,h91,hlv,hw5,hR,lQ,U1,Kb,Kc,Ka,Gl,K3,K4,K5,Ur,Ut,Uv,Us,szN,Uu,B3,B5,B4,B6,B1,N0.eq_def,Ps.eq_def,nQ,nJ,Mi.eq_def,mV,nZ,Zb,Zc,Zd,Ze,Zf,Zn,Zo,Zp,Zq,Zs,Zt,Zu,Zv,Zw,Zx,Zy,Z6,Qb,Qd,Qe,Qf,Qg,Qh,Qj,Qm,Qn,Qo,Qp,Qq,Qr,Qs,Qu,Qv,Qw,Qx,Q1,Q3,Q8,Ja,Jb,Jc,Jd,Je,Jf,Jj,Jq,Jr,Js,Jt,Jv,Jw,Jy,Jz,J2,J3,J6,J7,J8,Xa,Xb,Xd,Xf,Xi,Xj,Xl,Xm,Xq,Xr,Xu,Xw,Xx,Xy,X0,X6,X7,X8,X9,Wb,Wc,Wd,Wf,Wg,Wh,Wi,Wj,Wl,Wm,Wn,Wo,Wp,Wt,Wu,Wx,Wy,W1,W6,Yc,Yd,Yf,Yg,Yn,Yo,Yr,Ys,Yt,Yu,Yv,Yw,Yx,Yy,Yz,Y2,Y3,Y4,Y5,Y6,Y7,Y9,Va,Vj,Vk,Vl,Vm,Vn,Vy,Vz,V0,V1,V2,V3,V4,V5,V6,Ui,Uj,U5,K9,Kh,Ks,Mr,K6,K1,K2,Ku,H2,Nr];tactic =>
    try simp only [Uq] at *;try simp only [nc2] at *
    try simp (maxSteps:=4000000) only [hd2,hb,hge,h63,q1,hbs,hbb,h40,h123,h91,hlv,hw5,hR,lQ,U1,Kb,Kc,Ka,Gl,K3,K4,K5,Ur,Ut,Uv,Us,szN,Uu,U6]
    repeat' first|with_reducible assumption|with_reducible apply And.intro|intro _|omega|(rw [Uk];omega)
    all_goals first|contradiction|with_reducible exact okq|exact hS|exact hok3|exact ⟨hok3,he,by show (1:Int)≤(k:Int)+1;omega⟩|exact Or.inr trivial|omega|rfl|skip)
  rw [if_neg hd0] at hR2
  have hlv:leB 100 (100-(d:Int))=false:=by rw [←Bool.not_eq_true,G4];omega
  have ht1:(t.text==[123])=false:=by rw [htt];rfl
  have ht2:(t.text==[91])=true:=by rw [htt];rfl
  rw [if_neg (by rw [htt];simp),if_neg (by rw [htt];decide),if_pos htt] at hR2
  obtain ⟨⟨wt,wq⟩,hw⟩:∃ w,rows4 (M7 d) l ⟨(k:Int)+1,si,ss,e⟩ 7 [124] [93]=w:=⟨_,rfl⟩
  rw [hw] at hR2
  obtain ⟨wa,wi,ws,we⟩:=wq
  subst hR2
  (sym=>simp [hd2,hd3,hb,hge,h63,q1,hbs,hbb,h40,h123,h91,hlv,ht1,ht2,hw,hR,lQ,nX,U1,Kb,Kc,Ka,Gl,K3,K4,K5,Ur,Ut,Uv,Us,szN,Uu,B3,B5,B4,B6,B1,Dy,N0.eq_def,Ps.eq_def,nQ,nJ,Mi.eq_def,mV,nZ,Zb,Zc,Zd,Ze,Zf,Zn,Zo,Zp,Zq,Zs,Zt,Zu,Zv,Zw,Zx,Zy,Z6,Qa,Qb,Qd,Qe,Qf,Qg,Qh,Qi,Qj,Qm,Qn,Qo,Qp,Qq,Qr,Qs,Qu,Qv,Qw,Qx,Q1,Q2,Q3,Q8,Ja,Jb,Jc,Jd,Je,Jf,Jj,Jq,Jr,Js,Jt,Jv,Jw,Jy,Jz,J2,J6,J7,J8,Xa,Xb,Xd,Xf,Xi,Xj,Xl,Xm,Xq,Xr,Xu,Xw,Xx,Xy,X0,X6,X7,X8,X9,Wb,Wc,Wd,Wf,Wg,Wh,Wi,Wj,Wl,Wm,Wn,Wo,Wp,Wt,Wu,Wv,Wx,Wy,Wz,W1,W2,W6,W9,Yb,Yc,Yd,Yf,Yg,Yn,Yo,Yr,Ys,Yt,Yu,Yv,Yw,Yx,Yy,Yz,Y2,Y3,Y4,Y5,Y6,Y7,Y9,Va,Vj,Vk,Vl,Vm,Vn,Vr,Vy,Vz,V0,V1,V2,V3,V4,V5,V6,Ui,Uj,U5,K9,Kh,Ks,Mr,K6,K1,K2,Ku,H2,Nr];tactic =>
   try simp only [Uq] at *;try simp only [nc2] at *
   try simp (maxSteps:=4000000) only [hd2,hd3,hb,hge,h63,q1,hbs,hbb,h40,h123,h91,hlv,ht1,ht2,hw,hR,lQ,nX,U1,Kb,Kc,Ka,Gl,K3,K4,K5,Ur,Ut,Uv,Us,szN,Uu,U6]
   repeat' first|with_reducible assumption|with_reducible apply And.intro|intro _|omega|(rw [Uk];omega)
   all_goals first|contradiction|with_reducible exact okq|exact hS|exact hok3|exact ⟨hok3,he,by show (1:Int)≤(k:Int)+1;omega⟩|exact Or.inr trivial|omega|rfl|skip)
theorem any_snoc {l:List (List UInt8)} {x:List UInt8} {j:Nat} (h:j<l.length) (hx:(l.getD j []==x)=true):(l.any fun y=>y==x)=true:=any_at (p:=fun y=>y==x) [] j h hx
theorem str_snoc {l:List (List UInt8)} {x:List UInt8}:l.map (enc:List UInt8→D)++[.str x]=(l++[x]).map enc:=by rw [List.map_append];rfl
theorem map_sll {l:List (List Node)}:(l.map Sl.mk).map Sl.l=l:=by
 rw [List.map_map]
 have:(Sl.l∘Sl.mk:List Node→List Node)=id:=rfl
 rw [this,List.map_id]
noncomputable def Ad (n:Nat):Ctx:=⟨tab,lkC [(89,He),(90,Ge),(95,Gt),(83,(Kz n)),(100,Me),(42,Kd),(40,Kj)],60,lkB [],[],false⟩
theorem H6 (n:Nat):(Ad n).τ=tab:=rfl
theorem Nn (n:Nat):(Ad n).Γ=lkC [(89,He),(90,Ge),(95,Gt),(83,(Kz n)),(100,Me),(42,Kd),(40,Kj)]:=rfl
theorem N4 (n:Nat):(Ad n).dp=60:=rfl
theorem Np (n:Nat):(Ad n).Δ=lkB []:=rfl
theorem M6 (n:Nat):(Ad n).cuts=[]:=rfl
theorem Sr (n:Nat):(Ad n).wr=false:=rfl
set_option maxRecDepth 100000 in
theorem stepi_rows4 (n:Nat) (ih:IH4 n):Hg Try.prog (94,(Mi (n+1))):=by
 refine ⟨Ke Try.func94 (by kernel_rfl) rfl,?_⟩
 have K:Gu Try.prog (Ad n):=Ko G7 Kw (by
  intro p hp
  simp only [bQ,bZ,or_false] at hp
  rcases hp with rfl|rfl|rfl|rfl|rfl|rfl|rfl
  ·exact good_is4
  ·exact good_wrong4
  ·exact good_needs4
  ·exact ih.whole
  ·exact good_Row3
  ·exact Cr
  ·exact Fx) (by simp)
 obtain ⟨c,hc⟩:∃ c,Try.f94.body=some c:=⟨_,rfl⟩
 refine Kn K Try.func94 hc [.tmp 12,.cell 13 125] rfl 156 rfl (fun cvs hpre=>?_)
 change (Mi (n+1)).pre cvs at hpre
 unfold Mi at hpre
 obtain ⟨⟨l⟩,⟨k0,si0,ss0,e0'⟩,v,kind,bt,fin,rfl,⟨hS,he0,hk1⟩,hk,hv1,hv2,hn⟩:=cn6t_pre hpre
 simp only at hS he0 hk1
 subst he0
 clear hpre
 obtain ⟨w,hw⟩:∃ w,M7 (101-v).toNat=w:=⟨_,rfl⟩
 have hEw:∀ s:St4,0≤s.at_→s.at_≤l.length→Eats l s (w l s):=fun s h1 h2=>by rw [←hw];exact Dt _ s (by omega) h1 h2
 have hlen:=hS.len
 have htxt:=hS.txt
 obtain ⟨R,hR⟩:∃ R,rows4 w l ⟨k0,si0,ss0,0⟩ kind bt fin=R:=⟨_,rfl⟩
 have hR2:=hR
 unfold rows4 at hR2
 simp only [Try.f94,aZ] at hc
 subst hc
 refine Gf 9 (of_decide_eq_true (by kernel_rfl)) ?_
 rcases hk with rfl|rfl
 ·(sym=>simp [hw,nX,K3,K4,K5,H6,Mi.eq_def,Zb,Zc,Ze,Zf,Zn,Zo,Zp,Zq,Zr,Zu,Z1,Qn,Qs,Qu,Qv,Qw,Qx,Q4,Q5,Q6,Q7,Q9,Ja,Jb,Jj,Jq,Jr,Js,Jt,Jv,Jw,Jy,Jz,J0,J6,J7,Xa,Xb,Xj,Xl,Xn,Xo,Xr,Xu,Xw,Xx,Xy,X0,X1,X6,X7,X8,X9,Wc,Wf,Wg,Wh,Wi,Wj,Wl,Wo,Wp,W6,Yc,Ye,Yn,Yo,Yr,Ys,Yt,Yu,Yv,Yw,Yx,Yy,Yz,Y9,Va,Vm,V0,V1,V2,V5,V6,U5,K9,Kh,Gg,Ks,K6,K1,Nw,K2,Ku,Nr];tactic =>
   try simp only [Uq] at *;try simp only [nc2] at *
   try simp (maxSteps:=4000000) only [hw,nX,K3,K4,K5,U6]
   repeat' first|with_reducible assumption|with_reducible apply And.intro|intro _|omega|(rw [Uk];omega)
   refine Kk [12,16,17,18,19,20,21,24,25,26,27,28,29,30,31,32,33,34,35,36,37,38,39,40,41,42,43,44,45,46,47,48,49,50,51,52,53,54,55,56,57,58,59,60,61,62,63,64,65,66,67,68,69,70,71,72,73,74,75,76,77,78,79,80,81,82,83,84,85,86,87,88,89,90,91,92,93,94,95,96,97,98,99,100,101,102,103,104,105,106,107,108,109,110,111,112,113,114,115,116,117,118,119,120,121,122,123,124,125,126,127,128,129,130,131,132,133,134,135,136,137,138,139,140,141,142,143,144,145,146,147,148,149,150,151,152,153,154,155] (fun p:Nat×Int×Int×List Site×List (List UInt8)×List (List Node)=>[(14,.sl 22 (p.2.2.2.2.1.map (enc:List UInt8→D)).length),(15,.sl 23 ((p.2.2.2.2.2.map Sl.mk).map (enc:Sl Node→D)).length)]) (fun p:Nat×Int×Int×List Site×List (List UInt8)×List (List Node)=>[(7,.box true [.d (.int .i64 p.2.1),.d (.int .i64 p.2.2.1),.d (.list 3 (p.2.2.2.1.map enc)),.d (.int .i64 0)]),(22,.row 1 (p.2.2.2.2.1.map enc) 0),(23,.row 1 ((p.2.2.2.2.2.map Sl.mk).map enc) 0)]) (fun p:Nat×Int×Int×List Site×List (List UInt8)×List (List Node)=>p.1+p.2.2.2.2.1.length=51∧p.2.2.2.2.1.length≤50∧p.2.2.2.2.1.length=p.2.2.2.2.2.length∧(tsum p.2.2.2.2.2:Int)≤p.2.1∧St4Ok l ⟨p.2.1,p.2.2.1,p.2.2.2.1,0⟩∧(∀ t∈p.2.2.2.2.2,t≠[])∧(∀ x∈p.2.2.2.2.1,x.length≤9223372036854775807)∧rows4L w l 6 bt fin p.1 ⟨p.2.1,p.2.2.1,p.2.2.2.1,0⟩ p.2.2.2.2.1 p.2.2.2.2.2=R) (fun p:Nat×Int×Int×List Site×List (List UInt8)×List (List Node)=>51-p.2.2.2.2.1.length) (51,k0,si0,ss0,[],[]) ?_ ?_ ?_
   ·exact ⟨rfl,by simp,rfl,by show (0:Int)≤k0;omega,hS,by simp,by simp,hR2⟩
   ·exact wkq
   rintro ⟨f,k,si,ss,labels,types⟩ ⟨g1,g2,g3,g4,g6,g7,g8,g9⟩
   simp only at g1 g2 g3 g4 g6 g7 g8 g9
   have hlo:=g6.lo
   have hhi:=g6.hi
   simp only at hlo hhi
   obtain ⟨k,rfl⟩:∃ n:Nat,k=n:=⟨k.toNat,by omega⟩
   obtain ⟨f,rfl⟩:∃ g,f=g+1:=⟨f-1,by omega⟩
   rw [rows4L] at g9
   simp only [C6] at g9
   have hw2:Tc ⟨(k:Int),si,ss,0⟩ (k:Int) 2=⟨k,si,ss,2⟩:=rfl
   have hw7:Tc ⟨(k:Int),si,ss,0⟩ (k:Int) 7=⟨k,si,ss,7⟩:=rfl
   have hw3:Tc ⟨(k:Int),si,ss,0⟩ (k:Int) 3=⟨k,si,ss,3⟩:=rfl
   have hadv:Ld ⟨(k:Int),si,ss,0⟩=⟨(k:Int)+1,si,ss,0⟩:=rfl
   rw [hw2,hw7,hw3,hadv] at g9
   have hwt:want4 6=1:=by decide
   have hbd:badL4 l 6 ⟨(k:Int),si,ss,0⟩=(leB l.length (k:Int)||(!((l.getD k Td).kind==1)||!Lf (l.getD k Td).text)):=by
    unfold badL4
    rw [hwt]
    simp only [C6]
    simp
   have hll:(labels.map (enc:List UInt8→D)).length=labels.length:=bV ..
   have htl:((types.map Sl.mk).map (enc:Sl Node→D)).length=types.length:=by rw [bV,bV]
   have hkd7:(((6:Int)==7)=false):=by decide
   cases hge:leB l.length (k:Int) with
   | true =>
    rw [if_pos (by rw [hbd,hge];rfl)] at g9
    subst g9
    (sym=>simp [hge,hw,hw2,hR,nX,U1,Kb,Kc,Ka,Gl,K3,K4,K5,H6,Nn,N4,Np,M6,lV,lY,oJ,nQ,nJ,mV,nZ,Zb,Zc,Zd,Ze,Zf,Zg,Zn,Zo,Zp,Zq,Zs,Zt,Zv,Zw,Zx,Z6,Qb,Qd,Qf,Qg,Qh,Qj,Qm,Qn,Qo,Qp,Qq,Qr,Qs,Qu,Qv,Qw,Qx,Q1,Q3,Q8,Ja,Jb,Jc,Jd,Je,Jf,Jl,Jm,Jn,Js,Jt,Jv,Jw,Jx,Jy,Jz,J2,J3,Xb,Xd,Xf,Xh,Xi,Xj,Xl,Xm,Xn,Xq,Xr,Xu,Xw,Xx,Xy,X6,X7,X8,X9,Wb,Wd,Wf,Wh,Wi,Wj,Wl,Wm,Wn,Wo,Wp,Wr,Wt,Wx,W6,Yf,Yg,Yn,Yo,Yp,Yq,Ys,Yt,Yu,Yv,Yw,Yx,Y2,Y9,Va,Vj,Vk,Vm,Vy,Vz,V0,V1,V2,V3,V4,V5,V6,Ui,Uj,U5,K9,Kh,Gg,Ks,K6,K1,Nw,K2,Ku,Nr];tactic =>
     try simp only [Uq] at *;try simp only [nc2] at *
     try simp (maxSteps:=4000000) only [hge,hw,hw2,hR,nX,U1,Kb,Kc,Ka,Gl,K3,K4,K5,U6]
     repeat' first|with_reducible assumption|with_reducible apply And.intro|intro _|omega|(rw [Uk];omega)
     all_goals first|contradiction|with_reducible exact okq|omega|assumption|rfl|trivial|exact Or.inr trivial|skip)
   | false =>
   have hkl:k<l.length:=by rw [←Bool.not_eq_true,G4] at hge;omega
   have q1:=K7 Td hkl
   have htx:=htxt (l.getD k Td) (by simp [hkl])
   obtain ⟨t,ht⟩:∃ t,l.getD k Td=t:=⟨_,rfl⟩
   rw [ht] at q1 htx g9 hbd
   cases hkd:(t.kind==1) with
   | false =>
    have hkn:(t.kind != 1)=true:=by rw [bne,hkd];rfl
    rw [if_pos (by rw [hbd,hge,hkd];rfl)] at g9
    subst g9
    (sym=>simp [hge,q1,hkn,hw,hw2,hR,nX,U1,Kb,Kc,Ka,Gl,K3,K4,K5,H6,Nn,N4,Np,M6,lV,lY,oJ,nQ,nJ,mV,nZ,Zb,Zc,Zd,Ze,Zf,Zg,Zn,Zo,Zp,Zq,Zs,Zt,Zv,Zw,Zx,Zy,Z6,Qb,Qd,Qf,Qg,Qh,Qj,Qm,Qn,Qo,Qp,Qq,Qr,Qs,Qu,Qv,Qw,Qx,Q1,Q3,Q8,Ja,Jb,Jc,Jd,Je,Jf,Jl,Jm,Jn,Js,Jt,Jv,Jw,Jx,Jy,Jz,J2,J3,Xb,Xd,Xf,Xh,Xi,Xj,Xl,Xm,Xn,Xq,Xr,Xu,Xw,Xx,Xy,X6,X7,X8,X9,Wb,Wd,Wf,Wh,Wi,Wj,Wl,Wm,Wn,Wo,Wp,Wr,Wt,Wx,W1,W6,W7,Yb,Yf,Yg,Yn,Yo,Yp,Yq,Ys,Yt,Yu,Yv,Yw,Yx,Y2,Y7,Y9,Va,Vj,Vk,Vm,Vy,Vz,V0,V1,V2,V3,V4,V5,V6,Ui,Uj,U5,K9,Kh,Gg,Ks,K6,K1,Nw,K2,Ku,Nr];tactic =>
     try simp only [Uq] at *;try simp only [nc2] at *
     try simp (maxSteps:=4000000) only [hge,q1,hkn,hw,hw2,hR,nX,U1,Kb,Kc,Ka,Gl,K3,K4,K5,U6]
     repeat' first|with_reducible assumption|with_reducible apply And.intro|intro _|omega|(rw [Uk];omega)
     all_goals first|contradiction|with_reducible exact okq|omega|assumption|rfl|trivial|exact Or.inr trivial|skip)
   | true =>
   have hkn:(t.kind != 1)=false:=by rw [bne,hkd];rfl
   cases hP:Lf t.text with
   | false =>
    rw [if_pos (by rw [hbd,hge,hkd,hP];rfl)] at g9
    subst g9
    (sym=>simp [hge,q1,hkn,hP,hw,hw2,hR,nX,U1,Kb,Kc,Ka,Gl,K3,K4,K5,H6,Nn,N4,Np,M6,lV,lY,oJ,nQ,nJ,mV,nZ,Zb,Zc,Zd,Ze,Zf,Zg,Zn,Zo,Zp,Zq,Zs,Zt,Zv,Zw,Zx,Zy,Z6,Qb,Qd,Qe,Qf,Qg,Qh,Qj,Qm,Qn,Qo,Qp,Qq,Qr,Qs,Qu,Qv,Qw,Qx,Q1,Q3,Q8,Ja,Jb,Jc,Jd,Je,Jf,Jl,Jm,Jn,Js,Jt,Jv,Jw,Jx,Jy,Jz,J2,J3,Xb,Xd,Xf,Xh,Xi,Xj,Xl,Xm,Xn,Xq,Xr,Xu,Xw,Xx,Xy,X6,X7,X8,X9,Wb,Wd,Wf,Wh,Wi,Wj,Wl,Wm,Wn,Wo,Wp,Wr,Wt,Wu,Wx,Wy,W1,W6,W7,W9,Yb,Yd,Yf,Yg,Yn,Yo,Yp,Yq,Ys,Yt,Yu,Yv,Yw,Yx,Yy,Y2,Y3,Y6,Y7,Y9,Va,Vj,Vk,Vm,Vy,Vz,V0,V1,V2,V3,V4,V5,V6,Ui,Uj,U5,K9,Kh,Gg,Ks,K6,K1,Nw,K2,Ku,Nr];tactic =>
     try simp only [Uq] at *;try simp only [nc2] at *
     try simp (maxSteps:=4000000) only [hge,q1,hkn,hP,hw,hw2,hR,nX,U1,Kb,Kc,Ka,Gl,K3,K4,K5,U6]
     repeat' first|with_reducible assumption|with_reducible apply And.intro|intro _|omega|(rw [Uk];omega)
     all_goals first|contradiction|with_reducible exact okq|omega|assumption|rfl|trivial|exact Or.inr trivial|skip)
   | true =>
   rw [if_neg (by rw [hbd,hge,hkd,hP];simp)] at g9
   (sym=>simp [hge,q1,hkn,hP,hll,U1,Kb,Kc,Ka,Gl,K3,K4,K5,H6,Nn,N4,Np,M6,lV,lY,oJ,nQ,nJ,mV,nZ,Zb,Zc,Zd,Ze,Zf,Zo,Zp,Zq,Zs,Zt,Zv,Zx,Zy,Z6,Qb,Qd,Qe,Qf,Qg,Qh,Qo,Qs,Qu,Qv,Qw,Qx,Q1,Q8,Ja,Jb,Jc,Je,Jf,Jl,Jm,Jn,Js,Jt,Jv,Jw,Jx,Jy,Jz,J2,Xd,Xf,Xh,Xi,Xj,Xl,Xm,Xn,Xo,Xr,Xu,Xw,Xx,Xy,X6,X7,X8,X9,Wb,Wd,Wf,Wj,Wl,Wm,Wn,Wo,Wp,Wr,Wt,Wu,Wx,Wy,W1,W7,W9,Yb,Yd,Yf,Yg,Yn,Yo,Yp,Yq,Yy,Y3,Y5,Y7,Y9,Va,Vj,Vk,Vy,Vz,V0,V1,V2,V3,V5,V6,Ui,U5,K9,Kh,Gg,Ks,K6,K1,Nw,K2,Ku,Nr];tactic =>
    try simp only [Uq] at *;try simp only [nc2] at *
    try simp (maxSteps:=4000000) only [hge,q1,hkn,hP,hll,U1,Kb,Kc,Ka,Gl,K3,K4,K5,U6]
    repeat' first|with_reducible assumption|with_reducible apply And.intro|intro _|omega|(rw [Uk];omega)
    all_goals first|contradiction|with_reducible exact okq|omega|assumption|skip
    refine Kk [12,73,74,75,76,77,78,79,80,81,82,83,84,85,86,87,88,89,90,91,92,93] (fun j:Nat=>[(17,.d (.int .i64 j))]) (fun j:Nat=>[]) (fun j:Nat=>j≤labels.length∧∀ m,m<j→(labels.getD m []==t.text)=false) (fun j:Nat=>labels.length-j) 0 ?_ ?_ ?_
    ·simp
    ·exact wkq
    rintro j ⟨hj,hno⟩
    rcases Kt j labels.length with ⟨hjt,hjb⟩|⟨hjt,hjb⟩
    ·have q2:=K7 ([]:List UInt8) hjt
     have hany:=any_snoc (x:=t.text) hjt
     have hst:(labels.getD j []==t.text)=false→∀ m,m<j+1→(labels.getD m []==t.text)=false:=fun h=>A1 hno h
     obtain ⟨Q,hQ⟩:∃ Q,(∀ m,m<j+1→(labels.getD m []==t.text)=false)=Q:=⟨_,rfl⟩
     rw [hQ] at hst
     obtain ⟨y,hy⟩:∃ y,labels.getD j []=y:=⟨_,rfl⟩
     rw [hy] at q2 hany hst
     cases hb:(y==t.text) with
     | true =>
      rw [if_pos (hany hb)] at g9
      subst g9
      (sym=>simp [hjb,hll,q1,q2,hb,hw,hw7,hR,nX,U1,Kb,Kc,Ka,Gl,K3,K4,K5,H6,Nn,N4,Np,Sr,lV,lY,oJ,nQ,nJ,mV,nZ,Zb,Zc,Ze,Zf,Zg,Zh,Zi,Zj,Zk,Zl,Zm,Zn,Zo,Zp,Zq,Zs,Zv,Zw,Zx,Zy,Z6,Qb,Qd,Qf,Qg,Qh,Qj,Qm,Qn,Qo,Qp,Qq,Qr,Qs,Qt,Qu,Qv,Qw,Qx,Qy,Qz,Q1,Q3,Q8,Ja,Jb,Jc,Jd,Je,Jl,Jm,Jn,Js,Jt,Jv,Jw,Jy,Jz,J2,J3,Xb,Xd,Xf,Xh,Xi,Xj,Xk,Xl,Xm,Xn,Xq,Xr,Xs,Xt,Xu,Xv,Xw,Xx,Xy,X2,X6,X7,X8,X9,Wb,Wd,Wf,Wh,Wi,Wj,Wl,Wm,Wn,Wo,Wp,Wr,Wt,Wv,Wx,Wz,W1,W6,W9,Yb,Ye,Yf,Yg,Yn,Yo,Ys,Yt,Yu,Yv,Yw,Yx,Y2,Y7,Y9,Va,Vj,Vm,Vy,Vz,V0,V1,V2,V3,V4,V5,V6,V8,Ui,Uj,U5,K9,Kh,Gg,Ks,K6,K1,Nw,K2,Ku,Nr];tactic =>
       try simp only [Uq] at *;try simp only [nc2] at *
       try simp (maxSteps:=4000000) only [hjb,hll,q1,q2,hb,hw,hw7,hR,nX,U1,Kb,Kc,Ka,Gl,K3,K4,K5,U6]
       repeat' first|with_reducible assumption|with_reducible apply And.intro|intro _|omega|(rw [Uk];omega)
       all_goals first|contradiction|with_reducible exact okq|omega|assumption|rfl|trivial|exact Or.inr trivial|skip)
     | false =>
      have hq:=hst hb
      (sym=>simp [hjb,hll,q1,q2,hb,U1,Kb,Kc,Ka,Gl,K3,K4,K5,H6,Nn,Np,Sr,lV,lY,oJ,nQ,nJ,mV,nZ,Zb,Zc,Ze,Zf,Zg,Zh,Zi,Zj,Zk,Zl,Zm,Zo,Zp,Zq,Zs,Zv,Zx,Zy,Z6,Qd,Qf,Qo,Qs,Qt,Qu,Qv,Qw,Qx,Qy,Qz,Ja,Jl,Jm,Jn,Js,Jt,Jv,Jw,Jy,Jz,Xd,Xf,Xh,Xi,Xj,Xk,Xl,Xm,Xn,Xr,Xs,Xt,Xu,Xv,Xw,Xx,Xy,X2,X6,X7,X8,X9,Wh,Wi,Wj,Wl,Wm,Wn,Wo,Wp,Wr,Wt,Wv,Wx,Wz,W1,W9,Yb,Ye,Yf,Yg,Yn,Yo,Y7,Y9,Va,Vj,Vy,Vz,V0,V1,V2,V3,V4,V5,V6,V8,Ui,U5,K9,Kh,Gg,Ks,K6,K1,Nw,K2,Ku,Nr];tactic =>
       try simp only [Uq] at *;try simp only [nc2] at *
       try simp (maxSteps:=4000000) only [hjb,hll,q1,q2,hb,U1,Kb,Kc,Ka,Gl,K3,K4,K5,U6]
       repeat' first|with_reducible assumption|with_reducible apply And.intro|intro _|omega|(rw [Uk];omega)
       all_goals first|with_reducible exact okq|omega|exact ⟨j+1,wkq,by omega,Eq.mpr hQ hq,by omega⟩|exact ⟨j+1,wkq,by omega,fun m hm=>by have h3:=(Eq.mpr hQ hq:∀ m,m<j+1→(labels.getD m []==t.text)=false) m hm;simpa using h3,by omega⟩|skip)
    ·have hany:(labels.any fun y=>y==t.text)=false:=any_not (p:=fun y=>y==t.text) [] fun m hm=>hno m (by omega)
     rw [if_neg (by rw [hany];simp)] at g9
     by_cases h50:labels.length=50
     ·rw [if_pos h50] at g9
      have h5b:((labels.length:Int)==50)=true:=by rw [cQ];omega
      subst g9
      (sym=>simp [hjb,hll,h5b,q1,hw,hw3,hR,nX,U1,Kb,Kc,Ka,Gl,K3,K4,K5,H6,Nn,N4,Np,M6,lV,lY,oJ,nQ,nJ,mV,nZ,Zb,Zc,Ze,Zf,Zg,Zn,Zo,Zp,Zq,Zs,Zv,Zw,Zx,Z6,Qb,Qd,Qf,Qg,Qh,Qj,Qm,Qn,Qo,Qp,Qq,Qr,Qs,Qu,Qv,Qw,Qx,Q1,Q3,Q8,Ja,Jb,Jc,Jd,Je,Jf,Jl,Jm,Jn,Js,Jt,Jv,Jw,Jy,Jz,J2,J3,Xb,Xd,Xf,Xh,Xj,Xl,Xm,Xp,Xq,Xr,Xu,Xw,Xx,Xy,X6,X7,X8,X9,Wb,Wd,Wf,Wh,Wi,Wj,Wl,Wm,Wo,Wp,Wr,Wt,Wx,W6,Yn,Yo,Ys,Yt,Yu,Yv,Yw,Yx,Y2,Y9,Vj,Vm,Vy,Vz,V0,V1,V2,V3,V4,V5,V6,Ui,Uj,U5,K9,Kh,Gg,Ks,K6,K1,Nw,K2,Ku,Nr];tactic =>
       try simp only [Uq] at *;try simp only [nc2] at *
       try simp (maxSteps:=4000000) only [hjb,hll,h5b,q1,hw,hw3,hR,nX,U1,Kb,Kc,Ka,Gl,K3,K4,K5,U6]
       repeat' first|with_reducible assumption|with_reducible apply And.intro|intro _|omega|(rw [Uk];omega)
       all_goals first|contradiction|with_reducible exact okq|omega|assumption|rfl|trivial|exact Or.inr trivial|skip)
     rw [if_neg h50] at g9
     have h5b:((labels.length:Int)==50)=false:=by rw [aQ];omega
     have hsn:=str_snoc (l:=labels) (x:=t.text)
     have hL2:(labels++[t.text]).length=labels.length+1:=by simp
     have hL2e:∀ x∈labels++[t.text],x.length≤9223372036854775807:=fun x hx=>by
      rcases List.mem_append.1 hx with h|h
      ·exact g8 x h
      ·rw [bW] at h;subst h;exact htx
     obtain ⟨L2,hL2d⟩:∃ L,labels++[t.text]=L:=⟨_,rfl⟩
     rw [hL2d] at g9 hsn hL2 hL2e
     have hL2l:(L2.map (enc:List UInt8→D)).length=labels.length+1:=by rw [bV,hL2]
     have hss:=g6.sites
     have hsi:=g6.site
     simp only at hss hsi
     have hc:=D5 l ⟨(k:Int)+1,si,ss,0⟩ [58]
     obtain ⟨N,hN⟩:∃ N,S1 l ⟨(k:Int)+1,si,ss,0⟩ [58]=N:=⟨_,rfl⟩
     rw [hN] at hc g9
     have hNok:St4Ok l N∧(N.e=0→(k:Int)+2≤N.at_):=by
      rcases hc with ⟨h1,_⟩|⟨_,h2⟩|⟨_,h2,h3⟩
      ·exact absurd rfl h1
      ·rw [h2]
       exact ⟨⟨hlen,by show 0≤(k:Int)+1;omega,by show (k:Int)+1≤l.length;omega,by show (ss.length:Int)≤1000000+((k:Int)+1);omega,by show 0≤si∧si≤1000000+((k:Int)+1);omega,htxt⟩,fun h=>absurd h (by show (2:Int)≠0;decide)⟩
      ·have:=is4_lt h2
       simp only at this
       rw [h3]
       exact ⟨⟨hlen,by show 0≤(k:Int)+1+1;omega,by show (k:Int)+1+1≤l.length;omega,by show (ss.length:Int)≤1000000+((k:Int)+1+1);omega,by show 0≤si∧si≤1000000+((k:Int)+1+1);omega,htxt⟩,fun _=>by show (k:Int)+2≤(k:Int)+1+1;omega⟩
     clear hc
     obtain ⟨hNok,hNk⟩:=hNok
     have hE:=hEw N hNok.lo hNok.hi
     have hwN:=congrFun (congrFun hw l) N
     obtain ⟨⟨u,q⟩,hr⟩:∃ r,w l N=r:=⟨_,rfl⟩
     rw [hr] at hE g9 hwN
     simp only at g9
     obtain ⟨na,ni,ns,ne⟩:=N
     have hqok:q.e=0→St4Ok l q:=fun h=>st4Ok_eats hNok hE h
     have hqlo:=hE.lo
     have hqhi:=hE.hi
     have hqk:=fun h=>hE.ok h
     have hqe2:=hE.err
     simp only at hqlo hqhi hqk hNk hqe2
     obtain ⟨qa,qi,qs,qe⟩:=q
     simp only at hqlo hqhi hqk hqok g9 hqe2
     by_cases hqe:qe=0
     case neg =>
      rw [if_pos hqe] at g9
      have hqb:(qe != 0)=true:=bne_iff_ne.2 hqe
      subst g9
      (sym=>simp [hjb,hll,hL2l,h5b,q1,hsn,hN,hwN,hqb,hw,hR,nX,lQ,U1,Kb,Kc,Ka,Gl,K3,K4,K5,H6,Nn,N4,Np,M6,Sr,lV,lY,oJ,nQ,nJ,mV,nZ,Zb,Zc,Ze,Zf,Zg,Zh,Zi,Zj,Zk,Zl,Zm,Zn,Zo,Zp,Zq,Zr,Zs,Zu,Zv,Zw,Zx,Zy,Z1,Z4,Z5,Z6,Qa,Qb,Qd,Qf,Qg,Qh,Qi,Qj,Qm,Qn,Qo,Qp,Qq,Qr,Qs,Qt,Qu,Qv,Qw,Qx,Qy,Qz,Q1,Q2,Q3,Q4,Q5,Q6,Q7,Q8,Q9,Ja,Jb,Jc,Jd,Je,Jf,Jl,Jm,Jn,Js,Jt,Jv,Jw,Jy,Jz,J0,J1,J2,J3,Xa,Xb,Xd,Xf,Xi,Xj,Xk,Xl,Xm,Xp,Xq,Xr,Xs,Xt,Xu,Xv,Xw,Xx,Xy,Xz,X0,X1,X2,X6,X7,X8,X9,Wb,Wd,Wf,Wg,Wh,Wi,Wj,Wl,Wm,Wn,Wo,Wp,Wr,Wt,Wx,W1,W2,W4,W6,W9,Yb,Yf,Yg,Yn,Yo,Yp,Yr,Ys,Yt,Yu,Yv,Yw,Yx,Yy,Yz,Y2,Y3,Y4,Y7,Y9,Va,Vi,Vj,Vl,Vm,Vn,Vo,Vr,Vy,Vz,V0,V1,V2,V3,V4,V5,V6,V8,Ui,Uj,U5,K9,Kh,Gg,Ks,K6,K1,Nw,K2,Ku,Nr];tactic =>
       try simp only [Uq] at *;try simp only [nc2] at *
       try simp (maxSteps:=4000000) only [hjb,hll,hL2l,h5b,q1,hsn,hN,hwN,hqb,hw,hR,nX,lQ,U1,Kb,Kc,Ka,Gl,K3,K4,K5,U6]
       repeat' first|with_reducible assumption|with_reducible apply And.intro|intro _|omega|(rw [Uk];omega)
       all_goals first|contradiction|with_reducible exact okq|omega|assumption|rfl|trivial|exact Or.inr trivial|skip)
     have hqb:(qe != 0)=false:=by rw [hqe];rfl
     rw [if_neg (by simpa using hqe)] at g9
     obtain ⟨z1,z2,z3⟩:=hqk hqe
     have hqok:=hqok hqe
     have hne0:ne=0:=Classical.byContradiction fun h=>hqe2 h hqe
     have hNk:=hNk hne0
     subst hqe
     have hty:tsum (types++[u])=tsum types+u.length:=by unfold tsum;simp
     have htn:∀ t∈types++[u],t≠[]:=fun x hx=>by
      rcases List.mem_append.1 hx with h|h
      ·exact g7 x h
      ·rw [bW] at h;subst h;exact z3
     have htyl:(types++[u]).length=types.length+1:=by simp
     have hsl:(types.map Sl.mk).map (enc:Sl Node→D)++[enc (Sl.mk u)]=((types++[u]).map Sl.mk).map enc:=by rw [List.map_append,List.map_append];rfl
     obtain ⟨T2,hT2⟩:∃ T,types++[u]=T:=⟨_,rfl⟩
     rw [hT2] at g9 hty htn htyl hsl
     have hT2l:((T2.map Sl.mk).map (enc:Sl Node→D)).length=types.length+1:=by rw [bV,bV,htyl]
     have hms:=map_sll (l:=T2)
     have hRok:RowOk L2 T2:=⟨by omega,by omega,by omega,by omega,htn,hL2e⟩
     cases hbt:is4 l qa bt with
     | false =>
      rw [if_pos hbt] at g9
      obtain ⟨N2,hN2⟩:∃ N,S1 l ⟨qa,qi,qs,0⟩ fin=N:=⟨_,rfl⟩
      obtain ⟨⟨row,re⟩,hrow⟩:∃ r,row3 6 L2 T2=r:=⟨_,rfl⟩
      rw [hN2,hrow] at g9
      obtain ⟨n2a,n2i,n2s,n2e⟩:=N2
      subst g9
      (sym=>simp [hjb,hll,htl,hL2l,hT2l,h5b,q1,hsn,hsl,hms,hN,hwN,hqb,hbt,hN2,hrow,hw,hR,nX,lQ,U1,Kb,Kc,Ka,Gl,K3,K4,K5,szN,H6,Nn,N4,Np,M6,Sr,lV,lY,oJ,nQ,nJ,mV,nZ,Zb,Zc,Ze,Zf,Zg,Zh,Zi,Zj,Zk,Zl,Zm,Zo,Zp,Zq,Zr,Zs,Zu,Zv,Zw,Zx,Zy,Z1,Z4,Z5,Z6,Qa,Qb,Qd,Qe,Qf,Qg,Qh,Qi,Qj,Qm,Qn,Qo,Qp,Qq,Qr,Qs,Qt,Qu,Qv,Qw,Qx,Qy,Qz,Q1,Q2,Q3,Q4,Q5,Q6,Q7,Q8,Q9,Ja,Jb,Jc,Jd,Je,Jf,Jl,Jm,Jn,Js,Jt,Ju,Jv,Jw,Jx,Jy,Jz,J0,J1,J2,J4,Xa,Xb,Xd,Xf,Xi,Xj,Xk,Xl,Xm,Xp,Xq,Xr,Xs,Xt,Xu,Xv,Xw,Xx,Xy,Xz,X0,X1,X2,X6,X7,X8,X9,Wb,Wd,Wf,Wg,Wh,Wi,Wj,Wl,Wm,Wn,Wo,Wp,Wr,Wt,Wu,Wx,Wy,W1,W2,W4,W6,W9,Yb,Yc,Yd,Yf,Yg,Yh,Yn,Yo,Yp,Yq,Yr,Ys,Yt,Yu,Yv,Yw,Yx,Yy,Yz,Y0,Y1,Y2,Y3,Y4,Y6,Y7,Y9,Va,Vi,Vj,Vl,Vn,Vo,Vr,Vy,Vz,V0,V1,V2,V3,V4,V5,V6,V8,Ui,Uj,U5,K9,Kh,Gg,Ks,K6,K1,Nw,K2,Ku,Nr];tactic =>
       try simp only [Uq] at *;try simp only [nc2] at *
       try simp (maxSteps:=4000000) only [hjb,hll,htl,hL2l,hT2l,h5b,q1,hsn,hsl,hms,hN,hwN,hqb,hbt,hN2,hrow,hw,hR,nX,lQ,U1,Kb,Kc,Ka,Gl,K3,K4,K5,szN,U6]
       repeat' first|with_reducible assumption|with_reducible apply And.intro|intro _|omega|(rw [Uk];omega)
       all_goals first|contradiction|with_reducible exact okq|omega|assumption|rfl|trivial|exact Or.inr trivial|skip)
     | true =>
      rw [if_neg (by rw [hbt];simp)] at g9
      have hadv2:Ld ⟨qa,qi,qs,0⟩=⟨qa+1,qi,qs,0⟩:=rfl
      rw [hadv2] at g9
      have hlt:=is4_lt hbt
      have hok2:St4Ok l ⟨qa+1,qi,qs,0⟩:=by
       obtain ⟨h1,h2,h3,h4,h5,h6⟩:=hqok
       simp only at h2 h3 h4 h5
       exact ⟨h1,by show 0≤qa+1;omega,by show qa+1≤_;omega,by show (qs.length:Int)≤1000000+(qa+1);omega,by show 0≤qi∧qi≤1000000+(qa+1);omega,h6⟩
      (sym=>simp [hjb,hll,htl,hL2l,hT2l,h5b,q1,hsn,hsl,hN,hwN,hqb,hbt,hw,lQ,U1,Kb,Kc,Ka,Gl,K3,K4,K5,szN,H6,Nn,N4,Np,M6,Sr,lV,lY,oJ,nQ,nJ,mV,nZ,Zb,Zc,Ze,Zf,Zg,Zo,Zp,Zq,Zr,Zs,Zu,Zv,Zw,Zx,Zy,Z1,Z4,Z5,Z6,Qa,Qb,Qd,Qe,Qf,Qg,Qh,Qi,Qj,Qm,Qn,Qo,Qs,Qu,Qv,Qw,Qx,Q1,Q2,Q3,Q4,Q5,Q6,Q7,Q8,Q9,Ja,Jb,Jc,Je,Jf,Jl,Jm,Jn,Js,Jt,Ju,Jv,Jw,Jx,Jy,Jz,J0,J1,J2,Xa,Xb,Xd,Xf,Xi,Xj,Xl,Xm,Xp,Xr,Xu,Xw,Xx,Xy,Xz,X0,X1,X6,X7,X8,X9,Wb,Wd,Wf,Wg,Wh,Wi,Wj,Wl,Wm,Wn,Wo,Wp,Wr,Wt,Wu,Wx,Wy,W1,W2,W4,W6,W9,Yb,Yd,Yf,Yg,Yh,Yn,Yo,Yp,Yq,Yr,Ys,Yt,Yu,Yv,Yw,Yx,Yy,Yz,Y2,Y3,Y4,Y5,Y7,Y9,Va,Vi,Vj,Vl,Vn,Vo,Vr,Vz,V0,V1,V2,V3,V4,V5,V6,Ui,Uj,U5,K9,Kh,Gg,Ks,K6,K1,Nw,K2,Ku,Nr];tactic =>
       try simp only [Uq] at *;try simp only [nc2] at *
       try simp (maxSteps:=4000000) only [hjb,hll,htl,hL2l,hT2l,h5b,q1,hsn,hsl,hN,hwN,hqb,hbt,hw,lQ,U1,Kb,Kc,Ka,Gl,K3,K4,K5,szN,U6]
       repeat' first|with_reducible assumption|with_reducible apply And.intro|intro _|omega|(rw [Uk];omega)
       all_goals first|contradiction|with_reducible exact okq|omega|assumption|exact ⟨(f,qa+1,qi,qs,L2,T2),by ((try simp only [Ul,U0,Ux,U8,upd,U7,Ki,K0,Nat.reduceDiv,Nat.reduceMod,Nat.reduceMul,Nat.reduceAdd,Nat.reduceEqDiff,aV,aW,if_true,if_false,reduceIte]);(first|refine Wk.of_fl ?_|skip);simp only [Wk,wkK,Ga,wkT,wk1,AV.kept,keptAll,wkO,lk,Uw,and_true,true_and,and_self,Nat.reduceEqDiff,Nat.reduceLeDiff,if_true,if_false,reduceIte,reduceCtorEq,Option.isSome,false_implies];try simp [Wk,wkK,wkT,wk1,AV.kept,keptAll,wkO,lk,Uw,hL2,htyl]),by simp only;omega,by simp only;omega,by simp only;omega,by simp only;omega,hok2,htn,hL2e,g9,by simp only;omega⟩|skip)))
 ·(sym=>simp [hw,nX,K3,K4,K5,H6,Mi.eq_def,Zb,Zc,Ze,Zf,Zn,Zo,Zp,Zq,Zr,Zu,Z1,Qn,Qs,Qu,Qv,Qw,Qx,Q4,Q5,Q6,Q7,Q9,Ja,Jb,Jj,Jq,Jr,Js,Jt,Jv,Jw,Jy,Jz,J0,J6,J7,Xa,Xb,Xj,Xl,Xn,Xo,Xr,Xu,Xw,Xx,Xy,X0,X1,X6,X7,X8,X9,Wc,Wf,Wg,Wh,Wi,Wj,Wl,Wo,Wp,W6,Yc,Ye,Yn,Yo,Yr,Ys,Yt,Yu,Yv,Yw,Yx,Yy,Yz,Y9,Va,Vm,V0,V1,V2,V5,V6,U5,K9,Kh,Gg,Ks,K6,K1,Nw,K2,Ku,Nr];tactic =>
   try simp only [Uq] at *;try simp only [nc2] at *
   try simp (maxSteps:=4000000) only [hw,nX,K3,K4,K5,U6]
   repeat' first|with_reducible assumption|with_reducible apply And.intro|intro _|omega|(rw [Uk];omega)
   refine Kk [12,16,17,18,19,20,21,24,25,26,27,28,29,30,31,32,33,34,35,36,37,38,39,40,41,42,43,44,45,46,47,48,49,50,51,52,53,54,55,56,57,58,59,60,61,62,63,64,65,66,67,68,69,70,71,72,73,74,75,76,77,78,79,80,81,82,83,84,85,86,87,88,89,90,91,92,93,94,95,96,97,98,99,100,101,102,103,104,105,106,107,108,109,110,111,112,113,114,115,116,117,118,119,120,121,122,123,124,125,126,127,128,129,130,131,132,133,134,135,136,137,138,139,140,141,142,143,144,145,146,147,148,149,150,151,152,153,154,155] (fun p:Nat×Int×Int×List Site×List (List UInt8)×List (List Node)=>[(14,.sl 22 (p.2.2.2.2.1.map (enc:List UInt8→D)).length),(15,.sl 23 ((p.2.2.2.2.2.map Sl.mk).map (enc:Sl Node→D)).length)]) (fun p:Nat×Int×Int×List Site×List (List UInt8)×List (List Node)=>[(7,.box true [.d (.int .i64 p.2.1),.d (.int .i64 p.2.2.1),.d (.list 3 (p.2.2.2.1.map enc)),.d (.int .i64 0)]),(22,.row 1 (p.2.2.2.2.1.map enc) 0),(23,.row 1 ((p.2.2.2.2.2.map Sl.mk).map enc) 0)]) (fun p:Nat×Int×Int×List Site×List (List UInt8)×List (List Node)=>p.1+p.2.2.2.2.1.length=51∧p.2.2.2.2.1.length≤50∧p.2.2.2.2.1.length=p.2.2.2.2.2.length∧(tsum p.2.2.2.2.2:Int)≤p.2.1∧St4Ok l ⟨p.2.1,p.2.2.1,p.2.2.2.1,0⟩∧(∀ t∈p.2.2.2.2.2,t≠[])∧(∀ x∈p.2.2.2.2.1,x.length≤9223372036854775807)∧rows4L w l 7 bt fin p.1 ⟨p.2.1,p.2.2.1,p.2.2.2.1,0⟩ p.2.2.2.2.1 p.2.2.2.2.2=R) (fun p:Nat×Int×Int×List Site×List (List UInt8)×List (List Node)=>51-p.2.2.2.2.1.length) (51,k0,si0,ss0,[],[]) ?_ ?_ ?_
   ·exact ⟨rfl,by simp,rfl,by show (0:Int)≤k0;omega,hS,by simp,by simp,hR2⟩
   ·exact wkq
   rintro ⟨f,k,si,ss,labels,types⟩ ⟨g1,g2,g3,g4,g6,g7,g8,g9⟩
   simp only at g1 g2 g3 g4 g6 g7 g8 g9
   have hlo:=g6.lo
   have hhi:=g6.hi
   simp only at hlo hhi
   obtain ⟨k,rfl⟩:∃ n:Nat,k=n:=⟨k.toNat,by omega⟩
   obtain ⟨f,rfl⟩:∃ g,f=g+1:=⟨f-1,by omega⟩
   rw [rows4L] at g9
   simp only [C6] at g9
   have hw2:Tc ⟨(k:Int),si,ss,0⟩ (k:Int) 2=⟨k,si,ss,2⟩:=rfl
   have hw7:Tc ⟨(k:Int),si,ss,0⟩ (k:Int) 7=⟨k,si,ss,7⟩:=rfl
   have hw3:Tc ⟨(k:Int),si,ss,0⟩ (k:Int) 3=⟨k,si,ss,3⟩:=rfl
   have hadv:Ld ⟨(k:Int),si,ss,0⟩=⟨(k:Int)+1,si,ss,0⟩:=rfl
   rw [hw2,hw7,hw3,hadv] at g9
   have hwt:want4 7=2:=by decide
   have hbd:badL4 l 7 ⟨(k:Int),si,ss,0⟩=(leB l.length (k:Int)||(!((l.getD k Td).kind==2)||!A7 (l.getD k Td).text)):=by
    unfold badL4
    rw [hwt]
    simp only [C6]
    simp
   have hll:(labels.map (enc:List UInt8→D)).length=labels.length:=bV ..
   have htl:((types.map Sl.mk).map (enc:Sl Node→D)).length=types.length:=by rw [bV,bV]
   have hkd7:(((7:Int)==7)=true):=by decide
   cases hge:leB l.length (k:Int) with
   | true =>
    rw [if_pos (by rw [hbd,hge];rfl)] at g9
    subst g9
    (sym=>simp [hge,hw,hw2,hR,nX,U1,Kb,Kc,Ka,Gl,K3,K4,K5,H6,Nn,N4,Np,M6,lV,lY,oJ,nQ,nJ,mV,nZ,Zb,Zc,Zd,Ze,Zf,Zg,Zn,Zo,Zp,Zq,Zs,Zt,Zv,Zw,Zx,Z6,Qb,Qd,Qf,Qg,Qh,Qj,Qm,Qn,Qo,Qp,Qq,Qr,Qs,Qu,Qv,Qw,Qx,Q1,Q3,Q8,Ja,Jb,Jc,Jd,Je,Jf,Jl,Jm,Jn,Js,Jt,Jv,Jw,Jx,Jy,Jz,J2,J3,Xb,Xd,Xf,Xh,Xj,Xl,Xm,Xn,Xq,Xr,Xu,Xw,Xx,Xy,X6,X7,X8,X9,Wb,Wd,Wf,Wh,Wi,Wj,Wl,Wm,Wn,Wo,Wp,Wr,Wt,Wx,W6,Yf,Yg,Yn,Yo,Yp,Yq,Ys,Yt,Yu,Yv,Yw,Yx,Y2,Y9,Va,Vj,Vk,Vm,Vy,Vz,V0,V1,V2,V3,V4,V5,V6,Ui,Uj,U5,K9,Kh,Gg,Ks,K6,K1,Nw,K2,Ku,Nr];tactic =>
     try simp only [Uq] at *;try simp only [nc2] at *
     try simp (maxSteps:=4000000) only [hge,hw,hw2,hR,nX,U1,Kb,Kc,Ka,Gl,K3,K4,K5,U6]
     repeat' first|with_reducible assumption|with_reducible apply And.intro|intro _|omega|(rw [Uk];omega)
     all_goals first|contradiction|with_reducible exact okq|omega|assumption|rfl|trivial|exact Or.inr trivial|skip)
   | false =>
   have hkl:k<l.length:=by rw [←Bool.not_eq_true,G4] at hge;omega
   have q1:=K7 Td hkl
   have htx:=htxt (l.getD k Td) (by simp [hkl])
   obtain ⟨t,ht⟩:∃ t,l.getD k Td=t:=⟨_,rfl⟩
   rw [ht] at q1 htx g9 hbd
   cases hkd:(t.kind==2) with
   | false =>
    have hkn:(t.kind != 2)=true:=by rw [bne,hkd];rfl
    rw [if_pos (by rw [hbd,hge,hkd];rfl)] at g9
    subst g9
    (sym=>simp [hge,q1,hkn,hw,hw2,hR,nX,U1,Kb,Kc,Ka,Gl,K3,K4,K5,H6,Nn,N4,Np,M6,lV,lY,oJ,nQ,nJ,mV,nZ,Zb,Zc,Zd,Ze,Zf,Zg,Zn,Zo,Zp,Zq,Zs,Zt,Zv,Zw,Zx,Zy,Z6,Qb,Qd,Qf,Qg,Qh,Qj,Qm,Qn,Qo,Qp,Qq,Qr,Qs,Qu,Qv,Qw,Qx,Q1,Q3,Q8,Ja,Jb,Jc,Jd,Je,Jf,Jl,Jm,Jn,Js,Jt,Jv,Jw,Jx,Jy,Jz,J2,J3,Xb,Xd,Xf,Xh,Xj,Xl,Xm,Xn,Xq,Xr,Xu,Xw,Xx,Xy,X6,X7,X8,X9,Wb,Wd,Wf,Wh,Wi,Wj,Wl,Wm,Wn,Wo,Wp,Wr,Wt,Wx,W1,W6,W7,Yb,Yf,Yg,Yn,Yo,Yp,Yq,Ys,Yt,Yu,Yv,Yw,Yx,Y2,Y7,Y9,Va,Vj,Vk,Vm,Vy,Vz,V0,V1,V2,V3,V4,V5,V6,Ui,Uj,U5,K9,Kh,Gg,Ks,K6,K1,Nw,K2,Ku,Nr];tactic =>
     try simp only [Uq] at *;try simp only [nc2] at *
     try simp (maxSteps:=4000000) only [hge,q1,hkn,hw,hw2,hR,nX,U1,Kb,Kc,Ka,Gl,K3,K4,K5,U6]
     repeat' first|with_reducible assumption|with_reducible apply And.intro|intro _|omega|(rw [Uk];omega)
     all_goals first|contradiction|with_reducible exact okq|omega|assumption|rfl|trivial|exact Or.inr trivial|skip)
   | true =>
   have hkn:(t.kind != 2)=false:=by rw [bne,hkd];rfl
   cases hP:A7 t.text with
   | false =>
    rw [if_pos (by rw [hbd,hge,hkd,hP];rfl)] at g9
    subst g9
    (sym=>simp [hge,q1,hkn,hP,hw,hw2,hR,nX,U1,Kb,Kc,Ka,Gl,K3,K4,K5,H6,Nn,N4,Np,M6,lV,lY,oJ,nQ,nJ,mV,nZ,Zb,Zc,Zd,Ze,Zf,Zg,Zn,Zo,Zp,Zq,Zs,Zt,Zv,Zw,Zx,Zy,Z6,Qb,Qd,Qe,Qf,Qg,Qh,Qj,Qm,Qn,Qo,Qp,Qq,Qr,Qs,Qu,Qv,Qw,Qx,Q1,Q3,Q8,Ja,Jb,Jc,Jd,Je,Jf,Jl,Jm,Jn,Js,Jt,Jv,Jw,Jx,Jy,Jz,J2,J3,Xb,Xd,Xf,Xh,Xj,Xl,Xm,Xn,Xq,Xr,Xu,Xw,Xx,Xy,X6,X7,X8,X9,Wb,Wd,Wf,Wh,Wi,Wj,Wl,Wm,Wn,Wo,Wp,Wr,Wt,Wu,Wx,Wy,W1,W6,W7,W9,Yb,Yd,Yf,Yg,Yn,Yo,Yp,Yq,Ys,Yt,Yu,Yv,Yw,Yx,Yy,Y2,Y3,Y6,Y7,Y9,Va,Vj,Vk,Vm,Vy,Vz,V0,V1,V2,V3,V4,V5,V6,Ui,Uj,U5,K9,Kh,Gg,Ks,K6,K1,Nw,K2,Ku,Nr];tactic =>
     try simp only [Uq] at *;try simp only [nc2] at *
     try simp (maxSteps:=4000000) only [hge,q1,hkn,hP,hw,hw2,hR,nX,U1,Kb,Kc,Ka,Gl,K3,K4,K5,U6]
     repeat' first|with_reducible assumption|with_reducible apply And.intro|intro _|omega|(rw [Uk];omega)
     all_goals first|contradiction|with_reducible exact okq|omega|assumption|rfl|trivial|exact Or.inr trivial|skip)
   | true =>
   rw [if_neg (by rw [hbd,hge,hkd,hP];simp)] at g9
   (sym=>simp [hge,q1,hkn,hP,hll,U1,Kb,Kc,Ka,Gl,K3,K4,K5,H6,Nn,N4,Np,M6,lV,lY,oJ,nQ,nJ,mV,nZ,Zb,Zc,Zd,Ze,Zf,Zo,Zp,Zq,Zs,Zt,Zv,Zx,Zy,Z6,Qb,Qd,Qe,Qf,Qg,Qh,Qo,Qs,Qu,Qv,Qw,Qx,Q1,Q8,Ja,Jb,Jc,Je,Jf,Jl,Jm,Jn,Js,Jt,Jv,Jw,Jx,Jy,Jz,J2,Xd,Xf,Xh,Xi,Xj,Xl,Xm,Xn,Xo,Xr,Xu,Xw,Xx,Xy,X6,X7,X8,X9,Wb,Wd,Wf,Wj,Wl,Wm,Wn,Wo,Wp,Wr,Wt,Wu,Wx,Wy,W1,W7,W9,Yb,Yd,Yf,Yg,Yn,Yo,Yp,Yq,Yy,Y3,Y5,Y7,Y9,Va,Vj,Vk,Vy,Vz,V0,V1,V2,V3,V5,V6,Ui,U5,K9,Kh,Gg,Ks,K6,K1,Nw,K2,Ku,Nr];tactic =>
    try simp only [Uq] at *;try simp only [nc2] at *
    try simp (maxSteps:=4000000) only [hge,q1,hkn,hP,hll,U1,Kb,Kc,Ka,Gl,K3,K4,K5,U6]
    repeat' first|with_reducible assumption|with_reducible apply And.intro|intro _|omega|(rw [Uk];omega)
    all_goals first|contradiction|with_reducible exact okq|omega|assumption|skip
    refine Kk [12,73,74,75,76,77,78,79,80,81,82,83,84,85,86,87,88,89,90,91,92,93] (fun j:Nat=>[(17,.d (.int .i64 j))]) (fun j:Nat=>[]) (fun j:Nat=>j≤labels.length∧∀ m,m<j→(labels.getD m []==t.text)=false) (fun j:Nat=>labels.length-j) 0 ?_ ?_ ?_
    ·simp
    ·exact wkq
    rintro j ⟨hj,hno⟩
    rcases Kt j labels.length with ⟨hjt,hjb⟩|⟨hjt,hjb⟩
    ·have q2:=K7 ([]:List UInt8) hjt
     have hany:=any_snoc (x:=t.text) hjt
     have hst:(labels.getD j []==t.text)=false→∀ m,m<j+1→(labels.getD m []==t.text)=false:=fun h=>A1 hno h
     obtain ⟨Q,hQ⟩:∃ Q,(∀ m,m<j+1→(labels.getD m []==t.text)=false)=Q:=⟨_,rfl⟩
     rw [hQ] at hst
     obtain ⟨y,hy⟩:∃ y,labels.getD j []=y:=⟨_,rfl⟩
     rw [hy] at q2 hany hst
     cases hb:(y==t.text) with
     | true =>
      rw [if_pos (hany hb)] at g9
      subst g9
      (sym=>simp [hjb,hll,q1,q2,hb,hw,hw7,hR,nX,U1,Kb,Kc,Ka,Gl,K3,K4,K5,H6,Nn,N4,Np,Sr,lV,lY,oJ,nQ,nJ,mV,nZ,Zb,Zc,Ze,Zf,Zg,Zh,Zi,Zj,Zk,Zl,Zm,Zn,Zo,Zp,Zq,Zs,Zv,Zw,Zx,Zy,Z6,Qb,Qd,Qf,Qg,Qh,Qj,Qm,Qn,Qo,Qp,Qq,Qr,Qs,Qt,Qu,Qv,Qw,Qx,Qy,Qz,Q1,Q3,Q8,Ja,Jb,Jc,Jd,Je,Jl,Jm,Jn,Js,Jt,Jv,Jw,Jy,Jz,J2,J3,Xb,Xd,Xf,Xh,Xi,Xj,Xk,Xl,Xm,Xn,Xq,Xr,Xs,Xt,Xu,Xv,Xw,Xx,Xy,X2,X6,X7,X8,X9,Wb,Wd,Wf,Wh,Wi,Wj,Wl,Wm,Wn,Wo,Wp,Wr,Wt,Wv,Wx,Wz,W1,W6,W9,Yb,Ye,Yf,Yg,Yn,Yo,Ys,Yt,Yu,Yv,Yw,Yx,Y2,Y7,Y9,Va,Vj,Vm,Vy,Vz,V0,V1,V2,V3,V4,V5,V6,V8,Ui,Uj,U5,K9,Kh,Gg,Ks,K6,K1,Nw,K2,Ku,Nr];tactic =>
       try simp only [Uq] at *;try simp only [nc2] at *
       try simp (maxSteps:=4000000) only [hjb,hll,q1,q2,hb,hw,hw7,hR,nX,U1,Kb,Kc,Ka,Gl,K3,K4,K5,U6]
       repeat' first|with_reducible assumption|with_reducible apply And.intro|intro _|omega|(rw [Uk];omega)
       all_goals first|contradiction|with_reducible exact okq|omega|assumption|rfl|trivial|exact Or.inr trivial|skip)
     | false =>
      have hq:=hst hb
      (sym=>simp [hjb,hll,q1,q2,hb,U1,Kb,Kc,Ka,Gl,K3,K4,K5,H6,Nn,Np,Sr,lV,lY,oJ,nQ,nJ,mV,nZ,Zb,Zc,Ze,Zf,Zg,Zh,Zi,Zj,Zk,Zl,Zm,Zo,Zp,Zq,Zs,Zv,Zx,Zy,Z6,Qd,Qf,Qo,Qs,Qt,Qu,Qv,Qw,Qx,Qy,Qz,Ja,Jl,Jm,Jn,Js,Jt,Jv,Jw,Jy,Jz,Xd,Xf,Xh,Xi,Xj,Xk,Xl,Xm,Xn,Xr,Xs,Xt,Xu,Xv,Xw,Xx,Xy,X2,X6,X7,X8,X9,Wh,Wi,Wj,Wl,Wm,Wn,Wo,Wp,Wr,Wt,Wv,Wx,Wz,W1,W9,Yb,Ye,Yf,Yg,Yn,Yo,Y7,Y9,Va,Vj,Vy,Vz,V0,V1,V2,V3,V4,V5,V6,V8,Ui,U5,K9,Kh,Gg,Ks,K6,K1,Nw,K2,Ku,Nr];tactic =>
       try simp only [Uq] at *;try simp only [nc2] at *
       try simp (maxSteps:=4000000) only [hjb,hll,q1,q2,hb,U1,Kb,Kc,Ka,Gl,K3,K4,K5,U6]
       repeat' first|with_reducible assumption|with_reducible apply And.intro|intro _|omega|(rw [Uk];omega)
       all_goals first|with_reducible exact okq|omega|exact ⟨j+1,wkq,by omega,Eq.mpr hQ hq,by omega⟩|exact ⟨j+1,wkq,by omega,fun m hm=>by have h3:=(Eq.mpr hQ hq:∀ m,m<j+1→(labels.getD m []==t.text)=false) m hm;simpa using h3,by omega⟩|skip)
    ·have hany:(labels.any fun y=>y==t.text)=false:=any_not (p:=fun y=>y==t.text) [] fun m hm=>hno m (by omega)
     rw [if_neg (by rw [hany];simp)] at g9
     by_cases h50:labels.length=50
     ·rw [if_pos h50] at g9
      have h5b:((labels.length:Int)==50)=true:=by rw [cQ];omega
      subst g9
      (sym=>simp [hjb,hll,h5b,q1,hw,hw3,hR,nX,U1,Kb,Kc,Ka,Gl,K3,K4,K5,H6,Nn,N4,Np,M6,lV,lY,oJ,nQ,nJ,mV,nZ,Zb,Zc,Ze,Zf,Zg,Zn,Zo,Zp,Zq,Zs,Zv,Zw,Zx,Z6,Qb,Qd,Qf,Qg,Qh,Qj,Qm,Qn,Qo,Qp,Qq,Qr,Qs,Qu,Qv,Qw,Qx,Q1,Q3,Q8,Ja,Jb,Jc,Jd,Je,Jf,Jl,Jm,Jn,Js,Jt,Jv,Jw,Jy,Jz,J2,J3,Xb,Xd,Xf,Xh,Xj,Xl,Xm,Xp,Xq,Xr,Xu,Xw,Xx,Xy,X6,X7,X8,X9,Wb,Wd,Wf,Wh,Wi,Wj,Wl,Wm,Wo,Wp,Wr,Wt,Wx,W6,Yn,Yo,Ys,Yt,Yu,Yv,Yw,Yx,Y2,Y9,Vj,Vm,Vy,Vz,V0,V1,V2,V3,V4,V5,V6,Ui,Uj,U5,K9,Kh,Gg,Ks,K6,K1,Nw,K2,Ku,Nr];tactic =>
       try simp only [Uq] at *;try simp only [nc2] at *
       try simp (maxSteps:=4000000) only [hjb,hll,h5b,q1,hw,hw3,hR,nX,U1,Kb,Kc,Ka,Gl,K3,K4,K5,U6]
       repeat' first|with_reducible assumption|with_reducible apply And.intro|intro _|omega|(rw [Uk];omega)
       all_goals first|contradiction|with_reducible exact okq|omega|assumption|rfl|trivial|exact Or.inr trivial|skip)
     rw [if_neg h50] at g9
     have h5b:((labels.length:Int)==50)=false:=by rw [aQ];omega
     have hsn:=str_snoc (l:=labels) (x:=t.text)
     have hL2:(labels++[t.text]).length=labels.length+1:=by simp
     have hL2e:∀ x∈labels++[t.text],x.length≤9223372036854775807:=fun x hx=>by
      rcases List.mem_append.1 hx with h|h
      ·exact g8 x h
      ·rw [bW] at h;subst h;exact htx
     obtain ⟨L2,hL2d⟩:∃ L,labels++[t.text]=L:=⟨_,rfl⟩
     rw [hL2d] at g9 hsn hL2 hL2e
     have hL2l:(L2.map (enc:List UInt8→D)).length=labels.length+1:=by rw [bV,hL2]
     have hss:=g6.sites
     have hsi:=g6.site
     simp only at hss hsi
     have hc:=D5 l ⟨(k:Int)+1,si,ss,0⟩ [58]
     obtain ⟨N,hN⟩:∃ N,S1 l ⟨(k:Int)+1,si,ss,0⟩ [58]=N:=⟨_,rfl⟩
     rw [hN] at hc g9
     have hNok:St4Ok l N∧(N.e=0→(k:Int)+2≤N.at_):=by
      rcases hc with ⟨h1,_⟩|⟨_,h2⟩|⟨_,h2,h3⟩
      ·exact absurd rfl h1
      ·rw [h2]
       exact ⟨⟨hlen,by show 0≤(k:Int)+1;omega,by show (k:Int)+1≤l.length;omega,by show (ss.length:Int)≤1000000+((k:Int)+1);omega,by show 0≤si∧si≤1000000+((k:Int)+1);omega,htxt⟩,fun h=>absurd h (by show (2:Int)≠0;decide)⟩
      ·have:=is4_lt h2
       simp only at this
       rw [h3]
       exact ⟨⟨hlen,by show 0≤(k:Int)+1+1;omega,by show (k:Int)+1+1≤l.length;omega,by show (ss.length:Int)≤1000000+((k:Int)+1+1);omega,by show 0≤si∧si≤1000000+((k:Int)+1+1);omega,htxt⟩,fun _=>by show (k:Int)+2≤(k:Int)+1+1;omega⟩
     clear hc
     obtain ⟨hNok,hNk⟩:=hNok
     have hE:=hEw N hNok.lo hNok.hi
     have hwN:=congrFun (congrFun hw l) N
     obtain ⟨⟨u,q⟩,hr⟩:∃ r,w l N=r:=⟨_,rfl⟩
     rw [hr] at hE g9 hwN
     simp only at g9
     obtain ⟨na,ni,ns,ne⟩:=N
     have hqok:q.e=0→St4Ok l q:=fun h=>st4Ok_eats hNok hE h
     have hqlo:=hE.lo
     have hqhi:=hE.hi
     have hqk:=fun h=>hE.ok h
     have hqe2:=hE.err
     simp only at hqlo hqhi hqk hNk hqe2
     obtain ⟨qa,qi,qs,qe⟩:=q
     simp only at hqlo hqhi hqk hqok g9 hqe2
     by_cases hqe:qe=0
     case neg =>
      rw [if_pos hqe] at g9
      have hqb:(qe != 0)=true:=bne_iff_ne.2 hqe
      subst g9
      (sym=>simp [hjb,hll,hL2l,h5b,q1,hsn,hN,hwN,hqb,hw,hR,nX,lQ,U1,Kb,Kc,Ka,Gl,K3,K4,K5,H6,Nn,N4,Np,M6,Sr,lV,lY,oJ,nQ,nJ,mV,nZ,Zb,Zc,Ze,Zf,Zg,Zh,Zi,Zj,Zk,Zl,Zm,Zn,Zo,Zp,Zq,Zr,Zs,Zu,Zv,Zw,Zx,Zy,Z1,Z4,Z5,Z6,Qa,Qb,Qd,Qf,Qg,Qh,Qi,Qj,Qm,Qn,Qo,Qp,Qq,Qr,Qs,Qt,Qu,Qv,Qw,Qx,Qy,Qz,Q1,Q2,Q3,Q4,Q5,Q6,Q7,Q8,Q9,Ja,Jb,Jc,Jd,Je,Jf,Jl,Jm,Jn,Js,Jt,Jv,Jw,Jy,Jz,J0,J1,J2,J3,Xa,Xb,Xd,Xf,Xi,Xj,Xk,Xl,Xm,Xp,Xq,Xr,Xs,Xt,Xu,Xv,Xw,Xx,Xy,Xz,X0,X1,X2,X6,X7,X8,X9,Wb,Wd,Wf,Wg,Wh,Wi,Wj,Wl,Wm,Wn,Wo,Wp,Wr,Wt,Wx,W1,W2,W4,W6,W9,Yb,Yf,Yg,Yn,Yo,Yp,Yr,Ys,Yt,Yu,Yv,Yw,Yx,Yy,Yz,Y2,Y3,Y4,Y7,Y9,Va,Vi,Vj,Vl,Vm,Vn,Vo,Vr,Vy,Vz,V0,V1,V2,V3,V4,V5,V6,V8,Ui,Uj,U5,K9,Kh,Gg,Ks,K6,K1,Nw,K2,Ku,Nr];tactic =>
       try simp only [Uq] at *;try simp only [nc2] at *
       try simp (maxSteps:=4000000) only [hjb,hll,hL2l,h5b,q1,hsn,hN,hwN,hqb,hw,hR,nX,lQ,U1,Kb,Kc,Ka,Gl,K3,K4,K5,U6]
       repeat' first|with_reducible assumption|with_reducible apply And.intro|intro _|omega|(rw [Uk];omega)
       all_goals first|contradiction|with_reducible exact okq|omega|assumption|rfl|trivial|exact Or.inr trivial|skip)
     have hqb:(qe != 0)=false:=by rw [hqe];rfl
     rw [if_neg (by simpa using hqe)] at g9
     obtain ⟨z1,z2,z3⟩:=hqk hqe
     have hqok:=hqok hqe
     have hne0:ne=0:=Classical.byContradiction fun h=>hqe2 h hqe
     have hNk:=hNk hne0
     subst hqe
     have hty:tsum (types++[u])=tsum types+u.length:=by unfold tsum;simp
     have htn:∀ t∈types++[u],t≠[]:=fun x hx=>by
      rcases List.mem_append.1 hx with h|h
      ·exact g7 x h
      ·rw [bW] at h;subst h;exact z3
     have htyl:(types++[u]).length=types.length+1:=by simp
     have hsl:(types.map Sl.mk).map (enc:Sl Node→D)++[enc (Sl.mk u)]=((types++[u]).map Sl.mk).map enc:=by rw [List.map_append,List.map_append];rfl
     obtain ⟨T2,hT2⟩:∃ T,types++[u]=T:=⟨_,rfl⟩
     rw [hT2] at g9 hty htn htyl hsl
     have hT2l:((T2.map Sl.mk).map (enc:Sl Node→D)).length=types.length+1:=by rw [bV,bV,htyl]
     have hms:=map_sll (l:=T2)
     have hRok:RowOk L2 T2:=⟨by omega,by omega,by omega,by omega,htn,hL2e⟩
     cases hbt:is4 l qa bt with
     | false =>
      rw [if_pos hbt] at g9
      obtain ⟨N2,hN2⟩:∃ N,S1 l ⟨qa,qi,qs,0⟩ fin=N:=⟨_,rfl⟩
      obtain ⟨⟨row,re⟩,hrow⟩:∃ r,row3 7 L2 T2=r:=⟨_,rfl⟩
      rw [hN2,hrow] at g9
      obtain ⟨n2a,n2i,n2s,n2e⟩:=N2
      subst g9
      (sym=>simp [hjb,hll,htl,hL2l,hT2l,h5b,q1,hsn,hsl,hms,hN,hwN,hqb,hbt,hN2,hrow,hw,hR,nX,lQ,U1,Kb,Kc,Ka,Gl,K3,K4,K5,szN,H6,Nn,N4,Np,M6,Sr,lV,lY,oJ,nQ,nJ,mV,nZ,Zb,Zc,Ze,Zf,Zg,Zh,Zi,Zj,Zk,Zl,Zm,Zo,Zp,Zq,Zr,Zs,Zu,Zv,Zw,Zx,Zy,Z1,Z4,Z5,Z6,Qa,Qb,Qd,Qe,Qf,Qg,Qh,Qi,Qj,Qm,Qn,Qo,Qp,Qq,Qr,Qs,Qt,Qu,Qv,Qw,Qx,Qy,Qz,Q1,Q2,Q3,Q4,Q5,Q6,Q7,Q8,Q9,Ja,Jb,Jc,Jd,Je,Jf,Jl,Jm,Jn,Js,Jt,Ju,Jv,Jw,Jx,Jy,Jz,J0,J1,J2,J4,Xa,Xb,Xd,Xf,Xi,Xj,Xk,Xl,Xm,Xp,Xq,Xr,Xs,Xt,Xu,Xv,Xw,Xx,Xy,Xz,X0,X1,X2,X6,X7,X8,X9,Wb,Wd,Wf,Wg,Wh,Wi,Wj,Wl,Wm,Wn,Wo,Wp,Wr,Wt,Wu,Wx,Wy,W1,W2,W4,W6,W9,Yb,Yc,Yd,Yf,Yg,Yh,Yn,Yo,Yp,Yq,Yr,Ys,Yt,Yu,Yv,Yw,Yx,Yy,Yz,Y0,Y1,Y2,Y3,Y4,Y6,Y7,Y9,Va,Vi,Vj,Vl,Vn,Vo,Vr,Vy,Vz,V0,V1,V2,V3,V4,V5,V6,V8,Ui,Uj,U5,K9,Kh,Gg,Ks,K6,K1,Nw,K2,Ku,Nr];tactic =>
       try simp only [Uq] at *;try simp only [nc2] at *
       try simp (maxSteps:=4000000) only [hjb,hll,htl,hL2l,hT2l,h5b,q1,hsn,hsl,hms,hN,hwN,hqb,hbt,hN2,hrow,hw,hR,nX,lQ,U1,Kb,Kc,Ka,Gl,K3,K4,K5,szN,U6]
       repeat' first|with_reducible assumption|with_reducible apply And.intro|intro _|omega|(rw [Uk];omega)
       all_goals first|contradiction|with_reducible exact okq|omega|assumption|rfl|trivial|exact Or.inr trivial|skip)
     | true =>
      rw [if_neg (by rw [hbt];simp)] at g9
      have hadv2:Ld ⟨qa,qi,qs,0⟩=⟨qa+1,qi,qs,0⟩:=rfl
      rw [hadv2] at g9
      have hlt:=is4_lt hbt
      have hok2:St4Ok l ⟨qa+1,qi,qs,0⟩:=by
       obtain ⟨h1,h2,h3,h4,h5,h6⟩:=hqok
       simp only at h2 h3 h4 h5
       exact ⟨h1,by show 0≤qa+1;omega,by show qa+1≤_;omega,by show (qs.length:Int)≤1000000+(qa+1);omega,by show 0≤qi∧qi≤1000000+(qa+1);omega,h6⟩
      (sym=>simp [hjb,hll,htl,hL2l,hT2l,h5b,q1,hsn,hsl,hN,hwN,hqb,hbt,hw,lQ,U1,Kb,Kc,Ka,Gl,K3,K4,K5,szN,H6,Nn,N4,Np,M6,Sr,lV,lY,oJ,nQ,nJ,mV,nZ,Zb,Zc,Ze,Zf,Zg,Zo,Zp,Zq,Zr,Zs,Zu,Zv,Zw,Zx,Zy,Z1,Z4,Z5,Z6,Qa,Qb,Qd,Qe,Qf,Qg,Qh,Qi,Qj,Qm,Qn,Qo,Qs,Qu,Qv,Qw,Qx,Q1,Q2,Q3,Q4,Q5,Q6,Q7,Q8,Q9,Ja,Jb,Jc,Je,Jf,Jl,Jm,Jn,Js,Jt,Ju,Jv,Jw,Jx,Jy,Jz,J0,J1,J2,Xa,Xb,Xd,Xf,Xi,Xj,Xl,Xm,Xp,Xr,Xu,Xw,Xx,Xy,Xz,X0,X1,X6,X7,X8,X9,Wb,Wd,Wf,Wg,Wh,Wi,Wj,Wl,Wm,Wn,Wo,Wp,Wr,Wt,Wu,Wx,Wy,W1,W2,W4,W6,W9,Yb,Yd,Yf,Yg,Yh,Yn,Yo,Yp,Yq,Yr,Ys,Yt,Yu,Yv,Yw,Yx,Yy,Yz,Y2,Y3,Y4,Y5,Y7,Y9,Va,Vi,Vj,Vl,Vn,Vo,Vr,Vz,V0,V1,V2,V3,V4,V5,V6,Ui,Uj,U5,K9,Kh,Gg,Ks,K6,K1,Nw,K2,Ku,Nr];tactic =>
       try simp only [Uq] at *;try simp only [nc2] at *
       try simp (maxSteps:=4000000) only [hjb,hll,htl,hL2l,hT2l,h5b,q1,hsn,hsl,hN,hwN,hqb,hbt,hw,lQ,U1,Kb,Kc,Ka,Gl,K3,K4,K5,szN,U6]
       repeat' first|with_reducible assumption|with_reducible apply And.intro|intro _|omega|(rw [Uk];omega)
       all_goals first|contradiction|with_reducible exact okq|omega|assumption|exact ⟨(f,qa+1,qi,qs,L2,T2),by ((try simp only [Ul,U0,Ux,U8,upd,U7,Ki,K0,Nat.reduceDiv,Nat.reduceMod,Nat.reduceMul,Nat.reduceAdd,Nat.reduceEqDiff,aV,aW,if_true,if_false,reduceIte]);(first|refine Wk.of_fl ?_|skip);simp only [Wk,wkK,Ga,wkT,wk1,AV.kept,keptAll,wkO,lk,Uw,and_true,true_and,and_self,Nat.reduceEqDiff,Nat.reduceLeDiff,if_true,if_false,reduceIte,reduceCtorEq,Option.isSome,false_implies];try simp [Wk,wkK,wkT,wk1,AV.kept,keptAll,wkO,lk,Uw,hL2,htyl]),by simp only;omega,by simp only;omega,by simp only;omega,by simp only;omega,hok2,htn,hL2e,g9,by simp only;omega⟩|skip)))
theorem G3:L3 []:=fun _ h=>by cases h
theorem named_app {a b:List Node} (ha:L3 a) (hb:L3 b):L3 (a++b):=fun n hn=>by
 rcases List.mem_append.1 hn with h|h
 ·exact ha n h
 ·exact hb n h
theorem O8 {k n:Int}:L3 [⟨k,[],n⟩]:=fun m hm=>by rw [bW] at hm;subst hm;simp
theorem named_set {s:List UInt8} (hs:s.length≤9223372036854775807) {t:List Node} (h:L3 t):L3 (named s t):=by
 cases t with
 | nil=>exact h
 | cons a t =>
  intro n hn
  rcases List.mem_cons.1 hn with rfl|hn
  ·exact hs
  ·exact h n (by simp [hn])
def ShortL (labels:List (List UInt8)):Prop:=∀ x∈labels,x.length≤9223372036854775807
theorem shortL_at {labels:List (List UInt8)} (h:ShortL labels) (k:Nat):(labels.getD k []).length≤9223372036854775807:=by
 rw [aY]
 cases hk:labels[k]? with
 | none=>simp
 | some x=>exact h x (List.mem_of_getElem? hk)
theorem namedT_at {types:List (List Node)} (h:∀ t∈types,L3 t) (k:Nat):L3 (types.getD k []):=by
 rw [aY]
 cases hk:types[k]? with
 | none=>exact G3
 | some x=>exact h x (List.mem_of_getElem? hk)
theorem named_rowL {labels:List (List UInt8)} (hl:ShortL labels) {types:List (List Node)} (ht:∀ t∈types,L3 t):∀ (k:Nat) (done:List UInt8) (out:List Node),L3 out→L3 (rowL labels types k done out).1
 | 0,_,_,h=>h
 | k+1,done,out,h=>by
  rw [rowL]
  split
  ·exact G3
  ·exact named_rowL hl ht k _ _ (named_app h (named_set (shortL_at hl _) (namedT_at ht _)))
theorem named_row3 {k:Int} {labels:List (List UInt8)} (hl:ShortL labels) {types:List (List Node)} (ht:∀ t∈types,L3 t):L3 (row3 k labels types).1:=by
 unfold row3
 split
 ·exact G3
 split
 ·exact G3
 exact named_rowL hl ht _ _ _ O8
theorem tk_short {l:List Tok} (h:∀ t∈l,t.text.length≤9223372036854775807) (i:Int):(tk l i).text.length≤9223372036854775807:=by
 unfold tk
 rw [aY]
 cases hk:l[i.toNat]? with
 | none=>simp [Td]
 | some x=>exact h x (List.mem_of_getElem? hk)
theorem named_rows4 {w:List Tok→St4→List Node×St4} {l:List Tok} (hl:∀ t∈l,t.text.length≤9223372036854775807) (hw:∀ s,L3 (w l s).1) {kind:Int} {bt fin:List UInt8}:∀ (f:Nat) (s:St4) (labels:List (List UInt8)) (types:List (List Node)),ShortL labels→(∀ t∈types,L3 t)→L3 (rows4L w l kind bt fin f s labels types).1
 | 0,_,_,_,_,_=>G3
 | f+1,s,labels,types,h1,h2=>by
  have h3:ShortL (labels++[(tk l s.at_).text]):=fun x hx=>by
   rcases List.mem_append.1 hx with h|h
   ·exact h1 x h
   ·rw [bW] at h;subst h;exact tk_short hl _
  have h4:∀ t∈types++[(w l (S1 l (Ld s) [58])).1],L3 t:=fun x hx=>by
   rcases List.mem_append.1 hx with h|h
   ·exact h2 x h
   ·rw [bW] at h;subst h;exact hw _
  rw [rows4L]
  split
  ·exact G3
  split
  ·exact G3
  split
  ·exact G3
  split
  ·exact G3
  split
  ·exact named_row3 h3 h4
  ·exact named_rows4 hl hw f _ _ _ h3 h4
theorem named_atom4 {w:List Tok→St4→List Node×St4} {l:List Tok} (hl:∀ t∈l,t.text.length≤9223372036854775807) (hw:∀ s,L3 (w l s).1) {d:Nat} {s:St4}:L3 (R0 w d l s).1:=by
 unfold R0
 split
 ·exact G3
 split
 ·exact G3
 split
 ·exact O8
 split
 ·exact O8
 split
 ·exact G3
 split
 ·exact G3
 split
 ·exact O8
 split
 ·exact named_rows4 hl hw _ _ _ _ (fun _ h=>by cases h) (fun _ h=>by cases h)
 split
 ·exact named_rows4 hl hw _ _ _ _ (fun _ h=>by cases h) (fun _ h=>by cases h)
 ·exact hw _
theorem I6 {l:List Tok} (hl:∀ t∈l,t.text.length≤9223372036854775807):∀ (d:Nat) (s:St4),L3 (M7 d l s).1
 | 0,_=>G3
 | d+1,s=>by
  have hA:=named_atom4 (w:=M7 d) hl (fun s=>I6 hl d s) (d:=d) (s:=s)
  rw [M7]
  split
  ·exact hA
  split
  ·exact G3
  ·have h5:L3 [(⟨5,[],0⟩:Node)]:=O8
   exact named_app h5 (named_app hA (I6 hl d _))
theorem Ig {a b d:Int}:(dec (.agg [.int .i64 a,.int .i64 b,.list 3 [],.int .i64 d]):St4)=⟨a,b,[],d⟩:=rfl
theorem A8 {a b d:Int}:isE St4 (.agg [.int .i64 a,.int .i64 b,.list 3 [],.int .i64 d])=True:=eq_true (Cp (St4.mk a b [] d))
theorem ih4:∀ n,IH4 n
 | 0=>⟨Bx (Ke Try.func83 (by kernel_rfl) rfl) con_whole4_zero,Bx (Ke Try.func88 (by kernel_rfl) rfl) con_atom4_zero,Bx (Ke Try.func94 (by kernel_rfl) rfl) con_rows4_zero⟩
 | n+1=>⟨stepi_whole4 n (ih4 n),stepi_atom4 n (ih4 n),stepi_rows4 n (ih4 n)⟩
def con_whole4A:Con:=Kz 400
theorem good_whole4A:Hg Try.prog (83,con_whole4A):=(ih4 400).whole
theorem Sy:con_whole4A=Kz 400:=rfl
def cn4f {A B C E R S T U V:Type} [Enc A] [Enc B] [Enc C] [Enc E] [Enc R] [Enc S] [Enc T] [Enc U] [Enc V] (p:A→B→C→E→Prop) (f:A→B→C→E→R×S×T×U×V):Con:=⟨[false,false,false,false],[false,false,false,false,false],fun c=>match c with
 | [.d x,.d y,.d z,.d w]=>isE A x∧isE B y∧isE C z∧isE E w∧p (dec x) (dec y) (dec z) (dec w)
 | _=>False,fun c=>match c with
 | [.d x,.d y,.d z,.d w]=>.tup [.d (enc (f (dec x) (dec y) (dec z) (dec w)).1),.d (enc (f (dec x) (dec y) (dec z) (dec w)).2.1),.d (enc (f (dec x) (dec y) (dec z) (dec w)).2.2.1),.d (enc (f (dec x) (dec y) (dec z) (dec w)).2.2.2.1),.d (enc (f (dec x) (dec y) (dec z) (dec w)).2.2.2.2)]
 | _=>.d .nilp⟩
theorem cn4f_pre {A B C E R S T U V:Type} [Enc A] [Enc B] [Enc C] [Enc E] [Enc R] [Enc S] [Enc T] [Enc U] [Enc V] {p:A→B→C→E→Prop} {f:A→B→C→E→R×S×T×U×V} {c:List CV} (h:(cn4f p f).pre c):∃ a b d e,c=[.d (enc a),.d (enc b),.d (enc d),.d (enc e)]∧p a b d e:=by
 unfold cn4f at h
 simp only at h
 split at h
 ·next x y z w=>exact ⟨dec x,dec y,dec z,dec w,by rw [←h.1,←h.2.1,←h.2.2.1,←h.2.2.2.1],h.2.2.2.2⟩
 ·exact h.elim
def rd4 (l:List Tok) (i site level:Int):Sl Node×Int×Sl Site×Int×Int:=(⟨(S9 l i site level).1⟩,(S9 l i site level).2.1,⟨(S9 l i site level).2.2.1⟩,(S9 l i site level).2.2.2.1,(S9 l i site level).2.2.2.2)
def Tj:Con:=cn4f (fun (l:Sl Tok) (i site v:Int)=>(l.l.length≤100000∧∀ t∈l.l,t.text.length≤9223372036854775807)∧0≤i∧i≤l.l.length∧1≤site∧site≤1000000∧1≤v∧v≤100) (fun l i site v=>rd4 l.l i site v)
noncomputable def Ar:Ctx:=⟨tab,lkC [(83,con_whole4A),(67,Bw)],60,lkB [],[],false⟩
theorem ctx_Read4_t:Ar.τ=tab:=rfl
theorem ctx_Read4_c:Ar.Γ=lkC [(83,con_whole4A),(67,Bw)]:=rfl
theorem ctx_Read4_d:Ar.dp=60:=rfl
theorem ctx_Read4_b:Ar.Δ=lkB []:=rfl
theorem ctx_Read4_u:Ar.cuts=[]:=rfl
theorem ctx_Read4_w:Ar.wr=false:=rfl
set_option maxRecDepth 100000 in
theorem good_Read4:Hg Try.prog (72,Tj):=by
 refine ⟨Ke Try.func72 (by kernel_rfl) rfl,?_⟩
 have K:Gu Try.prog Ar:=Ko G7 Kw (by
  intro p hp
  simp only [bQ,bZ,or_false] at hp
  rcases hp with rfl|rfl
  ·exact good_whole4A
  ·exact good_Right3) (by simp)
 obtain ⟨c,hc⟩:∃ c,Try.f72.body=some c:=⟨_,rfl⟩
 refine Kn K Try.func72 hc [.tmp 8,.tmp 9,.tmp 10,.tmp 11,.tmp 12] rfl 60 rfl (fun cvs hpre=>?_)
 change Tj.pre cvs at hpre
 unfold Tj at hpre
 obtain ⟨⟨l⟩,i,site,v,rfl,⟨hl,htx⟩,hi0,hi1,hs0,hs1,hv1,hv2⟩:=cn4f_pre hpre
 simp only at hl htx hi1
 clear hpre
 have hOk:St4Ok l ⟨i,site,[],0⟩:=⟨hl,hi0,hi1,by show ((0:Nat):Int)≤1000000+i;omega,by show 0≤site∧site≤1000000+i;omega,htx⟩
 obtain ⟨⟨R1,R2,R3,R4,R5⟩,hR⟩:∃ R,S9 l i site v=R:=⟨_,rfl⟩
 have hR2:=hR
 unfold S9 at hR2
 rw [if_neg (by omega)] at hR2
 have hgt:ltB (l.length:Int) i=false:=by rw [Hm];omega
 have g0:ltB i 0=false:=by rw [Hm];omega
 have g1:ltB site 1=false:=by rw [Hm];omega
 have g2:ltB v 1=false:=by rw [Hm];omega
 simp only [if_neg (show ¬ (l.length:Int)<i by omega)] at hR2
 have hE:=Dt (l:=l) (101-v).toNat ⟨i,site,[],0⟩ (by omega) hOk.lo hOk.hi
 have hNm:=I6 htx (101-v).toNat ⟨i,site,[],0⟩
 obtain ⟨⟨t,q⟩,hw⟩:∃ w,M7 (101-v).toNat l ⟨i,site,[],0⟩=w:=⟨_,rfl⟩
 rw [hw] at hR2 hE hNm
 have hEl:=hE.len
 obtain ⟨qa,qi,qs,qe⟩:=q
 simp only at hR2 hEl hNm
 have htl:t.length≤9223372036854775807:=by omega
 have hrd:rd4 l i site v=(⟨R1⟩,R2,⟨R3⟩,R4,R5):=by unfold rd4;rw [hR]
 simp only [Try.f72,aZ] at hc
 subst hc
 refine Gf 3 (of_decide_eq_true (by kernel_rfl)) ?_
 by_cases he:qe=0
 case neg =>
  rw [if_pos he] at hR2
  have hb:(qe != 0)=true:=bne_iff_ne.2 he
  simp only [aJ] at hR2
  obtain ⟨rfl,rfl,rfl,rfl,rfl⟩:=hR2
  (sym=>simp [g0,g1,g2,hgt,hw,hb,hrd,cn4f.eq_def,Sy,mV,lQ,Ig,A8,K3,K4,K5,ctx_Read4_t,ctx_Read4_c,ctx_Read4_d,ctx_Read4_b,ctx_Read4_u,ctx_Read4_w,Tj.eq_def,Bw.eq_def,Zb,Zc,Zd,Ze,Zf,Zh,Zi,Zj,Zk,Zl,Zm,Zn,Zo,Zp,Zq,Zs,Zt,Zu,Zv,Zw,Zx,Z2,Z6,Qa,Qb,Qd,Qf,Qg,Qh,Qi,Qj,Qm,Qn,Qo,Qp,Qq,Qr,Qs,Qt,Qu,Qv,Qw,Qx,Qy,Qz,Q0,Q1,Q2,Q3,Q8,Q9,Ja,Jb,Jc,Jd,Je,Jf,Jj,Jq,Jr,Js,Jt,Jv,Jw,Jy,Jz,J2,J3,J5,J6,J7,Xa,Xb,Xd,Xi,Xj,Xk,Xl,Xm,Xq,Xr,Xs,Xt,Xu,Xv,Xw,Xx,Xy,X0,X2,X6,X7,X8,X9,Wb,Wc,Wd,Wf,Wg,Wh,Wi,Wj,Wl,Wm,Wn,Wo,Wp,Wt,Wx,W2,W6,Yc,Yf,Yg,Yn,Yo,Yp,Yq,Yr,Ys,Yt,Yu,Yv,Yw,Yx,Yz,Y2,Y4,Y9,Va,Vj,Vk,Vm,Vr,Vy,Vz,V0,V1,V2,V3,V4,V5,V6,V8,Ue,Uf,Ui,Uj,U5,K9,Ks,Mr,K6,K1,K2,Ku,H2,Nr];tactic =>
   try simp only [Uq] at *;try simp only [nc2] at *
   try simp (maxSteps:=4000000) only [g0,g1,g2,hgt,hw,hb,hrd,cn4f.eq_def,Sy,mV,lQ,Ig,A8,K3,K4,K5,U6]
   repeat' first|with_reducible assumption|with_reducible apply And.intro|intro _|omega|(rw [Uk];omega)
   all_goals first|contradiction|with_reducible exact okq|exact hOk|omega|rfl|trivial|exact Or.inr trivial|skip)
 have hb:(qe != 0)=false:=by rw [he];rfl
 rw [if_neg (by simpa using he)] at hR2
 by_cases h1:10000<t.length
 ·rw [if_pos h1] at hR2
  have hb2:ltB 10000 (t.length:Int)=true:=by rw [Hf];omega
  simp only [aJ] at hR2
  obtain ⟨rfl,rfl,rfl,rfl,rfl⟩:=hR2
  (sym=>simp [g0,g1,g2,hgt,hw,hb,hb2,hrd,cn4f.eq_def,Sy,mV,lQ,Ig,A8,K3,K4,K5,ctx_Read4_t,ctx_Read4_c,ctx_Read4_d,ctx_Read4_b,ctx_Read4_u,Tj.eq_def,Bw.eq_def,Zb,Zc,Zd,Ze,Zf,Zn,Zo,Zp,Zq,Zs,Zt,Zu,Zv,Zw,Zx,Z2,Z6,Qa,Qb,Qd,Qf,Qg,Qh,Qi,Qj,Qm,Qn,Qo,Qp,Qq,Qr,Qs,Qu,Qv,Qw,Qx,Q0,Q1,Q2,Q3,Q8,Q9,Ja,Jb,Jc,Jd,Je,Jf,Jj,Jq,Jr,Js,Jt,Ju,Jv,Jw,Jx,Jy,Jz,J2,J3,J5,J6,J7,Xa,Xb,Xd,Xi,Xj,Xl,Xm,Xq,Xr,Xu,Xw,Xx,Xy,X0,X6,X7,X8,X9,Wb,Wc,Wd,Wf,Wg,Wh,Wi,Wj,Wl,Wm,Wn,Wo,Wp,Wt,Wx,W2,W6,Yc,Yf,Yg,Yn,Yo,Yp,Yq,Yr,Ys,Yt,Yu,Yv,Yw,Yx,Yz,Y2,Y4,Y9,Va,Vj,Vk,Vm,Vr,Vy,Vz,V0,V1,V2,V3,V4,V5,V6,Ue,Uf,Ui,Uj,U5,K9,Ks,Mr,K6,K1,K2,Ku,H2,Nr];tactic =>
   try simp only [Uq] at *;try simp only [nc2] at *
   try simp (maxSteps:=4000000) only [g0,g1,g2,hgt,hw,hb,hb2,hrd,cn4f.eq_def,Sy,mV,lQ,Ig,A8,K3,K4,K5,U6]
   repeat' first|with_reducible assumption|with_reducible apply And.intro|intro _|omega|(rw [Uk];omega)
   all_goals first|contradiction|with_reducible exact okq|exact hOk|omega|rfl|trivial|exact Or.inr trivial|skip)
 rw [if_neg h1] at hR2
 have hb2:ltB 10000 (t.length:Int)=false:=by rw [Hm];omega
 cases h2:L4 t with
 | false =>
  rw [if_pos h2] at hR2
  simp only [aJ] at hR2
  obtain ⟨rfl,rfl,rfl,rfl,rfl⟩:=hR2
  (sym=>simp [g0,g1,g2,hgt,hw,hb,hb2,h2,hrd,cn4f.eq_def,Sy,mV,lQ,Ig,A8,K3,K4,K5,ctx_Read4_t,ctx_Read4_c,ctx_Read4_d,ctx_Read4_b,ctx_Read4_u,Tj.eq_def,Bw.eq_def,Zb,Zc,Zd,Ze,Zf,Zn,Zo,Zp,Zq,Zs,Zt,Zu,Zv,Zw,Zx,Z2,Z6,Qa,Qb,Qd,Qe,Qf,Qg,Qh,Qi,Qj,Qm,Qn,Qo,Qp,Qq,Qr,Qs,Qu,Qv,Qw,Qx,Q0,Q1,Q2,Q3,Q8,Q9,Ja,Jb,Jc,Jd,Je,Jf,Jj,Jq,Jr,Js,Jt,Ju,Jv,Jw,Jx,Jy,Jz,J2,J3,J5,J6,J7,Xa,Xb,Xd,Xi,Xj,Xl,Xm,Xq,Xr,Xu,Xw,Xx,Xy,X0,X6,X7,X8,X9,Wb,Wc,Wd,Wf,Wg,Wh,Wi,Wj,Wl,Wm,Wn,Wo,Wp,Wt,Wu,Wx,Wy,W2,W6,Yc,Yd,Yf,Yg,Yn,Yo,Yp,Yq,Yr,Ys,Yt,Yu,Yv,Yw,Yx,Yz,Y2,Y4,Y6,Y9,Va,Vj,Vk,Vm,Vr,Vy,Vz,V0,V1,V2,V3,V4,V5,V6,Ue,Uf,Ui,Uj,U5,K9,Ks,Mr,K6,K1,K2,Ku,H2,Nr];tactic =>
   try simp only [Uq] at *;try simp only [nc2] at *
   try simp (maxSteps:=4000000) only [g0,g1,g2,hgt,hw,hb,hb2,h2,hrd,cn4f.eq_def,Sy,mV,lQ,Ig,A8,K3,K4,K5,U6]
   repeat' first|with_reducible assumption|with_reducible apply And.intro|intro _|omega|(rw [Uk];omega)
   all_goals first|contradiction|with_reducible exact okq|exact hOk|exact hNm|omega|rfl|trivial|exact Or.inr trivial|skip)
 | true =>
  rw [if_neg (by rw [h2];simp)] at hR2
  simp only [aJ] at hR2
  obtain ⟨rfl,rfl,rfl,rfl,rfl⟩:=hR2
  (sym=>simp [g0,g1,g2,hgt,hw,hb,hb2,h2,hrd,cn4f.eq_def,Sy,mV,lQ,Ig,A8,K3,K4,K5,ctx_Read4_t,ctx_Read4_c,ctx_Read4_d,ctx_Read4_b,ctx_Read4_u,ctx_Read4_w,Tj.eq_def,Bw.eq_def,Zb,Zc,Zd,Ze,Zf,Zh,Zi,Zj,Zk,Zl,Zm,Zn,Zo,Zp,Zq,Zs,Zt,Zu,Zv,Zw,Zx,Z2,Z6,Qa,Qb,Qd,Qe,Qf,Qg,Qh,Qi,Qj,Qm,Qn,Qo,Qp,Qq,Qr,Qs,Qt,Qu,Qv,Qw,Qx,Qy,Qz,Q0,Q1,Q2,Q3,Q8,Q9,Ja,Jb,Jc,Jd,Je,Jf,Jj,Jq,Jr,Js,Jt,Ju,Jv,Jw,Jx,Jy,Jz,J2,J5,J6,J7,Xa,Xb,Xd,Xi,Xj,Xk,Xl,Xm,Xq,Xr,Xs,Xt,Xu,Xv,Xw,Xx,Xy,X0,X2,X6,X7,X8,X9,Wb,Wc,Wd,Wf,Wg,Wh,Wi,Wj,Wl,Wm,Wn,Wo,Wp,Wt,Wu,Wx,Wy,W2,W6,Yc,Yd,Yf,Yg,Yn,Yo,Yp,Yq,Yr,Ys,Yt,Yu,Yv,Yw,Yx,Yz,Y2,Y4,Y5,Y9,Va,Vj,Vk,Vm,Vr,Vz,V0,V1,V2,V3,V4,V5,V6,V8,Ue,Uf,Ui,Uj,U5,K9,Ks,Mr,K6,K1,K2,Ku,H2,Nr];tactic =>
   try simp only [Uq] at *;try simp only [nc2] at *
   try simp (maxSteps:=4000000) only [g0,g1,g2,hgt,hw,hb,hb2,h2,hrd,cn4f.eq_def,Sy,mV,lQ,Ig,A8,K3,K4,K5,U6]
   repeat' first|with_reducible assumption|with_reducible apply And.intro|intro _|omega|(rw [Uk];omega)
   all_goals first|contradiction|with_reducible exact okq|exact hOk|exact hNm|omega|rfl|trivial|exact Or.inr trivial|skip)
structure St6 where
 at_:Int
 sites:List Site
 e:Int
 deriving DecidableEq
instance encSt6:Enc St6:=⟨fun a=>.agg [.int .i64 a.at_,.list 3 (a.sites.map enc),.int .i64 a.e],fun x=>match x with
 | .agg [a,c,d]=>⟨a.i,c.l.map dec,d.i⟩
 | _=>⟨0,[],0⟩,fun a=>by
  have h:∀ l:List Site,(l.map (enc:Site→D)).map dec=l:=fun l=>Pf
  cases a
  simp [D.l,D.i,h]⟩
theorem Uz {a d:Int} {c:List Site}:(enc (St6.mk a c d):D)=.agg [.int .i64 a,.list 3 (c.map enc),.int .i64 d]:=rfl
theorem U4 {a d:Int} {c:List Site}:(dec (.agg [.int .i64 a,.list 3 (c.map enc),.int .i64 d]):St6)=⟨a,c,d⟩:=Enc.dec_enc (St6.mk a c d)
theorem U3 {a d:Int} {c:List Site}:isE St6 (.agg [.int .i64 a,.list 3 (c.map enc),.int .i64 d])=True:=eq_true (Cp (St6.mk a c d))
def Ns (s:St6) (e:Int):St6:=if s.e=0 then ⟨s.at_,s.sites,e⟩ else s
def is6 (l:List Tok) (s:St6) (k:Int) (x:List UInt8):Bool:=(s.e==0)&&(ltB s.at_ l.length&&((tk l s.at_).kind==k&&(tk l s.at_).text==x))
def Pe (s:St6):St6:=⟨s.at_+1,s.sites,s.e⟩
def Gz (l:List Tok) (s:St6) (k:Int) (x:List UInt8):St6:=if s.e≠0 then s else if is6 l s k x=false then Ns s 2 else Pe s
def Hp (l:List Tok) (s:St6) (k:Int):List UInt8×St6:=if s.e≠0 then ([],s) else if (l.length:Int)≤s.at_∨(tk l s.at_).kind≠k then ([],Ns s 2) else ((tk l s.at_).text,Pe s)
def typed6 (l:List Tok) (s:St6) (v:Int):List Node×St6 :=
 if s.e≠0 then ([],s)
 else if (S9 l s.at_ (s.sites.length+1) v).2.2.2.2≠0 then ([],⟨(S9 l s.at_ (s.sites.length+1) v).2.2.2.1,s.sites,(S9 l s.at_ (s.sites.length+1) v).2.2.2.2⟩)
 else ((S9 l s.at_ (s.sites.length+1) v).1,⟨(S9 l s.at_ (s.sites.length+1) v).2.1,s.sites++(S9 l s.at_ (s.sites.length+1) v).2.2.1,0⟩)
def Cn (l:List Tok) (s:St6) (v:Int):List Node×St6 :=
 if s.e≠0 then ([],s)
 else if is6 l s 5 [58]=true then typed6 l (Pe s) v
 else ([⟨0,[],s.sites.length+1⟩],⟨s.at_,s.sites++[⟨(tk l (s.at_-1)).to,(tk l (s.at_-1)).to,true⟩],0⟩)
def in6 (l:List (List UInt8)) (x:List UInt8):Bool:=l.any fun y=>y==x
def Figs (s:List UInt8):Prop:=s.length≤18∧∀ c∈s,P0 c=true
structure St6Ok (l:List Tok) (s:St6):Prop where
 len:l.length≤100000
 lo:0≤s.at_
 hi:s.at_≤l.length
 sites:s.sites.length≤900000
 txt:∀ t∈l,t.text.length≤1000000
 fig:∀ t∈l,t.kind=3→Figs t.text
theorem St6Ok.long {l:List Tok} {s:St6} (h:St6Ok l s):∀ t∈l,t.text.length≤9223372036854775807:=fun t ht=>Nat.le_trans (h.txt t ht) (by omega)
def Kr:Con:=Ms (fun (_:St6) (_:Int)=>True) (fun s e=>Ns s e)
theorem mX:type_of% @Kr.eq_def:=@Kr.eq_def
noncomputable def ctx_wrong6:Ctx:=⟨tab,lkC [],60,lkB [],[],false⟩
theorem ctx_wrong6_t:ctx_wrong6.τ=tab:=rfl
theorem ctx_wrong6_d:ctx_wrong6.dp=60:=rfl
theorem ctx_wrong6_u:ctx_wrong6.cuts=[]:=rfl
set_option maxRecDepth 100000 in
theorem Cg:Hg Try.prog (31,Kr):=by
 refine ⟨Ke Try.func31 (by kernel_rfl) rfl,?_⟩
 have K:Gu Try.prog ctx_wrong6:=Ko G7 Kw (by simp) (by simp)
 obtain ⟨c,hc⟩:∃ c,Try.f31.body=some c:=⟨_,rfl⟩
 refine Kn K Try.func31 hc [.cell 4 71] rfl 11 rfl (fun cvs hpre=>?_)
 change Kr.pre cvs at hpre
 unfold Kr at hpre
 obtain ⟨⟨k,ss,e⟩,x,rfl,-⟩:=Bb hpre
 clear hpre
 obtain ⟨R,hR⟩:∃ R,Ns ⟨k,ss,e⟩ x=R:=⟨_,rfl⟩
 have hR2:=hR
 unfold Ns at hR2
 simp only at hR2
 simp only [Try.f31,aZ] at hc
 subst hc
 by_cases he:e=0
 ·rw [if_pos he] at hR2
  have hb:(e==0)=true:=beq_iff_eq.2 he
  subst hR2
  (sym=>simp [hb,hR,Uz,U3,U4,ctx_wrong6_t,ctx_wrong6_d,ctx_wrong6_u,mX,Za,Zb,Zc,Ze,Zf,Zo,Zp,Zq,Zs,Zu,Zv,Zw,Zx,Qd,Qf,Qj,Qm,Qn,Qo,Qp,Qq,Qr,Qs,Qu,Qv,Qw,Qx,Q1,Q3,Ja,Jb,Jd,Jf,Jj,Jq,Jr,J2,Xa,Xb,Xe,Xj,Xl,Xm,Xq,Xr,Xu,Xw,Xx,Xy,X0,X6,X7,X8,X9,Wc,Wf,Wh,Wi,Wj,Wl,Wm,Wn,Wt,Wx,W2,W6,Yc,Yn,Yo,Yp,Yq,Yr,Ys,Yt,Yu,Yv,Yw,Yx,Vj,Vr,Vy,Vz,V0,V1,V4,V5,V6,Ui,Uj,Ks,G5])
 ·rw [if_neg he] at hR2
  have hb:(e==0)=false:=beq_eq_false_iff_ne.2 he
  subst hR2
  (sym=>simp [hb,hR,Uz,U3,U4,ctx_wrong6_t,ctx_wrong6_d,ctx_wrong6_u,mX,Za,Zb,Zc,Ze,Zf,Zo,Zp,Zq,Zs,Zu,Zv,Zw,Zx,Qd,Qf,Qj,Qm,Qn,Qo,Qp,Qq,Qr,Qs,Qu,Qv,Qw,Qx,Q1,Q3,Ja,Jb,Jd,Jf,Jj,Jq,Jr,J2,Xa,Xb,Xe,Xi,Xj,Xl,Xm,Xq,Xr,Xu,Xx,Xy,X0,X6,X7,X8,X9,Wc,Wf,Wh,Wi,Wj,Wl,Wm,Wn,Wt,Wx,W6,Yc,Yn,Yo,Yp,Yq,Yr,Ys,Yt,Yu,Yv,Yw,Yx,Vj,Vz,V0,V1,V4,V5,V6,Ui,Uj,Ks,G5])
def Gy:Con:=cn4 (fun (l:Sl Tok) (s:St6) (_:Int) (_:List UInt8)=>l.l.length≤1000000∧0≤s.at_) (fun l s k x=>is6 l.l s k x)
theorem mJ:type_of% @Gy.eq_def:=@Gy.eq_def
noncomputable def ctx_is6:Ctx:=⟨tab,lkC [],60,lkB [],[],false⟩
theorem ctx_is6_t:ctx_is6.τ=tab:=rfl
theorem ctx_is6_d:ctx_is6.dp=60:=rfl
theorem ctx_is6_u:ctx_is6.cuts=[]:=rfl
set_option maxRecDepth 100000 in
theorem Ib:Hg Try.prog (28,Gy):=by
 refine ⟨Ke Try.func28 (by kernel_rfl) rfl,?_⟩
 have K:Gu Try.prog ctx_is6:=Ko G7 Kw (by simp) (by simp)
 obtain ⟨c,hc⟩:∃ c,Try.f28.body=some c:=⟨_,rfl⟩
 refine Kn K Try.func28 hc [.tmp 8] rfl 39 rfl (fun cvs hpre=>?_)
 change Gy.pre cvs at hpre
 unfold Gy at hpre
 obtain ⟨⟨l⟩,⟨i,ss,e⟩,kd,x,rfl,hl,hi⟩:=cn4_pre hpre
 simp only at hl hi
 obtain ⟨i,rfl⟩:∃ n:Nat,i=n:=⟨i.toNat,by omega⟩
 clear hpre
 obtain ⟨R,hR⟩:∃ R,is6 l ⟨i,ss,e⟩ kd x=R:=⟨_,rfl⟩
 have hR2:=hR
 unfold is6 at hR2
 simp only [C6] at hR2
 simp only [Try.f28,aZ] at hc
 subst hc
 refine Gf 2 (of_decide_eq_true (by kernel_rfl)) ?_
 cases he:(e==0) with
 | false =>
  rw [he,Bool.false_and] at hR2
  subst hR2
  (sym=>simp [he,hR,lZ,U1,Kb,Kc,Ka,Gl,Uz,U3,U4,ctx_is6_t,ctx_is6_d,ctx_is6_u,mJ,Zb,Zc,Zd,Ze,Zf,Zo,Zp,Zq,Zs,Zt,Zu,Zv,Zx,Qd,Qf,Qn,Qo,Qp,Qq,Qr,Qs,Qu,Qv,Qw,Qx,Q1,Ja,Jb,Jd,Jf,Jj,Jq,Jr,Js,Jt,Ju,Jv,Jw,Jx,Jy,Jz,J2,J6,J7,Xb,Xj,Xl,Xq,Xr,Xu,Xw,Xx,Xy,X6,X7,X8,X9,Wc,Wf,Wh,Wi,Wj,Wl,Wm,Wn,Wo,Wp,Wt,Wx,W6,Yc,Yd,Ye,Yn,Yo,Yp,Yq,Yr,Ys,Yt,Yu,Yv,Yw,Yx,Yy,Yz,Y9,Va,Vj,Vk,Vz,V1,V5,V6,Ui,U5,Kh,Ks,K2,G5,Ku])
 | true =>
 rw [he,Bool.true_and] at hR2
 rcases Kt i l.length with ⟨hlt,hlb⟩|⟨hlt,hlb⟩
 ·have q1:=K7 Td hlt
  obtain ⟨t,ht⟩:∃ t,l.getD i Td=t:=⟨_,rfl⟩
  rw [ht] at q1 hR2
  rw [hlb,Bool.true_and] at hR2
  obtain ⟨b1,h1⟩:∃ b,(t.kind==kd)=b:=⟨_,rfl⟩
  rw [h1] at hR2
  cases b1 with
  | false =>
   rw [Bool.false_and] at hR2
   subst hR2
   (sym=>simp [he,hlb,q1,h1,hR,lZ,U1,Kb,Kc,Ka,Gl,Uz,U3,U4,ctx_is6_t,ctx_is6_d,ctx_is6_u,mJ,Zb,Zc,Zd,Ze,Zf,Zo,Zp,Zq,Zs,Zt,Zu,Zv,Zx,Zy,Z6,Qd,Qf,Qn,Qo,Qp,Qq,Qr,Qs,Qu,Qv,Qw,Qx,Q1,Ja,Jb,Jd,Jf,Jj,Jq,Jr,Js,Jt,Ju,Jv,Jw,Jx,Jy,Jz,J2,J6,J7,Xb,Xj,Xl,Xq,Xr,Xu,Xw,Xx,Xy,X6,X7,X8,X9,Wc,Wf,Wh,Wi,Wj,Wl,Wm,Wn,Wo,Wp,Wt,Wx,W1,W6,W7,Yb,Yc,Yd,Ye,Yf,Yg,Yn,Yo,Yp,Yq,Yr,Ys,Yt,Yu,Yv,Yw,Yx,Yy,Yz,Y7,Y9,Va,Vj,Vk,Vy,Vz,V0,V1,V3,V5,V6,Ui,U5,Kh,Ks,K2,G5,Ku];tactic =>
    try simp only [Uq] at *;try simp only [nc2] at *
    try simp (maxSteps:=4000000) only [he,hlb,q1,h1,hR,lZ,U1,Kb,Kc,Ka,Gl,Uz,U3,U4,U6]
    repeat' first|with_reducible assumption|with_reducible apply And.intro|intro _|omega|(rw [Uk];omega)
    all_goals first|with_reducible exact okq|omega|rfl|trivial|skip)
  | true =>
   rw [Bool.true_and] at hR2
   (sym=>simp [he,hlb,q1,h1,hR2,hR,lZ,U1,Kb,Kc,Ka,Gl,Uz,U3,U4,ctx_is6_t,ctx_is6_d,ctx_is6_u,mJ,Zb,Zc,Zd,Ze,Zf,Zo,Zp,Zq,Zs,Zt,Zu,Zv,Zx,Zy,Z6,Qd,Qf,Qn,Qo,Qp,Qq,Qr,Qs,Qu,Qv,Qw,Qx,Q1,Ja,Jb,Jd,Jf,Jj,Jq,Jr,Js,Jt,Ju,Jv,Jw,Jx,Jy,Jz,J2,J6,J7,Xb,Xj,Xl,Xq,Xr,Xu,Xw,Xx,Xy,X6,X7,X8,X9,Wc,Wf,Wh,Wi,Wj,Wl,Wm,Wn,Wo,Wp,Wt,Wv,Wx,Wz,W1,W6,W7,W9,Yb,Yc,Yd,Ye,Yf,Yg,Yn,Yo,Yp,Yq,Yr,Ys,Yt,Yu,Yv,Yw,Yx,Yy,Yz,Y7,Y9,Va,Vj,Vk,Vy,Vz,V0,V1,V2,V3,V5,V6,Ui,U5,Kh,Ks,K2,G5,Ku];tactic =>
    try simp only [Uq] at *;try simp only [nc2] at *
    try simp (maxSteps:=4000000) only [he,hlb,q1,h1,hR2,hR,lZ,U1,Kb,Kc,Ka,Gl,Uz,U3,U4,U6]
    repeat' first|with_reducible assumption|with_reducible apply And.intro|intro _|omega|(rw [Uk];omega)
    all_goals first|with_reducible exact okq|omega|rfl|trivial|skip)
 ·rw [hlb,Bool.false_and] at hR2
  subst hR2
  (sym=>simp [he,hlb,hR,lZ,U1,Kb,Kc,Ka,Gl,Uz,U3,U4,ctx_is6_t,ctx_is6_d,ctx_is6_u,mJ,Zb,Zc,Zd,Ze,Zf,Zo,Zp,Zq,Zs,Zt,Zu,Zv,Zx,Z6,Qd,Qf,Qn,Qo,Qp,Qq,Qr,Qs,Qu,Qv,Qw,Qx,Q1,Ja,Jb,Jd,Jf,Jj,Jq,Jr,Js,Jt,Ju,Jv,Jw,Jx,Jy,Jz,J2,J6,J7,Xb,Xj,Xl,Xq,Xr,Xu,Xw,Xx,Xy,X6,X7,X8,X9,Wc,Wf,Wh,Wi,Wj,Wl,Wm,Wn,Wo,Wp,Wt,Wx,W6,Yc,Yd,Ye,Yf,Yg,Yn,Yo,Yp,Yq,Yr,Ys,Yt,Yu,Yv,Yw,Yx,Yy,Yz,Y9,Va,Vj,Vk,Vy,Vz,V1,V3,V5,V6,Ui,U5,Kh,Ks,K2,G5,Ku])
theorem needs6_cases (l:List Tok) (s:St6) (k:Int) (x:List UInt8):(s.e≠0∧Gz l s k x=s)∨(s.e=0∧is6 l s k x=false∧Gz l s k x=⟨s.at_,s.sites,2⟩)∨(s.e=0∧is6 l s k x=true∧Gz l s k x=⟨s.at_+1,s.sites,0⟩):=by
 unfold Gz
 by_cases h:s.e=0
 ·rw [if_neg (by simpa using h)]
  cases hi:is6 l s k x with
  | false=>exact .inr (.inl ⟨h,rfl,by rw [if_pos rfl];unfold Ns;rw [if_pos h]⟩)
  | true=>exact .inr (.inr ⟨h,rfl,by rw [if_neg (by simp)];unfold Pe;rw [h]⟩)
 ·exact .inl ⟨h,if_pos h⟩
def L8:Con:=cn4 (fun (l:Sl Tok) (s:St6) (_:Int) (_:List UInt8)=>l.l.length≤1000000∧0≤s.at_∧s.at_≤2000000) (fun l s k x=>Gz l.l s k x)
noncomputable def Fe:Ctx:=⟨tab,lkC [(28,Gy),(31,Kr)],60,lkB [],[],false⟩
theorem ctx_needs6_t:Fe.τ=tab:=rfl
theorem ctx_needs6_c:Fe.Γ=lkC [(28,Gy),(31,Kr)]:=rfl
theorem ctx_needs6_d:Fe.dp=60:=rfl
theorem ctx_needs6_b:Fe.Δ=lkB []:=rfl
theorem ctx_needs6_u:Fe.cuts=[]:=rfl
theorem ctx_needs6_w:Fe.wr=false:=rfl
set_option maxRecDepth 100000 in
theorem good_needs6:Hg Try.prog (45,L8):=by
 refine ⟨Ke Try.func45 (by kernel_rfl) rfl,?_⟩
 have K:Gu Try.prog Fe:=Ko G7 Kw (by
  intro p hp
  simp only [bQ,bZ,or_false] at hp
  rcases hp with rfl|rfl
  ·exact Ib
  ·exact Cg) (by simp)
 obtain ⟨c,hc⟩:∃ c,Try.f45.body=some c:=⟨_,rfl⟩
 refine Kn K Try.func45 hc [.cell 8 71] rfl 26 rfl (fun cvs hpre=>?_)
 change L8.pre cvs at hpre
 unfold L8 at hpre
 obtain ⟨⟨l⟩,⟨i,ss,e⟩,kd,x,rfl,hl,hs0,hs1⟩:=cn4_pre hpre
 try simp only at hl hs0 hs1
 clear hpre
 obtain ⟨⟨Ra,Rs,Re⟩,hR⟩:∃ R,Gz l ⟨i,ss,e⟩ kd x=R:=⟨_,rfl⟩
 have hcz:=needs6_cases l ⟨i,ss,e⟩ kd x
 rw [hR] at hcz
 simp only [St6.mk.injEq] at hcz
 simp only [Try.f45,aZ] at hc
 subst hc
 rcases hcz with ⟨h1,rfl,rfl,rfl⟩|⟨rfl,h2,rfl,rfl,rfl⟩|⟨rfl,h2,rfl,rfl,rfl⟩
 ·have he:(Re != 0)=true:=bne_iff_ne.2 h1
  (sym=>simp [he,hR,lZ,Uz,U3,U4,ctx_needs6_t,ctx_needs6_d,ctx_needs6_u,L8.eq_def,Za,Zb,Zc,Ze,Zf,Zo,Zp,Zq,Zs,Zu,Zv,Zw,Zx,Qd,Qf,Qj,Qm,Qn,Qo,Qp,Qq,Qr,Qs,Qu,Qv,Qw,Qx,Q1,Q3,Ja,Jb,Jd,Jf,Jj,Jq,Jr,J2,Xa,Xb,Xj,Xl,Xm,Xq,Xr,Xu,Xx,Xy,X0,X6,X7,X8,X9,Wc,Wf,Wh,Wi,Wj,Wl,Wm,Wn,Wt,Wx,W6,Yc,Ye,Yn,Yo,Yp,Yq,Yr,Ys,Yt,Yu,Yv,Yw,Yx,Yy,Yz,Va,Vj,Vy,Vz,V0,V1,V4,V5,V6,Ui,Uj,U5,K9,Kh,Ks,K2,G5,Ku])
 ·have hw:Ns ⟨Ra,Rs,0⟩ 2=⟨Ra,Rs,2⟩:=rfl
  (sym=>simp [h2,hw,hR,lZ,Uz,U3,U4,ctx_needs6_t,ctx_needs6_c,ctx_needs6_d,ctx_needs6_b,ctx_needs6_u,mJ,L8.eq_def,mX,Za,Zb,Zc,Ze,Zf,Zo,Zp,Zq,Zs,Zu,Zv,Zw,Zx,Qb,Qd,Qe,Qf,Qg,Qh,Qj,Qm,Qn,Qo,Qp,Qq,Qr,Qs,Qu,Qv,Qw,Qx,Q1,Q3,Q8,Ja,Jb,Jc,Jd,Je,Jf,Jj,Jq,Jr,J2,Xa,Xb,Xe,Xi,Xj,Xl,Xm,Xq,Xr,Xu,Xw,Xx,Xy,X0,X6,X7,X8,X9,Wb,Wc,Wd,Wf,Wh,Wi,Wj,Wl,Wm,Wn,Wt,Wu,Wx,Wy,W6,Yc,Yd,Ye,Yn,Yo,Yp,Yq,Yr,Ys,Yt,Yu,Yv,Yw,Yx,Yy,Yz,Y2,Y3,Y4,Y6,Va,Vj,Vy,Vz,V0,V1,V2,V4,V5,V6,Ui,Uj,U5,K9,Kh,Ks,K2,G5,Ku];tactic =>
   try simp only [Uq] at *;try simp only [nc2] at *
   try simp (maxSteps:=4000000) only [h2,hw,hR,lZ,Uz,U3,U4,U6]
   repeat' first|with_reducible assumption|with_reducible apply And.intro|intro _|omega|(rw [Uk];omega)
   all_goals first|with_reducible exact okq|omega|rfl|trivial|skip)
 ·(sym=>simp [h2,hR,lZ,Uz,U3,U4,ctx_needs6_t,ctx_needs6_c,ctx_needs6_d,ctx_needs6_b,ctx_needs6_u,ctx_needs6_w,mJ,L8.eq_def,mX,Za,Zb,Zc,Ze,Zf,Zo,Zp,Zq,Zs,Zu,Zv,Zw,Zx,Qb,Qd,Qe,Qf,Qg,Qh,Qj,Qm,Qn,Qo,Qp,Qq,Qr,Qs,Qu,Qv,Qw,Qx,Q1,Q3,Q8,Ja,Jb,Jc,Jd,Je,Jf,Jj,Jq,Jr,J2,Xa,Xb,Xe,Xi,Xj,Xl,Xm,Xq,Xr,Xu,Xw,Xx,Xy,X0,X6,X7,X8,X9,Wb,Wc,Wd,Wf,Wh,Wi,Wj,Wl,Wm,Wn,Wt,Wu,Wx,Wy,W2,W6,Yc,Yd,Ye,Yn,Yo,Yp,Yq,Yr,Ys,Yt,Yu,Yv,Yw,Yx,Yy,Yz,Y2,Y3,Y4,Y5,Va,Vj,Vr,Vz,V0,V1,V2,V4,V5,V6,Ui,Uj,U5,K9,Kh,Ks,K2,G5,Ku];tactic =>
   try simp only [Uq] at *;try simp only [nc2] at *
   try simp (maxSteps:=4000000) only [h2,hR,lZ,Uz,U3,U4,U6]
   repeat' first|with_reducible assumption|with_reducible apply And.intro|intro _|omega|(rw [Uk];omega)
   all_goals first|with_reducible exact okq|omega|rfl|trivial|skip)
def Gk:Con:=Lr (fun (l:Sl Tok) (s:St6) (_:List UInt8)=>l.l.length≤1000000∧0≤s.at_∧s.at_≤2000000) (fun l s x=>Gz l.l s 5 x)
theorem nW:type_of% @Gk.eq_def:=@Gk.eq_def
noncomputable def ctx_sign6:Ctx:=⟨tab,lkC [(45,L8)],60,lkB [],[],false⟩
theorem ctx_sign6_t:ctx_sign6.τ=tab:=rfl
theorem ctx_sign6_c:ctx_sign6.Γ=lkC [(45,L8)]:=rfl
theorem ctx_sign6_d:ctx_sign6.dp=60:=rfl
theorem ctx_sign6_b:ctx_sign6.Δ=lkB []:=rfl
set_option maxRecDepth 100000 in
theorem Cq:Hg Try.prog (32,Gk):=by
 refine ⟨Ke Try.func32 (by kernel_rfl) rfl,?_⟩
 have K:Gu Try.prog ctx_sign6:=Ko G7 Kw (by
  intro p hp
  simp only [bQ,bZ,or_false] at hp
  rcases hp with rfl
  ·exact good_needs6) (by simp)
 obtain ⟨c,hc⟩:∃ c,Try.f32.body=some c:=⟨_,rfl⟩
 refine Kn K Try.func32 hc [.cell 6 71] rfl 11 rfl (fun cvs hpre=>?_)
 change Gk.pre cvs at hpre
 unfold Gk at hpre
 obtain ⟨⟨l⟩,⟨i,ss,e⟩,x,rfl,hl,hs0,hs1⟩:=Is hpre
 try simp only at hl hs0 hs1
 clear hpre
 obtain ⟨⟨Ra,Rs,Re⟩,hR⟩:∃ R,Gz l ⟨i,ss,e⟩ 5 x=R:=⟨_,rfl⟩
 simp only [Try.f32,aZ] at hc
 subst hc
 (sym=>simp [hR,lZ,Uz,U3,U4,ctx_sign6_t,ctx_sign6_c,ctx_sign6_d,ctx_sign6_b,L8.eq_def,nW,Za,Zb,Zc,Ze,Zf,Zo,Zp,Zq,Zu,Zv,Zw,Qb,Qg,Qh,Qj,Qm,Qn,Qp,Qq,Qr,Qs,Qu,Qv,Qw,Qx,Q1,Q3,Q8,Ja,Jb,Jc,Jd,Je,Jj,Jq,Jr,J2,Xa,Xb,Xf,Xj,Xl,Xq,Xr,Xu,Xw,Xx,Xy,X0,X6,X7,X8,X9,Wb,Wc,Wd,Wf,Wh,Wi,Wj,Wl,W6,Ye,Yn,Yo,Yp,Yq,Yr,Ys,Yt,Yu,Yv,Yw,Yx,Yy,Yz,Y2,Y3,Y4,Va,Vj,V0,V1,V4,V5,V6,Ui,Uj,Kh,K2,G5,Ku];tactic =>
  try simp only [Uq] at *;try simp only [nc2] at *
  try simp (maxSteps:=4000000) only [hR,lZ,Uz,U3,U4,U6]
  repeat' first|with_reducible assumption|with_reducible apply And.intro|intro _|omega|(rw [Uk];omega)
  all_goals first|with_reducible exact okq|omega|rfl|trivial|skip)
def Bu:Con:=Lr (fun (l:Sl Tok) (s:St6) (_:List UInt8)=>l.l.length≤1000000∧0≤s.at_∧s.at_≤2000000) (fun l s x=>Gz l.l s 6 x)
noncomputable def ctx_key6:Ctx:=⟨tab,lkC [(45,L8)],60,lkB [],[],false⟩
theorem ctx_key6_t:ctx_key6.τ=tab:=rfl
theorem ctx_key6_c:ctx_key6.Γ=lkC [(45,L8)]:=rfl
theorem ctx_key6_d:ctx_key6.dp=60:=rfl
theorem ctx_key6_b:ctx_key6.Δ=lkB []:=rfl
set_option maxRecDepth 100000 in
theorem good_key6:Hg Try.prog (75,Bu):=by
 refine ⟨Ke Try.func75 (by kernel_rfl) rfl,?_⟩
 have K:Gu Try.prog ctx_key6:=Ko G7 Kw (by
  intro p hp
  simp only [bQ,bZ,or_false] at hp
  rcases hp with rfl
  ·exact good_needs6) (by simp)
 obtain ⟨c,hc⟩:∃ c,Try.f75.body=some c:=⟨_,rfl⟩
 refine Kn K Try.func75 hc [.cell 6 71] rfl 11 rfl (fun cvs hpre=>?_)
 change Bu.pre cvs at hpre
 unfold Bu at hpre
 obtain ⟨⟨l⟩,⟨i,ss,e⟩,x,rfl,hl,hs0,hs1⟩:=Is hpre
 try simp only at hl hs0 hs1
 clear hpre
 obtain ⟨⟨Ra,Rs,Re⟩,hR⟩:∃ R,Gz l ⟨i,ss,e⟩ 6 x=R:=⟨_,rfl⟩
 simp only [Try.f75,aZ] at hc
 subst hc
 (sym=>simp [hR,lZ,Uz,U3,U4,ctx_key6_t,ctx_key6_c,ctx_key6_d,ctx_key6_b,Bu.eq_def,L8.eq_def,Za,Zb,Zc,Ze,Zf,Zo,Zp,Zq,Zu,Zv,Zw,Qb,Qg,Qh,Qj,Qm,Qn,Qp,Qq,Qr,Qs,Qu,Qv,Qw,Qx,Q1,Q3,Q8,Ja,Jb,Jc,Jd,Je,Jj,Jq,Jr,J2,Xa,Xb,Xf,Xj,Xl,Xq,Xr,Xu,Xw,Xx,Xy,X0,X6,X7,X8,X9,Wb,Wc,Wd,Wf,Wh,Wi,Wj,Wl,W6,Ye,Yn,Yo,Yp,Yq,Yr,Ys,Yt,Yu,Yv,Yw,Yx,Yy,Yz,Y2,Y3,Y4,Va,Vj,V0,V1,V4,V5,V6,Ui,Uj,Kh,K2,G5,Ku];tactic =>
  try simp only [Uq] at *;try simp only [nc2] at *
  try simp (maxSteps:=4000000) only [hR,lZ,Uz,U3,U4,U6]
  repeat' first|with_reducible assumption|with_reducible apply And.intro|intro _|omega|(rw [Uk];omega)
  all_goals first|with_reducible exact okq|omega|rfl|trivial|skip)
theorem Co (l:List Tok) (s:St6) (k:Int):(s.e≠0∧Hp l s k=([],s))∨(s.e=0∧(l.length:Int)≤s.at_∧Hp l s k=([],⟨s.at_,s.sites,2⟩))∨(s.e=0∧s.at_<l.length∧(tk l s.at_).kind≠k∧Hp l s k=([],⟨s.at_,s.sites,2⟩)) ∨
  (s.e=0∧s.at_<l.length∧(tk l s.at_).kind=k∧Hp l s k=((tk l s.at_).text,⟨s.at_+1,s.sites,0⟩)):=by
 unfold Hp
 by_cases h:s.e=0
 ·rw [if_neg (by simpa using h)]
  by_cases h1:(l.length:Int)≤s.at_
  ·exact .inr (.inl ⟨h,h1,by rw [if_pos (.inl h1)];unfold Ns;rw [if_pos h]⟩)
  ·by_cases h2:(tk l s.at_).kind=k
   ·exact .inr (.inr (.inr ⟨h,by omega,h2,by rw [if_neg (by simp only [h2];simp;omega)];unfold Pe;rw [h]⟩))
   ·exact .inr (.inr (.inl ⟨h,by omega,h2,by rw [if_pos (.inr h2)];unfold Ns;rw [if_pos h]⟩))
 ·exact .inl ⟨h,if_pos h⟩
def Kv:Con:=Kl (fun (l:Sl Tok) (s:St6) (_:Int)=>l.l.length≤1000000∧0≤s.at_∧s.at_≤2000000) (fun l s k=>Hp l.l s k)
theorem mW:type_of% @Kv.eq_def:=@Kv.eq_def
noncomputable def Fg:Ctx:=⟨tab,lkC [(31,Kr)],60,lkB [],[],false⟩
theorem Oh:Fg.τ=tab:=rfl
theorem Oj:Fg.Γ=lkC [(31,Kr)]:=rfl
theorem Oi:Fg.dp=60:=rfl
theorem Ok:Fg.Δ=lkB []:=rfl
theorem Og:Fg.cuts=[]:=rfl
theorem ctx_named6_w:Fg.wr=false:=rfl
set_option maxRecDepth 100000 in
theorem Tn:Hg Try.prog (29,Kv):=by
 refine ⟨Ke Try.func29 (by kernel_rfl) rfl,?_⟩
 have K:Gu Try.prog Fg:=Ko G7 Kw (by
  intro p hp
  simp only [bQ,bZ,or_false] at hp
  rcases hp with rfl
  ·exact Cg) (by simp)
 obtain ⟨c,hc⟩:∃ c,Try.f29.body=some c:=⟨_,rfl⟩
 refine Kn K Try.func29 hc [.tmp 6,.cell 7 71] rfl 41 rfl (fun cvs hpre=>?_)
 change Kv.pre cvs at hpre
 unfold Kv at hpre
 obtain ⟨⟨l⟩,⟨i,ss,e⟩,kd,rfl,hl,hs0,hs1⟩:=El hpre
 simp only at hl hs0 hs1
 clear hpre
 obtain ⟨i,rfl⟩:∃ n:Nat,i=n:=⟨i.toNat,by omega⟩
 obtain ⟨⟨x,⟨Ra,Rs,Re⟩⟩,hR⟩:∃ R,Hp l ⟨i,ss,e⟩ kd=R:=⟨_,rfl⟩
 have hcz:=Co l ⟨i,ss,e⟩ kd
 rw [hR] at hcz
 simp only [St6.mk.injEq,aJ,C6] at hcz
 have hw:Ns ⟨(i:Int),ss,0⟩ 2=⟨i,ss,2⟩:=rfl
 have h11:(i:Int)+1-1=(i:Int):=by omega
 simp only [Try.f29,aZ] at hc
 subst hc
 refine Gf 2 (of_decide_eq_true (by kernel_rfl)) ?_
 rcases hcz with ⟨h1,rfl,rfl,rfl,rfl⟩|⟨rfl,h2,rfl,rfl,rfl,rfl⟩|⟨rfl,h2,h3,rfl,rfl,rfl,rfl⟩|⟨rfl,h2,h3,rfl,rfl,rfl,rfl⟩
 ·have he:(Re != 0)=true:=bne_iff_ne.2 h1
  (sym=>simp [he,hR,lQ,U1,Kb,Kc,Ka,Gl,Uz,U3,U4,Oh,Oj,Oi,Ok,Og,ctx_named6_w,mW,mX,Zb,Zc,Ze,Zf,Zh,Zi,Zj,Zk,Zl,Zm,Zo,Zp,Zq,Zs,Zu,Zv,Zw,Zx,Qd,Qf,Qj,Qm,Qn,Qo,Qp,Qq,Qr,Qs,Qt,Qu,Qv,Qw,Qx,Qy,Qz,Q1,Q3,Ja,Jb,Jd,Jf,Jj,Jq,Jr,Js,Jt,Jv,Jy,J2,J6,J7,Xa,Xb,Xe,Xj,Xk,Xl,Xm,Xq,Xr,Xs,Xt,Xu,Xv,Xw,Xx,Xy,X0,X2,X6,X7,X8,X9,Wc,Wf,Wg,Wh,Wi,Wj,Wl,Wm,Wn,Wo,Wp,Wt,Wx,W6,Yc,Ye,Yn,Yo,Yr,Ys,Yt,Yu,Yv,Yw,Yx,Yz,Y9,Va,Vj,Vl,Vn,Vy,Vz,V0,V1,V4,V5,V6,V8,Ui,Uj,U5,Kh,Ks,K2,G5,Ku];tactic =>
   try simp only [Uq] at *;try simp only [nc2] at *
   try simp (maxSteps:=4000000) only [he,hR,lQ,U1,Kb,Kc,Ka,Gl,Uz,U3,U4,U6]
   repeat' first|with_reducible assumption|with_reducible apply And.intro|intro _|omega|(rw [Uk];omega)
   all_goals first|with_reducible exact okq|omega|rfl|trivial|skip)
 ·have hge:leB (l.length:Int) (i:Int)=true:=by rw [G4];exact h2
  (sym=>simp [hge,hw,hR,lQ,U1,Kb,Kc,Ka,Gl,Uz,U3,U4,Oh,Oj,Oi,Ok,Og,mW,mX,Zb,Zc,Zd,Ze,Zf,Zo,Zp,Zq,Zs,Zt,Zu,Zv,Zw,Zx,Z6,Qb,Qd,Qf,Qg,Qh,Qj,Qm,Qn,Qo,Qp,Qq,Qr,Qs,Qu,Qv,Qw,Qx,Q1,Q3,Q8,Ja,Jb,Jc,Jd,Je,Jf,Jj,Jq,Jr,Js,Jt,Jv,Jw,Jy,Jz,J2,J6,J7,Xa,Xb,Xe,Xi,Xj,Xl,Xm,Xq,Xr,Xu,Xw,Xx,Xy,X0,X6,X7,X8,X9,Wb,Wc,Wd,Wf,Wg,Wh,Wi,Wj,Wl,Wm,Wn,Wo,Wp,Wt,Wx,W6,Yc,Ye,Yf,Yg,Yn,Yo,Yr,Ys,Yt,Yu,Yv,Yw,Yx,Yz,Y2,Y9,Va,Vj,Vk,Vl,Vn,Vy,Vz,V0,V1,V3,V4,V5,V6,Ui,Uj,U5,Kh,Ks,K2,G5,Ku])
 ·have hge:leB (l.length:Int) (i:Int)=false:=by rw [←Bool.not_eq_true,G4];omega
  have q1:=K7 Td (show i<l.length by omega)
  obtain ⟨t,ht⟩:∃ t,l.getD i Td=t:=⟨_,rfl⟩
  rw [ht] at q1 h3
  have hk:(t.kind != kd)=true:=bne_iff_ne.2 h3
  (sym=>simp [hge,q1,hk,hw,hR,lQ,U1,Kb,Kc,Ka,Gl,Uz,U3,U4,Oh,Oj,Oi,Ok,Og,mW,mX,Zb,Zc,Zd,Ze,Zf,Zo,Zp,Zq,Zs,Zt,Zu,Zv,Zw,Zx,Zy,Z6,Qb,Qd,Qf,Qg,Qh,Qj,Qm,Qn,Qo,Qp,Qq,Qr,Qs,Qu,Qv,Qw,Qx,Q1,Q3,Q8,Ja,Jb,Jc,Jd,Je,Jf,Jj,Jq,Jr,Js,Jt,Jv,Jw,Jy,Jz,J2,J6,J7,Xa,Xb,Xe,Xi,Xj,Xl,Xm,Xq,Xr,Xu,Xw,Xx,Xy,X0,X6,X7,X8,X9,Wb,Wc,Wd,Wf,Wg,Wh,Wi,Wj,Wl,Wm,Wn,Wo,Wp,Wt,Wx,W1,W6,W7,Yb,Yc,Ye,Yf,Yg,Yn,Yo,Yr,Ys,Yt,Yu,Yv,Yw,Yx,Yz,Y2,Y7,Y9,Va,Vj,Vk,Vl,Vn,Vy,Vz,V0,V1,V2,V3,V4,V5,V6,Ui,Uj,U5,Kh,Ks,K2,G5,Ku];tactic =>
   try simp only [Uq] at *;try simp only [nc2] at *
   try simp (maxSteps:=4000000) only [hge,q1,hk,hw,hR,lQ,U1,Kb,Kc,Ka,Gl,Uz,U3,U4,U6]
   repeat' first|with_reducible assumption|with_reducible apply And.intro|intro _|omega|(rw [Uk];omega)
   all_goals first|with_reducible exact okq|omega|rfl|trivial|exact Or.inr trivial|skip)
 ·have hge:leB (l.length:Int) (i:Int)=false:=by rw [←Bool.not_eq_true,G4];omega
  have q1:=K7 Td (show i<l.length by omega)
  obtain ⟨t,ht⟩:∃ t,l.getD i Td=t:=⟨_,rfl⟩
  rw [ht] at q1 h3 hR
  have hk:(t.kind != kd)=false:=by rw [bne_eq_false_iff_eq];exact h3
  (sym=>simp [hge,q1,hk,h11,ht,hR,lQ,U1,Kb,Kc,Ka,Gl,Uz,U3,U4,Oh,Oj,Oi,Ok,Og,ctx_named6_w,mW,mX,Zb,Zc,Zd,Ze,Zf,Zh,Zi,Zj,Zk,Zl,Zm,Zo,Zp,Zq,Zs,Zt,Zu,Zv,Zw,Zx,Zy,Z6,Qd,Qf,Qj,Qm,Qn,Qo,Qp,Qq,Qr,Qs,Qt,Qu,Qv,Qw,Qx,Qy,Qz,Q1,Q3,Ja,Jb,Jd,Jf,Jj,Jq,Jr,Js,Jt,Ju,Jv,Jw,Jx,Jy,Jz,J2,J6,J7,Xa,Xb,Xe,Xi,Xj,Xk,Xl,Xm,Xq,Xr,Xs,Xt,Xu,Xv,Xw,Xx,Xy,X0,X2,X6,X7,X8,X9,Wc,Wf,Wg,Wh,Wi,Wj,Wl,Wm,Wn,Wo,Wp,Wt,Wx,W1,W2,W6,W7,W9,Yb,Yc,Ye,Yf,Yg,Yn,Yo,Yp,Yq,Yr,Ys,Yt,Yu,Yv,Yw,Yx,Yz,Y7,Y9,Va,Vj,Vk,Vl,Vn,Vr,Vz,V0,V1,V2,V3,V4,V5,V6,V8,Ui,Uj,U5,Kh,Ks,K2,G5,Ku];tactic =>
   try simp only [Uq] at *;try simp only [nc2] at *
   try simp (maxSteps:=4000000) only [hge,q1,hk,h11,ht,hR,lQ,U1,Kb,Kc,Ka,Gl,Uz,U3,U4,U6]
   repeat' first|with_reducible assumption|with_reducible apply And.intro|intro _|omega|(rw [Uk];omega)
   all_goals first|with_reducible exact okq|omega|rfl|trivial|exact Or.inr trivial|skip)
def Mn:Con:=Ms (fun (l:Sl (List UInt8)) (_:List UInt8)=>l.l.length≤1000000) (fun l x=>in6 l.l x)
theorem oY:type_of% @Mn.eq_def:=@Mn.eq_def
noncomputable def ctx_in6:Ctx:=⟨tab,lkC [],60,lkB [],[],false⟩
theorem ctx_in6_t:ctx_in6.τ=tab:=rfl
theorem ctx_in6_d:ctx_in6.dp=60:=rfl
theorem ctx_in6_u:ctx_in6.cuts=[]:=rfl
theorem ctx_in6_w:ctx_in6.wr=false:=rfl
set_option maxRecDepth 100000 in
theorem good_in6:Hg Try.prog (30,Mn):=by
 refine ⟨Ke Try.func30 (by kernel_rfl) rfl,?_⟩
 have K:Gu Try.prog ctx_in6:=Ko G7 Kw (by simp) (by simp)
 obtain ⟨c,hc⟩:∃ c,Try.f30.body=some c:=⟨_,rfl⟩
 refine Kn K Try.func30 hc [.tmp 4] rfl 18 rfl (fun cvs hpre=>?_)
 change Mn.pre cvs at hpre
 unfold Mn at hpre
 obtain ⟨⟨l⟩,s,rfl,hl⟩:=Bb hpre
 simp only at hl
 clear hpre
 obtain ⟨R,hR⟩:∃ R,in6 l s=R:=⟨_,rfl⟩
 have hR2:=hR
 unfold in6 at hR2
 simp only [Try.f30,aZ] at hc
 subst hc
 (sym=>simp [oY,Za,Zb,Zc,Ze,Zf,Qs,Qu,Qv,Qw,Qx,Jj,Jq,Jr,Xe,Xj,Xl,Xn,Xo,Xr,Xu,Xw,X6,X7,X8,X9,Wc,Wf,Wj,Wl,Yd,Ye,Yp,Yq,Yr,Ys,Yy,Yz,Va,Vj,Vk,V0,V5,V6,U5,Kh,Gg];tactic =>
  try simp only [Uq] at *;try simp only [nc2] at *
  try simp (maxSteps:=4000000) only [U6]
  repeat' first|with_reducible assumption|with_reducible apply And.intro|intro _|omega|(rw [Uk];omega)
  refine Kk [4,6,7,8,9,10,11,12,13,14,15,16,17] (fun k:Nat=>[(5,.d (.int .i64 k))]) (fun k:Nat=>[]) (fun k:Nat=>k≤l.length∧∀ j,j<k→(l.getD j []==s)=false) (fun k:Nat=>l.length-k) 0 ?_ ?_ ?_
  ·simp
  ·exact wkq
  rintro k ⟨hk,hno⟩
  rcases Kt k l.length with ⟨hlt,hlb⟩|⟨hlt,hlb⟩
  ·have q1:=K7 ([]:List UInt8) hlt
   have hst:(l.getD k []==s)=false→∀ j,j<k+1→(l.getD j []==s)=false:=fun h=>A1 hno h
   have hit:(l.getD k []==s)=true→R=true:=fun h=>by rw [←hR2];exact any_at (p:=fun o=>o==s) [] k hlt h
   obtain ⟨Q,hQ⟩:∃ Q,(∀ j,j<k+1→(l.getD j []==s)=false)=Q:=⟨_,rfl⟩
   rw [hQ] at hst
   obtain ⟨y,hy⟩:∃ y,l.getD k []=y:=⟨_,rfl⟩
   rw [hy] at q1 hst hit
   cases hb:(y==s) with
   | true =>
    have hr:=hit hb
    subst hr
    (sym=>simp [hlb,q1,hb,hR,ctx_in6_t,ctx_in6_d,ctx_in6_u,Zb,Zc,Ze,Zf,Zg,Zo,Zp,Zq,Zv,Zy,Z6,Qd,Qf,Qp,Qq,Qr,Qs,Qu,Qv,Qw,Qx,Q1,Jd,Jf,Jl,Jm,Jn,J2,Xi,Xj,Xl,Xm,Xn,Xq,Xr,Xu,Xw,Xx,Xy,X6,X7,Wr,Wt,Wv,Wx,Wz,W1,W9,Ye,Yf,Yg,Yl,Yn,Yo,Yp,Yq,Y7,Y9,Va,Vk,Vy,Vz,V0,V1,V2,V3,V5,V6,Ui,U5,Kh,Gg];tactic =>
     try simp only [Uq] at *;try simp only [nc2] at *
     try simp (maxSteps:=4000000) only [hlb,q1,hb,hR,U6]
     repeat' first|with_reducible assumption|with_reducible apply And.intro|intro _|omega|(rw [Uk];omega)
     all_goals first|with_reducible exact okq|omega|rfl|skip)
   | false =>
    have h2:=hst hb
    (sym=>simp [hlb,q1,hb,ctx_in6_t,ctx_in6_u,ctx_in6_w,Zb,Zc,Ze,Zf,Zg,Zo,Zp,Zq,Zv,Zy,Z6,Qd,Qf,Qs,Qu,Qv,Qw,Qx,Jf,Jl,Jm,Jn,Xi,Xj,Xl,Xm,Xn,Xr,Xu,Xw,Xx,Xy,X6,X7,Wr,Wt,Wv,Wx,Wz,W1,W9,Ye,Yf,Yg,Yl,Yn,Yo,Yp,Yq,Y7,Y9,Va,Vj,Vy,Vz,V0,V1,V2,V3,V5,V6,Ui,U5,Kh,Gg];tactic =>
     try simp only [Uq] at *;try simp only [nc2] at *
     try simp (maxSteps:=4000000) only [hlb,q1,hb,U6]
     repeat' first|with_reducible assumption|with_reducible apply And.intro|intro _|omega|(rw [Uk];omega)
     all_goals first|with_reducible exact okq|omega|exact ⟨k+1,wkq,by omega,Eq.mpr hQ h2,by omega⟩|exact ⟨k+1,wkq,by omega,fun m hm=>by have h3:=(Eq.mpr hQ h2:∀ j,j<k+1→(l.getD j []==s)=false) m hm;simpa using h3,by omega⟩|skip)
  ·have hr:R=false:=by rw [←hR2];exact any_not (p:=fun o=>o==s) [] fun j hj=>hno j (by omega)
   subst hr
   (sym=>simp [hlb,hR,ctx_in6_t,ctx_in6_d,Zb,Zc,Ze,Zf,Zg,Zo,Z6,Qd,Qf,Qp,Qq,Qr,Qs,Qu,Qv,Qw,Qx,Q1,Jd,Jl,Jm,Jn,J2,Xj,Xl,Xm,Xp,Xq,Xr,Xu,Xw,Xx,Xy,X6,X7,Wr,Wt,Wx,Yf,Yg,Yl,Yn,Yo,Yp,Yq,Y9,Va,Vk,Vz,V0,V1,V2,V3,V5,V6,U5,Kh,Gg]))
theorem rd4_eq {l:List Tok} {i site v:Int} {t:List Node} {a:Int} {ss:List Site} {b e:Int} (h:S9 l i site v=(t,a,ss,b,e)):rd4 l i site v=(⟨t⟩,a,⟨ss⟩,b,e):=by unfold rd4;rw [h]
theorem read4_facts {l:List Tok} (hl:l.length≤100000) (htx:∀ t∈l,t.text.length≤9223372036854775807) {i site v:Int} (h0:0≤i) (h1:i≤l.length) (hs:1≤site) (hv1:1≤v) (hv2:v≤100) :
  0≤(S9 l i site v).2.2.2.1∧(S9 l i site v).2.2.2.1≤l.length∧((S9 l i site v).2.2.2.2=0→i+1≤(S9 l i site v).2.1∧(S9 l i site v).2.1≤l.length∧((S9 l i site v).2.2.1.length:Int)≤(S9 l i site v).2.1-i∧L4 (S9 l i site v).1=true∧L3 (S9 l i site v).1∧((S9 l i site v).1.length:Int)≤(S9 l i site v).2.1-i ∧
   ∀ z,Hz (Pi z) (S9 l i site v).1=if site≤z∧z<site+(S9 l i site v).2.2.1.length then 1 else 0):=by
 have hE:=Dt (l:=l) (101-v).toNat ⟨i,site,[],0⟩ (by omega) h0 h1
 have hN:=I6 htx (101-v).toNat ⟨i,site,[],0⟩
 unfold S9
 rw [if_neg (by omega)]
 simp only [if_neg (show ¬ (l.length:Int)<i by omega)]
 obtain ⟨⟨t,q⟩,hw⟩:∃ w,M7 (101-v).toNat l ⟨i,site,[],0⟩=w:=⟨_,rfl⟩
 rw [hw] at hE hN ⊢
 obtain ⟨qa,qi,qs,qe⟩:=q
 have hlo:=hE.lo
 have hhi:=hE.hi
 simp only at hlo hhi ⊢
 by_cases he:qe=0
 case neg=>rw [if_pos he];exact ⟨hlo,hhi,fun h=>absurd h he⟩
 rw [if_neg (by simpa using he)]
 by_cases hb:10000<t.length
 ·rw [if_pos hb];exact ⟨h0,h1,fun h=>absurd h (show ¬ (3:Int)=0 by decide)⟩
 rw [if_neg hb]
 cases hr:L4 t with
 | false=>rw [if_pos rfl];exact ⟨h0,h1,fun h=>absurd h (show ¬ (4:Int)=0 by decide)⟩
 | true =>
  rw [if_neg (by simp)]
  obtain ⟨k1,k2,k3⟩:=hE.ok he
  obtain ⟨g1,g2,g3⟩:=hE.sites he
  have g4:=hE.cnt he
  simp only at k1 k2 g1 g2 g3 g4
  have hp:1≤t.length:=by
   cases t with
   | nil=>exact absurd rfl k3
   | cons a t=>simp
  refine ⟨by show (0:Int)≤0;omega,by show (0:Int)≤l.length;omega,fun _=>⟨by show i+1≤qa;omega,k2,by show (qs.length:Int)≤qa-i;simp only [List.length_nil] at g2;omega,hr,hN,k1,fun z=>?_⟩⟩
  show Hz (Pi z) t=if site≤z∧z<site+(qs.length:Int) then 1 else 0
  rw [g4]
  simp only [List.length_nil] at g3
  have:qi=site+(qs.length:Int):=by omega
  rw [this]
def Po:Con:=Kl (fun (l:Sl Tok) (s:St6) (v:Int)=>St6Ok l.l s∧(s.e=0→1≤v∧v≤100)) (fun l s v=>((⟨(typed6 l.l s v).1⟩,(typed6 l.l s v).2):Sl Node×St6))
noncomputable def E6:Ctx:=⟨tab,lkC [(72,Tj),(31,Kr)],60,lkB [],[],false⟩
theorem ctx_typed6_t:E6.τ=tab:=rfl
theorem ctx_typed6_c:E6.Γ=lkC [(72,Tj),(31,Kr)]:=rfl
theorem ctx_typed6_d:E6.dp=60:=rfl
theorem ctx_typed6_b:E6.Δ=lkB []:=rfl
theorem ctx_typed6_u:E6.cuts=[]:=rfl
theorem ctx_typed6_w:E6.wr=false:=rfl
set_option maxRecDepth 100000 in
theorem good_typed6:Hg Try.prog (60,Po):=by
 refine ⟨Ke Try.func60 (by kernel_rfl) rfl,?_⟩
 have K:Gu Try.prog E6:=Ko G7 Kw (by
  intro p hp
  simp only [bQ,bZ,or_false] at hp
  rcases hp with rfl|rfl
  ·exact good_Read4
  ·exact Cg) (by simp)
 obtain ⟨c,hc⟩:∃ c,Try.f60.body=some c:=⟨_,rfl⟩
 refine Kn K Try.func60 hc [.tmp 6,.cell 7 71] rfl 51 rfl (fun cvs hpre=>?_)
 change Po.pre cvs at hpre
 unfold Po at hpre
 obtain ⟨⟨l⟩,⟨i,ss,e⟩,v,rfl,hS,hv⟩:=El hpre
 simp only at hS hv
 clear hpre
 have hlen:=hS.len
 have hlo:=hS.lo
 have hhi:=hS.hi
 have hss:=hS.sites
 have htx:=hS.long
 simp only at hlo hhi hss
 obtain ⟨⟨Rt,⟨Ra,Rs,Re⟩⟩,hR⟩:∃ R,typed6 l ⟨i,ss,e⟩ v=R:=⟨_,rfl⟩
 have hR2:=hR
 unfold typed6 at hR2
 simp only at hR2
 have hssm:(ss.map (enc:Site→D)).length=ss.length:=bV ..
 simp only [Try.f60,aZ] at hc
 subst hc
 refine Gf 3 (of_decide_eq_true (by kernel_rfl)) ?_
 by_cases he:e=0
 case neg =>
  rw [if_pos he] at hR2
  have hb:(e != 0)=true:=bne_iff_ne.2 he
  simp only [aJ,St6.mk.injEq] at hR2
  obtain ⟨rfl,rfl,rfl,rfl⟩:=hR2
  (sym=>simp [hb,hR,lQ,Uz,U3,U4,ctx_typed6_t,ctx_typed6_c,ctx_typed6_d,ctx_typed6_b,ctx_typed6_u,ctx_typed6_w,Tj.eq_def,Po.eq_def,mX,Zb,Zc,Ze,Zf,Zh,Zi,Zj,Zk,Zl,Zm,Zn,Zo,Zp,Zq,Zs,Zu,Zv,Zw,Zx,Qd,Qf,Qj,Qm,Qn,Qo,Qp,Qq,Qr,Qs,Qt,Qu,Qv,Qw,Qx,Qy,Qz,Q1,Q3,Ja,Jb,Jd,Jf,Jj,Jq,Jr,Js,Jt,Jv,Jw,Jy,Jz,J2,J3,J6,J7,Xa,Xb,Xe,Xj,Xk,Xl,Xm,Xq,Xr,Xs,Xt,Xu,Xv,Xw,Xx,Xy,X0,X2,X6,X7,X8,X9,Wc,Wf,Wh,Wi,Wj,Wl,Wm,Wn,Wo,Wp,Wt,Wx,W6,Yc,Yn,Yo,Yr,Ys,Yt,Yu,Yv,Yw,Yx,Yz,Y9,Va,Vj,Vm,Vy,Vz,V0,V1,V2,V4,V5,V6,V8,Ui,Uj,U5,Ks,Mr,K2,G5,Ku,H2];tactic =>
   try simp only [Uq] at *;try simp only [nc2] at *
   try simp (maxSteps:=4000000) only [hb,hR,lQ,Uz,U3,U4,U6]
   repeat' first|with_reducible assumption|with_reducible apply And.intro|intro _|omega|(rw [Uk];omega)
   all_goals first|with_reducible exact okq|omega|rfl|trivial|skip)
 have hb:(e != 0)=false:=by rw [he];rfl
 rw [if_neg (by simpa using he)] at hR2
 obtain ⟨hv1,hv2⟩:=hv he
 have hF:=read4_facts hlen htx hlo hhi (site:=(ss.length:Int)+1) (by omega) hv1 hv2
 obtain ⟨⟨t,a,qs,bad,re⟩,hr⟩:∃ r,S9 l i ((ss.length:Int)+1) v=r:=⟨_,rfl⟩
 rw [hr] at hR2 hF
 have hr4:=rd4_eq hr
 simp only at hR2 hF
 obtain ⟨hF1,hF2,hF3⟩:=hF
 by_cases hre:re=0
 case neg =>
  rw [if_pos hre] at hR2
  have hb2:(re != 0)=true:=bne_iff_ne.2 hre
  simp only [aJ,St6.mk.injEq] at hR2
  obtain ⟨rfl,rfl,rfl,rfl⟩:=hR2
  have hw:Ns ⟨bad,ss,e⟩ re=⟨bad,ss,re⟩:=by unfold Ns;rw [if_pos he]
  (sym=>simp [hb,hssm,hr4,hb2,hw,hR,lQ,cn4f.eq_def,Uz,U3,U4,ctx_typed6_t,ctx_typed6_c,ctx_typed6_d,ctx_typed6_b,ctx_typed6_u,ctx_typed6_w,Tj.eq_def,Po.eq_def,mX,Zb,Zc,Ze,Zf,Zn,Zo,Zp,Zq,Zs,Zu,Zv,Zw,Zx,Z6,Qa,Qb,Qd,Qf,Qg,Qh,Qi,Qj,Qm,Qn,Qo,Qp,Qq,Qr,Qs,Qu,Qv,Qw,Qx,Q1,Q2,Q3,Q8,Ja,Jb,Jc,Jd,Je,Jf,Jj,Jq,Jr,Js,Jt,Jv,Jw,Jy,Jz,J2,J3,J6,J7,Xa,Xb,Xe,Xi,Xj,Xl,Xm,Xq,Xr,Xu,Xw,Xx,Xy,X0,X6,X7,X8,X9,Wb,Wc,Wd,Wf,Wh,Wi,Wj,Wl,Wm,Wn,Wo,Wp,Wt,Ww,Wx,W0,W2,W6,Yc,Yn,Yo,Yr,Ys,Yt,Yu,Yv,Yw,Yx,Yz,Y2,Y4,Y9,Va,Vj,Vm,Vr,Vy,Vz,V0,V1,V2,V3,V4,V5,V6,Ui,Uj,U5,Ks,Mr,K2,G5,Ku,H2];tactic =>
   try simp only [Uq] at *;try simp only [nc2] at *
   try simp (maxSteps:=4000000) only [hb,hssm,hr4,hb2,hw,hR,lQ,cn4f.eq_def,Uz,U3,U4,U6]
   repeat' first|with_reducible assumption|with_reducible apply And.intro|intro _|omega|(rw [Uk];omega)
   all_goals first|with_reducible exact okq|omega|exact ⟨hlen,htx⟩|exact htx|rfl|trivial|skip)
 have hb2:(re != 0)=false:=by rw [hre];rfl
 rw [if_neg (by simpa using hre)] at hR2
 obtain ⟨f1,f2,f3,-⟩:=hF3 hre
 simp only [aJ,St6.mk.injEq] at hR2
 obtain ⟨rfl,rfl,hRs,rfl⟩:=hR2
 have hcat:ss.map (enc:Site→D)++qs.map enc=Rs.map enc:=by rw [←hRs,List.map_append]
 have hRl:(Rs.map (enc:Site→D)).length=ss.length+qs.length:=by rw [←hRs,bV,bY]
 have hqm:(qs.map (enc:Site→D)).length=qs.length:=bV ..
 clear hRs
 (sym=>simp [hb,hssm,hqm,hr4,hb2,hcat,hRl,hR,lQ,cn4f.eq_def,F8,Uz,U3,U4,ctx_typed6_t,ctx_typed6_c,ctx_typed6_d,ctx_typed6_b,ctx_typed6_u,ctx_typed6_w,Tj.eq_def,Po.eq_def,mX,Zb,Zc,Ze,Zf,Zn,Zo,Zp,Zq,Zr,Zs,Zu,Zv,Zw,Zx,Z1,Z2,Z4,Z5,Z6,Qa,Qb,Qd,Qf,Qg,Qh,Qi,Qj,Qm,Qn,Qo,Qp,Qq,Qr,Qs,Qu,Qv,Qw,Qx,Q0,Q1,Q2,Q3,Q4,Q5,Q6,Q7,Q8,Q9,Ja,Jb,Jc,Jd,Je,Jf,Jj,Jq,Jr,Js,Jt,Ju,Jv,Jw,Jx,Jy,Jz,J0,J2,J5,J6,J7,Xa,Xb,Xe,Xi,Xj,Xl,Xm,Xq,Xr,Xu,Xw,Xx,Xy,Xz,X0,X1,X6,X7,X8,X9,Wb,Wc,Wd,Wf,Wg,Wh,Wi,Wj,Wl,Wm,Wn,Wo,Wp,Wt,Ww,Wx,W0,W2,W6,Yc,Yf,Yg,Yn,Yo,Yp,Yq,Yr,Ys,Yt,Yu,Yv,Yw,Yx,Yz,Y2,Y4,Y9,Va,Vj,Vm,Vr,Vw,Vz,V0,V1,V2,V3,V4,V5,V6,Ue,Uf,Ug,Uh,Ui,Uj,U5,Ks,Mr,K2,G5,Ku,H2];tactic =>
  try simp only [Uq] at *;try simp only [nc2] at *
  try simp (maxSteps:=4000000) only [hb,hssm,hqm,hr4,hb2,hcat,hRl,hR,lQ,cn4f.eq_def,F8,Uz,U3,U4,U6]
  repeat' first|with_reducible assumption|with_reducible apply And.intro|intro _|omega|(rw [Uk];omega)
  all_goals first|with_reducible exact okq|omega|exact ⟨hlen,htx⟩|exact htx|rfl|trivial|skip)
def Ma:Con:=Kl (fun (l:Sl Tok) (s:St6) (v:Int)=>St6Ok l.l s∧(s.e=0→1≤s.at_∧1≤v∧v≤100)) (fun l s v=>((⟨(Cn l.l s v).1⟩,(Cn l.l s v).2):Sl Node×St6))
noncomputable def Fd:Ctx:=⟨tab,lkC [(60,Po),(28,Gy)],60,lkB [],[],false⟩
theorem ctx_noted6_t:Fd.τ=tab:=rfl
theorem ctx_noted6_c:Fd.Γ=lkC [(60,Po),(28,Gy)]:=rfl
theorem ctx_noted6_d:Fd.dp=60:=rfl
theorem ctx_noted6_b:Fd.Δ=lkB []:=rfl
theorem ctx_noted6_u:Fd.cuts=[]:=rfl
theorem ctx_noted6_w:Fd.wr=false:=rfl
set_option maxRecDepth 100000 in
theorem good_noted6:Hg Try.prog (46,Ma):=by
 refine ⟨Ke Try.func46 (by kernel_rfl) rfl,?_⟩
 have K:Gu Try.prog Fd:=Ko G7 Kw (by
  intro p hp
  simp only [bQ,bZ,or_false] at hp
  rcases hp with rfl|rfl
  ·exact good_typed6
  ·exact Ib) (by simp)
 obtain ⟨c,hc⟩:∃ c,Try.f46.body=some c:=⟨_,rfl⟩
 refine Kn K Try.func46 hc [.tmp 6,.cell 7 71] rfl 52 rfl (fun cvs hpre=>?_)
 change Ma.pre cvs at hpre
 unfold Ma at hpre
 obtain ⟨⟨l⟩,⟨i,ss,e⟩,v,rfl,hS,hv⟩:=El hpre
 simp only at hS hv
 clear hpre
 have hlen:=hS.len
 have hlo:=hS.lo
 have hhi:=hS.hi
 have hss:=hS.sites
 have htx:=hS.txt
 simp only at hlo hhi hss
 obtain ⟨⟨Rt,⟨Ra,Rs,Re⟩⟩,hR⟩:∃ R,Cn l ⟨i,ss,e⟩ v=R:=⟨_,rfl⟩
 have hR2:=hR
 unfold Cn at hR2
 simp only at hR2
 have hssm:(ss.map (enc:Site→D)).length=ss.length:=bV ..
 simp only [Try.f46,aZ] at hc
 subst hc
 refine Gf 3 (of_decide_eq_true (by kernel_rfl)) ?_
 by_cases he:e=0
 case neg =>
  rw [if_pos he] at hR2
  have hb:(e != 0)=true:=bne_iff_ne.2 he
  simp only [aJ,St6.mk.injEq] at hR2
  obtain ⟨rfl,rfl,rfl,rfl⟩:=hR2
  (sym=>simp [hb,hR,lQ,Uz,U3,U4,ctx_noted6_t,ctx_noted6_c,ctx_noted6_d,ctx_noted6_b,ctx_noted6_u,ctx_noted6_w,mJ,Ma.eq_def,Po.eq_def,Zb,Zc,Ze,Zf,Zh,Zi,Zj,Zk,Zl,Zm,Zn,Zo,Zp,Zq,Zs,Zu,Zv,Zw,Zx,Qd,Qf,Qj,Qm,Qn,Qo,Qp,Qq,Qr,Qs,Qt,Qu,Qv,Qw,Qx,Qy,Qz,Q1,Q3,Ja,Jb,Jd,Jf,Jj,Jq,Jr,Js,Jt,Jv,Jy,J2,J3,J6,J7,Xa,Xb,Xj,Xk,Xl,Xm,Xq,Xr,Xs,Xt,Xu,Xv,Xw,Xx,Xy,X0,X2,X6,X7,X8,X9,Wc,Wf,Wh,Wi,Wj,Wl,Wm,Wn,Wo,Wp,Wt,Wx,W6,Yc,Yn,Yo,Yr,Ys,Yt,Yu,Yv,Yw,Yx,Yz,Y9,Va,Vj,Vm,Vy,Vz,V0,V1,V4,V5,V6,V8,Ui,Uj,U5,Ks,Mr,K6,K1,K2,G5,Ku,H2];tactic =>
   try simp only [Uq] at *;try simp only [nc2] at *
   try simp (maxSteps:=4000000) only [hb,hR,lQ,Uz,U3,U4,U6]
   repeat' first|with_reducible assumption|with_reducible apply And.intro|intro _|omega|(rw [Uk];omega)
   all_goals first|with_reducible exact okq|omega|rfl|trivial|skip)
 have hb:(e != 0)=false:=by rw [he];rfl
 rw [if_neg (by simpa using he)] at hR2
 obtain ⟨hi1,hv1,hv2⟩:=hv he
 cases h58:is6 l ⟨i,ss,e⟩ 5 [58] with
 | true =>
  rw [h58,if_pos rfl] at hR2
  have hlt:i<l.length:=by
   unfold is6 at h58
   simp only [bX,Hf] at h58
   exact h58.2.1
  have hadv:Pe ⟨i,ss,e⟩=⟨i+1,ss,e⟩:=rfl
  rw [hadv] at hR2
  have hok:St6Ok l ⟨i+1,ss,e⟩:=⟨hlen,by show 0≤i+1;omega,by show i+1≤_;omega,hss,htx,hS.fig⟩
  have hvv:e=0→1≤v∧v≤100:=fun _=>⟨hv1,hv2⟩
  (sym=>simp [hb,h58,hR2,hR,lQ,lZ,Uz,U3,U4,ctx_noted6_t,ctx_noted6_c,ctx_noted6_d,ctx_noted6_b,ctx_noted6_u,ctx_noted6_w,mJ,Ma.eq_def,Po.eq_def,Zb,Zc,Ze,Zf,Zn,Zo,Zp,Zq,Zs,Zu,Zv,Zw,Zx,Qa,Qb,Qd,Qf,Qg,Qh,Qi,Qj,Qm,Qn,Qo,Qp,Qq,Qr,Qs,Qu,Qv,Qw,Qx,Q1,Q2,Q3,Q8,Ja,Jb,Jc,Jd,Je,Jf,Jj,Jq,Jr,Js,Jt,Jv,Jw,Jy,Jz,J2,J6,J7,Xa,Xb,Xi,Xj,Xl,Xm,Xq,Xr,Xu,Xw,Xx,Xy,X0,X6,X7,X8,X9,Wb,Wc,Wd,Wf,Wg,Wh,Wi,Wj,Wl,Wm,Wn,Wo,Wp,Wt,Wx,W2,W6,Yc,Yd,Yn,Yo,Yr,Ys,Yt,Yu,Yv,Yw,Yx,Yy,Yz,Y2,Y3,Y4,Y9,Va,Vj,Vl,Vm,Vn,Vr,Vy,Vz,V0,V1,V2,V4,V5,V6,Ui,Uj,U5,Ks,Mr,K6,K1,K2,G5,Ku,H2];tactic =>
   try simp only [Uq] at *;try simp only [nc2] at *
   try simp (maxSteps:=4000000) only [hb,h58,hR2,hR,lQ,lZ,Uz,U3,U4,U6]
   repeat' first|with_reducible assumption|with_reducible apply And.intro|intro _|omega|(rw [Uk];omega)
   all_goals first|with_reducible exact okq|omega|exact hok|rfl|trivial|skip)
 | false =>
  rw [h58,if_neg (by simp)] at hR2
  obtain ⟨i,rfl⟩:∃ n:Nat,i=n:=⟨i.toNat,by omega⟩
  have hk1:(i:Int)-1=((i-1:Nat):Int):=by omega
  have q1:=K7 Td (show i-1<l.length by omega)
  rw [hk1,C6] at hR2
  obtain ⟨t,ht⟩:∃ t,l.getD (i-1) Td=t:=⟨_,rfl⟩
  rw [ht] at q1 hR2
  simp only [aJ,St6.mk.injEq] at hR2
  obtain ⟨rfl,rfl,hRs,rfl⟩:=hR2
  have hcat:ss.map (enc:Site→D)++[.agg [.int .i64 t.to,.int .i64 t.to,.bool true]]=Rs.map enc:=by rw [←hRs,List.map_append];rfl
  have hRl:(Rs.map (enc:Site→D)).length=ss.length+1:=by rw [←hRs,bV,bY];rfl
  have hRs2:(Rs.length:Int)=(ss.length:Int)+1:=by rw [←hRs,bY];rfl
  clear hRs
  (sym=>simp [hb,h58,hssm,hk1,q1,hcat,hRl,hR,lQ,lZ,U1,Kb,Kc,Ka,Gl,F8,Uz,U3,U4,Ur,Ut,Uv,Us,szN,Uu,ctx_noted6_t,ctx_noted6_c,ctx_noted6_d,ctx_noted6_b,ctx_noted6_u,ctx_noted6_w,mJ,Ma.eq_def,Po.eq_def,Zb,Zc,Ze,Zf,Zh,Zi,Zj,Zk,Zl,Zm,Zn,Zo,Zp,Zq,Zr,Zs,Zu,Zv,Zw,Zx,Zy,Z1,Z2,Z4,Z5,Z6,Qb,Qd,Qf,Qg,Qh,Qj,Qm,Qn,Qo,Qp,Qq,Qr,Qs,Qt,Qu,Qv,Qw,Qx,Qy,Qz,Q0,Q1,Q3,Q4,Q5,Q6,Q7,Q8,Q9,Ja,Jb,Jc,Jd,Je,Jf,Jj,Jq,Jr,Js,Jt,Ju,Jv,Jw,Jx,Jy,Jz,J0,J1,J2,J4,J5,J6,J7,Xa,Xb,Xi,Xj,Xk,Xl,Xm,Xq,Xr,Xs,Xt,Xu,Xv,Xw,Xx,Xy,Xz,X0,X1,X2,X4,X6,X7,X8,X9,Wb,Wc,Wd,Wf,Wg,Wh,Wi,Wj,Wl,Wm,Wn,Wo,Wp,Wt,Ww,Wx,W0,W1,W2,W3,W6,W7,Yb,Yc,Yd,Yf,Yg,Yn,Yo,Yp,Yq,Yr,Ys,Yt,Yu,Yv,Yw,Yx,Yy,Yz,Y2,Y3,Y4,Y7,Y9,Va,Vi,Vj,Vk,Vl,Vm,Vn,Vo,Vr,Vs,Vw,Vz,V0,V1,V2,V3,V4,V5,V6,V8,Ue,Uf,Ug,Uh,Ui,Uj,U5,Ks,Mr,K6,K1,K2,G5,Ku,H2];tactic =>
   try simp only [Uq] at *;try simp only [nc2] at *
   try simp (maxSteps:=4000000) only [hb,h58,hssm,hk1,q1,hcat,hRl,hR,lQ,lZ,U1,Kb,Kc,Ka,Gl,F8,Uz,U3,U4,Ur,Ut,Uv,Us,szN,Uu,U6]
   repeat' first|with_reducible assumption|with_reducible apply And.intro|intro _|omega|(rw [Uk];omega)
   all_goals first|with_reducible exact okq|omega|exact hRs2|rfl|trivial|skip)
def Ry (l:List (Sl Part)):List Part:=l.flatMap fun x=>x.l
def P4 (p:Part) (l:List (Sl Part)):List Part:=p::Ry l
theorem flatP_snoc {l:List (Sl Part)} {k:Nat} (h:k<l.length):Ry (l.take (k+1))=Ry (l.take k)++(l.getD k ⟨[]⟩).l:=by
 unfold Ry
 rw [R6 (⟨[]⟩:Sl Part) h,List.flatMap_append]
 simp
theorem flatP_len {l:List (Sl Part)} (h:∀ x∈l,x.l.length≤1000000):(Ry l).length≤1000000*l.length:=by
 induction l with
 | nil=>exact cZ _
 | cons x l ih =>
  have:=ih fun y hy=>h y (List.mem_cons_of_mem _ hy)
  have hx:=h x (by simp)
  unfold Ry at this ⊢
  rw [List.flatMap_cons,bY,bJ]
  omega
def N5 {A B E:Type} [Enc A] [Enc B] [Enc E] [Sz E] (p:A→B→Prop) (f:A→B→List E):Con:=⟨[false,false],[true],fun c=>match c with
 | [.d x,.d y]=>isE A x∧isE B y∧p (dec x) (dec y)
 | _=>False,fun c=>match c with
 | [.d x,.d y]=>.own (Sz.sz E) ((f (dec x) (dec y)).map enc)
 | _=>.d .nilp⟩
theorem lK:type_of% @N5.eq_def:=@N5.eq_def
theorem con2w_pre {A B E:Type} [Enc A] [Enc B] [Enc E] [Sz E] {p:A→B→Prop} {f:A→B→List E} {c:List CV} (h:(N5 p f).pre c):∃ a b,c=[.d (enc a),.d (enc b)]∧p a b:=by
 unfold N5 at h
 simp only at h
 split at h
 ·next x y=>exact ⟨dec x,dec y,by rw [←h.1,←h.2.1],h.2.2⟩
 ·exact h.elim
def Gj {A B C E S:Type} [Enc A] [Enc B] [Enc C] [Enc E] [Sz E] [Enc S] (p:A→B→C→Prop) (f:A→B→C→List E×S):Con:=⟨[false,false,false],[true,false],fun c=>match c with
 | [.d x,.d y,.d z]=>isE A x∧isE B y∧isE C z∧p (dec x) (dec y) (dec z)
 | _=>False,fun c=>match c with
 | [.d x,.d y,.d z]=>.tup [.own (Sz.sz E) ((f (dec x) (dec y) (dec z)).1.map enc),.d (enc (f (dec x) (dec y) (dec z)).2)]
 | _=>.d .nilp⟩
theorem lX:type_of% @Gj.eq_def:=@Gj.eq_def
theorem N1 {A B C E S:Type} [Enc A] [Enc B] [Enc C] [Enc E] [Sz E] [Enc S] {p:A→B→C→Prop} {f:A→B→C→List E×S} {c:List CV} (h:(Gj p f).pre c):∃ a b d,c=[.d (enc a),.d (enc b),.d (enc d)]∧p a b d:=by
 unfold Gj at h
 simp only at h
 split at h
 ·next x y z=>exact ⟨dec x,dec y,dec z,by rw [←h.1,←h.2.1,←h.2.2.1],h.2.2.2⟩
 ·exact h.elim
def Da {A B C D' E S:Type} [Enc A] [Enc B] [Enc C] [Enc D'] [Enc E] [Sz E] [Enc S] (p:A→B→C→D'→Prop) (f:A→B→C→D'→List E×S):Con:=⟨[false,false,false,false],[true,false],fun c=>match c with
 | [.d x,.d y,.d z,.d w]=>isE A x∧isE B y∧isE C z∧isE D' w∧p (dec x) (dec y) (dec z) (dec w)
 | _=>False,fun c=>match c with
 | [.d x,.d y,.d z,.d w]=>.tup [.own (Sz.sz E) ((f (dec x) (dec y) (dec z) (dec w)).1.map enc),.d (enc (f (dec x) (dec y) (dec z) (dec w)).2)]
 | _=>.d .nilp⟩
theorem nY:type_of% @Da.eq_def:=@Da.eq_def
theorem cn4o_pre {A B C D' E S:Type} [Enc A] [Enc B] [Enc C] [Enc D'] [Enc E] [Sz E] [Enc S] {p:A→B→C→D'→Prop} {f:A→B→C→D'→List E×S} {c:List CV} (h:(Da p f).pre c):∃ a b d e,c=[.d (enc a),.d (enc b),.d (enc d),.d (enc e)]∧p a b d e:=by
 unfold Da at h
 simp only at h
 split at h
 ·next x y z w=>exact ⟨dec x,dec y,dec z,dec w,by rw [←h.1,←h.2.1,←h.2.2.1,←h.2.2.2.1],h.2.2.2.2⟩
 ·exact h.elim
def Gs:Con:=N5 (fun (_:Part) (l:Sl (Sl Part))=>l.l.length≤10∧∀ x∈l.l,x.l.length≤1000000) (fun p l=>P4 p l.l)
theorem oZ:type_of% @Gs.eq_def:=@Gs.eq_def
noncomputable def ctx_made6:Ctx:=⟨tab,lkC [],60,lkB [],[],false⟩
theorem ctx_made6_t:ctx_made6.τ=tab:=rfl
theorem ctx_made6_d:ctx_made6.dp=60:=rfl
theorem ctx_made6_w:ctx_made6.wr=false:=rfl
set_option maxRecDepth 100000 in
theorem Tu:Hg Try.prog (74,Gs):=by
 refine ⟨Ke Try.func74 (by kernel_rfl) rfl,?_⟩
 have K:Gu Try.prog ctx_made6:=Ko G7 Kw (by simp) (by simp)
 obtain ⟨c,hc⟩:∃ c,Try.f74.body=some c:=⟨_,rfl⟩
 refine Kn K Try.func74 hc [.tmp 4] rfl 22 rfl (fun cvs hpre=>?_)
 change Gs.pre cvs at hpre
 unfold Gs at hpre
 obtain ⟨p,⟨l⟩,rfl,hl,hL⟩:=con2w_pre hpre
 simp only at hl hL
 clear hpre
 obtain ⟨R,hR⟩:∃ R,P4 p l=R:=⟨_,rfl⟩
 have hbound:∀ k,(Ry (l.take k)).length≤10000000:=fun k=>by
  have:=flatP_len (l:=l.take k) fun x hx=>hL x (List.mem_of_mem_take hx)
  rw [List.length_take] at this
  omega
 simp only [Try.f74,aZ] at hc
 subst hc
 (sym=>simp [lK,Um,Un,Uo,Up,szP,ctx_made6_t,ctx_made6_d,oZ,Za,Zb,Zc,Ze,Zf,Zn,Zo,Zp,Zq,Zr,Zu,Zv,Z1,Qj,Qn,Qs,Qu,Qv,Qw,Qx,Q3,Q4,Q5,Q6,Q7,Q9,Ja,Jb,Jj,Jq,Jr,J0,J1,J2,Xb,Xj,Xl,Xn,Xo,Xr,Xu,Xw,Xx,Xy,X1,X6,X7,X8,X9,Wc,Wf,Wg,Wh,Wi,Wj,Wl,W6,Yn,Yo,Yp,Yq,Yr,Ys,Yt,Yu,Yw,Yz,Va,Vi,Vj,Vm,Vo,V0,V1,V5,V6,Ui,U5,Gp,Gd,B9];tactic =>
  try simp only [Uq] at *;try simp only [nc2] at *
  try simp (maxSteps:=4000000) only [lK,Um,Un,Uo,Up,szP,U6]
  repeat' first|with_reducible assumption|with_reducible apply And.intro|intro _|omega|(rw [Uk];omega)
  refine Kk [9,10,11,12,13,14,15,16,17,18,19,20] (fun k:Nat=>[(5,.sl 8 ((p::Ry (l.take k)).map (enc:Part→D)).length),(6,.d (.int .i64 k))]) (fun k:Nat=>[(8,.row 8 ((p::Ry (l.take k)).map enc) 0)]) (fun k:Nat=>k≤l.length) (fun k:Nat=>l.length-k) 0 ?_ ?_ ?_
  ·omega
  ·((try simp only [Ul,U0,Ux,U8,upd,U7,Ki,K0,Nat.reduceDiv,Nat.reduceMod,Nat.reduceMul,Nat.reduceAdd,Nat.reduceEqDiff,aV,aW,if_true,if_false,reduceIte]);(first|refine Wk.of_fl ?_|skip);simp only [Wk,wkK,Ga,wkT,wk1,AV.kept,keptAll,wkO,lk,Uw,and_true,true_and,and_self,Nat.reduceEqDiff,Nat.reduceLeDiff,if_true,if_false,reduceIte,reduceCtorEq,Option.isSome,false_implies];try simp [Wk,wkK,wkT,wk1,AV.kept,keptAll,wkO,lk,Uw,Ry,Um])
  rintro k hk
  have hb:=hbound k
  rcases Kt k l.length with ⟨hlt,hlb⟩|⟨hlt,hlb⟩
  ·have q1:=K7 (⟨[]⟩:Sl Part) hlt
   have hS:=flatP_snoc hlt
   have hx2:=hL (l.getD k ⟨[]⟩) (by simp [hlt])
   obtain ⟨⟨x⟩,hx⟩:∃ x,l.getD k ⟨[]⟩=x:=⟨_,rfl⟩
   rw [hx] at q1 hS hx2
   simp only at hS hx2
   obtain ⟨P,hP⟩:∃ P,Ry (l.take k)=P:=⟨_,rfl⟩
   rw [hP] at hb hS
   rw [hP]
   have hcat:(p::P).map (enc:Part→D)++x.map enc=(p::Ry (l.take (k+1))).map enc:=by rw [hS,←List.map_append,List.cons_append]
   have hl1:((p::P).map (enc:Part→D)).length=P.length+1:=by simp
   have hl2:(Ry (l.take (k+1))).length=P.length+x.length:=by rw [hS,bY]
   have hxm:(x.map (enc:Part→D)).length=x.length:=bV ..
   obtain ⟨P1,hP1⟩:∃ q,p::P=q:=⟨_,rfl⟩
   have hP1l:P1.length=P.length+1:=by rw [←hP1];rfl
   rw [hP1] at hcat hl1
   rw [hP1]
   (sym=>simp [hlb,q1,hcat,hl1,hxm,szP,ctx_made6_t,ctx_made6_w,Zb,Zc,Ze,Zf,Zg,Zo,Zp,Zq,Zv,Zy,Z4,Z5,Z6,Qd,Qf,Qs,Qu,Qv,Qw,Qx,Ja,Jb,Jl,Jm,Jn,Xi,Xj,Xl,Xm,Xn,Xr,Xu,Xw,Xx,Xy,Xz,X6,X7,Wh,Wj,Wr,Wt,Wx,W1,Yf,Yg,Yi,Ym,Yn,Yo,Yp,Yq,Y7,Y9,Va,Vj,Vy,V0,V1,V2,V3,V5,V6,Ui,U5,Gp,Gd,B9];tactic =>
    try simp only [Uq] at *;try simp only [nc2] at *
    try simp (maxSteps:=4000000) only [hlb,q1,hcat,hl1,hxm,szP,U6]
    repeat' first|with_reducible assumption|with_reducible apply And.intro|intro _|omega|(rw [Uk];omega)
    all_goals first|with_reducible exact okq|omega|exact ⟨k+1,by ((try simp only [Ul,U0,Ux,U8,upd,U7,Ki,K0,Nat.reduceDiv,Nat.reduceMod,Nat.reduceMul,Nat.reduceAdd,Nat.reduceEqDiff,aV,aW,if_true,if_false,reduceIte]);(first|refine Wk.of_fl ?_|skip);simp only [Wk,wkK,Ga,wkT,wk1,AV.kept,keptAll,wkO,lk,Uw,and_true,true_and,and_self,Nat.reduceEqDiff,Nat.reduceLeDiff,if_true,if_false,reduceIte,reduceCtorEq,Option.isSome,false_implies];try simp [Wk,wkK,wkT,wk1,AV.kept,keptAll,wkO,lk,Uw,hl2,hP1l])<;>omega,by omega,by omega⟩|skip)
  ·have hke:k=l.length:=by omega
   rw [hke,List.take_length]
   rw [hke] at hlb
   have hm:p::Ry l=R:=by rw [←hR];rfl
   rw [hm]
   (sym=>simp [hlb,hR,lK,Um,Un,Uo,Up,szP,ctx_made6_t,Zb,Zc,Ze,Zf,Zg,Zo,Z6,Qd,Qf,Qp,Qq,Qr,Qs,Qu,Qv,Qw,Qx,Q1,Ja,Jb,Jd,Jl,Jm,Jn,Xj,Xl,Xm,Xp,Xq,Xr,Xu,Xw,Xx,Xy,X6,X7,Wh,Wj,Wr,Wt,Wx,Yf,Yg,Ym,Yn,Yo,Yp,Yq,Y9,Va,Vz,V0,V1,V3,V5,V6,U5,Gp,Gd,B9]))
def Ru {A B C E R S:Type} [Enc A] [Enc B] [Enc C] [Enc E] [Enc R] [Enc S] (p:A→B→C→E→Prop) (f:A→B→C→E→R×S):Con:=⟨[false,false,false,false],[false,false],fun c=>match c with
 | [.d x,.d y,.d z,.d w]=>isE A x∧isE B y∧isE C z∧isE E w∧p (dec x) (dec y) (dec z) (dec w)
 | _=>False,fun c=>match c with
 | [.d x,.d y,.d z,.d w]=>.tup [.d (enc (f (dec x) (dec y) (dec z) (dec w)).1),.d (enc (f (dec x) (dec y) (dec z) (dec w)).2)]
 | _=>.d .nilp⟩
theorem oX:type_of% @Ru.eq_def:=@Ru.eq_def
theorem cn4t_pre {A B C E R S:Type} [Enc A] [Enc B] [Enc C] [Enc E] [Enc R] [Enc S] {p:A→B→C→E→Prop} {f:A→B→C→E→R×S} {c:List CV} (h:(Ru p f).pre c):∃ a b d e,c=[.d (enc a),.d (enc b),.d (enc d),.d (enc e)]∧p a b d e:=by
 unfold Ru at h
 simp only at h
 split at h
 ·next x y z w=>exact ⟨dec x,dec y,dec z,dec w,by rw [←h.1,←h.2.1,←h.2.2.1,←h.2.2.2.1],h.2.2.2.2⟩
 ·exact h.elim
def Bn (l:List Tok) (s:St6) (k:Int) (had:List (List UInt8)):List UInt8×St6 :=
 if (Hp l s k).2.e≠0 then Hp l s k
 else if in6 had (Hp l s k).1=true then ((Hp l s k).1,⟨s.at_,s.sites,7⟩)
 else if 50≤had.length then ((Hp l s k).1,⟨s.at_,s.sites,3⟩)
 else Hp l s k
def Mb:Con:=Ru (fun (l:Sl Tok) (s:St6) (_:Int) (had:Sl (List UInt8))=>(l.l.length≤1000000∧0≤s.at_∧s.at_≤2000000)∧had.l.length≤1000000) (fun l s k had=>Bn l.l s k had.l)
noncomputable def Fh:Ctx:=⟨tab,lkC [(29,Kv),(30,Mn),(31,Kr)],60,lkB [],[],false⟩
theorem On:Fh.τ=tab:=rfl
theorem Oq:Fh.Γ=lkC [(29,Kv),(30,Mn),(31,Kr)]:=rfl
theorem Oo:Fh.dp=60:=rfl
theorem Ot:Fh.Δ=lkB []:=rfl
theorem Om:Fh.cuts=[]:=rfl
theorem ctx_label6_w:Fh.wr=false:=rfl
set_option maxRecDepth 100000 in
theorem good_label6:Hg Try.prog (76,Mb):=by
 refine ⟨Ke Try.func76 (by kernel_rfl) rfl,?_⟩
 have K:Gu Try.prog Fh:=Ko G7 Kw (by
  intro p hp
  simp only [bQ,bZ,or_false] at hp
  rcases hp with rfl|rfl|rfl
  ·exact Tn
  ·exact good_in6
  ·exact Cg) (by simp)
 obtain ⟨c,hc⟩:∃ c,Try.f76.body=some c:=⟨_,rfl⟩
 refine Kn K Try.func76 hc [.tmp 8,.cell 9 71] rfl 38 rfl (fun cvs hpre=>?_)
 change Mb.pre cvs at hpre
 unfold Mb at hpre
 obtain ⟨⟨l⟩,⟨i,ss,e⟩,kd,⟨had⟩,rfl,⟨hl,hs0,hs1⟩,hh⟩:=cn4t_pre hpre
 simp only at hl hs0 hs1 hh
 clear hpre
 obtain ⟨⟨Rx,⟨Ra,Rs,Re⟩⟩,hR⟩:∃ R,Bn l ⟨i,ss,e⟩ kd had=R:=⟨_,rfl⟩
 have hR2:=hR
 unfold Bn at hR2
 have hcz:=Co l ⟨i,ss,e⟩ kd
 obtain ⟨⟨x,q⟩,hn⟩:∃ n,Hp l ⟨i,ss,e⟩ kd=n:=⟨_,rfl⟩
 rw [hn] at hR2 hcz
 obtain ⟨qa,qs,qe⟩:=q
 simp only at hR2
 have he0:qe=0→e=0:=fun h=>by
  rcases hcz with ⟨h1,h2⟩|⟨h1,_⟩|⟨h1,_⟩|⟨h1,_⟩
  ·simp only [aJ,St6.mk.injEq] at h2
   rw [←h2.2.2.2];exact h
  ·exact h1
  ·exact h1
  ·exact h1
 clear hcz
 simp only [Try.f76,aZ] at hc
 subst hc
 refine Gf 2 (of_decide_eq_true (by kernel_rfl)) ?_
 by_cases hq:qe=0
 case neg =>
  rw [if_pos hq] at hR2
  have hb:(qe != 0)=true:=bne_iff_ne.2 hq
  simp only [aJ,St6.mk.injEq] at hR2
  obtain ⟨rfl,rfl,rfl,rfl⟩:=hR2
  (sym=>simp [hn,hb,hR,lQ,oX,Uz,U3,U4,On,Oq,Oo,Ot,Om,ctx_label6_w,oY,Mb.eq_def,mW,mX,Zb,Zc,Ze,Zf,Zh,Zi,Zj,Zk,Zl,Zm,Zo,Zp,Zq,Zs,Zu,Zv,Zw,Zx,Qa,Qb,Qd,Qf,Qg,Qh,Qi,Qj,Qm,Qn,Qo,Qp,Qq,Qr,Qs,Qt,Qu,Qv,Qw,Qx,Qy,Qz,Q1,Q2,Q3,Q8,Ja,Jb,Jc,Jd,Je,Jf,Jj,Jq,Jr,Js,Jt,Jv,Jw,Jy,Jz,J2,J6,J7,Xa,Xb,Xe,Xj,Xk,Xl,Xm,Xq,Xr,Xs,Xt,Xu,Xv,Xw,Xx,Xy,X0,X2,X6,X7,X8,X9,Wb,Wc,Wd,Wf,Wg,Wh,Wi,Wj,Wl,Wm,Wn,Wo,Wp,Wt,Wx,W6,Yc,Ye,Yn,Yo,Yr,Ys,Yt,Yu,Yv,Yw,Yx,Yz,Y2,Y4,Y9,Va,Vj,Vl,Vn,Vy,Vz,V0,V1,V2,V4,V5,V6,V8,Ui,Uj,U5,Kh,Gg,Ks,K2,G5,Ku];tactic =>
   try simp only [Uq] at *;try simp only [nc2] at *
   try simp (maxSteps:=4000000) only [hn,hb,hR,lQ,oX,Uz,U3,U4,U6]
   repeat' first|with_reducible assumption|with_reducible apply And.intro|intro _|omega|(rw [Uk];omega)
   all_goals first|with_reducible exact okq|omega|rfl|trivial|skip)
 have hb:(qe != 0)=false:=by rw [hq];rfl
 have he:=he0 hq
 subst he
 rw [if_neg (by simpa using hq)] at hR2
 have w7:Ns ⟨i,ss,0⟩ 7=⟨i,ss,7⟩:=rfl
 have w3:Ns ⟨i,ss,0⟩ 3=⟨i,ss,3⟩:=rfl
 cases hin:in6 had x with
 | true =>
  rw [hin,if_pos rfl] at hR2
  simp only [aJ,St6.mk.injEq] at hR2
  obtain ⟨rfl,rfl,rfl,rfl⟩:=hR2
  (sym=>simp [hn,hb,hin,w7,hR,lQ,oX,Uz,U3,U4,On,Oq,Oo,Ot,Om,oY,Mb.eq_def,mW,mX,Zb,Zc,Ze,Zf,Zo,Zp,Zq,Zs,Zu,Zv,Zw,Zx,Qa,Qb,Qd,Qf,Qg,Qh,Qi,Qj,Qm,Qn,Qo,Qp,Qq,Qr,Qs,Qu,Qv,Qw,Qx,Q1,Q2,Q3,Q8,Ja,Jb,Jc,Jd,Je,Jf,Jj,Jq,Jr,Js,Jt,Jv,Jw,Jy,Jz,J2,J6,J7,Xa,Xb,Xe,Xi,Xj,Xl,Xm,Xq,Xr,Xu,Xw,Xx,Xy,X0,X6,X7,X8,X9,Wb,Wc,Wd,Wf,Wg,Wh,Wi,Wj,Wl,Wm,Wn,Wo,Wp,Wt,Wx,W6,Yc,Yd,Ye,Yn,Yo,Yr,Ys,Yt,Yu,Yv,Yw,Yx,Yy,Yz,Y2,Y3,Y4,Y9,Va,Vj,Vl,Vn,Vy,Vz,V0,V1,V2,V4,V5,V6,Ui,Uj,U5,Kh,Gg,Ks,K2,G5,Ku];tactic =>
   try simp only [Uq] at *;try simp only [nc2] at *
   try simp (maxSteps:=4000000) only [hn,hb,hin,w7,hR,lQ,oX,Uz,U3,U4,U6]
   repeat' first|with_reducible assumption|with_reducible apply And.intro|intro _|omega|(rw [Uk];omega)
   all_goals first|with_reducible exact okq|omega|rfl|trivial|skip)
 | false =>
  rw [hin,if_neg (by simp)] at hR2
  by_cases h50:50≤had.length
  ·rw [if_pos h50] at hR2
   have hge:leB 50 (had.length:Int)=true:=by rw [G4];omega
   simp only [aJ,St6.mk.injEq] at hR2
   obtain ⟨rfl,rfl,rfl,rfl⟩:=hR2
   (sym=>simp [hn,hb,hin,hge,w3,hR,lQ,oX,Uz,U3,U4,On,Oq,Oo,Ot,Om,oY,Mb.eq_def,mW,mX,Zb,Zc,Ze,Zf,Zo,Zp,Zq,Zs,Zu,Zv,Zw,Zx,Z6,Qa,Qb,Qd,Qf,Qg,Qh,Qi,Qj,Qm,Qn,Qo,Qp,Qq,Qr,Qs,Qu,Qv,Qw,Qx,Q1,Q2,Q3,Q8,Ja,Jb,Jc,Jd,Je,Jf,Jj,Jq,Jr,Js,Jt,Ju,Jv,Jw,Jx,Jy,Jz,J2,J6,J7,Xa,Xb,Xe,Xi,Xj,Xl,Xm,Xq,Xr,Xu,Xw,Xx,Xy,X0,X6,X7,X8,X9,Wb,Wc,Wd,Wf,Wg,Wh,Wi,Wj,Wl,Wm,Wn,Wo,Wp,Wt,Wx,W6,Yc,Yd,Ye,Yf,Yg,Yl,Yn,Yo,Yp,Yq,Yr,Ys,Yt,Yu,Yv,Yw,Yx,Yy,Yz,Y2,Y3,Y4,Y9,Va,Vj,Vl,Vn,Vy,Vz,V0,V1,V2,V3,V4,V5,V6,Ui,Uj,U5,Kh,Gg,Ks,K2,G5,Ku];tactic =>
    try simp only [Uq] at *;try simp only [nc2] at *
    try simp (maxSteps:=4000000) only [hn,hb,hin,hge,w3,hR,lQ,oX,Uz,U3,U4,U6]
    repeat' first|with_reducible assumption|with_reducible apply And.intro|intro _|omega|(rw [Uk];omega)
    all_goals first|with_reducible exact okq|omega|rfl|trivial|skip)
  ·rw [if_neg h50] at hR2
   have hge:leB 50 (had.length:Int)=false:=by rw [←Bool.not_eq_true,G4];omega
   simp only [aJ,St6.mk.injEq] at hR2
   obtain ⟨rfl,rfl,rfl,rfl⟩:=hR2
   (sym=>simp [hn,hb,hin,hge,hR,lQ,oX,Uz,U3,U4,On,Oq,Oo,Ot,Om,ctx_label6_w,oY,Mb.eq_def,mW,mX,Zb,Zc,Ze,Zf,Zh,Zi,Zj,Zk,Zl,Zm,Zo,Zp,Zq,Zs,Zu,Zv,Zw,Zx,Z6,Qa,Qb,Qd,Qf,Qg,Qh,Qi,Qj,Qm,Qn,Qo,Qp,Qq,Qr,Qs,Qt,Qu,Qv,Qw,Qx,Qy,Qz,Q1,Q2,Q3,Q8,Ja,Jb,Jc,Jd,Je,Jf,Jj,Jq,Jr,Js,Jt,Ju,Jv,Jw,Jx,Jy,Jz,J2,J6,J7,Xa,Xb,Xe,Xi,Xj,Xk,Xl,Xm,Xq,Xr,Xs,Xt,Xu,Xv,Xw,Xx,Xy,X0,X2,X6,X7,X8,X9,Wb,Wc,Wd,Wf,Wg,Wh,Wi,Wj,Wl,Wm,Wn,Wo,Wp,Wt,Wx,W6,Yc,Yd,Ye,Yf,Yg,Yl,Yn,Yo,Yp,Yq,Yr,Ys,Yt,Yu,Yv,Yw,Yx,Yy,Yz,Y2,Y3,Y4,Y9,Va,Vj,Vl,Vn,Vz,V0,V1,V2,V3,V4,V5,V6,V8,Ui,Uj,U5,Kh,Gg,Ks,K2,G5,Ku];tactic =>
    try simp only [Uq] at *;try simp only [nc2] at *
    try simp (maxSteps:=4000000) only [hn,hb,hin,hge,hR,lQ,oX,Uz,U3,U4,U6]
    repeat' first|with_reducible assumption|with_reducible apply And.intro|intro _|omega|(rw [Uk];omega)
    all_goals first|with_reducible exact okq|omega|rfl|trivial|skip)
def begT (t:Tok):Bool :=
 if t.kind=1∨t.kind=3∨t.kind=4 then true
 else if t.kind=6 then (t.text==[116,114,117,101])||(t.text==[102,97,108,115,101])
 else if t.kind=5 then (t.text==[40])||((t.text==[123])||(t.text==[91]))
 else false
def En (l:List Tok) (s:St6):Bool:=if s.e≠0∨(l.length:Int)≤s.at_ then false else begT (tk l s.at_)
def Hv:Con:=Ms (fun (l:Sl Tok) (s:St6)=>l.l.length≤1000000∧0≤s.at_) (fun l s=>En l.l s)
noncomputable def ctx_begins6:Ctx:=⟨tab,lkC [],60,lkB [],[],false⟩
theorem ctx_begins6_t:ctx_begins6.τ=tab:=rfl
theorem ctx_begins6_d:ctx_begins6.dp=60:=rfl
theorem ctx_begins6_u:ctx_begins6.cuts=[]:=rfl
set_option maxRecDepth 100000 in
theorem good_begins6:Hg Try.prog (85,Hv):=by
 refine ⟨Ke Try.func85 (by kernel_rfl) rfl,?_⟩
 have K:Gu Try.prog ctx_begins6:=Ko G7 Kw (by simp) (by simp)
 obtain ⟨c,hc⟩:∃ c,Try.f85.body=some c:=⟨_,rfl⟩
 refine Kn K Try.func85 hc [.tmp 4] rfl 52 rfl (fun cvs hpre=>?_)
 change Hv.pre cvs at hpre
 unfold Hv at hpre
 obtain ⟨⟨l⟩,⟨i,ss,e⟩,rfl,hl,hs0⟩:=Bb hpre
 simp only at hl hs0
 clear hpre
 obtain ⟨i,rfl⟩:∃ n:Nat,i=n:=⟨i.toNat,by omega⟩
 obtain ⟨R,hR⟩:∃ R,En l ⟨i,ss,e⟩=R:=⟨_,rfl⟩
 have hR2:=hR
 unfold En at hR2
 simp only [C6] at hR2
 simp only [Try.f85,aZ] at hc
 subst hc
 refine Gf 3 (of_decide_eq_true (by kernel_rfl)) ?_
 by_cases he:e=0
 case neg =>
  rw [if_pos (.inl he)] at hR2
  have hb:(e != 0)=true:=bne_iff_ne.2 he
  subst hR2
  (sym=>simp [hb,hR,U1,Kb,Kc,Ka,Gl,Uz,U3,U4,ctx_begins6_t,ctx_begins6_d,ctx_begins6_u,Hv.eq_def,Zb,Zc,Zd,Ze,Zf,Zo,Zp,Zq,Zs,Zt,Zu,Zv,Zx,Qd,Qf,Qn,Qo,Qp,Qq,Qr,Qs,Qu,Qv,Qw,Qx,Q1,Ja,Jb,Jd,Jf,Jj,Jq,Jr,Js,Jt,Jv,Jy,J2,J6,J7,Xb,Xe,Xj,Xl,Xm,Xq,Xr,Xu,Xw,Xx,Xy,X6,X7,X8,X9,Wc,Wf,Wh,Wi,Wj,Wl,Wm,Wn,Wo,Wp,Wt,Wx,W6,Yd,Yn,Yo,Yr,Ys,Yt,Yu,Yv,Yw,Yz,Y9,Va,Vj,Vk,Vy,Vz,V0,V1,V5,V6,Ui,U5,Kh,Ks,K2,G5,Ku])
 have hb:(e != 0)=false:=by rw [he];rfl
 by_cases hlt:(l.length:Int)≤(i:Int)
 ·rw [if_pos (.inr hlt)] at hR2
  have hge:leB (l.length:Int) (i:Int)=true:=by rw [G4];exact hlt
  subst hR2
  (sym=>simp [hb,hge,hR,U1,Kb,Kc,Ka,Gl,Uz,U3,U4,ctx_begins6_t,ctx_begins6_d,ctx_begins6_u,Hv.eq_def,Zb,Zc,Zd,Ze,Zf,Zo,Zp,Zq,Zs,Zt,Zu,Zv,Zx,Z6,Qd,Qf,Qn,Qo,Qp,Qq,Qr,Qs,Qu,Qv,Qw,Qx,Q1,Ja,Jb,Jd,Jf,Jj,Jq,Jr,Js,Jt,Jv,Jy,J2,J6,J7,Xb,Xe,Xj,Xl,Xm,Xq,Xr,Xu,Xw,Xx,Xy,X6,X7,X8,X9,Wc,Wf,Wh,Wi,Wj,Wl,Wm,Wn,Wo,Wp,Wt,Wx,W6,Yd,Yf,Yg,Yn,Yo,Yr,Ys,Yt,Yu,Yv,Yw,Yz,Y9,Va,Vj,Vk,Vy,Vz,V0,V1,V3,V5,V6,Ui,U5,Kh,Ks,K2,G5,Ku])
 rw [if_neg (by simp only [he];simp;omega)] at hR2
 have hge:leB (l.length:Int) (i:Int)=false:=by rw [←Bool.not_eq_true,G4];exact hlt
 have q1:=K7 Td (show i<l.length by omega)
 obtain ⟨t,ht⟩:∃ t,l.getD i Td=t:=⟨_,rfl⟩
 rw [ht] at q1 hR2
 unfold begT at hR2
 (sym=>simp [hb,hge,q1,hR,U1,Kb,Kc,Ka,Gl,Uz,U3,U4,ctx_begins6_t,ctx_begins6_d,ctx_begins6_u,Hv.eq_def,Zb,Zc,Zd,Ze,Zf,Zg,Zo,Zp,Zq,Zs,Zt,Zu,Zv,Zw,Zx,Zy,Z6,Qd,Qf,Qm,Qn,Qo,Qp,Qq,Qr,Qs,Qu,Qv,Qw,Qx,Q1,Ja,Jb,Jd,Jf,Jj,Jq,Jr,Js,Jt,Ju,Jv,Jw,Jx,Jy,Jz,J2,J6,J7,J8,Xb,Xe,Xi,Xj,Xl,Xm,Xn,Xq,Xr,Xu,Xw,Xx,Xy,X0,X6,X7,X8,X9,Wc,Wf,Wg,Wh,Wi,Wj,Wl,Wm,Wn,Wo,Wp,Wt,Wv,Wx,Wz,W1,W6,Yd,Yf,Yg,Yn,Yo,Yp,Yq,Yr,Ys,Yt,Yu,Yv,Yw,Yz,Y7,Y9,Va,Vj,Vk,Vl,Vn,Vy,Vz,V0,V1,V2,V3,V4,V5,V6,Ui,Uj,U5,Kh,Ks,K2,G5,Ku];tactic =>
  try simp only [Uq] at *;try simp only [nc2] at *
  try simp (maxSteps:=4000000) only [hb,hge,q1,hR,U1,Kb,Kc,Ka,Gl,Uz,U3,U4,U6]
  repeat' first|with_reducible assumption|with_reducible apply And.intro|intro _|omega|(rw [Uk];omega)
  all_goals first|with_reducible exact okq|omega|(rw [←hR2];clear hR2 hR K q1 ht;simp_all;done)|(symm;rw [←hR2];clear hR2 hR K q1 ht;simp_all;done)|(rename_i h1 h2;rw [←hR2,if_neg (by omega),if_neg (by omega),if_pos (by assumption),beq_eq_false_iff_ne.2 h1,beq_eq_false_iff_ne.2 h2];rfl)|trivial|skip)
def signs6 (b:Int):List (List UInt8):=if b=0 then [[124,124]] else if b=1 then [[38,38]] else if b=2 then [[60],[61,61]] else if b=3 then [[43],[45],[43,43]] else [[42],[47]]
def Lg:Con:=L9 (fun (_:Int)=>True) (fun b=>Sl.mk (signs6 b))
noncomputable def ctx_signs6:Ctx:=⟨tab,lkC [],60,lkB [],[],false⟩
theorem ctx_signs6_t:ctx_signs6.τ=tab:=rfl
theorem ctx_signs6_d:ctx_signs6.dp=60:=rfl
theorem ctx_signs6_u:ctx_signs6.cuts=[]:=rfl
set_option maxRecDepth 100000 in
theorem good_signs6:Hg Try.prog (78,Lg):=by
 refine ⟨Ke Try.func78 (by kernel_rfl) rfl,?_⟩
 have K:Gu Try.prog ctx_signs6:=Ko G7 Kw (by simp) (by simp)
 obtain ⟨c,hc⟩:∃ c,Try.f78.body=some c:=⟨_,rfl⟩
 refine Kn K Try.func78 hc [.tmp 2] rfl 17 rfl (fun cvs hpre=>?_)
 change Lg.pre cvs at hpre
 unfold Lg at hpre
 obtain ⟨b,rfl,-⟩:=Mt hpre
 clear hpre
 obtain ⟨R,hR⟩:∃ R,signs6 b=R:=⟨_,rfl⟩
 have hR2:=hR
 unfold signs6 at hR2
 simp only [Try.f78,aZ] at hc
 subst hc
 (sym=>simp [hR,ctx_signs6_t,ctx_signs6_d,ctx_signs6_u,Lg.eq_def,Za,Zb,Zc,Ze,Zf,Zg,Zn,Zo,Zr,Z1,Qd,Qf,Qp,Qq,Qr,Qs,Qu,Qv,Qw,Qx,Q1,Q4,Q5,Q6,Q7,Q9,Ja,Jb,Jd,Jf,Jj,Jq,Jr,J0,J1,J2,J4,Xd,Xi,Xj,Xl,Xm,Xn,Xq,Xr,Xu,Xw,Xx,Xy,X1,X6,X7,X8,X9,Wc,Wf,Wg,Wh,Wi,Wj,Wl,Wt,Wx,W4,Yc,Yn,Yo,Yp,Yq,Yr,Ys,Yx,Vi,Vj,Vl,Vm,Vn,Vo,Vz,V0,V1,V5,V6,U5,Kh,Gg];tactic =>
  try simp only [Uq] at *;try simp only [nc2] at *
  try simp (maxSteps:=4000000) only [hR,U6]
  repeat' first|with_reducible assumption|with_reducible apply And.intro|intro _|omega|(rw [Uk];omega)
  all_goals first|with_reducible exact okq|(rw [←hR2];simp_all;done)|(rw [←hR2];simp_all;rfl)|(rw [←hR2,if_pos (by assumption)];rfl)|(rw [←hR2,if_neg (by assumption),if_pos (by assumption)];rfl)|(rw [←hR2,if_neg (by assumption),if_neg (by assumption),if_pos (by assumption)];rfl)|(rw [←hR2,if_neg (by assumption),if_neg (by assumption),if_neg (by assumption),if_pos (by assumption)];rfl)|(rw [←hR2,if_neg (by assumption),if_neg (by assumption),if_neg (by assumption),if_neg (by assumption)];rfl)|skip)
def num6:List UInt8→Int→Int
 | [],n=>n
 | c::r,n=>num6 r (10*n+((c.toNat:Int)-48))
def number6 (s:List UInt8):Int:=num6 s 0
theorem fig_le {c:UInt8} (h:P0 c=true):48≤c.toNat∧c.toNat≤57:=by
 unfold P0 P5 at h
 simp only [bX,decide_eq_true_eq,UInt8.le_iff_toNat_le] at h
 exact h
def Mh:Con:=L9 (fun (s:List UInt8)=>Figs s) (fun s=>number6 s)
noncomputable def ctx_number6:Ctx:=⟨tab,lkC [],60,lkB [],[],false⟩
theorem ctx_number6_t:ctx_number6.τ=tab:=rfl
theorem ctx_number6_d:ctx_number6.dp=60:=rfl
theorem ctx_number6_w:ctx_number6.wr=false:=rfl
set_option maxRecDepth 100000 in
theorem good_number6:Hg Try.prog (96,Mh):=by
 refine ⟨Ke Try.func96 (by kernel_rfl) rfl,?_⟩
 have K:Gu Try.prog ctx_number6:=Ko G7 Kw (by simp) (by simp)
 obtain ⟨c,hc⟩:∃ c,Try.f96.body=some c:=⟨_,rfl⟩
 refine Kn K Try.func96 hc [.tmp 2] rfl 20 rfl (fun cvs hpre=>?_)
 change Mh.pre cvs at hpre
 unfold Mh at hpre
 obtain ⟨s,rfl,hs,hf⟩:=Mt hpre
 clear hpre
 obtain ⟨R,hR⟩:∃ R,number6 s=R:=⟨_,rfl⟩
 have hR2:=hR
 unfold number6 at hR2
 have n48:((48:UInt8).toNat:Int)=48:=rfl
 simp only [Try.f96,aZ] at hc
 subst hc
 (sym=>simp [Kq,U9,G9,Kf,Kg,K8,Mh.eq_def,Za,Zb,Zc,Ze,Zf,Qs,Qu,Qv,Qw,Qx,Jj,Jq,Jr,Xd,Xj,Xl,Xn,Xo,Xr,Xu,Xw,X6,X7,X8,X9,Wc,Wf,Wj,Wl,Yc,Ye,Yp,Yq,Yr,Ys,Yy,Vj,V0,V5,V6,Ep,U5,Pd,Kh];tactic =>
  try simp only [Uq] at *;try simp only [nc2] at *
  try simp (maxSteps:=4000000) only [Kq,U9,G9,Kf,Kg,K8,U6]
  repeat' first|with_reducible assumption|with_reducible apply And.intro|intro _|omega|(rw [Uk];omega)
  refine Kk [5,6,7,8,9,10,11,12,13,14,15,16,17,18] (fun p:Nat×Int=>[(3,.d (.int .i64 p.2)),(4,.d (.int .i64 p.1))]) (fun p:Nat×Int=>[]) (fun p:Nat×Int=>p.1≤s.length∧0≤p.2∧p.2<10 ^ p.1∧num6 (s.drop p.1) p.2=R) (fun p:Nat×Int=>s.length-p.1) (0,0) ?_ ?_ ?_
  ·exact ⟨by simp,by simp,by simp,hR2⟩
  ·exact wkq
  rintro ⟨k,n⟩ ⟨h1,h2,h3,h4⟩
  simp only at h1 h2 h3 h4
  rcases Kt k s.length with ⟨hlt,hlb⟩|⟨hlt,hlb⟩
  ·rw [Aa hlt,num6] at h4
   have hc48:=fig_le (hf (s.getD k 0) (by simp [hlt]))
   obtain ⟨d,hd⟩:∃ c,s.getD k 0=c:=⟨_,rfl⟩
   rw [hd] at h4 hc48
   have hp:(10:Int) ^ (k+1)=10*10 ^ k:=by rw [Int.pow_succ];omega
   have hp2:(10:Int) ^ (k+1)≤1000000000000000000:=by
    have h5:(10:Nat) ^ (k+1)≤10 ^ 18:=Nat.pow_le_pow_right (by omega) (by omega)
    have h6:((10 ^ (k+1):Nat):Int)≤((10 ^ 18:Nat):Int):=by exact_mod_cast h5
    simpa using h6
   have hb:10*n+((d.toNat:Int)-48)<10 ^ (k+1):=by rw [hp];omega
   have hn10:10*n≤1000000000000000000:=by omega
   (sym=>simp [hlb,hd,n48,aX,Kq,U9,G9,Kf,Kg,K8,ctx_number6_t,ctx_number6_w,Zb,Zc,Ze,Zf,Zg,Zz,Z6,Z9,Qd,Qf,Qs,Qu,Qv,Qw,Qx,Jl,Jm,Jn,Xi,Xj,Xl,Xm,Xn,Xr,Xu,Xw,Xx,X6,X7,X8,X9,Wr,Wt,Wv,Wx,Wz,W1,Yn,Yo,Yp,Yq,Y9,Vj,Vy,V0,V1,V2,V5,V6,V9,Ep,U5,Pd,Kh];tactic =>
    try simp only [Uq] at *;try simp only [nc2] at *
    try simp (maxSteps:=4000000) only [hlb,hd,n48,aX,Kq,U9,G9,Kf,Kg,K8,U6]
    repeat' first|with_reducible assumption|with_reducible apply And.intro|intro _|omega|(rw [Uk];omega)
    all_goals first|with_reducible exact okq|omega|(rw [inR_u8];omega)|(rw [Uk];omega)|exact ⟨(k+1,10*n+((d.toNat:Int)-48)),wkq,by simp only;omega,by simp only;omega,hb,h4,by simp only;omega⟩|skip)
  ·have hke:s.drop k=[]:=List.drop_eq_nil_of_le hlt
   rw [hke] at h4
   have h5:n=R:=h4
   (sym=>simp [hlb,hR,h5,Kq,U9,G9,Kf,Kg,K8,ctx_number6_t,ctx_number6_d,Zb,Zc,Ze,Zf,Zg,Z6,Qd,Qf,Qp,Qq,Qr,Qs,Qu,Qv,Qw,Qx,Q1,Jd,Jl,Jm,Jn,J2,Xj,Xl,Xm,Xp,Xq,Xr,Xu,Xw,Xx,X6,X7,X8,X9,Wr,Wt,Wv,Wx,Wz,Yn,Yo,Yp,Yq,Y9,Vz,V0,V1,V2,V5,V6,Ep,U5,Pd,Kh]))
def cn3tt {A B C R S T:Type} [Enc A] [Enc B] [Enc C] [Enc R] [Enc S] [Enc T] (p:A→B→C→Prop) (f:A→B→C→R×S×T):Con:=⟨[false,false,false],[false,false,false],fun c=>match c with
 | [.d x,.d y,.d z]=>isE A x∧isE B y∧isE C z∧p (dec x) (dec y) (dec z)
 | _=>False,fun c=>match c with
 | [.d x,.d y,.d z]=>.tup [.d (enc (f (dec x) (dec y) (dec z)).1),.d (enc (f (dec x) (dec y) (dec z)).2.1),.d (enc (f (dec x) (dec y) (dec z)).2.2)]
 | _=>.d .nilp⟩
theorem cn3tt_pre {A B C R S T:Type} [Enc A] [Enc B] [Enc C] [Enc R] [Enc S] [Enc T] {p:A→B→C→Prop} {f:A→B→C→R×S×T} {c:List CV} (h:(cn3tt p f).pre c):∃ a b d,c=[.d (enc a),.d (enc b),.d (enc d)]∧p a b d:=by
 unfold cn3tt at h
 simp only at h
 split at h
 ·next x y z=>exact ⟨dec x,dec y,dec z,by rw [←h.1,←h.2.1,←h.2.2.1],h.2.2.2⟩
 ·exact h.elim
def Fr (l:List Tok) (s:St6) (v:Int):List UInt8×List Node×St6:=((Hp l s 1).1,(Cn l (Hp l s 1).2 v).1,(Cn l (Hp l s 1).2 v).2)
theorem named6_ok {l:List Tok} {s:St6} (h:St6Ok l s) (k:Int):St6Ok l (Hp l s k).2∧((Hp l s k).2.e=0→s.e=0∧(Hp l s k).2.at_=s.at_+1∧(Hp l s k).2.sites=s.sites):=by
 rcases Co l s k with ⟨h1,h2⟩|⟨h1,_,h2⟩|⟨h1,_,_,h2⟩|⟨h1,h3,_,h2⟩
 ·rw [h2];exact ⟨h,fun e=>absurd e h1⟩
 ·rw [h2];exact ⟨⟨h.len,h.lo,h.hi,h.sites,h.txt,h.fig⟩,fun e=>absurd e (by show ¬ (2:Int)=0;decide)⟩
 ·rw [h2];exact ⟨⟨h.len,h.lo,h.hi,h.sites,h.txt,h.fig⟩,fun e=>absurd e (by show ¬ (2:Int)=0;decide)⟩
 ·rw [h2]
  have:=h.lo
  exact ⟨⟨h.len,by show 0≤s.at_+1;omega,by show s.at_+1≤_;omega,h.sites,h.txt,h.fig⟩,fun _=>⟨h1,rfl,rfl⟩⟩
def Lj:Con:=cn3tt (fun (l:Sl Tok) (s:St6) (v:Int)=>St6Ok l.l s∧(s.e=0→1≤v∧v≤100)) (fun l s v=>(((Fr l.l s v).1,⟨(Fr l.l s v).2.1⟩,(Fr l.l s v).2.2):List UInt8×Sl Node×St6))
noncomputable def Aj:Ctx:=⟨tab,lkC [(29,Kv),(46,Ma)],60,lkB [],[],false⟩
theorem ctx_bound6_t:Aj.τ=tab:=rfl
theorem ctx_bound6_c:Aj.Γ=lkC [(29,Kv),(46,Ma)]:=rfl
theorem ctx_bound6_d:Aj.dp=60:=rfl
theorem ctx_bound6_b:Aj.Δ=lkB []:=rfl
theorem ctx_bound6_w:Aj.wr=false:=rfl
set_option maxRecDepth 100000 in
theorem good_bound6:Hg Try.prog (73,Lj):=by
 refine ⟨Ke Try.func73 (by kernel_rfl) rfl,?_⟩
 have K:Gu Try.prog Aj:=Ko G7 Kw (by
  intro p hp
  simp only [bQ,bZ,or_false] at hp
  rcases hp with rfl|rfl
  ·exact Tn
  ·exact good_noted6) (by simp)
 obtain ⟨c,hc⟩:∃ c,Try.f73.body=some c:=⟨_,rfl⟩
 refine Kn K Try.func73 hc [.tmp 6,.tmp 7,.cell 8 71] rfl 27 rfl (fun cvs hpre=>?_)
 change Lj.pre cvs at hpre
 unfold Lj at hpre
 obtain ⟨⟨l⟩,⟨i,ss,e⟩,v,rfl,hS,hv⟩:=cn3tt_pre hpre
 simp only at hS hv
 clear hpre
 have hlen:=hS.len
 have hlo:=hS.lo
 have hhi:=hS.hi
 simp only at hlo hhi
 obtain ⟨⟨Rx,Rt,⟨Ra,Rs,Re⟩⟩,hR⟩:∃ R,Fr l ⟨i,ss,e⟩ v=R:=⟨_,rfl⟩
 have hR2:=hR
 unfold Fr at hR2
 obtain ⟨hok,hgo⟩:=named6_ok hS 1
 obtain ⟨⟨x,⟨qa,qs,qe⟩⟩,hn⟩:∃ n,Hp l ⟨i,ss,e⟩ 1=n:=⟨_,rfl⟩
 rw [hn] at hR2 hok hgo
 simp only at hR2 hok hgo
 have hvv:qe=0→1≤qa∧1≤v∧v≤100:=fun h=>by
  obtain ⟨g1,g2,_⟩:=hgo h
  have:=hv g1
  omega
 obtain ⟨⟨t,⟨ma,ms,me⟩⟩,hm⟩:∃ m,Cn l ⟨qa,qs,qe⟩ v=m:=⟨_,rfl⟩
 rw [hm] at hR2
 simp only [aJ,St6.mk.injEq] at hR2
 obtain ⟨rfl,rfl,rfl,rfl,rfl⟩:=hR2
 simp only [Try.f73,aZ] at hc
 subst hc
 (sym=>simp [hn,hm,hR,lQ,cn3tt.eq_def,Uz,U3,U4,ctx_bound6_t,ctx_bound6_c,ctx_bound6_d,ctx_bound6_b,ctx_bound6_w,Lj.eq_def,mW,Ma.eq_def,Za,Zb,Zc,Ze,Zf,Zh,Zi,Zj,Zk,Zl,Zm,Zn,Zo,Zp,Zq,Zu,Zv,Zw,Qa,Qb,Qg,Qh,Qi,Qj,Qm,Qn,Qp,Qq,Qr,Qs,Qt,Qu,Qv,Qw,Qx,Qy,Qz,Q1,Q2,Q3,Q8,Ja,Jb,Jc,Jd,Je,Jj,Jq,Jr,J2,Xa,Xb,Xj,Xk,Xl,Xq,Xr,Xs,Xt,Xu,Xv,Xw,Xx,Xy,X0,X2,X6,X7,X8,X9,Wb,Wc,Wd,Wf,Wg,Wh,Wi,Wj,Wl,W6,Yc,Ye,Yn,Yo,Yp,Yq,Yr,Ys,Yt,Yu,Yv,Yw,Yx,Yz,Y2,Y4,Va,Vj,Vl,Vm,Vn,Vz,V0,V1,V2,V4,V5,V6,V8,Ui,Uj,U5,K2,G5,Ku];tactic =>
  try simp only [Uq] at *;try simp only [nc2] at *
  try simp (maxSteps:=4000000) only [hn,hm,hR,lQ,cn3tt.eq_def,Uz,U3,U4,U6]
  repeat' first|with_reducible assumption|with_reducible apply And.intro|intro _|omega|(rw [Uk];omega)
  all_goals first|with_reducible exact okq|omega|exact hok|exact hvv|rfl|trivial|skip)
abbrev Rd6:=St6→List Part×St6
section
variable (ex:Rd6) (l:List Tok) (v:Int)
def funW (s:St6):List Part×St6 :=
 let b:=Fr l (Gz l s 5 [40]) v
 let r:=ex (Gz l (Gz l b.2.2 5 [41]) 5 [45,62])
 (P4 ⟨2,[],[],b.1,0,0,b.2.1,[]⟩ [⟨r.1⟩],r.2)
def letW (s:St6):List Part×St6 :=
 let b:=Fr l s v
 let a:=ex (Gz l b.2.2 5 [61])
 let c:=ex (Gz l a.2 6 [105,110])
 (P4 ⟨4,[],[],b.1,0,0,b.2.1,[]⟩ [⟨a.1⟩,⟨c.1⟩],c.2)
def recW (s:St6):List Part×St6 :=
 let f:=Hp l s 1
 let b:=Fr l (Gz l f.2 5 [40]) v
 let u:=Cn l (Gz l b.2.2 5 [41]) v
 let a:=ex (Gz l u.2 5 [61])
 let c:=ex (Gz l a.2 6 [105,110])
 (P4 ⟨5,[],f.1,b.1,0,0,b.2.1,u.1⟩ [⟨a.1⟩,⟨c.1⟩],c.2)
def condW (s:St6):List Part×St6 :=
 let a:=ex s
 let b:=ex (Gz l a.2 6 [116,104,101,110])
 let c:=ex (Gz l b.2 6 [101,108,115,101])
 (P4 ⟨6,[],[],[],0,0,[],[]⟩ [⟨a.1⟩,⟨b.1⟩,⟨c.1⟩],c.2)
def C2 (s:St6) (had:List (List UInt8)):List UInt8×List UInt8×(List Part×St6) :=
 let tag:=Bn l s 2 had
 let x:=Hp l tag.2 1
 (tag.1,x.1,ex (Gz l x.2 5 [45,62]))
def casesL:Nat→St6→List (List UInt8)→List Part→List Part×St6
 | 0,s,_,_=>([],s)
 | f+1,s,had,body =>
  let b:=C2 ex l s had
  if b.2.2.2.e≠0 then ([],b.2.2.2)
  else if is6 l b.2.2.2 5 [124]=false then (⟨7,[],[],[],(had.length:Int)+1,0,[],[]⟩::(body++P4 ⟨8,b.1,[],b.2.1,0,0,[],[]⟩ [⟨b.2.2.1⟩]),Gz l b.2.2.2 6 [101,110,100])
  else casesL f (Pe b.2.2.2) (had++[b.1]) (body++P4 ⟨8,b.1,[],b.2.1,0,0,[],[]⟩ [⟨b.2.2.1⟩])
def casesW (s:St6):List Part×St6 :=
 let a:=ex s
 casesL ex l 51 (Gz l a.2 6 [111,102]) [] a.1
def lab6 (x:List UInt8):List Part→List Part
 | []=>[]
 | p::r=>⟨p.kind,x,p.name,p.bind,p.many,p.num,p.t,p.u⟩::r
def rowsL6:Nat→St6→List (List UInt8)→List Part→List Part×St6
 | 0,s,_,_=>([],s)
 | f+1,s,had,body =>
  let x:=Bn l s 1 had
  let r:=ex (Gz l x.2 5 [61])
  if r.2.e≠0 then ([],r.2)
  else if is6 l r.2 5 [44]=false then (⟨10,[],[],[],(had.length:Int)+1,0,[],[]⟩::(body++lab6 x.1 r.1),Gz l r.2 5 [125])
  else rowsL6 f (Pe r.2) (had++[x.1]) (body++lab6 x.1 r.1)
def rowsW (s:St6):List Part×St6 :=
 if is6 l s 5 [125]=true then ([⟨10,[],[],[],0,0,[],[]⟩],Pe s)
 else rowsL6 ex l 51 s [] []
def injectW (s:St6):List Part×St6 :=
 let x:=Hp l s 2
 let r:=ex (Gz l x.2 5 [61])
 let t:=Cn l r.2 v
 (P4 ⟨12,[],x.1,[],0,0,t.1,[]⟩ [⟨r.1⟩],Gz l t.2 5 [93])
def parenW (s:St6):List Part×St6 :=
 if is6 l s 5 [41]=true then ([⟨0,[],[],[],0,0,[⟨4,[],0⟩],[]⟩],Pe s)
 else
  let r:=ex s
  if is6 l r.2 5 [58]=true then
   let t:=typed6 l (Pe r.2) v
   (P4 ⟨13,[],[],[],0,0,t.1,[]⟩ [⟨r.1⟩],Gz l t.2 5 [41])
  else (r.1,Gz l r.2 5 [41])
def atomW (s:St6):List Part×St6 :=
 if s.e≠0∨En l s=false then ([],Ns s 2)
 else
  let t:=tk l s.at_
  if t.kind=3 then ([⟨0,[],[],[],0,number6 t.text,[⟨1,[],0⟩],[]⟩],Pe s)
  else if t.kind=4 then ([⟨0,[],t.text,[],0,0,[⟨3,[],0⟩],[]⟩],Pe s)
  else if t.kind=6 then ([⟨0,[],[],[],0,(if t.text=[116,114,117,101] then 1 else 0),[⟨2,[],0⟩],[]⟩],Pe s)
  else if t.kind=1 then
   (if is6 l (Pe s) 5 [33]=false then ([⟨1,[],t.text,[],0,0,[],[]⟩],Pe s)
    else ([⟨1,[],t.text++[33]++(Hp l (Pe (Pe s)) 1).1,[],0,0,[],[]⟩],(Hp l (Pe (Pe s)) 1).2))
  else if t.text=[40] then parenW ex l v (Pe s)
  else if t.text=[123] then rowsW ex l (Pe s)
  else injectW ex l v (Pe s)
def partL:Nat→List Part×St6→List Part×St6
 | 0,r=>r
 | f+1,r=>if is6 l r.2 5 [46]=false then r else
  let x:=Hp l (Pe r.2) 1
  partL f (P4 ⟨11,[],x.1,[],0,0,[],[]⟩ [⟨r.1⟩],x.2)
def partW (s:St6):List Part×St6:=partL l (l.length+1) (atomW ex l v s)
def Rc:Nat→List Part×St6→List Part×St6
 | 0,r=>r
 | f+1,r=>if En l r.2=false then r else
  let x:=partW ex l v r.2
  Rc f (P4 ⟨3,[],[],[],0,0,[],[]⟩ [⟨r.1⟩,⟨x.1⟩],x.2)
def operandW (s:St6):List Part×St6:=Rc ex l v (l.length+1) (partW ex l v s)
def signAt6 (b:Int) (s:St6):Bool:=(s.e==0)&&(ltB s.at_ l.length&&((tk l s.at_).kind==5&&in6 (signs6 b) (tk l s.at_).text))
def opsL (b:Int) (sub:Rd6):Nat→List Part×St6→List Part×St6
 | 0,r=>r
 | f+1,r=>if signAt6 l b r.2=false then r else
  let x:=sub (Pe r.2)
  opsL b sub f (P4 ⟨9,[],(tk l r.2.at_).text,[],0,0,[],[]⟩ [⟨r.1⟩,⟨x.1⟩],x.2)
def opsW:Nat→Rd6
 | 0=>operandW ex l v
 | m+1=>fun s=>opsL l (4-(m:Int)) (opsW m) (l.length+1) (opsW m s)
def exprW (s:St6):List Part×St6 :=
 if s.e≠0 then ([],s)
 else if s.at_<l.length∧(tk l s.at_).kind=6 then
  (if (tk l s.at_).text=[102,117,110] then funW ex l v (Pe s)
   else if (tk l s.at_).text=[108,101,116] then letW ex l v (Pe s)
   else if (tk l s.at_).text=[114,101,99] then recW ex l v (Pe s)
   else if (tk l s.at_).text=[105,102] then condW ex l (Pe s)
   else if (tk l s.at_).text=[99,97,115,101] then casesW ex l (Pe s)
   else opsW ex l v 5 s)
 else opsW ex l v 5 s
end
def Nm (l:List Tok):Nat→Rd6
 | 0=>fun s=>([],Ns s 4)
 | d+1=>exprW (Nm l d) l (100-(d:Int))
def TokOk (t:Tok):Prop:=t.text.length≤1000000∧(t.kind=3→Figs t.text)
theorem one2_ok {s:List UInt8} (hs:s.length≤100000) {i:Nat} (hi:i<s.length) (h:(one2 s i).2=true):TokOk (one2 s i).1:=by
 unfold one2 at h ⊢
 have hw:=word2_le (s.drop i)
 rw [List.length_drop] at hw
 have hpl:(T9 s i).length=T6 (s.drop i):=by unfold T9;rw [List.length_drop,List.length_take];omega
 split at h
 ·rename_i a
  rw [if_pos a]
  have hU:=unq1_le (s:=s.drop i) (by simpa using h)
  rw [List.length_drop] at hU
  exact ⟨by show (unq1 (s.drop i)).1.length≤_;omega,fun e=>absurd e (by show ¬ (4:Int)=3;decide)⟩
 rename_i a
 rw [if_neg a]
 split at h
 ·rename_i a
  rw [if_pos a]
  exact ⟨by show (T9 s i).length≤_;omega,fun e=>absurd e (by show ¬ (2:Int)=3;decide)⟩
 rename_i a
 rw [if_neg a]
 split at h
 ·rename_i a
  rw [if_pos a]
  exact ⟨by show (T9 s i).length≤_;omega,fun e=>absurd e (by show ¬ (6:Int)=3;decide)⟩
 rename_i a
 rw [if_neg a]
 split at h
 ·rename_i a
  rw [if_pos a]
  exact ⟨by show (T9 s i).length≤_;omega,fun e=>absurd e (by show ¬ (1:Int)=3;decide)⟩
 rename_i a
 rw [if_neg a]
 split at h
 ·rename_i a
  rw [if_pos a]
  split at h
  ·rename_i b
   rw [if_pos b]
   simp only [G4] at h
   exact ⟨by show (T9 s i).length≤_;omega,fun _=>⟨by show (T9 s i).length≤18;omega,fun c hc=>List.all_eq_true.1 b c hc⟩⟩
  ·cases h
 ·rename_i a
  rw [if_neg a]
  have:=sign2_le (s:=s) (i:=i)
  exact ⟨by show (I2 s i).length≤_;omega,fun e=>absurd e (by show ¬ (5:Int)=3;decide)⟩
theorem toks2L_ok {s:List UInt8} (hs:s.length≤100000):∀ (f i:Nat) (out:List Tok),(∀ t∈out,TokOk t)→i≤s.length→out.length≤i→(∀ t∈(toks2L f s i out).1,TokOk t)∧(toks2L f s i out).1.length≤s.length+1∧((toks2L f s i out).2.2=0→1≤(toks2L f s i out).1.length)
 | 0,i,out,_,_,_=>⟨fun t ht=>(by cases ht),by simp [toks2L],fun h=>absurd h (by show ¬ (2:Int)=0;decide)⟩
 | f+1,i,out,h,hi,hl=>by
  rw [toks2L]
  split
  ·refine ⟨fun t ht=>?_,by simp only [bY,bJ,List.length_nil];omega,fun _=>by simp⟩
   rcases List.mem_append.1 ht with ht|ht
   ·exact h t ht
   ·rw [bW] at ht
    subst ht
    exact ⟨by simp,fun e=>absurd e (by show ¬ (0:Int)=3;decide)⟩
  ·rename_i hlt
   split
   ·exact ⟨fun t ht=>(by cases ht),by simp,fun h=>absurd h (by show ¬ (2:Int)=0;decide)⟩
   ·rename_i hok
    have hok':(one2 s i).2=true:=by simpa using hok
    obtain ⟨n,hn,hn1,hn2⟩:=one2_to (show i<s.length by omega) hok'
    have hb:=betw2_le (s:=s) (i:=n) hn2
    have hto:=one2_ok hs (show i<s.length by omega) hok'
    rw [hn,aX]
    refine toks2L_ok hs f _ _ (fun t ht=>?_) hb.2 (by simp only [bY,bJ,List.length_nil];omega)
    rcases List.mem_append.1 ht with ht|ht
    ·exact h t ht
    ·rw [bW] at ht
     subst ht
     exact hto
theorem toks2_ok (s:List UInt8):(∀ t∈(F9 s).1,TokOk t)∧(F9 s).1.length≤100001∧((F9 s).2.2=0→1≤(F9 s).1.length):=by
 unfold F9
 split
 ·exact ⟨fun t ht=>(by cases ht),by simp,fun h=>absurd h (by show ¬ (3:Int)=0;decide)⟩
 ·rename_i h
  have hb:=betw2_le (s:=s) (i:=0) (by omega)
  obtain ⟨h1,h2,h3⟩:=toks2L_ok (s:=s) (by omega) (s.length+1) (betw2 s 0) [] (fun t ht=>by cases ht) hb.2 (by simp)
  exact ⟨h1,by omega,h3⟩
structure Adv (l:List Tok) (m q:Int) (s r:St6):Prop where
 err:s.e≠0→r=s
 lo:0≤r.at_
 hi:r.at_≤l.length
 mono:r.e=0→s.at_≤r.at_
 room:s.e=0→(r.sites.length:Int)≤s.sites.length+(l.length-s.at_)+q
 gain:r.e=0→s.sites.length≤r.sites.length∧(r.sites.length:Int)-s.sites.length+m≤r.at_-s.at_
structure Pos (l:List Tok) (s:St6):Prop where
 lo:0≤s.at_
 hi:s.at_≤l.length
theorem Adv.pos {l:List Tok} {m q:Int} {s r:St6} (h:Adv l m q s r):Pos l r:=⟨h.lo,h.hi⟩
theorem Adv.ok0 {l:List Tok} {m q:Int} {s r:St6} (h:Adv l m q s r) (he:r.e=0):s.e=0:=Classical.byContradiction fun hn=>by
 have:=h.err hn
 rw [this] at he
 exact hn he
theorem Adv.refl {l:List Tok} {s:St6} (h:Pos l s):Adv l 0 0 s s:=⟨fun _=>rfl,h.lo,h.hi,fun _=>Int.le_refl _,fun _=>by have:=h.hi;omega,fun _=>⟨cZ _,by omega⟩⟩
theorem Adv.trans {l:List Tok} {m1 q1 m2 q2 m q:Int} {a b c:St6} (h1:Adv l m1 q1 a b) (h2:Adv l m2 q2 b c) (hm:m≤m1+m2) (hq1:q1≤q) (hq2:q2-m1≤q):Adv l m q a c:=by
 refine ⟨fun he=>?_,h2.lo,h2.hi,fun he=>?_,fun he=>?_,fun he=>?_⟩
 ·have e1:=h1.err he
  subst e1
  exact h2.err he
 ·have:=h1.mono (h2.ok0 he)
  have:=h2.mono he
  omega
 ·have hr:=h1.room he
  by_cases hb:b.e=0
  ·have h3:=h2.room hb
   have h4:=(h1.gain hb).2
   omega
  ·have:=h2.err hb
   rw [this]
   omega
 ·obtain ⟨g1,g2⟩:=h1.gain (h2.ok0 he)
  obtain ⟨g3,g4⟩:=h2.gain he
  exact ⟨by omega,by omega⟩
theorem Adv.weak {l:List Tok} {m1 q1 m q:Int} {a b:St6} (h:Adv l m1 q1 a b) (hm:m≤m1) (hq:q1≤q):Adv l m q a b :=
 ⟨h.err,h.lo,h.hi,h.mono,fun he=>by have:=h.room he;omega,fun he=>by obtain ⟨g1,g2⟩:=h.gain he;exact ⟨g1,by omega⟩⟩
theorem is6_lt {l:List Tok} {s:St6} {k:Int} {x:List UInt8} (h:is6 l s k x=true):s.e=0∧s.at_<l.length:=by
 unfold is6 at h
 simp only [bX,cQ,Hf] at h
 exact ⟨h.1,h.2.1⟩
theorem F7 {l:List Tok} {s:St6} (h:Pos l s) (k:Int) (x:List UInt8):Adv l 1 0 s (Gz l s k x):=by
 have h0:=h.lo
 have h1:=h.hi
 rcases needs6_cases l s k x with ⟨e,h2⟩|⟨e,_,h2⟩|⟨e,hi,h2⟩
 ·rw [h2];exact ⟨fun _=>rfl,h0,h1,fun he=>absurd he e,fun he=>absurd he e,fun he=>absurd he e⟩
 ·rw [h2];exact ⟨fun he=>absurd e he,h0,h1,fun he=>absurd he (by show ¬ (2:Int)=0;decide),fun _=>by show (s.sites.length:Int)≤_;omega,fun he=>absurd he (by show ¬ (2:Int)=0;decide)⟩
 ·have:=(is6_lt hi).2
  rw [h2];exact ⟨fun he=>absurd e he,by show 0≤s.at_+1;omega,by show s.at_+1≤_;omega,fun _=>by show s.at_≤s.at_+1;omega,fun _=>by show (s.sites.length:Int)≤_;omega,fun _=>⟨cZ _,by show (s.sites.length:Int)-s.sites.length+1≤s.at_+1-s.at_;omega⟩⟩
theorem adv_adv {l:List Tok} {s:St6} (h:Pos l s) (hl:s.at_<l.length):Adv l 1 0 s (Pe s)∨s.e≠0:=by
 by_cases he:s.e=0
 ·left
  have h0:=h.lo
  exact ⟨fun hn=>absurd he hn,by show 0≤s.at_+1;omega,by show s.at_+1≤_;omega,fun _=>by show s.at_≤s.at_+1;omega,fun _=>by show (s.sites.length:Int)≤_;omega,fun _=>⟨cZ _,by show (s.sites.length:Int)-s.sites.length+1≤s.at_+1-s.at_;omega⟩⟩
 ·exact .inr he
theorem Ax {l:List Tok} {s:St6} (h:Pos l s) (k:Int):Adv l 1 0 s (Hp l s k).2:=by
 have h0:=h.lo
 have h1:=h.hi
 rcases Co l s k with ⟨e,h2⟩|⟨e,_,h2⟩|⟨e,_,_,h2⟩|⟨e,hi,_,h2⟩
 ·rw [h2];exact ⟨fun _=>rfl,h0,h1,fun he=>absurd he e,fun he=>absurd he e,fun he=>absurd he e⟩
 ·rw [h2];exact ⟨fun he=>absurd e he,h0,h1,fun he=>absurd he (by show ¬ (2:Int)=0;decide),fun _=>by show (s.sites.length:Int)≤_;omega,fun he=>absurd he (by show ¬ (2:Int)=0;decide)⟩
 ·rw [h2];exact ⟨fun he=>absurd e he,h0,h1,fun he=>absurd he (by show ¬ (2:Int)=0;decide),fun _=>by show (s.sites.length:Int)≤_;omega,fun he=>absurd he (by show ¬ (2:Int)=0;decide)⟩
 ·rw [h2];exact ⟨fun he=>absurd e he,by show 0≤s.at_+1;omega,by show s.at_+1≤_;omega,fun _=>by show s.at_≤s.at_+1;omega,fun _=>by show (s.sites.length:Int)≤_;omega,fun _=>⟨cZ _,by show (s.sites.length:Int)-s.sites.length+1≤s.at_+1-s.at_;omega⟩⟩
theorem adv_label {l:List Tok} {s:St6} (h:Pos l s) (k:Int) (had:List (List UInt8)):Adv l 1 0 s (Bn l s k had).2:=by
 have hN:=Ax h k
 have h0:=h.lo
 have h1:=h.hi
 unfold Bn
 split
 ·exact hN
 rename_i he
 have hse:=hN.ok0 (by simpa using he)
 split
 ·exact ⟨fun hn=>absurd hse hn,h0,h1,fun he=>absurd he (by show ¬ (7:Int)=0;decide),fun _=>by show (s.sites.length:Int)≤_;omega,fun he=>absurd he (by show ¬ (7:Int)=0;decide)⟩
 split
 ·exact ⟨fun hn=>absurd hse hn,h0,h1,fun he=>absurd he (by show ¬ (3:Int)=0;decide),fun _=>by show (s.sites.length:Int)≤_;omega,fun he=>absurd he (by show ¬ (3:Int)=0;decide)⟩
 ·exact hN
structure Toks (l:List Tok):Prop where
 len:l.length≤100000
 ok:∀ t∈l,TokOk t
theorem Toks.long {l:List Tok} (h:Toks l):∀ t∈l,t.text.length≤9223372036854775807:=fun t ht=>Nat.le_trans (h.ok t ht).1 (by omega)
structure Noted (l:List Tok) (m q:Int) (s:St6) (r:List Node×St6):Prop where
 adv:Adv l m q s r.2
 nil:s.e≠0→r.1=[]
 len:r.1.length≤100001
 named:L3 r.1
 ok:r.2.e=0→r.1≠[]∧L4 r.1=true
 cnt:r.2.e=0→∀ z,Hz (Pi z) r.1=if (s.sites.length:Int)+1≤z∧z<(r.2.sites.length:Int)+1 then 1 else 0
theorem noted_typed {l:List Tok} (hT:Toks l) {s:St6} (h:Pos l s) {v:Int} (hv:s.e=0→1≤v∧v≤100):Noted l 0 0 s (typed6 l s v):=by
 have h0:=h.lo
 have h1:=h.hi
 have hl:=hT.len
 unfold typed6
 by_cases he:s.e=0
 case neg =>
  rw [if_pos he]
  exact ⟨⟨fun _=>rfl,h0,h1,fun e=>absurd e he,fun e=>absurd e he,fun e=>absurd e he⟩,fun _=>rfl,by simp,G3,fun e=>absurd e he,fun e=>absurd e he⟩
 rw [if_neg (by simpa using he)]
 obtain ⟨v1,v2⟩:=hv he
 obtain ⟨f1,f2,f3⟩:=read4_facts hl hT.long h0 h1 (site:=(s.sites.length:Int)+1) (by omega) v1 v2
 obtain ⟨⟨t,a,qs,bad,re⟩,hr⟩:∃ r,S9 l s.at_ ((s.sites.length:Int)+1) v=r:=⟨_,rfl⟩
 rw [hr] at f1 f2 f3 ⊢
 simp only at f1 f2 f3 ⊢
 by_cases hre:re=0
 case neg =>
  rw [if_pos hre]
  exact ⟨⟨fun e=>absurd he e,f1,f2,fun e=>absurd e hre,fun _=>by show (s.sites.length:Int)≤_;omega,fun e=>absurd e hre⟩,fun e=>absurd he e,by simp,G3,fun e=>absurd e hre,fun e=>absurd e hre⟩
 rw [if_neg (by simpa using hre)]
 obtain ⟨g1,g2,g3,g4,g5,g6,g7⟩:=f3 hre
 have hcat:((s.sites++qs).length:Int)=s.sites.length+qs.length:=by simp
 refine ⟨⟨fun e=>absurd he e,by show 0≤a;omega,g2,fun _=>by show s.at_≤a;omega,fun _=>by show ((s.sites++qs).length:Int)≤_;omega,fun _=>⟨by simp,by show ((s.sites++qs).length:Int)-s.sites.length+0≤a-s.at_;omega⟩⟩,fun e=>absurd he e,by show t.length≤_;omega,g5,fun _=>⟨fun e=>?_,g4⟩,fun _ z=>?_⟩
 ·have:=right3_pos g4
  simp only at e
  rw [e] at this
  simp at this
 ·show Hz (Pi z) t=if (s.sites.length:Int)+1≤z∧z<((s.sites++qs).length:Int)+1 then 1 else 0
  rw [g7,hcat]
  by_cases hz:(s.sites.length:Int)+1≤z∧z<(s.sites.length:Int)+1+qs.length
  ·rw [if_pos hz,if_pos (by omega)]
  ·rw [if_neg hz,if_neg (by omega)]
theorem Di {l:List Tok} (hT:Toks l) {s:St6} (h:Pos l s) {v:Int} (hv:s.e=0→1≤v∧v≤100):Noted l (-1) 1 s (Cn l s v):=by
 have h0:=h.lo
 have h1:=h.hi
 unfold Cn
 by_cases he:s.e=0
 case neg =>
  rw [if_pos he]
  exact ⟨⟨fun _=>rfl,h0,h1,fun e=>absurd e he,fun e=>absurd e he,fun e=>absurd e he⟩,fun _=>rfl,by simp,G3,fun e=>absurd e he,fun e=>absurd e he⟩
 rw [if_neg (by simpa using he)]
 cases hi:is6 l s 5 [58] with
 | true =>
  rw [if_pos rfl]
  have hlt:=(is6_lt hi).2
  rcases adv_adv h hlt with hA|hA
  ·have hN:=noted_typed hT hA.pos (v:=v) (fun _=>hv he)
   exact ⟨hA.trans hN.adv (by omega) (by omega) (by omega),fun e=>absurd he e,hN.len,hN.named,hN.ok,fun e z=>hN.cnt e z⟩
  ·exact absurd he hA
 | false =>
  rw [if_neg (by simp)]
  have hcat:∀ x:Site,((s.sites++[x]).length:Int)=s.sites.length+1:=fun x=>by simp
  refine ⟨⟨fun e=>absurd he e,h0,h1,fun _=>Int.le_refl _,fun _=>by show ((s.sites++[_]).length:Int)≤_;rw [hcat];omega,fun _=>⟨by simp,by show ((s.sites++[_]).length:Int)-s.sites.length+-1≤s.at_-s.at_;rw [hcat];omega⟩⟩,fun e=>absurd he e,by simp,O8,fun _=>⟨by simp,?_⟩,fun _ z=>?_⟩
  ·have:∀ n:Nat,L4 [⟨0,[],(n:Int)+1⟩]=true:=by
    intro n
    refine right3_rt (x:=Go.Rose.Rose.mk ⟨0,[],(n:Int)+1⟩ []) ⟨⟨rfl,trivial⟩,fun m hm=>?_,by show Go.Rose.Rose.depth _≤100;unfold Go.Rose.Rose.depth;simp [Go.Rose.Rose.depths],by rfl,rfl,by show ¬ (0:Int)=9;decide,by simp [Go.Rose.Rose.nds,Go.Rose.Rose.ndss]⟩
    simp [Go.Rose.Rose.nds,Go.Rose.Rose.ndss] at hm
    subst hm
    unfold numb3
    rw [if_pos (.inl rfl)]
    simp only [decide_eq_true_eq]
    omega
   exact this _
  ·show Hz (Pi z) [⟨0,[],(s.sites.length:Int)+1⟩]=if (s.sites.length:Int)+1≤z∧z<((s.sites++[_]).length:Int)+1 then 1 else 0
   rw [hcat]
   unfold Hz Pi
   simp only [List.map_cons,List.map_nil,List.sum_cons,List.sum_nil,true_and,Nat.add_zero]
   by_cases hq:(s.sites.length:Int)+1=z
   ·rw [if_pos hq,if_pos (by omega)]
   ·rw [if_neg hq,if_neg (by omega)]
theorem adv_bound {l:List Tok} (hT:Toks l) {s:St6} (h:Pos l s) {v:Int} (hv:s.e=0→1≤v∧v≤100):Noted l 0 0 s (Fr l s v).2:=by
 have hA:=Ax h 1
 have hN:=Di hT hA.pos (v:=v) (fun e=>hv (hA.ok0 e))
 unfold Fr
 refine ⟨hA.trans hN.adv (by omega) (by omega) (by omega),fun e=>?_,hN.len,hN.named,hN.ok,fun e z=>?_⟩
 ·refine hN.nil ?_
  rw [hA.err e]
  exact e
 ·have e1:=hN.adv.ok0 e
  have hs:(Hp l s 1).2.sites=s.sites:=by
   rcases Co l s 1 with ⟨_,h2⟩|⟨_,_,h2⟩|⟨_,_,_,h2⟩|⟨_,_,_,h2⟩<;>rw [h2]
  have:=hN.cnt e z
  rw [hs] at this
  exact this
def P6 (z:Int) (p:Part):Nat:=Hz (Pi z) p.t+Hz (Pi z) p.u
def Bj (z:Int) (e:List Part):Nat:=(e.map (P6 z)).sum
theorem partsW_append (z:Int) (a b:List Part):Bj z (a++b)=Bj z a+Bj z b:=by unfold Bj;rw [List.map_append,List.sum_append]
theorem partsW_cons (z:Int) (p:Part) (b:List Part):Bj z (p::b)=P6 z p+Bj z b:=by unfold Bj;rw [List.map_cons,List.sum_cons]
def FitR (p:Part):Prop:=(p.t.length≤100001∧L3 p.t)∧(p.u.length≤100001∧L3 p.u)∧p.label.length≤1000000∧p.name.length≤3000000∧p.bind.length≤1000000
def CntR (s r:St6) (e:List Part):Prop:=∀ z,Bj z e=if (s.sites.length:Int)+1≤z∧z<(r.sites.length:Int)+1 then 1 else 0
structure Reads (l:List Tok) (s:St6) (r:List Part×St6):Prop where
 adv:Adv l 1 0 s r.2
 nil:s.e≠0→r.1=[]
 len:(r.1.length:Int)≤2*(l.length-s.at_)+1
 ok:r.2.e=0→r.1≠[]∧(r.1.length:Int)≤2*(r.2.at_-s.at_)-1
 cnt:r.2.e=0→CntR s r.2 r.1
 fit:∀ p∈r.1,FitR p
structure Tk6 (l:List Tok) (s r:St6):Prop where
 adv:Adv l 1 0 s r
 same:r.e=0→r.sites=s.sites
theorem Mg {l:List Tok} {s:St6} (h:Pos l s) (k:Int) (x:List UInt8):Tk6 l s (Gz l s k x):=⟨F7 h k x,fun he=>by
 rcases needs6_cases l s k x with ⟨_,h2⟩|⟨_,_,h2⟩|⟨_,_,h2⟩<;>rw [h2]⟩
theorem Rb {l:List Tok} {s:St6} (h:Pos l s) (k:Int):Tk6 l s (Hp l s k).2:=⟨Ax h k,fun he=>by
 rcases Co l s k with ⟨_,h2⟩|⟨_,_,h2⟩|⟨_,_,_,h2⟩|⟨_,_,_,h2⟩<;>rw [h2]⟩
theorem tk_label {l:List Tok} {s:St6} (h:Pos l s) (k:Int) (had:List (List UInt8)):Tk6 l s (Bn l s k had).2:=⟨adv_label h k had,fun he=>by
 have hN:=(Rb h k).same
 unfold Bn at he ⊢
 split
 ·rename_i a;exact absurd (by rw [if_pos a] at he;exact he) a
 rename_i a
 split
 ·rfl
 split
 ·rfl
 ·exact hN (by simpa using a)⟩
theorem Bl {l:List Tok} (hT:Toks l) (s:St6) (k:Int):(Hp l s k).1.length≤1000000:=by
 have ht:(tk l s.at_).text.length≤1000000:=by
  unfold tk
  rw [aY]
  cases hk:l[s.at_.toNat]? with
  | none=>simp [Td]
  | some x=>exact (hT.ok x (List.mem_of_getElem? hk)).1
 rcases Co l s k with ⟨_,h2⟩|⟨_,_,h2⟩|⟨_,_,_,h2⟩|⟨_,_,_,h2⟩<;>rw [h2]
 ·simp
 ·simp
 ·simp
 ·exact ht
theorem label6_short {l:List Tok} (hT:Toks l) (s:St6) (k:Int) (had:List (List UInt8)):(Bn l s k had).1.length≤1000000:=by
 have:=Bl hT s k
 unfold Bn
 repeat' split
 all_goals exact this
theorem bound6_short {l:List Tok} (hT:Toks l) (s:St6) (v:Int):(Fr l s v).1.length≤1000000:=Bl hT s 1
structure Sq (l:List Tok) (m:Int) (s r:St6) (n:Int) (w:Int→Nat):Prop where
 adv:Adv l m 0 s r
 ok:r.e=0→n≤2*(r.at_-s.at_)
 all:n≤2*(l.length-s.at_)+1
 cnt:r.e=0→∀ z,w z=if (s.sites.length:Int)+1≤z∧z<(r.sites.length:Int)+1 then 1 else 0
theorem Sq.refl {l:List Tok} {s:St6} (h:Pos l s):Sq l 0 s s 0 (fun _=>0) :=
 ⟨Adv.refl h,fun _=>by omega,by have:=h.hi;omega,fun _ z=>by rw [if_neg (by omega)]⟩
theorem Sq.tok {l:List Tok} {m:Int} {s r q:St6} {n:Int} {w:Int→Nat} (h:Sq l m s r n w) (hm:0≤m) (hq:Tk6 l r q):Sq l (m+1) s q n w:=by
 refine ⟨h.adv.trans hq.adv (Int.le_refl _) (Int.le_refl _) (by omega),fun he=>?_,h.all,fun he z=>?_⟩
 ·have h1:=h.ok (hq.adv.ok0 he)
  have h2:=hq.adv.mono he
  omega
 ·have:=h.cnt (hq.adv.ok0 he) z
  rw [hq.same he]
  exact this
theorem Sq.note {l:List Tok} {m m2 q2:Int} {s r:St6} {n:Int} {w:Int→Nat} {t:List Node×St6} (h:Sq l m s r n w) (hq:Noted l m2 q2 r t) (hm:q2≤m) (h2:0≤m+m2):Sq l (m+m2) s t.2 n (fun z=>w z+Hz (Pi z) t.1):=by
 refine ⟨h.adv.trans hq.adv (Int.le_refl _) (Int.le_refl _) (by omega),fun he=>?_,h.all,fun he z=>?_⟩
 ·have h1:=h.ok (hq.adv.ok0 he)
  have h2:=hq.adv.mono he
  omega
 ·have e1:=h.cnt (hq.adv.ok0 he) z
  have e2:=hq.cnt he z
  have g1:=(h.adv.gain (hq.adv.ok0 he)).1
  have g2:=(hq.adv.gain he).1
  rw [e1,e2]
  exact cnt_join (by omega) (by omega)
theorem Sq.read {l:List Tok} {m:Int} {s r:St6} {n:Int} {w:Int→Nat} {t:List Part×St6} (h:Sq l m s r n w) (hm:0≤m) (hq:Reads l r t):Sq l (m+1) s t.2 (n+t.1.length) (fun z=>w z+Bj z t.1):=by
 refine ⟨h.adv.trans hq.adv (Int.le_refl _) (Int.le_refl _) (by omega),fun he=>?_,?_,fun he z=>?_⟩
 ·have h1:=h.ok (hq.adv.ok0 he)
  have h2:=(hq.ok he).2
  omega
 ·by_cases hr:r.e=0
  ·have h1:=h.ok hr
   have h2:=hq.len
   omega
  ·have h1:=hq.nil hr
   rw [h1]
   have:=h.all
   simp only [List.length_nil]
   omega
 ·have e1:=h.cnt (hq.adv.ok0 he) z
  have e2:=hq.cnt he z
  have g1:=(h.adv.gain (hq.adv.ok0 he)).1
  have g2:=(hq.adv.gain he).1
  rw [e1,e2]
  exact cnt_join (by omega) (by omega)
structure Reads0 (l:List Tok) (s:St6) (r:List Part×St6):Prop where
 adv:Adv l 0 0 s r.2
 len:(r.1.length:Int)≤2*(l.length-s.at_)+3
 ok:r.2.e=0→r.1≠[]∧(r.1.length:Int)≤2*(r.2.at_-s.at_)+1
 cnt:r.2.e=0→CntR s r.2 r.1
 fit:∀ p∈r.1,FitR p
theorem Sq.done {l:List Tok} {m:Int} {s r:St6} {n:Int} {w:Int→Nat} (h:Sq l m s r n w) (hm:0≤m) {e:List Part} (he:e≠[]) (hn:(e.length:Int)=n+1) (hw:∀ z,Bj z e=w z) (hf:∀ p∈e,FitR p):Reads0 l s (e,r):=by
 refine ⟨h.adv.weak hm (Int.le_refl _),?_,fun h0=>⟨he,?_⟩,fun h0 z=>?_,hf⟩
 ·have:=h.all
  show (e.length:Int)≤_
  omega
 ·have:=h.ok h0
  show (e.length:Int)≤2*(r.at_-s.at_)+1
  omega
 ·rw [hw]
  exact h.cnt h0 z
theorem Reads0.behind {l:List Tok} {s:St6} (hP:Pos l s) (he:s.e=0) (hl:s.at_<l.length) {r:List Part×St6} (h:Reads0 l (Pe s) r):Reads l s r:=by
 rcases adv_adv hP hl with hA|hA
 ·have e1:(Pe s).at_=s.at_+1:=rfl
  refine ⟨hA.trans h.adv (by omega) (by omega) (by omega),fun hn=>absurd he hn,?_,fun h0=>?_,fun h0 z=>?_,h.fit⟩
  ·have:=h.len
   rw [e1] at this
   omega
  ·obtain ⟨g1,g2⟩:=h.ok h0
   rw [e1] at g2
   exact ⟨g1,by omega⟩
  ·exact h.cnt h0 z
 ·exact absurd he hA
section
variable {ex:Rd6} {l:List Tok} {v:Int}
theorem Dr {k m n:Int} {a b c:List UInt8} {t u:List Node} (h1:t.length≤100001) (h2:L3 t) (h3:u.length≤100001) (h4:L3 u) (h5:a.length≤1000000) (h6:b.length≤3000000) (h7:c.length≤1000000):FitR ⟨k,a,b,c,m,n,t,u⟩:=⟨⟨h1,h2⟩,⟨h3,h4⟩,h5,h6,h7⟩
theorem Tl (z:Int) (p:Part) (es:List (Sl Part)):Bj z (P4 p es)=P6 z p+((es.map fun x=>Bj z x.l).sum):=by
 unfold P4
 rw [partsW_cons]
 congr 1
 unfold Ry
 induction es with
 | nil=>rfl
 | cons x es ih=>rw [List.flatMap_cons,partsW_append,ih];rfl
theorem Dj (p:Part) (es:List (Sl Part)):(P4 p es).length=1+((es.map fun x=>x.l.length).sum):=by
 unfold P4 Ry
 rw [bJ,List.length_flatMap]
 omega
theorem Rd {p:Part} {es:List (Sl Part)} (hp:FitR p) (h:∀ x∈es,∀ q∈x.l,FitR q):∀ q∈P4 p es,FitR q:=by
 intro q hq
 unfold P4 Ry at hq
 rcases List.mem_cons.1 hq with rfl|hq
 ·exact hp
 ·obtain ⟨x,hx,hqx⟩:=List.mem_flatMap.1 hq
  exact h x hx q hqx
theorem reads_fun (hT:Toks l) (hex:∀ s,Pos l s→Reads l s (ex s)) (h1:1≤v) (h2:v≤100) {s:St6} (h:Pos l s):Reads0 l s (funW ex l v s):=by
 have q1:=(Sq.refl h).tok (by omega) (Mg h 5 [40])
 have hb:=adv_bound hT q1.adv.pos (v:=v) fun _=>⟨h1,h2⟩
 have q2:=q1.note hb (by omega) (by omega)
 have q3:=q2.tok (by omega) (Mg q2.adv.pos 5 [41])
 have q4:=q3.tok (by omega) (Mg q3.adv.pos 5 [45,62])
 have hr:=hex _ q4.adv.pos
 have q5:=q4.read (by omega) hr
 unfold funW
 refine q5.done (by omega) (by unfold P4;simp) ?_ (fun z=>?_) (Rd (Dr hb.len hb.named (by simp) G3 (by simp) (by simp) (bound6_short hT _ _)) fun x hx q hq=>?_)
 ·rw [Dj]
  simp
  omega
 ·rw [Tl]
  unfold P6 Hz
  simp
 ·simp only [bW] at hx
  subst hx
  exact hr.fit q hq
theorem reads_let (hT:Toks l) (hex:∀ s,Pos l s→Reads l s (ex s)) (h1:1≤v) (h2:v≤100) {s:St6} (h:Pos l s):Reads0 l s (letW ex l v s):=by
 have hb:=adv_bound hT h (v:=v) fun _=>⟨h1,h2⟩
 have q2:=(Sq.refl h).note hb (by omega) (by omega)
 have q3:=q2.tok (by omega) (Mg q2.adv.pos 5 [61])
 have hr:=hex _ q3.adv.pos
 have q4:=q3.read (by omega) hr
 have q5:=q4.tok (by omega) (Mg q4.adv.pos 6 [105,110])
 have hr2:=hex _ q5.adv.pos
 have q6:=q5.read (by omega) hr2
 unfold letW
 refine q6.done (by omega) (by unfold P4;simp) ?_ (fun z=>?_) (Rd (Dr hb.len hb.named (by simp) G3 (by simp) (by simp) (bound6_short hT _ _)) fun x hx q hq=>?_)
 ·rw [Dj]
  simp
  omega
 ·rw [Tl]
  unfold P6 Hz
  simp
  omega
 ·simp only [bQ,bZ,or_false] at hx
  rcases hx with rfl|rfl
  ·exact hr.fit q hq
  ·exact hr2.fit q hq
theorem reads_rec (hT:Toks l) (hex:∀ s,Pos l s→Reads l s (ex s)) (h1:1≤v) (h2:v≤100) {s:St6} (h:Pos l s):Reads0 l s (recW ex l v s):=by
 have q0:=(Sq.refl h).tok (by omega) (Rb h 1)
 have q1:=q0.tok (by omega) (Mg q0.adv.pos 5 [40])
 have hb:=adv_bound hT q1.adv.pos (v:=v) fun _=>⟨h1,h2⟩
 have q2:=q1.note hb (by omega) (by omega)
 have q3:=q2.tok (by omega) (Mg q2.adv.pos 5 [41])
 have hu:=Di hT q3.adv.pos (v:=v) fun _=>⟨h1,h2⟩
 have q4:=q3.note hu (by omega) (by omega)
 have q5:=q4.tok (by omega) (Mg q4.adv.pos 5 [61])
 have hr:=hex _ q5.adv.pos
 have q6:=q5.read (by omega) hr
 have q7:=q6.tok (by omega) (Mg q6.adv.pos 6 [105,110])
 have hr2:=hex _ q7.adv.pos
 have q8:=q7.read (by omega) hr2
 unfold recW
 refine q8.done (by omega) (by unfold P4;simp) ?_ (fun z=>?_) (Rd (Dr hb.len hb.named hu.len hu.named (by simp) (by have:=Bl hT s 1;omega) (bound6_short hT _ _)) fun x hx q hq=>?_)
 ·rw [Dj]
  simp
  omega
 ·rw [Tl]
  unfold P6
  simp
  omega
 ·simp only [bQ,bZ,or_false] at hx
  rcases hx with rfl|rfl
  ·exact hr.fit q hq
  ·exact hr2.fit q hq
theorem reads_cond (hex:∀ s,Pos l s→Reads l s (ex s)) {s:St6} (h:Pos l s):Reads0 l s (condW ex l s):=by
 have hr:=hex _ h
 have q1:=(Sq.refl h).read (by omega) hr
 have q2:=q1.tok (by omega) (Mg q1.adv.pos 6 [116,104,101,110])
 have hr2:=hex _ q2.adv.pos
 have q3:=q2.read (by omega) hr2
 have q4:=q3.tok (by omega) (Mg q3.adv.pos 6 [101,108,115,101])
 have hr3:=hex _ q4.adv.pos
 have q5:=q4.read (by omega) hr3
 unfold condW
 refine q5.done (by omega) (by unfold P4;simp) ?_ (fun z=>?_) (Rd (Dr (by simp) G3 (by simp) G3 (by simp) (by simp) (by simp)) fun x hx q hq=>?_)
 ·rw [Dj]
  simp
  omega
 ·rw [Tl]
  unfold P6 Hz
  simp
  omega
 ·simp only [bQ,bZ,or_false] at hx
  rcases hx with rfl|rfl|rfl
  ·exact hr.fit q hq
  ·exact hr2.fit q hq
  ·exact hr3.fit q hq
end
theorem tk_adv {l:List Tok} {s:St6} (h:Pos l s) (he:s.e=0) (hl:s.at_<l.length):Tk6 l s (Pe s):=by
 rcases adv_adv h hl with hA|hA
 ·exact ⟨hA,fun _=>rfl⟩
 ·exact absurd he hA
theorem tk_is {l:List Tok} {s:St6} (h:Pos l s) {k:Int} {x:List UInt8} (hi:is6 l s k x=true):Tk6 l s (Pe s):=tk_adv h (is6_lt hi).1 (is6_lt hi).2
theorem Sq.bump {l:List Tok} {m:Int} {s r q:St6} {n:Int} {w:Int→Nat} (h:Sq l m s r n w) (hm:0≤m) (hr:r.e=0) (hq:Tk6 l r q):Sq l (m+1) s q (n+1) w:=by
 have h2:=h.tok hm hq
 refine ⟨h2.adv,fun he=>?_,?_,h2.cnt⟩
 ·have h1:=h.ok hr
  have h3:=(hq.adv.gain he).2
  have h4:=(hq.adv.gain he).1
  omega
 ·have h1:=h.ok hr
  have h3:=h.adv.hi
  omega
theorem Sq.fin {l:List Tok} {m:Int} {s r:St6} {n:Int} {w:Int→Nat} (h:Sq l m s r n w) (hm:1≤m) (h0:s.e=0) {e:List Part} (he:e≠[]) (h1:r.e=0→(e.length:Int)≤2*(r.at_-s.at_)-1) (h2:(e.length:Int)≤2*(l.length-s.at_)+1) (hw:∀ z,Bj z e=w z) (hf:∀ p∈e,FitR p):Reads l s (e,r):=by
 refine ⟨h.adv.weak hm (Int.le_refl _),fun hn=>absurd h0 hn,h2,fun hr=>⟨he,h1 hr⟩,fun hr z=>?_,hf⟩
 rw [hw]
 exact h.cnt hr z
theorem A4 {l:List Tok} {s:St6} (h:Pos l s) {e:Int} (he:e≠0):Reads l s ([],Ns s e):=by
 have e0:(Ns s e).e≠0:=by
  unfold Ns
  split
  ·exact he
  ·assumption
 have e1:(Ns s e).at_=s.at_:=by unfold Ns;split<;>rfl
 have e2:(Ns s e).sites=s.sites:=by unfold Ns;split<;>rfl
 have h0:=h.lo
 have h1:=h.hi
 refine ⟨⟨fun hn=>?_,by rw [e1];exact h0,by rw [e1];exact h1,fun hr=>absurd hr e0,fun _=>by rw [e2];omega,fun hr=>absurd hr e0⟩,fun _=>rfl,?_,fun hr=>absurd hr e0,fun hr=>absurd hr e0,fun p hp=>by cases hp⟩
 ·unfold Ns
  rw [if_neg hn]
 ·simp only [List.length_nil]
  omega
theorem reads_err {l:List Tok} {s:St6} (h:Pos l s) (he:s.e≠0):Reads l s ([],s):=by
 have:=A4 h (e:=1) (by decide)
 unfold Ns at this
 rwa [if_neg he] at this
theorem Sq.bad {l:List Tok} {m:Int} {s r:St6} {n:Int} {w:Int→Nat} (h:Sq l m s r n w) (hm:0≤m) (hP:Pos l s) (hr:r.e≠0):Reads0 l s ([],r):=by
 refine ⟨h.adv.weak hm (Int.le_refl _),?_,fun h0=>absurd h0 hr,fun h0=>absurd h0 hr,fun p hp=>by cases hp⟩
 have:=hP.hi
 simp only [List.length_nil]
 omega
section
variable {ex:Rd6} {l:List Tok} {v:Int}
theorem reads_inject (hT:Toks l) (hex:∀ s,Pos l s→Reads l s (ex s)) (h1:1≤v) (h2:v≤100) {s:St6} (h:Pos l s):Reads0 l s (injectW ex l v s):=by
 have q1:=(Sq.refl h).tok (by omega) (Rb h 2)
 have q2:=q1.tok (by omega) (Mg q1.adv.pos 5 [61])
 have hr:=hex _ q2.adv.pos
 have q3:=q2.read (by omega) hr
 have hu:=Di hT q3.adv.pos (v:=v) fun _=>⟨h1,h2⟩
 have q4:=q3.note hu (by omega) (by omega)
 have q5:=q4.tok (by omega) (Mg q4.adv.pos 5 [93])
 unfold injectW
 refine q5.done (by omega) (by unfold P4;simp) ?_ (fun z=>?_) (Rd (Dr hu.len hu.named (by simp) G3 (by simp) (by have:=Bl hT s 2;omega) (by simp)) fun x hx q hq=>?_)
 ·rw [Dj]
  simp
  omega
 ·rw [Tl]
  unfold P6
  rw [show Hz (Pi z) ([]:List Node)=0 from rfl]
  simp
  omega
 ·simp only [bW] at hx
  subst hx
  exact hr.fit q hq
theorem Sq.leaf {l:List Tok} {m:Int} {s r:St6} (h:Sq l m s r 0 fun _=>0) (hm:0≤m) {p:Part} (hp:∀ z,P6 z p=0) (hf:FitR p):Reads0 l s ([p],r):=by
 refine h.done hm (by simp) (by simp) (fun z=>?_) (fun q hq=>?_)
 ·rw [partsW_cons,hp]
  rfl
 ·rw [List.mem_singleton.1 hq]
  exact hf
theorem reads_paren (hT:Toks l) (hex:∀ s,Pos l s→Reads l s (ex s)) (h1:1≤v) (h2:v≤100) {s:St6} (h:Pos l s):Reads0 l s (parenW ex l v s):=by
 unfold parenW
 split
 ·rename_i hi
  refine ((Sq.refl h).tok (by omega) (tk_is h hi)).leaf (by omega) (fun z=>by rfl) (Dr (by simp) (fun n hn=>?_) (by simp) G3 (by simp) (by simp) (by simp))
  rw [List.mem_singleton.1 hn]
  simp
 ·have hr:=hex _ h
  have q1:=(Sq.refl h).read (by omega) hr
  dsimp only
  split
  ·rename_i hi
   have q2:=q1.tok (by omega) (tk_is q1.adv.pos hi)
   have hu:=noted_typed hT q2.adv.pos (v:=v) fun _=>⟨h1,h2⟩
   have q4:=q2.note hu (by omega) (by omega)
   have q5:=q4.tok (by omega) (Mg q4.adv.pos 5 [41])
   refine q5.done (by omega) (by unfold P4;simp) ?_ (fun z=>?_) (Rd (Dr hu.len hu.named (by simp) G3 (by simp) (by simp) (by simp)) fun x hx q hq=>?_)
   ·rw [Dj]
    simp
    omega
   ·rw [Tl]
    unfold P6
    rw [show Hz (Pi z) ([]:List Node)=0 from rfl]
    simp
    omega
   ·simp only [bW] at hx
    subst hx
    exact hr.fit q hq
  ·have q2:=q1.tok (by omega) (Mg q1.adv.pos 5 [41])
   refine ⟨q2.adv.weak (by omega) (Int.le_refl _),by have:=hr.len;show ((ex s).1.length:Int)≤_;omega,fun h0=>?_,fun h0 z=>?_,hr.fit⟩
   ·have g:=hr.ok ((Mg q1.adv.pos 5 [41]).adv.ok0 h0)
    have:=(Mg q1.adv.pos 5 [41]).adv.mono h0
    exact ⟨g.1,by have:=g.2;show ((ex s).1.length:Int)≤2*((Gz l (ex s).2 5 [41]).at_-s.at_)+1;omega⟩
   ·have:=q2.cnt h0 z
    simp only [Nat.zero_add] at this
    exact this
end
theorem label6_room {l:List Tok} {s:St6} {k:Int} {had:List (List UInt8)} (h:(Bn l s k had).2.e=0):had.length<50:=by
 rcases Nat.lt_or_ge had.length 50 with h1|h1
 ·exact h1
 ·exfalso
  unfold Bn at h
  by_cases ha:(Hp l s k).2.e=0
  ·rw [if_neg (by simpa using ha)] at h
   by_cases hb:in6 had (Hp l s k).1=true
   ·rw [if_pos hb] at h
    exact absurd h (by show ¬ (7:Int)=0;decide)
   ·rw [if_neg hb,if_pos h1] at h
    exact absurd h (by show ¬ (3:Int)=0;decide)
  ·rw [if_pos ha] at h
   exact ha h
section
variable {ex:Rd6} {l:List Tok} {v:Int}
theorem casesL_reads (hT:Toks l) (hex:∀ s,Pos l s→Reads l s (ex s)) {s0:St6} (hP:Pos l s0):∀ (f:Nat) (s:St6) (had:List (List UInt8)) (body:List Part) (m:Int) (w:Int→Nat),Sq l m s0 s body.length w→0≤m→(∀ z,Bj z body=w z)→(∀ p∈body,FitR p)→had.length≤50→had.length+f=51→Reads0 l s0 (casesL ex l f s had body)
 | 0,s,had,body,m,w,_,_,_,_,h1,h2=>by omega
 | f+1,s,had,body,m,w,hq,hm,hw,hf,h1,h2=>by
  have t1:=tk_label hq.adv.pos 2 had
  have q1:=hq.tok hm t1
  have t2:=Rb q1.adv.pos 1
  have q2:=q1.tok (by omega) t2
  have t3:=Mg q2.adv.pos 5 [45,62]
  have hr:=hex _ t3.adv.pos
  rw [casesL]
  split
  ·rename_i he
   exact ((q2.tok (by omega) t3).read (by omega) hr).bad (by omega) hP he
  rename_i he
  have he:(C2 ex l s had).2.2.2.e=0:=by simpa using he
  have he2:=t3.adv.ok0 (hr.adv.ok0 he)
  have he1:=t2.adv.ok0 he2
  have q3:=q2.bump (by omega) he2 t3
  have q4:=q3.read (by omega) hr
  have hlab:=label6_short hT s 2 had
  have hnam:=Bl hT (Bn l s 2 had).2 1
  have hfit:∀ p∈body++P4 ⟨8,(C2 ex l s had).1,[],(C2 ex l s had).2.1,0,0,[],[]⟩ [⟨(C2 ex l s had).2.2.1⟩],FitR p:=by
   intro p hp
   rcases List.mem_append.1 hp with hp|hp
   ·exact hf p hp
   ·refine Rd (Dr (by simp) G3 (by simp) G3 hlab (by simp) hnam) (fun x hx q hq=>?_) p hp
    simp only [bW] at hx
    subst hx
    exact hr.fit q hq
  have hlen:(((body++P4 ⟨8,(C2 ex l s had).1,[],(C2 ex l s had).2.1,0,0,[],[]⟩ [⟨(C2 ex l s had).2.2.1⟩]).length:Nat):Int)=body.length+1+(ex (Gz l (Hp l (Bn l s 2 had).2 1).2 5 [45,62])).1.length:=by
   rw [bY,Dj]
   unfold C2
   simp
   omega
  have hwt:∀ z,Bj z (body++P4 ⟨8,(C2 ex l s had).1,[],(C2 ex l s had).2.1,0,0,[],[]⟩ [⟨(C2 ex l s had).2.2.1⟩])=w z+Bj z (ex (Gz l (Hp l (Bn l s 2 had).2 1).2 5 [45,62])).1:=fun z=>by
   rw [partsW_append,Tl,hw]
   unfold C2 P6
   rw [show Hz (Pi z) ([]:List Node)=0 from rfl]
   simp
  rw [←hlen] at q4
  split
  ·have q5:=q4.tok (by omega) (Mg q4.adv.pos 6 [101,110,100])
   refine q5.done (by omega) (by simp) ?_ (fun z=>?_) (fun p hp=>?_)
   ·simp only [bJ]
    omega
   ·rw [partsW_cons,hwt]
    unfold P6
    rw [show Hz (Pi z) ([]:List Node)=0 from rfl]
    simp
   ·rcases List.mem_cons.1 hp with rfl|hp
    ·exact Dr (by simp) G3 (by simp) G3 (by simp) (by simp) (by simp)
    ·exact hfit p hp
  ·rename_i hi
   have hi:is6 l (C2 ex l s had).2.2.2 5 [124]=true:=by simpa using hi
   have q5:=q4.tok (by omega) (tk_is q4.adv.pos hi)
   have hh:=label6_room he1
   exact casesL_reads hT hex hP f _ _ _ _ _ q5 (by omega) hwt hfit (by simp;omega) (by simp;omega)
theorem reads_cases (hT:Toks l) (hex:∀ s,Pos l s→Reads l s (ex s)) {s:St6} (h:Pos l s):Reads0 l s (casesW ex l s):=by
 have hr:=hex _ h
 have q1:=(Sq.refl h).read (by omega) hr
 have q2:=q1.tok (by omega) (Mg q1.adv.pos 6 [111,102])
 rw [show (0:Int)+(ex s).1.length=(ex s).1.length by omega] at q2
 exact casesL_reads hT hex h 51 _ [] _ _ _ q2 (by omega) (fun z=>by simp) hr.fit (by simp) (by simp)
theorem lab_len (x:List UInt8) (e:List Part):(lab6 x e).length=e.length:=by cases e<;>rfl
theorem lab_w (x:List UInt8) (z:Int) (e:List Part):Bj z (lab6 x e)=Bj z e:=by cases e<;>rfl
theorem lab_fit {x:List UInt8} (hx:x.length≤1000000) {e:List Part} (h:∀ p∈e,FitR p):∀ p∈lab6 x e,FitR p:=by
 cases e with
 | nil=>intro p hp;cases hp
 | cons q e =>
  intro p hp
  rcases List.mem_cons.1 hp with rfl|hp
  ·have:=h q (List.mem_cons_self ..)
   exact ⟨this.1,this.2.1,hx,this.2.2.2.1,this.2.2.2.2⟩
  ·exact h p (List.mem_cons_of_mem _ hp)
theorem rowsL_reads (hT:Toks l) (hex:∀ s,Pos l s→Reads l s (ex s)) {s0:St6} (hP:Pos l s0):∀ (f:Nat) (s:St6) (had:List (List UInt8)) (body:List Part) (m:Int) (w:Int→Nat),Sq l m s0 s body.length w→0≤m→(∀ z,Bj z body=w z)→(∀ p∈body,FitR p)→had.length≤50→had.length+f=51→Reads0 l s0 (rowsL6 ex l f s had body)
 | 0,s,had,body,m,w,_,_,_,_,h1,h2=>by omega
 | f+1,s,had,body,m,w,hq,hm,hw,hf,h1,h2=>by
  have t1:=tk_label hq.adv.pos 1 had
  have q1:=hq.tok hm t1
  have t3:=Mg q1.adv.pos 5 [61]
  have q3:=q1.tok (by omega) t3
  have hr:=hex _ t3.adv.pos
  have q4:=q3.read (by omega) hr
  rw [rowsL6]
  split
  ·rename_i he
   exact q4.bad (by omega) hP he
  rename_i he
  have he:(ex (Gz l (Bn l s 1 had).2 5 [61])).2.e=0:=by simpa using he
  have he1:=t3.adv.ok0 (hr.adv.ok0 he)
  have hlab:=label6_short hT s 1 had
  have hfit:∀ p∈body++lab6 (Bn l s 1 had).1 (ex (Gz l (Bn l s 1 had).2 5 [61])).1,FitR p:=by
   intro p hp
   rcases List.mem_append.1 hp with hp|hp
   ·exact hf p hp
   ·exact lab_fit hlab hr.fit p hp
  have hlen:(((body++lab6 (Bn l s 1 had).1 (ex (Gz l (Bn l s 1 had).2 5 [61])).1).length:Nat):Int)=body.length+(ex (Gz l (Bn l s 1 had).2 5 [61])).1.length:=by
   rw [bY,lab_len]
   omega
  have hwt:∀ z,Bj z (body++lab6 (Bn l s 1 had).1 (ex (Gz l (Bn l s 1 had).2 5 [61])).1)=w z+Bj z (ex (Gz l (Bn l s 1 had).2 5 [61])).1:=fun z=>by
   rw [partsW_append,lab_w,hw]
  rw [←hlen] at q4
  split
  ·have q5:=q4.tok (by omega) (Mg q4.adv.pos 5 [125])
   refine q5.done (by omega) (by simp) ?_ (fun z=>?_) (fun p hp=>?_)
   ·simp only [bJ]
    omega
   ·rw [partsW_cons,hwt]
    unfold P6
    rw [show Hz (Pi z) ([]:List Node)=0 from rfl]
    simp
   ·rcases List.mem_cons.1 hp with rfl|hp
    ·exact Dr (by simp) G3 (by simp) G3 (by simp) (by simp) (by simp)
    ·exact hfit p hp
  ·rename_i hi
   have hi:is6 l (ex (Gz l (Bn l s 1 had).2 5 [61])).2 5 [44]=true:=by simpa using hi
   have q5:=q4.tok (by omega) (tk_is q4.adv.pos hi)
   have hh:=label6_room he1
   exact rowsL_reads hT hex hP f _ _ _ _ _ q5 (by omega) hwt hfit (by simp;omega) (by simp;omega)
theorem reads_rows (hT:Toks l) (hex:∀ s,Pos l s→Reads l s (ex s)) {s:St6} (h:Pos l s):Reads0 l s (rowsW ex l s):=by
 unfold rowsW
 split
 ·rename_i hi
  exact ((Sq.refl h).tok (by omega) (tk_is h hi)).leaf (by omega) (fun z=>by rfl) (Dr (by simp) G3 (by simp) G3 (by simp) (by simp) (by simp))
 ·exact rowsL_reads hT hex h 51 _ [] _ _ _ (Sq.refl h) (by omega) (fun z=>rfl) (fun p hp=>by cases hp) (by simp) (by simp)
end
theorem begins6_lt {l:List Tok} {s:St6} (h:En l s=true):s.e=0∧s.at_<l.length:=by
 unfold En at h
 split at h
 ·cases h
 ·rename_i a
  by_cases he:s.e=0
  ·refine ⟨he,?_⟩
   by_cases hl:s.at_<l.length
   ·exact hl
   ·exact absurd (.inr (by omega)) a
  ·exact absurd (.inl he) a
theorem signAt6_lt {l:List Tok} {b:Int} {s:St6} (h:signAt6 l b s=true):s.e=0∧s.at_<l.length:=by
 unfold signAt6 at h
 simp only [bX,cQ,Hf] at h
 exact ⟨h.1,h.2.1⟩
theorem tkText_short {l:List Tok} (hT:Toks l) (i:Int):(tk l i).text.length≤1000000:=by
 unfold tk
 rw [aY]
 cases hk:l[i.toNat]? with
 | none=>simp [Td]
 | some x=>exact (hT.ok x (List.mem_of_getElem? hk)).1
section
variable {ex:Rd6} {l:List Tok} {v:Int}
theorem reads_leaf {s:St6} (h:Pos l s) (he:s.e=0) (hl:s.at_<l.length) {p:Part} (hp:∀ z,P6 z p=0) (hf:FitR p):Reads l s ([p],Pe s) :=
 Reads0.behind h he hl ((Sq.refl (tk_adv h he hl).adv.pos).leaf (by omega) hp hf)
theorem fit_node {k m n i:Int} {c:List UInt8} (h:c.length≤3000000):FitR ⟨k,[],c,[],m,n,[⟨i,[],0⟩],[]⟩ :=
 Dr (by simp) (fun x hx=>by rw [List.mem_singleton.1 hx];simp) (by simp) G3 (by simp) h (by simp)
theorem reads_atom (hT:Toks l) (hex:∀ s,Pos l s→Reads l s (ex s)) (h1:1≤v) (h2:v≤100) {s:St6} (h:Pos l s):Reads l s (atomW ex l v s):=by
 unfold atomW
 by_cases hb:s.e≠0∨En l s=false
 ·rw [if_pos hb]
  exact A4 h (by decide)
 rw [if_neg hb]
 have hb:En l s=true:=by
  cases hx:En l s
  ·exact absurd (.inr hx) hb
  ·rfl
 obtain ⟨he,hl⟩:=begins6_lt hb
 have hP:=(tk_adv h he hl).adv.pos
 have ht:=tkText_short hT s.at_
 dsimp only
 split
 ·exact reads_leaf h he hl (fun z=>by rfl) (fit_node (by simp))
 split
 ·exact reads_leaf h he hl (fun z=>by rfl) (fit_node (by omega))
 split
 ·exact reads_leaf h he hl (fun z=>by rfl) (fit_node (by simp))
 split
 ·split
  ·exact reads_leaf h he hl (fun z=>by rfl) (Dr (by simp) G3 (by simp) G3 (by simp) (by omega) (by simp))
  ·rename_i hi
   have hi:is6 l (Pe s) 5 [33]=true:=by simpa using hi
   have q1:=(Sq.refl hP).tok (by omega) (tk_is hP hi)
   have q2:=q1.tok (by omega) (Rb q1.adv.pos 1)
   have hn:=Bl hT (Pe (Pe s)) 1
   exact Reads0.behind h he hl (q2.leaf (by omega) (fun z=>by rfl) (Dr (by simp) G3 (by simp) G3 (by simp) (by simp;omega) (by simp)))
 split
 ·exact Reads0.behind h he hl (reads_paren hT hex h1 h2 hP)
 split
 ·exact Reads0.behind h he hl (reads_rows hT hex hP)
 ·exact Reads0.behind h he hl (reads_inject hT hex h1 h2 hP)
theorem partL_reads (hT:Toks l) {s:St6}:∀ (f:Nat) (r:List Part×St6),Pos l s→Reads l s r→Reads l s (partL l f r)
 | 0,r,_,h=>h
 | f+1,r,hP,h=>by
  rw [partL]
  split
  ·exact h
  rename_i hi
  have hi:is6 l r.2 5 [46]=true:=by simpa using hi
  have he:=(is6_lt hi).1
  have hs:=h.adv.ok0 he
  have q1:=(Sq.refl hP).read (by omega) h
  have t2:=tk_is q1.adv.pos hi
  have q2:=q1.tok (by omega) t2
  have t3:=Rb q2.adv.pos 1
  have q3:=q2.tok (by omega) t3
  have hn:=Bl hT (Pe r.2) 1
  have hk:=(h.ok he).2
  have hm:=h.adv.hi
  have hl:=(is6_lt hi).2
  have ha:(Pe r.2).at_=r.2.at_+1:=rfl
  refine partL_reads hT f _ hP (q3.fin (by omega) hs (by unfold P4;simp) (fun h0=>?_) ?_ (fun z=>?_) (Rd (Dr (by simp) G3 (by simp) G3 (by simp) (by omega) (by simp)) fun x hx q hq=>?_))
  ·have:=t3.adv.mono h0
   rw [Dj]
   simp
   omega
  ·rw [Dj]
   simp
   omega
  ·rw [Tl]
   unfold P6
   rw [show Hz (Pi z) ([]:List Node)=0 from rfl]
   simp
  ·simp only [bW] at hx
   subst hx
   exact h.fit q hq
theorem reads_part (hT:Toks l) (hex:∀ s,Pos l s→Reads l s (ex s)) (h1:1≤v) (h2:v≤100) {s:St6} (h:Pos l s):Reads l s (partW ex l v s) :=
 partL_reads hT _ _ h (reads_atom hT hex h1 h2 h)
theorem reads_two {s a:St6} {r x:List Part×St6} (hP:Pos l s) (h:Reads l s r) (hs:s.e=0) (he:r.2.e=0) (hx:Reads l a x) {m:Int} (q:Sq l m s a r.1.length fun z=>Bj z r.1) (hm:0≤m) (ha:r.2.at_≤a.at_) (ha2:a.at_≤l.length) {p:Part} (hp:∀ z,P6 z p=0) (hf:FitR p):Reads l s (P4 p [⟨r.1⟩,⟨x.1⟩],x.2):=by
 have q2:=q.read hm hx
 have hk:=(h.ok he).2
 have hn:=hx.len
 refine q2.fin (by omega) hs (by unfold P4;simp) (fun h0=>?_) ?_ (fun z=>?_) (Rd hf fun y hy t ht=>?_)
 ·have:=(hx.ok h0).2
  rw [Dj]
  simp
  omega
 ·rw [Dj]
  simp
  omega
 ·rw [Tl,hp]
  simp
 ·simp only [bQ,bZ,or_false] at hy
  rcases hy with rfl|rfl
  ·exact h.fit t ht
  ·exact hx.fit t ht
theorem operandL_reads (hT:Toks l) (hex:∀ s,Pos l s→Reads l s (ex s)) (h1:1≤v) (h2:v≤100) {s:St6}:∀ (f:Nat) (r:List Part×St6),Pos l s→Reads l s r→Reads l s (Rc ex l v f r)
 | 0,r,_,h=>h
 | f+1,r,hP,h=>by
  rw [Rc]
  split
  ·exact h
  rename_i hi
  obtain ⟨he,hl⟩:=begins6_lt (by simpa using hi:En l r.2=true)
  have hs:=h.adv.ok0 he
  have q1:=(Sq.refl hP).read (by omega) h
  simp only [Int.zero_add,Nat.zero_add] at q1
  exact operandL_reads hT hex h1 h2 f _ hP (reads_two hP h hs he (reads_part hT hex h1 h2 q1.adv.pos) q1 (by omega) (Int.le_refl _) (by omega) (fun z=>by rfl) (Dr (by simp) G3 (by simp) G3 (by simp) (by simp) (by simp)))
theorem reads_operand (hT:Toks l) (hex:∀ s,Pos l s→Reads l s (ex s)) (h1:1≤v) (h2:v≤100) {s:St6} (h:Pos l s):Reads l s (operandW ex l v s) :=
 operandL_reads hT hex h1 h2 _ _ h (reads_part hT hex h1 h2 h)
theorem opsL_reads (hT:Toks l) {b:Int} {sub:Rd6} (hsub:∀ s,Pos l s→Reads l s (sub s)) {s:St6}:∀ (f:Nat) (r:List Part×St6),Pos l s→Reads l s r→Reads l s (opsL l b sub f r)
 | 0,r,_,h=>h
 | f+1,r,hP,h=>by
  rw [opsL]
  split
  ·exact h
  rename_i hi
  obtain ⟨he,hl⟩:=signAt6_lt (by simpa using hi:signAt6 l b r.2=true)
  have hs:=h.adv.ok0 he
  have q1:=(Sq.refl hP).read (by omega) h
  simp only [Int.zero_add,Nat.zero_add] at q1
  have t2:=tk_adv q1.adv.pos he hl
  have q2:=q1.tok (by omega) t2
  have ha:(Pe r.2).at_=r.2.at_+1:=rfl
  have hn:=tkText_short hT r.2.at_
  exact opsL_reads hT hsub f _ hP (reads_two hP h hs he (hsub _ q2.adv.pos) q2 (by omega) (by omega) (by omega) (fun z=>by rfl) (Dr (by simp) G3 (by simp) G3 (by simp) (by omega) (by simp)))
theorem reads_ops (hT:Toks l) (hex:∀ s,Pos l s→Reads l s (ex s)) (h1:1≤v) (h2:v≤100):∀ (m:Nat) (s:St6),Pos l s→Reads l s (opsW ex l v m s)
 | 0,s,h=>reads_operand hT hex h1 h2 h
 | m+1,s,h=>opsL_reads hT (reads_ops hT hex h1 h2 m) _ _ h (reads_ops hT hex h1 h2 m s h)
theorem reads_expr (hT:Toks l) (hex:∀ s,Pos l s→Reads l s (ex s)) (h1:1≤v) (h2:v≤100) {s:St6} (h:Pos l s):Reads l s (exprW ex l v s):=by
 unfold exprW
 by_cases he:s.e=0
 ·rw [if_neg (by simpa using he)]
  split
  ·rename_i hk
   have hP:=(tk_adv h he hk.1).adv.pos
   split
   ·exact Reads0.behind h he hk.1 (reads_fun hT hex h1 h2 hP)
   split
   ·exact Reads0.behind h he hk.1 (reads_let hT hex h1 h2 hP)
   split
   ·exact Reads0.behind h he hk.1 (reads_rec hT hex h1 h2 hP)
   split
   ·exact Reads0.behind h he hk.1 (reads_cond hex hP)
   split
   ·exact Reads0.behind h he hk.1 (reads_cases hT hex hP)
   ·exact reads_ops hT hex h1 h2 5 s h
  ·exact reads_ops hT hex h1 h2 5 s h
 ·rw [if_pos he]
  exact reads_err h he
end
theorem Ho {l:List Tok} (hT:Toks l):∀ (d:Nat),d≤100→∀ (s:St6),Pos l s→Reads l s (Nm l d s)
 | 0,_,s,h=>A4 h (by decide)
 | d+1,hd,s,h=>reads_expr hT (Ho hT d (by omega)) (by omega) (by omega) h
structure St6In (l:List Tok) (s:St6):Prop where
 toks:Toks l
 pos:Pos l s
 all:s.sites.length≤850000
 ok:s.e=0→(s.sites.length:Int)≤700000+s.at_
theorem St6In.go {l:List Tok} {s r:St6} (h:St6In l s) {m q:Int} (hA:Adv l m q s r) (hm:0≤m) (hq:q≤1):St6In l r:=by
 have hl:=h.toks.len
 refine ⟨h.toks,hA.pos,?_,fun he=>?_⟩
 ·by_cases he:s.e=0
  ·have:=hA.room he
   have:=h.ok he
   omega
  ·rw [hA.err he]
   exact h.all
 ·have hs:=hA.ok0 he
  have:=h.ok hs
  have:=(hA.gain he).2
  omega
theorem St6In.ok6 {l:List Tok} {s:St6} (h:St6In l s):St6Ok l s :=
 ⟨h.toks.len,h.pos.lo,h.pos.hi,by have:=h.all;omega,fun t ht=>(h.toks.ok t ht).1,fun t ht=>(h.toks.ok t ht).2⟩
theorem St6In.nums {l:List Tok} {s:St6} (h:St6In l s):l.length≤1000000∧0≤s.at_∧s.at_≤2000000:=by
 have h1:=h.toks.len
 have h2:=h.pos.lo
 have h3:=h.pos.hi
 exact ⟨by omega,h2,by omega⟩
theorem St6In.needs {l:List Tok} {s:St6} (h:St6In l s) (k:Int) (x:List UInt8):St6In l (Gz l s k x):=h.go (F7 h.pos k x) (by omega) (by omega)
theorem St6In.named {l:List Tok} {s:St6} (h:St6In l s) (k:Int):St6In l (Hp l s k).2:=h.go (Ax h.pos k) (by omega) (by omega)
theorem St6In.label {l:List Tok} {s:St6} (h:St6In l s) (k:Int) (had:List (List UInt8)):St6In l (Bn l s k had).2:=h.go (adv_label h.pos k had) (by omega) (by omega)
theorem St6In.expr {l:List Tok} {s:St6} (h:St6In l s) {d:Nat} (hd:d≤100):St6In l (Nm l d s).2:=h.go (Ho h.toks d hd s h.pos).adv (by omega) (by omega)
theorem St6In.adv {l:List Tok} {s:St6} (h:St6In l s) (he:s.e=0) (hl:s.at_<l.length):St6In l (Pe s):=h.go (tk_adv h.pos he hl).adv (by omega) (by omega)
theorem St6In.is {l:List Tok} {s:St6} (h:St6In l s) {k:Int} {x:List UInt8} (hi:is6 l s k x=true):St6In l (Pe s):=h.adv (is6_lt hi).1 (is6_lt hi).2
theorem N3 {l:List Tok} {s:St6} {r:List Part×St6} (h:St6In l s) (hR:Reads l s r):r.1.length≤300000:=by
 have h1:=hR.len
 have h2:=h.toks.len
 have h3:=h.pos.lo
 omega
def Gi (n:Nat):Con:=Gj (fun (l:Sl Tok) (s:St6) (v:Int)=>St6In l.l s∧1≤v∧v≤101∧20*(101-v)+12<n) (fun l s v=>Nm l.l (101-v).toNat s)
theorem nK:type_of% @Gi.eq_def:=@Gi.eq_def
def Bv (n:Nat):Con:=Gj (fun (l:Sl Tok) (s:St6) (v:Int)=>St6In l.l s∧1≤v∧v≤100∧20*(101-v)+5<n) (fun l s v=>funW (Nm l.l (100-v).toNat) l.l v s)
def Bt (n:Nat):Con:=Gj (fun (l:Sl Tok) (s:St6) (v:Int)=>St6In l.l s∧1≤v∧v≤100∧20*(101-v)+5<n) (fun l s v=>letW (Nm l.l (100-v).toNat) l.l v s)
def Bs (n:Nat):Con:=Gj (fun (l:Sl Tok) (s:St6) (v:Int)=>St6In l.l s∧1≤v∧v≤100∧20*(101-v)+5<n) (fun l s v=>recW (Nm l.l (100-v).toNat) l.l v s)
def Pk (n:Nat):Con:=Gj (fun (l:Sl Tok) (s:St6) (v:Int)=>St6In l.l s∧1≤v∧v≤100∧20*(101-v)+5<n) (fun l s v=>condW (Nm l.l (100-v).toNat) l.l s)
def Mo (n:Nat):Con:=Gj (fun (l:Sl Tok) (s:St6) (v:Int)=>St6In l.l s∧1≤v∧v≤100∧20*(101-v)+5<n) (fun l s v=>casesW (Nm l.l (100-v).toNat) l.l s)
def N6 (n:Nat):Con:=Gj (fun (l:Sl Tok) (s:St6) (v:Int)=>St6In l.l s∧1≤v∧v≤100∧20*(101-v)+5<n) (fun l s v=>operandW (Nm l.l (100-v).toNat) l.l v s)
def Tg (n:Nat):Con:=Gj (fun (l:Sl Tok) (s:St6) (v:Int)=>St6In l.l s∧1≤v∧v≤100∧20*(101-v)+4<n) (fun l s v=>partW (Nm l.l (100-v).toNat) l.l v s)
def Mk (n:Nat):Con:=Gj (fun (l:Sl Tok) (s:St6) (v:Int)=>St6In l.l s∧1≤v∧v≤100∧20*(101-v)+3<n) (fun l s v=>atomW (Nm l.l (100-v).toNat) l.l v s)
def Nu (n:Nat):Con:=Gj (fun (l:Sl Tok) (s:St6) (v:Int)=>St6In l.l s∧2≤v∧v≤101∧20*(101-v)+13<n) (fun l s v=>parenW (Nm l.l (101-v).toNat) l.l (v-1) s)
def Mv (n:Nat):Con:=Gj (fun (l:Sl Tok) (s:St6) (v:Int)=>St6In l.l s∧2≤v∧v≤101∧20*(101-v)+13<n) (fun l s v=>rowsW (Nm l.l (101-v).toNat) l.l s)
def Nq (n:Nat):Con:=Gj (fun (l:Sl Tok) (s:St6) (v:Int)=>St6In l.l s∧2≤v∧v≤101∧20*(101-v)+13<n) (fun l s v=>injectW (Nm l.l (101-v).toNat) l.l (v-1) s)
def N9 (n:Nat):Con:=Da (fun (l:Sl Tok) (s:St6) (v b:Int)=>St6In l.l s∧1≤v∧v≤100∧0≤b∧b≤5∧20*(101-v)+(11-b)<n) (fun l s v b=>opsW (Nm l.l (100-v).toNat) l.l v (5-b).toNat s)
structure IH6 (n:Nat):Prop where
 expr:Hg Try.prog (47,Gi n)
 fun_:Hg Try.prog (61,Bv n)
 let_:Hg Try.prog (62,Bt n)
 rec_:Hg Try.prog (63,Bs n)
 cond:Hg Try.prog (64,Pk n)
 cases:Hg Try.prog (65,Mo n)
 operand:Hg Try.prog (77,N6 n)
 part:Hg Try.prog (84,Tg n)
 atom:Hg Try.prog (92,Mk n)
 paren:Hg Try.prog (97,Nu n)
 rows:Hg Try.prog (98,Mv n)
 inject:Hg Try.prog (99,Nq n)
 ops:Hg Try.prog (66,N9 n)
theorem con_expr6_zero:∀ c,¬ (Gi 0).pre c:=by
 intro c h
 unfold Gi at h
 obtain ⟨_,_,_,_,_,_,_,h⟩:=N1 h
 omega
theorem con_fun6_zero:∀ c,¬ (Bv 0).pre c:=by
 intro c h
 unfold Bv at h
 obtain ⟨_,_,_,_,_,_,_,h⟩:=N1 h
 omega
theorem con_let6_zero:∀ c,¬ (Bt 0).pre c:=by
 intro c h
 unfold Bt at h
 obtain ⟨_,_,_,_,_,_,_,h⟩:=N1 h
 omega
theorem con_rec6_zero:∀ c,¬ (Bs 0).pre c:=by
 intro c h
 unfold Bs at h
 obtain ⟨_,_,_,_,_,_,_,h⟩:=N1 h
 omega
theorem con_cond6_zero:∀ c,¬ (Pk 0).pre c:=by
 intro c h
 unfold Pk at h
 obtain ⟨_,_,_,_,_,_,_,h⟩:=N1 h
 omega
theorem con_cases6_zero:∀ c,¬ (Mo 0).pre c:=by
 intro c h
 unfold Mo at h
 obtain ⟨_,_,_,_,_,_,_,h⟩:=N1 h
 omega
theorem con_operand6_zero:∀ c,¬ (N6 0).pre c:=by
 intro c h
 unfold N6 at h
 obtain ⟨_,_,_,_,_,_,_,h⟩:=N1 h
 omega
theorem con_part6_zero:∀ c,¬ (Tg 0).pre c:=by
 intro c h
 unfold Tg at h
 obtain ⟨_,_,_,_,_,_,_,h⟩:=N1 h
 omega
theorem con_atom6_zero:∀ c,¬ (Mk 0).pre c:=by
 intro c h
 unfold Mk at h
 obtain ⟨_,_,_,_,_,_,_,h⟩:=N1 h
 omega
theorem con_paren6_zero:∀ c,¬ (Nu 0).pre c:=by
 intro c h
 unfold Nu at h
 obtain ⟨_,_,_,_,_,_,_,h⟩:=N1 h
 omega
theorem con_rows6_zero:∀ c,¬ (Mv 0).pre c:=by
 intro c h
 unfold Mv at h
 obtain ⟨_,_,_,_,_,_,_,h⟩:=N1 h
 omega
theorem con_inject6_zero:∀ c,¬ (Nq 0).pre c:=by
 intro c h
 unfold Nq at h
 obtain ⟨_,_,_,_,_,_,_,h⟩:=N1 h
 omega
theorem con_ops6_zero:∀ c,¬ (N9 0).pre c:=by
 intro c h
 unfold N9 at h
 obtain ⟨_,_,_,_,_,_,_,_,_,_,h⟩:=cn4o_pre h
 omega
theorem H0 {a:Int} {b c d:List UInt8} {e f:Int} {g:List Node}:isE Part (.agg [.int .i64 a,.str b,.str c,.str d,.int .i64 e,.int .i64 f,.list 3 (g.map enc),.list 3 []])=True:=eq_true (Cp (Part.mk a b c d e f g []))
theorem H1 {a:Int} {b c d:List UInt8} {e f:Int} {g:List Node}:(dec (.agg [.int .i64 a,.str b,.str c,.str d,.int .i64 e,.int .i64 f,.list 3 (g.map enc),.list 3 []]):Part)=⟨a,b,c,d,e,f,g,[]⟩:=Enc.dec_enc (Part.mk a b c d e f g [])
theorem H8 {a:Int} {b c d:List UInt8} {e f:Int}:isE Part (.agg [.int .i64 a,.str b,.str c,.str d,.int .i64 e,.int .i64 f,.list 3 [],.list 3 []])=True:=eq_true (Cp (Part.mk a b c d e f [] []))
theorem Na {a:Int} {b c d:List UInt8} {e f:Int}:(dec (.agg [.int .i64 a,.str b,.str c,.str d,.int .i64 e,.int .i64 f,.list 3 [],.list 3 []]):Part)=⟨a,b,c,d,e,f,[],[]⟩:=Enc.dec_enc (Part.mk a b c d e f [] [])
theorem H7 {a:Int} {b c d:List UInt8} {e f:Int} {g:List Node}:isE Part (.agg [.int .i64 a,.str b,.str c,.str d,.int .i64 e,.int .i64 f,enc (Sl.mk g),.list 3 []])=True:=H0
theorem H9 {a:Int} {b c d:List UInt8} {e f:Int} {g:List Node}:(dec (.agg [.int .i64 a,.str b,.str c,.str d,.int .i64 e,.int .i64 f,enc (Sl.mk g),.list 3 []]):Part)=⟨a,b,c,d,e,f,g,[]⟩:=H1
theorem Hq {a:Int} {b c d:List UInt8} {e f:Int} {g h:List Node}:isE Part (.agg [.int .i64 a,.str b,.str c,.str d,.int .i64 e,.int .i64 f,enc (Sl.mk g),enc (Sl.mk h)])=True:=Un
theorem Hr {a:Int} {b c d:List UInt8} {e f:Int} {g h:List Node}:(dec (.agg [.int .i64 a,.str b,.str c,.str d,.int .i64 e,.int .i64 f,enc (Sl.mk g),enc (Sl.mk h)]):Part)=⟨a,b,c,d,e,f,g,h⟩:=Uo
noncomputable def ctx_fun6 (n:Nat):Ctx:=⟨tab,lkC [(32,Gk),(73,Lj),(74,Gs),(47,(Gi n))],60,lkB [],[],false⟩
theorem ctx_fun6_t (n:Nat):(ctx_fun6 n).τ=tab:=rfl
theorem ctx_fun6_c (n:Nat):(ctx_fun6 n).Γ=lkC [(32,Gk),(73,Lj),(74,Gs),(47,(Gi n))]:=rfl
theorem ctx_fun6_d (n:Nat):(ctx_fun6 n).dp=60:=rfl
theorem ctx_fun6_b (n:Nat):(ctx_fun6 n).Δ=lkB []:=rfl
theorem ctx_fun6_w (n:Nat):(ctx_fun6 n).wr=false:=rfl
set_option maxRecDepth 100000 in
theorem stepi_fun6 (n:Nat) (ih:IH6 n):Hg Try.prog (61,(Bv (n+1))):=by
 refine ⟨Ke Try.func61 (by kernel_rfl) rfl,?_⟩
 have K:Gu Try.prog (ctx_fun6 n):=Ko G7 Kw (by
  intro p hp
  simp only [bQ,bZ,or_false] at hp
  rcases hp with rfl|rfl|rfl|rfl
  ·exact Cq
  ·exact good_bound6
  ·exact Tu
  ·exact ih.expr) (by simp)
 obtain ⟨c,hc⟩:∃ c,Try.f61.body=some c:=⟨_,rfl⟩
 refine Kn K Try.func61 hc [.tmp 6,.cell 7 71] rfl 43 rfl (fun cvs hpre=>?_)
 change (Bv (n+1)).pre cvs at hpre
 unfold Bv at hpre
 obtain ⟨⟨l⟩,s,v,rfl,hS,hv1,hv2,hn⟩:=N1 hpre
 simp only at hS
 clear hpre
 obtain ⟨d,hd⟩:∃ d:Nat,v=100-d:=⟨(100-v).toNat,by omega⟩
 subst hd
 have hd2:(100-(100-(d:Int))).toNat=d:=by omega
 have hd3:(101-(100-(d:Int)+1)).toNat=d:=by omega
 have hd4:d≤100:=by omega
 have hT:=hS.toks
 obtain ⟨R,hR⟩:∃ R,funW (Nm l d) l (100-(d:Int)) s=R:=⟨_,rfl⟩
 have hR2:=hR
 unfold funW at hR2
 have k1:=hS.needs 5 [40]
 have hb:=adv_bound hT k1.pos (v:=100-(d:Int)) fun _=>⟨hv1,hv2⟩
 have k2:=k1.go hb.adv (by omega) (by omega)
 have k3:=k2.needs 5 [41]
 have k4:=k3.needs 5 [45,62]
 have hx:=N3 k4 (Ho hT d hd4 _ k4.pos)
 have k5:=k4.expr hd4
 obtain ⟨⟨i1,ss1,e1⟩,h1⟩:∃ q,Gz l s 5 [40]=q:=⟨_,rfl⟩
 rw [h1] at hR2 k1 k2 k3 k4 hx k5
 obtain ⟨⟨x,t,⟨i2,ss2,e2⟩⟩,h2⟩:∃ q,Fr l ⟨i1,ss1,e1⟩ (100-(d:Int))=q:=⟨_,rfl⟩
 rw [h2] at hR2 k2 k3 k4 hx k5
 simp only at hR2 k2 k3 k4 hx k5
 obtain ⟨⟨i3,ss3,e3⟩,h3⟩:∃ q,Gz l ⟨i2,ss2,e2⟩ 5 [41]=q:=⟨_,rfl⟩
 rw [h3] at hR2 k3 k4 hx k5
 obtain ⟨⟨i4,ss4,e4⟩,h4⟩:∃ q,Gz l ⟨i3,ss3,e3⟩ 5 [45,62]=q:=⟨_,rfl⟩
 rw [h4] at hR2 k4 hx k5
 obtain ⟨⟨E,⟨i5,ss5,e5⟩⟩,h5⟩:∃ q,Nm l d ⟨i4,ss4,e4⟩=q:=⟨_,rfl⟩
 rw [h5] at hR2 hx k5
 simp only at hR2 hx k5
 obtain ⟨M,hM⟩:∃ q,P4 ⟨2,[],[],x,0,0,t,[]⟩ [⟨E⟩]=q:=⟨_,rfl⟩
 rw [hM] at hR2
 obtain ⟨i0,ss0,e0⟩:=s
 have o0:=hS.nums
 have o2:=k2.nums
 have o3:=k3.nums
 have o1:=k1.ok6
 simp only at o0 o2 o3
 have hmk:∀ y∈([⟨E⟩]:List (Sl Part)),y.l.length≤1000000:=by
  intro y hy
  rw [List.mem_singleton.1 hy]
  show E.length≤_
  omega
 subst hR2
 simp only [Try.f61,aZ] at hc
 subst hc
 refine Gf 2 (of_decide_eq_true (by kernel_rfl)) ?_
 (sym=>simp [hd2,hd3,h1,h2,h3,h4,h5,hM,hR,lQ,lX,lK,cn3tt.eq_def,H7,H9,Hq,Hr,H0,H1,H8,Na,Uz,U3,U4,Um,Un,Uo,Up,szP,Ur,Ut,Uv,Us,szN,Uu,ctx_fun6_t,ctx_fun6_c,ctx_fun6_d,ctx_fun6_b,ctx_fun6_w,Lj.eq_def,nK,Bv.eq_def,oZ,nW,Zb,Zc,Ze,Zf,Zh,Zi,Zj,Zk,Zl,Zm,Zn,Zo,Zp,Zq,Zr,Zu,Zv,Zw,Z1,Z2,Qa,Qb,Qd,Qf,Qg,Qh,Qi,Qj,Qm,Qn,Qp,Qq,Qr,Qs,Qt,Qu,Qv,Qw,Qx,Qy,Qz,Q0,Q1,Q2,Q3,Q4,Q5,Q6,Q7,Q8,Q9,Ja,Jb,Jc,Jd,Je,Jj,Jq,Jr,Js,Jt,Ju,Jv,Jw,Jx,Jy,Jz,J0,J1,J2,J4,J5,J6,J7,Xa,Xb,Xf,Xj,Xk,Xl,Xq,Xr,Xs,Xt,Xu,Xv,Xw,Xx,Xy,X0,X1,X2,X3,X4,X5,X6,X7,X8,X9,Wb,Wc,Wd,Wf,Wg,Wh,Wi,Wj,Wl,Wm,Wn,Wo,Wp,Wt,Wx,W2,W4,W5,W6,Yc,Ye,Yh,Yn,Yo,Yp,Yq,Yr,Ys,Yt,Yu,Yv,Yw,Yx,Yy,Yz,Y0,Y1,Y2,Y3,Y4,Y9,Va,Vi,Vj,Vl,Vm,Vn,Vo,Vr,Vt,Vv,Vz,V0,V1,V2,V3,V4,V5,V6,V8,Ue,Uf,Ui,Uj,U5,Gp,Gd,K2,G5,Ku,B9];tactic =>
  try simp only [Uq] at *;try simp only [nc2] at *
  try simp (maxSteps:=4000000) only [hd2,hd3,h1,h2,h3,h4,h5,hM,hR,lQ,lX,lK,cn3tt.eq_def,H7,H9,Hq,Hr,H0,H1,H8,Na,Uz,U3,U4,Um,Un,Uo,Up,szP,Ur,Ut,Uv,Us,szN,Uu,U6]
  repeat' first|with_reducible assumption|with_reducible apply And.intro|intro _|omega|(rw [Uk];omega)
  all_goals first|with_reducible exact okq|omega|exact k4|exact o1|rfl|trivial|skip)
noncomputable def ctx_let6 (n:Nat):Ctx:=⟨tab,lkC [(32,Gk),(75,Bu),(73,Lj),(74,Gs),(47,(Gi n))],60,lkB [],[],false⟩
theorem ctx_let6_t (n:Nat):(ctx_let6 n).τ=tab:=rfl
theorem ctx_let6_c (n:Nat):(ctx_let6 n).Γ=lkC [(32,Gk),(75,Bu),(73,Lj),(74,Gs),(47,(Gi n))]:=rfl
theorem ctx_let6_d (n:Nat):(ctx_let6 n).dp=60:=rfl
theorem ctx_let6_b (n:Nat):(ctx_let6 n).Δ=lkB []:=rfl
theorem ctx_let6_w (n:Nat):(ctx_let6 n).wr=false:=rfl
set_option maxRecDepth 100000 in
theorem stepi_let6 (n:Nat) (ih:IH6 n):Hg Try.prog (62,(Bt (n+1))):=by
 refine ⟨Ke Try.func62 (by kernel_rfl) rfl,?_⟩
 have K:Gu Try.prog (ctx_let6 n):=Ko G7 Kw (by
  intro p hp
  simp only [bQ,bZ,or_false] at hp
  rcases hp with rfl|rfl|rfl|rfl|rfl
  ·exact Cq
  ·exact good_key6
  ·exact good_bound6
  ·exact Tu
  ·exact ih.expr) (by simp)
 obtain ⟨c,hc⟩:∃ c,Try.f62.body=some c:=⟨_,rfl⟩
 refine Kn K Try.func62 hc [.tmp 6,.cell 7 71] rfl 50 rfl (fun cvs hpre=>?_)
 change (Bt (n+1)).pre cvs at hpre
 unfold Bt at hpre
 obtain ⟨⟨l⟩,s,v,rfl,hS,hv1,hv2,hn⟩:=N1 hpre
 simp only at hS
 clear hpre
 obtain ⟨d,hd⟩:∃ d:Nat,v=100-d:=⟨(100-v).toNat,by omega⟩
 subst hd
 have hd2:(100-(100-(d:Int))).toNat=d:=by omega
 have hd3:(101-(100-(d:Int)+1)).toNat=d:=by omega
 have hd4:d≤100:=by omega
 have hT:=hS.toks
 obtain ⟨R,hR⟩:∃ R,letW (Nm l d) l (100-(d:Int)) s=R:=⟨_,rfl⟩
 have hR2:=hR
 unfold letW at hR2
 have hb:=adv_bound hT hS.pos (v:=100-(d:Int)) fun _=>⟨hv1,hv2⟩
 have k2:=hS.go hb.adv (by omega) (by omega)
 have k3:=k2.needs 5 [61]
 have hx:=N3 k3 (Ho hT d hd4 _ k3.pos)
 have k4:=k3.expr hd4
 have k5:=k4.needs 6 [105,110]
 have hx2:=N3 k5 (Ho hT d hd4 _ k5.pos)
 have k6:=k5.expr hd4
 obtain ⟨⟨x,t,⟨i2,ss2,e2⟩⟩,h2⟩:∃ q,Fr l s (100-(d:Int))=q:=⟨_,rfl⟩
 rw [h2] at hR2 k2 k3 hx k4 k5 hx2 k6
 simp only at hR2 k2 k3 hx k4 k5 hx2 k6
 obtain ⟨⟨i3,ss3,e3⟩,h3⟩:∃ q,Gz l ⟨i2,ss2,e2⟩ 5 [61]=q:=⟨_,rfl⟩
 rw [h3] at hR2 k3 hx k4 k5 hx2 k6
 obtain ⟨⟨A,⟨i4,ss4,e4⟩⟩,h4⟩:∃ q,Nm l d ⟨i3,ss3,e3⟩=q:=⟨_,rfl⟩
 rw [h4] at hR2 hx k4 k5 hx2 k6
 simp only at hR2 hx k4 k5 hx2 k6
 obtain ⟨⟨i5,ss5,e5⟩,h5⟩:∃ q,Gz l ⟨i4,ss4,e4⟩ 6 [105,110]=q:=⟨_,rfl⟩
 rw [h5] at hR2 k5 hx2 k6
 obtain ⟨⟨B,⟨i6,ss6,e6⟩⟩,h6⟩:∃ q,Nm l d ⟨i5,ss5,e5⟩=q:=⟨_,rfl⟩
 rw [h6] at hR2 hx2 k6
 simp only at hR2 hx2 k6
 obtain ⟨M,hM⟩:∃ q,P4 ⟨4,[],[],x,0,0,t,[]⟩ [⟨A⟩,⟨B⟩]=q:=⟨_,rfl⟩
 rw [hM] at hR2
 obtain ⟨i0,ss0,e0⟩:=s
 have o0:=hS.ok6
 have o2:=k2.nums
 have o4:=k4.nums
 simp only at o2 o4
 have ha1:A.length≤1000000:=by omega
 have hb1:B.length≤1000000:=by omega
 subst hR2
 simp only [Try.f62,aZ] at hc
 subst hc
 refine Gf 3 (of_decide_eq_true (by kernel_rfl)) ?_
 (sym=>simp [hd2,hd3,h2,h3,h4,h5,h6,hM,hR,lQ,lX,lK,cn3tt.eq_def,H7,H9,Hq,Hr,H0,H1,H8,Na,Uz,U3,U4,Um,Un,Uo,Up,szP,Ur,Ut,Uv,Us,szN,Uu,ctx_let6_t,ctx_let6_c,ctx_let6_d,ctx_let6_b,ctx_let6_w,Lj.eq_def,nK,Bu.eq_def,Bt.eq_def,oZ,nW,Zb,Zc,Ze,Zf,Zh,Zi,Zj,Zk,Zl,Zm,Zn,Zo,Zp,Zq,Zr,Zu,Zv,Zw,Z1,Z2,Qa,Qb,Qd,Qf,Qg,Qh,Qi,Qj,Qm,Qn,Qp,Qq,Qr,Qs,Qt,Qu,Qv,Qw,Qx,Qy,Qz,Q0,Q1,Q2,Q3,Q4,Q5,Q6,Q7,Q8,Q9,Ja,Jb,Jc,Jd,Je,Jj,Jq,Jr,Js,Jt,Ju,Jv,Jw,Jx,Jy,Jz,J0,J1,J2,J4,J5,J6,J7,Xa,Xb,Xf,Xj,Xk,Xl,Xq,Xr,Xs,Xt,Xu,Xv,Xw,Xx,Xy,X0,X1,X2,X3,X4,X5,X6,X7,X8,X9,Wb,Wc,Wd,Wf,Wg,Wh,Wi,Wj,Wl,Wm,Wn,Wo,Wp,Wt,Wx,W2,W4,W5,W6,Yc,Ye,Yh,Yn,Yo,Yp,Yq,Yr,Ys,Yt,Yu,Yv,Yw,Yx,Yy,Yz,Y0,Y1,Y2,Y3,Y4,Y9,Va,Vi,Vj,Vl,Vm,Vn,Vo,Vr,Vt,Vv,Vz,V0,V1,V2,V3,V4,V5,V6,V8,Ue,Uf,Ui,Uj,U5,Gp,Gd,K2,G5,Ku,B9];tactic =>
  try simp only [Uq] at *;try simp only [nc2] at *
  try simp (maxSteps:=4000000) only [hd2,hd3,h2,h3,h4,h5,h6,hM,hR,lQ,lX,lK,cn3tt.eq_def,H7,H9,Hq,Hr,H0,H1,H8,Na,Uz,U3,U4,Um,Un,Uo,Up,szP,Ur,Ut,Uv,Us,szN,Uu,U6]
  repeat' first|with_reducible assumption|with_reducible apply And.intro|intro _|omega|(rw [Uk];omega)
  all_goals first|with_reducible exact okq|omega|exact k3|exact k5|exact o0|rfl|trivial|skip)
noncomputable def ctx_cond6 (n:Nat):Ctx:=⟨tab,lkC [(75,Bu),(74,Gs),(47,(Gi n))],60,lkB [],[],false⟩
theorem ctx_cond6_t (n:Nat):(ctx_cond6 n).τ=tab:=rfl
theorem ctx_cond6_c (n:Nat):(ctx_cond6 n).Γ=lkC [(75,Bu),(74,Gs),(47,(Gi n))]:=rfl
theorem ctx_cond6_d (n:Nat):(ctx_cond6 n).dp=60:=rfl
theorem ctx_cond6_b (n:Nat):(ctx_cond6 n).Δ=lkB []:=rfl
theorem ctx_cond6_w (n:Nat):(ctx_cond6 n).wr=false:=rfl
set_option maxRecDepth 100000 in
theorem stepi_cond6 (n:Nat) (ih:IH6 n):Hg Try.prog (64,(Pk (n+1))):=by
 refine ⟨Ke Try.func64 (by kernel_rfl) rfl,?_⟩
 have K:Gu Try.prog (ctx_cond6 n):=Ko G7 Kw (by
  intro p hp
  simp only [bQ,bZ,or_false] at hp
  rcases hp with rfl|rfl|rfl
  ·exact good_key6
  ·exact Tu
  ·exact ih.expr) (by simp)
 obtain ⟨c,hc⟩:∃ c,Try.f64.body=some c:=⟨_,rfl⟩
 refine Kn K Try.func64 hc [.tmp 6,.cell 7 71] rfl 48 rfl (fun cvs hpre=>?_)
 change (Pk (n+1)).pre cvs at hpre
 unfold Pk at hpre
 obtain ⟨⟨l⟩,s,v,rfl,hS,hv1,hv2,hn⟩:=N1 hpre
 simp only at hS
 clear hpre
 obtain ⟨d,hd⟩:∃ d:Nat,v=100-d:=⟨(100-v).toNat,by omega⟩
 subst hd
 have hd2:(100-(100-(d:Int))).toNat=d:=by omega
 have hd3:(101-(100-(d:Int)+1)).toNat=d:=by omega
 have hd4:d≤100:=by omega
 have hT:=hS.toks
 obtain ⟨R,hR⟩:∃ R,condW (Nm l d) l s=R:=⟨_,rfl⟩
 have hR2:=hR
 unfold condW at hR2
 have hx:=N3 hS (Ho hT d hd4 _ hS.pos)
 have k2:=hS.expr hd4
 have k3:=k2.needs 6 [116,104,101,110]
 have hx2:=N3 k3 (Ho hT d hd4 _ k3.pos)
 have k4:=k3.expr hd4
 have k5:=k4.needs 6 [101,108,115,101]
 have hx3:=N3 k5 (Ho hT d hd4 _ k5.pos)
 have k6:=k5.expr hd4
 obtain ⟨⟨A,⟨i2,ss2,e2⟩⟩,h2⟩:∃ q,Nm l d s=q:=⟨_,rfl⟩
 rw [h2] at hR2 hx k2 k3 hx2 k4 k5 hx3 k6
 simp only at hR2 hx k2 k3 hx2 k4 k5 hx3 k6
 obtain ⟨⟨i3,ss3,e3⟩,h3⟩:∃ q,Gz l ⟨i2,ss2,e2⟩ 6 [116,104,101,110]=q:=⟨_,rfl⟩
 rw [h3] at hR2 k3 hx2 k4 k5 hx3 k6
 obtain ⟨⟨B,⟨i4,ss4,e4⟩⟩,h4⟩:∃ q,Nm l d ⟨i3,ss3,e3⟩=q:=⟨_,rfl⟩
 rw [h4] at hR2 hx2 k4 k5 hx3 k6
 simp only at hR2 hx2 k4 k5 hx3 k6
 obtain ⟨⟨i5,ss5,e5⟩,h5⟩:∃ q,Gz l ⟨i4,ss4,e4⟩ 6 [101,108,115,101]=q:=⟨_,rfl⟩
 rw [h5] at hR2 k5 hx3 k6
 obtain ⟨⟨D,⟨i6,ss6,e6⟩⟩,h6⟩:∃ q,Nm l d ⟨i5,ss5,e5⟩=q:=⟨_,rfl⟩
 rw [h6] at hR2 hx3 k6
 simp only at hR2 hx3 k6
 obtain ⟨M,hM⟩:∃ q,P4 ⟨6,[],[],[],0,0,[],[]⟩ [⟨A⟩,⟨B⟩,⟨D⟩]=q:=⟨_,rfl⟩
 rw [hM] at hR2
 obtain ⟨i0,ss0,e0⟩:=s
 have o2:=k2.nums
 have o4:=k4.nums
 simp only at o2 o4
 have ha1:A.length≤1000000:=by omega
 have hb1:B.length≤1000000:=by omega
 have hc1:D.length≤1000000:=by omega
 subst hR2
 simp only [Try.f64,aZ] at hc
 subst hc
 refine Gf 3 (of_decide_eq_true (by kernel_rfl)) ?_
 (sym=>simp [hd2,hd3,h2,h3,h4,h5,h6,hM,hR,lQ,lX,lK,H7,H9,Hq,Hr,H0,H1,H8,Na,Uz,U3,U4,Um,Un,Uo,Up,szP,Ur,Ut,Uv,Us,szN,Uu,ctx_cond6_t,ctx_cond6_c,ctx_cond6_d,ctx_cond6_b,ctx_cond6_w,Pk.eq_def,nK,Bu.eq_def,oZ,Zb,Zc,Ze,Zf,Zh,Zi,Zj,Zk,Zl,Zm,Zn,Zo,Zp,Zq,Zr,Zu,Zv,Zw,Z1,Z2,Qa,Qb,Qd,Qf,Qg,Qh,Qi,Qj,Qm,Qn,Qp,Qq,Qr,Qs,Qt,Qu,Qv,Qw,Qx,Qy,Qz,Q0,Q1,Q2,Q3,Q4,Q5,Q6,Q7,Q8,Q9,Ja,Jb,Jc,Jd,Je,Jj,Jq,Jr,Js,Jt,Jv,Jw,Jy,Jz,J0,J1,J2,J4,J5,J6,J7,Xa,Xb,Xf,Xj,Xk,Xl,Xq,Xr,Xs,Xt,Xu,Xv,Xw,Xx,Xy,X0,X1,X2,X3,X4,X5,X6,X7,X8,X9,Wb,Wc,Wd,Wf,Wg,Wh,Wi,Wj,Wl,Wm,Wo,Wp,Wt,Wx,W2,W5,W6,Yc,Yn,Yo,Yp,Yq,Yr,Ys,Yt,Yu,Yv,Yw,Yx,Yy,Yz,Y0,Y1,Y2,Y3,Y4,Y9,Va,Vi,Vj,Vl,Vm,Vn,Vo,Vr,Vz,V0,V1,V2,V3,V4,V5,V6,V8,Ue,Uf,Ui,Uj,U5,Gp,Gd,K2,G5,Ku,B9];tactic =>
  try simp only [Uq] at *;try simp only [nc2] at *
  try simp (maxSteps:=4000000) only [hd2,hd3,h2,h3,h4,h5,h6,hM,hR,lQ,lX,lK,H7,H9,Hq,Hr,H0,H1,H8,Na,Uz,U3,U4,Um,Un,Uo,Up,szP,Ur,Ut,Uv,Us,szN,Uu,U6]
  repeat' first|with_reducible assumption|with_reducible apply And.intro|intro _|omega|(rw [Uk];omega)
  all_goals first|with_reducible exact okq|omega|exact hS|exact k3|exact k5|rfl|trivial|skip)
theorem needs6_at {l:List Tok} {s:St6} (h:Pos l s) (k:Int) (x:List UInt8):(Gz l s k x).e=0→1≤(Gz l s k x).at_:=fun he=>by
 have h1:=(F7 h k x).gain he
 have h2:=h.lo
 omega
noncomputable def ctx_rec6 (n:Nat):Ctx:=⟨tab,lkC [(29,Kv),(32,Gk),(75,Bu),(73,Lj),(46,Ma),(74,Gs),(47,(Gi n))],60,lkB [],[],false⟩
theorem ctx_rec6_t (n:Nat):(ctx_rec6 n).τ=tab:=rfl
theorem ctx_rec6_c (n:Nat):(ctx_rec6 n).Γ=lkC [(29,Kv),(32,Gk),(75,Bu),(73,Lj),(46,Ma),(74,Gs),(47,(Gi n))]:=rfl
theorem ctx_rec6_d (n:Nat):(ctx_rec6 n).dp=60:=rfl
theorem ctx_rec6_b (n:Nat):(ctx_rec6 n).Δ=lkB []:=rfl
theorem ctx_rec6_w (n:Nat):(ctx_rec6 n).wr=false:=rfl
set_option maxRecDepth 100000 in
theorem stepi_rec6 (n:Nat) (ih:IH6 n):Hg Try.prog (63,(Bs (n+1))):=by
 refine ⟨Ke Try.func63 (by kernel_rfl) rfl,?_⟩
 have K:Gu Try.prog (ctx_rec6 n):=Ko G7 Kw (by
  intro p hp
  simp only [bQ,bZ,or_false] at hp
  rcases hp with rfl|rfl|rfl|rfl|rfl|rfl|rfl
  ·exact Tn
  ·exact Cq
  ·exact good_key6
  ·exact good_bound6
  ·exact good_noted6
  ·exact Tu
  ·exact ih.expr) (by simp)
 obtain ⟨c,hc⟩:∃ c,Try.f63.body=some c:=⟨_,rfl⟩
 refine Kn K Try.func63 hc [.tmp 6,.cell 7 71] rfl 73 rfl (fun cvs hpre=>?_)
 change (Bs (n+1)).pre cvs at hpre
 unfold Bs at hpre
 obtain ⟨⟨l⟩,s,v,rfl,hS,hv1,hv2,hn⟩:=N1 hpre
 simp only at hS
 clear hpre
 obtain ⟨d,hd⟩:∃ d:Nat,v=100-d:=⟨(100-v).toNat,by omega⟩
 subst hd
 have hd2:(100-(100-(d:Int))).toNat=d:=by omega
 have hd3:(101-(100-(d:Int)+1)).toNat=d:=by omega
 have hd4:d≤100:=by omega
 have hT:=hS.toks
 obtain ⟨R,hR⟩:∃ R,recW (Nm l d) l (100-(d:Int)) s=R:=⟨_,rfl⟩
 have hR2:=hR
 unfold recW at hR2
 have m1:=hS.named 1
 have m2:=m1.needs 5 [40]
 have hb:=adv_bound hT m2.pos (v:=100-(d:Int)) fun _=>⟨hv1,hv2⟩
 have m3:=m2.go hb.adv (by omega) (by omega)
 have m4:=m3.needs 5 [41]
 have hat:=needs6_at m3.pos 5 [41]
 have hu:=Di hT m4.pos (v:=100-(d:Int)) fun _=>⟨hv1,hv2⟩
 have m5:St6In l (Cn l (Gz l (Fr l (Gz l (Hp l s 1).2 5 [40]) (100-(d:Int))).2.2 5 [41]) (100-(d:Int))).2 :=
  m3.go ((F7 m3.pos 5 [41]).trans hu.adv (m:=0) (q:=0) (by omega) (by omega) (by omega)) (by omega) (by omega)
 have k3:=m5.needs 5 [61]
 have hx:=N3 k3 (Ho hT d hd4 _ k3.pos)
 have k4:=k3.expr hd4
 have k5:=k4.needs 6 [105,110]
 have hx2:=N3 k5 (Ho hT d hd4 _ k5.pos)
 have k6:=k5.expr hd4
 obtain ⟨⟨f,⟨a1,as1,ae1⟩⟩,g1⟩:∃ q,Hp l s 1=q:=⟨_,rfl⟩
 rw [g1] at hR2 m1 m2 m3 m4 hat m5 k3 hx k4 k5 hx2 k6
 simp only at hR2 m1 m2 m3 m4 hat m5 k3 hx k4 k5 hx2 k6
 obtain ⟨⟨a2,as2,ae2⟩,g2⟩:∃ q,Gz l ⟨a1,as1,ae1⟩ 5 [40]=q:=⟨_,rfl⟩
 rw [g2] at hR2 m2 m3 m4 hat m5 k3 hx k4 k5 hx2 k6
 obtain ⟨⟨x,t,⟨a3,as3,ae3⟩⟩,g3⟩:∃ q,Fr l ⟨a2,as2,ae2⟩ (100-(d:Int))=q:=⟨_,rfl⟩
 rw [g3] at hR2 m3 m4 hat m5 k3 hx k4 k5 hx2 k6
 simp only at hR2 m3 m4 hat m5 k3 hx k4 k5 hx2 k6
 obtain ⟨⟨a4,as4,ae4⟩,g4⟩:∃ q,Gz l ⟨a3,as3,ae3⟩ 5 [41]=q:=⟨_,rfl⟩
 rw [g4] at hR2 m4 hat m5 k3 hx k4 k5 hx2 k6
 simp only at hat
 obtain ⟨⟨u,⟨i2,ss2,e2⟩⟩,h2⟩:∃ q,Cn l ⟨a4,as4,ae4⟩ (100-(d:Int))=q:=⟨_,rfl⟩
 rw [h2] at hR2 m5 k3 hx k4 k5 hx2 k6
 simp only at hR2 m5 k3 hx k4 k5 hx2 k6
 obtain ⟨⟨i3,ss3,e3⟩,h3⟩:∃ q,Gz l ⟨i2,ss2,e2⟩ 5 [61]=q:=⟨_,rfl⟩
 rw [h3] at hR2 k3 hx k4 k5 hx2 k6
 obtain ⟨⟨A,⟨i4,ss4,e4⟩⟩,h4⟩:∃ q,Nm l d ⟨i3,ss3,e3⟩=q:=⟨_,rfl⟩
 rw [h4] at hR2 hx k4 k5 hx2 k6
 simp only at hR2 hx k4 k5 hx2 k6
 obtain ⟨⟨i5,ss5,e5⟩,h5⟩:∃ q,Gz l ⟨i4,ss4,e4⟩ 6 [105,110]=q:=⟨_,rfl⟩
 rw [h5] at hR2 k5 hx2 k6
 obtain ⟨⟨B,⟨i6,ss6,e6⟩⟩,h6⟩:∃ q,Nm l d ⟨i5,ss5,e5⟩=q:=⟨_,rfl⟩
 rw [h6] at hR2 hx2 k6
 simp only at hR2 hx2 k6
 obtain ⟨M,hM⟩:∃ q,P4 ⟨5,[],f,x,0,0,t,u⟩ [⟨A⟩,⟨B⟩]=q:=⟨_,rfl⟩
 rw [hM] at hR2
 obtain ⟨i0,ss0,e0⟩:=s
 have o0:=hS.nums
 have o1:=m1.nums
 have o2:=m2.ok6
 have o3:=m3.nums
 have o4:=m4.ok6
 have o5:=m5.nums
 have o6:=k4.nums
 simp only at o0 o1 o3 o5 o6
 have hat2:ae4=0→1≤a4∧1≤100-(d:Int)∧100-(d:Int)≤100:=fun h=>⟨hat h,hv1,hv2⟩
 have ha1:A.length≤1000000:=by omega
 have hb1:B.length≤1000000:=by omega
 clear hb hu
 subst hR2
 simp only [Try.f63,aZ] at hc
 subst hc
 refine Gf 4 (of_decide_eq_true (by kernel_rfl)) ?_
 (sym=>simp [hd2,hd3,g1,g2,g3,g4,h2,h3,h4,h5,h6,hM,hR,lQ,lX,lK,cn3tt.eq_def,H7,H9,Hq,Hr,H0,H1,H8,Na,Uz,U3,U4,Um,Un,Uo,Up,szP,Ur,Ut,Uv,Us,szN,Uu,ctx_rec6_t,ctx_rec6_c,ctx_rec6_d,ctx_rec6_b,ctx_rec6_w,Lj.eq_def,nK,Bu.eq_def,oZ,mW,Ma.eq_def,Bs.eq_def,nW,Zb,Zc,Ze,Zf,Zh,Zi,Zj,Zk,Zl,Zm,Zn,Zo,Zp,Zq,Zr,Zu,Zv,Zw,Z1,Z2,Qa,Qb,Qd,Qf,Qg,Qh,Qi,Qj,Qm,Qn,Qp,Qq,Qr,Qs,Qt,Qu,Qv,Qw,Qx,Qy,Qz,Q0,Q1,Q2,Q3,Q4,Q5,Q6,Q7,Q8,Q9,Ja,Jb,Jc,Jd,Je,Jj,Jq,Jr,Js,Jt,Ju,Jv,Jw,Jx,Jy,Jz,J0,J1,J2,J4,J6,J7,Xa,Xb,Xf,Xj,Xk,Xl,Xq,Xr,Xs,Xt,Xu,Xv,Xw,Xx,Xy,X0,X1,X2,X3,X4,X5,X6,X7,X8,X9,Wb,Wc,Wd,Wf,Wg,Wh,Wi,Wj,Wl,Wm,Wn,Wo,Wp,Wt,Wx,W2,W4,W5,W6,Yc,Ye,Yh,Yn,Yo,Yp,Yq,Yr,Ys,Yt,Yu,Yv,Yw,Yx,Yy,Yz,Y0,Y1,Y2,Y3,Y4,Y9,Va,Vi,Vj,Vl,Vm,Vn,Vo,Vr,Vt,Vv,Vz,V0,V1,V2,V3,V4,V5,V6,V8,Ui,Uj,U5,Gp,Gd,K2,G5,Ku,B9];tactic =>
  try simp only [Uq] at *;try simp only [nc2] at *
  try simp (maxSteps:=4000000) only [hd2,hd3,g1,g2,g3,g4,h2,h3,h4,h5,h6,hM,hR,lQ,lX,lK,cn3tt.eq_def,H7,H9,Hq,Hr,H0,H1,H8,Na,Uz,U3,U4,Um,Un,Uo,Up,szP,Ur,Ut,Uv,Us,szN,Uu,U6]
  repeat' first|with_reducible assumption|with_reducible apply And.intro|intro _|omega|(rw [Uk];omega)
  all_goals first|with_reducible exact okq|omega|exact k3|exact k5|exact o2|exact o4|exact hat2|rfl|trivial|skip)
end Go.Am.Ty
