/- Contracts of functions that the law reaches, and plain laws. Conditions: those that each contract states. -/
import Derived.Test.YtilpfkjhahnfaaaK4
set_option maxHeartbeats 4000000
set_option linter.unusedVariables false
set_option linter.unusedSimpArgs false
namespace Go.Am.Ty
open Go.Proofs
open Enc (enc dec)
theorem expr6_at {l:List Tok} {s:St6} (h:St6In l s) {d:Nat} (hd:d≤100):(Nm l d s).2.e=0→1≤(Nm l d s).2.at_:=fun he=>by
 have h1:=(Ho h.toks d hd s h.pos).adv.gain he
 have h2:=h.pos.lo
 omega
noncomputable def Fy (n:Nat):Ctx:=⟨tab,lkC [(29,Kv),(32,Gk),(46,Ma),(74,Gs),(47,(Gi n))],60,lkB [],[],false⟩
theorem ctx_inject6_t (n:Nat):(Fy n).τ=tab:=rfl
theorem ctx_inject6_c (n:Nat):(Fy n).Γ=lkC [(29,Kv),(32,Gk),(46,Ma),(74,Gs),(47,(Gi n))]:=rfl
theorem ctx_inject6_d (n:Nat):(Fy n).dp=60:=rfl
theorem ctx_inject6_b (n:Nat):(Fy n).Δ=lkB []:=rfl
theorem ctx_inject6_w (n:Nat):(Fy n).wr=false:=rfl
set_option maxRecDepth 100000 in
theorem stepi_inject6 (n:Nat) (ih:IH6 n):Hg Try.prog (99,(Nq (n+1))):=by
 refine ⟨Ke Try.func99 (by kernel_rfl) rfl,?_⟩
 have K:Gu Try.prog (Fy n):=Ko G7 Kw (by
  intro p hp
  simp only [bQ,bZ,or_false] at hp
  rcases hp with rfl|rfl|rfl|rfl|rfl
  ·exact Tn
  ·exact Cq
  ·exact good_noted6
  ·exact Tu
  ·exact ih.expr) (by simp)
 obtain ⟨c,hc⟩:∃ c,Try.f99.body=some c:=⟨_,rfl⟩
 refine Kn K Try.func99 hc [.tmp 6,.cell 7 71] rfl 47 rfl (fun cvs hpre=>?_)
 change (Nq (n+1)).pre cvs at hpre
 unfold Nq at hpre
 obtain ⟨⟨l⟩,s,v,rfl,hS,hv1,hv2,hn⟩:=N1 hpre
 simp only at hS
 clear hpre
 obtain ⟨d,hd⟩:∃ d:Nat,v=101-d:=⟨(101-v).toNat,by omega⟩
 subst hd
 have hd2:(101-(101-(d:Int))).toNat=d:=by omega
 have hd4:d≤100:=by omega
 have hT:=hS.toks
 obtain ⟨R,hR⟩:∃ R,injectW (Nm l d) l (101-(d:Int)-1) s=R:=⟨_,rfl⟩
 have hR2:=hR
 unfold injectW at hR2
 have m1:=hS.named 2
 have m2:=m1.needs 5 [61]
 have hx:=N3 m2 (Ho hT d hd4 _ m2.pos)
 have hq:=(Ho hT d hd4 _ m2.pos).adv
 have m3:=m2.expr hd4
 have hat:=expr6_at m2 hd4
 have hu:=Di hT m3.pos (v:=101-(d:Int)-1) fun _=>⟨by omega,by omega⟩
 have m4:=m2.go (hq.trans hu.adv (m:=0) (q:=0) (by omega) (by omega) (by omega)) (by omega) (by omega)
 obtain ⟨⟨f,⟨a1,as1,ae1⟩⟩,g1⟩:∃ q,Hp l s 2=q:=⟨_,rfl⟩
 rw [g1] at hR2 m1 m2 hx m3 hat m4
 simp only at hR2 m1 m2 hx m3 hat m4
 obtain ⟨⟨a2,as2,ae2⟩,g2⟩:∃ q,Gz l ⟨a1,as1,ae1⟩ 5 [61]=q:=⟨_,rfl⟩
 rw [g2] at hR2 m2 hx m3 hat m4
 obtain ⟨⟨A,⟨a3,as3,ae3⟩⟩,g3⟩:∃ q,Nm l d ⟨a2,as2,ae2⟩=q:=⟨_,rfl⟩
 rw [g3] at hR2 hx m3 hat m4
 simp only at hR2 hx m3 hat m4
 obtain ⟨⟨u,⟨i2,ss2,e2⟩⟩,h2⟩:∃ q,Cn l ⟨a3,as3,ae3⟩ (101-(d:Int)-1)=q:=⟨_,rfl⟩
 rw [h2] at hR2 m4
 simp only at hR2 m4
 obtain ⟨⟨i3,ss3,e3⟩,h3⟩:∃ q,Gz l ⟨i2,ss2,e2⟩ 5 [93]=q:=⟨_,rfl⟩
 rw [h3] at hR2
 obtain ⟨M,hM⟩:∃ q,P4 ⟨12,[],f,[],0,0,u,[]⟩ [⟨A⟩]=q:=⟨_,rfl⟩
 rw [hM] at hR2
 obtain ⟨i0,ss0,e0⟩:=s
 have o0:=hS.nums
 have o1:=m1.nums
 have o3:=m3.ok6
 have o5:=m4.nums
 simp only at o0 o1 o5
 have hat2:ae3=0→1≤a3∧1≤101-(d:Int)-1∧101-(d:Int)-1≤100:=fun h=>⟨hat h,by omega,by omega⟩
 have ha1:A.length≤1000000:=by omega
 clear hu hq
 subst hR2
 simp only [Try.f99,aZ] at hc
 subst hc
 refine Gf 2 (of_decide_eq_true (by kernel_rfl)) ?_
 (sym=>simp [hd2,g1,g2,g3,h2,h3,hM,hR,lQ,lX,lK,H7,H9,Hq,Hr,H0,H1,H8,Na,Uz,U3,U4,Um,Un,Uo,Up,szP,Ur,Ut,Uv,Us,szN,Uu,ctx_inject6_t,ctx_inject6_c,ctx_inject6_d,ctx_inject6_b,ctx_inject6_w,nK,Nq.eq_def,oZ,mW,Ma.eq_def,nW,Zb,Zc,Ze,Zf,Zh,Zi,Zj,Zk,Zl,Zm,Zn,Zo,Zp,Zq,Zr,Zu,Zv,Zw,Z1,Z2,Qa,Qb,Qd,Qf,Qg,Qh,Qi,Qj,Qm,Qn,Qp,Qq,Qr,Qs,Qt,Qu,Qv,Qw,Qx,Qy,Qz,Q0,Q1,Q2,Q3,Q4,Q5,Q6,Q7,Q8,Q9,Ja,Jb,Jc,Jd,Je,Jj,Jq,Jr,Js,Jt,Ju,Jv,Jw,Jx,Jy,Jz,J0,J1,J2,J4,J5,J6,J7,Xa,Xb,Xf,Xj,Xk,Xl,Xq,Xr,Xs,Xt,Xu,Xv,Xw,Xx,Xy,X0,X1,X2,X3,X4,X5,X6,X7,X8,X9,Wb,Wc,Wd,Wf,Wg,Wh,Wi,Wj,Wl,Wm,Wn,Wo,Wp,Wt,Wx,W2,W4,W5,W6,Yc,Ye,Yh,Yn,Yo,Yp,Yq,Yr,Ys,Yt,Yu,Yv,Yw,Yx,Yy,Yz,Y0,Y1,Y2,Y3,Y4,Y9,Va,Vi,Vj,Vl,Vm,Vn,Vo,Vr,Vt,Vv,Vz,V0,V1,V2,V3,V4,V5,V6,V8,Ue,Uf,Ui,Uj,U5,Gp,Gd,K2,G5,Ku,B9];tactic =>
  try simp only [Uq] at *;try simp only [nc2] at *
  try simp (maxSteps:=4000000) only [hd2,g1,g2,g3,h2,h3,hM,hR,lQ,lX,lK,H7,H9,Hq,Hr,H0,H1,H8,Na,Uz,U3,U4,Um,Un,Uo,Up,szP,Ur,Ut,Uv,Us,szN,Uu,U6]
  repeat' first|with_reducible assumption|with_reducible apply And.intro|intro _|omega|(rw [Uk];omega)
  all_goals first|with_reducible exact okq|omega|exact m2|exact o3|exact hat2|rfl|trivial|skip)
noncomputable def Ae (n:Nat):Ctx:=⟨tab,lkC [(28,Gy),(32,Gk),(60,Po),(74,Gs),(47,(Gi n))],60,lkB [],[],false⟩
theorem ctx_paren6_t (n:Nat):(Ae n).τ=tab:=rfl
theorem ctx_paren6_c (n:Nat):(Ae n).Γ=lkC [(28,Gy),(32,Gk),(60,Po),(74,Gs),(47,(Gi n))]:=rfl
theorem ctx_paren6_d (n:Nat):(Ae n).dp=60:=rfl
theorem ctx_paren6_b (n:Nat):(Ae n).Δ=lkB []:=rfl
theorem ctx_paren6_w (n:Nat):(Ae n).wr=false:=rfl
set_option maxRecDepth 100000 in
theorem stepi_paren6 (n:Nat) (ih:IH6 n):Hg Try.prog (97,(Nu (n+1))):=by
 refine ⟨Ke Try.func97 (by kernel_rfl) rfl,?_⟩
 have K:Gu Try.prog (Ae n):=Ko G7 Kw (by
  intro p hp
  simp only [bQ,bZ,or_false] at hp
  rcases hp with rfl|rfl|rfl|rfl|rfl
  ·exact Ib
  ·exact Cq
  ·exact good_typed6
  ·exact Tu
  ·exact ih.expr) (by simp)
 obtain ⟨c,hc⟩:∃ c,Try.f97.body=some c:=⟨_,rfl⟩
 refine Kn K Try.func97 hc [.tmp 6,.cell 7 71] rfl 58 rfl (fun cvs hpre=>?_)
 change (Nu (n+1)).pre cvs at hpre
 unfold Nu at hpre
 obtain ⟨⟨l⟩,s,v,rfl,hS,hv1,hv2,hn⟩:=N1 hpre
 simp only at hS
 clear hpre
 obtain ⟨d,hd⟩:∃ d:Nat,v=101-d:=⟨(101-v).toNat,by omega⟩
 subst hd
 have hd2:(101-(101-(d:Int))).toNat=d:=by omega
 have hd4:d≤100:=by omega
 have hT:=hS.toks
 obtain ⟨R,hR⟩:∃ R,parenW (Nm l d) l (101-(d:Int)-1) s=R:=⟨_,rfl⟩
 have hR2:=hR
 unfold parenW at hR2
 have hx:=N3 hS (Ho hT d hd4 _ hS.pos)
 have m3:=hS.expr hd4
 obtain ⟨⟨A,⟨a3,as3,ae3⟩⟩,g3⟩:∃ q,Nm l d s=q:=⟨_,rfl⟩
 rw [g3] at hR2 hx m3
 simp only at hR2 hx m3
 obtain ⟨i0,ss0,e0⟩:=s
 have o0:=hS.nums
 have o3:=m3.nums
 simp only at o0 o3
 have ha1:A.length≤1000000:=by omega
 simp only [Try.f97,aZ] at hc
 subst hc
 refine Gf 3 (of_decide_eq_true (by kernel_rfl)) ?_
 cases h41:is6 l ⟨i0,ss0,e0⟩ 5 [41] with
 | true =>
  rw [h41,if_pos rfl] at hR2
  have hadv:Pe ⟨i0,ss0,e0⟩=⟨i0+1,ss0,e0⟩:=rfl
  rw [hadv] at hR2
  subst hR2
  (sym=>simp [hd2,h41,hR,lQ,lX,lK,lZ,H7,H9,Hq,Hr,H0,H1,H8,Na,Uz,U3,U4,Um,Un,Uo,Up,szP,Ur,Ut,Uv,Us,szN,Uu,ctx_paren6_t,ctx_paren6_c,ctx_paren6_d,ctx_paren6_b,ctx_paren6_w,nK,mJ,oZ,Nu.eq_def,nW,Po.eq_def,Zb,Zc,Ze,Zf,Zh,Zi,Zj,Zk,Zl,Zm,Zn,Zo,Zp,Zq,Zr,Zs,Zu,Zv,Zw,Zx,Z1,Z2,Qb,Qd,Qf,Qg,Qh,Qj,Qm,Qn,Qo,Qp,Qq,Qr,Qs,Qt,Qu,Qv,Qw,Qx,Qy,Qz,Q0,Q1,Q3,Q4,Q5,Q6,Q7,Q8,Q9,Ja,Jb,Jc,Jd,Je,Jj,Jq,Jr,Js,Jt,Jv,Jw,Jy,Jz,J0,J1,J2,J5,J6,J7,Xa,Xb,Xf,Xj,Xk,Xl,Xm,Xq,Xr,Xs,Xt,Xu,Xv,Xw,Xx,Xy,X0,X1,X2,X4,X6,X7,X8,X9,Wb,Wc,Wd,Wf,Wg,Wh,Wi,Wj,Wl,Wm,Wn,Wo,Wp,Wt,Wx,W2,W6,Yc,Yd,Yn,Yo,Yp,Yq,Yr,Ys,Yt,Yu,Yv,Yw,Yx,Yy,Yz,Y2,Y3,Y4,Y9,Va,Vi,Vj,Vl,Vm,Vn,Vo,Vr,Vw,Vy,Vz,V0,V1,V2,V4,V5,V6,V8,Ue,Uf,Ug,Uh,Ui,Uj,U5,K6,K1,Gp,Gd,K2,G5,Ku,B9];tactic =>
   try simp only [Uq] at *;try simp only [nc2] at *
   try simp (maxSteps:=4000000) only [hd2,h41,hR,lQ,lX,lK,lZ,H7,H9,Hq,Hr,H0,H1,H8,Na,Uz,U3,U4,Um,Un,Uo,Up,szP,Ur,Ut,Uv,Us,szN,Uu,U6]
   repeat' first|with_reducible assumption|with_reducible apply And.intro|intro _|omega|(rw [Uk];omega)
   all_goals first|with_reducible exact okq|omega|rfl|trivial|skip)
 | false =>
  rw [h41,if_neg (by simp)] at hR2
  cases h58:is6 l ⟨a3,as3,ae3⟩ 5 [58] with
  | true =>
   rw [h58,if_pos rfl] at hR2
   have hadv:Pe ⟨a3,as3,ae3⟩=⟨a3+1,as3,ae3⟩:=rfl
   have m4:=m3.is h58
   rw [hadv] at hR2 m4
   have hu:=(noted_typed hT m4.pos (v:=101-(d:Int)-1) fun _=>⟨by omega,by omega⟩).adv
   have m5:=m4.go hu (by omega) (by omega)
   obtain ⟨⟨u,⟨i2,ss2,e2⟩⟩,h2⟩:∃ q,typed6 l ⟨a3+1,as3,ae3⟩ (101-(d:Int)-1)=q:=⟨_,rfl⟩
   rw [h2] at hR2 m5
   simp only at hR2 m5
   obtain ⟨⟨i3,ss3,e3⟩,h3⟩:∃ q,Gz l ⟨i2,ss2,e2⟩ 5 [41]=q:=⟨_,rfl⟩
   rw [h3] at hR2
   obtain ⟨M,hM⟩:∃ q,P4 ⟨13,[],[],[],0,0,u,[]⟩ [⟨A⟩]=q:=⟨_,rfl⟩
   rw [hM] at hR2
   have o4:=m4.ok6
   have o5:=m5.nums
   simp only at o5
   have hat2:ae3=0→1≤101-(d:Int)-1∧101-(d:Int)-1≤100:=fun h=>⟨by omega,by omega⟩
   clear hu
   subst hR2
   (sym=>simp [hd2,h41,h58,g3,h2,h3,hM,hR,lQ,lX,lK,lZ,H7,H9,Hq,Hr,H0,H1,H8,Na,Uz,U3,U4,Um,Un,Uo,Up,szP,Ur,Ut,Uv,Us,szN,Uu,ctx_paren6_t,ctx_paren6_c,ctx_paren6_d,ctx_paren6_b,ctx_paren6_w,nK,mJ,oZ,Nu.eq_def,nW,Po.eq_def,Zb,Zc,Ze,Zf,Zh,Zi,Zj,Zk,Zl,Zm,Zn,Zo,Zp,Zq,Zr,Zs,Zu,Zv,Zw,Zx,Z1,Z2,Qa,Qb,Qd,Qf,Qg,Qh,Qi,Qj,Qm,Qn,Qo,Qp,Qq,Qr,Qs,Qt,Qu,Qv,Qw,Qx,Qy,Qz,Q0,Q1,Q2,Q3,Q4,Q5,Q6,Q7,Q8,Q9,Ja,Jb,Jc,Jd,Je,Jj,Jq,Jr,Js,Jt,Ju,Jv,Jw,Jx,Jy,Jz,J0,J1,J2,J4,J5,J6,J7,Xa,Xb,Xf,Xi,Xj,Xk,Xl,Xm,Xq,Xr,Xs,Xt,Xu,Xv,Xw,Xx,Xy,X0,X1,X2,X3,X4,X5,X6,X7,X8,X9,Wb,Wc,Wd,Wf,Wg,Wh,Wi,Wj,Wl,Wm,Wn,Wo,Wp,Wt,Wx,W2,W5,W6,Yc,Yd,Yh,Yn,Yo,Yp,Yq,Yr,Ys,Yt,Yu,Yv,Yw,Yx,Yy,Yz,Y0,Y1,Y2,Y3,Y4,Y9,Va,Vi,Vj,Vl,Vm,Vn,Vo,Vr,Vv,Vy,Vz,V0,V1,V2,V3,V4,V5,V6,V8,Ue,Uf,Ui,Uj,U5,K6,K1,Gp,Gd,K2,G5,Ku,B9];tactic =>
    try simp only [Uq] at *;try simp only [nc2] at *
    try simp (maxSteps:=4000000) only [hd2,h41,h58,g3,h2,h3,hM,hR,lQ,lX,lK,lZ,H7,H9,Hq,Hr,H0,H1,H8,Na,Uz,U3,U4,Um,Un,Uo,Up,szP,Ur,Ut,Uv,Us,szN,Uu,U6]
    repeat' first|with_reducible assumption|with_reducible apply And.intro|intro _|omega|(rw [Uk];omega)
    all_goals first|with_reducible exact okq|omega|exact hS|exact o4|exact hat2|rfl|trivial|skip)
  | false =>
   rw [h58,if_neg (by simp)] at hR2
   obtain ⟨⟨i3,ss3,e3⟩,h3⟩:∃ q,Gz l ⟨a3,as3,ae3⟩ 5 [41]=q:=⟨_,rfl⟩
   rw [h3] at hR2
   subst hR2
   (sym=>simp [hd2,h41,h58,g3,h3,hR,lQ,lX,lK,lZ,H7,H9,Hq,Hr,H0,H1,H8,Na,Uz,U3,U4,Um,Un,Uo,Up,szP,Ur,Ut,Uv,Us,szN,Uu,ctx_paren6_t,ctx_paren6_c,ctx_paren6_d,ctx_paren6_b,nK,mJ,oZ,Nu.eq_def,nW,Po.eq_def,Zb,Zc,Ze,Zf,Zn,Zo,Zp,Zq,Zu,Zv,Zw,Qa,Qb,Qg,Qh,Qi,Qj,Qm,Qn,Qp,Qq,Qr,Qs,Qu,Qv,Qw,Qx,Q1,Q2,Q3,Q8,Ja,Jb,Jc,Jd,Je,Jj,Jq,Jr,Js,Jt,Ju,Jv,Jw,Jx,Jy,Jz,J2,J6,J7,Xa,Xb,Xf,Xi,Xj,Xl,Xm,Xq,Xr,Xu,Xw,Xx,Xy,X0,X6,X7,X8,X9,Wb,Wc,Wd,Wf,Wg,Wh,Wi,Wj,Wl,Wo,Wp,W6,Yc,Yd,Yn,Yo,Yp,Yq,Yr,Ys,Yt,Yu,Yv,Yw,Yx,Yy,Yz,Y2,Y3,Y4,Y9,Va,Vj,Vl,Vm,Vn,Vz,V0,V1,V2,V3,V4,V5,V6,Ui,Uj,U5,K6,K1,Gp,Gd,K2,G5,Ku,B9];tactic =>
    try simp only [Uq] at *;try simp only [nc2] at *
    try simp (maxSteps:=4000000) only [hd2,h41,h58,g3,h3,hR,lQ,lX,lK,lZ,H7,H9,Hq,Hr,H0,H1,H8,Na,Uz,U3,U4,Um,Un,Uo,Up,szP,Ur,Ut,Uv,Us,szN,Uu,U6]
    repeat' first|with_reducible assumption|with_reducible apply And.intro|intro _|omega|(rw [Uk];omega)
    all_goals first|with_reducible exact okq|omega|exact hS|rfl|trivial|skip)
noncomputable def Al (n:Nat):Ctx:=⟨tab,lkC [(31,Kr),(85,Hv),(28,Gy),(29,Kv),(96,Mh),(97,(Nu n)),(98,(Mv n)),(99,(Nq n))],60,lkB [],[],false⟩
theorem Lv (n:Nat):(Al n).τ=tab:=rfl
theorem Lx (n:Nat):(Al n).Γ=lkC [(31,Kr),(85,Hv),(28,Gy),(29,Kv),(96,Mh),(97,(Nu n)),(98,(Mv n)),(99,(Nq n))]:=rfl
theorem Lw (n:Nat):(Al n).dp=60:=rfl
theorem Ly (n:Nat):(Al n).Δ=lkB []:=rfl
theorem Lu (n:Nat):(Al n).cuts=[]:=rfl
theorem Tp (n:Nat):(Al n).wr=false:=rfl
set_option maxRecDepth 100000 in
theorem stepi_atom6 (n:Nat) (ih:IH6 n):Hg Try.prog (92,(Mk (n+1))):=by
 refine ⟨Ke Try.func92 (by kernel_rfl) rfl,?_⟩
 have K:Gu Try.prog (Al n):=Ko G7 Kw (by
  intro p hp
  simp only [bQ,bZ,or_false] at hp
  rcases hp with rfl|rfl|rfl|rfl|rfl|rfl|rfl|rfl
  ·exact Cg
  ·exact good_begins6
  ·exact Ib
  ·exact Tn
  ·exact good_number6
  ·exact ih.paren
  ·exact ih.rows
  ·exact ih.inject) (by simp)
 obtain ⟨c,hc⟩:∃ c,Try.f92.body=some c:=⟨_,rfl⟩
 refine Kn K Try.func92 hc [.tmp 6,.cell 7 71] rfl 126 rfl (fun cvs hpre=>?_)
 change (Mk (n+1)).pre cvs at hpre
 unfold Mk at hpre
 obtain ⟨⟨l⟩,⟨i,ss,e⟩,v,rfl,hS,hv1,hv2,hn⟩:=N1 hpre
 simp only at hS
 clear hpre
 obtain ⟨d,hd⟩:∃ d:Nat,v=100-d:=⟨(100-v).toNat,by omega⟩
 subst hd
 have hd2:(100-(100-(d:Int))).toNat=d:=by omega
 have hd3:(101-(100-(d:Int)+1)).toNat=d:=by omega
 have hd5:100-(d:Int)+1-1=100-d:=by omega
 have hd4:d≤100:=by omega
 have hT:=hS.toks
 have o0:=hS.nums
 simp only at o0
 obtain ⟨i,rfl⟩:∃ n:Nat,i=n:=⟨i.toNat,by omega⟩
 obtain ⟨R,hR⟩:∃ R,atomW (Nm l d) l (100-(d:Int)) ⟨i,ss,e⟩=R:=⟨_,rfl⟩
 have hR2:=hR
 unfold atomW at hR2
 simp only [C6] at hR2
 simp only [Try.f92,aZ] at hc
 subst hc
 refine Gf 7 (of_decide_eq_true (by kernel_rfl)) ?_
 obtain ⟨⟨Wa,Ws,We⟩,hW⟩:∃ q,Ns ⟨(i:Int),ss,e⟩ 2=q:=⟨_,rfl⟩
 by_cases he:e=0
 case neg =>
  rw [if_pos (.inl he),hW] at hR2
  have hb:(e != 0)=true:=bne_iff_ne.2 he
  subst hR2
  (sym=>simp [hd2,hb,hW,hR,mQ,lQ,lX,lZ,U1,Kb,Kc,Ka,Gl,Uz,U3,U4,Um,Un,Uo,Up,szP,Ur,Ut,Uv,Us,szN,Uu,Lv,Lx,Lw,Ly,Lu,Mk.eq_def,Hv.eq_def,Nq.eq_def,mJ,mW,Mh.eq_def,Nu.eq_def,Mv.eq_def,mX,Zb,Zc,Zd,Ze,Zf,Zn,Zo,Zp,Zq,Zs,Zt,Zu,Zv,Zw,Zx,Qb,Qd,Qf,Qg,Qh,Qj,Qm,Qn,Qo,Qp,Qq,Qr,Qs,Qu,Qv,Qw,Qx,Q1,Q3,Q8,Ja,Jb,Jc,Jd,Je,Jf,Jj,Jq,Jr,Js,Jt,Jv,Jw,Jy,Jz,J2,J6,J7,Xa,Xb,Xd,Xj,Xl,Xm,Xq,Xr,Xu,Xw,Xx,Xy,X0,X6,X7,X8,X9,Wb,Wc,Wd,Wf,Wh,Wi,Wj,Wl,Wm,Wn,Wo,Wp,Wt,Wx,W6,Yc,Yn,Yo,Yr,Ys,Yt,Yu,Yv,Yw,Yx,Yz,Y2,Y9,Va,Vj,Vk,Vm,Vy,Vz,V0,V1,V4,V5,V6,Ui,Uj,Ep,U5,K9,Kh,Ks,K6,K1,Gp,Gd,K2,G5,Ku])
 subst he
 have hb:((0:Int) != 0)=false:=rfl
 cases hbg:En l ⟨i,ss,0⟩ with
 | false =>
  rw [if_pos (.inr hbg),hW] at hR2
  subst hR2
  (sym=>simp [hd2,hb,hbg,hW,hR,lQ,lX,lZ,U1,Kb,Kc,Ka,Gl,Uz,U3,U4,Um,Un,Uo,Up,szP,Ur,Ut,Uv,Us,szN,Uu,Lv,Lx,Lw,Ly,Lu,Mk.eq_def,Hv.eq_def,Nq.eq_def,mJ,mW,Mh.eq_def,Nu.eq_def,Mv.eq_def,mX,Zb,Zc,Zd,Ze,Zf,Zn,Zo,Zp,Zq,Zs,Zt,Zu,Zv,Zw,Zx,Qb,Qd,Qe,Qf,Qg,Qh,Qj,Qm,Qn,Qo,Qp,Qq,Qr,Qs,Qu,Qv,Qw,Qx,Q1,Q3,Q8,Ja,Jb,Jc,Jd,Je,Jf,Jj,Jq,Jr,Js,Jt,Jv,Jw,Jy,Jz,J2,J6,J7,Xa,Xb,Xd,Xe,Xj,Xl,Xm,Xq,Xr,Xu,Xw,Xx,Xy,X0,X6,X7,X8,X9,Wb,Wc,Wd,Wf,Wh,Wi,Wj,Wl,Wm,Wn,Wo,Wp,Wt,Wu,Wx,Wy,W6,Yc,Yd,Yn,Yo,Yr,Ys,Yt,Yu,Yv,Yw,Yx,Yz,Y2,Y4,Y6,Y9,Va,Vj,Vk,Vm,Vy,Vz,V0,V1,V2,V4,V5,V6,Ui,Uj,Ep,U5,K9,Kh,Ks,K6,K1,Gp,Gd,K2,G5,Ku];tactic =>
   try simp only [Uq] at *;try simp only [nc2] at *
   try simp (maxSteps:=4000000) only [hd2,hb,hbg,hW,hR,lQ,lX,lZ,U1,Kb,Kc,Ka,Gl,Uz,U3,U4,Um,Un,Uo,Up,szP,Ur,Ut,Uv,Us,szN,Uu,U6]
   repeat' first|with_reducible assumption|with_reducible apply And.intro|intro _|omega|(rw [Uk];omega)
   all_goals first|with_reducible exact okq|omega|rfl|trivial|exact Or.inr trivial|skip)
 | true =>
  rw [if_neg (by rw [hbg];simp)] at hR2
  have hlt:=(begins6_lt hbg).2
  simp only at hlt
  have q1:=K7 Td (show i<l.length by omega)
  have htk:=hT.ok (l.getD i Td) (by simp [show i<l.length by omega])
  obtain ⟨t,ht⟩:∃ t,l.getD i Td=t:=⟨_,rfl⟩
  rw [ht] at q1 htk hR2
  unfold TokOk at htk
  have hadv:Pe ⟨(i:Int),ss,0⟩=⟨(i:Int)+1,ss,0⟩:=rfl
  rw [hadv] at hR2
  have m1:=hS.adv rfl hlt
  rw [hadv] at m1
  have o1:=m1.nums
  simp only at o1
  have hle:leB (l.length:Int) (i:Int)=false:=by rw [←Bool.not_eq_true,G4];omega
  by_cases h3:t.kind=3
  ·rw [if_pos h3] at hR2
   have hk3:(t.kind==3)=true:=by rw [cQ];exact h3
   have hf:=htk.2 h3
   obtain ⟨N,hN⟩:∃ q,number6 t.text=q:=⟨_,rfl⟩
   rw [hN] at hR2
   subst hR2
   (sym=>simp [hd2,hb,hbg,q1,hk3,hN,hR,lQ,lX,lZ,U1,Kb,Kc,Ka,Gl,Uz,U3,U4,Um,Un,Uo,Up,szP,Ur,Ut,Uv,Us,szN,Uu,Lv,Lx,Lw,Ly,Lu,Tp,Mk.eq_def,Hv.eq_def,Nq.eq_def,mJ,mW,Mh.eq_def,Nu.eq_def,Mv.eq_def,mX,Zb,Zc,Zd,Ze,Zf,Zg,Zh,Zi,Zj,Zk,Zl,Zm,Zn,Zo,Zp,Zq,Zr,Zs,Zt,Zu,Zv,Zw,Zx,Zy,Z1,Z2,Qb,Qd,Qe,Qf,Qg,Qh,Qj,Qm,Qn,Qo,Qp,Qq,Qr,Qs,Qt,Qu,Qv,Qw,Qx,Qy,Qz,Q0,Q1,Q3,Q4,Q5,Q6,Q7,Q8,Q9,Ja,Jb,Jc,Jd,Je,Jf,Jj,Jq,Jr,Js,Jt,Jv,Jw,Jy,Jz,J0,J1,J2,J5,J6,J7,J8,Xa,Xb,Xd,Xe,Xi,Xj,Xk,Xl,Xm,Xn,Xq,Xr,Xs,Xt,Xu,Xv,Xw,Xx,Xy,X0,X1,X2,X4,X6,X7,X8,X9,Wb,Wc,Wd,Wf,Wg,Wh,Wi,Wj,Wl,Wm,Wn,Wo,Wp,Wt,Wu,Wx,Wy,W1,W2,W6,Yc,Yd,Yf,Yg,Yn,Yo,Yp,Yr,Ys,Yt,Yu,Yv,Yw,Yx,Yy,Yz,Y3,Y4,Y5,Y7,Y9,Va,Vi,Vj,Vk,Vm,Vo,Vr,Vw,Vy,Vz,V0,V1,V2,V3,V4,V5,V6,V8,Ue,Uf,Ug,Uh,Ui,Uj,Ep,U5,K9,Kh,Ks,K6,K1,Gp,Gd,K2,G5,Ku];tactic =>
    try simp only [Uq] at *;try simp only [nc2] at *
    try simp (maxSteps:=4000000) only [hd2,hb,hbg,q1,hk3,hN,hR,lQ,lX,lZ,U1,Kb,Kc,Ka,Gl,Uz,U3,U4,Um,Un,Uo,Up,szP,Ur,Ut,Uv,Us,szN,Uu,U6]
    repeat' first|with_reducible assumption|with_reducible apply And.intro|intro _|omega|(rw [Uk];omega)
    all_goals first|with_reducible exact okq|omega|rfl|trivial|exact Or.inr trivial|skip)
  rw [if_neg h3] at hR2
  have hk3:(t.kind==3)=false:=by rw [aQ];exact h3
  by_cases h4:t.kind=4
  ·rw [if_pos h4] at hR2
   have hk4:(t.kind==4)=true:=by rw [cQ];exact h4
   subst hR2
   (sym=>simp [hd2,hb,hbg,q1,hk3,hk4,hR,lQ,lX,lZ,U1,Kb,Kc,Ka,Gl,Uz,U3,U4,Um,Un,Uo,Up,szP,Ur,Ut,Uv,Us,szN,Uu,Lv,Lx,Lw,Ly,Lu,Tp,Mk.eq_def,Hv.eq_def,Nq.eq_def,mJ,mW,Mh.eq_def,Nu.eq_def,Mv.eq_def,mX,Zb,Zc,Zd,Ze,Zf,Zg,Zh,Zi,Zj,Zk,Zl,Zm,Zn,Zo,Zp,Zq,Zr,Zs,Zt,Zu,Zv,Zw,Zx,Zy,Z1,Z2,Qb,Qd,Qe,Qf,Qg,Qh,Qj,Qm,Qn,Qo,Qp,Qq,Qr,Qs,Qt,Qu,Qv,Qw,Qx,Qy,Qz,Q0,Q1,Q3,Q4,Q5,Q6,Q7,Q8,Q9,Ja,Jb,Jc,Jd,Je,Jf,Jj,Jq,Jr,Js,Jt,Jv,Jw,Jy,Jz,J0,J1,J2,J5,J6,J7,J8,Xa,Xb,Xd,Xe,Xi,Xj,Xk,Xl,Xm,Xn,Xq,Xr,Xs,Xt,Xu,Xv,Xw,Xx,Xy,X0,X1,X2,X4,X6,X7,X8,X9,Wb,Wc,Wd,Wf,Wg,Wh,Wi,Wj,Wl,Wm,Wn,Wo,Wp,Wt,Wu,Wx,Wy,W1,W2,W4,W6,Yc,Yd,Yf,Yg,Yn,Yo,Yp,Yr,Ys,Yt,Yu,Yv,Yw,Yx,Yz,Y4,Y5,Y7,Y9,Va,Vi,Vj,Vk,Vm,Vo,Vr,Vt,Vw,Vy,Vz,V0,V1,V2,V3,V4,V5,V6,V8,Ue,Uf,Ug,Uh,Ui,Uj,Ep,U5,K9,Kh,Ks,K6,K1,Gp,Gd,K2,G5,Ku];tactic =>
    try simp only [Uq] at *;try simp only [nc2] at *
    try simp (maxSteps:=4000000) only [hd2,hb,hbg,q1,hk3,hk4,hR,lQ,lX,lZ,U1,Kb,Kc,Ka,Gl,Uz,U3,U4,Um,Un,Uo,Up,szP,Ur,Ut,Uv,Us,szN,Uu,U6]
    repeat' first|with_reducible assumption|with_reducible apply And.intro|intro _|omega|(rw [Uk];omega)
    all_goals first|with_reducible exact okq|omega|rfl|trivial|exact Or.inr trivial|skip)
  rw [if_neg h4] at hR2
  have hk4:(t.kind==4)=false:=by rw [aQ];exact h4
  by_cases h6:t.kind=6
  ·rw [if_pos h6] at hR2
   have hk6:(t.kind==6)=true:=by rw [cQ];exact h6
   by_cases htr:t.text=[116,114,117,101]
   ·rw [if_pos htr] at hR2
    have hx:(t.text==[116,114,117,101])=true:=by rw [cQ];exact htr
    subst hR2
    (sym=>simp [hd2,hb,hbg,q1,hk3,hk4,hk6,hx,hR,lQ,lX,lZ,U1,Kb,Kc,Ka,Gl,Uz,U3,U4,Um,Un,Uo,Up,szP,Ur,Ut,Uv,Us,szN,Uu,Lv,Lx,Lw,Ly,Lu,Tp,Mk.eq_def,Hv.eq_def,Nq.eq_def,mJ,mW,Mh.eq_def,Nu.eq_def,Mv.eq_def,mX,Zb,Zc,Zd,Ze,Zf,Zg,Zh,Zi,Zj,Zk,Zl,Zm,Zn,Zo,Zp,Zq,Zr,Zs,Zt,Zu,Zv,Zw,Zx,Zy,Z1,Z2,Qb,Qd,Qe,Qf,Qg,Qh,Qj,Qm,Qn,Qo,Qp,Qq,Qr,Qs,Qt,Qu,Qv,Qw,Qx,Qy,Qz,Q0,Q1,Q3,Q4,Q5,Q6,Q7,Q8,Q9,Ja,Jb,Jc,Jd,Je,Jf,Jj,Jq,Jr,Js,Jt,Jv,Jw,Jy,Jz,J0,J1,J2,J5,J6,J7,J8,Xa,Xb,Xd,Xe,Xi,Xj,Xk,Xl,Xm,Xn,Xq,Xr,Xs,Xt,Xu,Xv,Xw,Xx,Xy,X0,X1,X2,X4,X6,X7,X8,X9,Wb,Wc,Wd,Wf,Wg,Wh,Wi,Wj,Wl,Wm,Wn,Wo,Wp,Wt,Wu,Wv,Wx,Wy,Wz,W1,W2,W6,Yc,Yd,Yf,Yg,Yn,Yo,Yp,Yr,Ys,Yt,Yu,Yv,Yw,Yx,Yz,Y4,Y5,Y7,Y9,Va,Vi,Vj,Vk,Vl,Vm,Vn,Vo,Vr,Vw,Vy,Vz,V0,V1,V2,V3,V4,V5,V6,V8,Ue,Uf,Ug,Uh,Ui,Uj,Ep,U5,K9,Kh,Ks,K6,K1,Gp,Gd,K2,G5,Ku];tactic =>
     try simp only [Uq] at *;try simp only [nc2] at *
     try simp (maxSteps:=4000000) only [hd2,hb,hbg,q1,hk3,hk4,hk6,hx,hR,lQ,lX,lZ,U1,Kb,Kc,Ka,Gl,Uz,U3,U4,Um,Un,Uo,Up,szP,Ur,Ut,Uv,Us,szN,Uu,U6]
     repeat' first|with_reducible assumption|with_reducible apply And.intro|intro _|omega|(rw [Uk];omega)
     all_goals first|with_reducible exact okq|omega|rfl|trivial|exact Or.inr trivial|skip)
   ·rw [if_neg htr] at hR2
    have hx:(t.text==[116,114,117,101])=false:=by rw [aQ];exact htr
    subst hR2
    (sym=>simp [hd2,hb,hbg,q1,hk3,hk4,hk6,hx,hR,lQ,lX,lZ,U1,Kb,Kc,Ka,Gl,Uz,U3,U4,Um,Un,Uo,Up,szP,Ur,Ut,Uv,Us,szN,Uu,Lv,Lx,Lw,Ly,Lu,Tp,Mk.eq_def,Hv.eq_def,Nq.eq_def,mJ,mW,Mh.eq_def,Nu.eq_def,Mv.eq_def,mX,Zb,Zc,Zd,Ze,Zf,Zg,Zh,Zi,Zj,Zk,Zl,Zm,Zn,Zo,Zp,Zq,Zr,Zs,Zt,Zu,Zv,Zw,Zx,Zy,Z1,Z2,Qb,Qd,Qe,Qf,Qg,Qh,Qj,Qm,Qn,Qo,Qp,Qq,Qr,Qs,Qt,Qu,Qv,Qw,Qx,Qy,Qz,Q0,Q1,Q3,Q4,Q5,Q6,Q7,Q8,Q9,Ja,Jb,Jc,Jd,Je,Jf,Jj,Jq,Jr,Js,Jt,Jv,Jw,Jy,Jz,J0,J1,J2,J5,J6,J7,J8,Xa,Xb,Xd,Xe,Xi,Xj,Xk,Xl,Xm,Xn,Xq,Xr,Xs,Xt,Xu,Xv,Xw,Xx,Xy,X0,X1,X2,X4,X6,X7,X8,X9,Wb,Wc,Wd,Wf,Wg,Wh,Wi,Wj,Wl,Wm,Wn,Wo,Wp,Wt,Wu,Wv,Wx,Wy,Wz,W1,W2,W6,Yc,Yd,Yf,Yg,Yn,Yo,Yp,Yr,Ys,Yt,Yu,Yv,Yw,Yx,Yz,Y4,Y5,Y7,Y9,Va,Vi,Vj,Vk,Vl,Vm,Vn,Vo,Vr,Vw,Vy,Vz,V0,V1,V2,V3,V4,V5,V6,V8,Ue,Uf,Ug,Uh,Ui,Uj,Ep,U5,K9,Kh,Ks,K6,K1,Gp,Gd,K2,G5,Ku];tactic =>
     try simp only [Uq] at *;try simp only [nc2] at *
     try simp (maxSteps:=4000000) only [hd2,hb,hbg,q1,hk3,hk4,hk6,hx,hR,lQ,lX,lZ,U1,Kb,Kc,Ka,Gl,Uz,U3,U4,Um,Un,Uo,Up,szP,Ur,Ut,Uv,Us,szN,Uu,U6]
     repeat' first|with_reducible assumption|with_reducible apply And.intro|intro _|omega|(rw [Uk];omega)
     all_goals first|with_reducible exact okq|omega|rfl|trivial|exact Or.inr trivial|skip)
  rw [if_neg h6] at hR2
  have hk6:(t.kind==6)=false:=by rw [aQ];exact h6
  by_cases h1:t.kind=1
  ·rw [if_pos h1] at hR2
   have hk1:(t.kind==1)=true:=by rw [cQ];exact h1
   cases h33:is6 l ⟨(i:Int)+1,ss,0⟩ 5 [33] with
   | false =>
    rw [h33,if_pos rfl] at hR2
    subst hR2
    (sym=>simp [hd2,hb,hbg,q1,hk3,hk4,hk6,hk1,h33,hR,lQ,lX,lZ,U1,Kb,Kc,Ka,Gl,Uz,U3,U4,Um,Un,Uo,Up,szP,Ur,Ut,Uv,Us,szN,Uu,Lv,Lx,Lw,Ly,Lu,Tp,Mk.eq_def,Hv.eq_def,Nq.eq_def,mJ,mW,Mh.eq_def,Nu.eq_def,Mv.eq_def,mX,Zb,Zc,Zd,Ze,Zf,Zg,Zh,Zi,Zj,Zk,Zl,Zm,Zn,Zo,Zp,Zq,Zr,Zs,Zt,Zu,Zv,Zw,Zx,Zy,Z1,Z2,Qb,Qd,Qe,Qf,Qg,Qh,Qj,Qm,Qn,Qo,Qp,Qq,Qr,Qs,Qt,Qu,Qv,Qw,Qx,Qy,Qz,Q0,Q1,Q3,Q4,Q5,Q6,Q7,Q8,Q9,Ja,Jb,Jc,Jd,Je,Jf,Jj,Jq,Jr,Js,Jt,Jv,Jw,Jy,Jz,J0,J1,J2,J5,J6,J7,J8,Xa,Xb,Xd,Xe,Xi,Xj,Xk,Xl,Xm,Xn,Xq,Xr,Xs,Xt,Xu,Xv,Xw,Xx,Xy,X0,X1,X2,X4,X6,X7,X8,X9,Wb,Wc,Wd,Wf,Wg,Wh,Wi,Wj,Wl,Wm,Wn,Wo,Wp,Wt,Wu,Wx,Wy,W1,W2,W4,W6,Yc,Yd,Yf,Yg,Yn,Yo,Yp,Yq,Yr,Ys,Yt,Yu,Yv,Yw,Yx,Yy,Yz,Y2,Y3,Y4,Y5,Y6,Y7,Y9,Va,Vi,Vj,Vk,Vl,Vm,Vn,Vo,Vr,Vt,Vy,Vz,V0,V1,V2,V3,V4,V5,V6,V8,Ue,Uf,Ui,Uj,Ep,U5,K9,Kh,Ks,K6,K1,Gp,Gd,K2,G5,Ku];tactic =>
     try simp only [Uq] at *;try simp only [nc2] at *
     try simp (maxSteps:=4000000) only [hd2,hb,hbg,q1,hk3,hk4,hk6,hk1,h33,hR,lQ,lX,lZ,U1,Kb,Kc,Ka,Gl,Uz,U3,U4,Um,Un,Uo,Up,szP,Ur,Ut,Uv,Us,szN,Uu,U6]
     repeat' first|with_reducible assumption|with_reducible apply And.intro|intro _|omega|(rw [Uk];omega)
     all_goals first|with_reducible exact okq|omega|rfl|trivial|exact Or.inr trivial|skip)
   | true =>
    rw [h33,if_neg (by simp)] at hR2
    have hadv2:Pe ⟨(i:Int)+1,ss,0⟩=⟨(i:Int)+1+1,ss,0⟩:=rfl
    rw [hadv2] at hR2
    have m2:=m1.is h33
    rw [hadv2] at m2
    have o2:=m2.nums
    simp only at o2
    have hxl:=Bl hT ⟨(i:Int)+1+1,ss,0⟩ 1
    obtain ⟨⟨x,⟨i2,ss2,e2⟩⟩,h2⟩:∃ q,Hp l ⟨(i:Int)+1+1,ss,0⟩ 1=q:=⟨_,rfl⟩
    rw [h2] at hR2 hxl
    simp only at hR2 hxl
    have htl:=htk.1
    subst hR2
    (sym=>simp [hd2,hb,hbg,q1,hk3,hk4,hk6,hk1,h33,h2,hR,lQ,lX,lZ,U1,Kb,Kc,Ka,Gl,Uz,U3,U4,Um,Un,Uo,Up,szP,Ur,Ut,Uv,Us,szN,Uu,Lv,Lx,Lw,Ly,Lu,Tp,Mk.eq_def,Hv.eq_def,Nq.eq_def,mJ,mW,Mh.eq_def,Nu.eq_def,Mv.eq_def,mX,Zb,Zc,Zd,Ze,Zf,Zg,Zh,Zi,Zj,Zk,Zl,Zm,Zn,Zo,Zp,Zq,Zr,Zs,Zt,Zu,Zv,Zw,Zx,Zy,Z1,Z2,Qa,Qb,Qd,Qe,Qf,Qg,Qh,Qi,Qj,Qm,Qn,Qo,Qp,Qq,Qr,Qs,Qt,Qu,Qv,Qw,Qx,Qy,Qz,Q0,Q1,Q2,Q3,Q4,Q5,Q6,Q7,Q8,Q9,Ja,Jb,Jc,Jd,Je,Jf,Jj,Jq,Jr,Js,Jt,Jv,Jw,Jy,Jz,J0,J1,J2,J5,J6,J7,J8,Xa,Xb,Xd,Xe,Xi,Xj,Xk,Xl,Xm,Xn,Xq,Xr,Xs,Xt,Xu,Xv,Xw,Xx,Xy,X0,X1,X2,X4,X6,X7,X8,X9,Wb,Wc,Wd,Wf,Wg,Wh,Wi,Wj,Wl,Wm,Wn,Wo,Wp,Wt,Wu,Wv,Wx,Wy,Wz,W1,W2,W4,W6,Yc,Yd,Ye,Yf,Yg,Yn,Yo,Yp,Yq,Yr,Ys,Yt,Yu,Yv,Yw,Yx,Yy,Yz,Y2,Y3,Y4,Y5,Y7,Y9,Va,Vi,Vj,Vk,Vl,Vm,Vn,Vo,Vr,Vt,Vy,Vz,V0,V1,V2,V3,V4,V5,V6,V8,Ue,Uf,Ui,Uj,Ep,U5,K9,Kh,Ks,K6,K1,Gp,Gd,K2,G5,Ku];tactic =>
     try simp only [Uq] at *;try simp only [nc2] at *
     try simp (maxSteps:=4000000) only [hd2,hb,hbg,q1,hk3,hk4,hk6,hk1,h33,h2,hR,lQ,lX,lZ,U1,Kb,Kc,Ka,Gl,Uz,U3,U4,Um,Un,Uo,Up,szP,Ur,Ut,Uv,Us,szN,Uu,U6]
     repeat' first|with_reducible assumption|with_reducible apply And.intro|intro _|omega|(rw [Uk];omega)
     all_goals first|with_reducible exact okq|omega|rfl|trivial|exact Or.inr trivial|skip)
  rw [if_neg h1] at hR2
  have hk1:(t.kind==1)=false:=by rw [aQ];exact h1
  by_cases h40:t.text=[40]
  ·rw [if_pos h40] at hR2
   have hx40:(t.text==[40])=true:=by rw [cQ];exact h40
   obtain ⟨A,⟨i2,ss2,e2⟩⟩:=R
   (sym=>simp [hd2,hd3,hd5,hb,hbg,q1,hk3,hk4,hk6,hk1,hx40,hR2,hR,lQ,lX,lZ,U1,Kb,Kc,Ka,Gl,Uz,U3,U4,Um,Un,Uo,Up,szP,Ur,Ut,Uv,Us,szN,Uu,Lv,Lx,Lw,Ly,Lu,Tp,Mk.eq_def,Hv.eq_def,Nq.eq_def,mJ,mW,Mh.eq_def,Nu.eq_def,Mv.eq_def,mX,Zb,Zc,Zd,Ze,Zf,Zg,Zn,Zo,Zp,Zq,Zs,Zt,Zu,Zv,Zw,Zx,Zy,Z2,Qa,Qb,Qd,Qe,Qf,Qg,Qh,Qi,Qj,Qm,Qn,Qo,Qp,Qq,Qr,Qs,Qu,Qv,Qw,Qx,Q0,Q1,Q2,Q3,Q8,Q9,Ja,Jb,Jc,Jd,Je,Jf,Jj,Jq,Jr,Js,Jt,Jv,Jw,Jy,Jz,J2,J6,J7,J8,Xa,Xb,Xd,Xe,Xi,Xj,Xl,Xm,Xn,Xq,Xr,Xu,Xw,Xx,Xy,X0,X6,X7,X8,X9,Wb,Wc,Wd,Wf,Wg,Wh,Wi,Wj,Wl,Wm,Wn,Wo,Wp,Wt,Wu,Wv,Wx,Wy,Wz,W1,W2,W6,Yc,Yd,Yf,Yg,Yn,Yo,Yp,Yr,Ys,Yt,Yu,Yv,Yw,Yx,Yz,Y2,Y4,Y5,Y7,Y9,Va,Vj,Vk,Vl,Vm,Vn,Vr,Vy,Vz,V0,V1,V2,V3,V4,V5,V6,Ui,Uj,Ep,U5,K9,Kh,Ks,K6,K1,Gp,Gd,K2,G5,Ku];tactic =>
    try simp only [Uq] at *;try simp only [nc2] at *
    try simp (maxSteps:=4000000) only [hd2,hd3,hd5,hb,hbg,q1,hk3,hk4,hk6,hk1,hx40,hR2,hR,lQ,lX,lZ,U1,Kb,Kc,Ka,Gl,Uz,U3,U4,Um,Un,Uo,Up,szP,Ur,Ut,Uv,Us,szN,Uu,U6]
    repeat' first|with_reducible assumption|with_reducible apply And.intro|intro _|omega|(rw [Uk];omega)
    all_goals first|with_reducible exact okq|omega|exact m1|rfl|trivial|exact Or.inr trivial|skip)
  rw [if_neg h40] at hR2
  have hx40:(t.text==[40])=false:=by rw [aQ];exact h40
  by_cases h123:t.text=[123]
  ·rw [if_pos h123] at hR2
   have hx123:(t.text==[123])=true:=by rw [cQ];exact h123
   obtain ⟨A,⟨i2,ss2,e2⟩⟩:=R
   (sym=>simp [hd2,hd3,hd5,hb,hbg,q1,hk3,hk4,hk6,hk1,hx40,hx123,hR2,hR,lQ,lX,lZ,U1,Kb,Kc,Ka,Gl,Uz,U3,U4,Um,Un,Uo,Up,szP,Ur,Ut,Uv,Us,szN,Uu,Lv,Lx,Lw,Ly,Lu,Tp,Mk.eq_def,Hv.eq_def,Nq.eq_def,mJ,mW,Mh.eq_def,Nu.eq_def,Mv.eq_def,mX,Zb,Zc,Zd,Ze,Zf,Zg,Zn,Zo,Zp,Zq,Zs,Zt,Zu,Zv,Zw,Zx,Zy,Z2,Qa,Qb,Qd,Qe,Qf,Qg,Qh,Qi,Qj,Qm,Qn,Qo,Qp,Qq,Qr,Qs,Qu,Qv,Qw,Qx,Q0,Q1,Q2,Q3,Q8,Q9,Ja,Jb,Jc,Jd,Je,Jf,Jj,Jq,Jr,Js,Jt,Ju,Jv,Jw,Jx,Jy,Jz,J2,J6,J7,J8,Xa,Xb,Xd,Xe,Xi,Xj,Xl,Xm,Xn,Xq,Xr,Xu,Xw,Xx,Xy,X0,X6,X7,X8,X9,Wb,Wc,Wd,Wf,Wg,Wh,Wi,Wj,Wl,Wm,Wn,Wo,Wp,Wt,Wu,Wv,Wx,Wy,Wz,W1,W2,W6,Yc,Yd,Yf,Yg,Yn,Yo,Yp,Yq,Yr,Ys,Yt,Yu,Yv,Yw,Yx,Yz,Y2,Y4,Y5,Y7,Y9,Va,Vj,Vk,Vl,Vm,Vn,Vr,Vy,Vz,V0,V1,V2,V3,V4,V5,V6,Ui,Uj,Ep,U5,K9,Kh,Ks,K6,K1,Gp,Gd,K2,G5,Ku];tactic =>
    try simp only [Uq] at *;try simp only [nc2] at *
    try simp (maxSteps:=4000000) only [hd2,hd3,hd5,hb,hbg,q1,hk3,hk4,hk6,hk1,hx40,hx123,hR2,hR,lQ,lX,lZ,U1,Kb,Kc,Ka,Gl,Uz,U3,U4,Um,Un,Uo,Up,szP,Ur,Ut,Uv,Us,szN,Uu,U6]
    repeat' first|with_reducible assumption|with_reducible apply And.intro|intro _|omega|(rw [Uk];omega)
    all_goals first|with_reducible exact okq|omega|exact m1|rfl|trivial|exact Or.inr trivial|skip)
  rw [if_neg h123] at hR2
  have hx123:(t.text==[123])=false:=by rw [aQ];exact h123
  obtain ⟨A,⟨i2,ss2,e2⟩⟩:=R
  (sym=>simp [hd2,hd3,hd5,hb,hbg,q1,hk3,hk4,hk6,hk1,hx40,hx123,hR2,hR,lQ,lX,lZ,U1,Kb,Kc,Ka,Gl,Uz,U3,U4,Um,Un,Uo,Up,szP,Ur,Ut,Uv,Us,szN,Uu,Lv,Lx,Lw,Ly,Lu,Tp,Mk.eq_def,Hv.eq_def,Nq.eq_def,mJ,mW,Mh.eq_def,Nu.eq_def,Mv.eq_def,mX,Zb,Zc,Zd,Ze,Zf,Zg,Zn,Zo,Zp,Zq,Zs,Zt,Zu,Zv,Zw,Zx,Zy,Z2,Qa,Qb,Qd,Qe,Qf,Qg,Qh,Qi,Qj,Qm,Qn,Qo,Qp,Qq,Qr,Qs,Qu,Qv,Qw,Qx,Q0,Q1,Q2,Q3,Q8,Q9,Ja,Jb,Jc,Jd,Je,Jf,Jj,Jq,Jr,Js,Jt,Ju,Jv,Jw,Jx,Jy,Jz,J2,J6,J7,J8,Xa,Xb,Xd,Xe,Xi,Xj,Xl,Xm,Xn,Xq,Xr,Xu,Xw,Xx,Xy,X0,X6,X7,X8,X9,Wb,Wc,Wd,Wf,Wg,Wh,Wi,Wj,Wl,Wm,Wn,Wo,Wp,Wt,Wu,Wv,Wx,Wy,Wz,W1,W2,W6,Yc,Yd,Yf,Yg,Yn,Yo,Yp,Yq,Yr,Ys,Yt,Yu,Yv,Yw,Yx,Yz,Y2,Y4,Y5,Y7,Y9,Va,Vj,Vk,Vl,Vm,Vn,Vr,Vz,V0,V1,V2,V3,V4,V5,V6,Ui,Uj,Ep,U5,K9,Kh,Ks,K6,K1,Gp,Gd,K2,G5,Ku];tactic =>
   try simp only [Uq] at *;try simp only [nc2] at *
   try simp (maxSteps:=4000000) only [hd2,hd3,hd5,hb,hbg,q1,hk3,hk4,hk6,hk1,hx40,hx123,hR2,hR,lQ,lX,lZ,U1,Kb,Kc,Ka,Gl,Uz,U3,U4,Um,Un,Uo,Up,szP,Ur,Ut,Uv,Us,szN,Uu,U6]
   repeat' first|with_reducible assumption|with_reducible apply And.intro|intro _|omega|(rw [Uk];omega)
   all_goals first|with_reducible exact okq|omega|exact m1|rfl|trivial|exact Or.inr trivial|skip)
noncomputable def ctx_part6 (n:Nat):Ctx:=⟨tab,lkC [(28,Gy),(29,Kv),(74,Gs),(92,(Mk n))],60,lkB [],[],false⟩
theorem ctx_part6_t (n:Nat):(ctx_part6 n).τ=tab:=rfl
theorem ctx_part6_c (n:Nat):(ctx_part6 n).Γ=lkC [(28,Gy),(29,Kv),(74,Gs),(92,(Mk n))]:=rfl
theorem ctx_part6_d (n:Nat):(ctx_part6 n).dp=60:=rfl
theorem ctx_part6_b (n:Nat):(ctx_part6 n).Δ=lkB []:=rfl
theorem ctx_part6_w (n:Nat):(ctx_part6 n).wr=false:=rfl
set_option maxRecDepth 100000 in
theorem stepi_part6 (n:Nat) (ih:IH6 n):Hg Try.prog (84,(Tg (n+1))):=by
 refine ⟨Ke Try.func84 (by kernel_rfl) rfl,?_⟩
 have K:Gu Try.prog (ctx_part6 n):=Ko G7 Kw (by
  intro p hp
  simp only [bQ,bZ,or_false] at hp
  rcases hp with rfl|rfl|rfl|rfl
  ·exact Ib
  ·exact Tn
  ·exact Tu
  ·exact ih.atom) (by simp)
 obtain ⟨c,hc⟩:∃ c,Try.f84.body=some c:=⟨_,rfl⟩
 refine Kn K Try.func84 hc [.tmp 6,.cell 7 71] rfl 39 rfl (fun cvs hpre=>?_)
 change (Tg (n+1)).pre cvs at hpre
 unfold Tg at hpre
 obtain ⟨⟨l⟩,s,v,rfl,hS,hv1,hv2,hn⟩:=N1 hpre
 simp only at hS
 clear hpre
 obtain ⟨d,hd⟩:∃ d:Nat,v=100-d:=⟨(100-v).toNat,by omega⟩
 subst hd
 have hd2:(100-(100-(d:Int))).toNat=d:=by omega
 have hd4:d≤100:=by omega
 have hT:=hS.toks
 obtain ⟨R,hR⟩:∃ R,partW (Nm l d) l (100-(d:Int)) s=R:=⟨_,rfl⟩
 have hR2:=hR
 unfold partW at hR2
 have hA:=reads_atom hT (Ho hT d hd4) hv1 hv2 hS.pos
 obtain ⟨⟨A,⟨i,ss,e⟩⟩,hq⟩:∃ q,atomW (Nm l d) l (100-(d:Int)) s=q:=⟨_,rfl⟩
 rw [hq] at hR2 hA
 obtain ⟨s0,hs0⟩:∃ q,s=q:=⟨_,rfl⟩
 rw [hs0] at hS hA hR hq
 subst hs0
 have hP:=hS.pos
 have hgo:∀ {B:List Part} {r:St6},Reads l s (B,r)→St6In l r:=fun h=>hS.go h.adv (by omega) (by omega)
 have hshort:∀ {B:List Part} {r:St6},Reads l s (B,r)→B.length≤300000:=fun h=>N3 hS h
 obtain ⟨Q,hQ⟩:∃ Q:List Part×St6→Prop,(fun r=>Reads l s r)=Q:=⟨_,rfl⟩
 have hQe:∀ r,Reads l s r=Q r:=fun r=>congrFun hQ r
 rw [hQe] at hA
 simp only [hQe] at hgo hshort
 have hstep:∀ r,Q r→Q (partL l 1 r):=fun r h=>by rw [←hQe] at h ⊢;exact partL_reads hT 1 r hP h
 have hmono:∀ {B:List Part} {r:St6},Q (B,r)→0≤r.at_:=fun h=>by rw [←hQe] at h;exact h.adv.lo
 obtain ⟨i0,ss0,e0⟩:=s
 simp only [Try.f84,aZ] at hc
 subst hc
 refine Gf 2 (of_decide_eq_true (by kernel_rfl)) ?_
 (sym=>simp [hd2,hq,lQ,lX,lK,lZ,Uz,U3,U4,Um,Un,Uo,Up,szP,Ur,Ut,Uv,Us,szN,Uu,ctx_part6_t,ctx_part6_c,ctx_part6_d,ctx_part6_b,Mk.eq_def,mJ,oZ,mW,Tg.eq_def,Zb,Zc,Ze,Zf,Zn,Zo,Zp,Zq,Zu,Zv,Zw,Qa,Qb,Qg,Qh,Qi,Qj,Qm,Qn,Qs,Qu,Qv,Qw,Qx,Q1,Q2,Q3,Q8,Ja,Jb,Jc,Je,Jj,Jq,Jr,Js,Jt,Jv,Jw,Jy,Jz,J2,J6,J7,Xa,Xb,Xj,Xl,Xn,Xo,Xr,Xu,Xw,Xx,Xy,X0,X6,X7,X8,X9,Wb,Wc,Wd,Wf,Wh,Wi,Wj,Wl,Wo,Wp,W6,Yc,Yn,Yo,Yr,Ys,Yt,Yu,Yv,Yw,Yx,Yz,Y2,Y4,Y9,Va,Vm,V0,V1,V2,V3,V4,V5,V6,Ui,Uj,U5,Gp,Gd,K2,G5,Ku,B9];tactic =>
  try simp only [Uq] at *;try simp only [nc2] at *
  try simp (maxSteps:=4000000) only [hd2,hq,lQ,lX,lK,lZ,Uz,U3,U4,Um,Un,Uo,Up,szP,Ur,Ut,Uv,Us,szN,Uu,U6]
  repeat' first|with_reducible assumption|with_reducible apply And.intro|intro _|omega|(rw [Uk];omega)
  refine aLoop_killR 8 15 35 [9,10,18,19,20,21,22,23,24,25,26,27,28,29,30,31,32,33,34,35,36] (fun p:Nat×List Part×Int×List Site×Int=>[(11,.dead),(15,.dead),(16,.dead),(8,.sl 15 (p.2.1.map (enc:Part→D)).length)]) (fun p:Nat×List Part×Int×List Site×Int=>[(4,.box true [.d (.int .i64 p.2.2.1),.d (.list 3 (p.2.2.2.1.map enc)),.d (.int .i64 p.2.2.2.2)]),(15,.row 8 (p.2.1.map enc) 0)]) (fun p:Nat×List Part×Int×List Site×Int=>partL l p.1 (p.2.1,⟨p.2.2.1,p.2.2.2.1,p.2.2.2.2⟩)=R∧Q (p.2.1,⟨p.2.2.1,p.2.2.2.1,p.2.2.2.2⟩)∧1≤p.1∧(p.2.2.2.2=0→(l.length:Int)+1≤p.1+p.2.2.1)) (fun p:Nat×List Part×Int×List Site×Int=>p.1) (l.length+1,A,i,ss,e) ?_ ?_ ?_
  ·exact ⟨hR2,hA,by omega,fun h=>by have h0:=hmono hA;show (l.length:Int)+1≤((l.length+1:Nat):Int)+i;simp only at h0;omega⟩
  ·exact wkq
  rintro ⟨f,B,j,us,g⟩ ⟨hpL,hB,hf1,hf2⟩
  simp only at hpL hB hf1 hf2
  obtain ⟨f,rfl⟩:∃ k,f=k+1:=⟨f-1,by omega⟩
  rw [partL] at hpL
  have m1:=hgo hB
  have b1:=hshort hB
  have o1:=m1.nums
  simp only at o1
  have hstep1:=hstep _ hB
  cases h46:is6 l ⟨j,us,g⟩ 5 [46] with
  | false =>
   rw [if_pos h46] at hpL
   subst hpL
   (sym=>simp [h46,hd2,hR,lQ,lX,lK,lZ,Uz,U3,U4,Um,Un,Uo,Up,szP,Ur,Ut,Uv,Us,szN,Uu,ctx_part6_t,ctx_part6_c,ctx_part6_d,ctx_part6_b,ctx_part6_w,Mk.eq_def,mJ,oZ,mW,Zb,Zc,Ze,Zf,Zg,Zh,Zi,Zj,Zk,Zl,Zm,Zo,Zp,Zq,Zv,Zw,Qb,Qg,Qh,Qj,Qm,Qn,Qp,Qq,Qr,Qs,Qt,Qu,Qv,Qw,Qx,Qy,Qz,Q1,Q3,Q8,Ja,Jb,Jc,Jd,Je,Jl,Jm,Jn,Js,Jt,Ju,Jv,Jw,Jx,Jy,Jz,J2,Xb,Xj,Xk,Xl,Xm,Xp,Xq,Xr,Xs,Xt,Xu,Xv,Xw,Xx,Xy,X2,X6,X7,X8,X9,Wb,Wd,Wf,Wg,Wh,Wi,Wj,Wl,Wo,Wp,Wr,W6,Yd,Yn,Yo,Yp,Yq,Ys,Yt,Yu,Yv,Yw,Yx,Yy,Yz,Y2,Y3,Y4,Y9,Va,Vj,Vl,Vn,Vz,V0,V1,V2,V3,V4,V5,V6,V8,Ui,Uj,U5,Gp,Gd,K2,G5,Ku,B9];tactic =>
    try simp only [Uq] at *;try simp only [nc2] at *
    try simp (maxSteps:=4000000) only [h46,hd2,hR,lQ,lX,lK,lZ,Uz,U3,U4,Um,Un,Uo,Up,szP,Ur,Ut,Uv,Us,szN,Uu,U6]
    repeat' first|with_reducible assumption|with_reducible apply And.intro|intro _|omega|(rw [Uk];omega)
    all_goals first|with_reducible exact okq|omega|rfl|trivial|skip)
  | true =>
   rw [if_neg (by rw [h46];simp)] at hpL
   rw [partL,if_neg (by rw [h46];simp),partL] at hstep1
   have hlt:=is6_lt h46
   simp only at hlt
   have hadv:Pe ⟨j,us,g⟩=⟨j+1,us,g⟩:=rfl
   rw [hadv] at hpL hstep1
   have m2:=m1.is h46
   rw [hadv] at m2
   have o2:=m2.nums
   simp only at o2
   obtain ⟨⟨x,⟨j2,us2,g2⟩⟩,hN⟩:∃ q,Hp l ⟨j+1,us,g⟩ 1=q:=⟨_,rfl⟩
   have hNa:=Ax m2.pos 1
   rw [hN] at hpL hstep1 hNa
   simp only at hpL hstep1
   have hj2:g2=0→j+1≤j2:=hNa.mono
   obtain ⟨M,hM⟩:∃ q,P4 ⟨11,[],x,[],0,0,[],[]⟩ [⟨B⟩]=q:=⟨_,rfl⟩
   rw [hM] at hpL hstep1
   have ha1:B.length≤1000000:=by omega
   (sym=>simp [h46,hN,hM,hd2,lQ,lX,lK,lZ,H7,H9,Hq,Hr,H0,H1,H8,Na,Uz,U3,U4,Um,Un,Uo,Up,szP,Ur,Ut,Uv,Us,szN,Uu,ctx_part6_t,ctx_part6_c,ctx_part6_d,ctx_part6_b,ctx_part6_w,Mk.eq_def,mJ,oZ,mW,Zb,Zc,Ze,Zf,Zg,Zh,Zi,Zj,Zk,Zl,Zm,Zo,Zp,Zq,Zr,Zs,Zu,Zv,Zw,Zx,Z1,Z2,Qa,Qb,Qd,Qf,Qg,Qh,Qi,Qj,Qm,Qn,Qo,Qs,Qt,Qu,Qv,Qw,Qx,Qy,Qz,Q0,Q1,Q2,Q3,Q4,Q5,Q6,Q7,Q8,Q9,Ja,Jb,Jc,Je,Jl,Jm,Jn,Js,Jt,Ju,Jv,Jw,Jx,Jy,Jz,J0,J1,J2,J4,J5,Xa,Xb,Xi,Xj,Xk,Xl,Xm,Xn,Xr,Xs,Xt,Xu,Xv,Xw,Xx,Xy,X0,X1,X2,X3,X4,X5,X6,X7,X8,X9,Wb,Wd,Wf,Wg,Wh,Wi,Wj,Wl,Wm,Wn,Wo,Wp,Wr,Wt,Wx,W2,W4,W5,W6,Yd,Ye,Yn,Yo,Yp,Yq,Yr,Ys,Yt,Yu,Yv,Yw,Yx,Yy,Yz,Y0,Y1,Y2,Y3,Y4,Y9,Va,Vi,Vj,Vl,Vn,Vo,Vr,Vt,Vy,Vz,V0,V1,V2,V3,V4,V5,V6,V8,Ue,Uf,Ui,Uj,U5,Gp,Gd,K2,G5,Ku,B9];tactic =>
    try simp only [Uq] at *;try simp only [nc2] at *
    try simp (maxSteps:=4000000) only [h46,hN,hM,hd2,lQ,lX,lK,lZ,H7,H9,Hq,Hr,H0,H1,H8,Na,Uz,U3,U4,Um,Un,Uo,Up,szP,Ur,Ut,Uv,Us,szN,Uu,U6]
    repeat' first|with_reducible assumption|with_reducible apply And.intro|intro _|omega|(rw [Uk];omega)
    all_goals first|with_reducible exact okq|omega|rfl|trivial|exact ⟨(f,M,j2,us2,g2),by ((try simp only [Ul,U0,Ux,U8,upd,U7,Ki,K0,Nat.reduceDiv,Nat.reduceMod,Nat.reduceMul,Nat.reduceAdd,Nat.reduceEqDiff,aV,aW,if_true,if_false,reduceIte]);simp only [WkR,ren,getD_fl',getC,U7,Ki,K0,lk,upd,List.getD_cons_zero,List.getD_cons_succ,aV,aW,Nat.reduceDiv,Nat.reduceMod,Nat.reduceMul,Nat.reduceAdd,Nat.reduceEqDiff,if_true,if_false,reduceIte];refine And.intro (by first|trivial|rfl) (And.intro ?_ (And.intro (by first|trivial|rfl|simp) (And.intro (by first|trivial|simp [isRow]) (And.intro (by first|decide|omega) (And.intro (by first|decide|omega) (And.intro (by (first|refine keptAll_fl ?_|skip);simp [keptAll,keptCs,AV.kept,lk]) (by simp [Rf,keptAll,AV.kept,lk])))))));exact wkq),hpL,hstep1,by omega,fun h=>by have h1:=hj2 h;have h2:=hf2 hlt.1;show (l.length:Int)+1≤(f:Int)+j2;omega,by omega⟩|skip))
noncomputable def Ec (n:Nat):Ctx:=⟨tab,lkC [(85,Hv),(74,Gs),(84,(Tg n))],60,lkB [],[],false⟩
theorem ctx_operand6_t (n:Nat):(Ec n).τ=tab:=rfl
theorem ctx_operand6_c (n:Nat):(Ec n).Γ=lkC [(85,Hv),(74,Gs),(84,(Tg n))]:=rfl
theorem ctx_operand6_d (n:Nat):(Ec n).dp=60:=rfl
theorem ctx_operand6_b (n:Nat):(Ec n).Δ=lkB []:=rfl
theorem ctx_operand6_w (n:Nat):(Ec n).wr=false:=rfl
set_option maxRecDepth 100000 in
theorem stepi_operand6 (n:Nat) (ih:IH6 n):Hg Try.prog (77,(N6 (n+1))):=by
 refine ⟨Ke Try.func77 (by kernel_rfl) rfl,?_⟩
 have K:Gu Try.prog (Ec n):=Ko G7 Kw (by
  intro p hp
  simp only [bQ,bZ,or_false] at hp
  rcases hp with rfl|rfl|rfl
  ·exact good_begins6
  ·exact Tu
  ·exact ih.part) (by simp)
 obtain ⟨c,hc⟩:∃ c,Try.f77.body=some c:=⟨_,rfl⟩
 refine Kn K Try.func77 hc [.tmp 6,.cell 7 71] rfl 36 rfl (fun cvs hpre=>?_)
 change (N6 (n+1)).pre cvs at hpre
 unfold N6 at hpre
 obtain ⟨⟨l⟩,s,v,rfl,hS,hv1,hv2,hn⟩:=N1 hpre
 simp only at hS
 clear hpre
 obtain ⟨d,hd⟩:∃ d:Nat,v=100-d:=⟨(100-v).toNat,by omega⟩
 subst hd
 have hd2:(100-(100-(d:Int))).toNat=d:=by omega
 have hd4:d≤100:=by omega
 have hT:=hS.toks
 obtain ⟨R,hR⟩:∃ R,operandW (Nm l d) l (100-(d:Int)) s=R:=⟨_,rfl⟩
 have hR2:=hR
 unfold operandW at hR2
 have hA:=reads_part hT (Ho hT d hd4) hv1 hv2 hS.pos
 have hsub:=fun r (h:Pos l r)=>reads_part hT (Ho hT d hd4) hv1 hv2 h
 obtain ⟨⟨A,⟨i,ss,e⟩⟩,hq⟩:∃ q,partW (Nm l d) l (100-(d:Int)) s=q:=⟨_,rfl⟩
 rw [hq] at hR2 hA
 obtain ⟨s0,hs0⟩:∃ q,s=q:=⟨_,rfl⟩
 rw [hs0] at hS hA hR hq
 subst hs0
 have hP:=hS.pos
 have hgo:∀ {B:List Part} {r:St6},Reads l s (B,r)→St6In l r:=fun h=>hS.go h.adv (by omega) (by omega)
 have hshort:∀ {B:List Part} {r:St6},Reads l s (B,r)→B.length≤300000:=fun h=>N3 hS h
 obtain ⟨Q,hQ⟩:∃ Q:List Part×St6→Prop,(fun r=>Reads l s r)=Q:=⟨_,rfl⟩
 have hQe:∀ r,Reads l s r=Q r:=fun r=>congrFun hQ r
 rw [hQe] at hA
 simp only [hQe] at hgo hshort
 have hstep:∀ r,Q r→Q (Rc (Nm l d) l (100-(d:Int)) 1 r):=fun r h=>by rw [←hQe] at h ⊢;exact operandL_reads hT (Ho hT d hd4) hv1 hv2 1 r hP h
 have hmono:∀ {B:List Part} {r:St6},Q (B,r)→0≤r.at_:=fun h=>by rw [←hQe] at h;exact h.adv.lo
 obtain ⟨i0,ss0,e0⟩:=s
 simp only [Try.f77,aZ] at hc
 subst hc
 refine Gf 2 (of_decide_eq_true (by kernel_rfl)) ?_
 (sym=>simp [hd2,hq,lQ,lX,lK,lZ,Uz,U3,U4,Um,Un,Uo,Up,szP,Ur,Ut,Uv,Us,szN,Uu,ctx_operand6_t,ctx_operand6_c,ctx_operand6_d,ctx_operand6_b,Hv.eq_def,oZ,N6.eq_def,Tg.eq_def,Zb,Zc,Ze,Zf,Zn,Zo,Zp,Zq,Zu,Zv,Zw,Qa,Qb,Qg,Qh,Qi,Qj,Qm,Qn,Qs,Qu,Qv,Qw,Qx,Q1,Q2,Q3,Q8,Ja,Jb,Jc,Je,Jj,Jq,Jr,Js,Jt,Jv,Jw,Jy,Jz,J2,J6,J7,Xa,Xb,Xe,Xj,Xl,Xn,Xo,Xr,Xu,Xw,Xx,Xy,X0,X6,X7,X8,X9,Wb,Wc,Wd,Wf,Wh,Wi,Wj,Wl,Wo,Wp,W6,Yc,Yn,Yo,Yr,Ys,Yt,Yu,Yv,Yw,Yx,Yz,Y2,Y4,Y9,Va,Vm,V0,V1,V2,V3,V4,V5,V6,Ui,Uj,U5,Gp,Gd,K2,G5,Ku,B9];tactic =>
  try simp only [Uq] at *;try simp only [nc2] at *
  try simp (maxSteps:=4000000) only [hd2,hq,lQ,lX,lK,lZ,Uz,U3,U4,Um,Un,Uo,Up,szP,Ur,Ut,Uv,Us,szN,Uu,U6]
  repeat' first|with_reducible assumption|with_reducible apply And.intro|intro _|omega|(rw [Uk];omega)
  refine aLoop_killR 8 15 32 [9,10,18,19,20,21,22,23,24,25,26,27,28,29,30,31,32,33] (fun p:Nat×List Part×Int×List Site×Int=>[(11,.dead),(15,.dead),(16,.dead),(8,.sl 15 (p.2.1.map (enc:Part→D)).length)]) (fun p:Nat×List Part×Int×List Site×Int=>[(4,.box true [.d (.int .i64 p.2.2.1),.d (.list 3 (p.2.2.2.1.map enc)),.d (.int .i64 p.2.2.2.2)]),(15,.row 8 (p.2.1.map enc) 0)]) (fun p:Nat×List Part×Int×List Site×Int=>Rc (Nm l d) l (100-(d:Int)) p.1 (p.2.1,⟨p.2.2.1,p.2.2.2.1,p.2.2.2.2⟩)=R∧Q (p.2.1,⟨p.2.2.1,p.2.2.2.1,p.2.2.2.2⟩)∧1≤p.1∧(p.2.2.2.2=0→(l.length:Int)+1≤p.1+p.2.2.1)) (fun p:Nat×List Part×Int×List Site×Int=>p.1) (l.length+1,A,i,ss,e) ?_ ?_ ?_
  ·exact ⟨hR2,hA,by omega,fun h=>by have h0:=hmono hA;show (l.length:Int)+1≤((l.length+1:Nat):Int)+i;simp only at h0;omega⟩
  ·exact wkq
  rintro ⟨f,B,j,us,g⟩ ⟨hpL,hB,hf1,hf2⟩
  simp only at hpL hB hf1 hf2
  obtain ⟨f,rfl⟩:∃ k,f=k+1:=⟨f-1,by omega⟩
  rw [Rc] at hpL
  have m1:=hgo hB
  have b1:=hshort hB
  have o1:=m1.nums
  simp only at o1
  have hstep1:=hstep _ hB
  cases h46:En l ⟨j,us,g⟩ with
  | false =>
   rw [if_pos h46] at hpL
   subst hpL
   (sym=>simp [h46,hd2,hR,lQ,lX,lK,lZ,Uz,U3,U4,Um,Un,Uo,Up,szP,Ur,Ut,Uv,Us,szN,Uu,ctx_operand6_t,ctx_operand6_c,ctx_operand6_d,ctx_operand6_b,ctx_operand6_w,Hv.eq_def,oZ,Tg.eq_def,Zb,Zc,Ze,Zf,Zg,Zh,Zi,Zj,Zk,Zl,Zm,Zo,Zp,Zq,Zv,Zw,Qb,Qg,Qh,Qj,Qm,Qn,Qp,Qq,Qr,Qs,Qt,Qu,Qv,Qw,Qx,Qy,Qz,Q1,Q3,Q8,Ja,Jb,Jc,Jd,Je,Jl,Jm,Jn,Js,Jt,Ju,Jv,Jw,Jx,Jy,Jz,J2,Xb,Xe,Xj,Xk,Xl,Xm,Xp,Xq,Xr,Xs,Xt,Xu,Xv,Xw,Xx,Xy,X2,X6,X7,X8,X9,Wb,Wd,Wf,Wh,Wi,Wj,Wl,Wo,Wp,Wr,W6,Yd,Yn,Yo,Yp,Yq,Ys,Yt,Yu,Yv,Yw,Yz,Y4,Y9,Va,Vz,V0,V1,V2,V3,V4,V5,V6,V8,Ui,Uj,U5,Gp,Gd,K2,G5,Ku,B9];tactic =>
    try simp only [Uq] at *;try simp only [nc2] at *
    try simp (maxSteps:=4000000) only [h46,hd2,hR,lQ,lX,lK,lZ,Uz,U3,U4,Um,Un,Uo,Up,szP,Ur,Ut,Uv,Us,szN,Uu,U6]
    repeat' first|with_reducible assumption|with_reducible apply And.intro|intro _|omega|(rw [Uk];omega)
    all_goals first|with_reducible exact okq|omega|rfl|trivial|skip)
  | true =>
   rw [if_neg (by rw [h46];simp)] at hpL
   rw [Rc,if_neg (by rw [h46];simp),Rc] at hstep1
   have hlt:=begins6_lt h46
   simp only at hlt
   have hx:=hsub _ m1.pos
   obtain ⟨⟨B2,⟨j2,us2,g2⟩⟩,hN⟩:∃ q,partW (Nm l d) l (100-(d:Int)) ⟨j,us,g⟩=q:=⟨_,rfl⟩
   rw [hN] at hpL hstep1 hx
   simp only at hpL hstep1
   have hj2:g2=0→j+1≤j2:=fun h=>by have h1:=(hx.adv.gain h).2;have h2:=(hx.adv.gain h).1;simp only at h1 h2;omega
   have ha2:B2.length≤1000000:=by have h1:=N3 m1 hx;simp only at h1;omega
   obtain ⟨M,hM⟩:∃ q,P4 ⟨3,[],[],[],0,0,[],[]⟩ [⟨B⟩,⟨B2⟩]=q:=⟨_,rfl⟩
   rw [hM] at hpL hstep1
   have ha1:B.length≤1000000:=by omega
   clear hx
   (sym=>simp [h46,hN,hM,hd2,lQ,lX,lK,lZ,H7,H9,Hq,Hr,H0,H1,H8,Na,Uz,U3,U4,Um,Un,Uo,Up,szP,Ur,Ut,Uv,Us,szN,Uu,ctx_operand6_t,ctx_operand6_c,ctx_operand6_d,ctx_operand6_b,ctx_operand6_w,Hv.eq_def,oZ,Tg.eq_def,Zb,Zc,Ze,Zf,Zg,Zh,Zi,Zj,Zk,Zl,Zm,Zo,Zp,Zq,Zr,Zu,Zv,Zw,Z1,Z2,Qa,Qb,Qg,Qh,Qi,Qj,Qm,Qn,Qs,Qt,Qu,Qv,Qw,Qx,Qy,Qz,Q0,Q1,Q2,Q3,Q4,Q5,Q6,Q7,Q8,Q9,Ja,Jb,Jc,Je,Jl,Jm,Jn,Js,Jt,Ju,Jv,Jw,Jx,Jy,Jz,J0,J1,J2,J4,J5,Xa,Xb,Xe,Xi,Xj,Xk,Xl,Xm,Xn,Xr,Xs,Xt,Xu,Xv,Xw,Xx,Xy,X0,X1,X2,X3,X4,X5,X6,X7,X8,X9,Wb,Wd,Wf,Wg,Wh,Wi,Wj,Wl,Wm,Wo,Wp,Wr,W2,W5,W6,Yd,Yn,Yo,Yp,Yq,Yr,Ys,Yt,Yu,Yv,Yw,Yx,Yz,Y0,Y1,Y2,Y4,Y9,Va,Vi,Vj,Vo,Vr,Vy,Vz,V0,V1,V2,V3,V4,V5,V6,V8,Ue,Uf,Ui,Uj,U5,Gp,Gd,K2,G5,Ku,B9];tactic =>
    try simp only [Uq] at *;try simp only [nc2] at *
    try simp (maxSteps:=4000000) only [h46,hN,hM,hd2,lQ,lX,lK,lZ,H7,H9,Hq,Hr,H0,H1,H8,Na,Uz,U3,U4,Um,Un,Uo,Up,szP,Ur,Ut,Uv,Us,szN,Uu,U6]
    repeat' first|with_reducible assumption|with_reducible apply And.intro|intro _|omega|(rw [Uk];omega)
    all_goals first|with_reducible exact okq|omega|rfl|trivial|exact m1|exact ⟨(f,M,j2,us2,g2),by ((try simp only [Ul,U0,Ux,U8,upd,U7,Ki,K0,Nat.reduceDiv,Nat.reduceMod,Nat.reduceMul,Nat.reduceAdd,Nat.reduceEqDiff,aV,aW,if_true,if_false,reduceIte]);simp only [WkR,ren,getD_fl',getC,U7,Ki,K0,lk,upd,List.getD_cons_zero,List.getD_cons_succ,aV,aW,Nat.reduceDiv,Nat.reduceMod,Nat.reduceMul,Nat.reduceAdd,Nat.reduceEqDiff,if_true,if_false,reduceIte];refine And.intro (by first|trivial|rfl) (And.intro ?_ (And.intro (by first|trivial|rfl|simp) (And.intro (by first|trivial|simp [isRow]) (And.intro (by first|decide|omega) (And.intro (by first|decide|omega) (And.intro (by (first|refine keptAll_fl ?_|skip);simp [keptAll,keptCs,AV.kept,lk]) (by simp [Rf,keptAll,AV.kept,lk])))))));exact wkq),hpL,hstep1,by omega,fun h=>by have h1:=hj2 h;have h2:=hf2 hlt.1;show (l.length:Int)+1≤(f:Int)+j2;omega,by omega⟩|skip))
theorem signAt6_t {l:List Tok} {b:Int} {j:Nat} {us:List Site}:signAt6 l b ⟨(j:Int),us,0⟩=(ltB (j:Int) (l.length:Int)&&((l.getD j Td).kind==5&&in6 (signs6 b) (l.getD j Td).text)):=by
 unfold signAt6
 simp only [C6]
 rfl
noncomputable def ctx_ops6 (n:Nat):Ctx:=⟨tab,lkC [(77,(N6 n)),(66,(N9 n)),(78,Lg),(30,Mn),(74,Gs)],60,lkB [],[],false⟩
theorem E8 (n:Nat):(ctx_ops6 n).τ=tab:=rfl
theorem Fa (n:Nat):(ctx_ops6 n).Γ=lkC [(77,(N6 n)),(66,(N9 n)),(78,Lg),(30,Mn),(74,Gs)]:=rfl
theorem E9 (n:Nat):(ctx_ops6 n).dp=60:=rfl
theorem Fb (n:Nat):(ctx_ops6 n).Δ=lkB []:=rfl
theorem ctx_ops6_u (n:Nat):(ctx_ops6 n).cuts=[]:=rfl
theorem Af (n:Nat):(ctx_ops6 n).wr=false:=rfl
set_option maxRecDepth 100000 in
theorem stepi_ops6 (n:Nat) (ih:IH6 n):Hg Try.prog (66,(N9 (n+1))):=by
 refine ⟨Ke Try.func66 (by kernel_rfl) rfl,?_⟩
 have K:Gu Try.prog (ctx_ops6 n):=Ko G7 Kw (by
  intro p hp
  simp only [bQ,bZ,or_false] at hp
  rcases hp with rfl|rfl|rfl|rfl|rfl
  ·exact ih.operand
  ·exact ih.ops
  ·exact good_signs6
  ·exact good_in6
  ·exact Tu) (by simp)
 obtain ⟨c,hc⟩:∃ c,Try.f66.body=some c:=⟨_,rfl⟩
 refine Kn K Try.func66 hc [.tmp 8,.cell 9 71] rfl 89 rfl (fun cvs hpre=>?_)
 change (N9 (n+1)).pre cvs at hpre
 unfold N9 at hpre
 obtain ⟨⟨l⟩,s,v,b,rfl,hS,hv1,hv2,hb1,hb2,hn⟩:=cn4o_pre hpre
 simp only at hS
 clear hpre
 obtain ⟨d,hd⟩:∃ d:Nat,v=100-d:=⟨(100-v).toNat,by omega⟩
 subst hd
 have hd2:(100-(100-(d:Int))).toNat=d:=by omega
 have hd4:d≤100:=by omega
 have hT:=hS.toks
 by_cases hb5:b=5
 ·subst hb5
  have h55:((5:Int)==5)=true:=rfl
  have hm0:((5:Int)-5).toNat=0:=rfl
  obtain ⟨⟨A,⟨i,ss,e⟩⟩,hR⟩:∃ R,operandW (Nm l d) l (100-(d:Int)) s=R:=⟨_,rfl⟩
  have hR2:opsW (Nm l d) l (100-(d:Int)) 0 s=(A,⟨i,ss,e⟩):=by rw [←hR];rfl
  obtain ⟨i0,ss0,e0⟩:=s
  simp only [Try.f66,aZ] at hc
  subst hc
  refine Gf 5 (of_decide_eq_true (by kernel_rfl)) ?_
  (sym=>simp [hd2,hm0,h55,hR,hR2,lQ,lX,lK,lZ,nY,Uz,U3,U4,Um,Un,Uo,Up,szP,Ur,Ut,Uv,Us,szN,Uu,E8,Fa,E9,Fb,ctx_ops6_u,oY,oZ,N6.eq_def,N9.eq_def,Lg.eq_def,Zb,Zc,Ze,Zf,Zn,Zo,Zp,Zq,Zu,Zv,Zw,Qa,Qb,Qd,Qf,Qg,Qh,Qi,Qj,Qm,Qn,Qp,Qq,Qr,Qs,Qu,Qv,Qw,Qx,Q1,Q2,Q3,Q8,Ja,Jb,Jc,Jd,Je,Jf,Jj,Jq,Jr,Js,Jt,Jv,Jw,Jy,Jz,J2,J6,J7,Xa,Xb,Xd,Xe,Xj,Xl,Xm,Xq,Xr,Xu,Xw,Xx,Xy,X0,X6,X7,X8,X9,Wb,Wc,Wd,Wf,Wh,Wi,Wj,Wl,Wo,Wp,Wt,Wx,W6,Yc,Yn,Yo,Yr,Ys,Yt,Yu,Yv,Yw,Yx,Yz,Y2,Y4,Y8,Y9,Va,Vj,Vm,Vy,Vz,V0,V1,V3,V4,V5,V6,Ui,Uj,U5,Kh,Ks,Gp,Gd,K2,G5,Ku,B9];tactic =>
   try simp only [Uq] at *;try simp only [nc2] at *
   try simp (maxSteps:=4000000) only [hd2,hm0,h55,hR,hR2,lQ,lX,lK,lZ,nY,Uz,U3,U4,Um,Un,Uo,Up,szP,Ur,Ut,Uv,Us,szN,Uu,U6]
   repeat' first|with_reducible assumption|with_reducible apply And.intro|intro _|omega|(rw [Uk];omega)
   all_goals first|with_reducible exact okq|omega|exact hS|rfl|trivial|skip)
 have hb5b:(b==5)=false:=by rw [aQ];exact hb5
 obtain ⟨m,hm⟩:∃ m:Nat,b=4-m:=⟨(4-b).toNat,by omega⟩
 subst hm
 have hm1:(5-(4-(m:Int))).toNat=m+1:=by omega
 have hm2:(5-(4-(m:Int)+1)).toNat=m:=by omega
 obtain ⟨R,hR⟩:∃ R,opsW (Nm l d) l (100-(d:Int)) (m+1) s=R:=⟨_,rfl⟩
 have hR2:=hR
 rw [opsW] at hR2
 have hsub:=fun r (h:Pos l r)=>reads_ops hT (Ho hT d hd4) hv1 hv2 m r h
 have hA:=hsub s hS.pos
 obtain ⟨sub,hsubq⟩:∃ q,opsW (Nm l d) l (100-(d:Int)) m=q:=⟨_,rfl⟩
 rw [hsubq] at hR2 hA hsub
 simp only at hR2
 obtain ⟨⟨A,⟨i,ss,e⟩⟩,hq⟩:∃ q,sub s=q:=⟨_,rfl⟩
 rw [hq] at hR2 hA
 have hP:=hS.pos
 have hgo:∀ {B:List Part} {r:St6},Reads l s (B,r)→St6In l r:=fun h=>hS.go h.adv (by omega) (by omega)
 have hshort:∀ {B:List Part} {r:St6},Reads l s (B,r)→B.length≤300000:=fun h=>N3 hS h
 obtain ⟨Q,hQ⟩:∃ Q:List Part×St6→Prop,(fun r=>Reads l s r)=Q:=⟨_,rfl⟩
 have hQe:∀ r,Reads l s r=Q r:=fun r=>congrFun hQ r
 rw [hQe] at hA
 simp only [hQe] at hgo hshort
 have hstep:∀ r,Q r→Q (opsL l (4-(m:Int)) sub 1 r):=fun r h=>by rw [←hQe] at h ⊢;exact opsL_reads hT hsub 1 r hP h
 have hmono:∀ {B:List Part} {r:St6},Q (B,r)→0≤r.at_:=fun h=>by rw [←hQe] at h;exact h.adv.lo
 obtain ⟨i0,ss0,e0⟩:=s
 simp only [Try.f66,aZ] at hc
 subst hc
 refine Gf 5 (of_decide_eq_true (by kernel_rfl)) ?_
 (sym=>simp [hd2,hm1,hm2,hb5b,hsubq,hq,lQ,lX,lK,lZ,nY,Uz,U3,U4,Um,Un,Uo,Up,szP,Ur,Ut,Uv,Us,szN,Uu,E8,Fa,E9,Fb,ctx_ops6_u,Af,oY,oZ,N6.eq_def,N9.eq_def,Lg.eq_def,Zb,Zc,Ze,Zf,Zn,Zo,Zp,Zq,Zu,Zv,Zw,Qa,Qb,Qd,Qf,Qg,Qh,Qi,Qj,Qm,Qn,Qs,Qu,Qv,Qw,Qx,Q1,Q2,Q3,Q8,Ja,Jb,Jc,Je,Jf,Jj,Jq,Jr,Js,Jt,Jv,Jw,Jy,Jz,J2,J6,J7,Xa,Xb,Xd,Xe,Xi,Xj,Xl,Xm,Xn,Xo,Xr,Xu,Xw,Xx,Xy,X0,X6,X7,X8,X9,Wb,Wc,Wd,Wf,Wh,Wi,Wj,Wl,Wo,Wp,Wt,Wx,W6,Yc,Yn,Yo,Yr,Ys,Yt,Yu,Yv,Yw,Yx,Yz,Y2,Y4,Y9,Va,Vj,Vm,Vz,V0,V1,V2,V3,V4,V5,V6,Ui,Uj,U5,Kh,Ks,Gp,Gd,K2,G5,Ku,B9];tactic =>
  try simp only [Uq] at *;try simp only [nc2] at *
  try simp (maxSteps:=4000000) only [hd2,hm1,hm2,hb5b,hsubq,hq,lQ,lX,lK,lZ,nY,Uz,U3,U4,Um,Un,Uo,Up,szP,Ur,Ut,Uv,Us,szN,Uu,U6]
  repeat' first|with_reducible assumption|with_reducible apply And.intro|intro _|omega|(rw [Uk];omega)
  all_goals first|exact hS|skip
  refine aLoop_killR 10 28 85 [11,12,13,31,32,33,34,35,36,37,38,39,40,41,42,43,44,45,46,47,48,49,50,51,52,53,54,55,56,57,58,59,60,61,62,63,64,65,66,67,68,69,70,71,72,73,74,75,76,77,78,79,80,81,82,83,84,85,86] (fun p:Nat×List Part×Int×List Site×Int=>[(22,.dead),(28,.dead),(29,.dead),(10,.sl 28 (p.2.1.map (enc:Part→D)).length)]) (fun p:Nat×List Part×Int×List Site×Int=>[(5,.box true [.d (.int .i64 p.2.2.1),.d (.list 3 (p.2.2.2.1.map enc)),.d (.int .i64 p.2.2.2.2)]),(28,.row 8 (p.2.1.map enc) 0)]) (fun p:Nat×List Part×Int×List Site×Int=>opsL l (4-(m:Int)) sub p.1 (p.2.1,⟨p.2.2.1,p.2.2.2.1,p.2.2.2.2⟩)=R∧Q (p.2.1,⟨p.2.2.1,p.2.2.2.1,p.2.2.2.2⟩)∧1≤p.1∧(p.2.2.2.2=0→(l.length:Int)+1≤p.1+p.2.2.1)) (fun p:Nat×List Part×Int×List Site×Int=>p.1) (l.length+1,A,i,ss,e) ?_ ?_ ?_
  ·exact ⟨hR2,hA,by omega,fun h=>by have h0:=hmono hA;show (l.length:Int)+1≤((l.length+1:Nat):Int)+i;simp only at h0;omega⟩
  ·exact wkq
  rintro ⟨f,B,j,us,g⟩ ⟨hpL,hB,hf1,hf2⟩
  simp only at hpL hB hf1 hf2
  obtain ⟨f,rfl⟩:∃ k,f=k+1:=⟨f-1,by omega⟩
  rw [opsL] at hpL
  have m1:=hgo hB
  have b1:=hshort hB
  have o1:=m1.nums
  simp only at o1
  obtain ⟨j,rfl⟩:∃ n:Nat,j=n:=⟨j.toNat,by omega⟩
  have hstep1:=hstep _ hB
  have hexit:signAt6 l (4-(m:Int)) ⟨j,us,g⟩=false→(B,(⟨j,us,g⟩:St6))=R:=fun h=>by rw [if_pos h] at hpL;exact hpL
  by_cases hg:g=0
  case neg =>
   have hgb:(g==0)=false:=by rw [aQ];exact hg
   have hR3:=hexit (by unfold signAt6;simp only [hgb,Bool.false_and])
   subst hR3
   (sym=>simp [hgb,hd2,hm1,hR,oV,lQ,lX,lK,lZ,nY,U1,Kb,Kc,Ka,Gl,Uz,U3,U4,Um,Un,Uo,Up,szP,Ur,Ut,Uv,Us,szN,Uu,E8,Fa,E9,Fb,Af,oY,oZ,N6.eq_def,N9.eq_def,Lg.eq_def,Zc,Zd,Ze,Zf,Zg,Zh,Zi,Zj,Zk,Zl,Zm,Zo,Zp,Zq,Zs,Zt,Zv,Zw,Zx,Qd,Qf,Qj,Qm,Qn,Qo,Qp,Qq,Qr,Qt,Qu,Qw,Qy,Qz,Q1,Q3,Ja,Jb,Jd,Jl,Jm,Jn,Js,Jt,Ju,Jv,Jw,Jx,Jy,Jz,J2,Xb,Xe,Xk,Xl,Xm,Xp,Xq,Xs,Xt,Xu,Xv,Xw,Xx,Xy,X2,X6,X7,X8,X9,Wh,Wi,Wj,Wl,Wm,Wn,Wo,Wp,Wr,Wt,Wx,W6,Yn,Yo,Yp,Yq,Ys,Yt,Yu,Yv,Yw,Y9,Vj,Vk,Vz,V0,V1,V2,V3,V4,V8,Ui,Uj,U5,Kh,Ks,Gp,Gd,K2,G5,Ku,B9];tactic =>
    try simp only [Uq] at *;try simp only [nc2] at *
    try simp (maxSteps:=4000000) only [hgb,hd2,hm1,hR,oV,lQ,lX,lK,lZ,nY,U1,Kb,Kc,Ka,Gl,Uz,U3,U4,Um,Un,Uo,Up,szP,Ur,Ut,Uv,Us,szN,Uu,U6]
    repeat' first|with_reducible assumption|with_reducible apply And.intro|intro _|omega|(rw [Uk];omega)
    all_goals first|with_reducible exact okq|omega|rfl|trivial|skip)
  subst hg
  have hf2:=hf2 rfl
  have hgb:((0:Int)==0)=true:=rfl
  rw [signAt6_t] at hexit
  rcases Kt j l.length with ⟨hlt,hlb⟩|⟨hlt,hlb⟩
  rotate_left
  ·have hR3:=hexit (by rw [hlb,Bool.false_and])
   subst hR3
   (sym=>simp [hgb,hlb,hd2,hm1,hR,oV,lQ,lX,lK,lZ,nY,U1,Kb,Kc,Ka,Gl,Uz,U3,U4,Um,Un,Uo,Up,szP,Ur,Ut,Uv,Us,szN,Uu,E8,Fa,E9,Fb,Af,oY,oZ,N6.eq_def,N9.eq_def,Lg.eq_def,Zc,Zd,Ze,Zf,Zg,Zh,Zi,Zj,Zk,Zl,Zm,Zo,Zp,Zq,Zs,Zt,Zv,Zw,Zx,Z6,Qd,Qf,Qj,Qm,Qn,Qo,Qp,Qq,Qr,Qt,Qu,Qw,Qy,Qz,Q1,Q3,Ja,Jb,Jd,Jl,Jm,Jn,Js,Jt,Ju,Jv,Jw,Jx,Jy,Jz,J2,Xb,Xe,Xk,Xl,Xm,Xp,Xq,Xs,Xt,Xu,Xv,Xw,Xx,Xy,X2,X6,X7,X8,X9,Wh,Wi,Wj,Wl,Wm,Wn,Wo,Wp,Wr,Wt,Wx,W6,Yf,Yg,Yn,Yo,Yp,Yq,Ys,Yt,Yu,Yv,Yw,Y9,Va,Vj,Vk,Vy,Vz,V0,V1,V2,V3,V4,V8,Ui,Uj,U5,Kh,Ks,Gp,Gd,K2,G5,Ku,B9];tactic =>
    try simp only [Uq] at *;try simp only [nc2] at *
    try simp (maxSteps:=4000000) only [hgb,hlb,hd2,hm1,hR,oV,lQ,lX,lK,lZ,nY,U1,Kb,Kc,Ka,Gl,Uz,U3,U4,Um,Un,Uo,Up,szP,Ur,Ut,Uv,Us,szN,Uu,U6]
    repeat' first|with_reducible assumption|with_reducible apply And.intro|intro _|omega|(rw [Uk];omega)
    all_goals first|with_reducible exact okq|omega|rfl|trivial|skip)
  have q1:=K7 Td hlt
  rw [signAt6_t] at hpL
  have hop:=tkText_short hT (j:Int)
  rw [opsL,signAt6_t] at hstep1
  simp only [C6] at hpL hstep1 hop
  obtain ⟨t,ht⟩:∃ t,l.getD j Td=t:=⟨_,rfl⟩
  rw [ht] at q1 hexit hpL hop hstep1
  cases hk:t.kind==5 with
  | false =>
   have hR3:=hexit (by rw [hlb,hk];rfl)
   subst hR3
   (sym=>simp [hgb,hlb,hk,q1,hd2,hm1,hR,oV,lQ,lX,lK,lZ,nY,U1,Kb,Kc,Ka,Gl,Uz,U3,U4,Um,Un,Uo,Up,szP,Ur,Ut,Uv,Us,szN,Uu,E8,Fa,E9,Fb,Af,oY,oZ,N6.eq_def,N9.eq_def,Lg.eq_def,Zc,Zd,Ze,Zf,Zg,Zh,Zi,Zj,Zk,Zl,Zm,Zo,Zp,Zq,Zs,Zt,Zv,Zw,Zx,Zy,Z6,Qd,Qf,Qj,Qm,Qn,Qo,Qp,Qq,Qr,Qt,Qu,Qw,Qy,Qz,Q1,Q3,Ja,Jb,Jd,Jl,Jm,Jn,Js,Jt,Ju,Jv,Jw,Jx,Jy,Jz,J2,Xb,Xe,Xk,Xl,Xm,Xp,Xq,Xs,Xt,Xu,Xv,Xw,Xx,Xy,X2,X6,X7,X8,X9,Wh,Wi,Wj,Wl,Wm,Wn,Wo,Wp,Wr,Wt,Wx,W1,W6,W7,Yb,Yf,Yg,Yn,Yo,Yp,Yq,Ys,Yt,Yu,Yv,Yw,Y7,Y9,Va,Vj,Vk,Vy,Vz,V0,V1,V2,V3,V4,V8,Ui,Uj,U5,Kh,Ks,Gp,Gd,K2,G5,Ku,B9];tactic =>
    try simp only [Uq] at *;try simp only [nc2] at *
    try simp (maxSteps:=4000000) only [hgb,hlb,hk,q1,hd2,hm1,hR,oV,lQ,lX,lK,lZ,nY,U1,Kb,Kc,Ka,Gl,Uz,U3,U4,Um,Un,Uo,Up,szP,Ur,Ut,Uv,Us,szN,Uu,U6]
    repeat' first|with_reducible assumption|with_reducible apply And.intro|intro _|omega|(rw [Uk];omega)
    all_goals first|with_reducible exact okq|omega|rfl|trivial|skip)
  | true =>
   have hsl:(signs6 (4-(m:Int))).length≤1000000:=by
    unfold signs6
    repeat' split
    all_goals simp
   cases hin:in6 (signs6 (4-(m:Int))) t.text with
   | false =>
    have hR3:=hexit (by rw [hlb,hk,hin];rfl)
    subst hR3
    (sym=>simp [hgb,hlb,hk,hin,q1,hd2,hm1,hR,oV,lQ,lX,lK,lZ,nY,U1,Kb,Kc,Ka,Gl,Uz,U3,U4,Um,Un,Uo,Up,szP,Ur,Ut,Uv,Us,szN,Uu,E8,Fa,E9,Fb,Af,oY,oZ,N6.eq_def,N9.eq_def,Lg.eq_def,Zc,Zd,Ze,Zf,Zg,Zh,Zi,Zj,Zk,Zl,Zm,Zo,Zp,Zq,Zs,Zt,Zv,Zw,Zx,Zy,Z6,Qb,Qd,Qf,Qg,Qh,Qj,Qm,Qn,Qo,Qp,Qq,Qr,Qt,Qu,Qw,Qy,Qz,Q1,Q3,Q8,Ja,Jb,Jc,Jd,Je,Jl,Jm,Jn,Js,Jt,Ju,Jv,Jw,Jx,Jy,Jz,J2,Xb,Xe,Xk,Xl,Xm,Xp,Xq,Xs,Xt,Xu,Xv,Xw,Xx,Xy,X2,X3,X4,X5,X6,X7,X8,X9,Wb,Wd,Wf,Wh,Wi,Wj,Wl,Wm,Wn,Wo,Wp,Wr,Wt,Wx,W1,W6,W7,W9,Yb,Yd,Yf,Yg,Yn,Yo,Yp,Yq,Ys,Yt,Yu,Yv,Yw,Yx,Yy,Yz,Y2,Y3,Y4,Y7,Y9,Va,Vj,Vk,Vy,Vz,V0,V1,V2,V3,V4,V8,Ui,Uj,U5,Kh,Ks,Gp,Gd,K2,G5,Ku,B9];tactic =>
     try simp only [Uq] at *;try simp only [nc2] at *
     try simp (maxSteps:=4000000) only [hgb,hlb,hk,hin,q1,hd2,hm1,hR,oV,lQ,lX,lK,lZ,nY,U1,Kb,Kc,Ka,Gl,Uz,U3,U4,Um,Un,Uo,Up,szP,Ur,Ut,Uv,Us,szN,Uu,U6]
     repeat' first|with_reducible assumption|with_reducible apply And.intro|intro _|omega|(rw [Uk];omega)
     all_goals first|with_reducible exact okq|omega|rfl|trivial|skip)
   | true =>
    have hsg:(ltB (j:Int) (l.length:Int)&&(t.kind==5&&in6 (signs6 (4-(m:Int))) t.text))=true:=by rw [hlb,hk,hin];rfl
    rw [if_neg (by rw [hsg];simp)] at hpL
    rw [if_neg (by rw [hsg];simp),opsL] at hstep1
    have hadv:Pe ⟨(j:Int),us,0⟩=⟨(j:Int)+1,us,0⟩:=rfl
    rw [hadv] at hpL hstep1
    have m2:=m1.adv rfl (by show (j:Int)<l.length;omega)
    rw [hadv] at m2
    have hx:=hsub _ m2.pos
    obtain ⟨⟨B2,⟨j2,us2,g2⟩⟩,hN⟩:∃ q,sub ⟨(j:Int)+1,us,0⟩=q:=⟨_,rfl⟩
    rw [hN] at hpL hstep1 hx
    simp only at hpL hstep1
    have hj2:g2=0→(j:Int)+1≤j2:=fun h=>by have h1:=(hx.adv.gain h).2;have h2:=(hx.adv.gain h).1;simp only at h1 h2;omega
    have ha2:B2.length≤1000000:=by have h1:=N3 m2 hx;simp only at h1;omega
    obtain ⟨M,hM⟩:∃ q,P4 ⟨9,[],t.text,[],0,0,[],[]⟩ [⟨B⟩,⟨B2⟩]=q:=⟨_,rfl⟩
    rw [hM] at hpL hstep1
    have ha1:B.length≤1000000:=by omega
    clear hx
    (sym=>simp [hgb,hlb,hk,hin,q1,hN,hM,hsubq,hd2,hm1,hm2,oV,lQ,lX,lK,lZ,nY,H7,H9,Hq,Hr,H0,H1,H8,Na,U1,Kb,Kc,Ka,Gl,Uz,U3,U4,Um,Un,Uo,Up,szP,Ur,Ut,Uv,Us,szN,Uu,E8,Fa,E9,Fb,Af,oY,oZ,N6.eq_def,N9.eq_def,Lg.eq_def,Zb,Zc,Zd,Ze,Zf,Zg,Zh,Zi,Zj,Zk,Zl,Zm,Zo,Zp,Zq,Zr,Zs,Zt,Zu,Zv,Zw,Zx,Zy,Z1,Z2,Z6,Qa,Qb,Qd,Qf,Qg,Qh,Qi,Qj,Qm,Qn,Qo,Qs,Qt,Qu,Qv,Qw,Qx,Qy,Qz,Q0,Q1,Q2,Q3,Q4,Q5,Q6,Q7,Q8,Q9,Ja,Jb,Jc,Je,Jl,Jm,Jn,Js,Jt,Ju,Jv,Jw,Jx,Jy,Jz,J0,J1,J2,J4,J5,Xa,Xb,Xe,Xi,Xj,Xk,Xl,Xm,Xn,Xr,Xs,Xt,Xu,Xv,Xw,Xx,Xy,X0,X1,X2,X3,X4,X5,X6,X7,X8,X9,Wb,Wd,Wf,Wg,Wh,Wi,Wj,Wl,Wm,Wn,Wo,Wp,Wr,Wt,Wx,W1,W2,W4,W5,W6,W7,W9,Yb,Yd,Yf,Yg,Yn,Yo,Yp,Yq,Yr,Ys,Yt,Yu,Yv,Yw,Yx,Yy,Yz,Y0,Y1,Y2,Y3,Y4,Y7,Y9,Va,Vi,Vj,Vk,Vo,Vr,Vt,Vy,Vz,V0,V1,V2,V3,V4,V5,V6,V8,Ue,Uf,Ui,Uj,U5,Kh,Ks,Gp,Gd,K2,G5,Ku,B9];tactic =>
     try simp only [Uq] at *;try simp only [nc2] at *
     try simp (maxSteps:=4000000) only [hgb,hlb,hk,hin,q1,hN,hM,hsubq,hd2,hm1,hm2,oV,lQ,lX,lK,lZ,nY,H7,H9,Hq,Hr,H0,H1,H8,Na,U1,Kb,Kc,Ka,Gl,Uz,U3,U4,Um,Un,Uo,Up,szP,Ur,Ut,Uv,Us,szN,Uu,U6]
     repeat' first|with_reducible assumption|with_reducible apply And.intro|intro _|omega|(rw [Uk];omega)
     all_goals first|with_reducible exact okq|omega|exact m2|rfl|trivial|exact ⟨(f,M,j2,us2,g2),by ((try simp only [Ul,U0,Ux,U8,upd,U7,Ki,K0,Nat.reduceDiv,Nat.reduceMod,Nat.reduceMul,Nat.reduceAdd,Nat.reduceEqDiff,aV,aW,if_true,if_false,reduceIte]);simp only [WkR,ren,getD_fl',getC,U7,Ki,K0,lk,upd,List.getD_cons_zero,List.getD_cons_succ,aV,aW,Nat.reduceDiv,Nat.reduceMod,Nat.reduceMul,Nat.reduceAdd,Nat.reduceEqDiff,if_true,if_false,reduceIte];refine And.intro (by first|trivial|rfl) (And.intro ?_ (And.intro (by first|trivial|rfl|simp) (And.intro (by first|trivial|simp [isRow]) (And.intro (by first|decide|omega) (And.intro (by first|decide|omega) (And.intro (by (first|refine keptAll_fl ?_|skip);simp [keptAll,keptCs,AV.kept,lk]) (by simp [Rf,keptAll,AV.kept,lk])))))));exact wkq),hpL,hstep1,by omega,fun h=>by have h1:=hj2 h;have h2:=hf2;show (l.length:Int)+1≤(f:Int)+j2;omega,by omega⟩|skip))
theorem lab6_cons {x:List UInt8} {a:Part} {A:List Part}:lab6 x (a::A)=⟨a.kind,x,a.name,a.bind,a.many,a.num,a.t,a.u⟩::A:=rfl
noncomputable def Ac (n:Nat):Ctx:=⟨tab,lkC [(28,Gy),(76,Mb),(32,Gk),(47,(Gi n))],60,lkB [],[],false⟩
theorem Ih (n:Nat):(Ac n).τ=tab:=rfl
theorem Ij (n:Nat):(Ac n).Γ=lkC [(28,Gy),(76,Mb),(32,Gk),(47,(Gi n))]:=rfl
theorem Ii (n:Nat):(Ac n).dp=60:=rfl
theorem Ik (n:Nat):(Ac n).Δ=lkB []:=rfl
theorem ctx_rows6_u (n:Nat):(Ac n).cuts=[]:=rfl
theorem ctx_rows6_w (n:Nat):(Ac n).wr=false:=rfl
set_option maxRecDepth 100000 in
theorem stepi_rows6 (n:Nat) (ih:IH6 n):Hg Try.prog (98,(Mv (n+1))):=by
 refine ⟨Ke Try.func98 (by kernel_rfl) rfl,?_⟩
 have K:Gu Try.prog (Ac n):=Ko G7 Kw (by
  intro p hp
  simp only [bQ,bZ,or_false] at hp
  rcases hp with rfl|rfl|rfl|rfl
  ·exact Ib
  ·exact good_label6
  ·exact Cq
  ·exact ih.expr) (by simp)
 obtain ⟨c,hc⟩:∃ c,Try.f98.body=some c:=⟨_,rfl⟩
 refine Kn K Try.func98 hc [.tmp 6,.cell 7 71] rfl 79 rfl (fun cvs hpre=>?_)
 change (Mv (n+1)).pre cvs at hpre
 unfold Mv at hpre
 obtain ⟨⟨l⟩,s,v,rfl,hS,hv1,hv2,hn⟩:=N1 hpre
 simp only at hS
 clear hpre
 obtain ⟨d,hd⟩:∃ d:Nat,v=101-d:=⟨(101-v).toNat,by omega⟩
 subst hd
 have hd2:(101-(101-(d:Int))).toNat=d:=by omega
 have hd4:d≤100:=by omega
 have hT:=hS.toks
 have o0:=hS.nums
 obtain ⟨R,hR⟩:∃ R,rowsW (Nm l d) l s=R:=⟨_,rfl⟩
 have hR2:=hR
 unfold rowsW at hR2
 obtain ⟨i0,ss0,e0⟩:=s
 simp only at o0
 simp only [Try.f98,aZ] at hc
 subst hc
 refine Gf 4 (of_decide_eq_true (by kernel_rfl)) ?_
 cases h125:is6 l ⟨i0,ss0,e0⟩ 5 [125] with
 | true =>
  rw [h125,if_pos rfl] at hR2
  have hadv:Pe ⟨i0,ss0,e0⟩=⟨i0+1,ss0,e0⟩:=rfl
  rw [hadv] at hR2
  subst hR2
  (sym=>simp [hd2,h125,hR,lQ,lX,lZ,oX,Uz,U3,U4,Um,Un,Uo,Up,szP,Ur,Ut,Uv,Us,szN,Uu,Ih,Ij,Ii,Ik,ctx_rows6_w,nK,mJ,Mb.eq_def,Mv.eq_def,nW,Zb,Zc,Ze,Zf,Zh,Zi,Zj,Zk,Zl,Zm,Zn,Zo,Zp,Zq,Zr,Zs,Zu,Zv,Zw,Zx,Z1,Z2,Qb,Qd,Qf,Qg,Qh,Qj,Qm,Qn,Qo,Qp,Qq,Qr,Qs,Qt,Qu,Qv,Qw,Qx,Qy,Qz,Q0,Q1,Q3,Q4,Q5,Q6,Q7,Q8,Q9,Ja,Jb,Jc,Jd,Je,Jj,Jq,Jr,Js,Jt,Jv,Jw,Jy,Jz,J0,J1,J2,J5,J6,J7,Xa,Xb,Xf,Xj,Xk,Xl,Xm,Xq,Xr,Xs,Xt,Xu,Xv,Xw,Xx,Xy,X0,X1,X2,X4,X6,X7,X8,X9,Wb,Wc,Wd,Wf,Wg,Wh,Wi,Wj,Wl,Wm,Wo,Wp,Wt,Wx,W2,W6,Yc,Yd,Yn,Yo,Yp,Yr,Ys,Yt,Yu,Yv,Yw,Yx,Yy,Yz,Y2,Y3,Y4,Y9,Va,Vi,Vj,Vl,Vm,Vn,Vo,Vr,Vy,Vz,V0,V1,V2,V4,V5,V6,V8,Ue,Uf,Ui,Uj,U5,K9,Kh,Gg,Ks,Gp,Gd,K2,G5,Ku];tactic =>
   try simp only [Uq] at *;try simp only [nc2] at *
   try simp (maxSteps:=4000000) only [hd2,h125,hR,lQ,lX,lZ,oX,Uz,U3,U4,Um,Un,Uo,Up,szP,Ur,Ut,Uv,Us,szN,Uu,U6]
   repeat' first|with_reducible assumption|with_reducible apply And.intro|intro _|omega|(rw [Uk];omega)
   all_goals first|with_reducible exact okq|omega|rfl|trivial|skip)
 | false =>
  rw [h125,if_neg (by simp)] at hR2
  (sym=>simp [hd2,h125,lQ,lX,lZ,oX,Uz,U3,U4,Um,Un,Uo,Up,szP,Ur,Ut,Uv,Us,szN,Uu,Ih,Ij,Ii,Ik,nK,mJ,Mb.eq_def,Mv.eq_def,nW,Zb,Zc,Ze,Zf,Zn,Zo,Zp,Zq,Zr,Zu,Zv,Z1,Z2,Qb,Qg,Qh,Qj,Qn,Qs,Qu,Qv,Qw,Qx,Q0,Q1,Q3,Q4,Q5,Q6,Q7,Q8,Q9,Ja,Jb,Jc,Je,Jj,Jq,Jr,Js,Jt,Jv,Jw,Jy,Jz,J0,J1,J2,J5,J6,J7,Xa,Xb,Xf,Xi,Xj,Xl,Xm,Xn,Xo,Xr,Xu,Xw,Xx,Xy,X0,X1,X6,X7,X8,X9,Wb,Wc,Wd,Wf,Wg,Wh,Wi,Wj,Wl,Wm,Wo,Wp,W2,W6,Yc,Yd,Yn,Yo,Yp,Yr,Ys,Yt,Yu,Yv,Yw,Yx,Yy,Yz,Y2,Y3,Y4,Y9,Va,Vi,Vj,Vl,Vm,Vn,Vo,Vr,Vz,V0,V1,V2,V5,V6,Ue,Uf,Ui,U5,K9,Kh,Gg,Ks,Gp,Gd,K2,G5,Ku];tactic =>
   try simp only [Uq] at *;try simp only [nc2] at *
   try simp (maxSteps:=4000000) only [hd2,h125,lQ,lX,lZ,oX,Uz,U3,U4,Um,Un,Uo,Up,szP,Ur,Ut,Uv,Us,szN,Uu,U6]
   repeat' first|with_reducible assumption|with_reducible apply And.intro|intro _|omega|(rw [Uk];omega)
   refine Kk [6,10,11,12,13,27,28,29,30,31,32,33,34,35,36,37,38,39,40,41,42,43,44,45,46,47,48,49,50,51,52,53,54,55,56,57,58,59,60,61,62,63,64,65,66,67,68,69,70,71,72,73,74,75,76,77,78] (fun p:Nat×Int×List Site×Int×List (List UInt8)×List Part=>[(8,.sl 25 (enc (⟨10,[],[],[],(p.2.2.2.2.1.length:Int),0,[],[]⟩:Part)::p.2.2.2.2.2.map (enc:Part→D)).length),(9,.sl 26 (p.2.2.2.2.1.map (enc:List UInt8→D)).length)]) (fun p:Nat×Int×List Site×Int×List (List UInt8)×List Part=>[(4,.box true [.d (.int .i64 p.2.1),.d (.list 3 (p.2.2.1.map enc)),.d (.int .i64 p.2.2.2.1)]),(25,.row 8 (enc (⟨10,[],[],[],(p.2.2.2.2.1.length:Int),0,[],[]⟩:Part)::p.2.2.2.2.2.map (enc:Part→D)) 0),(26,.row 1 (p.2.2.2.2.1.map enc) (p.2.2.2.2.1.length-1))]) (fun p:Nat×Int×List Site×Int×List (List UInt8)×List Part=>rowsL6 (Nm l d) l p.1 ⟨p.2.1,p.2.2.1,p.2.2.2.1⟩ p.2.2.2.2.1 p.2.2.2.2.2=R∧p.1+p.2.2.2.2.1.length=51∧p.2.2.2.2.1.length≤50∧p.2.2.2.2.2.length≤300000*p.2.2.2.2.1.length∧St6In l ⟨p.2.1,p.2.2.1,p.2.2.2.1⟩) (fun p:Nat×Int×List Site×Int×List (List UInt8)×List Part=>p.1) (51,i0,ss0,e0,[],[]) ?_ ?_ ?_
   ·exact ⟨hR2,by simp,by simp,by simp,hS⟩
   ·((try simp only [Ul,U0,Ux,U8,upd,U7,Ki,K0,Nat.reduceDiv,Nat.reduceMod,Nat.reduceMul,Nat.reduceAdd,Nat.reduceEqDiff,aV,aW,if_true,if_false,reduceIte]);(first|refine Wk.of_fl ?_|skip);simp only [Wk,wkK,Ga,wkT,wk1,AV.kept,keptAll,wkO,lk,Uw,and_true,true_and,and_self,Nat.reduceEqDiff,Nat.reduceLeDiff,if_true,if_false,reduceIte,reduceCtorEq,Option.isSome,false_implies];try simp [Wk,wkK,wkT,wk1,AV.kept,keptAll,wkO,lk,Uw,Um])
   rintro ⟨f,j,us,g,had,body⟩ ⟨hL,hf,hh,hbd,m0⟩
   simp only at hL hf hh hbd m0
   obtain ⟨f,rfl⟩:∃ k,f=k+1:=⟨f-1,by omega⟩
   rw [rowsL6] at hL
   have k0:=m0.nums
   simp only at k0
   have m1:=m0.label 1 had
   have hroom:=label6_room (l:=l) (s:=⟨j,us,g⟩) (k:=1) (had:=had)
   have m2:=m1.needs 5 [61]
   have hx:=N3 m2 (Ho hT d hd4 _ m2.pos)
   have hrd:=Ho hT d hd4 _ m2.pos
   have m3:=m2.expr hd4
   have hq:=(adv_label m0.pos 1 had)
   have hq2:=(F7 m1.pos 5 [61])
   obtain ⟨⟨x,⟨j1,us1,g1⟩⟩,h1⟩:∃ q,Bn l ⟨j,us,g⟩ 1 had=q:=⟨_,rfl⟩
   rw [h1] at hL m1 hroom m2 hx hrd m3 hq hq2
   simp only at hL m1 hroom m2 hx hrd m3 hq hq2
   obtain ⟨⟨j2,us2,g2⟩,h2⟩:∃ q,Gz l ⟨j1,us1,g1⟩ 5 [61]=q:=⟨_,rfl⟩
   rw [h2] at hL m2 hx hrd m3 hq2
   obtain ⟨⟨A,⟨j3,us3,g3⟩⟩,h3⟩:∃ q,Nm l d ⟨j2,us2,g2⟩=q:=⟨_,rfl⟩
   rw [h3] at hL hx hrd m3
   simp only at hL hx hrd m3
   have k1:=m1.nums
   have k2:=m2.nums
   have k3:=m3.nums
   simp only at k1 k2 k3
   by_cases hg:g3=0
   case neg =>
    rw [if_pos hg] at hL
    have hgb:(g3 != 0)=true:=bne_iff_ne.2 hg
    subst hL
    clear hq hq2 hrd
    (sym=>simp [hd2,h1,h2,h3,hgb,hR,lQ,lX,lZ,oX,Hc,Ha,Uz,U3,U4,Um,Un,Uo,Up,szP,Ur,Ut,Uv,Us,szN,Uu,Ih,Ij,Ii,Ik,ctx_rows6_u,ctx_rows6_w,nK,mJ,Mb.eq_def,nW,Zb,Zc,Ze,Zf,Zg,Zh,Zi,Zj,Zk,Zl,Zm,Zn,Zo,Zp,Zq,Zs,Zu,Zv,Zw,Zx,Qa,Qb,Qd,Qf,Qg,Qh,Qi,Qj,Qm,Qn,Qo,Qp,Qq,Qr,Qs,Qt,Qu,Qv,Qw,Qx,Qy,Qz,Q1,Q2,Q3,Q8,Ja,Jb,Jc,Jd,Je,Jf,Jl,Jm,Jn,Js,Jt,Jv,Jw,Jx,Jy,Jz,J2,J4,Xa,Xb,Xf,Xj,Xk,Xl,Xm,Xn,Xq,Xr,Xs,Xt,Xu,Xv,Xw,Xx,Xy,X0,X2,X6,X7,X8,X9,Wb,Wd,Wf,Wg,Wh,Wi,Wj,Wl,Wm,Wn,Wo,Wp,Wr,Wt,Wx,W6,Ye,Yl,Yn,Yo,Yp,Yq,Ys,Yt,Yu,Yv,Yw,Yx,Yy,Yz,Y1,Y2,Y3,Y4,Y9,Va,Vj,Vl,Vm,Vn,Vy,Vz,V0,V1,V2,V3,V4,V5,V6,V8,Ui,Uj,U5,K9,Kh,Gg,Ks,Gp,Gd,K2,G5,Ku];tactic =>
     try simp only [Uq] at *;try simp only [nc2] at *
     try simp (maxSteps:=4000000) only [hd2,h1,h2,h3,hgb,hR,lQ,lX,lZ,oX,Hc,Ha,Uz,U3,U4,Um,Un,Uo,Up,szP,Ur,Ut,Uv,Us,szN,Uu,U6]
     repeat' first|with_reducible assumption|with_reducible apply And.intro|intro _|omega|(rw [Uk];omega)
     all_goals first|with_reducible exact okq|omega|exact m2|rfl|trivial|skip)
   subst hg
   rw [if_neg (by simp)] at hL
   have hgb:((0:Int) != 0)=false:=rfl
   have hg1:g1=0:=hq2.ok0 (hrd.adv.ok0 rfl)
   have hroom:=hroom hg1
   have hne:=(hrd.ok rfl).1
   clear hq hq2 hrd
   simp only at hne
   obtain ⟨a,A,rfl⟩:∃ a B,A=a::B:=by
    cases A with
    | nil=>exact absurd rfl hne
    | cons a B=>exact ⟨a,B,rfl⟩
   clear hne
   rw [lab6_cons] at hL
   simp only [bJ] at hx
   cases h44:is6 l ⟨j3,us3,0⟩ 5 [44] with
   | false =>
    rw [if_pos h44] at hL
    obtain ⟨⟨j4,us4,g4⟩,h4⟩:∃ q,Gz l ⟨j3,us3,0⟩ 5 [125]=q:=⟨_,rfl⟩
    rw [h4] at hL
    subst hL
    (sym=>simp [hd2,h1,h2,h3,h4,hgb,h44,hR,mK,lQ,lX,lZ,oX,Hc,Ha,Uz,U3,U4,Um,Un,Uo,Up,szP,Ur,Ut,Uv,Us,szN,Uu,Ih,Ij,Ii,Ik,ctx_rows6_u,ctx_rows6_w,nK,mJ,Mb.eq_def,nW,Zb,Zc,Ze,Zf,Zg,Zo,Zp,Zq,Zr,Zs,Zu,Zv,Zw,Zx,Zy,Z1,Z4,Z5,Qa,Qb,Qd,Qe,Qf,Qg,Qh,Qi,Qj,Qm,Qn,Qo,Qp,Qq,Qr,Qs,Qu,Qv,Qw,Qx,Q1,Q2,Q3,Q4,Q5,Q6,Q7,Q8,Q9,Ja,Jb,Jc,Jd,Je,Jf,Jl,Jm,Jn,Js,Jt,Ju,Jv,Jw,Jx,Jy,Jz,J0,J1,J2,J4,J9,Xa,Xb,Xi,Xj,Xl,Xm,Xn,Xq,Xr,Xu,Xw,Xx,Xy,Xz,X0,X1,X6,X7,X8,X9,Wb,Wd,Wf,Wg,Wh,Wi,Wj,Wl,Wm,Wn,Wo,Wp,Wr,Wt,Wu,Wx,Wy,W1,W2,W4,W6,W7,W9,Yb,Yd,Ye,Yl,Yn,Yo,Yp,Yq,Yr,Ys,Yt,Yu,Yv,Yw,Yx,Yy,Yz,Y1,Y2,Y3,Y4,Y6,Y8,Y9,Va,Vb,Vi,Vj,Vl,Vn,Vo,Vy,Vz,V0,V1,V2,V3,V4,V5,V6,Ui,Uj,U5,K9,Kh,Gg,Ks,Gp,Gd,K2,G5,Ku];tactic =>
     try simp only [Uq] at *;try simp only [nc2] at *
     try simp (maxSteps:=4000000) only [hd2,h1,h2,h3,h4,hgb,h44,hR,mK,lQ,lX,lZ,oX,Hc,Ha,Uz,U3,U4,Um,Un,Uo,Up,szP,Ur,Ut,Uv,Us,szN,Uu,U6]
     repeat' first|with_reducible assumption|with_reducible apply And.intro|intro _|omega|(rw [Uk];omega)
     all_goals first|with_reducible exact okq|omega|exact m2|rfl|(simp [Um];done)|trivial|skip)
   | true =>
    rw [if_neg (by rw [h44];simp)] at hL
    have hadv:Pe ⟨j3,us3,0⟩=⟨j3+1,us3,0⟩:=rfl
    rw [hadv] at hL
    have m4:=m3.is h44
    rw [hadv] at m4
    (sym=>simp [hd2,h1,h2,h3,hgb,h44,mK,lQ,lX,lZ,oX,Hc,Ha,Uz,U3,U4,Um,Un,Uo,Up,szP,Ur,Ut,Uv,Us,szN,Uu,Ih,Ij,Ii,Ik,ctx_rows6_u,ctx_rows6_w,nK,mJ,Mb.eq_def,nW,Zb,Zc,Ze,Zf,Zg,Zo,Zp,Zq,Zr,Zs,Zu,Zv,Zw,Zx,Zy,Z1,Z4,Z5,Qa,Qb,Qd,Qe,Qf,Qg,Qh,Qi,Qj,Qm,Qn,Qo,Qs,Qu,Qv,Qw,Qx,Q1,Q2,Q3,Q4,Q5,Q6,Q7,Q8,Q9,Ja,Jb,Jc,Je,Jf,Jl,Jm,Jn,Js,Jt,Ju,Jv,Jw,Jx,Jy,Jz,J0,J1,J2,J4,J9,Xa,Xb,Xi,Xj,Xl,Xm,Xn,Xr,Xu,Xw,Xx,Xy,Xz,X0,X1,X6,X7,X8,X9,Wb,Wd,Wf,Wg,Wh,Wi,Wj,Wl,Wm,Wn,Wo,Wp,Wr,Wt,Wu,Wx,Wy,W1,W2,W4,W6,W7,W9,Yb,Yd,Ye,Yl,Yn,Yo,Yp,Yq,Yr,Ys,Yt,Yu,Yv,Yw,Yx,Yy,Yz,Y1,Y2,Y3,Y4,Y5,Y8,Y9,Va,Vb,Vi,Vj,Vl,Vn,Vo,Vr,Vz,V0,V1,V2,V3,V4,V5,V6,Ui,Uj,U5,K9,Kh,Gg,Ks,Gp,Gd,K2,G5,Ku];tactic =>
     try simp only [Uq] at *;try simp only [nc2] at *
     try simp (maxSteps:=4000000) only [hd2,h1,h2,h3,hgb,h44,mK,lQ,lX,lZ,oX,Hc,Ha,Uz,U3,U4,Um,Un,Uo,Up,szP,Ur,Ut,Uv,Us,szN,Uu,U6]
     repeat' first|with_reducible assumption|with_reducible apply And.intro|intro _|omega|(rw [Uk];omega)
     all_goals first|with_reducible exact okq|omega|exact m2|rfl|trivial|exact ⟨(f,j3+1,us3,0,had++[x],body++⟨a.kind,x,a.name,a.bind,a.many,a.num,a.t,a.u⟩::A),by ((try simp only [Ul,U0,Ux,U8,upd,U7,Ki,K0,Nat.reduceDiv,Nat.reduceMod,Nat.reduceMul,Nat.reduceAdd,Nat.reduceEqDiff,aV,aW,if_true,if_false,reduceIte]);(first|refine Wk.of_fl ?_|skip);simp only [Wk,wkK,Ga,wkT,wk1,AV.kept,keptAll,wkO,lk,Uw,and_true,true_and,and_self,Nat.reduceEqDiff,Nat.reduceLeDiff,if_true,if_false,reduceIte,reduceCtorEq,Option.isSome,false_implies];try simp [Wk,wkK,wkT,wk1,AV.kept,keptAll,wkO,lk,Uw,Um]),hL,by simp;omega,by simp;omega,by simp;omega,m4,by omega⟩|skip))
theorem made6_one {p:Part} {A:List Part}:P4 p [⟨A⟩]=p::A:=by simp [P4,Ry]
noncomputable def Fj (n:Nat):Ctx:=⟨tab,lkC [(28,Gy),(76,Mb),(29,Kv),(32,Gk),(75,Bu),(74,Gs),(47,(Gi n))],60,lkB [],[],false⟩
theorem Ov (n:Nat):(Fj n).τ=tab:=rfl
theorem Ox (n:Nat):(Fj n).Γ=lkC [(28,Gy),(76,Mb),(29,Kv),(32,Gk),(75,Bu),(74,Gs),(47,(Gi n))]:=rfl
theorem Ow (n:Nat):(Fj n).dp=60:=rfl
theorem Oy (n:Nat):(Fj n).Δ=lkB []:=rfl
theorem ctx_cases6_u (n:Nat):(Fj n).cuts=[]:=rfl
theorem Ou (n:Nat):(Fj n).wr=false:=rfl
set_option maxRecDepth 100000 in
theorem stepi_cases6 (n:Nat) (ih:IH6 n):Hg Try.prog (65,(Mo (n+1))):=by
 refine ⟨Ke Try.func65 (by kernel_rfl) rfl,?_⟩
 have K:Gu Try.prog (Fj n):=Ko G7 Kw (by
  intro p hp
  simp only [bQ,bZ,or_false] at hp
  rcases hp with rfl|rfl|rfl|rfl|rfl|rfl|rfl
  ·exact Ib
  ·exact good_label6
  ·exact Tn
  ·exact Cq
  ·exact good_key6
  ·exact Tu
  ·exact ih.expr) (by simp)
 obtain ⟨c,hc⟩:∃ c,Try.f65.body=some c:=⟨_,rfl⟩
 refine Kn K Try.func65 hc [.tmp 6,.cell 7 71] rfl 91 rfl (fun cvs hpre=>?_)
 change (Mo (n+1)).pre cvs at hpre
 unfold Mo at hpre
 obtain ⟨⟨l⟩,s,v,rfl,hS,hv1,hv2,hn⟩:=N1 hpre
 simp only at hS
 clear hpre
 obtain ⟨d,hd⟩:∃ d:Nat,v=100-d:=⟨(100-v).toNat,by omega⟩
 subst hd
 have hd2:(100-(100-(d:Int))).toNat=d:=by omega
 have hd3:(101-(100-(d:Int)+1)).toNat=d:=by omega
 have hd4:d≤100:=by omega
 have hT:=hS.toks
 have o0:=hS.nums
 obtain ⟨R,hR⟩:∃ R,casesW (Nm l d) l s=R:=⟨_,rfl⟩
 have hR2:=hR
 unfold casesW at hR2
 have hx0:=N3 hS (Ho hT d hd4 _ hS.pos)
 have n1:=hS.expr hd4
 have n2:=n1.needs 6 [111,102]
 obtain ⟨⟨C0,⟨i1,ss1,e1⟩⟩,h01⟩:∃ q,Nm l d s=q:=⟨_,rfl⟩
 rw [h01] at hR2 hx0 n1 n2
 simp only at hR2 hx0 n1 n2
 obtain ⟨⟨i2,ss2,e2⟩,h02⟩:∃ q,Gz l ⟨i1,ss1,e1⟩ 6 [111,102]=q:=⟨_,rfl⟩
 rw [h02] at hR2 n2
 have o1:=n1.nums
 simp only at o1
 have hc0:C0.length≤1000000:=by omega
 have hM0:=made6_one (p:=⟨7,[],[],[],0,0,[],[]⟩) (A:=C0)
 obtain ⟨i0,ss0,e0⟩:=s
 simp only at o0
 simp only [Try.f65,aZ] at hc
 subst hc
 refine Gf 5 (of_decide_eq_true (by kernel_rfl)) ?_
 (sym=>simp [hd2,hd3,h01,h02,hM0,mK,lQ,lX,lK,lZ,oX,H7,H9,Hq,Hr,H0,H1,H8,Na,Uz,U3,U4,Um,Un,Uo,Up,szP,Ur,Ut,Uv,Us,szN,Uu,Ov,Ox,Ow,Oy,Ou,Mo.eq_def,nK,mJ,Bu.eq_def,Mb.eq_def,oZ,mW,nW,Zb,Zc,Ze,Zf,Zn,Zo,Zp,Zq,Zr,Zu,Zv,Zw,Z1,Z2,Qa,Qb,Qd,Qf,Qg,Qh,Qi,Qj,Qm,Qn,Qs,Qu,Qv,Qw,Qx,Q0,Q1,Q2,Q3,Q4,Q5,Q6,Q7,Q8,Q9,Ja,Jb,Jc,Je,Jj,Jq,Jr,Js,Jt,Jv,Jw,Jy,Jz,J0,J1,J2,J4,J5,J6,J7,Xa,Xb,Xj,Xl,Xn,Xo,Xr,Xu,Xw,Xx,Xy,X0,X1,X6,X7,X8,X9,Wb,Wc,Wd,Wf,Wg,Wh,Wi,Wj,Wl,Wm,Wo,Wp,Wt,Wx,W2,W5,W6,Yc,Yn,Yo,Yp,Yr,Ys,Yt,Yu,Yv,Yw,Yx,Yy,Yz,Y0,Y1,Y2,Y3,Y4,Y9,Va,Vi,Vj,Vl,Vm,Vn,Vo,Vr,V0,V1,V2,V3,V4,V5,V6,Ue,Uf,Ui,Uj,U5,K9,Kh,Gg,Ks,Gp,Gd,K2,G5,Ku,B9];tactic =>
  try simp only [Uq] at *;try simp only [nc2] at *
  try simp (maxSteps:=4000000) only [hd2,hd3,h01,h02,hM0,mK,lQ,lX,lK,lZ,oX,H7,H9,Hq,Hr,H0,H1,H8,Na,Uz,U3,U4,Um,Un,Uo,Up,szP,Ur,Ut,Uv,Us,szN,Uu,U6]
  repeat' first|with_reducible assumption|with_reducible apply And.intro|intro _|omega|(rw [Uk];omega)
  all_goals first|exact hS|skip
  refine Kk [6,11,12,13,14,31,32,33,34,35,36,37,38,39,40,41,42,43,44,45,46,47,48,49,50,51,52,53,54,55,56,57,58,59,60,61,62,63,64,65,66,67,68,69,70,71,72,73,74,75,76,77,78,79,80,81,82,83,84,85,86,87,88,89,90] (fun p:Nat×Int×List Site×Int×List (List UInt8)×List Part=>[(9,.sl 29 (enc (⟨7,[],[],[],(p.2.2.2.2.1.length:Int),0,[],[]⟩:Part)::p.2.2.2.2.2.map (enc:Part→D)).length),(10,.sl 30 (p.2.2.2.2.1.map (enc:List UInt8→D)).length)]) (fun p:Nat×Int×List Site×Int×List (List UInt8)×List Part=>[(4,.box true [.d (.int .i64 p.2.1),.d (.list 3 (p.2.2.1.map enc)),.d (.int .i64 p.2.2.2.1)]),(29,.row 8 (enc (⟨7,[],[],[],(p.2.2.2.2.1.length:Int),0,[],[]⟩:Part)::p.2.2.2.2.2.map (enc:Part→D)) 0),(30,.row 1 (p.2.2.2.2.1.map enc) (p.2.2.2.2.1.length-1))]) (fun p:Nat×Int×List Site×Int×List (List UInt8)×List Part=>casesL (Nm l d) l p.1 ⟨p.2.1,p.2.2.1,p.2.2.2.1⟩ p.2.2.2.2.1 p.2.2.2.2.2=R∧p.1+p.2.2.2.2.1.length=51∧p.2.2.2.2.1.length≤50∧p.2.2.2.2.2.length≤300001*(p.2.2.2.2.1.length+1)∧St6In l ⟨p.2.1,p.2.2.1,p.2.2.2.1⟩) (fun p:Nat×Int×List Site×Int×List (List UInt8)×List Part=>p.1) (51,i2,ss2,e2,[],C0) ?_ ?_ ?_
  ·exact ⟨hR2,by simp,by simp,by simp;omega,n2⟩
  ·((try simp only [Ul,U0,Ux,U8,upd,U7,Ki,K0,Nat.reduceDiv,Nat.reduceMod,Nat.reduceMul,Nat.reduceAdd,Nat.reduceEqDiff,aV,aW,if_true,if_false,reduceIte]);(first|refine Wk.of_fl ?_|skip);simp only [Wk,wkK,Ga,wkT,wk1,AV.kept,keptAll,wkO,lk,Uw,and_true,true_and,and_self,Nat.reduceEqDiff,Nat.reduceLeDiff,if_true,if_false,reduceIte,reduceCtorEq,Option.isSome,false_implies];try simp [Wk,wkK,wkT,wk1,AV.kept,keptAll,wkO,lk,Uw,Um])
  rintro ⟨f,j,us,g,had,body⟩ ⟨hL,hf,hh,hbd,m0⟩
  simp only at hL hf hh hbd m0
  obtain ⟨f,rfl⟩:∃ k,f=k+1:=⟨f-1,by omega⟩
  rw [casesL] at hL
  unfold C2 at hL
  have k0:=m0.nums
  simp only at k0
  have m1:=m0.label 2 had
  have hroom:=label6_room (l:=l) (s:=⟨j,us,g⟩) (k:=2) (had:=had)
  have m1b:=m1.named 1
  have m2:=m1b.needs 5 [45,62]
  have hx:=N3 m2 (Ho hT d hd4 _ m2.pos)
  have hrd:=Ho hT d hd4 _ m2.pos
  have m3:=m2.expr hd4
  have hqb:=(Ax m1.pos 1)
  have hq2:=(F7 m1b.pos 5 [45,62])
  obtain ⟨⟨x,⟨j1,us1,g1⟩⟩,h1⟩:∃ q,Bn l ⟨j,us,g⟩ 2 had=q:=⟨_,rfl⟩
  rw [h1] at hL m1 hroom m1b m2 hx hrd m3 hqb hq2
  simp only at hL m1 hroom m1b m2 hx hrd m3 hqb hq2
  obtain ⟨⟨y,⟨j1b,us1b,g1b⟩⟩,h1b⟩:∃ q,Hp l ⟨j1,us1,g1⟩ 1=q:=⟨_,rfl⟩
  rw [h1b] at hL m1b m2 hx hrd m3 hqb hq2
  simp only at hL m1b m2 hx hrd m3 hqb hq2
  obtain ⟨⟨j2,us2,g2⟩,h2⟩:∃ q,Gz l ⟨j1b,us1b,g1b⟩ 5 [45,62]=q:=⟨_,rfl⟩
  rw [h2] at hL m2 hx hrd m3 hq2
  obtain ⟨⟨A,⟨j3,us3,g3⟩⟩,h3⟩:∃ q,Nm l d ⟨j2,us2,g2⟩=q:=⟨_,rfl⟩
  rw [h3] at hL hx hrd m3
  simp only at hL hx hrd m3
  have k1:=m1.nums
  have k1b:=m1b.nums
  have k2:=m2.nums
  have k3:=m3.nums
  simp only at k1 k1b k2 k3
  by_cases hg:g3=0
  case neg =>
   rw [if_pos hg] at hL
   have hgb:(g3 != 0)=true:=bne_iff_ne.2 hg
   subst hL
   clear hqb hq2 hrd
   (sym=>simp [hd2,hd3,h1,h1b,h2,h3,hgb,hR,lQ,lX,lK,lZ,oX,Hc,Ha,Uz,U3,U4,Um,Un,Uo,Up,szP,Ur,Ut,Uv,Us,szN,Uu,Ov,Ox,Ow,Oy,ctx_cases6_u,Ou,nK,mJ,Bu.eq_def,Mb.eq_def,oZ,mW,nW,Zb,Zc,Ze,Zf,Zg,Zh,Zi,Zj,Zk,Zl,Zm,Zn,Zo,Zp,Zq,Zs,Zu,Zv,Zw,Zx,Qa,Qb,Qd,Qf,Qg,Qh,Qi,Qj,Qm,Qn,Qo,Qp,Qq,Qr,Qs,Qt,Qu,Qv,Qw,Qx,Qy,Qz,Q1,Q2,Q3,Q8,Ja,Jb,Jc,Jd,Je,Jf,Jl,Jm,Jn,Js,Jt,Jv,Jw,Jx,Jy,Jz,J2,J4,Xa,Xb,Xf,Xj,Xk,Xl,Xm,Xn,Xq,Xr,Xs,Xt,Xu,Xv,Xw,Xx,Xy,X0,X2,X6,X7,X8,X9,Wb,Wd,Wf,Wg,Wh,Wi,Wj,Wl,Wm,Wn,Wo,Wp,Wr,Wt,Wx,W6,Ye,Yl,Yn,Yo,Yp,Yq,Ys,Yt,Yu,Yv,Yw,Yx,Yy,Yz,Y1,Y2,Y3,Y4,Y9,Va,Vj,Vl,Vm,Vn,Vy,Vz,V0,V1,V2,V3,V4,V5,V6,V8,Ui,Uj,U5,K9,Kh,Gg,Ks,Gp,Gd,K2,G5,Ku,B9];tactic =>
    try simp only [Uq] at *;try simp only [nc2] at *
    try simp (maxSteps:=4000000) only [hd2,hd3,h1,h1b,h2,h3,hgb,hR,lQ,lX,lK,lZ,oX,Hc,Ha,Uz,U3,U4,Um,Un,Uo,Up,szP,Ur,Ut,Uv,Us,szN,Uu,U6]
    repeat' first|with_reducible assumption|with_reducible apply And.intro|intro _|omega|(rw [Uk];omega)
    all_goals first|with_reducible exact okq|omega|exact m2|rfl|trivial|skip)
  subst hg
  rw [if_neg (by simp)] at hL
  have hgb:((0:Int) != 0)=false:=rfl
  have hg1:g1=0:=hqb.ok0 (hq2.ok0 (hrd.adv.ok0 rfl))
  have hroom:=hroom hg1
  clear hqb hq2 hrd
  have hM:=made6_one (p:=⟨8,x,[],y,0,0,[],[]⟩) (A:=A)
  rw [hM] at hL
  have ha1:A.length≤1000000:=by omega
  cases h44:is6 l ⟨j3,us3,0⟩ 5 [124] with
  | false =>
   rw [if_pos h44] at hL
   obtain ⟨⟨j4,us4,g4⟩,h4⟩:∃ q,Gz l ⟨j3,us3,0⟩ 6 [101,110,100]=q:=⟨_,rfl⟩
   rw [h4] at hL
   subst hL
   (sym=>simp [hd2,hd3,h1,h1b,h2,h3,h4,hgb,h44,hM,hR,mK,lQ,lX,lK,lZ,oX,Hc,Ha,H7,H9,Hq,Hr,H0,H1,H8,Na,Uz,U3,U4,Um,Un,Uo,Up,szP,Ur,Ut,Uv,Us,szN,Uu,Ov,Ox,Ow,Oy,ctx_cases6_u,Ou,nK,mJ,Bu.eq_def,Mb.eq_def,oZ,mW,nW,Zb,Zc,Ze,Zf,Zg,Zo,Zp,Zq,Zr,Zs,Zu,Zv,Zw,Zx,Zy,Z1,Z2,Z4,Z5,Qa,Qb,Qd,Qe,Qf,Qg,Qh,Qi,Qj,Qm,Qn,Qo,Qp,Qq,Qr,Qs,Qu,Qv,Qw,Qx,Q0,Q1,Q2,Q3,Q4,Q5,Q6,Q7,Q8,Q9,Ja,Jb,Jc,Jd,Je,Jf,Jl,Jm,Jn,Js,Jt,Ju,Jv,Jw,Jx,Jy,Jz,J0,J1,J2,J4,J5,J9,Xa,Xb,Xi,Xj,Xl,Xm,Xn,Xq,Xr,Xu,Xw,Xx,Xy,Xz,X0,X1,X6,X7,X8,X9,Wb,Wd,Wf,Wg,Wh,Wi,Wj,Wl,Wm,Wn,Wo,Wp,Wr,Wt,Wu,Wx,Wy,W1,W2,W4,W5,W6,W7,Yb,Yd,Ye,Yl,Ym,Yn,Yo,Yp,Yq,Yr,Ys,Yt,Yu,Yv,Yw,Yx,Yy,Yz,Y1,Y2,Y3,Y4,Y6,Y8,Y9,Va,Vb,Vi,Vj,Vl,Vn,Vo,Vr,Vt,Vy,Vz,V0,V1,V2,V3,V4,V5,V6,Ue,Uf,Ui,Uj,U5,K9,Kh,Gg,Ks,Gp,Gd,K2,G5,Ku,B9];tactic =>
    try simp only [Uq] at *;try simp only [nc2] at *
    try simp (maxSteps:=4000000) only [hd2,hd3,h1,h1b,h2,h3,h4,hgb,h44,hM,hR,mK,lQ,lX,lK,lZ,oX,Hc,Ha,H7,H9,Hq,Hr,H0,H1,H8,Na,Uz,U3,U4,Um,Un,Uo,Up,szP,Ur,Ut,Uv,Us,szN,Uu,U6]
    repeat' first|with_reducible assumption|with_reducible apply And.intro|intro _|omega|(rw [Uk];omega)
    all_goals first|with_reducible exact okq|omega|exact m2|rfl|(simp [Um];done)|trivial|skip)
  | true =>
   rw [if_neg (by rw [h44];simp)] at hL
   have hadv:Pe ⟨j3,us3,0⟩=⟨j3+1,us3,0⟩:=rfl
   rw [hadv] at hL
   have m4:=m3.is h44
   rw [hadv] at m4
   (sym=>simp [hd2,hd3,h1,h1b,h2,h3,hgb,h44,hM,mK,lQ,lX,lK,lZ,oX,Hc,Ha,H7,H9,Hq,Hr,H0,H1,H8,Na,Uz,U3,U4,Um,Un,Uo,Up,szP,Ur,Ut,Uv,Us,szN,Uu,Ov,Ox,Ow,Oy,ctx_cases6_u,Ou,nK,mJ,Bu.eq_def,Mb.eq_def,oZ,mW,nW,Zb,Zc,Ze,Zf,Zg,Zo,Zp,Zq,Zr,Zs,Zu,Zv,Zw,Zx,Zy,Z1,Z2,Z4,Z5,Qa,Qb,Qd,Qe,Qf,Qg,Qh,Qi,Qj,Qm,Qn,Qo,Qs,Qu,Qv,Qw,Qx,Q0,Q1,Q2,Q3,Q4,Q5,Q6,Q7,Q8,Q9,Ja,Jb,Jc,Je,Jf,Jl,Jm,Jn,Js,Jt,Ju,Jv,Jw,Jx,Jy,Jz,J0,J1,J2,J4,J5,J9,Xa,Xb,Xi,Xj,Xl,Xm,Xn,Xr,Xu,Xw,Xx,Xy,Xz,X0,X1,X6,X7,X8,X9,Wb,Wd,Wf,Wg,Wh,Wi,Wj,Wl,Wm,Wn,Wo,Wp,Wr,Wt,Wu,Wx,Wy,W1,W2,W4,W5,W6,W7,Yb,Yd,Ye,Yl,Ym,Yn,Yo,Yp,Yq,Yr,Ys,Yt,Yu,Yv,Yw,Yx,Yy,Yz,Y1,Y2,Y3,Y4,Y5,Y8,Y9,Va,Vb,Vi,Vj,Vl,Vn,Vo,Vr,Vt,Vz,V0,V1,V2,V3,V4,V5,V6,Ue,Uf,Ui,Uj,U5,K9,Kh,Gg,Ks,Gp,Gd,K2,G5,Ku,B9];tactic =>
    try simp only [Uq] at *;try simp only [nc2] at *
    try simp (maxSteps:=4000000) only [hd2,hd3,h1,h1b,h2,h3,hgb,h44,hM,mK,lQ,lX,lK,lZ,oX,Hc,Ha,H7,H9,Hq,Hr,H0,H1,H8,Na,Uz,U3,U4,Um,Un,Uo,Up,szP,Ur,Ut,Uv,Us,szN,Uu,U6]
    repeat' first|with_reducible assumption|with_reducible apply And.intro|intro _|omega|(rw [Uk];omega)
    all_goals first|with_reducible exact okq|omega|exact m2|rfl|trivial|exact ⟨(f,j3+1,us3,0,had++[x],body++⟨8,x,[],y,0,0,[],[]⟩::A),by ((try simp only [Ul,U0,Ux,U8,upd,U7,Ki,K0,Nat.reduceDiv,Nat.reduceMod,Nat.reduceMul,Nat.reduceAdd,Nat.reduceEqDiff,aV,aW,if_true,if_false,reduceIte]);(first|refine Wk.of_fl ?_|skip);simp only [Wk,wkK,Ga,wkT,wk1,AV.kept,keptAll,wkO,lk,Uw,and_true,true_and,and_self,Nat.reduceEqDiff,Nat.reduceLeDiff,if_true,if_false,reduceIte,reduceCtorEq,Option.isSome,false_implies];try simp [Wk,wkK,wkT,wk1,AV.kept,keptAll,wkO,lk,Uw,Um]),hL,by simp;omega,by simp;omega,by simp;omega,m4,by omega⟩|skip))
noncomputable def Ai (n:Nat):Ctx:=⟨tab,lkC [(31,Kr),(61,(Bv n)),(62,(Bt n)),(63,(Bs n)),(64,(Pk n)),(65,(Mo n)),(66,(N9 n))],60,lkB [],[],false⟩
theorem St (n:Nat):(Ai n).τ=tab:=rfl
theorem Sv (n:Nat):(Ai n).Γ=lkC [(31,Kr),(61,(Bv n)),(62,(Bt n)),(63,(Bs n)),(64,(Pk n)),(65,(Mo n)),(66,(N9 n))]:=rfl
theorem Su (n:Nat):(Ai n).dp=60:=rfl
theorem Sw (n:Nat):(Ai n).Δ=lkB []:=rfl
theorem Ss (n:Nat):(Ai n).cuts=[]:=rfl
theorem Ci (n:Nat):(Ai n).wr=false:=rfl
set_option maxRecDepth 100000 in
theorem stepi_expr6 (n:Nat) (ih:IH6 n):Hg Try.prog (47,(Gi (n+1))):=by
 refine ⟨Ke Try.func47 (by kernel_rfl) rfl,?_⟩
 have K:Gu Try.prog (Ai n):=Ko G7 Kw (by
  intro p hp
  simp only [bQ,bZ,or_false] at hp
  rcases hp with rfl|rfl|rfl|rfl|rfl|rfl|rfl
  ·exact Cg
  ·exact ih.fun_
  ·exact ih.let_
  ·exact ih.rec_
  ·exact ih.cond
  ·exact ih.cases
  ·exact ih.ops) (by simp)
 obtain ⟨c,hc⟩:∃ c,Try.f47.body=some c:=⟨_,rfl⟩
 refine Kn K Try.func47 hc [.tmp 6,.cell 7 71] rfl 95 rfl (fun cvs hpre=>?_)
 change (Gi (n+1)).pre cvs at hpre
 unfold Gi at hpre
 obtain ⟨⟨l⟩,⟨i,ss,e⟩,v,rfl,hS,hv1,hv2,hn⟩:=N1 hpre
 simp only at hS
 clear hpre
 have hT:=hS.toks
 have o0:=hS.nums
 simp only at o0
 obtain ⟨i,rfl⟩:∃ n:Nat,i=n:=⟨i.toNat,by omega⟩
 simp only [Try.f47,aZ] at hc
 subst hc
 refine Gf 5 (of_decide_eq_true (by kernel_rfl)) ?_
 obtain ⟨d,hd⟩:∃ d:Nat,v=101-d:=⟨(101-v).toNat,by omega⟩
 subst hd
 have hd2:(101-(101-(d:Int))).toNat=d:=by omega
 have hd4:d≤100:=by omega
 by_cases he:e=0
 case neg =>
  have hb1:(e==0)=false:=by rw [aQ];exact he
  have hb2:(e != 0)=true:=bne_iff_ne.2 he
  have hR:Nm l d ⟨i,ss,e⟩=([],⟨i,ss,e⟩):=by
   cases d with
   | zero =>
    show (([]:List Part),Ns ⟨(i:Int),ss,e⟩ 4)=_
    unfold Ns
    rw [if_neg (by simpa using he)]
   | succ d=>rw [Nm,exprW,if_pos (by simpa using he)]
  (sym=>simp [hd2,hb1,hb2,hR,mQ,lX,nY,U1,Kb,Kc,Ka,Gl,Uz,U3,U4,Um,Un,Uo,Up,szP,Ur,Ut,Uv,Us,szN,Uu,St,Sv,Su,Sw,Ss,Ci,Mo.eq_def,Pk.eq_def,nK,Bv.eq_def,Bt.eq_def,N9.eq_def,Bs.eq_def,mX,Zb,Zc,Zd,Ze,Zf,Zh,Zi,Zj,Zk,Zl,Zm,Zn,Zo,Zp,Zq,Zs,Zt,Zu,Zv,Zw,Zx,Qd,Qf,Qj,Qm,Qn,Qo,Qp,Qq,Qr,Qs,Qt,Qu,Qv,Qw,Qx,Qy,Qz,Q1,Q3,Ja,Jb,Jd,Jf,Jj,Jq,Jr,Js,Jt,Jv,Jw,Jy,Jz,J2,J6,J7,Xa,Xb,Xi,Xj,Xk,Xl,Xm,Xq,Xr,Xs,Xt,Xu,Xv,Xw,Xx,Xy,X0,X2,X6,X7,X8,X9,Wc,Wf,Wh,Wi,Wj,Wl,Wm,Wn,Wo,Wp,Wt,Wx,W6,Yc,Yn,Yo,Yr,Ys,Yt,Yu,Yv,Yw,Yx,Yz,Y9,Va,Vj,Vk,Vm,Vy,Vz,V0,V1,V4,V5,V6,V8,Ui,Uj,U5,Kh,Ks,K2,G5,Ku];tactic =>
   try simp only [Uq] at *;try simp only [nc2] at *
   try simp (maxSteps:=4000000) only [hd2,hb1,hb2,hR,mQ,lX,nY,U1,Kb,Kc,Ka,Gl,Uz,U3,U4,Um,Un,Uo,Up,szP,Ur,Ut,Uv,Us,szN,Uu,U6]
   repeat' first|with_reducible assumption|with_reducible apply And.intro|intro _|omega|(rw [Uk];omega)
   all_goals first|with_reducible exact okq|omega|rfl|trivial|skip)
 subst he
 have hb1:((0:Int)==0)=true:=rfl
 have hb2:((0:Int) != 0)=false:=rfl
 cases d with
 | zero =>
  have hg:ltB 100 (101-((0:Nat):Int))=true:=by rw [Hf];omega
  have hR:Nm l 0 ⟨i,ss,0⟩=([],⟨i,ss,4⟩):=rfl
  have hw:Ns ⟨(i:Int),ss,0⟩ 4=⟨i,ss,4⟩:=rfl
  (sym=>simp [hd2,hb1,hb2,hg,hw,hR,mQ,lX,nY,U1,Kb,Kc,Ka,Gl,Uz,U3,U4,Um,Un,Uo,Up,szP,Ur,Ut,Uv,Us,szN,Uu,St,Sv,Su,Sw,Ss,Ci,Mo.eq_def,Pk.eq_def,nK,Bv.eq_def,Bt.eq_def,N9.eq_def,Bs.eq_def,mX,Zb,Zc,Zd,Ze,Zf,Zg,Zn,Zo,Zp,Zq,Zs,Zt,Zu,Zv,Zw,Zx,Zy,Z6,Qa,Qb,Qd,Qf,Qg,Qh,Qi,Qj,Qm,Qn,Qo,Qp,Qq,Qr,Qs,Qu,Qv,Qw,Qx,Q1,Q2,Q3,Q8,Ja,Jb,Jc,Jd,Je,Jf,Jj,Jq,Jr,Js,Jt,Ju,Jv,Jw,Jx,Jy,Jz,J2,J6,J7,Xa,Xb,Xi,Xj,Xl,Xm,Xn,Xq,Xr,Xu,Xw,Xx,Xy,X0,X6,X7,X8,X9,Wb,Wc,Wd,Wf,Wg,Wh,Wi,Wj,Wl,Wm,Wn,Wo,Wp,Wt,Wv,Wx,Wz,W1,W2,W6,Yc,Yf,Yg,Yn,Yo,Yp,Yq,Yr,Ys,Yt,Yu,Yv,Yw,Yx,Yz,Y2,Y4,Y7,Y8,Y9,Va,Vg,Vj,Vk,Vl,Vm,Vn,Vr,Vy,Vz,V0,V1,V2,V3,V4,V5,V6,Ui,Uj,U5,Kh,Ks,K2,G5,Ku];tactic =>
   try simp only [Uq] at *;try simp only [nc2] at *
   try simp (maxSteps:=4000000) only [hd2,hb1,hb2,hg,hw,hR,mQ,lX,nY,U1,Kb,Kc,Ka,Gl,Uz,U3,U4,Um,Un,Uo,Up,szP,Ur,Ut,Uv,Us,szN,Uu,U6]
   repeat' first|with_reducible assumption|with_reducible apply And.intro|intro _|omega|(rw [Uk];omega)
   all_goals first|with_reducible exact okq|omega|rfl|trivial|skip)
 | succ d =>
  have hg:ltB 100 (101-((d+1:Nat):Int))=false:=by rw [←Bool.not_eq_true,Hf];omega
  have hd3:(100-(101-((d+1:Nat):Int))).toNat=d:=by omega
  have hd5:101-((d+1:Nat):Int)=100-d:=by omega
  obtain ⟨⟨A,⟨i2,ss2,e2⟩⟩,hR⟩:∃ R,Nm l (d+1) ⟨(i:Int),ss,0⟩=R:=⟨_,rfl⟩
  have hR2:=hR
  rw [Nm,exprW,if_neg (by simp)] at hR2
  simp only [C6] at hR2
  have hm5:Int.toNat 5=5:=rfl
  rcases Kt i l.length with ⟨hlt,hlb⟩|⟨hlt,hlb⟩
  rotate_left
  ·rw [if_neg (by omega)] at hR2
   rw [hd5] at hd2 hd3 hg
   rw [hd5]
   (sym=>simp [hd2,hd3,hb1,hb2,hg,hlb,hm5,hR,hR2,mQ,lX,nY,U1,Kb,Kc,Ka,Gl,Uz,U3,U4,Um,Un,Uo,Up,szP,Ur,Ut,Uv,Us,szN,Uu,St,Sv,Su,Sw,Ss,Mo.eq_def,Pk.eq_def,nK,Bv.eq_def,Bt.eq_def,N9.eq_def,Bs.eq_def,mX,Zb,Zc,Zd,Ze,Zf,Zn,Zo,Zp,Zq,Zs,Zt,Zu,Zv,Zw,Zx,Z6,Qa,Qb,Qd,Qf,Qg,Qh,Qi,Qj,Qm,Qn,Qo,Qp,Qq,Qr,Qs,Qu,Qv,Qw,Qx,Q1,Q2,Q3,Q8,Ja,Jb,Jc,Jd,Je,Jf,Jj,Jq,Jr,Js,Jt,Ju,Jv,Jw,Jx,Jy,Jz,J2,J6,J7,Xa,Xb,Xi,Xj,Xl,Xm,Xq,Xr,Xu,Xw,Xx,Xy,X0,X6,X7,X8,X9,Wb,Wc,Wd,Wf,Wh,Wi,Wj,Wl,Wm,Wn,Wo,Wp,Wt,Wx,W6,Yc,Yf,Yg,Yn,Yo,Yp,Yq,Yr,Ys,Yt,Yu,Yv,Yw,Yx,Yz,Y2,Y4,Y9,Va,Vj,Vk,Vm,Vy,Vz,V0,V1,V3,V4,V5,V6,Ui,Uj,U5,Kh,Ks,K2,G5,Ku];tactic =>
    try simp only [Uq] at *;try simp only [nc2] at *
    try simp (maxSteps:=4000000) only [hd2,hd3,hb1,hb2,hg,hlb,hm5,hR,hR2,mQ,lX,nY,U1,Kb,Kc,Ka,Gl,Uz,U3,U4,Um,Un,Uo,Up,szP,Ur,Ut,Uv,Us,szN,Uu,U6]
    repeat' first|with_reducible assumption|with_reducible apply And.intro|intro _|omega|(rw [Uk];omega)
    all_goals first|with_reducible exact okq|omega|exact hS|rfl|trivial|skip)
  have q1:=K7 Td hlt
  have hadv:Pe ⟨(i:Int),ss,0⟩=⟨(i:Int)+1,ss,0⟩:=rfl
  have m1:=hS.adv rfl (by show (i:Int)<l.length;omega)
  rw [hadv] at m1 hR2
  obtain ⟨t,ht⟩:∃ t,l.getD i Td=t:=⟨_,rfl⟩
  rw [ht] at q1 hR2
  rw [hd5] at hd2 hd3 hg
  rw [hd5]
  by_cases h6:t.kind=6
  case neg =>
   rw [if_neg (fun h=>h6 h.2)] at hR2
   have hk6:(t.kind==6)=false:=by rw [aQ];exact h6
   (sym=>simp [hd2,hd3,hb1,hb2,hg,hlb,q1,hk6,hm5,hR,hR2,mQ,lX,nY,U1,Kb,Kc,Ka,Gl,Uz,U3,U4,Um,Un,Uo,Up,szP,Ur,Ut,Uv,Us,szN,Uu,St,Sv,Su,Sw,Ss,Mo.eq_def,Pk.eq_def,nK,Bv.eq_def,Bt.eq_def,N9.eq_def,Bs.eq_def,mX,Zb,Zc,Zd,Ze,Zf,Zn,Zo,Zp,Zq,Zs,Zt,Zu,Zv,Zw,Zx,Zy,Z6,Qa,Qb,Qd,Qf,Qg,Qh,Qi,Qj,Qm,Qn,Qo,Qp,Qq,Qr,Qs,Qu,Qv,Qw,Qx,Q1,Q2,Q3,Q8,Ja,Jb,Jc,Jd,Je,Jf,Jj,Jq,Jr,Js,Jt,Ju,Jv,Jw,Jx,Jy,Jz,J2,J6,J7,Xa,Xb,Xi,Xj,Xl,Xm,Xq,Xr,Xu,Xw,Xx,Xy,X0,X6,X7,X8,X9,Wb,Wc,Wd,Wf,Wh,Wi,Wj,Wl,Wm,Wn,Wo,Wp,Wt,Wx,W1,W6,W7,Yb,Yc,Yf,Yg,Yn,Yo,Yp,Yq,Yr,Ys,Yt,Yu,Yv,Yw,Yx,Yz,Y2,Y4,Y7,Y9,Va,Vj,Vk,Vm,Vy,Vz,V0,V1,V2,V3,V4,V5,V6,Ui,Uj,U5,Kh,Ks,K2,G5,Ku];tactic =>
    try simp only [Uq] at *;try simp only [nc2] at *
    try simp (maxSteps:=4000000) only [hd2,hd3,hb1,hb2,hg,hlb,q1,hk6,hm5,hR,hR2,mQ,lX,nY,U1,Kb,Kc,Ka,Gl,Uz,U3,U4,Um,Un,Uo,Up,szP,Ur,Ut,Uv,Us,szN,Uu,U6]
    repeat' first|with_reducible assumption|with_reducible apply And.intro|intro _|omega|(rw [Uk];omega)
    all_goals first|with_reducible exact okq|omega|exact hS|rfl|trivial|skip)
  rw [if_pos ⟨by omega,h6⟩] at hR2
  have hk6:(t.kind==6)=true:=by rw [cQ];exact h6
  by_cases hx0:t.text=[102,117,110]
  ·rw [if_pos hx0] at hR2
   have hxb0:(t.text==[102,117,110])=true:=by rw [cQ];exact hx0
   (sym=>simp [hd2,hd3,hb1,hb2,hg,hlb,q1,hk6,hxb0,hR,hR2,mQ,lX,nY,U1,Kb,Kc,Ka,Gl,Uz,U3,U4,Um,Un,Uo,Up,szP,Ur,Ut,Uv,Us,szN,Uu,St,Sv,Su,Sw,Ss,Ci,Mo.eq_def,Pk.eq_def,nK,Bv.eq_def,Bt.eq_def,N9.eq_def,Bs.eq_def,mX,Zb,Zc,Zd,Ze,Zf,Zg,Zn,Zo,Zp,Zq,Zs,Zt,Zu,Zv,Zw,Zx,Zy,Z6,Qa,Qb,Qd,Qf,Qg,Qh,Qi,Qj,Qm,Qn,Qo,Qp,Qq,Qr,Qs,Qu,Qv,Qw,Qx,Q1,Q2,Q3,Q8,Ja,Jb,Jc,Jd,Je,Jf,Jj,Jq,Jr,Js,Jt,Jv,Jw,Jy,Jz,J2,J6,J7,Xa,Xb,Xi,Xj,Xl,Xm,Xn,Xq,Xr,Xu,Xw,Xx,Xy,X0,X6,X7,X8,X9,Wb,Wc,Wd,Wf,Wg,Wh,Wi,Wj,Wl,Wm,Wn,Wo,Wp,Wt,Wv,Wx,Wz,W1,W2,W6,W7,W9,Yb,Yc,Yf,Yg,Yn,Yo,Yr,Ys,Yt,Yu,Yv,Yw,Yx,Yz,Y2,Y4,Y7,Y9,Va,Vj,Vk,Vl,Vm,Vn,Vr,Vy,Vz,V0,V1,V2,V3,V4,V5,V6,Ui,Uj,U5,Kh,Ks,K2,G5,Ku];tactic =>
    try simp only [Uq] at *;try simp only [nc2] at *
    try simp (maxSteps:=4000000) only [hd2,hd3,hb1,hb2,hg,hlb,q1,hk6,hxb0,hR,hR2,mQ,lX,nY,U1,Kb,Kc,Ka,Gl,Uz,U3,U4,Um,Un,Uo,Up,szP,Ur,Ut,Uv,Us,szN,Uu,U6]
    repeat' first|with_reducible assumption|with_reducible apply And.intro|intro _|omega|(rw [Uk];omega)
    all_goals first|with_reducible exact okq|omega|exact m1|rfl|trivial|skip)
  rw [if_neg hx0] at hR2
  have hxb0:(t.text==[102,117,110])=false:=by rw [aQ];exact hx0
  by_cases hx1:t.text=[108,101,116]
  ·rw [if_pos hx1] at hR2
   have hxb1:(t.text==[108,101,116])=true:=by rw [cQ];exact hx1
   (sym=>simp [hd2,hd3,hb1,hb2,hg,hlb,q1,hk6,hxb0,hxb1,hR,hR2,mQ,lX,nY,U1,Kb,Kc,Ka,Gl,Uz,U3,U4,Um,Un,Uo,Up,szP,Ur,Ut,Uv,Us,szN,Uu,St,Sv,Su,Sw,Ss,Ci,Mo.eq_def,Pk.eq_def,nK,Bv.eq_def,Bt.eq_def,N9.eq_def,Bs.eq_def,mX,Zb,Zc,Zd,Ze,Zf,Zg,Zn,Zo,Zp,Zq,Zs,Zt,Zu,Zv,Zw,Zx,Zy,Z6,Qa,Qb,Qd,Qf,Qg,Qh,Qi,Qj,Qm,Qn,Qo,Qp,Qq,Qr,Qs,Qu,Qv,Qw,Qx,Q1,Q2,Q3,Q8,Ja,Jb,Jc,Jd,Je,Jf,Jj,Jq,Jr,Js,Jt,Jv,Jw,Jy,Jz,J2,J6,J7,Xa,Xb,Xi,Xj,Xl,Xm,Xn,Xq,Xr,Xu,Xw,Xx,Xy,X0,X6,X7,X8,X9,Wb,Wc,Wd,Wf,Wg,Wh,Wi,Wj,Wl,Wm,Wn,Wo,Wp,Wt,Wv,Wx,Wz,W1,W2,W6,W7,W9,Yb,Yc,Yf,Yg,Yn,Yo,Yr,Ys,Yt,Yu,Yv,Yw,Yx,Yz,Y2,Y4,Y7,Y9,Va,Vj,Vk,Vl,Vm,Vn,Vr,Vy,Vz,V0,V1,V2,V3,V4,V5,V6,Ui,Uj,U5,Kh,Ks,K2,G5,Ku];tactic =>
    try simp only [Uq] at *;try simp only [nc2] at *
    try simp (maxSteps:=4000000) only [hd2,hd3,hb1,hb2,hg,hlb,q1,hk6,hxb0,hxb1,hR,hR2,mQ,lX,nY,U1,Kb,Kc,Ka,Gl,Uz,U3,U4,Um,Un,Uo,Up,szP,Ur,Ut,Uv,Us,szN,Uu,U6]
    repeat' first|with_reducible assumption|with_reducible apply And.intro|intro _|omega|(rw [Uk];omega)
    all_goals first|with_reducible exact okq|omega|exact m1|rfl|trivial|skip)
  rw [if_neg hx1] at hR2
  have hxb1:(t.text==[108,101,116])=false:=by rw [aQ];exact hx1
  by_cases hx2:t.text=[114,101,99]
  ·rw [if_pos hx2] at hR2
   have hxb2:(t.text==[114,101,99])=true:=by rw [cQ];exact hx2
   (sym=>simp [hd2,hd3,hb1,hb2,hg,hlb,q1,hk6,hxb0,hxb1,hxb2,hR,hR2,mQ,lX,nY,U1,Kb,Kc,Ka,Gl,Uz,U3,U4,Um,Un,Uo,Up,szP,Ur,Ut,Uv,Us,szN,Uu,St,Sv,Su,Sw,Ss,Ci,Mo.eq_def,Pk.eq_def,nK,Bv.eq_def,Bt.eq_def,N9.eq_def,Bs.eq_def,mX,Zb,Zc,Zd,Ze,Zf,Zg,Zn,Zo,Zp,Zq,Zs,Zt,Zu,Zv,Zw,Zx,Zy,Z6,Qa,Qb,Qd,Qf,Qg,Qh,Qi,Qj,Qm,Qn,Qo,Qp,Qq,Qr,Qs,Qu,Qv,Qw,Qx,Q1,Q2,Q3,Q8,Ja,Jb,Jc,Jd,Je,Jf,Jj,Jq,Jr,Js,Jt,Jv,Jw,Jy,Jz,J2,J6,J7,Xa,Xb,Xi,Xj,Xl,Xm,Xn,Xq,Xr,Xu,Xw,Xx,Xy,X0,X6,X7,X8,X9,Wb,Wc,Wd,Wf,Wg,Wh,Wi,Wj,Wl,Wm,Wn,Wo,Wp,Wt,Wv,Wx,Wz,W1,W2,W6,W7,W9,Yb,Yc,Yf,Yg,Yn,Yo,Yr,Ys,Yt,Yu,Yv,Yw,Yx,Yz,Y2,Y4,Y7,Y9,Va,Vj,Vk,Vl,Vm,Vn,Vr,Vy,Vz,V0,V1,V2,V3,V4,V5,V6,Ui,Uj,U5,Kh,Ks,K2,G5,Ku];tactic =>
    try simp only [Uq] at *;try simp only [nc2] at *
    try simp (maxSteps:=4000000) only [hd2,hd3,hb1,hb2,hg,hlb,q1,hk6,hxb0,hxb1,hxb2,hR,hR2,mQ,lX,nY,U1,Kb,Kc,Ka,Gl,Uz,U3,U4,Um,Un,Uo,Up,szP,Ur,Ut,Uv,Us,szN,Uu,U6]
    repeat' first|with_reducible assumption|with_reducible apply And.intro|intro _|omega|(rw [Uk];omega)
    all_goals first|with_reducible exact okq|omega|exact m1|rfl|trivial|skip)
  rw [if_neg hx2] at hR2
  have hxb2:(t.text==[114,101,99])=false:=by rw [aQ];exact hx2
  by_cases hx3:t.text=[105,102]
  ·rw [if_pos hx3] at hR2
   have hxb3:(t.text==[105,102])=true:=by rw [cQ];exact hx3
   (sym=>simp [hd2,hd3,hb1,hb2,hg,hlb,q1,hk6,hxb0,hxb1,hxb2,hxb3,hR,hR2,mQ,lX,nY,U1,Kb,Kc,Ka,Gl,Uz,U3,U4,Um,Un,Uo,Up,szP,Ur,Ut,Uv,Us,szN,Uu,St,Sv,Su,Sw,Ss,Ci,Mo.eq_def,Pk.eq_def,nK,Bv.eq_def,Bt.eq_def,N9.eq_def,Bs.eq_def,mX,Zb,Zc,Zd,Ze,Zf,Zg,Zn,Zo,Zp,Zq,Zs,Zt,Zu,Zv,Zw,Zx,Zy,Z6,Qa,Qb,Qd,Qf,Qg,Qh,Qi,Qj,Qm,Qn,Qo,Qp,Qq,Qr,Qs,Qu,Qv,Qw,Qx,Q1,Q2,Q3,Q8,Ja,Jb,Jc,Jd,Je,Jf,Jj,Jq,Jr,Js,Jt,Ju,Jv,Jw,Jx,Jy,Jz,J2,J6,J7,Xa,Xb,Xi,Xj,Xl,Xm,Xn,Xq,Xr,Xu,Xw,Xx,Xy,X0,X6,X7,X8,X9,Wb,Wc,Wd,Wf,Wg,Wh,Wi,Wj,Wl,Wm,Wn,Wo,Wp,Wt,Wv,Wx,Wz,W1,W2,W6,W7,W9,Yb,Yc,Yf,Yg,Yn,Yo,Yp,Yr,Ys,Yt,Yu,Yv,Yw,Yx,Yz,Y2,Y4,Y7,Y9,Va,Vj,Vk,Vl,Vm,Vn,Vr,Vy,Vz,V0,V1,V2,V3,V4,V5,V6,Ui,Uj,U5,Kh,Ks,K2,G5,Ku];tactic =>
    try simp only [Uq] at *;try simp only [nc2] at *
    try simp (maxSteps:=4000000) only [hd2,hd3,hb1,hb2,hg,hlb,q1,hk6,hxb0,hxb1,hxb2,hxb3,hR,hR2,mQ,lX,nY,U1,Kb,Kc,Ka,Gl,Uz,U3,U4,Um,Un,Uo,Up,szP,Ur,Ut,Uv,Us,szN,Uu,U6]
    repeat' first|with_reducible assumption|with_reducible apply And.intro|intro _|omega|(rw [Uk];omega)
    all_goals first|with_reducible exact okq|omega|exact m1|rfl|trivial|skip)
  rw [if_neg hx3] at hR2
  have hxb3:(t.text==[105,102])=false:=by rw [aQ];exact hx3
  by_cases hx4:t.text=[99,97,115,101]
  ·rw [if_pos hx4] at hR2
   have hxb4:(t.text==[99,97,115,101])=true:=by rw [cQ];exact hx4
   (sym=>simp [hd2,hd3,hb1,hb2,hg,hlb,q1,hk6,hxb0,hxb1,hxb2,hxb3,hxb4,hR,hR2,mQ,lX,nY,U1,Kb,Kc,Ka,Gl,Uz,U3,U4,Um,Un,Uo,Up,szP,Ur,Ut,Uv,Us,szN,Uu,St,Sv,Su,Sw,Ss,Ci,Mo.eq_def,Pk.eq_def,nK,Bv.eq_def,Bt.eq_def,N9.eq_def,Bs.eq_def,mX,Zb,Zc,Zd,Ze,Zf,Zg,Zn,Zo,Zp,Zq,Zs,Zt,Zu,Zv,Zw,Zx,Zy,Z6,Qa,Qb,Qd,Qf,Qg,Qh,Qi,Qj,Qm,Qn,Qo,Qp,Qq,Qr,Qs,Qu,Qv,Qw,Qx,Q1,Q2,Q3,Q8,Ja,Jb,Jc,Jd,Je,Jf,Jj,Jq,Jr,Js,Jt,Ju,Jv,Jw,Jx,Jy,Jz,J2,J6,J7,Xa,Xb,Xi,Xj,Xl,Xm,Xn,Xq,Xr,Xu,Xw,Xx,Xy,X0,X6,X7,X8,X9,Wb,Wc,Wd,Wf,Wg,Wh,Wi,Wj,Wl,Wm,Wn,Wo,Wp,Wt,Wv,Wx,Wz,W1,W2,W6,W7,W9,Yb,Yc,Yf,Yg,Yn,Yo,Yp,Yq,Yr,Ys,Yt,Yu,Yv,Yw,Yx,Yz,Y2,Y4,Y7,Y9,Va,Vj,Vk,Vl,Vm,Vn,Vr,Vy,Vz,V0,V1,V2,V3,V4,V5,V6,Ui,Uj,U5,Kh,Ks,K2,G5,Ku];tactic =>
    try simp only [Uq] at *;try simp only [nc2] at *
    try simp (maxSteps:=4000000) only [hd2,hd3,hb1,hb2,hg,hlb,q1,hk6,hxb0,hxb1,hxb2,hxb3,hxb4,hR,hR2,mQ,lX,nY,U1,Kb,Kc,Ka,Gl,Uz,U3,U4,Um,Un,Uo,Up,szP,Ur,Ut,Uv,Us,szN,Uu,U6]
    repeat' first|with_reducible assumption|with_reducible apply And.intro|intro _|omega|(rw [Uk];omega)
    all_goals first|with_reducible exact okq|omega|exact m1|rfl|trivial|skip)
  rw [if_neg hx4] at hR2
  have hxb4:(t.text==[99,97,115,101])=false:=by rw [aQ];exact hx4
  (sym=>simp [hd2,hd3,hb1,hb2,hg,hlb,q1,hk6,hxb0,hxb1,hxb2,hxb3,hxb4,hm5,hR,hR2,mQ,lX,nY,U1,Kb,Kc,Ka,Gl,Uz,U3,U4,Um,Un,Uo,Up,szP,Ur,Ut,Uv,Us,szN,Uu,St,Sv,Su,Sw,Ss,Ci,Mo.eq_def,Pk.eq_def,nK,Bv.eq_def,Bt.eq_def,N9.eq_def,Bs.eq_def,mX,Zb,Zc,Zd,Ze,Zf,Zg,Zn,Zo,Zp,Zq,Zs,Zt,Zu,Zv,Zw,Zx,Zy,Z6,Qa,Qb,Qd,Qf,Qg,Qh,Qi,Qj,Qm,Qn,Qo,Qp,Qq,Qr,Qs,Qu,Qv,Qw,Qx,Q1,Q2,Q3,Q8,Ja,Jb,Jc,Jd,Je,Jf,Jj,Jq,Jr,Js,Jt,Ju,Jv,Jw,Jx,Jy,Jz,J2,J6,J7,Xa,Xb,Xi,Xj,Xl,Xm,Xn,Xq,Xr,Xu,Xw,Xx,Xy,X0,X6,X7,X8,X9,Wb,Wc,Wd,Wf,Wg,Wh,Wi,Wj,Wl,Wm,Wn,Wo,Wp,Wt,Wv,Wx,Wz,W1,W2,W6,W7,W9,Yb,Yc,Yf,Yg,Yn,Yo,Yp,Yq,Yr,Ys,Yt,Yu,Yv,Yw,Yx,Yz,Y2,Y4,Y7,Y9,Va,Vj,Vk,Vl,Vm,Vn,Vr,Vy,Vz,V0,V1,V2,V3,V4,V5,V6,Ui,Uj,U5,Kh,Ks,K2,G5,Ku];tactic =>
   try simp only [Uq] at *;try simp only [nc2] at *
   try simp (maxSteps:=4000000) only [hd2,hd3,hb1,hb2,hg,hlb,q1,hk6,hxb0,hxb1,hxb2,hxb3,hxb4,hm5,hR,hR2,mQ,lX,nY,U1,Kb,Kc,Ka,Gl,Uz,U3,U4,Um,Un,Uo,Up,szP,Ur,Ut,Uv,Us,szN,Uu,U6]
   repeat' first|with_reducible assumption|with_reducible apply And.intro|intro _|omega|(rw [Uk];omega)
   all_goals first|with_reducible exact okq|omega|exact hS|rfl|trivial|skip)
theorem ih6:∀ n,IH6 n
 | 0=>IH6.mk
  (Bx (Ke Try.func47 (by kernel_rfl) rfl) con_expr6_zero)
  (Bx (Ke Try.func61 (by kernel_rfl) rfl) con_fun6_zero)
  (Bx (Ke Try.func62 (by kernel_rfl) rfl) con_let6_zero)
  (Bx (Ke Try.func63 (by kernel_rfl) rfl) con_rec6_zero)
  (Bx (Ke Try.func64 (by kernel_rfl) rfl) con_cond6_zero)
  (Bx (Ke Try.func65 (by kernel_rfl) rfl) con_cases6_zero)
  (Bx (Ke Try.func77 (by kernel_rfl) rfl) con_operand6_zero)
  (Bx (Ke Try.func84 (by kernel_rfl) rfl) con_part6_zero)
  (Bx (Ke Try.func92 (by kernel_rfl) rfl) con_atom6_zero)
  (Bx (Ke Try.func97 (by kernel_rfl) rfl) con_paren6_zero)
  (Bx (Ke Try.func98 (by kernel_rfl) rfl) con_rows6_zero)
  (Bx (Ke Try.func99 (by kernel_rfl) rfl) con_inject6_zero)
  (Bx (Ke Try.func66 (by kernel_rfl) rfl) con_ops6_zero)
 | n+1=>IH6.mk (stepi_expr6 n (ih6 n)) (stepi_fun6 n (ih6 n)) (stepi_let6 n (ih6 n)) (stepi_rec6 n (ih6 n)) (stepi_cond6 n (ih6 n)) (stepi_cases6 n (ih6 n)) (stepi_operand6 n (ih6 n)) (stepi_part6 n (ih6 n)) (stepi_atom6 n (ih6 n)) (stepi_paren6 n (ih6 n)) (stepi_rows6 n (ih6 n)) (stepi_inject6 n (ih6 n)) (stepi_ops6 n (ih6 n))
def Av:Con:=Gi 3000
theorem con_expr6A_d:Av=Gi 3000:=rfl
theorem good_expr6A:Hg Try.prog (47,Av):=(ih6 3000).expr
structure Def6 where
 name:List UInt8
 t:List Node
 e:List Part
 deriving DecidableEq
instance encDef6:Enc Def6:=⟨fun a=>.agg [.str a.name,.list 3 (a.t.map enc),.list 8 (a.e.map enc)],fun x=>match x with
 | .agg [a,b,c]=>⟨a.s,b.l.map dec,c.l.map dec⟩
 | _=>⟨[],[],[]⟩,fun a=>by
  have h1:∀ l:List Node,(l.map (enc:Node→D)).map dec=l:=fun l=>Pf
  have h2:∀ l:List Part,(l.map (enc:Part→D)).map dec=l:=fun l=>Pf
  cases a
  simp [D.l,D.s,h1,h2]⟩
instance szDef6:Sz Def6:=⟨3⟩
theorem M8:Sz.sz Def6=3:=rfl
theorem Gw {a:List UInt8} {b:List Node} {c:List Part}:(enc (Def6.mk a b c):D)=.agg [.str a,.list 3 (b.map enc),.list 8 (c.map enc)]:=rfl
theorem Ic {a:Def6}:(enc a:D)=.agg [.str a.name,.list 3 (a.t.map enc),.list 8 (a.e.map enc)]:=rfl
theorem Pb {a:List UInt8} {b:List Node} {c:List Part}:(dec (.agg [.str a,.list 3 (b.map enc),.list 8 (c.map enc)]):Def6)=⟨a,b,c⟩:=Enc.dec_enc (Def6.mk a b c)
theorem Pa {a:List UInt8} {b:List Node} {c:List Part}:isE Def6 (.agg [.str a,.list 3 (b.map enc),.list 8 (c.map enc)])=True:=eq_true (Cp (Def6.mk a b c))
structure Mod6 where
 name:List UInt8
 imps:List (List UInt8)
 defs:List Def6
 sites:List Site
 deriving DecidableEq
instance encMod6:Enc Mod6:=⟨fun a=>.agg [.str a.name,.list 1 (a.imps.map enc),.list 3 (a.defs.map enc),.list 3 (a.sites.map enc)],fun x=>match x with
 | .agg [a,b,c,d]=>⟨a.s,b.l.map dec,c.l.map dec,d.l.map dec⟩
 | _=>⟨[],[],[],[]⟩,fun a=>by
  have h0:∀ l:List (List UInt8),(l.map (enc:List UInt8→D)).map dec=l:=fun l=>Pf
  have h1:∀ l:List Def6,(l.map (enc:Def6→D)).map dec=l:=fun l=>Pf
  have h2:∀ l:List Site,(l.map (enc:Site→D)).map dec=l:=fun l=>Pf
  cases a
  simp [D.l,D.s,h0,h1,h2]⟩
instance szMod6:Sz Mod6:=⟨4⟩
theorem G8:Sz.sz Mod6=4:=rfl
theorem Km {a:List UInt8} {b:List (List UInt8)} {c:List Def6} {d:List Site}:(enc (Mod6.mk a b c d):D)=.agg [.str a,.list 1 (b.map enc),.list 3 (c.map enc),.list 3 (d.map enc)]:=rfl
theorem enc_Mod6 {a:Mod6}:(enc a:D)=.agg [.str a.name,.list 1 (a.imps.map enc),.list 3 (a.defs.map enc),.list 3 (a.sites.map enc)]:=rfl
theorem Ky {a:List UInt8} {b:List (List UInt8)} {c:List Def6} {d:List Site}:(dec (.agg [.str a,.list 1 (b.map enc),.list 3 (c.map enc),.list 3 (d.map enc)]):Mod6)=⟨a,b,c,d⟩:=Enc.dec_enc (Mod6.mk a b c d)
theorem Kx {a:List UInt8} {b:List (List UInt8)} {c:List Def6} {d:List Site}:isE Mod6 (.agg [.str a,.list 1 (b.map enc),.list 3 (c.map enc),.list 3 (d.map enc)])=True:=eq_true (Cp (Mod6.mk a b c d))
def Du:Def6:=⟨[],[],[]⟩
def C8:Mod6:=⟨[],[],[],[]⟩
def hadD (had:List Def6) (x:List UInt8):Bool:=had.any fun d=>d.name==x
def def6 (l:List Tok) (s:St6) (had:List Def6):Def6×St6 :=
 let x:=Hp l s 1
 if x.2.e=0∧hadD had x.1=true then (Du,Ns s 7)
 else
  let t:=Cn l x.2 1
  let r:=Nm l 100 (Gz l t.2 5 [61])
  (⟨x.1,t.1,r.1⟩,Gz l r.2 5 [59])
def Si:Con:=Kl (fun (l:Sl Tok) (s:St6) (had:Sl Def6)=>St6In l.l s∧had.l.length≤1000) (fun l s had=>def6 l.l s had.l)
noncomputable def ctx_def6:Ctx:=⟨tab,lkC [(29,Kv),(31,Kr),(46,Ma),(32,Gk),(47,Av)],60,lkB [],[],false⟩
theorem ctx_def6_t:ctx_def6.τ=tab:=rfl
theorem ctx_def6_c:ctx_def6.Γ=lkC [(29,Kv),(31,Kr),(46,Ma),(32,Gk),(47,Av)]:=rfl
theorem ctx_def6_d:ctx_def6.dp=60:=rfl
theorem ctx_def6_b:ctx_def6.Δ=lkB []:=rfl
theorem ctx_def6_u:ctx_def6.cuts=[]:=rfl
theorem ctx_def6_w:ctx_def6.wr=false:=rfl
set_option maxRecDepth 100000 in
theorem good_def6:Hg Try.prog (33,Si):=by
 refine ⟨Ke Try.func33 (by kernel_rfl) rfl,?_⟩
 have K:Gu Try.prog ctx_def6:=Ko G7 Kw (by
  intro p hp
  simp only [bQ,bZ,or_false] at hp
  rcases hp with rfl|rfl|rfl|rfl|rfl
  ·exact Tn
  ·exact Cg
  ·exact good_noted6
  ·exact Cq
  ·exact good_expr6A) (by simp)
 obtain ⟨c,hc⟩:∃ c,Try.f33.body=some c:=⟨_,rfl⟩
 refine Kn K Try.func33 hc [.cell 6 54,.cell 7 71] rfl 62 rfl (fun cvs hpre=>?_)
 change Si.pre cvs at hpre
 unfold Si at hpre
 obtain ⟨⟨l⟩,s,⟨had⟩,rfl,hS,hh⟩:=El hpre
 simp only at hS hh
 clear hpre
 have hT:=hS.toks
 have o0:=hS.nums
 obtain ⟨R,hR⟩:∃ R,def6 l s had=R:=⟨_,rfl⟩
 have hR2:=hR
 unfold def6 at hR2
 have m1:=hS.named 1
 have hat:=Ax hS.pos 1
 obtain ⟨⟨x,⟨i1,ss1,e1⟩⟩,h1⟩:∃ q,Hp l s 1=q:=⟨_,rfl⟩
 rw [h1] at hR2 m1 hat
 simp only at hR2 m1 hat
 have hgain:e1=0→1≤i1:=fun h=>by have h1:=(hat.gain h).2;have h2:=(hat.gain h).1;have:=hS.pos.lo;simp only at h1 h2;omega
 have o1:=m1.nums
 simp only at o1
 obtain ⟨⟨Wa,Ws,We⟩,hW⟩:∃ q,Ns s 7=q:=⟨_,rfl⟩
 rw [hW] at hR2
 have hu:=Di hT m1.pos (v:=1) fun _=>⟨by omega,by omega⟩
 have m2:=hS.go (hat.trans hu.adv (m:=0) (q:=0) (by omega) (by omega) (by omega)) (by omega) (by omega)
 have m1o:=m1.ok6
 clear hat
 obtain ⟨i0,ss0,e0⟩:=s
 simp only at o0
 simp only [Try.f33,aZ] at hc
 subst hc
 refine Gf 3 (of_decide_eq_true (by kernel_rfl)) ?_
 (sym=>simp [h1,mQ,mK,lQ,lX,Uz,U3,U4,Um,Un,Uo,Up,szP,Ur,Ut,Uv,Us,szN,Uu,ctx_def6_t,ctx_def6_c,ctx_def6_d,ctx_def6_b,Si.eq_def,Av.eq_def,mW,Ma.eq_def,nW,mX,Zb,Zc,Ze,Zf,Zo,Zp,Zq,Zu,Zv,Zw,Qa,Qb,Qg,Qh,Qi,Qj,Qm,Qn,Qs,Qu,Qv,Qw,Qx,Q1,Q2,Q3,Q8,Ja,Jb,Jc,Je,Jj,Jq,Jr,Js,Jt,Jv,Jw,Jy,Jz,J2,J6,J7,Xa,Xb,Xj,Xl,Xn,Xo,Xr,Xu,Xw,Xx,Xy,X0,X6,X7,X8,X9,Wb,Wc,Wd,Wf,Wh,Wi,Wj,Wl,Wo,Wp,W6,Ye,Yn,Yo,Yr,Ys,Yt,Yu,Yv,Yw,Yx,Yz,Y2,Y4,Y9,Va,Vj,V0,V1,V2,V4,V5,V6,Ui,Uj,U5,Kh,Ks,Pq,Pp,K2,G5,Ku];tactic =>
  try simp only [Uq] at *;try simp only [nc2] at *
  try simp (maxSteps:=4000000) only [h1,mQ,mK,lQ,lX,Uz,U3,U4,Um,Un,Uo,Up,szP,Ur,Ut,Uv,Us,szN,Uu,U6]
  repeat' first|with_reducible assumption|with_reducible apply And.intro|intro _|omega|(rw [Uk];omega)
  refine Kk [19,20,21,22,23,24,25,26,27,28,29,30,31,32,33,34,35,36,37,38,39] (fun k:Nat=>[(10,.d (.int .i64 k))]) (fun k:Nat=>[]) (fun k:Nat=>k≤had.length∧(e1=0→∀ m,m<k→((had.getD m Du).name==x)=false)) (fun k:Nat=>had.length-k) 0 ?_ ?_ ?_
  ·exact ⟨by omega,fun _ m hm=>absurd hm (Nat.not_lt_zero m)⟩
  ·exact wkq
  rintro k ⟨hk,hno⟩
  rcases Kt k had.length with ⟨hlt,hlb⟩|⟨hlt,hlb⟩
  ·have q1:=K7 Du hlt
   have hst:((had.getD k Du).name==x)=false→∀ m,m<k+1→e1=0→((had.getD m Du).name==x)=false:=fun h m hm he=>by
    by_cases e:m=k
    ·subst e;exact h
    ·exact hno he m (by omega)
   have hit:e1=0→((had.getD k Du).name==x)=true→hadD had x=true:=fun _ h=>by
    unfold hadD
    rw [List.any_eq_true]
    refine ⟨had.getD k Du,by simp [hlt],h⟩
   obtain ⟨y,hy⟩:∃ y,had.getD k Du=y:=⟨_,rfl⟩
   rw [hy] at q1 hst hit
   by_cases he:e1=0
   case neg =>
    have heb:(e1==0)=false:=by rw [aQ];exact he
    (sym=>simp [M8,hlb,heb,mQ,mK,lQ,lX,Uz,U3,U4,Um,Un,Uo,Up,szP,Ur,Ut,Uv,Us,szN,Uu,ctx_def6_t,ctx_def6_u,ctx_def6_w,Zb,Zc,Zd,Ze,Zf,Zg,Zo,Zp,Zq,Zs,Zt,Zv,Zx,Z6,Qd,Qf,Qo,Qs,Qu,Qv,Qw,Qx,Ja,Jf,Jl,Jm,Jn,Js,Jt,Jv,Jw,Jy,Jz,Xi,Xj,Xl,Xm,Xn,Xr,Xu,Xw,Xx,Xy,X6,X7,X8,X9,Wj,Wl,Wm,Wn,Wo,Wp,Wr,Wt,Wx,Yf,Yg,Yn,Yo,Y9,Va,Vj,Vk,Vy,Vz,V0,V1,V2,V3,V5,V6,Ui,U5,Kh,Ks,Pq,Pp,K2,G5,Ku];tactic =>
     try simp only [Uq] at *;try simp only [nc2] at *
     try simp (maxSteps:=4000000) only [M8,hlb,heb,mQ,mK,lQ,lX,Uz,U3,U4,Um,Un,Uo,Up,szP,Ur,Ut,Uv,Us,szN,Uu,U6]
     repeat' first|with_reducible assumption|with_reducible apply And.intro|intro _|omega|(rw [Uk];omega)
     all_goals first|with_reducible exact okq|omega|exact ⟨k+1,wkq,by omega,fun h=>absurd h he,by omega⟩|skip)
   subst he
   have heb:((0:Int)==0)=true:=rfl
   cases hb:(y.name==x) with
   | true =>
    rw [if_pos ⟨rfl,hit rfl hb⟩] at hR2
    subst hR2
    (sym=>simp [M8,hlb,heb,q1,hb,hW,hR,Ic,mQ,mK,lQ,lX,Uz,U3,U4,Um,Un,Uo,Up,szP,Ur,Ut,Uv,Us,szN,Uu,ctx_def6_t,ctx_def6_c,ctx_def6_d,ctx_def6_b,ctx_def6_u,Av.eq_def,mW,Ma.eq_def,nW,mX,Zb,Zc,Zd,Ze,Zf,Zg,Zo,Zp,Zq,Zs,Zt,Zv,Zw,Zx,Zy,Z2,Z6,Qb,Qd,Qf,Qg,Qh,Qj,Qm,Qn,Qo,Qp,Qq,Qr,Qs,Qu,Qv,Qw,Qx,Q0,Q1,Q3,Q8,Q9,Ja,Jb,Jc,Jd,Je,Jf,Jl,Jm,Jn,Js,Jt,Jv,Jw,Jy,Jz,J2,J5,Xa,Xb,Xi,Xj,Xl,Xm,Xn,Xq,Xr,Xu,Xw,Xx,Xy,X0,X6,X7,X8,X9,Wb,Wd,Wf,Wg,Wh,Wi,Wj,Wl,Wm,Wn,Wo,Wp,Wr,Wt,Wv,Wx,Wz,W1,W6,W9,Yb,Yf,Yg,Yn,Yo,Ys,Yt,Yu,Yv,Yw,Yx,Y2,Y7,Y9,Va,Vj,Vk,Vy,Vz,V0,V1,V2,V3,V4,V5,V6,Ue,Uf,Ui,Uj,U5,Kh,Ks,Pq,Pp,K2,G5,Ku];tactic =>
     try simp only [Uq] at *;try simp only [nc2] at *
     try simp (maxSteps:=4000000) only [M8,hlb,heb,q1,hb,hW,hR,Ic,mQ,mK,lQ,lX,Uz,U3,U4,Um,Un,Uo,Up,szP,Ur,Ut,Uv,Us,szN,Uu,U6]
     repeat' first|with_reducible assumption|with_reducible apply And.intro|intro _|omega|(rw [Uk];omega)
     all_goals first|with_reducible exact okq|omega|rfl|trivial|skip)
   | false =>
    have hst2:∀ m,m<k+1→((had.getD m Du).name==x)=false:=fun m hm=>hst hb m hm rfl
    clear hst
    (sym=>simp [M8,hlb,heb,q1,hb,Ic,mQ,mK,lQ,lX,Uz,U3,U4,Um,Un,Uo,Up,szP,Ur,Ut,Uv,Us,szN,Uu,ctx_def6_t,ctx_def6_u,ctx_def6_w,Zb,Zc,Zd,Ze,Zf,Zg,Zo,Zp,Zq,Zs,Zt,Zv,Zx,Zy,Z6,Qd,Qf,Qo,Qs,Qu,Qv,Qw,Qx,Ja,Jf,Jl,Jm,Jn,Js,Jt,Jv,Jw,Jy,Jz,Xi,Xj,Xl,Xm,Xn,Xr,Xu,Xw,Xx,Xy,X6,X7,X8,X9,Wj,Wl,Wm,Wn,Wo,Wp,Wr,Wt,Wv,Wx,Wz,W1,W9,Yb,Yf,Yg,Yn,Yo,Y7,Y9,Va,Vj,Vk,Vy,Vz,V0,V1,V2,V3,V5,V6,Ui,U5,Kh,Ks,Pq,Pp,K2,G5,Ku];tactic =>
     try simp only [Uq] at *;try simp only [nc2] at *
     try simp (maxSteps:=4000000) only [M8,hlb,heb,q1,hb,Ic,mQ,mK,lQ,lX,Uz,U3,U4,Um,Un,Uo,Up,szP,Ur,Ut,Uv,Us,szN,Uu,U6]
     repeat' first|with_reducible assumption|with_reducible apply And.intro|intro _|omega|(rw [Uk];omega)
     all_goals first|with_reducible exact okq|omega|exact ⟨k+1,wkq,by omega,(by first|exact hst2|exact fun _=>hst2|exact fun m hm=>beq_eq_false_iff_ne.1 (hst2 m hm)),by omega⟩|skip)
  ·have hke:k=had.length:=by omega
   have hno2:¬ (e1=0∧hadD had x=true):=fun h=>by
    unfold hadD at h
    rw [List.any_eq_true] at h
    obtain ⟨he,y,hy,hyx⟩:=h
    obtain ⟨m,hm,rfl⟩:=List.getElem_of_mem hy
    have:=hno he m (by omega)
    rw [aY,aK hm,Option.getD_some,hyx] at this
    exact Bool.noConfusion this
   rw [if_neg hno2] at hR2
   clear hno
   obtain ⟨⟨u,⟨i2,ss2,e2⟩⟩,h2⟩:∃ q,Cn l ⟨i1,ss1,e1⟩ 1=q:=⟨_,rfl⟩
   rw [h2] at hR2 m2 hu
   simp only at hR2 m2
   have m3:=m2.needs 5 [61]
   obtain ⟨⟨i3,ss3,e3⟩,h3⟩:∃ q,Gz l ⟨i2,ss2,e2⟩ 5 [61]=q:=⟨_,rfl⟩
   rw [h3] at hR2 m3
   have m4:=m3.expr (d:=100) (by omega)
   obtain ⟨⟨A,⟨i4,ss4,e4⟩⟩,h4⟩:∃ q,Nm l 100 ⟨i3,ss3,e3⟩=q:=⟨_,rfl⟩
   rw [h4] at hR2 m4
   simp only at hR2 m4
   obtain ⟨⟨i5,ss5,e5⟩,h5⟩:∃ q,Gz l ⟨i4,ss4,e4⟩ 5 [59]=q:=⟨_,rfl⟩
   rw [h5] at hR2
   have o2:=m2.nums
   have o4:=m4.nums
   simp only at o2 o4
   have h100:Int.toNat 100=100:=rfl
   clear hu
   subst hR2
   (sym=>simp [M8,hlb,h2,h3,h4,h5,h100,hR,con_expr6A_d,nK,mQ,mK,lQ,lX,Uz,U3,U4,Um,Un,Uo,Up,szP,Ur,Ut,Uv,Us,szN,Uu,ctx_def6_t,ctx_def6_c,ctx_def6_d,ctx_def6_b,mW,Ma.eq_def,nW,mX,Zb,Zc,Ze,Zf,Zg,Zo,Zp,Zq,Zv,Zw,Z2,Z6,Qa,Qb,Qd,Qf,Qg,Qh,Qi,Qj,Qm,Qn,Qp,Qq,Qr,Qs,Qu,Qv,Qw,Qx,Q0,Q1,Q2,Q3,Q8,Q9,Ja,Jb,Jc,Jd,Je,Jl,Jm,Jn,Js,Jt,Ju,Jv,Jw,Jx,Jy,Jz,J2,J5,Xa,Xb,Xj,Xl,Xm,Xp,Xq,Xr,Xu,Xw,Xx,Xy,X0,X6,X7,X8,X9,Wb,Wd,Wf,Wg,Wh,Wi,Wj,Wl,Wm,Wn,Wo,Wp,Wr,Wt,Wx,W4,W6,Yf,Yg,Yh,Yn,Yo,Yp,Yq,Ys,Yt,Yu,Yv,Yw,Yx,Yy,Yz,Y2,Y3,Y4,Y9,Va,Vj,Vl,Vn,Vt,Vv,Vw,Vz,V0,V1,V2,V3,V4,V5,V6,Ue,Uf,Ug,Uh,Ui,Uj,U5,Kh,Ks,Pq,Pp,K2,G5,Ku];tactic =>
    try simp only [Uq] at *;try simp only [nc2] at *
    try simp (maxSteps:=4000000) only [M8,hlb,h2,h3,h4,h5,h100,hR,con_expr6A_d,nK,mQ,mK,lQ,lX,Uz,U3,U4,Um,Un,Uo,Up,szP,Ur,Ut,Uv,Us,szN,Uu,U6]
    repeat' first|with_reducible assumption|with_reducible apply And.intro|intro _|omega|(rw [Uk];omega)
    all_goals first|with_reducible exact okq|omega|exact m1o|exact m3|exact hgain|rfl|trivial|skip))
def C9 (z:Int) (d:Def6):Nat:=Hz (Pi z) d.t+Bj z d.e
def defsW (z:Int) (l:List Def6):Nat:=(l.map (C9 z)).sum
structure FitD (d:Def6):Prop where
 name:d.name.length≤1000000
 t:d.t.length≤100001
 named:L3 d.t
 e:d.e.length≤300000
 fit:∀ p∈d.e,FitR p
structure Defd (l:List Tok) (s:St6) (r:Def6×St6):Prop where
 adv:Adv l 1 0 s r.2
 cnt:r.2.e=0→∀ z,C9 z r.1=if (s.sites.length:Int)+1≤z∧z<(r.2.sites.length:Int)+1 then 1 else 0
 fit:FitD r.1
 ok:r.2.e=0→r.1.t≠[]∧L4 r.1.t=true∧r.1.e≠[]
theorem O9 {s:St6} {e:Int} (he:e≠0):(Ns s e).e≠0:=by
 unfold Ns
 split
 ·exact he
 ·assumption
theorem reads_def {l:List Tok} (hT:Toks l) {s:St6} (h:Pos l s) (had:List Def6):Defd l s (def6 l s had):=by
 unfold def6
 simp only
 split
 ·have hw:=A4 h (e:=7) (by decide)
  have he:(Ns s 7).e≠0:=O9 (by decide)
  exact ⟨hw.adv,fun h0=>absurd h0 he,⟨by simp [Du],by simp [Du],G3,by simp [Du],fun p hp=>(by cases hp)⟩,fun h0=>absurd h0 he⟩
 ·have q1:=(Sq.refl h).tok (by omega) (Rb h 1)
  have hx:=Bl hT s 1
  have hu:=Di hT q1.adv.pos (v:=1) fun _=>⟨by omega,by omega⟩
  have q2:=q1.note hu (by omega) (by omega)
  have q3:=q2.tok (by omega) (Mg q2.adv.pos 5 [61])
  have hr:=Ho hT 100 (by omega) _ q3.adv.pos
  have q4:=q3.read (by omega) hr
  have q5:=q4.tok (by omega) (Mg q4.adv.pos 5 [59])
  have hl:(Nm l 100 (Gz l (Cn l (Hp l s 1).2 1).2 5 [61])).1.length≤300000:=by
   have h1:=hr.len
   have h2:=hT.len
   have h3:=q3.adv.lo
   omega
  have back:(Gz l (Nm l 100 (Gz l (Cn l (Hp l s 1).2 1).2 5 [61])).2 5 [59]).e=0→(Nm l 100 (Gz l (Cn l (Hp l s 1).2 1).2 5 [61])).2.e=0:=fun h0=>(F7 q4.adv.pos 5 [59]).ok0 h0
  refine ⟨q5.adv.weak (by omega) (Int.le_refl _),fun h0 z=>?_,⟨hx,hu.len,hu.named,hl,hr.fit⟩,fun h0=>?_⟩
  ·have:=q5.cnt h0 z
   unfold C9
   simp only
   omega
  ·have h1:=back h0
   have h2:=(F7 q2.adv.pos 5 [61]).ok0 (hr.adv.ok0 h1)
   exact ⟨(hu.ok h2).1,(hu.ok h2).2,(hr.ok h1).1⟩
def impL (l:List Tok):Nat→St6→List (List UInt8)→Bool×List (List UInt8)×St6
 | 0,s,imps=>(true,imps,s)
 | f+1,s,imps =>
  if is6 l s 6 [105,109,112,111,114,116]=false then (false,imps,s)
  else if (Hp l (Pe s) 1).2.e=0∧in6 imps (Hp l (Pe s) 1).1=true then (true,imps,Ns (Pe s) 7)
  else impL l f (Gz l (Hp l (Pe s) 1).2 5 [59]) (imps++[(Hp l (Pe s) 1).1])
def defL (l:List Tok):Nat→St6→List Def6→List Int→Bool×List Def6×List Int×St6
 | 0,s,defs,pl=>(true,defs,[],s)
 | f+1,s,defs,pl =>
  if is6 l s 6 [100,101,102]=false then (false,defs,pl,s)
  else if defs.length=200 then (true,defs,[],Ns s 3)
  else defL l f (def6 l (Pe s) defs).2 (defs++[(def6 l (Pe s) defs).1]) (pl++[s.at_])
def last6 (l:List Tok) (s:St6):St6:=if s.e=0∧((l.length:Int)≤s.at_∨(tk l s.at_).kind≠0) then Ns s 2 else s
def Sj (l:List Tok) (name:List UInt8):Mod6×St6×List Int :=
 let a:=impL l (l.length+1) ⟨0,[],0⟩ []
 if a.1=true then (⟨name,a.2.1,[],[]⟩,a.2.2,[])
 else
  let b:=defL l 201 a.2.2 [] []
  if b.1=true then (⟨name,a.2.1,b.2.1,[]⟩,b.2.2.2,[])
  else (⟨name,a.2.1,b.2.1,(last6 l b.2.2.2).sites⟩,last6 l b.2.2.2,b.2.2.1)
theorem O6 (s:St6) (e:Int):(Ns s e).at_=s.at_∧(Ns s e).sites=s.sites:=by
 unfold Ns
 split<;>exact ⟨rfl,rfl⟩
theorem needs6_sites (l:List Tok) (s:St6) (k:Int) (x:List UInt8):(Gz l s k x).sites=s.sites:=by
 unfold Gz
 split
 ·rfl
 split
 ·exact (O6 s 2).2
 ·rfl
theorem named6_sites (l:List Tok) (s:St6) (k:Int):(Hp l s k).2.sites=s.sites:=by
 unfold Hp
 split
 ·rfl
 split
 ·exact (O6 s 2).2
 ·rfl
structure Imps (l:List Tok) (r:Bool×List (List UInt8)×St6):Prop where
 pos:Pos l r.2.2
 stop:r.1=true→r.2.2.e≠0
 sites:r.2.2.sites=[]
 short:∀ x∈r.2.1,x.length≤1000000
 len:r.2.1.length≤l.length+1
theorem impL_ok {l:List Tok} (hT:Toks l):∀ (f:Nat) (s:St6) (imps:List (List UInt8)),Pos l s→s.sites=[]→(s.e=0→(l.length:Int)+1≤f+s.at_)→imps.length+f≤l.length+1→(∀ x∈imps,x.length≤1000000)→Imps l (impL l f s imps)
 | 0,s,imps,hP,hs,h0,hf,hi=>⟨hP,fun _ he=>by have:=h0 he;have:=hP.hi;omega,hs,hi,by show imps.length≤_;omega⟩
 | f+1,s,imps,hP,hs,h0,hf,hi=>by
  rw [impL]
  split
  ·exact ⟨hP,fun h=>by simp at h,hs,hi,by show imps.length≤_;omega⟩
  rename_i his
  have his:is6 l s 6 [105,109,112,111,114,116]=true:=by simpa using his
  have q1:=(Sq.refl hP).tok (by omega) (tk_is hP his)
  split
  ·refine ⟨?_,fun _=>O9 (by decide),?_,hi,by show imps.length≤_;omega⟩
   ·show Pos l (Ns (Pe s) 7)
    obtain ⟨e1,e2⟩:=O6 (Pe s) 7
    exact ⟨by rw [e1];exact q1.adv.lo,by rw [e1];exact q1.adv.hi⟩
   ·show (Ns (Pe s) 7).sites=[]
    rw [(O6 (Pe s) 7).2]
    exact hs
  ·have q2:=q1.tok (by omega) (Rb q1.adv.pos 1)
   have q3:=q2.tok (by omega) (Mg q2.adv.pos 5 [59])
   refine impL_ok hT f _ _ q3.adv.pos ?_ (fun he=>?_) (by simp only [bY,bJ,List.length_nil];omega) (fun x hx=>?_)
   ·rw [needs6_sites,named6_sites]
    exact hs
   ·have h1:=h0 (q3.adv.ok0 he)
    have h2:=(q3.adv.gain he).2
    have h3:=(q3.adv.gain he).1
    omega
   ·rcases List.mem_append.1 hx with hx|hx
    ·exact hi x hx
    ·rw [bW] at hx
     subst hx
     exact Bl hT _ _
theorem in6_nil {l:List Tok} (hT:Toks l) {s:St6} (hP:Pos l s) (hs:s.sites=[]):St6In l s:=⟨hT,hP,by rw [hs];simp,fun _=>by rw [hs];have:=hP.lo;simp;omega⟩
structure Defs (l:List Tok) (s0:St6) (r:Bool×List Def6×List Int×St6):Prop where
 adv:Adv l 0 0 s0 r.2.2.2
 stop:r.1=true→r.2.2.2.e≠0
 cnt:r.2.2.2.e=0→∀ z,defsW z r.2.1=if (s0.sites.length:Int)+1≤z∧z<(r.2.2.2.sites.length:Int)+1 then 1 else 0
 fit:∀ d∈r.2.1,FitD d
 ok:r.2.2.2.e=0→∀ d∈r.2.1,d.t≠[]∧L4 d.t=true∧d.e≠[]
 len:r.2.1.length≤200
 pl:r.1=false→r.2.2.1.length=r.2.1.length∧∀ x∈r.2.2.1,0≤x∧x<l.length
theorem defL_ok {l:List Tok} (hT:Toks l) {s0:St6}:∀ (f:Nat) (s:St6) (defs:List Def6) (pl:List Int),Defs l s0 (false,defs,pl,s)→defs.length+f=201→Defs l s0 (defL l f s defs pl)
 | 0,s,defs,pl,h,hf=>by have:=h.len;simp only at this;omega
 | f+1,s,defs,pl,h,hf=>by
  rw [defL]
  split
  ·exact h
  rename_i his
  have his:is6 l s 6 [100,101,102]=true:=by simpa using his
  have hlt:=is6_lt his
  have hP:=h.adv.pos
  have hadv:=h.adv
  have hcnt:=h.cnt
  have hok:=h.ok
  have hlen:=h.len
  have hpl:=h.pl rfl
  simp only at hP hadv hcnt hok hlen hpl
  split
  ·have hw:=A4 hP (e:=3) (by decide)
   exact ⟨hadv.trans hw.adv (by omega) (by omega) (by omega),fun _=>O9 (by decide),fun he=>absurd he (O9 (by decide)),h.fit,fun he=>absurd he (O9 (by decide)),h.len,fun h=>by simp at h⟩
  rename_i h200
  have t1:=(tk_is hP his).adv
  have hd:=reads_def hT t1.pos defs
  have a2:=t1.trans hd.adv (m:=0) (q:=0) (by omega) (by omega) (by omega)
  refine defL_ok hT f _ _ _ ⟨hadv.trans a2 (by omega) (by omega) (by omega),fun h=>by simp at h,fun he z=>?_,fun d hx=>?_,fun he d hx=>?_,?_,fun _=>⟨?_,fun x hx=>?_⟩⟩ ?_
  ·have e1:=hcnt hlt.1 z
   have e2:=hd.cnt he z
   have g1:=(hadv.gain hlt.1).1
   have g2:=(hd.adv.gain he).1
   have hss:(Pe s).sites=s.sites:=rfl
   rw [hss] at e2 g2
   show defsW z (defs++[_])=_
   unfold defsW at e1 ⊢
   rw [List.map_append,List.sum_append]
   simp only [List.map_cons,List.map_nil,List.sum_cons,List.sum_nil,Nat.add_zero]
   rw [e1,e2]
   exact cnt_join (by omega) (by omega)
  ·rcases List.mem_append.1 hx with hx|hx
   ·exact h.fit d hx
   ·rw [bW] at hx
    subst hx
    exact hd.fit
  ·rcases List.mem_append.1 hx with hx|hx
   ·exact hok hlt.1 d hx
   ·rw [bW] at hx
    subst hx
    exact hd.ok he
  ·show (defs++[_]).length≤200
   simp only [bY,bJ,List.length_nil]
   omega
  ·show (pl++[_]).length=(defs++[_]).length
   simp only [bY,bJ,List.length_nil]
   omega
  ·rcases List.mem_append.1 hx with hx|hx
   ·exact hpl.2 x hx
   ·rw [bW] at hx
    subst hx
    exact ⟨hP.lo,hlt.2⟩
  ·simp only [bY,bJ,List.length_nil]
   omega
theorem last6_keeps (l:List Tok) (s:St6):(last6 l s).at_=s.at_∧(last6 l s).sites=s.sites∧((last6 l s).e=0→last6 l s=s):=by
 unfold last6
 split
 ·obtain ⟨h1,h2⟩:=O6 s 2
  exact ⟨h1,h2,fun h=>absurd h (O9 (by decide))⟩
 ·exact ⟨rfl,rfl,fun _=>rfl⟩
structure Modd (l:List Tok) (name:List UInt8) (m:Mod6):Prop where
 name:m.name=name
 short:∀ x∈m.imps,x.length≤1000000
 ilen:m.imps.length≤l.length+1
 dlen:m.defs.length≤200
 fit:∀ d∈m.defs,FitD d
 ok:∀ d∈m.defs,d.t≠[]∧L4 d.t=true∧d.e≠[]
 slen:m.sites.length≤l.length
 cnt:∀ z,defsW z m.defs=if 1≤z∧z<(m.sites.length:Int)+1 then 1 else 0
theorem module6_ok {l:List Tok} (hT:Toks l) (name:List UInt8):Pos l (Sj l name).2.1∧(Sj l name).1.defs.length≤200∧(∀ d∈(Sj l name).1.defs,FitD d) ∧
  ((Sj l name).2.1.e=0→Modd l name (Sj l name).1∧(Sj l name).2.2.length=(Sj l name).1.defs.length∧∀ x∈(Sj l name).2.2,0≤x∧x<l.length):=by
 have hI:=impL_ok hT (l.length+1) ⟨0,[],0⟩ [] ⟨by simp,by simp⟩ rfl (fun _=>by simp) (by simp) (fun x hx=>by cases hx)
 unfold Sj
 simp only
 obtain ⟨a,ha⟩:∃ a,impL l (l.length+1) ⟨0,[],0⟩ []=a:=⟨_,rfl⟩
 rw [ha] at hI ⊢
 split
 ·rename_i h1
  exact ⟨hI.pos,by simp,fun d hd=>(by cases hd),fun he=>absurd he (hI.stop h1)⟩
 have hD:=defL_ok hT (s0:=a.2.2) 201 a.2.2 [] [] ⟨(Adv.refl hI.pos).weak (by omega) (by omega),fun h=>by simp at h,fun _ z=>(by show 0=if (a.2.2.sites.length:Int)+1≤z∧z<(a.2.2.sites.length:Int)+1 then 1 else 0;rw [if_neg (by omega)]),fun d hd=>(by cases hd),fun _ d hd=>(by cases hd),by simp,fun _=>⟨rfl,fun x hx=>(by cases hx)⟩⟩ (by simp)
 obtain ⟨b,hb⟩:∃ b,defL l 201 a.2.2 [] []=b:=⟨_,rfl⟩
 rw [hb] at hD ⊢
 split
 ·rename_i h1
  exact ⟨hD.adv.pos,hD.len,hD.fit,fun he=>absurd he (hD.stop h1)⟩
 rename_i h1
 have h1:b.1=false:=by simpa using h1
 obtain ⟨k1,k2,k3⟩:=last6_keeps l b.2.2.2
 refine ⟨⟨by rw [k1];exact hD.adv.lo,by rw [k1];exact hD.adv.hi⟩,hD.len,hD.fit,fun he=>?_⟩
 have hke:=k3 he
 simp only at he
 rw [hke] at he ⊢
 have hc:=hD.cnt he
 have hs:=hI.sites
 have hroom:=hD.adv.room (hD.adv.ok0 he)
 have hlo:=hI.pos.lo
 refine ⟨⟨rfl,hI.short,hI.len,hD.len,hD.fit,hD.ok he,?_,fun z=>?_⟩,(hD.pl h1).1,(hD.pl h1).2⟩
 ·show b.2.2.2.sites.length≤l.length
  rw [hs] at hroom
  simp only [List.length_nil] at hroom
  omega
 ·have:=hc z
  rw [hs] at this
  simpa using this
def Gn {A B R S T:Type} [Enc A] [Enc B] [Enc R] [Enc S] [Enc T] (p:A→B→Prop) (f:A→B→R×S×T):Con:=⟨[false,false],[false,false,false],fun c=>match c with
 | [.d x,.d y]=>isE A x∧isE B y∧p (dec x) (dec y)
 | _=>False,fun c=>match c with
 | [.d x,.d y]=>.tup [.d (enc (f (dec x) (dec y)).1),.d (enc (f (dec x) (dec y)).2.1),.d (enc (f (dec x) (dec y)).2.2)]
 | _=>.d .nilp⟩
theorem lJ:type_of% @Gn.eq_def:=@Gn.eq_def
theorem cn2ttt_pre {A B R S T:Type} [Enc A] [Enc B] [Enc R] [Enc S] [Enc T] {p:A→B→Prop} {f:A→B→R×S×T} {c:List CV} (h:(Gn p f).pre c):∃ a b,c=[.d (enc a),.d (enc b)]∧p a b:=by
 unfold Gn at h
 simp only at h
 split at h
 ·next x y=>exact ⟨dec x,dec y,by rw [←h.1,←h.2.1],h.2.2⟩
 ·exact h.elim
structure ImpS (l:List Tok) (f:Nat) (s:St6) (imps:List (List UInt8)):Prop where
 pos:Pos l s
 sites:s.sites=[]
 room:s.e=0→(l.length:Int)+1≤f+s.at_
 cnt:imps.length+f=l.length+1
 short:∀ x∈imps,x.length≤1000000
 fuel:1≤f
theorem ImpS.next {l:List Tok} (hT:Toks l) {f:Nat} {s:St6} {imps:List (List UInt8)} (h:ImpS l (f+1) s imps) (hi:is6 l s 6 [105,109,112,111,114,116]=true) :
  ImpS l f (Gz l (Hp l (Pe s) 1).2 5 [59]) (imps++[(Hp l (Pe s) 1).1]):=by
 have q1:=(Sq.refl h.pos).tok (by omega) (tk_is h.pos hi)
 have q2:=q1.tok (by omega) (Rb q1.adv.pos 1)
 have q3:=q2.tok (by omega) (Mg q2.adv.pos 5 [59])
 have hlt:=is6_lt hi
 refine ⟨q3.adv.pos,?_,fun he=>?_,?_,fun x hx=>?_,?_⟩
 ·rw [needs6_sites,named6_sites]
  exact h.sites
 ·have h1:=h.room hlt.1
  have h2:=(q3.adv.gain he).2
  have h3:=(q3.adv.gain he).1
  omega
 ·have:=h.cnt
  simp only [bY,bJ,List.length_nil]
  omega
 ·rcases List.mem_append.1 hx with hx|hx
  ·exact h.short x hx
  ·rw [bW] at hx
   subst hx
   exact Bl hT _ _
 ·have:=h.room hlt.1
  omega
structure DefS (l:List Tok) (f:Nat) (s:St6) (defs:List Def6) (pl:List Int):Prop where
 inn:St6In l s
 cnt:defs.length+f=201
 len:defs.length≤200
 pls:pl.length=defs.length
theorem DefS.next {l:List Tok} (hT:Toks l) {f:Nat} {s:St6} {defs:List Def6} {pl:List Int} (h:DefS l (f+1) s defs pl) (hi:is6 l s 6 [100,101,102]=true) (hl:defs.length≠200) :
  DefS l f (def6 l (Pe s) defs).2 (defs++[(def6 l (Pe s) defs).1]) (pl++[s.at_]):=by
 have m1:=h.inn.is hi
 have hd:=reads_def hT m1.pos defs
 have h1:=h.cnt
 have h2:=h.len
 have h3:=h.pls
 refine ⟨m1.go hd.adv (by omega) (by omega),?_,?_,?_⟩
 all_goals
  simp only [bY,bJ,List.length_nil]
  omega
theorem Pn {a d:Int}:(dec (.agg [.int .i64 a,.list 3 [],.int .i64 d]):St6)=⟨a,[],d⟩:=U4 (c:=[])
theorem Pm {a d:Int}:isE St6 (.agg [.int .i64 a,.list 3 [],.int .i64 d])=True:=U3 (c:=[])
def B7:Con:=Gn (fun (l:Sl Tok) (_:List UInt8)=>Toks l.l) (fun l name=>(((Sj l.l name).1,(Sj l.l name).2.1,⟨(Sj l.l name).2.2⟩):Mod6×St6×Sl Int))
noncomputable def Dx:Ctx:=⟨tab,lkC [(28,Gy),(29,Kv),(30,Mn),(31,Kr),(32,Gk),(33,Si)],60,lkB [],[],false⟩
theorem Pu:Dx.τ=tab:=rfl
theorem Bg:Dx.Γ=lkC [(28,Gy),(29,Kv),(30,Mn),(31,Kr),(32,Gk),(33,Si)]:=rfl
theorem Bf:Dx.dp=60:=rfl
theorem Bh:Dx.Δ=lkB []:=rfl
theorem Ln:Dx.cuts=[]:=rfl
theorem Lm:Dx.wr=false:=rfl
set_option maxRecDepth 100000 in
theorem good_module6:Hg Try.prog (24,B7):=by
 refine ⟨Ke Try.func24 (by kernel_rfl) rfl,?_⟩
 have K:Gu Try.prog Dx:=Ko G7 Kw (by
  intro p hp
  simp only [bQ,bZ,or_false] at hp
  rcases hp with rfl|rfl|rfl|rfl|rfl|rfl
  ·exact Ib
  ·exact Tn
  ·exact good_in6
  ·exact Cg
  ·exact Cq
  ·exact good_def6) (by simp)
 obtain ⟨c,hc⟩:∃ c,Try.f24.body=some c:=⟨_,rfl⟩
 refine Kn K Try.func24 hc [.cell 4 38,.cell 5 71,.tmp 6] rfl 113 rfl (fun cvs hpre=>?_)
 change B7.pre cvs at hpre
 unfold B7 at hpre
 obtain ⟨⟨l⟩,name,rfl,hT⟩:=cn2ttt_pre hpre
 simp only at hT
 clear hpre
 have hll:=hT.len
 obtain ⟨R,hR⟩:∃ R,Sj l name=R:=⟨_,rfl⟩
 have hR2:=hR
 unfold Sj at hR2
 simp only at hR2
 obtain ⟨a,ha⟩:∃ a,impL l (l.length+1) ⟨0,[],0⟩ []=a:=⟨_,rfl⟩
 rw [ha] at hR2
 have hI0:ImpS l (l.length+1) ⟨0,[],0⟩ []:=⟨⟨by simp,by simp⟩,rfl,fun _=>by simp,by simp,fun x hx=>(by cases hx),by omega⟩
 simp only [Try.f24,aZ] at hc
 subst hc
 refine Gf 7 (of_decide_eq_true (by kernel_rfl)) ?_
 (sym=>simp [lJ,mQ,mK,lQ,lZ,Gw,Pa,Pb,Km,Kx,Ky,Hc,Ha,M8,G8,F8,U1,Kb,Kc,Ka,Gl,Pn,Pm,Uz,U3,U4,Pu,B7.eq_def,Zb,Zc,Ze,Zf,Zn,Zo,Zp,Zq,Zr,Zu,Zw,Z1,Z2,Qj,Qm,Qn,Qs,Qu,Qv,Qw,Qx,Q0,Q3,Q4,Q5,Q6,Q7,Q9,Ja,Jb,Jj,Jq,Jr,Js,Jt,Jv,Jw,Jy,Jz,J0,J6,J7,Xa,Xj,Xl,Xn,Xo,Xr,Xu,Xw,Xx,Xy,X0,X1,X6,X7,X8,X9,Wc,Wf,Wg,Wi,Wj,Wl,Wm,Wo,Wp,W4,Ye,Yn,Yo,Yp,Yr,Ys,Yt,Yu,Yv,Yw,Yy,Yz,Y9,Va,Vm,Vt,V0,V1,V4,V5,V6,Uj,U5,Kh,Gg,Ks,Pq,Mr,Gm,Gq,Pp,K2,G5,Ku,H2];tactic =>
  try simp only [Uq] at *;try simp only [nc2] at *
  try simp (maxSteps:=4000000) only [lJ,mQ,mK,lQ,lZ,Gw,Pa,Pb,Km,Kx,Ky,Hc,Ha,M8,G8,F8,U1,Kb,Kc,Ka,Gl,Pn,Pm,Uz,U3,U4,U6]
  repeat' first|with_reducible assumption|with_reducible apply And.intro|intro _|omega|(rw [Uk];omega)
  refine Kk [6,10,11,18,19,20,21,22,23,24,25,26,27,28,29,30,31,32,33,34,35,36,37,38,39,40,41,42,43,44,45,46,47,48,49,50,51] (fun p:Nat×Int×Int×List (List UInt8)×Nat=>[]) (fun p:Nat×Int×Int×List (List UInt8)×Nat=>[(8,.box true [.d (.int .i64 p.2.1),.d (.list 3 []),.d (.int .i64 p.2.2.1)]),(7,.box true [.d (.str name),.sl 47 (p.2.2.2.1.map (enc:List UInt8→D)).length,.nils 3,.nils 3]),(47,.row 1 (p.2.2.2.1.map enc) p.2.2.2.2)]) (fun p:Nat×Int×Int×List (List UInt8)×Nat=>impL l p.1 ⟨p.2.1,[],p.2.2.1⟩ p.2.2.2.1=a∧ImpS l p.1 ⟨p.2.1,[],p.2.2.1⟩ p.2.2.2.1∧p.2.2.2.2≤p.2.2.2.1.length) (fun p:Nat×Int×Int×List (List UInt8)×Nat=>p.1) (l.length+1,0,0,[],0) ?_ ?_ ?_
  ·exact ⟨ha,hI0,by simp⟩
  ·exact wkq
  rintro ⟨f,i,e,imps,k⟩ ⟨hL,hI,hk⟩
  simp only at hL hI hk
  have hf:=hI.fuel
  obtain ⟨f,rfl⟩:∃ k,f=k+1:=⟨f-1,by omega⟩
  rw [impL] at hL
  have m1:=in6_nil hT hI.pos hI.sites
  have o1:=m1.nums
  have hcn:=hI.cnt
  simp only at o1
  cases hi1:is6 l ⟨i,[],e⟩ 6 [105,109,112,111,114,116] with
  | true =>
   rw [if_neg (by rw [hi1];simp)] at hL
   have hnx:=hI.next hT hi1
   have hadv:Pe ⟨i,[],e⟩=⟨i+1,[],e⟩:=rfl
   have m2:=m1.is hi1
   rw [hadv] at hL hnx m2
   have o2:=m2.nums
   simp only at o2
   have m3:=m2.named 1
   have hs2:=named6_sites l ⟨i+1,[],e⟩ 1
   obtain ⟨⟨x,⟨i2,s2,e2⟩⟩,hN⟩:∃ q,Hp l ⟨i+1,[],e⟩ 1=q:=⟨_,rfl⟩
   rw [hN] at hL hnx m3 hs2
   simp only at hL hnx m3 hs2
   subst hs2
   have o3:=m3.nums
   simp only at o3
   have hs3:=needs6_sites l ⟨i2,[],e2⟩ 5 [59]
   obtain ⟨⟨i3,s3,e3⟩,hM⟩:∃ q,Gz l ⟨i2,[],e2⟩ 5 [59]=q:=⟨_,rfl⟩
   rw [hM] at hL hnx hs3
   simp only at hs3
   subst hs3
   by_cases he2:e2=0
   case neg =>
    rw [if_neg (fun h=>he2 h.1)] at hL
    have heb:(e2==0)=false:=by rw [aQ];exact he2
    (sym=>simp [hi1,hN,hM,heb,lJ,mQ,mK,lQ,lZ,Gw,Pa,Pb,Km,Kx,Ky,Hc,Ha,M8,G8,F8,U1,Kb,Kc,Ka,Gl,Pn,Pm,Uz,U3,U4,Pu,Bg,Bf,Bh,Ln,Lm,Si.eq_def,oY,mJ,mW,nW,mX,Zb,Zc,Zd,Ze,Zf,Zg,Zo,Zp,Zq,Zr,Zs,Zt,Zu,Zv,Zw,Zx,Z1,Z4,Z5,Qa,Qb,Qd,Qf,Qg,Qh,Qi,Qj,Qm,Qn,Qo,Qs,Qu,Qv,Qw,Qx,Q1,Q2,Q3,Q4,Q5,Q6,Q7,Q8,Q9,Ja,Jb,Jc,Je,Jf,Jl,Jm,Jn,Js,Jt,Jv,Jw,Jy,Jz,J0,J1,J2,Xa,Xb,Xi,Xj,Xl,Xm,Xn,Xr,Xu,Xw,Xx,Xy,Xz,X0,X1,X6,X7,X8,X9,Wb,Wd,Wf,Wg,Wh,Wi,Wj,Wl,Wm,Wn,Wo,Wp,Wr,Wt,Wx,W2,W4,W6,Yd,Ye,Yn,Yo,Yp,Yr,Ys,Yt,Yu,Yv,Yw,Yx,Yy,Yz,Y2,Y3,Y4,Y9,Va,Vi,Vj,Vk,Vl,Vn,Vo,Vr,Vw,Vy,Vz,V0,V1,V2,V3,V4,V5,V6,Ui,Uj,U5,Kh,Gg,Ks,Pq,Mr,Gm,Gq,Pp,K2,G5,Ku,H2];tactic =>
     try simp only [Uq] at *;try simp only [nc2] at *
     try simp (maxSteps:=4000000) only [hi1,hN,hM,heb,lJ,mQ,mK,lQ,lZ,Gw,Pa,Pb,Km,Kx,Ky,Hc,Ha,M8,G8,F8,U1,Kb,Kc,Ka,Gl,Pn,Pm,Uz,U3,U4,U6]
     repeat' first|with_reducible assumption|with_reducible apply And.intro|intro _|omega|(rw [Uk];omega)
     all_goals first|with_reducible exact okq|omega|exact ⟨(f,i3,e3,imps++[x],k),wkq,hL,hnx,by simp;omega,by omega⟩|rfl|trivial|(simp [Km];done)|skip)
   subst he2
   have heb:((0:Int)==0)=true:=rfl
   cases hin:in6 imps x with
   | true =>
    rw [if_pos ⟨rfl,hin⟩] at hL
    obtain ⟨⟨Wa,Ws,We⟩,hW⟩:∃ q,Ns ⟨i+1,[],e⟩ 7=q:=⟨_,rfl⟩
    rw [hW] at hL
    subst hL
    rw [if_pos rfl] at hR2
    simp only at hR2
    subst hR2
    (sym=>simp [hi1,hN,heb,hin,hW,hR,lJ,mQ,mK,lQ,lZ,Gw,Pa,Pb,Km,Kx,Ky,Hc,Ha,M8,G8,F8,U1,Kb,Kc,Ka,Gl,Pn,Pm,Uz,U3,U4,Pu,Bg,Bf,Bh,Ln,Lm,Si.eq_def,oY,mJ,mW,nW,mX,Zb,Zc,Zd,Ze,Zf,Zg,Zh,Zi,Zj,Zk,Zl,Zm,Zn,Zo,Zp,Zq,Zs,Zt,Zu,Zv,Zw,Zx,Qa,Qb,Qd,Qf,Qg,Qh,Qi,Qj,Qm,Qn,Qo,Qp,Qq,Qr,Qs,Qt,Qu,Qv,Qw,Qx,Qy,Qz,Q1,Q2,Q3,Q8,Ja,Jb,Jc,Jd,Je,Jf,Jl,Jm,Jn,Js,Jt,Jv,Jw,Jy,Jz,J2,J3,J4,J5,Xa,Xb,Xi,Xj,Xk,Xl,Xm,Xn,Xq,Xr,Xs,Xt,Xu,Xv,Xw,Xx,Xy,X0,X2,X3,X4,X5,X6,X7,X8,X9,Wb,Wd,Wf,Wg,Wh,Wi,Wj,Wl,Wm,Wn,Wo,Wp,Wr,Wt,Wx,W2,W6,Yd,Ye,Yl,Yn,Yo,Yr,Ys,Yt,Yu,Yv,Yw,Yx,Yy,Yz,Y1,Y2,Y3,Y4,Y9,Va,Vj,Vk,Vl,Vm,Vn,Vr,Vy,Vz,V0,V1,V2,V3,V4,V5,V6,V8,Ue,Uf,Ug,Uh,Ui,Uj,U5,Kh,Gg,Ks,Pq,Mr,Gm,Gq,Pp,K2,G5,Ku,H2];tactic =>
     try simp only [Uq] at *;try simp only [nc2] at *
     try simp (maxSteps:=4000000) only [hi1,hN,heb,hin,hW,hR,lJ,mQ,mK,lQ,lZ,Gw,Pa,Pb,Km,Kx,Ky,Hc,Ha,M8,G8,F8,U1,Kb,Kc,Ka,Gl,Pn,Pm,Uz,U3,U4,U6]
     repeat' first|with_reducible assumption|with_reducible apply And.intro|intro _|omega|(rw [Uk];omega)
     all_goals first|with_reducible exact okq|omega|rfl|trivial|(simp [Km];done)|skip)
   | false =>
    rw [if_neg (fun h=>by rw [hin] at h;simp at h)] at hL
    (sym=>simp [hi1,hN,hM,heb,hin,lJ,mQ,mK,lQ,lZ,Gw,Pa,Pb,Km,Kx,Ky,Hc,Ha,M8,G8,F8,U1,Kb,Kc,Ka,Gl,Pn,Pm,Uz,U3,U4,Pu,Bg,Bf,Bh,Ln,Lm,Si.eq_def,oY,mJ,mW,nW,mX,Zb,Zc,Zd,Ze,Zf,Zg,Zo,Zp,Zq,Zr,Zs,Zt,Zu,Zv,Zw,Zx,Z1,Z4,Z5,Qa,Qb,Qd,Qf,Qg,Qh,Qi,Qj,Qm,Qn,Qo,Qs,Qu,Qv,Qw,Qx,Q1,Q2,Q3,Q4,Q5,Q6,Q7,Q8,Q9,Ja,Jb,Jc,Je,Jf,Jl,Jm,Jn,Js,Jt,Jv,Jw,Jy,Jz,J0,J1,J2,J4,Xa,Xb,Xi,Xj,Xl,Xm,Xn,Xr,Xu,Xw,Xx,Xy,Xz,X0,X1,X6,X7,X8,X9,Wb,Wd,Wf,Wg,Wh,Wi,Wj,Wl,Wm,Wn,Wo,Wp,Wr,Wt,Wx,W2,W4,W6,Yd,Ye,Yl,Yn,Yo,Yp,Yr,Ys,Yt,Yu,Yv,Yw,Yx,Yy,Yz,Y1,Y2,Y3,Y4,Y9,Va,Vi,Vj,Vk,Vl,Vn,Vo,Vr,Vw,Vy,Vz,V0,V1,V2,V3,V4,V5,V6,Ui,Uj,U5,Kh,Gg,Ks,Pq,Mr,Gm,Gq,Pp,K2,G5,Ku,H2];tactic =>
     try simp only [Uq] at *;try simp only [nc2] at *
     try simp (maxSteps:=4000000) only [hi1,hN,hM,heb,hin,lJ,mQ,mK,lQ,lZ,Gw,Pa,Pb,Km,Kx,Ky,Hc,Ha,M8,G8,F8,U1,Kb,Kc,Ka,Gl,Pn,Pm,Uz,U3,U4,U6]
     repeat' first|with_reducible assumption|with_reducible apply And.intro|intro _|omega|(rw [Uk];omega)
     all_goals first|with_reducible exact okq|omega|exact ⟨(f,i3,e3,imps++[x],imps.length),wkq,hL,hnx,by simp,by omega⟩|rfl|trivial|(simp [Km];done)|skip)
  | false =>
   rw [if_pos hi1] at hL
   subst hL
   rw [if_neg (by simp)] at hR2
   simp only at hR2
   obtain ⟨b,hb⟩:∃ b,defL l 201 ⟨i,[],e⟩ [] []=b:=⟨_,rfl⟩
   rw [hb] at hR2
   have hD0:DefS l 201 ⟨i,[],e⟩ [] []:=⟨m1,rfl,by simp,rfl⟩
   clear hI
   (sym=>simp [hi1,lJ,mQ,mK,lQ,lZ,Gw,Pa,Pb,Km,Kx,Ky,Hc,Ha,M8,G8,F8,U1,Kb,Kc,Ka,Gl,Pn,Pm,Uz,U3,U4,Pu,Bg,Bf,Bh,Si.eq_def,oY,mJ,mW,nW,mX,Zb,Zc,Ze,Zf,Zg,Zo,Zp,Zq,Zv,Qb,Qg,Qh,Qj,Qs,Qu,Qv,Qw,Qx,Q1,Q3,Q8,Ja,Jb,Jc,Je,Jl,Jm,Jn,Js,Jt,Jv,Jw,Jy,Jz,J2,Xj,Xl,Xm,Xn,Xo,Xp,Xr,Xu,Xw,Xx,Xy,X6,X7,X8,X9,Wb,Wd,Wf,Wg,Wj,Wl,Wo,Wp,Wr,Yd,Yn,Yo,Yt,Yu,Yw,Yx,Yy,Yz,Y2,Y3,Y4,Y9,Va,Vj,Vl,Vn,Vz,V0,V1,V2,V3,V5,V6,Ui,U5,Kh,Gg,Ks,Pq,Mr,Gm,Gq,Pp,K2,G5,Ku,H2];tactic =>
    try simp only [Uq] at *;try simp only [nc2] at *
    try simp (maxSteps:=4000000) only [hi1,lJ,mQ,mK,lQ,lZ,Gw,Pa,Pb,Km,Kx,Ky,Hc,Ha,M8,G8,F8,U1,Kb,Kc,Ka,Gl,Pn,Pm,Uz,U3,U4,U6]
    repeat' first|with_reducible assumption|with_reducible apply And.intro|intro _|omega|(rw [Uk];omega)
    refine Kk [6,12,13,52,53,54,55,56,57,58,59,60,61,62,63,64,65,66,67,68,69,70,71,72,73,74,75,76,77,78,79,80,81,82,83,84,85] (fun p:Nat×Int×List Site×Int×List Def6×List Int=>[(9,.sl 17 (p.2.2.2.2.2.map (enc:Int→D)).length)]) (fun p:Nat×Int×List Site×Int×List Def6×List Int=>[(8,.box true [.d (.int .i64 p.2.1),.d (.list 3 (p.2.2.1.map enc)),.d (.int .i64 p.2.2.2.1)]),(7,.box true [.d (.str name),.sl 47 (imps.map (enc:List UInt8→D)).length,.sl 83 (p.2.2.2.2.1.map (enc:Def6→D)).length,.nils 3]),(83,.row 3 (p.2.2.2.2.1.map enc) (p.2.2.2.2.1.length-1)),(17,.row 1 (p.2.2.2.2.2.map enc) 0)]) (fun p:Nat×Int×List Site×Int×List Def6×List Int=>defL l p.1 ⟨p.2.1,p.2.2.1,p.2.2.2.1⟩ p.2.2.2.2.1 p.2.2.2.2.2=b∧DefS l p.1 ⟨p.2.1,p.2.2.1,p.2.2.2.1⟩ p.2.2.2.2.1 p.2.2.2.2.2) (fun p:Nat×Int×List Site×Int×List Def6×List Int=>p.1) (201,i,[],e,[],[]) ?_ ?_ ?_
    ·exact ⟨hb,hD0⟩
    ·exact wkq
    rintro ⟨f2,j,ss,g,defs,pl⟩ ⟨hL,hD⟩
    simp only at hL hD
    have hc2:=hD.cnt
    have hl2:=hD.len
    have hp2:=hD.pls
    obtain ⟨f2,rfl⟩:∃ k,f2=k+1:=⟨f2-1,by omega⟩
    rw [defL] at hL
    have n1:=hD.inn
    have q1:=n1.nums
    simp only at q1
    cases hd1:is6 l ⟨j,ss,g⟩ 6 [100,101,102] with
    | true =>
     rw [if_neg (by rw [hd1];simp)] at hL
     by_cases h200:defs.length=200
     ·rw [if_pos h200] at hL
      have h2b:((defs.length:Int)==200)=true:=by rw [cQ];omega
      obtain ⟨⟨Wa,Ws,We⟩,hW⟩:∃ q,Ns ⟨j,ss,g⟩ 3=q:=⟨_,rfl⟩
      rw [hW] at hL
      subst hL
      rw [if_pos rfl] at hR2
      simp only at hR2
      subst hR2
      (sym=>simp [hd1,h2b,hW,hR,lJ,mQ,mK,lQ,lZ,Gw,Pa,Pb,Km,Kx,Ky,Hc,Ha,M8,G8,F8,U1,Kb,Kc,Ka,Gl,Pn,Pm,Uz,U3,U4,Pu,Bg,Bf,Bh,Ln,Lm,Si.eq_def,oY,mJ,mW,nW,mX,Zb,Zc,Ze,Zf,Zg,Zh,Zi,Zj,Zk,Zl,Zm,Zn,Zo,Zp,Zq,Zs,Zv,Zw,Zx,Z6,Qb,Qd,Qf,Qg,Qh,Qj,Qm,Qn,Qo,Qp,Qq,Qr,Qs,Qt,Qu,Qv,Qw,Qx,Qy,Qz,Q1,Q3,Q8,Ja,Jb,Jc,Jd,Je,Jf,Jl,Jm,Jn,Js,Jt,Jv,Jw,Jy,Jz,J2,J3,J5,Xa,Xb,Xi,Xj,Xk,Xl,Xm,Xn,Xq,Xr,Xs,Xt,Xu,Xv,Xw,Xx,Xy,X2,X3,X4,X5,X6,X7,X8,X9,Wb,Wd,Wf,Wg,Wh,Wi,Wj,Wl,Wm,Wn,Wo,Wp,Wr,Wt,Wx,W6,Yd,Yn,Yo,Yr,Ys,Yt,Yu,Yv,Yw,Yx,Yy,Yz,Y2,Y3,Y4,Y9,Va,Vj,Vl,Vm,Vn,Vy,Vz,V0,V1,V2,V3,V4,V5,V6,V8,Ue,Uf,Ug,Uh,Ui,Uj,U5,Kh,Gg,Ks,Pq,Mr,Gm,Gq,Pp,K2,G5,Ku,H2];tactic =>
       try simp only [Uq] at *;try simp only [nc2] at *
       try simp (maxSteps:=4000000) only [hd1,h2b,hW,hR,lJ,mQ,mK,lQ,lZ,Gw,Pa,Pb,Km,Kx,Ky,Hc,Ha,M8,G8,F8,U1,Kb,Kc,Ka,Gl,Pn,Pm,Uz,U3,U4,U6]
       repeat' first|with_reducible assumption|with_reducible apply And.intro|intro _|omega|(rw [Uk];omega)
       all_goals first|with_reducible exact okq|omega|rfl|trivial|(simp [Km];done)|skip)
     ·rw [if_neg h200] at hL
      have h2b:((defs.length:Int)==200)=false:=by rw [aQ];omega
      have hnx:=hD.next hT hd1 h200
      have hadv:Pe ⟨j,ss,g⟩=⟨j+1,ss,g⟩:=rfl
      have n2:=n1.is hd1
      rw [hadv] at hL hnx n2
      obtain ⟨⟨d,⟨j3,ss3,g3⟩⟩,hN⟩:∃ q,def6 l ⟨j+1,ss,g⟩ defs=q:=⟨_,rfl⟩
      rw [hN] at hL hnx
      simp only at hL hnx
      obtain ⟨dn,dt,de⟩:=d
      (sym=>simp [hd1,h2b,hN,lJ,mQ,mK,lQ,lZ,Gw,Pa,Pb,Km,Kx,Ky,Hc,Ha,M8,G8,F8,U1,Kb,Kc,Ka,Gl,Pn,Pm,Uz,U3,U4,Pu,Bg,Bf,Bh,Ln,Lm,Si.eq_def,oY,mJ,mW,nW,mX,Zb,Zc,Ze,Zf,Zg,Zo,Zp,Zq,Zr,Zs,Zu,Zv,Zw,Zx,Z1,Z4,Z5,Z6,Qa,Qb,Qd,Qf,Qg,Qh,Qi,Qj,Qm,Qn,Qo,Qs,Qu,Qv,Qw,Qx,Q1,Q2,Q3,Q4,Q5,Q6,Q7,Q8,Q9,Ja,Jb,Jc,Je,Jf,Jl,Jm,Jn,Js,Jt,Jv,Jw,Jy,Jz,J0,J1,J2,J4,Xa,Xb,Xi,Xj,Xl,Xm,Xn,Xr,Xu,Xw,Xx,Xy,Xz,X0,X1,X6,X7,X8,X9,Wb,Wd,Wf,Wg,Wh,Wi,Wj,Wl,Wm,Wn,Wo,Wp,Wr,Wt,Wx,W2,W6,Yd,Yn,Yo,Yp,Yr,Ys,Yt,Yu,Yv,Yw,Yx,Yy,Yz,Y1,Y2,Y3,Y4,Y9,Va,Vi,Vj,Vl,Vn,Vo,Vr,Vw,Vy,Vz,V0,V1,V2,V3,V4,V5,V6,Ui,Uj,U5,Kh,Gg,Ks,Pq,Mr,Gm,Gq,Pp,K2,G5,Ku,H2];tactic =>
       try simp only [Uq] at *;try simp only [nc2] at *
       try simp (maxSteps:=4000000) only [hd1,h2b,hN,lJ,mQ,mK,lQ,lZ,Gw,Pa,Pb,Km,Kx,Ky,Hc,Ha,M8,G8,F8,U1,Kb,Kc,Ka,Gl,Pn,Pm,Uz,U3,U4,U6]
       repeat' first|with_reducible assumption|with_reducible apply And.intro|intro _|omega|(rw [Uk];omega)
       all_goals first|with_reducible exact okq|omega|exact n2|exact ⟨(f2,j3,ss3,g3,defs++[⟨dn,dt,de⟩],pl++[j]),by ((try simp only [Ul,U0,Ux,U8,upd,U7,Ki,K0,Nat.reduceDiv,Nat.reduceMod,Nat.reduceMul,Nat.reduceAdd,Nat.reduceEqDiff,aV,aW,if_true,if_false,reduceIte]);(first|refine Wk.of_fl ?_|skip);simp only [Wk,wkK,Ga,wkT,wk1,AV.kept,keptAll,wkO,lk,Uw,and_true,true_and,and_self,Nat.reduceEqDiff,Nat.reduceLeDiff,if_true,if_false,reduceIte,reduceCtorEq,Option.isSome,false_implies];try simp [Wk,wkK,wkT,wk1,AV.kept,keptAll,wkO,lk,Uw,Gw]),hL,hnx,by omega⟩|rfl|trivial|(simp [Km];done)|skip)
    | false =>
     rw [if_pos hd1] at hL
     subst hL
     rw [if_neg (by simp)] at hR2
     simp only at hR2
     rw [(last6_keeps l ⟨j,ss,g⟩).2.1] at hR2
     simp only at hR2
     obtain ⟨⟨Wa,Ws,We⟩,hW⟩:∃ q,Ns ⟨j,ss,g⟩ 2=q:=⟨_,rfl⟩
     have hWs:=(O6 ⟨j,ss,g⟩ 2).2
     rw [hW] at hWs
     simp only at hWs
     subst hWs
     unfold last6 at hR2
     rw [hW] at hR2
     obtain ⟨j,rfl⟩:∃ n:Nat,j=n:=⟨j.toNat,by omega⟩
     simp only [C6] at hR2
     by_cases hg:g=0
     case neg =>
      rw [if_neg (fun h=>hg h.1)] at hR2
      have hgb:(g==0)=false:=by rw [aQ];exact hg
      subst hR2
      (sym=>simp [hd1,hgb,hR,lJ,mQ,mK,lQ,lZ,Gw,Pa,Pb,Km,Kx,Ky,Hc,Ha,M8,G8,F8,U1,Kb,Kc,Ka,Gl,Pn,Pm,Uz,U3,U4,Pu,Bg,Bf,Bh,Ln,Lm,Si.eq_def,oY,mJ,mW,nW,mX,Zb,Zc,Zd,Ze,Zf,Zg,Zh,Zi,Zj,Zk,Zl,Zm,Zo,Zp,Zq,Zs,Zt,Zv,Zw,Zx,Qb,Qd,Qf,Qg,Qh,Qj,Qm,Qn,Qo,Qp,Qq,Qr,Qs,Qt,Qu,Qv,Qw,Qx,Qy,Qz,Q1,Q3,Q8,Ja,Jb,Jc,Jd,Je,Jf,Jl,Jm,Jn,Js,Jt,Ju,Jv,Jw,Jx,Jy,Jz,J2,J4,J5,Xa,Xb,Xi,Xj,Xk,Xl,Xm,Xp,Xq,Xr,Xs,Xt,Xu,Xv,Xw,Xx,Xy,X2,X6,X7,X8,X9,Wb,Wd,Wf,Wg,Wh,Wi,Wj,Wl,Wm,Wn,Wo,Wp,Wr,Wt,Wx,W5,W6,Yd,Yn,Yo,Yp,Yr,Ys,Yt,Yu,Yv,Yw,Yx,Yy,Yz,Y2,Y3,Y4,Y9,Va,Vj,Vk,Vl,Vn,Vu,Vz,V0,V1,V2,V3,V4,V5,V6,V8,Ue,Uf,Ug,Uh,Ui,Uj,U5,Kh,Gg,Ks,Pq,Mr,Gm,Gq,Pp,K2,G5,Ku,H2];tactic =>
       try simp only [Uq] at *;try simp only [nc2] at *
       try simp (maxSteps:=4000000) only [hd1,hgb,hR,lJ,mQ,mK,lQ,lZ,Gw,Pa,Pb,Km,Kx,Ky,Hc,Ha,M8,G8,F8,U1,Kb,Kc,Ka,Gl,Pn,Pm,Uz,U3,U4,U6]
       repeat' first|with_reducible assumption|with_reducible apply And.intro|intro _|omega|(rw [Uk];omega)
       all_goals first|with_reducible exact okq|omega|rfl|trivial|(simp [Km];done)|skip)
     subst hg
     have hgb:((0:Int)==0)=true:=rfl
     rcases Kt j l.length with ⟨hlt,hlb⟩|⟨hlt,hlb⟩
     rotate_left
     ·rw [if_pos ⟨rfl,.inl (by omega)⟩] at hR2
      have hle:leB (l.length:Int) (j:Int)=true:=by rw [G4];omega
      subst hR2
      (sym=>simp [hd1,hgb,hle,hW,hR,lJ,mQ,mK,lQ,lZ,Gw,Pa,Pb,Km,Kx,Ky,Hc,Ha,M8,G8,F8,U1,Kb,Kc,Ka,Gl,Pn,Pm,Uz,U3,U4,Pu,Bg,Bf,Bh,Ln,Lm,Si.eq_def,oY,mJ,mW,nW,mX,Zb,Zc,Zd,Ze,Zf,Zg,Zh,Zi,Zj,Zk,Zl,Zm,Zo,Zp,Zq,Zs,Zt,Zv,Zw,Zx,Z6,Qb,Qd,Qf,Qg,Qh,Qj,Qm,Qn,Qo,Qp,Qq,Qr,Qs,Qt,Qu,Qv,Qw,Qx,Qy,Qz,Q1,Q3,Q8,Ja,Jb,Jc,Jd,Je,Jf,Jl,Jm,Jn,Js,Jt,Ju,Jv,Jw,Jx,Jy,Jz,J2,J4,J5,Xa,Xb,Xj,Xk,Xl,Xm,Xp,Xq,Xr,Xs,Xt,Xu,Xv,Xw,Xx,Xy,X2,X6,X7,X8,X9,Wb,Wd,Wf,Wg,Wh,Wi,Wj,Wl,Wm,Wn,Wo,Wp,Wr,Wt,Wx,W5,W6,Yd,Yf,Yg,Yn,Yo,Yp,Yr,Ys,Yt,Yu,Yv,Yw,Yx,Yy,Yz,Y2,Y3,Y4,Y9,Va,Vj,Vk,Vl,Vn,Vu,Vy,Vz,V0,V1,V2,V3,V4,V5,V6,V8,Ue,Uf,Ug,Uh,Ui,Uj,U5,Kh,Gg,Ks,Pq,Mr,Gm,Gq,Pp,K2,G5,Ku,H2];tactic =>
       try simp only [Uq] at *;try simp only [nc2] at *
       try simp (maxSteps:=4000000) only [hd1,hgb,hle,hW,hR,lJ,mQ,mK,lQ,lZ,Gw,Pa,Pb,Km,Kx,Ky,Hc,Ha,M8,G8,F8,U1,Kb,Kc,Ka,Gl,Pn,Pm,Uz,U3,U4,U6]
       repeat' first|with_reducible assumption|with_reducible apply And.intro|intro _|omega|(rw [Uk];omega)
       all_goals first|with_reducible exact okq|omega|rfl|trivial|(simp [Km];done)|skip)
     have hle:leB (l.length:Int) (j:Int)=false:=by rw [←Bool.not_eq_true,G4];omega
     have qq:=K7 Td hlt
     obtain ⟨t,ht⟩:∃ t,l.getD j Td=t:=⟨_,rfl⟩
     rw [ht] at qq hR2
     by_cases hk0:t.kind=0
     ·rw [if_neg (fun h=>by rcases h.2 with h|h;omega;exact h hk0)] at hR2
      have hkb:(t.kind != 0)=false:=by rw [bne_eq_false_iff_eq];exact hk0
      subst hR2
      (sym=>simp [hd1,hgb,hle,qq,hkb,hR,lJ,mQ,mK,lQ,lZ,Gw,Pa,Pb,Km,Kx,Ky,Hc,Ha,M8,G8,F8,U1,Kb,Kc,Ka,Gl,Pn,Pm,Uz,U3,U4,Pu,Bg,Bf,Bh,Ln,Lm,Si.eq_def,oY,mJ,mW,nW,mX,Zb,Zc,Zd,Ze,Zf,Zg,Zh,Zi,Zj,Zk,Zl,Zm,Zo,Zp,Zq,Zs,Zt,Zv,Zw,Zx,Zy,Z6,Qb,Qd,Qf,Qg,Qh,Qj,Qm,Qn,Qo,Qp,Qq,Qr,Qs,Qt,Qu,Qv,Qw,Qx,Qy,Qz,Q1,Q3,Q8,Ja,Jb,Jc,Jd,Je,Jf,Jl,Jm,Jn,Js,Jt,Ju,Jv,Jw,Jx,Jy,Jz,J2,J4,J5,Xa,Xb,Xi,Xj,Xk,Xl,Xm,Xp,Xq,Xr,Xs,Xt,Xu,Xv,Xw,Xx,Xy,X2,X6,X7,X8,X9,Wb,Wd,Wf,Wg,Wh,Wi,Wj,Wl,Wm,Wn,Wo,Wp,Wr,Wt,Wx,W1,W5,W6,W7,Yb,Yd,Yf,Yg,Yn,Yo,Yp,Yr,Ys,Yt,Yu,Yv,Yw,Yx,Yy,Yz,Y2,Y3,Y4,Y7,Y9,Va,Vj,Vk,Vl,Vn,Vu,Vy,Vz,V0,V1,V2,V3,V4,V5,V6,V8,Ue,Uf,Ug,Uh,Ui,Uj,U5,Kh,Gg,Ks,Pq,Mr,Gm,Gq,Pp,K2,G5,Ku,H2];tactic =>
       try simp only [Uq] at *;try simp only [nc2] at *
       try simp (maxSteps:=4000000) only [hd1,hgb,hle,qq,hkb,hR,lJ,mQ,mK,lQ,lZ,Gw,Pa,Pb,Km,Kx,Ky,Hc,Ha,M8,G8,F8,U1,Kb,Kc,Ka,Gl,Pn,Pm,Uz,U3,U4,U6]
       repeat' first|with_reducible assumption|with_reducible apply And.intro|intro _|omega|(rw [Uk];omega)
       all_goals first|with_reducible exact okq|omega|rfl|trivial|(simp [Km];done)|skip)
     ·rw [if_pos ⟨rfl,.inr hk0⟩] at hR2
      have hkb:(t.kind != 0)=true:=bne_iff_ne.2 hk0
      subst hR2
      (sym=>simp [hd1,hgb,hle,qq,hkb,hW,hR,lJ,mQ,mK,lQ,lZ,Gw,Pa,Pb,Km,Kx,Ky,Hc,Ha,M8,G8,F8,U1,Kb,Kc,Ka,Gl,Pn,Pm,Uz,U3,U4,Pu,Bg,Bf,Bh,Ln,Lm,Si.eq_def,oY,mJ,mW,nW,mX,Zb,Zc,Zd,Ze,Zf,Zg,Zh,Zi,Zj,Zk,Zl,Zm,Zo,Zp,Zq,Zs,Zt,Zv,Zw,Zx,Zy,Z6,Qb,Qd,Qf,Qg,Qh,Qj,Qm,Qn,Qo,Qp,Qq,Qr,Qs,Qt,Qu,Qv,Qw,Qx,Qy,Qz,Q1,Q3,Q8,Ja,Jb,Jc,Jd,Je,Jf,Jl,Jm,Jn,Js,Jt,Ju,Jv,Jw,Jx,Jy,Jz,J2,J4,J5,Xa,Xb,Xj,Xk,Xl,Xm,Xp,Xq,Xr,Xs,Xt,Xu,Xv,Xw,Xx,Xy,X2,X6,X7,X8,X9,Wb,Wd,Wf,Wg,Wh,Wi,Wj,Wl,Wm,Wn,Wo,Wp,Wr,Wt,Wx,W1,W5,W6,W7,Yb,Yd,Yf,Yg,Yn,Yo,Yp,Yr,Ys,Yt,Yu,Yv,Yw,Yx,Yy,Yz,Y2,Y3,Y4,Y7,Y9,Va,Vj,Vk,Vl,Vn,Vu,Vy,Vz,V0,V1,V2,V3,V4,V5,V6,V8,Ue,Uf,Ug,Uh,Ui,Uj,U5,Kh,Gg,Ks,Pq,Mr,Gm,Gq,Pp,K2,G5,Ku,H2];tactic =>
       try simp only [Uq] at *;try simp only [nc2] at *
       try simp (maxSteps:=4000000) only [hd1,hgb,hle,qq,hkb,hW,hR,lJ,mQ,mK,lQ,lZ,Gw,Pa,Pb,Km,Kx,Ky,Hc,Ha,M8,G8,F8,U1,Kb,Kc,Ka,Gl,Pn,Pm,Uz,U3,U4,U6]
       repeat' first|with_reducible assumption|with_reducible apply And.intro|intro _|omega|(rw [Uk];omega)
       all_goals first|with_reducible exact okq|omega|rfl|trivial|(simp [Km];done)|skip)))
theorem toks2_few {s:List UInt8} (h:s.length≤1500):Toks (F9 s).1∧(F9 s).1.length≤1501:=by
 have hlen:(F9 s).1.length≤1501:=by
  unfold F9
  split
  ·simp
  ·have hb:=betw2_le (s:=s) (i:=0) (by omega)
   obtain ⟨h1,h2,h3⟩:=toks2L_ok (s:=s) (by omega) (s.length+1) (betw2 s 0) [] (fun t ht=>by cases ht) hb.2 (by simp)
   omega
 exact ⟨⟨by omega,(toks2_ok s).1⟩,hlen⟩
def badL (defs:List Def6):Nat:=defs.findIdx fun d=>!Eo d.e
def parse6 (name text:List UInt8):Mod6×Int×Int :=
 let t:=F9 text
 if t.2.2≠0 then (C8,t.2.1,t.2.2)
 else
  let r:=Sj t.1 name
  if r.2.1.e≠0 then (C8,(tk t.1 (minI r.2.1.at_ (t.1.length-1))).frm,r.2.1.e)
  else if badL r.1.defs<r.1.defs.length then (C8,(tk t.1 (r.2.2.getD (badL r.1.defs) 0)).frm,4)
  else (r.1,0,0)
def S7:Con:=Gn (fun (_ text:List UInt8)=>text.length≤1500) (fun name text=>parse6 name text)
theorem fitR_fit6 {p:Part} (h:FitR p):Fit6 p:=by
 obtain ⟨⟨h1,h2⟩,⟨h3,h4⟩,h5,h6,h7⟩:=h
 exact ⟨⟨⟨by omega,h2⟩,⟨by omega,h4⟩,by omega,by omega,by omega⟩,by omega⟩
noncomputable def Fn:Ctx:=⟨tab,lkC [(23,P9),(24,B7),(25,Lk)],60,lkB [],[],false⟩
theorem Eh:Fn.τ=tab:=rfl
theorem Ej:Fn.Γ=lkC [(23,P9),(24,B7),(25,Lk)]:=rfl
theorem Ei:Fn.dp=60:=rfl
theorem Ek:Fn.Δ=lkB []:=rfl
theorem ctx_Parse6_u:Fn.cuts=[]:=rfl
theorem O3:Fn.wr=false:=rfl
set_option maxRecDepth 100000 in
theorem good_Parse6:Hg Try.prog (17,S7):=by
 refine ⟨Ke Try.func17 (by kernel_rfl) rfl,?_⟩
 have K:Gu Try.prog Fn:=Ko G7 Kw (by
  intro p hp
  simp only [bQ,bZ,or_false] at hp
  rcases hp with rfl|rfl|rfl
  ·exact good_Tokens2
  ·exact good_module6
  ·exact good_Right5) (by simp)
 obtain ⟨c,hc⟩:∃ c,Try.f17.body=some c:=⟨_,rfl⟩
 refine Kn K Try.func17 hc [.cell 4 38,.tmp 5,.tmp 6] rfl 73 rfl (fun cvs hpre=>?_)
 change S7.pre cvs at hpre
 unfold S7 at hpre
 obtain ⟨name,text,rfl,htx⟩:=cn2ttt_pre hpre
 clear hpre
 obtain ⟨R,hR⟩:∃ R,parse6 name text=R:=⟨_,rfl⟩
 have hR2:=hR
 unfold parse6 at hR2
 simp only at hR2
 obtain ⟨hT,hTl⟩:=toks2_few htx
 have h1l:=(toks2_ok text).2.2
 obtain ⟨⟨l,at1,e1⟩,hq⟩:∃ q,F9 text=q:=⟨_,rfl⟩
 rw [hq] at hR2 hT hTl h1l
 simp only at hR2 hT hTl h1l
 have htx2:text.length≤9223372036854775807:=by omega
 have hll:l.length≤9223372036854775807:=by omega
 by_cases he1:e1=0
 case neg =>
  rw [if_pos he1] at hR2
  have hb1:(e1 != 0)=true:=bne_iff_ne.2 he1
  subst hR2
  simp only [Try.f17,aZ] at hc
  subst hc
  refine Gf 4 (of_decide_eq_true (by kernel_rfl)) ?_
  (sym=>simp [hq,hb1,hR,lJ,oV,mY,C8.eq_def,Km,Kx,Ky,G8,Eh,Ej,Ei,Ek,ctx_Parse6_u,S7.eq_def,Lk.eq_def,P9.eq_def,B7.eq_def,Zb,Zc,Ze,Zf,Zo,Zp,Zq,Zu,Zv,Zw,Z2,Qa,Qb,Qd,Qf,Qg,Qh,Qi,Qj,Qm,Qn,Qp,Qq,Qr,Qs,Qu,Qv,Qw,Qx,Q0,Q1,Q2,Q3,Q8,Q9,Ja,Jb,Jc,Jd,Je,Jf,Jj,Jq,Jr,Js,Jt,Jv,Jw,Jy,Jz,J2,J5,J6,J7,Xa,Xj,Xl,Xm,Xq,Xr,Xu,Xw,Xx,Xy,X0,X6,X7,X8,X9,Wb,Wc,Wd,Wf,Wg,Wi,Wj,Wl,Wo,Wp,Wt,Wx,Yc,Ye,Yn,Yo,Yr,Ys,Yt,Yu,Yv,Yw,Yy,Y3,Y9,Vj,Vy,Vz,V0,V1,V4,V5,V6,Ue,Uf,Ui,Uj,U5,K9,Kh,Ks,Pq,Gm,Gq,Gp,Pp,Gd,K2,G5,Ku];tactic =>
   try simp only [Uq] at *;try simp only [nc2] at *
   try simp (maxSteps:=4000000) only [hq,hb1,hR,lJ,oV,mY,C8.eq_def,Km,Kx,Ky,G8,U6]
   repeat' first|with_reducible assumption|with_reducible apply And.intro|intro _|omega|(rw [Uk];omega)
   all_goals first|with_reducible exact okq|omega|rfl|trivial|skip)
 rw [if_neg (by simpa using he1)] at hR2
 have hb1:(e1 != 0)=false:=by rw [bne_eq_false_iff_eq];exact he1
 have h1l:=h1l he1
 obtain ⟨hP,hdl,hfit,hok⟩:=module6_ok hT name
 obtain ⟨⟨m,⟨i2,ss2,e2⟩,pl⟩,hm⟩:∃ q,Sj l name=q:=⟨_,rfl⟩
 rw [hm] at hR2 hP hdl hfit hok
 simp only at hR2 hP hdl hfit hok
 have hlo:=hP.lo
 have hhi:=hP.hi
 simp only at hlo hhi
 by_cases he2:e2=0
 case neg =>
  rw [if_pos he2] at hR2
  have hb2:(e2 != 0)=true:=bne_iff_ne.2 he2
  obtain ⟨k,hk,hkl⟩:∃ k:Nat,minI i2 ((l.length:Int)-1)=k∧k<l.length:=by
   refine ⟨(minI i2 ((l.length:Int)-1)).toNat,?_,?_⟩<;>unfold minI<;>split<;>omega
  have q1:=K7 Td hkl
  rw [hk] at hR2
  simp only [C6] at hR2
  obtain ⟨t,ht⟩:∃ t,l.getD k Td=t:=⟨_,rfl⟩
  rw [ht] at q1 hR2
  subst hR2
  simp only [Try.f17,aZ] at hc
  subst hc
  refine Gf 4 (of_decide_eq_true (by kernel_rfl)) ?_
  (sym=>simp [hq,hb1,hm,hb2,hk,q1,hR,lJ,oV,mY,C8.eq_def,Km,Kx,Ky,G8,U1,Kb,Kc,Ka,Gl,Uz,U3,U4,Eh,Ej,Ei,Ek,ctx_Parse6_u,O3,S7.eq_def,Lk.eq_def,P9.eq_def,B7.eq_def,Zb,Zc,Ze,Zf,Zh,Zi,Zj,Zk,Zl,Zm,Zo,Zp,Zq,Zs,Zu,Zv,Zw,Zx,Zy,Z2,Z6,Z7,Qa,Qb,Qd,Qf,Qg,Qh,Qi,Qj,Qm,Qn,Qo,Qp,Qq,Qr,Qs,Qt,Qu,Qv,Qw,Qx,Qy,Qz,Q0,Q1,Q2,Q3,Q8,Q9,Ja,Jb,Jc,Jd,Je,Jf,Jj,Jq,Jr,Js,Jt,Jv,Jw,Jy,Jz,J2,J5,J6,J7,Xa,Xb,Xi,Xj,Xk,Xl,Xm,Xq,Xr,Xs,Xt,Xu,Xv,Xw,Xx,Xy,X0,X2,X6,X7,X8,X9,Wb,Wc,Wd,Wf,Wg,Wh,Wi,Wj,Wl,Wm,Wn,Wo,Wp,Wt,Wx,W1,W6,W7,Yb,Yc,Ye,Yf,Yg,Yn,Yo,Yr,Ys,Yt,Yu,Yv,Yw,Yy,Yz,Y3,Y4,Y7,Y9,Va,Vj,Vy,Vz,V0,V1,V2,V3,V4,V5,V6,V8,Ue,Uf,Ui,Uj,U5,K9,Kh,Ks,Pq,Gm,Gq,Gp,Pp,Gd,K2,G5,Ku];tactic =>
   try simp only [Uq] at *;try simp only [nc2] at *
   try simp (maxSteps:=4000000) only [hq,hb1,hm,hb2,hk,q1,hR,lJ,oV,mY,C8.eq_def,Km,Kx,Ky,G8,U1,Kb,Kc,Ka,Gl,Uz,U3,U4,U6]
   repeat' first|with_reducible assumption|with_reducible apply And.intro|intro _|omega|(rw [Uk];omega)
   all_goals first|with_reducible exact okq|omega|rfl|trivial|skip)
 rw [if_neg (by simpa using he2)] at hR2
 have hb2:(e2 != 0)=false:=by rw [bne_eq_false_iff_eq];exact he2
 obtain ⟨hM,hpl,hpr⟩:=hok he2
 obtain ⟨mn,mi,md,ms⟩:=m
 simp only at hR2 hdl hfit hpl
 have hbad:∀ k,k<md.length→(∀ j,j<k→Eo (md.getD j Du).e=true)→Eo (md.getD k Du).e=false→badL md=k:=fun k hk h1 h2=>by
  unfold badL
  rw [List.findIdx_eq hk]
  refine ⟨?_,fun j hj=>?_⟩
  ·simpa [hk] using h2
  ·have:=h1 j hj
   simpa [show j<md.length by omega] using this
 have hgood:(∀ j,j<md.length→Eo (md.getD j Du).e=true)→¬ badL md<md.length:=fun h1 h2=>by
  unfold badL at h2
  have h3:=List.findIdx_getElem (w:=h2)
  have h4:=h1 _ h2
  simp [h2] at h4
  simp [h4] at h3
 simp only [Try.f17,aZ] at hc
 subst hc
 refine Gf 4 (of_decide_eq_true (by kernel_rfl)) ?_
 (sym=>simp [hq,hb1,hm,hb2,lJ,oV,mY,Km,Kx,Ky,Gw,Pa,Pb,Hc,Ha,G8,M8,U1,Kb,Kc,Ka,Gl,Uz,U3,U4,Eh,Ej,Ei,Ek,ctx_Parse6_u,S7.eq_def,Lk.eq_def,P9.eq_def,B7.eq_def,Zb,Zc,Ze,Zf,Zo,Zp,Zq,Zs,Zu,Zv,Zw,Zx,Qa,Qb,Qd,Qf,Qg,Qh,Qi,Qm,Qn,Qo,Qs,Qu,Qv,Qw,Qx,Q1,Q2,Q3,Q8,Ja,Jb,Jc,Je,Jf,Jj,Jq,Jr,Js,Jt,Jv,Jw,Jy,Jz,J2,J6,J7,Xa,Xb,Xi,Xj,Xl,Xm,Xn,Xo,Xr,Xu,Xw,Xx,Xy,X0,X6,X7,X8,X9,Wb,Wc,Wd,Wf,Wh,Wi,Wj,Wl,Wm,Wn,Wo,Wp,Wt,Wx,W6,Yc,Ye,Yn,Yo,Yr,Ys,Yt,Yu,Yv,Yw,Yy,Yz,Y3,Y4,Y9,Va,Vj,Vz,V0,V1,V4,V5,V6,Ui,Uj,U5,K9,Kh,Ks,Pq,Gm,Gq,Gp,Pp,Gd,K2,G5,Ku];tactic =>
  try simp only [Uq] at *;try simp only [nc2] at *
  try simp (maxSteps:=4000000) only [hq,hb1,hm,hb2,lJ,oV,mY,Km,Kx,Ky,Gw,Pa,Pb,Hc,Ha,G8,M8,U1,Kb,Kc,Ka,Gl,Uz,U3,U4,U6]
  repeat' first|with_reducible assumption|with_reducible apply And.intro|intro _|omega|(rw [Uk];omega)
  refine Kk [5,6,48,49,50,51,52,53,54,55,56,57,58,59,60,61,62,63,64,65,66,67,68,69,70,71] (fun k:Nat=>[(13,.d (.int .i64 k))]) (fun k:Nat=>[]) (fun k:Nat=>k≤md.length∧∀ j,j<k→Eo (md.getD j Du).e=true) (fun k:Nat=>md.length-k) 0 ?_ ?_ ?_
  ·exact ⟨by omega,fun j hj=>absurd hj (Nat.not_lt_zero j)⟩
  ·exact wkq
  rintro k ⟨hk,hno⟩
  rcases Kt k md.length with ⟨hlt,hlb⟩|⟨hlt,hlb⟩
  ·have q1:=K7 Du hlt
   have hbk:=hbad k hlt hno
   have hst:Eo (md.getD k Du).e=true→∀ j,j<k+1→Eo (md.getD j Du).e=true:=fun h=>A1 hno h
   have hfk:=hfit (md.getD k Du) (by simp [hlt])
   obtain ⟨y,hy⟩:∃ y,md.getD k Du=y:=⟨_,rfl⟩
   rw [hy] at q1 hbk hst hfk
   have hel:y.e.length≤9223372036854775807:=by have:=hfk.e;omega
   have hef:∀ p∈y.e,Fit6 p:=fun p hp=>fitR_fit6 (hfk.fit p hp)
   cases hb:Eo y.e with
   | false =>
    have hbk:=hbk hb
    rw [hbk,if_pos hlt] at hR2
    have hplk:k<pl.length:=by omega
    have q2:=K7 (0:Int) hplk
    have hpk:=hpr (pl.getD k 0) (by simp [hplk])
    obtain ⟨x,hx⟩:∃ x,pl.getD k 0=x:=⟨_,rfl⟩
    rw [hx] at q2 hpk hR2
    obtain ⟨x,rfl⟩:∃ n:Nat,x=n:=⟨x.toNat,by omega⟩
    simp only [C6] at hR2
    have q3:=K7 Td (show x<l.length by omega)
    obtain ⟨t,ht⟩:∃ t,l.getD x Td=t:=⟨_,rfl⟩
    rw [ht] at q3 hR2
    subst hR2
    clear hno hfit hok hpr hgood
    (sym=>simp [hlb,q1,q2,q3,hb,hR,lJ,oV,mY,C8.eq_def,Ic,Km,Kx,Ky,Hc,Ha,G8,M8,U1,Kb,Kc,Ka,Gl,Uz,U3,U4,Um,Un,Uo,Up,szP,Eh,Ej,Ei,Ek,O3,Lk.eq_def,P9.eq_def,B7.eq_def,Zb,Zc,Ze,Zf,Zg,Zh,Zi,Zj,Zk,Zl,Zm,Zo,Zp,Zq,Zs,Zv,Zw,Zx,Zy,Z2,Z6,Qb,Qd,Qe,Qf,Qg,Qh,Qj,Qm,Qn,Qo,Qp,Qq,Qr,Qs,Qt,Qu,Qv,Qw,Qx,Qy,Qz,Q0,Q1,Q3,Q8,Q9,Ja,Jb,Jc,Jd,Je,Jl,Jm,Jn,Js,Jt,Ju,Jv,Jw,Jx,Jy,Jz,J2,J5,Xa,Xi,Xj,Xk,Xl,Xm,Xn,Xq,Xr,Xs,Xt,Xu,Xv,Xw,Xx,Xy,X0,X2,X6,X7,X8,X9,Wb,Wd,Wf,Wg,Wh,Wi,Wj,Wl,Wm,Wn,Wo,Wp,Wr,Wt,Wu,Ww,Wx,Wy,W0,W1,W7,Ya,Yb,Yc,Yd,Yf,Yg,Yj,Yn,Yo,Yp,Yq,Ys,Yt,Yu,Yv,Yw,Y1,Y6,Y7,Y9,Va,Vj,Vy,Vz,V0,V1,V2,V3,V4,V5,V6,V8,Ue,Uf,Ui,Uj,U5,K9,Kh,Ks,Pq,Gm,Gq,Gp,Pp,Gd,K2,G5,Ku];tactic =>
     try simp only [Uq] at *;try simp only [nc2] at *
     try simp (maxSteps:=4000000) only [hlb,q1,q2,q3,hb,hR,lJ,oV,mY,C8.eq_def,Ic,Km,Kx,Ky,Hc,Ha,G8,M8,U1,Kb,Kc,Ka,Gl,Uz,U3,U4,Um,Un,Uo,Up,szP,U6]
     repeat' first|with_reducible assumption|with_reducible apply And.intro|intro _|omega|(rw [Uk];omega)
     all_goals first|with_reducible exact okq|omega|exact hef|rfl|trivial|skip)
   | true =>
    have hst:=hst hb
    clear hno hfit hok hpr hgood hbk
    (sym=>simp [hlb,q1,hb,lJ,oV,mY,Ic,Km,Kx,Ky,Hc,Ha,G8,M8,U1,Kb,Kc,Ka,Gl,Uz,U3,U4,Um,Un,Uo,Up,szP,Eh,Ej,Ei,Ek,O3,Lk.eq_def,P9.eq_def,B7.eq_def,Zb,Zc,Ze,Zf,Zg,Zo,Zp,Zq,Zs,Zv,Zx,Zy,Z6,Qb,Qd,Qe,Qf,Qg,Qh,Qo,Qs,Qu,Qv,Qw,Qx,Q1,Q8,Ja,Jc,Je,Jl,Jm,Jn,Js,Jt,Jv,Jw,Jx,Jy,Jz,J2,Xi,Xj,Xl,Xm,Xn,Xr,Xu,Xw,Xx,Xy,X6,X7,X8,X9,Wb,Wd,Wf,Wj,Wl,Wm,Wn,Wo,Wp,Wr,Wt,Wu,Ww,Wx,Wy,W0,W1,Ya,Yb,Yd,Yn,Yo,Yp,Yq,Y1,Y5,Y7,Y9,Va,Vj,Vy,Vz,V0,V1,V2,V3,V5,V6,Ui,U5,K9,Kh,Ks,Pq,Gm,Gq,Gp,Pp,Gd,K2,G5,Ku];tactic =>
     try simp only [Uq] at *;try simp only [nc2] at *
     try simp (maxSteps:=4000000) only [hlb,q1,hb,lJ,oV,mY,Ic,Km,Kx,Ky,Hc,Ha,G8,M8,U1,Kb,Kc,Ka,Gl,Uz,U3,U4,Um,Un,Uo,Up,szP,U6]
     repeat' first|with_reducible assumption|with_reducible apply And.intro|intro _|omega|(rw [Uk];omega)
     all_goals first|with_reducible exact okq|omega|exact hef|exact ⟨k+1,wkq,by omega,hst,by omega⟩|skip)
  ·have hke:k=md.length:=by omega
   rw [hke] at hno hlb
   rw [if_neg (hgood hno)] at hR2
   subst hR2
   clear hno hfit hok hpr hgood
   (sym=>simp [hlb,hR,lJ,oV,mY,Km,Kx,Ky,Hc,Ha,G8,M8,U1,Kb,Kc,Ka,Gl,Uz,U3,U4,Eh,Ej,Ei,Ek,O3,Lk.eq_def,P9.eq_def,B7.eq_def,Zb,Zc,Ze,Zf,Zg,Zh,Zi,Zj,Zk,Zl,Zm,Zo,Zp,Zq,Zs,Zv,Zw,Zx,Zy,Z2,Z6,Qb,Qd,Qe,Qf,Qg,Qh,Qj,Qm,Qn,Qo,Qp,Qq,Qr,Qs,Qt,Qu,Qv,Qw,Qx,Qy,Qz,Q0,Q1,Q3,Q8,Q9,Ja,Jb,Jc,Jd,Je,Jl,Jm,Jn,Js,Jt,Ju,Jv,Jw,Jx,Jy,Jz,J2,J5,Xa,Xb,Xi,Xj,Xk,Xl,Xm,Xn,Xp,Xq,Xr,Xs,Xt,Xu,Xv,Xw,Xx,Xy,X0,X2,X6,X7,X8,X9,Wb,Wd,Wf,Wg,Wh,Wi,Wj,Wl,Wm,Wn,Wo,Wp,Wr,Wt,Wu,Ww,Wx,Wy,W0,W1,W6,Yd,Yf,Yg,Yj,Yn,Yo,Yp,Yq,Ys,Yt,Yu,Yv,Yw,Y7,Y9,Va,Vj,Vz,V0,V1,V2,V3,V4,V5,V6,V8,Ue,Uf,Ui,Uj,U5,K9,Kh,Ks,Pq,Gm,Gq,Gp,Pp,Gd,K2,G5,Ku];tactic =>
    try simp only [Uq] at *;try simp only [nc2] at *
    try simp (maxSteps:=4000000) only [hlb,hR,lJ,oV,mY,Km,Kx,Ky,Hc,Ha,G8,M8,U1,Kb,Kc,Ka,Gl,Uz,U3,U4,U6]
    repeat' first|with_reducible assumption|with_reducible apply And.intro|intro _|omega|(rw [Uk];omega)
    all_goals first|with_reducible exact okq|omega|rfl|trivial|skip))
end Go.Am.Ty
namespace Go.Am.Ty.Gr
open Go.Proofs
open Enc (enc dec)
abbrev Lo (n:Nat):Prop:=n≤9223372036854775807
theorem upTo {p:Nat→Prop} {k:Nat} (h:∀ j,j<k→p j) (hk:p k):∀ j,j<k+1→p j:=fun j hj=>by
 rcases Nat.lt_or_ge j k with h1|h1
 ·exact h j h1
 ·have:j=k:=by omega
  exact this▸hk
def inB (l:List Int) (n:Int):Bool:=l.any fun x=>x==n
def con_In08:Con:=Ms (fun (l:Sl Int) (_:Int)=>Lo l.l.length) (fun l n=>inB l.l n)
noncomputable def ctx_In08:Ctx:=⟨tab,lkC [],60,lkB [],[],false⟩
theorem ctx_In08_t:ctx_In08.τ=tab:=rfl
theorem ctx_In08_d:ctx_In08.dp=60:=rfl
theorem ctx_In08_u:ctx_In08.cuts=[]:=rfl
theorem ctx_In08_w:ctx_In08.wr=false:=rfl
set_option maxRecDepth 100000 in
theorem good_In08:Hg Try.prog (21,con_In08):=by
 refine ⟨Ke Try.func21 (by kernel_rfl) rfl,?_⟩
 have K:Gu Try.prog ctx_In08:=Ko G7 Kw (by simp) (by simp)
 obtain ⟨c,hc⟩:∃ c,Try.f21.body=some c:=⟨_,rfl⟩
 refine Kn K Try.func21 hc [.tmp 4] rfl 18 rfl (fun cvs hpre=>?_)
 change con_In08.pre cvs at hpre
 unfold con_In08 at hpre
 obtain ⟨⟨l⟩,n,rfl,hl⟩:=Bb hpre
 simp only at hl
 simp only [Try.f21,aZ] at hc
 subst hc
 (sym=>simp [con_In08.eq_def,Za,Zb,Zc,Ze,Zf,Qs,Qu,Qv,Qw,Qx,Jj,Jq,Jr,Xe,Xj,Xl,Xn,Xo,Xr,Xu,Xw,X6,X7,X8,X9,Wc,Wf,Wj,Wl,Yc,Yd,Yp,Yq,Yr,Ys,Yx,Yz,Va,Vj,Vk,V0,V5,V6,U5,Gq];tactic =>
  try simp only [Uq] at *;try simp only [nc2] at *
  try simp (maxSteps:=4000000) only [U6]
  repeat' first|with_reducible assumption|with_reducible apply And.intro|intro _|omega|(rw [Uk];omega)
  refine Kk [4,6,7,8,9,10,11,12,13,14,15,16,17] (fun k:Nat=>[(5,.d (.int .i64 k))]) (fun k:Nat=>[]) (fun k:Nat=>k≤l.length∧∀ j,j<k→l.getD j 0≠n) (fun k:Nat=>l.length-k) 0 ?_ ?_ ?_
  ·simp
  ·exact wkq
  rintro k ⟨hk,hno⟩
  rcases Kt k l.length with ⟨hlt,hlb⟩|⟨hlt,hlb⟩
  ·have q1:=K7 (0:Int) hlt
   have hst:l.getD k 0≠n→∀ j,j<k+1→l.getD j 0≠n:=by
    intro h j hj
    by_cases e:j=k
    ·subst e;exact h
    ·exact hno j (by omega)
   have hit:(l.getD k 0==n)=true→inB l n=true:=fun h=>any_at 0 k hlt h
   obtain ⟨x,hx⟩:∃ x,l.getD k 0=x:=⟨_,rfl⟩
   rw [hx] at q1 hst hit
   cases hb:(x==n) with
   | true =>
    have hr:=hit hb
    (sym=>simp [hlb,q1,hb,hr,ctx_In08_t,ctx_In08_d,ctx_In08_u,Zb,Zc,Ze,Zf,Zg,Zo,Zp,Zq,Zv,Zy,Z6,Qd,Qf,Qp,Qq,Qr,Qs,Qu,Qv,Qw,Qx,Q1,Jd,Jf,Jl,Jm,Jn,J2,Xi,Xj,Xl,Xm,Xn,Xq,Xr,Xu,Xw,Xx,Xy,X6,X7,Wr,Wt,Wx,W1,W7,Yc,Yf,Yg,Yj,Yn,Yo,Yp,Yq,Y7,Y9,Va,Vk,Vy,Vz,V0,V1,V2,V3,V5,V6,Ui,U5,Gq];tactic =>
     try simp only [Uq] at *;try simp only [nc2] at *
     try simp (maxSteps:=4000000) only [hlb,q1,hb,hr,U6]
     repeat' first|with_reducible assumption|with_reducible apply And.intro|intro _|omega|(rw [Uk];omega)
     all_goals first|with_reducible exact okq|omega|rfl|skip)
   | false =>
    have h2:=hst (by simpa using hb)
    (sym=>simp [hlb,q1,hb,ctx_In08_t,ctx_In08_u,ctx_In08_w,Zb,Zc,Ze,Zf,Zg,Zo,Zp,Zq,Zv,Zy,Z6,Qd,Qf,Qs,Qu,Qv,Qw,Qx,Jf,Jl,Jm,Jn,Xi,Xj,Xl,Xm,Xn,Xr,Xu,Xw,Xx,Xy,X6,X7,Wr,Wt,Wx,W1,W7,Yc,Yf,Yg,Yj,Yn,Yo,Yp,Yq,Y7,Y9,Va,Vj,Vy,Vz,V0,V1,V2,V3,V5,V6,Ui,U5,Gq];tactic =>
     try simp only [Uq] at *;try simp only [nc2] at *
     try simp (maxSteps:=4000000) only [hlb,q1,hb,U6]
     repeat' first|with_reducible assumption|with_reducible apply And.intro|intro _|omega|(rw [Uk];omega)
     all_goals first|with_reducible exact okq|omega|exact ⟨k+1,wkq,by omega,h2,by omega⟩|skip)
  ·have hr:inB l n=false:=any_not 0 fun j hj=>beq_eq_false_iff_ne.2 (hno j (by omega))
   (sym=>simp [hlb,hr,ctx_In08_t,ctx_In08_d,Zb,Zc,Ze,Zf,Zg,Zo,Z6,Qd,Qf,Qp,Qq,Qr,Qs,Qu,Qv,Qw,Qx,Q1,Jd,Jl,Jm,Jn,J2,Xj,Xl,Xm,Xp,Xq,Xr,Xu,Xw,Xx,Xy,X6,X7,Wr,Wt,Wx,Yf,Yg,Yj,Yn,Yo,Yp,Yq,Y9,Va,Vk,Vz,V0,V1,V2,V3,V5,V6,U5,Gq]))
abbrev Mod:=Mod6
theorem szM:Sz.sz Mod=4:=rfl
theorem Hn {m:Mod}:(enc m:D)=.agg [.str m.name,.list 1 (m.imps.map enc),.list 3 (m.defs.map enc),.list 3 (m.sites.map enc)]:=rfl
def m0:Mod:=⟨[],[],[],[]⟩
abbrev nm (l:List Mod) (k:Nat):List UInt8:=(l.getD k m0).name
def To:List Mod→List UInt8→Option Nat
 | [],_=>none
 | m::l,s=>if m.name=s then some 0 else (To l s).map (·+1)
def B0 (l:List Mod) (s:List UInt8):Int:=match To l s with
 | some k=>k
 | none=>-1
theorem findR_at:∀ {l:List Mod} {s:List UInt8} {k:Nat},k<l.length→(∀ j,j<k→nm l j≠s)→nm l k=s→To l s=some k
 | [],s,k,h,_,_=>by simp at h
 | m::l,s,0,_,_,h=>by
  simp only [nm,List.getD_cons_zero] at h
  simp [To,h]
 | m::l,s,k+1,h,hno,hk=>by
  have h0:=hno 0 (by omega)
  simp only [nm,List.getD_cons_zero] at h0
  rw [To,if_neg h0,findR_at (k:=k) (by simpa using h) (fun j hj=>by
   have:=hno (j+1) (by omega)
   simpa [nm] using this) (by simpa [nm] using hk)]
  rfl
theorem findR_none:∀ {l:List Mod} {s:List UInt8},(∀ j,j<l.length→nm l j≠s)→To l s=none
 | [],s,_=>rfl
 | m::l,s,hno=>by
  have h0:=hno 0 (by simp)
  simp only [nm,List.getD_cons_zero] at h0
  rw [To,if_neg h0,findR_none fun j hj=>by
   have:=hno (j+1) (by simpa using hj)
   simpa [nm] using this]
  rfl
theorem findZ_at {l:List Mod} {s:List UInt8} {k:Nat} (h:k<l.length) (hno:∀ j,j<k→nm l j≠s) (hk:nm l k=s):B0 l s=k:=by
 rw [B0,findR_at h hno hk]
theorem findZ_none {l:List Mod} {s:List UInt8} (hno:∀ j,j<l.length→nm l j≠s):B0 l s=-1:=by
 rw [B0,findR_none hno]
def con_find8:Con:=Ms (fun (l:Sl Mod) (_:List UInt8)=>Lo l.l.length) (fun l s=>B0 l.l s)
noncomputable def ctx_find8:Ctx:=⟨tab,lkC [],60,lkB [],[],false⟩
theorem ctx_find8_t:ctx_find8.τ=tab:=rfl
theorem ctx_find8_d:ctx_find8.dp=60:=rfl
theorem ctx_find8_u:ctx_find8.cuts=[]:=rfl
theorem ctx_find8_w:ctx_find8.wr=false:=rfl
set_option maxRecDepth 100000 in
theorem good_find8:Hg Try.prog (18,con_find8):=by
 refine ⟨Ke Try.func18 (by kernel_rfl) rfl,?_⟩
 have K:Gu Try.prog ctx_find8:=Ko G7 Kw (by simp) (by simp)
 obtain ⟨c,hc⟩:∃ c,Try.f18.body=some c:=⟨_,rfl⟩
 refine Kn K Try.func18 hc [.tmp 4] rfl 20 rfl (fun cvs hpre=>?_)
 change con_find8.pre cvs at hpre
 unfold con_find8 at hpre
 obtain ⟨⟨l⟩,s,rfl,hl⟩:=Bb hpre
 simp only at hl
 simp only [Try.f18,aZ] at hc
 subst hc
 (sym=>simp [con_find8.eq_def,Za,Zb,Zc,Ze,Zf,Qs,Qu,Qv,Qw,Qx,Jj,Jq,Jr,Xe,Xj,Xl,Xn,Xo,Xr,Xu,Xw,X6,X7,X8,X9,Wc,Wf,Wj,Wl,Yc,Ye,Yp,Yq,Yr,Ys,Yy,Yz,Va,Vj,V0,V5,V6,U5,Kh,G6,Gm];tactic =>
  try simp only [Uq] at *;try simp only [nc2] at *
  try simp (maxSteps:=4000000) only [U6]
  repeat' first|with_reducible assumption|with_reducible apply And.intro|intro _|omega|(rw [Uk];omega)
  refine Kk [4,6,7,8,9,10,11,12,13,14,15,16,17,18,19] (fun k:Nat=>[(5,.d (.int .i64 k))]) (fun k:Nat=>[]) (fun k:Nat=>k≤l.length∧∀ j,j<k→nm l j≠s) (fun k:Nat=>l.length-k) 0 ?_ ?_ ?_
  ·simp
  ·exact wkq
  rintro k ⟨hk,hno⟩
  rcases Kt k l.length with ⟨hlt,hlb⟩|⟨hlt,hlb⟩
  ·have q1:=K7 m0 hlt
   have hst:nm l k≠s→∀ j,j<k+1→nm l j≠s:=fun h=>upTo hno h
   have hit:nm l k=s→B0 l s=k:=fun h=>findZ_at hlt hno h
   unfold nm at hst hit
   obtain ⟨x,hx⟩:∃ x,l.getD k m0=x:=⟨_,rfl⟩
   rw [hx] at q1 hst hit
   cases hb:(x.name==s) with
   | true =>
    have hr:=hit (by simpa using hb)
    (sym=>simp [hlb,q1,hb,hr,Hn,Kx,Ky,szM,ctx_find8_t,ctx_find8_d,ctx_find8_u,Zb,Zc,Ze,Zf,Zg,Zo,Zp,Zq,Zs,Zv,Zx,Zy,Z6,Qd,Qf,Qp,Qq,Qr,Qs,Qu,Qv,Qw,Qx,Q1,Jd,Jf,Jl,Jm,Jn,J2,Xi,Xj,Xl,Xm,Xn,Xq,Xr,Xu,Xw,Xx,Xy,X6,X7,Wm,Wr,Wt,Wv,Wx,Wz,W1,W9,Yb,Yf,Yg,Yn,Yo,Yp,Yq,Y7,Y9,Va,Vy,Vz,V0,V1,V2,V3,V5,V6,Ui,U5,Kh,G6,Gm];tactic =>
     try simp only [Uq] at *;try simp only [nc2] at *
     try simp (maxSteps:=4000000) only [hlb,q1,hb,hr,Hn,Kx,Ky,szM,U6]
     repeat' first|with_reducible assumption|with_reducible apply And.intro|intro _|omega|(rw [Uk];omega)
     all_goals first|with_reducible exact okq|omega|rfl|skip)
   | false =>
    have h2:=hst (by simpa using hb)
    (sym=>simp [hlb,q1,hb,Hn,Kx,Ky,szM,ctx_find8_t,ctx_find8_u,ctx_find8_w,Zb,Zc,Ze,Zf,Zg,Zo,Zp,Zq,Zs,Zv,Zx,Zy,Z6,Qd,Qf,Qs,Qu,Qv,Qw,Qx,Jf,Jl,Jm,Jn,Xi,Xj,Xl,Xm,Xn,Xr,Xu,Xw,Xx,Xy,X6,X7,Wm,Wr,Wt,Wv,Wx,Wz,W1,W9,Yb,Yf,Yg,Yn,Yo,Yp,Yq,Y7,Y9,Va,Vj,Vy,Vz,V0,V1,V2,V3,V5,V6,Ui,U5,Kh,G6,Gm];tactic =>
     try simp only [Uq] at *;try simp only [nc2] at *
     try simp (maxSteps:=4000000) only [hlb,q1,hb,Hn,Kx,Ky,szM,U6]
     repeat' first|with_reducible assumption|with_reducible apply And.intro|intro _|omega|(rw [Uk];omega)
     all_goals first|with_reducible exact okq|omega|exact ⟨k+1,wkq,by omega,h2,by omega⟩|skip)
  ·have hr:B0 l s=-1:=findZ_none fun j hj=>hno j (by omega)
   (sym=>simp [hlb,hr,szM,ctx_find8_t,ctx_find8_d,Zb,Zc,Ze,Zf,Zg,Zo,Z6,Qd,Qf,Qp,Qq,Qr,Qs,Qu,Qv,Qw,Qx,Q1,Jd,Jl,Jm,Jn,J2,Xj,Xl,Xm,Xp,Xq,Xr,Xu,Xw,Xx,Xy,X6,X7,Wr,Wt,Wx,Yf,Yg,Yn,Yo,Yp,Yq,Y9,Va,Vj,Vz,V0,V1,V2,V3,V5,V6,U5,Kh,G6,Gm]))
abbrev imp (l:List Mod) (k:Nat):List (List UInt8):=(l.getD k m0).imps
def FewM (l:List Mod):Prop:=l.length≤20∧∀ k,(imp l k).length≤2000
theorem few_len {l:List Mod} (h:FewM l):l.length≤20:=h.1
theorem few_imp {l:List Mod} (h:FewM l) (k:Nat):(imp l k).length≤2000:=h.2 k
theorem findR_lt:∀ {l:List Mod} {s:List UInt8} {k:Nat},To l s=some k→k<l.length
 | [],s,k,h=>by simp [To] at h
 | m::l,s,k,h=>by
  rw [To] at h
  by_cases hm:m.name=s
  ·rw [if_pos hm] at h
   injection h with h
   subst h
   simp
  ·rw [if_neg hm] at h
   cases hf:To l s with
   | none=>rw [hf] at h;cases h
   | some j =>
    rw [hf] at h
    simp only [Option.map_some,aZ] at h
    have:=findR_lt hf
    simp only [bJ]
    omega
def readyB (l:List Mod) (i:Int) (come:List Int):Bool:=(imp l i.toNat).all fun s=>inB come (B0 l s)
def con_ready8:Con:=Lr (fun (l:Sl Mod) (i:Int) (c:Sl Int)=>FewM l.l∧0≤i∧i<l.l.length∧Lo c.l.length) (fun l i c=>readyB l.l i c.l)
noncomputable def ctx_ready8:Ctx:=⟨tab,lkC [(18,con_find8),(21,con_In08)],60,lkB [],[],false⟩
theorem ctx_ready8_t:ctx_ready8.τ=tab:=rfl
theorem ctx_ready8_c:ctx_ready8.Γ=lkC [(18,con_find8),(21,con_In08)]:=rfl
theorem ctx_ready8_d:ctx_ready8.dp=60:=rfl
theorem ctx_ready8_b:ctx_ready8.Δ=lkB []:=rfl
theorem ctx_ready8_w:ctx_ready8.wr=false:=rfl
set_option maxRecDepth 100000 in
theorem good_ready8:Hg Try.prog (22,con_ready8):=by
 refine ⟨Ke Try.func22 (by kernel_rfl) rfl,?_⟩
 have K:Gu Try.prog ctx_ready8:=Ko G7 Kw (by
  intro p hp
  simp only [bQ,bZ,or_false] at hp
  rcases hp with rfl|rfl
  ·exact good_find8
  ·exact good_In08) (by simp)
 obtain ⟨c,hc⟩:∃ c,Try.f22.body=some c:=⟨_,rfl⟩
 refine Kn K Try.func22 hc [.tmp 6] rfl 31 rfl (fun cvs hpre=>?_)
 change con_ready8.pre cvs at hpre
 unfold con_ready8 at hpre
 obtain ⟨⟨l⟩,i,⟨c0⟩,rfl,hf,hi0,hil,hcl⟩:=Is hpre
 simp only at hf hi0 hil hcl
 clear hpre
 obtain ⟨n,rfl⟩:=Int.eq_ofNat_of_zero_le hi0
 have hl20:=few_len hf
 have hi20:=few_imp hf n
 have hnl:n<l.length:=by omega
 have q0:=K7 m0 hnl
 obtain ⟨R,hR⟩:∃ R,readyB l n c0=R:=⟨_,rfl⟩
 have hR2:=hR
 unfold readyB at hR2
 rw [aX] at hR2
 unfold imp at hR2 hi20
 obtain ⟨x,hx⟩:∃ x,l.getD n m0=x:=⟨_,rfl⟩
 rw [hx] at q0 hR2 hi20
 simp only [Try.f22,aZ] at hc
 subst hc
 (sym=>simp [con_ready8.eq_def,Za,Zb,Zc,Ze,Zf,Qs,Qu,Qv,Qw,Qx,Jj,Jq,Jr,Xf,Xj,Xl,Xn,Xo,Xr,Xu,Xw,X6,X7,X8,X9,Wc,Wf,Wj,Wl,Yc,Yd,Yp,Yq,Yr,Ys,Yx,Yz,Va,Vj,Vk,V0,V5,V6,U5,K9,Kh,Gg,G6,Gm,Gq];tactic =>
  try simp only [Uq] at *;try simp only [nc2] at *
  try simp (maxSteps:=4000000) only [U6]
  repeat' first|with_reducible assumption|with_reducible apply And.intro|intro _|omega|(rw [Uk];omega)
  refine Kk [6,8,9,10,11,12,13,14,15,16,17,18,19,20,21,22,23,24,25,26,27,28,29,30] (fun k:Nat=>[(7,.d (.int .i64 k))]) (fun k:Nat=>[]) (fun k:Nat=>k≤x.imps.length∧∀ j,j<k→inB c0 (B0 l (x.imps.getD j []))=true) (fun k:Nat=>x.imps.length-k) 0 ?_ ?_ ?_
  ·simp
  ·exact wkq
  rintro k ⟨hk,hno⟩
  rcases Kt k x.imps.length with ⟨hlt,hlb⟩|⟨hlt,hlb⟩
  ·have q1:=K7 ([]:List UInt8) hlt
   have hst:inB c0 (B0 l (x.imps.getD k []))=true→∀ j,j<k+1→inB c0 (B0 l (x.imps.getD j []))=true:=fun h=>upTo hno h
   have hbad:inB c0 (B0 l (x.imps.getD k []))=false→R=false:=fun h=>by
    rw [←hR2];exact all_not (p:=fun s=>inB c0 (B0 l s)) [] k hlt h
   obtain ⟨y,hy⟩:∃ y,x.imps.getD k []=y:=⟨_,rfl⟩
   rw [hy] at q1 hst hbad
   cases hb:inB c0 (B0 l y) with
   | true =>
    have hs:=hst hb
    (sym=>simp [hlb,q0,q1,hb,Hn,Kx,Ky,szM,ctx_ready8_t,ctx_ready8_c,ctx_ready8_d,ctx_ready8_b,ctx_ready8_w,con_In08.eq_def,con_find8.eq_def,Zb,Zc,Ze,Zf,Zg,Zo,Zp,Zq,Zs,Zv,Zx,Zy,Z6,Qb,Qd,Qe,Qf,Qg,Qh,Qs,Qu,Qv,Qw,Qx,Q1,Q8,Jc,Je,Jl,Jm,Jn,J2,Xe,Xi,Xj,Xl,Xm,Xn,Xr,Xu,Xw,Xx,Xy,X6,X7,Wb,Wd,Wf,Wm,Wn,Wr,Wt,Wu,Ww,Wx,Wy,W0,W1,W9,Ya,Yb,Yc,Yd,Ye,Yf,Yg,Yn,Yo,Yp,Yq,Yx,Yy,Yz,Y2,Y3,Y4,Y5,Y7,Y9,Va,Vj,Vy,Vz,V0,V1,V2,V3,V5,V6,Ui,U5,K9,Kh,Gg,G6,Gm,Gq];tactic =>
     try simp only [Uq] at *;try simp only [nc2] at *
     try simp (maxSteps:=4000000) only [hlb,q0,q1,hb,Hn,Kx,Ky,szM,U6]
     repeat' first|with_reducible assumption|with_reducible apply And.intro|intro _|omega|(rw [Uk];omega)
     all_goals first|with_reducible exact okq|omega|exact ⟨k+1,wkq,by omega,hs,by omega⟩|skip)
   | false =>
    have hr:=hbad hb
    subst hr
    (sym=>simp [hlb,q0,q1,hb,hR,Hn,Kx,Ky,szM,ctx_ready8_t,ctx_ready8_c,ctx_ready8_d,ctx_ready8_b,con_In08.eq_def,con_find8.eq_def,Zb,Zc,Ze,Zf,Zg,Zo,Zp,Zq,Zs,Zv,Zx,Zy,Z6,Qb,Qd,Qe,Qf,Qg,Qh,Qp,Qq,Qr,Qs,Qu,Qv,Qw,Qx,Q1,Q8,Jc,Jd,Je,Jl,Jm,Jn,J2,Xe,Xi,Xj,Xl,Xm,Xn,Xq,Xr,Xu,Xw,Xx,Xy,X6,X7,Wb,Wd,Wf,Wm,Wn,Wr,Wt,Wu,Ww,Wx,Wy,W0,W1,W9,Ya,Yb,Yc,Yd,Ye,Yf,Yg,Yn,Yo,Yp,Yq,Yx,Yy,Yz,Y2,Y3,Y4,Y6,Y7,Y9,Va,Vk,Vy,V0,V1,V2,V3,V5,V6,Ui,U5,K9,Kh,Gg,G6,Gm,Gq];tactic =>
     try simp only [Uq] at *;try simp only [nc2] at *
     try simp (maxSteps:=4000000) only [hlb,q0,q1,hb,hR,Hn,Kx,Ky,szM,U6]
     repeat' first|with_reducible assumption|with_reducible apply And.intro|intro _|omega|(rw [Uk];omega)
     all_goals first|with_reducible exact okq|omega|rfl|skip)
  ·have hr:R=true:=by
    rw [←hR2];exact all_of_lt (p:=fun s=>inB c0 (B0 l s)) [] fun j hj=>hno j (by omega)
   subst hr
   (sym=>simp [hlb,q0,hR,Hn,Kx,Ky,szM,ctx_ready8_t,ctx_ready8_d,Zb,Zc,Ze,Zf,Zg,Zo,Zp,Zq,Zs,Zv,Zx,Zy,Z6,Qd,Qf,Qp,Qq,Qr,Qs,Qu,Qv,Qw,Qx,Q1,Jd,Jl,Jm,Jn,J2,Xj,Xl,Xm,Xp,Xq,Xr,Xu,Xw,Xx,Xy,X6,X7,Wm,Wn,Wr,Wt,Ww,Wx,W0,W1,Ya,Yb,Yf,Yg,Yn,Yo,Yp,Yq,Y7,Y9,Va,Vk,Vz,V0,V1,V2,V3,V5,V6,Ui,U5,K9,Kh,Gg,G6,Gm,Gq];tactic =>
    try simp only [Uq] at *;try simp only [nc2] at *
    try simp (maxSteps:=4000000) only [hlb,q0,hR,Hn,Kx,Ky,szM,U6]
    repeat' first|with_reducible assumption|with_reducible apply And.intro|intro _|omega|(rw [Uk];omega)
    all_goals first|with_reducible exact okq|omega|trivial|rfl|skip))
def Ta (l:List Mod) (is:List Bool):Nat→Int
 | 0=>-1
 | k+1=>cond (is.getD k false&&(ltB (Ta l is k) 0||Op.bytesLess (nm l k) (nm l (Ta l is k).toNat))) (k:Int) (Ta l is k)
theorem bestN_lt (l:List Mod) (is:List Bool):∀ k,Ta l is k=-1∨(0≤Ta l is k∧Ta l is k<k)
 | 0=>.inl rfl
 | k+1=>by
  have ih:=bestN_lt l is k
  rw [Ta]
  cases is.getD k false&&(ltB (Ta l is k) 0||Op.bytesLess (nm l k) (nm l (Ta l is k).toNat)) with
  | true=>right;simp only [cond_true];omega
  | false=>simp only [cond_false];omega
def con_least8:Con:=Ms (fun (l:Sl Mod) (is:Sl Bool)=>l.l.length≤20∧is.l.length=l.l.length) (fun l is=>Ta l.l is.l l.l.length)
noncomputable def ctx_least8:Ctx:=⟨tab,lkC [],60,lkB [],[],false⟩
theorem ctx_least8_t:ctx_least8.τ=tab:=rfl
theorem ctx_least8_c:ctx_least8.Γ=lkC []:=rfl
theorem ctx_least8_d:ctx_least8.dp=60:=rfl
theorem ctx_least8_b:ctx_least8.Δ=lkB []:=rfl
theorem ctx_least8_w:ctx_least8.wr=false:=rfl
set_option maxRecDepth 100000 in
theorem good_least8:Hg Try.prog (20,con_least8):=by
 refine ⟨Ke Try.func20 (by kernel_rfl) rfl,?_⟩
 have K:Gu Try.prog ctx_least8:=Ko G7 Kw (by simp) (by simp)
 obtain ⟨c,hc⟩:∃ c,Try.f20.body=some c:=⟨_,rfl⟩
 refine Kn K Try.func20 hc [.tmp 4] rfl 36 rfl (fun cvs hpre=>?_)
 change con_least8.pre cvs at hpre
 unfold con_least8 at hpre
 obtain ⟨⟨l⟩,⟨is⟩,rfl,hl,his⟩:=Bb hpre
 simp only at hl his
 clear hpre
 simp only [Try.f20,aZ] at hc
 subst hc
 refine Gf 2 (of_decide_eq_true (by kernel_rfl)) ?_
 (sym=>simp [con_least8.eq_def,Zb,Zc,Ze,Zf,Qs,Qu,Qv,Qw,Qx,Jj,Jq,Jr,Js,Jt,Jy,J6,J7,Xe,Xj,Xl,Xn,Xo,Xr,Xu,Xw,X6,X7,X8,X9,Wc,Wf,Wj,Wl,Wp,Yc,Yr,Ys,Yt,Yu,Yv,Yw,Yz,Y9,Va,Vj,V0,V5,V6,U5,K9,Kh,G6,Gm,Ll];tactic =>
  try simp only [Uq] at *;try simp only [nc2] at *
  try simp (maxSteps:=4000000) only [U6]
  repeat' first|with_reducible assumption|with_reducible apply And.intro|intro _|omega|(rw [Uk];omega)
  refine Kk [7,8,9,10,11,12,13,14,15,16,17,18,19,20,21,22,23,24,25,26,27,28,29,30,31,32,33,34] (fun k:Nat=>[(5,.d (.int .i64 (Ta l is k))),(6,.d (.int .i64 k))]) (fun k:Nat=>[]) (fun k:Nat=>k≤l.length) (fun k:Nat=>l.length-k) 0 ?_ ?_ ?_
  ·simp
  ·((try simp only [Ul,U0,Ux,U8,upd,U7,Ki,K0,Nat.reduceDiv,Nat.reduceMod,Nat.reduceMul,Nat.reduceAdd,Nat.reduceEqDiff,aV,aW,if_true,if_false,reduceIte]);(first|refine Wk.of_fl ?_|skip);simp only [Wk,wkK,Ga,wkT,wk1,AV.kept,keptAll,wkO,lk,Uw,and_true,true_and,and_self,Nat.reduceEqDiff,Nat.reduceLeDiff,if_true,if_false,reduceIte,reduceCtorEq,Option.isSome,false_implies];try simp [Wk,wkK,wkT,wk1,AV.kept,keptAll,wkO,lk,Uw,Ta])
  rintro k hk
  rcases Kt k l.length with ⟨hlt,hlb⟩|⟨hlt,hlb⟩
  ·have q1:=K7 m0 hlt
   have q2:=K7 false (show k<is.length by omega)
   have hB:=bestN_lt l is k
   have hS:Ta l is (k+1)=cond (is.getD k false&&(ltB (Ta l is k) 0||Op.bytesLess (nm l k) (nm l (Ta l is k).toNat))) (k:Int) (Ta l is k):=rfl
   obtain ⟨b,hb⟩:∃ b,Ta l is k=b:=⟨_,rfl⟩
   obtain ⟨b',hb'⟩:∃ b,Ta l is (k+1)=b:=⟨_,rfl⟩
   rw [hb] at hB
   rw [hb,hb'] at hS
   rw [hb]
   unfold nm at hS
   obtain ⟨x,hx⟩:∃ x,l.getD k m0=x:=⟨_,rfl⟩
   rw [hx] at q1 hS
   cases hk1:is.getD k false with
   | false =>
    rw [hk1] at q2 hS
    simp only [Bool.false_and,cond_false] at hS
    (sym=>simp [hlb,q1,q2,Hn,Kx,Ky,szM,ctx_least8_t,ctx_least8_c,ctx_least8_b,ctx_least8_w,Zb,Zc,Zd,Ze,Zf,Zg,Zh,Zi,Zj,Zk,Zl,Zm,Zo,Zp,Zq,Zt,Zv,Zy,Z6,Qd,Qf,Qs,Qt,Qu,Qv,Qw,Qx,Qy,Qz,Jl,Jm,Jn,Js,Jt,Ju,Jv,Jw,Jx,Jy,Jz,Xi,Xj,Xk,Xl,Xm,Xn,Xr,Xs,Xt,Xu,Xv,Xw,Xx,Xy,X2,X6,X7,X8,X9,Wh,Wi,Wm,Wn,Wo,Wp,Wr,Wt,Wx,W1,W8,Yd,Yf,Yg,Yk,Yn,Yo,Yp,Yq,Y7,Y9,Va,Vj,Vk,Vy,Vz,V0,V1,V2,V3,V4,V5,V6,V8,Ui,U5,K9,Kh,G6,Gm,Ll];tactic =>
     try simp only [Uq] at *;try simp only [nc2] at *
     try simp (maxSteps:=4000000) only [hlb,q1,q2,Hn,Kx,Ky,szM,U6]
     repeat' first|with_reducible assumption|with_reducible apply And.intro|intro _|omega|(rw [Uk];omega)
     all_goals first|with_reducible exact okq|omega|exact ⟨k+1,by rw [hb',hS];exact wkq,by omega,by omega⟩|skip)
   | true =>
    rw [hk1] at q2 hS
    simp only [Bool.true_and] at hS
    rcases hB with hB|⟨hB0,hBk⟩
    ·subst hB
     have hS1:b'=k:=hS
     (sym=>simp [hlb,q1,q2,Hn,Kx,Ky,szM,ctx_least8_t,ctx_least8_c,ctx_least8_b,ctx_least8_w,Zb,Zc,Zd,Ze,Zf,Zg,Zh,Zi,Zj,Zk,Zl,Zm,Zo,Zp,Zq,Zs,Zt,Zv,Zx,Zy,Z6,Qd,Qf,Qs,Qt,Qu,Qv,Qw,Qx,Qy,Qz,Jl,Jm,Jn,Js,Jt,Ju,Jv,Jw,Jx,Jy,Jz,Xi,Xj,Xk,Xl,Xm,Xn,Xr,Xs,Xt,Xu,Xv,Xw,Xx,Xy,X2,X6,X7,X8,X9,Wh,Wi,Wm,Wn,Wo,Wp,Wr,Wt,Wv,Wx,Wz,W1,W8,W9,Yb,Yd,Yf,Yg,Yk,Yn,Yo,Yp,Yq,Y7,Y9,Va,Vj,Vk,Vy,Vz,V0,V1,V2,V3,V4,V5,V6,V8,Ui,U5,K9,Kh,G6,Gm,Ll];tactic =>
      try simp only [Uq] at *;try simp only [nc2] at *
      try simp (maxSteps:=4000000) only [hlb,q1,q2,Hn,Kx,Ky,szM,U6]
      repeat' first|with_reducible assumption|with_reducible apply And.intro|intro _|omega|(rw [Uk];omega)
      all_goals first|with_reducible exact okq|omega|exact ⟨k+1,by rw [hb',hS1];exact wkq,by omega,by omega⟩|skip)
    ·obtain ⟨p,rfl⟩:=Int.eq_ofNat_of_zero_le hB0
     have q3:=K7 m0 (show p<l.length by omega)
     have hp0:ltB (p:Int) 0=false:=by rw [Hm];omega
     rw [aX] at hS
     obtain ⟨y,hy⟩:∃ y,l.getD p m0=y:=⟨_,rfl⟩
     rw [hy] at q3 hS
     rw [hp0,Bool.false_or] at hS
     cases hlss:Op.bytesLess x.name y.name with
     | true =>
      rw [hlss,cond_true] at hS
      (sym=>simp [hlb,q1,q2,q3,hp0,hlss,Hn,Kx,Ky,szM,ctx_least8_t,ctx_least8_c,ctx_least8_b,ctx_least8_w,Zb,Zc,Zd,Ze,Zf,Zg,Zh,Zi,Zj,Zk,Zl,Zm,Zo,Zp,Zq,Zs,Zt,Zv,Zx,Zy,Z6,Qd,Qf,Qs,Qt,Qu,Qv,Qw,Qx,Qy,Qz,Jl,Jm,Jn,Js,Jt,Ju,Jv,Jw,Jx,Jy,Jz,Xi,Xj,Xk,Xl,Xm,Xn,Xr,Xs,Xt,Xu,Xv,Xw,Xx,Xy,X2,X6,X7,X8,X9,Wh,Wi,Wm,Wn,Wo,Wp,Wr,Wt,Wv,Wx,Wz,W1,W8,W9,Yb,Yd,Yf,Yg,Yk,Yn,Yo,Yp,Yq,Y7,Y9,Va,Vj,Vk,Vy,Vz,V0,V1,V2,V3,V4,V5,V6,V8,Ui,U5,K9,Kh,G6,Gm,Ll];tactic =>
       try simp only [Uq] at *;try simp only [nc2] at *
       try simp (maxSteps:=4000000) only [hlb,q1,q2,q3,hp0,hlss,Hn,Kx,Ky,szM,U6]
       repeat' first|with_reducible assumption|with_reducible apply And.intro|intro _|omega|(rw [Uk];omega)
       all_goals first|with_reducible exact okq|omega|exact ⟨k+1,by rw [hb',hS];exact wkq,by omega,by omega⟩|skip)
     | false =>
      rw [hlss,cond_false] at hS
      (sym=>simp [hlb,q1,q2,q3,hp0,hlss,Hn,Kx,Ky,szM,ctx_least8_t,ctx_least8_c,ctx_least8_b,ctx_least8_w,Zb,Zc,Zd,Ze,Zf,Zg,Zh,Zi,Zj,Zk,Zl,Zm,Zo,Zp,Zq,Zs,Zt,Zv,Zx,Zy,Z6,Qd,Qf,Qs,Qt,Qu,Qv,Qw,Qx,Qy,Qz,Jl,Jm,Jn,Js,Jt,Ju,Jv,Jw,Jx,Jy,Jz,Xi,Xj,Xk,Xl,Xm,Xn,Xr,Xs,Xt,Xu,Xv,Xw,Xx,Xy,X2,X6,X7,X8,X9,Wh,Wi,Wm,Wn,Wo,Wp,Wr,Wt,Wv,Wx,Wz,W1,W8,W9,Yb,Yd,Yf,Yg,Yk,Yn,Yo,Yp,Yq,Y7,Y9,Va,Vj,Vk,Vy,Vz,V0,V1,V2,V3,V4,V5,V6,V8,Ui,U5,K9,Kh,G6,Gm,Ll];tactic =>
       try simp only [Uq] at *;try simp only [nc2] at *
       try simp (maxSteps:=4000000) only [hlb,q1,q2,q3,hp0,hlss,Hn,Kx,Ky,szM,U6]
       repeat' first|with_reducible assumption|with_reducible apply And.intro|intro _|omega|(rw [Uk];omega)
       all_goals first|with_reducible exact okq|omega|exact ⟨k+1,by rw [hb',hS];exact wkq,by omega,by omega⟩|skip)
  ·have hkl:k=l.length:=by omega
   rw [hkl]
   (sym=>simp [hlb,hkl,szM,ctx_least8_t,ctx_least8_c,ctx_least8_d,ctx_least8_b,ctx_least8_w,Zb,Zc,Zd,Ze,Zf,Zg,Zh,Zi,Zj,Zk,Zl,Zm,Zo,Zp,Zq,Zv,Zy,Z6,Qd,Qf,Qp,Qq,Qr,Qs,Qt,Qu,Qv,Qw,Qx,Qy,Qz,Q1,Jd,Jl,Jm,Jn,Js,Jt,Ju,Jv,Jw,Jx,Jy,Jz,J2,Xi,Xj,Xk,Xl,Xm,Xn,Xp,Xq,Xr,Xt,Xu,Xv,Xw,Xx,Xy,X2,X6,X7,X8,X9,Wh,Wi,Wm,Wn,Wo,Wp,Wr,Wt,Wx,W1,Yf,Yg,Yk,Yn,Yo,Yp,Yq,Y7,Y9,Va,Vz,V0,V1,V2,V3,V4,V5,V6,V8,Ui,U5,K9,Kh,G6,Gm,Ll];tactic =>
    try simp only [Uq] at *;try simp only [nc2] at *
    try simp (maxSteps:=4000000) only [hlb,hkl,szM,U6]
    repeat' first|with_reducible assumption|with_reducible apply And.intro|intro _|omega|(rw [Uk];omega)
    all_goals first|trivial|rfl|skip))
def mk1 (l:List Mod) (b:List Bool) (s:List UInt8):List Bool:=match To l s with
 | some n=>b.set n true
 | none=>b
def I3 (l:List Mod) (b:List Bool) (ss:List (List UInt8)):List Bool:=ss.foldl (mk1 l) b
def sweep1 (l:List Mod) (i:Int) (b:List Bool) (k:Nat):List Bool:=cond (((k:Int) != i)&&!b.getD k false) b (I3 l b (imp l k))
def Ck (l:List Mod) (i:Int) (b:List Bool):Nat→List Bool
 | 0=>b
 | k+1=>sweep1 l i (Ck l i b k) k
def Pr (l:List Mod) (i:Int):Nat→List Bool
 | 0=>List.replicate l.length false
 | r+1=>Ck l i (Pr l i r) l.length
def N8 (l:List Mod) (i:Int):List Bool:=Pr l i (l.length+1)
theorem mk1_len {l:List Mod} {b:List Bool} {s:List UInt8}:(mk1 l b s).length=b.length:=by
 unfold mk1
 split<;>simp
theorem marks_len {l:List Mod}:∀ {ss:List (List UInt8)} {b:List Bool},(I3 l b ss).length=b.length
 | [],b=>rfl
 | s::ss,b=>by
  show (I3 l (mk1 l b s) ss).length=_
  rw [marks_len,mk1_len]
theorem marks_snoc {l:List Mod} {b:List Bool} {ss:List (List UInt8)} {j:Nat} (h:j<ss.length):I3 l b (ss.take (j+1))=mk1 l (I3 l b (ss.take j)) (ss.getD j []):=by
 unfold I3
 rw [List.take_succ_eq_append_getElem h,List.foldl_append]
 simp [h]
theorem sweep1_len {l:List Mod} {i:Int} {b:List Bool} {k:Nat}:(sweep1 l i b k).length=b.length:=by
 unfold sweep1
 cases ((k:Int) != i)&&!b.getD k false
 ·rw [cond_false,marks_len]
 ·rfl
theorem R7 {l:List Mod} {i:Int} {b:List Bool}:∀ k,(Ck l i b k).length=b.length
 | 0=>rfl
 | k+1=>by rw [Ck,sweep1_len,R7 k]
theorem Bz {l:List Mod} {i:Int}:∀ r,(Pr l i r).length=l.length
 | 0=>by simp [Pr]
 | r+1=>by rw [Pr,R7,Bz r]
theorem map_setB {b:List Bool} {n:Nat}:(b.map (enc:Bool→D)).set n (.bool true)=(b.set n true).map enc:=by
 rw [List.map_set];rfl
def O4:Con:=Ms (fun (l:Sl Mod) (_:Int)=>FewM l.l) (fun l i=>Sl.mk (N8 l.l i))
noncomputable def ctx_reached8:Ctx:=⟨tab,lkC [(18,con_find8)],60,lkB [],[],false⟩
theorem ctx_reached8_t:ctx_reached8.τ=tab:=rfl
theorem ctx_reached8_c:ctx_reached8.Γ=lkC [(18,con_find8)]:=rfl
theorem ctx_reached8_d:ctx_reached8.dp=60:=rfl
theorem ctx_reached8_b:ctx_reached8.Δ=lkB []:=rfl
theorem ctx_reached8_u:ctx_reached8.cuts=[]:=rfl
theorem ctx_reached8_w:ctx_reached8.wr=false:=rfl
set_option maxRecDepth 100000 in
theorem good_reached8:Hg Try.prog (19,O4):=by
 refine ⟨Ke Try.func19 (by kernel_rfl) rfl,?_⟩
 have K:Gu Try.prog ctx_reached8:=Ko G7 Kw (by
  intro p hp
  simp only [bQ,bZ,or_false] at hp
  rcases hp with rfl
  ·exact good_find8) (by simp)
 obtain ⟨c,hc⟩:∃ c,Try.f19.body=some c:=⟨_,rfl⟩
 refine Kn K Try.func19 hc [.tmp 4] rfl 61 rfl (fun cvs hpre=>?_)
 change O4.pre cvs at hpre
 unfold O4 at hpre
 obtain ⟨⟨l⟩,i,rfl,hf⟩:=Bb hpre
 simp only at hf
 clear hpre
 have hl20:=few_len hf
 simp only [Try.f19,aZ] at hc
 subst hc
 refine Gf 3 (of_decide_eq_true (by kernel_rfl)) ?_
 (sym=>simp [szM,ctx_reached8_t,O4.eq_def,Zb,Zc,Ze,Zf,Zn,Zo,Z3,Z6,Qs,Qu,Qv,Qw,Qx,Ja,Jb,Jj,Jq,Jr,Js,Jt,Jv,Jy,J6,J7,Xe,Xj,Xl,Xn,Xo,Xr,Xu,Xw,Xx,Xy,Xz,X1,X6,X7,X8,X9,Wc,Wf,Wj,Wl,Wo,Wp,Wt,W1,Yc,Yf,Yg,Yn,Yo,Yr,Ys,Yt,Yu,Yv,Yw,Yx,Yz,Y7,Y9,Va,Vh,Vj,Vm,V0,V2,V3,V5,V6,U5,K9,Kh,Gg,G6,Gm,Ll];tactic =>
  try simp only [Uq] at *;try simp only [nc2] at *
  try simp (maxSteps:=4000000) only [szM,U6]
  repeat' first|with_reducible assumption|with_reducible apply And.intro|intro _|omega|(rw [Uk];omega)
  refine Kk [7,8,9,13,14,15,16,17,18,19,20,21,22,23,24,25,26,27,28,29,30,31,32,33,34,35,36,37,38,39,40,41,42,43,44,45,46,47,48,49,50,51,52,53,54,55,56,57,58,59] (fun r:Nat=>[(5,.sl 12 l.length),(6,.d (.int .i64 r))]) (fun r:Nat=>[(12,.row 1 ((Pr l i r).map enc) 0)]) (fun r:Nat=>r≤l.length+1) (fun r:Nat=>l.length+1-r) 0 ?_ ?_ ?_
  ·omega
  ·((try simp only [Ul,U0,Ux,U8,upd,U7,Ki,K0,Nat.reduceDiv,Nat.reduceMod,Nat.reduceMul,Nat.reduceAdd,Nat.reduceEqDiff,aV,aW,if_true,if_false,reduceIte]);(first|refine Wk.of_fl ?_|skip);simp only [Wk,wkK,Ga,wkT,wk1,AV.kept,keptAll,wkO,lk,Uw,and_true,true_and,and_self,Nat.reduceEqDiff,Nat.reduceLeDiff,if_true,if_false,reduceIte,reduceCtorEq,Option.isSome,false_implies];try simp [Wk,wkK,wkT,wk1,AV.kept,keptAll,wkO,lk,Uw,Pr,List.map_replicate])
  rintro r hr
  have hbl:=Bz (l:=l) (i:=i) r
  have hnx:Pr l i (r+1)=Ck l i (Pr l i r) l.length:=rfl
  obtain ⟨b0,hb0⟩:∃ b,Pr l i r=b:=⟨_,rfl⟩
  by_cases hrl:r≤l.length
  ·have hrb:leB (r:Int) (l.length:Int)=true:=by rw [G4];omega
   rw [hb0] at hbl hnx ⊢
   (sym=>simp [hrb,szM,ctx_reached8_t,Zb,Zc,Ze,Zf,Zo,Z6,Qd,Qf,Qs,Qu,Qv,Qw,Qx,Jb,Jl,Jm,Jn,Js,Jt,Jv,Jw,Jx,Jy,Jz,Xi,Xj,Xl,Xm,Xn,Xo,Xr,Xu,Xw,Xx,Xy,X6,X7,X8,X9,Wo,Wp,Wr,Wt,Wx,Yf,Yg,Yn,Yo,Yp,Yq,Y9,Va,Vj,Vy,V0,V1,V3,V5,V6,U5,K9,Kh,Gg,G6,Gm,Ll];tactic =>
    try simp only [Uq] at *;try simp only [nc2] at *
    try simp (maxSteps:=4000000) only [hrb,szM,U6]
    repeat' first|with_reducible assumption|with_reducible apply And.intro|intro _|omega|(rw [Uk];omega)
    refine Kk [8,9,19,20,21,22,23,24,25,26,27,28,29,30,31,32,33,34,35,36,37,38,39,40,41,42,43,44,45,46,47,48,49,50,51,52,53,54,55,56,57,58,59] (fun k:Nat=>[(7,.d (.int .i64 k))]) (fun k:Nat=>[(12,.row 1 ((Ck l i b0 k).map enc) 0)]) (fun k:Nat=>k≤l.length) (fun k:Nat=>l.length-k) 0 ?_ ?_ ?_
    ·omega
    ·((try simp only [Ul,U0,Ux,U8,upd,U7,Ki,K0,Nat.reduceDiv,Nat.reduceMod,Nat.reduceMul,Nat.reduceAdd,Nat.reduceEqDiff,aV,aW,if_true,if_false,reduceIte]);(first|refine Wk.of_fl ?_|skip);simp only [Wk,wkK,Ga,wkT,wk1,AV.kept,keptAll,wkO,lk,Uw,and_true,true_and,and_self,Nat.reduceEqDiff,Nat.reduceLeDiff,if_true,if_false,reduceIte,reduceCtorEq,Option.isSome,false_implies];try simp [Wk,wkK,wkT,wk1,AV.kept,keptAll,wkO,lk,Uw,Ck])
    rintro k hk
    have hbl1:=R7 (l:=l) (i:=i) (b:=b0) k
    have hnx1:Ck l i b0 (k+1)=cond (((k:Int) != i)&&!(Ck l i b0 k).getD k false) (Ck l i b0 k) (I3 l (Ck l i b0 k) (imp l k)):=rfl
    obtain ⟨b1,hb1⟩:∃ b,Ck l i b0 k=b:=⟨_,rfl⟩
    obtain ⟨b2,hb2⟩:∃ b,Ck l i b0 (k+1)=b:=⟨_,rfl⟩
    rw [hb1] at hbl1
    rw [hb1,hb2] at hnx1
    rcases Kt k l.length with ⟨hlt,hlb⟩|⟨hlt,hlb⟩
    ·rw [hb1]
     have q1:=K7 m0 hlt
     have q2:=K7 false (show k<b1.length by omega)
     have hi20:=few_imp hf k
     unfold imp at hi20 hnx1
     obtain ⟨x,hx⟩:∃ x,l.getD k m0=x:=⟨_,rfl⟩
     rw [hx] at q1 hi20 hnx1
     cases hc1:(((k:Int) != i)&&!b1.getD k false) with
     | true =>
      rw [hc1,cond_true] at hnx1
      simp only [bX,Bool.not_eq_true'] at hc1
      obtain ⟨hk1,hk2⟩:=hc1
      rw [hk2] at q2
      (sym=>simp [hrb,hlb,q1,q2,hk1,hbl1,hbl,Hn,Kx,Ky,szM,ctx_reached8_t,ctx_reached8_u,ctx_reached8_w,Zb,Zc,Zd,Ze,Zf,Zg,Zo,Zp,Zq,Zt,Zv,Zy,Z6,Qd,Qe,Qf,Qs,Qu,Qv,Qw,Qx,Ja,Jb,Jf,Jl,Jm,Jn,Js,Jt,Jv,Jw,Jx,Jy,Jz,Xi,Xj,Xl,Xm,Xn,Xp,Xr,Xu,Xw,Xx,Xy,X6,X7,X8,X9,Wm,Wn,Wo,Wp,Wr,Wt,Wu,Wx,Wy,W1,W8,Yd,Yf,Yg,Yn,Yo,Yp,Yq,Y6,Y7,Y9,Va,Vj,Vk,Vy,Vz,V0,V1,V2,V3,V5,V6,Ui,U5,K9,Kh,Gg,G6,Gm,Ll];tactic =>
       try simp only [Uq] at *;try simp only [nc2] at *
       try simp (maxSteps:=4000000) only [hrb,hlb,q1,q2,hk1,hbl1,hbl,Hn,Kx,Ky,szM,U6]
       repeat' first|with_reducible assumption|with_reducible apply And.intro|intro _|omega|(rw [Uk];omega)
       all_goals first|with_reducible exact okq|omega|exact ⟨k+1,by rw [hb2,hnx1];exact wkq,by omega,by omega⟩|skip)
     | false =>
      rw [hc1,cond_false] at hnx1
      obtain ⟨c1,hcc⟩:∃ c1,b1.getD k false=c1:=⟨_,rfl⟩
      rw [hcc] at q2 hc1
      obtain ⟨c2,hcd⟩:∃ c2,((k:Int) != i)=c2:=⟨_,rfl⟩
      rw [hcd] at hc1
      have inner:True:=trivial
      cases c2 with
      | true =>
       have hc1':c1=true:=by simpa using hc1
       subst hc1'
       (sym=>simp [hrb,hlb,q1,q2,hcd,hbl1,hbl,Hn,Kx,Ky,szM,ctx_reached8_t,ctx_reached8_u,Zb,Zc,Zd,Ze,Zf,Zo,Zp,Zq,Zt,Zv,Zy,Z6,Qd,Qe,Qf,Qs,Qu,Qv,Qw,Qx,Ja,Jb,Jf,Jl,Jm,Jn,Js,Jt,Jv,Jw,Jx,Jy,Jz,Xi,Xj,Xl,Xm,Xn,Xo,Xr,Xu,Xw,Xx,Xy,X6,X7,X8,X9,Wm,Wn,Wo,Wp,Wr,Wt,Wu,Wx,Wy,W1,W8,Yd,Yf,Yg,Yn,Yo,Yp,Yq,Y5,Y7,Y9,Va,Vj,Vk,Vy,Vz,V0,V1,V2,V3,V5,V6,Ui,U5,K9,Kh,Gg,G6,Gm,Ll];tactic =>
        try simp only [Uq] at *;try simp only [nc2] at *
        try simp (maxSteps:=4000000) only [hrb,hlb,q1,q2,hcd,hbl1,hbl,Hn,Kx,Ky,szM,U6]
        repeat' first|with_reducible assumption|with_reducible apply And.intro|intro _|omega|(rw [Uk];omega)
        refine Kk [9,35,36,37,38,39,40,41,42,43,44,45,46,47,48,49,50,51,52,53,54,55,56,57,58,59] (fun j:Nat=>[(8,.d (.int .i64 j))]) (fun j:Nat=>[(12,.row 1 ((I3 l b1 (x.imps.take j)).map enc) 0)]) (fun j:Nat=>j≤x.imps.length) (fun j:Nat=>x.imps.length-j) 0 ?_ ?_ ?_
        ·omega
        ·((try simp only [Ul,U0,Ux,U8,upd,U7,Ki,K0,Nat.reduceDiv,Nat.reduceMod,Nat.reduceMul,Nat.reduceAdd,Nat.reduceEqDiff,aV,aW,if_true,if_false,reduceIte]);(first|refine Wk.of_fl ?_|skip);simp only [Wk,wkK,Ga,wkT,wk1,AV.kept,keptAll,wkO,lk,Uw,and_true,true_and,and_self,Nat.reduceEqDiff,Nat.reduceLeDiff,if_true,if_false,reduceIte,reduceCtorEq,Option.isSome,false_implies];try simp [Wk,wkK,wkT,wk1,AV.kept,keptAll,wkO,lk,Uw,I3])
        rintro j hj
        have hbl3:=marks_len (l:=l) (ss:=x.imps.take j) (b:=b1)
        obtain ⟨b3,hb3⟩:∃ b,I3 l b1 (x.imps.take j)=b:=⟨_,rfl⟩
        rw [hb3] at hbl3 ⊢
        rcases Kt j x.imps.length with ⟨hjl,hjb⟩|⟨hjl,hjb⟩
        ·have q3:=K7 ([]:List UInt8) hjl
         have hsn:=marks_snoc (l:=l) (b:=b1) hjl
         rw [hb3] at hsn
         obtain ⟨y,hy⟩:∃ y,x.imps.getD j []=y:=⟨_,rfl⟩
         rw [hy] at q3 hsn
         unfold mk1 at hsn
         cases hfn:To l y with
         | none =>
          have hz:B0 l y=-1:=by unfold B0;rw [hfn]
          rw [hfn] at hsn
          simp only at hsn
          (sym=>simp [hrb,hlb,hjb,q1,q3,hz,hbl1,hbl,hbl3,Hn,Kx,Ky,szM,ctx_reached8_t,ctx_reached8_c,ctx_reached8_d,ctx_reached8_b,ctx_reached8_w,con_find8.eq_def,Zb,Zc,Ze,Zf,Zg,Zo,Zp,Zq,Zs,Zv,Zw,Zx,Zy,Z6,Qb,Qd,Qf,Qg,Qh,Qs,Qu,Qv,Qw,Qx,Q1,Q8,Ja,Jb,Jc,Je,Jl,Jm,Jn,Js,Jt,Ju,Jv,Jw,Jx,Jy,Jz,J2,Xe,Xi,Xj,Xl,Xm,Xn,Xr,Xu,Xw,Xx,Xy,X6,X7,X8,X9,Wb,Wd,Wf,Wm,Wn,Wo,Wp,Wr,Wt,Ww,Wx,W0,W1,W3,W8,W9,Ya,Yb,Yc,Ye,Yf,Yg,Yn,Yo,Yp,Yq,Yy,Yz,Y3,Y4,Y7,Y9,Va,Vj,Vk,Vy,V0,V1,V2,V3,V5,V6,Ui,Uj,U5,K9,Kh,Gg,G6,Gm,Ll];tactic =>
           try simp only [Uq] at *;try simp only [nc2] at *
           try simp (maxSteps:=4000000) only [hrb,hlb,hjb,q1,q3,hz,hbl1,hbl,hbl3,Hn,Kx,Ky,szM,U6]
           repeat' first|with_reducible assumption|with_reducible apply And.intro|intro _|omega|(rw [Uk];omega)
           all_goals first|with_reducible exact okq|omega|exact ⟨j+1,by rw [hsn];exact wkq,by omega,by omega⟩|skip)
         | some p =>
          have hz:B0 l y=p:=by unfold B0;rw [hfn]
          have hpl:=findR_lt hfn
          have hp0:leB 0 (p:Int)=true:=by rw [G4];omega
          rw [hfn] at hsn
          simp only at hsn
          have hms:=map_setB (b:=b3) (n:=p)
          have q4:=K7 false (show p<b3.length by omega)
          obtain ⟨bv,hbv⟩:∃ v,b3.getD p false=v:=⟨_,rfl⟩
          rw [hbv] at q4
          (sym=>simp [hrb,hlb,hjb,q1,q3,hz,hp0,hbl1,hbl,hbl3,q4,Hn,Kx,Ky,szM,ctx_reached8_t,ctx_reached8_c,ctx_reached8_d,ctx_reached8_b,ctx_reached8_w,con_find8.eq_def,Zb,Zc,Ze,Zf,Zg,Zo,Zp,Zq,Zs,Zv,Zw,Zx,Zy,Z6,Qb,Qd,Qf,Qg,Qh,Qs,Qu,Qv,Qw,Qx,Q1,Q8,Ja,Jb,Jc,Je,Jl,Jm,Jn,Js,Jt,Ju,Jv,Jw,Jx,Jy,Jz,J2,Xe,Xi,Xj,Xl,Xm,Xn,Xr,Xu,Xw,Xx,Xy,X6,X7,X8,X9,Wb,Wd,Wf,Wm,Wn,Wo,Wp,Wr,Wt,Ww,Wx,W0,W1,W3,W8,W9,Ya,Yb,Yc,Yd,Ye,Yf,Yg,Yn,Yo,Yp,Yq,Yy,Yz,Y3,Y4,Y7,Y9,Va,Vf,Vj,Vk,Vy,V0,V1,V2,V3,V5,V6,Ui,Uj,U5,K9,Kh,Gg,G6,Gm,Ll];tactic =>
           try simp only [Uq] at *;try simp only [nc2] at *
           try simp (maxSteps:=4000000) only [hrb,hlb,hjb,q1,q3,hz,hp0,hbl1,hbl,hbl3,q4,Hn,Kx,Ky,szM,U6]
           repeat' first|with_reducible assumption|with_reducible apply And.intro|intro _|omega|(rw [Uk];omega)
           all_goals first|with_reducible exact okq|omega|exact ⟨j+1,by rw [hsn,←hms];exact wkq,by omega,by omega⟩|skip)
        ·have hje:j=x.imps.length:=by omega
         rw [hje,List.take_length] at hb3
         rw [hb3] at hnx1
         (sym=>simp [hrb,hlb,hjb,q1,hbl1,hbl,hbl3,Hn,Kx,Ky,szM,ctx_reached8_t,ctx_reached8_w,Zb,Zc,Ze,Zf,Zg,Zo,Zp,Zq,Zs,Zv,Zx,Zy,Z6,Qd,Qf,Qs,Qu,Qv,Qw,Qx,Jb,Jl,Jm,Jn,Js,Jt,Jv,Jw,Jx,Jy,Jz,Xj,Xl,Xm,Xp,Xr,Xu,Xw,Xx,Xy,X6,X7,X8,X9,Wm,Wn,Wo,Wp,Wr,Wt,Ww,Wx,W0,W1,Ya,Yb,Yf,Yg,Yn,Yo,Yp,Yq,Y7,Y9,Va,Vj,Vz,V0,V1,V2,V3,V5,V6,Ui,U5,K9,Kh,Gg,G6,Gm,Ll];tactic =>
          try simp only [Uq] at *;try simp only [nc2] at *
          try simp (maxSteps:=4000000) only [hrb,hlb,hjb,q1,hbl1,hbl,hbl3,Hn,Kx,Ky,szM,U6]
          repeat' first|with_reducible assumption|with_reducible apply And.intro|intro _|omega|(rw [Uk];omega)
          all_goals first|with_reducible exact okq|omega|exact ⟨k+1,by rw [hb2,hnx1];exact wkq,by omega,by omega⟩|skip))
      | false =>
       (sym=>simp [hrb,hlb,q1,q2,hcd,hbl1,hbl,Hn,Kx,Ky,szM,ctx_reached8_t,ctx_reached8_u,Zb,Zc,Zd,Ze,Zf,Zo,Zt,Z6,Qd,Qf,Qs,Qu,Qv,Qw,Qx,Jb,Jf,Jl,Jm,Jn,Js,Jt,Jv,Jw,Jx,Jy,Jz,Xi,Xj,Xl,Xm,Xn,Xo,Xr,Xu,Xw,Xx,Xy,X6,X7,X8,X9,Wm,Wn,Wo,Wp,Wr,Wt,Wx,Yf,Yg,Yn,Yo,Yp,Yq,Y9,Va,Vj,Vk,Vy,Vz,V0,V1,V3,V5,V6,U5,K9,Kh,Gg,G6,Gm,Ll];tactic =>
        try simp only [Uq] at *;try simp only [nc2] at *
        try simp (maxSteps:=4000000) only [hrb,hlb,q1,q2,hcd,hbl1,hbl,Hn,Kx,Ky,szM,U6]
        repeat' first|with_reducible assumption|with_reducible apply And.intro|intro _|omega|(rw [Uk];omega)
        refine Kk [9,35,36,37,38,39,40,41,42,43,44,45,46,47,48,49,50,51,52,53,54,55,56,57,58,59] (fun j:Nat=>[(8,.d (.int .i64 j))]) (fun j:Nat=>[(12,.row 1 ((I3 l b1 (x.imps.take j)).map enc) 0)]) (fun j:Nat=>j≤x.imps.length) (fun j:Nat=>x.imps.length-j) 0 ?_ ?_ ?_
        ·omega
        ·((try simp only [Ul,U0,Ux,U8,upd,U7,Ki,K0,Nat.reduceDiv,Nat.reduceMod,Nat.reduceMul,Nat.reduceAdd,Nat.reduceEqDiff,aV,aW,if_true,if_false,reduceIte]);(first|refine Wk.of_fl ?_|skip);simp only [Wk,wkK,Ga,wkT,wk1,AV.kept,keptAll,wkO,lk,Uw,and_true,true_and,and_self,Nat.reduceEqDiff,Nat.reduceLeDiff,if_true,if_false,reduceIte,reduceCtorEq,Option.isSome,false_implies];try simp [Wk,wkK,wkT,wk1,AV.kept,keptAll,wkO,lk,Uw,I3])
        rintro j hj
        have hbl3:=marks_len (l:=l) (ss:=x.imps.take j) (b:=b1)
        obtain ⟨b3,hb3⟩:∃ b,I3 l b1 (x.imps.take j)=b:=⟨_,rfl⟩
        rw [hb3] at hbl3 ⊢
        rcases Kt j x.imps.length with ⟨hjl,hjb⟩|⟨hjl,hjb⟩
        ·have q3:=K7 ([]:List UInt8) hjl
         have hsn:=marks_snoc (l:=l) (b:=b1) hjl
         rw [hb3] at hsn
         obtain ⟨y,hy⟩:∃ y,x.imps.getD j []=y:=⟨_,rfl⟩
         rw [hy] at q3 hsn
         unfold mk1 at hsn
         cases hfn:To l y with
         | none =>
          have hz:B0 l y=-1:=by unfold B0;rw [hfn]
          rw [hfn] at hsn
          simp only at hsn
          (sym=>simp [hrb,hlb,hjb,q1,q3,hz,hbl1,hbl,hbl3,Hn,Kx,Ky,szM,ctx_reached8_t,ctx_reached8_c,ctx_reached8_d,ctx_reached8_b,ctx_reached8_w,con_find8.eq_def,Zb,Zc,Ze,Zf,Zg,Zo,Zp,Zq,Zs,Zv,Zw,Zx,Zy,Z6,Qb,Qd,Qf,Qg,Qh,Qs,Qu,Qv,Qw,Qx,Q1,Q8,Ja,Jb,Jc,Je,Jl,Jm,Jn,Js,Jt,Ju,Jv,Jw,Jx,Jy,Jz,J2,Xe,Xi,Xj,Xl,Xm,Xn,Xr,Xu,Xw,Xx,Xy,X6,X7,X8,X9,Wb,Wd,Wf,Wm,Wn,Wo,Wp,Wr,Wt,Ww,Wx,W0,W1,W3,W8,W9,Ya,Yb,Yc,Ye,Yf,Yg,Yn,Yo,Yp,Yq,Yy,Yz,Y3,Y4,Y7,Y9,Va,Vj,Vk,Vy,V0,V1,V2,V3,V5,V6,Ui,Uj,U5,K9,Kh,Gg,G6,Gm,Ll];tactic =>
           try simp only [Uq] at *;try simp only [nc2] at *
           try simp (maxSteps:=4000000) only [hrb,hlb,hjb,q1,q3,hz,hbl1,hbl,hbl3,Hn,Kx,Ky,szM,U6]
           repeat' first|with_reducible assumption|with_reducible apply And.intro|intro _|omega|(rw [Uk];omega)
           all_goals first|with_reducible exact okq|omega|exact ⟨j+1,by rw [hsn];exact wkq,by omega,by omega⟩|skip)
         | some p =>
          have hz:B0 l y=p:=by unfold B0;rw [hfn]
          have hpl:=findR_lt hfn
          have hp0:leB 0 (p:Int)=true:=by rw [G4];omega
          rw [hfn] at hsn
          simp only at hsn
          have hms:=map_setB (b:=b3) (n:=p)
          have q4:=K7 false (show p<b3.length by omega)
          obtain ⟨bv,hbv⟩:∃ v,b3.getD p false=v:=⟨_,rfl⟩
          rw [hbv] at q4
          (sym=>simp [hrb,hlb,hjb,q1,q3,hz,hp0,hbl1,hbl,hbl3,q4,Hn,Kx,Ky,szM,ctx_reached8_t,ctx_reached8_c,ctx_reached8_d,ctx_reached8_b,ctx_reached8_w,con_find8.eq_def,Zb,Zc,Ze,Zf,Zg,Zo,Zp,Zq,Zs,Zv,Zw,Zx,Zy,Z6,Qb,Qd,Qf,Qg,Qh,Qs,Qu,Qv,Qw,Qx,Q1,Q8,Ja,Jb,Jc,Je,Jl,Jm,Jn,Js,Jt,Ju,Jv,Jw,Jx,Jy,Jz,J2,Xe,Xi,Xj,Xl,Xm,Xn,Xr,Xu,Xw,Xx,Xy,X6,X7,X8,X9,Wb,Wd,Wf,Wm,Wn,Wo,Wp,Wr,Wt,Ww,Wx,W0,W1,W3,W8,W9,Ya,Yb,Yc,Yd,Ye,Yf,Yg,Yn,Yo,Yp,Yq,Yy,Yz,Y3,Y4,Y7,Y9,Va,Vf,Vj,Vk,Vy,V0,V1,V2,V3,V5,V6,Ui,Uj,U5,K9,Kh,Gg,G6,Gm,Ll];tactic =>
           try simp only [Uq] at *;try simp only [nc2] at *
           try simp (maxSteps:=4000000) only [hrb,hlb,hjb,q1,q3,hz,hp0,hbl1,hbl,hbl3,q4,Hn,Kx,Ky,szM,U6]
           repeat' first|with_reducible assumption|with_reducible apply And.intro|intro _|omega|(rw [Uk];omega)
           all_goals first|with_reducible exact okq|omega|exact ⟨j+1,by rw [hsn,←hms];exact wkq,by omega,by omega⟩|skip)
        ·have hje:j=x.imps.length:=by omega
         rw [hje,List.take_length] at hb3
         rw [hb3] at hnx1
         (sym=>simp [hrb,hlb,hjb,q1,hbl1,hbl,hbl3,Hn,Kx,Ky,szM,ctx_reached8_t,ctx_reached8_w,Zb,Zc,Ze,Zf,Zg,Zo,Zp,Zq,Zs,Zv,Zx,Zy,Z6,Qd,Qf,Qs,Qu,Qv,Qw,Qx,Jb,Jl,Jm,Jn,Js,Jt,Jv,Jw,Jx,Jy,Jz,Xj,Xl,Xm,Xp,Xr,Xu,Xw,Xx,Xy,X6,X7,X8,X9,Wm,Wn,Wo,Wp,Wr,Wt,Ww,Wx,W0,W1,Ya,Yb,Yf,Yg,Yn,Yo,Yp,Yq,Y7,Y9,Va,Vj,Vz,V0,V1,V2,V3,V5,V6,Ui,U5,K9,Kh,Gg,G6,Gm,Ll];tactic =>
          try simp only [Uq] at *;try simp only [nc2] at *
          try simp (maxSteps:=4000000) only [hrb,hlb,hjb,q1,hbl1,hbl,hbl3,Hn,Kx,Ky,szM,U6]
          repeat' first|with_reducible assumption|with_reducible apply And.intro|intro _|omega|(rw [Uk];omega)
          all_goals first|with_reducible exact okq|omega|exact ⟨k+1,by rw [hb2,hnx1];exact wkq,by omega,by omega⟩|skip))
    ·have hkl:k=l.length:=by omega
     rw [hkl,←hnx]
     (sym=>simp [hrb,hlb,hkl,szM,ctx_reached8_t,ctx_reached8_u,ctx_reached8_w,Zb,Zc,Zd,Ze,Zf,Zg,Zo,Zp,Zq,Zt,Zv,Zy,Z6,Qd,Qe,Qf,Qs,Qu,Qv,Qw,Qx,Ja,Jb,Jf,Jl,Jm,Jn,Js,Jt,Jv,Jw,Jx,Jy,Jz,Xi,Xj,Xl,Xm,Xn,Xo,Xp,Xr,Xu,Xw,Xx,Xy,X6,X7,X8,X9,Wm,Wn,Wo,Wp,Wr,Wt,Wx,W1,Yf,Yg,Yn,Yo,Yp,Yq,Y7,Y9,Va,Vj,Vk,Vy,Vz,V0,V1,V2,V3,V5,V6,Ui,U5,K9,Kh,Gg,G6,Gm,Ll];tactic =>
      try simp only [Uq] at *;try simp only [nc2] at *
      try simp (maxSteps:=4000000) only [hrb,hlb,hkl,szM,U6]
      repeat' first|with_reducible assumption|with_reducible apply And.intro|intro _|omega|(rw [Uk];omega)
      all_goals first|with_reducible exact okq|omega|exact ⟨r+1,wkq,by omega,by omega⟩|skip))
  ·have hrl':r=l.length+1:=by omega
   have hrb:leB (r:Int) (l.length:Int)=false:=by rw [leB_false];omega
   have hre:N8 l i=b0:=by unfold N8;rw [←hrl',hb0]
   rw [hb0] at hbl
   rw [hb0]
   (sym=>simp [hrb,hre,hbl,hb0,szM,ctx_reached8_t,ctx_reached8_d,Zb,Zc,Ze,Zf,Zg,Zo,Z6,Qd,Qf,Qp,Qq,Qr,Qs,Qu,Qv,Qw,Qx,Q1,Ja,Jb,Jd,Jl,Jm,Jn,Js,Jt,Ju,Jv,Jw,Jx,Jy,Jz,J4,Xj,Xl,Xm,Xp,Xq,Xr,Xu,Xw,Xx,Xy,X6,X7,X8,X9,Wo,Wp,Wr,Wt,Wx,Yf,Yg,Yn,Yo,Yp,Yq,Y9,Va,Vz,V0,V1,V3,V5,V6,U5,K9,Kh,Gg,G6,Gm,Ll];tactic =>
    try simp only [Uq] at *;try simp only [nc2] at *
    try simp (maxSteps:=4000000) only [hrb,hre,hbl,hb0,szM,U6]
    repeat' first|with_reducible assumption|with_reducible apply And.intro|intro _|omega|(rw [Uk];omega)
    all_goals first|trivial|rfl|skip))
def Nf {A R S T:Type} [Enc A] [Enc R] [Enc S] [Enc T] (p:A→Prop) (f:A→R×S×T):Con:=⟨[false],[false,false,false],fun c=>match c with
 | [.d x]=>isE A x∧p (dec x)
 | _=>False,fun c=>match c with
 | [.d x]=>.tup [.d (enc (f (dec x)).1),.d (enc (f (dec x)).2.1),.d (enc (f (dec x)).2.2)]
 | _=>.d .nilp⟩
theorem lW:type_of% @Nf.eq_def:=@Nf.eq_def
theorem con1q_pre {A R S T:Type} [Enc A] [Enc R] [Enc S] [Enc T] {p:A→Prop} {f:A→R×S×T} {c:List CV} (h:(Nf p f).pre c):∃ a,c=[.d (enc a)]∧p a:=by
 unfold Nf at h
 simp only at h
 split at h
 ·next x=>exact ⟨dec x,by rw [←h.1],h.2⟩
 ·exact h.elim
theorem first_at {p:Nat→Bool}:∀ {n k:Nat},k<n→(∀ j,j<k→p j=false)→p k=true→(List.range n).find? p=some k:=by
 intro n k hk hno hp
 rw [List.find?_eq_some_iff_append]
 refine ⟨hp,List.range k,(List.range' (k+1) (n-k-1)),?_,fun a ha=>?_⟩
 ·rw [List.range_eq_range',List.range_eq_range',show n=k+(1+(n-k-1)) by omega,List.range'_append_1.symm]
  rw [show 1+(n-k-1)=(n-k-1)+1 by omega,List.range'_succ]
  simp
 ·rw [hno a (List.mem_range.1 ha)];rfl
theorem first_no {p:Nat→Bool} {n:Nat} (hno:∀ j,j<n→p j=false):(List.range n).find? p=none:=by
 rw [List.find?_eq_none]
 intro x hx
 rw [hno x (List.mem_range.1 hx)]
 simp
def fillN (f:Nat→Bool) (n:Nat):Nat→List Bool
 | 0=>List.replicate n false
 | k+1=>(fillN f n k).set k (f k)
theorem fillN_len (f:Nat→Bool) (n:Nat):∀ k,(fillN f n k).length=n
 | 0=>by simp [fillN]
 | k+1=>by rw [fillN,List.length_set,fillN_len f n k]
theorem fillN_at (f:Nat→Bool) (n:Nat):∀ k j,k≤n→j<n→(fillN f n k)[j]?=some (if j<k then f j else false)
 | 0,j,_,hj=>by simp [fillN,hj]
 | k+1,j,hk,hj=>by
  have ih:=fillN_at f n k j (by omega) hj
  rw [fillN,List.getElem?_set]
  by_cases e:k=j
  ·subst e
   rw [if_pos rfl,if_pos (by rw [fillN_len];exact hj),if_pos (by omega)]
  ·rw [if_neg e,ih]
   by_cases h:j<k
   ·rw [if_pos h,if_pos (by omega)]
   ·rw [if_neg h,if_neg (by omega)]
theorem fillN_all (f:Nat→Bool) (n:Nat):fillN f n n=(List.range n).map f:=by
 apply List.ext_getElem?
 intro j
 rcases Nat.lt_or_ge j n with hj|hj
 ·rw [fillN_at f n n j (cZ _) hj,if_pos hj]
  simp [hj]
 ·rw [List.getElem?_eq_none (by rw [fillN_len];exact hj),List.getElem?_eq_none (by simpa using hj)]
def dupB (l:List Mod) (k:Nat):Bool:=ltB (B0 l (nm l k)) (k:Int)
def lackB (l:List Mod) (k:Nat):Bool:=(imp l k).any fun s=>ltB (B0 l s) 0
def cycB (l:List Mod) (k:Nat):Bool:=(N8 l (k:Int)).getD k false
def mayB (l:List Mod) (out:List Int) (k:Nat):Bool:=!inB out (k:Int)&&readyB l (k:Int) out
def outN (l:List Mod):Nat→List Int
 | 0=>[]
 | r+1=>outN l r++[Ta l ((List.range l.length).map (mayB l (outN l r))) l.length]
theorem outN_len (l:List Mod):∀ r,(outN l r).length=r
 | 0=>rfl
 | r+1=>by rw [outN,bY,outN_len l r];rfl
def order8 (l:List Mod):Sl Int×Int×Int:=match (List.range l.length).find? (dupB l) with
 | some i=>(⟨[]⟩,i,7)
 | none=>match (List.range l.length).find? (lackB l) with
  | some i=>(⟨[]⟩,i,6)
  | none=>cond (leB 0 (Ta l ((List.range l.length).map (cycB l)) l.length)) (⟨[]⟩,Ta l ((List.range l.length).map (cycB l)) l.length,8) (⟨outN l l.length⟩,0,0)
def con_Order8:Con:=Nf (fun (l:Sl Mod)=>FewM l.l) (fun l=>order8 l.l)
noncomputable def ctx_Order8:Ctx:=⟨tab,lkC [(18,con_find8),(19,O4),(20,con_least8),(21,con_In08),(22,con_ready8)],60,lkB [],[],false⟩
theorem ctx_Order8_t:ctx_Order8.τ=tab:=rfl
theorem ctx_Order8_c:ctx_Order8.Γ=lkC [(18,con_find8),(19,O4),(20,con_least8),(21,con_In08),(22,con_ready8)]:=rfl
theorem ctx_Order8_d:ctx_Order8.dp=60:=rfl
theorem ctx_Order8_b:ctx_Order8.Δ=lkB []:=rfl
theorem ctx_Order8_w:ctx_Order8.wr=false:=rfl
set_option maxRecDepth 100000 in
theorem good_Order8:Hg Try.prog (10,con_Order8):=by
 refine ⟨Ke Try.func10 (by kernel_rfl) rfl,?_⟩
 have K:Gu Try.prog ctx_Order8:=Ko G7 Kw (by
  intro p hp
  simp only [bQ,bZ,or_false] at hp
  rcases hp with rfl|rfl|rfl|rfl|rfl
  ·exact good_find8
  ·exact good_reached8
  ·exact good_least8
  ·exact good_In08
  ·exact good_ready8) (by simp)
 obtain ⟨c,hc⟩:∃ c,Try.f10.body=some c:=⟨_,rfl⟩
 refine Kn K Try.func10 hc [.tmp 2,.tmp 3,.tmp 4] rfl 117 rfl (fun cvs hpre=>?_)
 change con_Order8.pre cvs at hpre
 unfold con_Order8 at hpre
 obtain ⟨⟨l⟩,rfl,hf⟩:=con1q_pre hpre
 simp only at hf
 clear hpre
 have hl20:=few_len hf
 obtain ⟨R1,R2,R3,hR⟩:∃ a b d,order8 l=(a,b,d):=⟨_,_,_,rfl⟩
 have hR2:=hR
 unfold order8 at hR2
 simp only [Try.f10,aZ] at hc
 subst hc
 refine Gf 7 (of_decide_eq_true (by kernel_rfl)) ?_
 (sym=>simp [ctx_Order8_t,con_Order8.eq_def,Zb,Zc,Ze,Zf,Zn,Zo,Qs,Qu,Qv,Qw,Qx,Jj,Jq,Jr,Js,Jt,Jy,J6,J7,Xj,Xl,Xn,Xo,Xr,Xu,Xw,Xx,Xy,X6,X7,X8,X9,Wj,Wl,Wp,Yr,Ys,Yt,Yu,Yv,Yw,Y9,Vj,Vm,V0,V5,V6,U5,K9,Kh,Gg,G6,Gm,Gq,Ll];tactic =>
  try simp only [Uq] at *;try simp only [nc2] at *
  try simp (maxSteps:=4000000) only [U6]
  repeat' first|with_reducible assumption|with_reducible apply And.intro|intro _|omega|(rw [Uk];omega)
  refine Kk [2,3,4,14,15,16,17,18,19,20,21,22,23,24,25,26,27,28,29] (fun k:Nat=>[(5,.d (.int .i64 k))]) (fun k:Nat=>[]) (fun k:Nat=>k≤l.length∧∀ j,j<k→dupB l j=false) (fun k:Nat=>l.length-k) 0 ?_ ?_ ?_
  ·simp
  ·exact wkq
  rintro k ⟨hk,hno⟩
  rcases Kt k l.length with ⟨hlt,hlb⟩|⟨hlt,hlb⟩
  ·have q1:=K7 m0 hlt
   have hst:dupB l k=false→∀ j,j<k+1→dupB l j=false:=fun h=>upTo hno h
   have hit:dupB l k=true→R1=⟨[]⟩∧R2=k∧R3=7:=fun h=>by
    rw [first_at hlt hno h] at hR2
    injection hR2 with e1 e2
    injection e2 with e2 e3
    exact ⟨e1.symm,e2.symm,e3.symm⟩
   unfold dupB nm at hst hit
   obtain ⟨x,hx⟩:∃ x,l.getD k m0=x:=⟨_,rfl⟩
   rw [hx] at q1 hst hit
   cases hb:ltB (B0 l x.name) (k:Int) with
   | true =>
    obtain ⟨e1,e2,e3⟩:=hit hb
    subst e1 e2 e3
    (sym=>simp [hlb,q1,hb,hR,lW,Hn,Kx,Ky,szM,ctx_Order8_t,ctx_Order8_c,ctx_Order8_d,ctx_Order8_b,con_In08.eq_def,con_find8.eq_def,con_least8.eq_def,O4.eq_def,con_ready8.eq_def,Zb,Zc,Ze,Zf,Zg,Zn,Zo,Zp,Zq,Zs,Zv,Zx,Zy,Z6,Qb,Qd,Qf,Qg,Qh,Qp,Qq,Qr,Qs,Qu,Qv,Qw,Qx,Q1,Q8,Jc,Jd,Je,Jl,Jm,Jn,Js,Jt,Jv,Jw,Jy,Jz,J2,J3,Xe,Xf,Xi,Xj,Xl,Xm,Xn,Xq,Xr,Xu,Xw,Xx,Xy,X6,X7,X8,X9,Wb,Wc,Wd,Wf,Wm,Wo,Wp,Wr,Wt,Wx,W1,W9,Yb,Yc,Yf,Yg,Yn,Yo,Yy,Yz,Y3,Y4,Y7,Y9,Va,Vj,Vm,Vy,V0,V1,V2,V3,V5,V6,Ui,U5,K9,Kh,Gg,G6,Gm,Gq,Ll];tactic =>
     try simp only [Uq] at *;try simp only [nc2] at *
     try simp (maxSteps:=4000000) only [hlb,q1,hb,hR,lW,Hn,Kx,Ky,szM,U6]
     repeat' first|with_reducible assumption|with_reducible apply And.intro|intro _|omega|(rw [Uk];omega)
     all_goals first|with_reducible exact okq|omega|trivial|rfl|skip)
   | false =>
    have hs:=hst hb
    (sym=>simp [hlb,q1,hb,Hn,Kx,Ky,szM,ctx_Order8_t,ctx_Order8_c,ctx_Order8_d,ctx_Order8_b,ctx_Order8_w,con_In08.eq_def,con_find8.eq_def,con_least8.eq_def,O4.eq_def,con_ready8.eq_def,Zb,Zc,Ze,Zf,Zg,Zo,Zp,Zq,Zs,Zv,Zx,Zy,Z6,Qb,Qd,Qf,Qg,Qh,Qs,Qu,Qv,Qw,Qx,Q1,Q8,Jc,Je,Jl,Jm,Jn,Js,Jt,Jv,Jw,Jy,Jz,J2,Xe,Xf,Xi,Xj,Xl,Xm,Xn,Xr,Xu,Xw,Xx,Xy,X6,X7,X8,X9,Wb,Wd,Wf,Wm,Wo,Wp,Wr,Wt,Wx,W1,W9,Yb,Yc,Yf,Yg,Yn,Yo,Yy,Yz,Y3,Y4,Y7,Y9,Va,Vj,Vy,Vz,V0,V1,V2,V3,V5,V6,Ui,U5,K9,Kh,Gg,G6,Gm,Gq,Ll];tactic =>
     try simp only [Uq] at *;try simp only [nc2] at *
     try simp (maxSteps:=4000000) only [hlb,q1,hb,Hn,Kx,Ky,szM,U6]
     repeat' first|with_reducible assumption|with_reducible apply And.intro|intro _|omega|(rw [Uk];omega)
     all_goals first|with_reducible exact okq|omega|exact ⟨k+1,wkq,by omega,hs,by omega⟩|skip)
  have hdup:=first_no (p:=dupB l) (n:=l.length) fun j hj=>hno j (by omega)
  rw [hdup] at hR2
  simp only at hR2
  clear hno
  (sym=>simp [hlb,szM,ctx_Order8_t,Zb,Zc,Ze,Zf,Zg,Zo,Z6,Qd,Qf,Qs,Qu,Qv,Qw,Qx,Jl,Jm,Jn,Js,Jt,Jv,Jw,Jy,Jz,Xj,Xl,Xm,Xn,Xo,Xp,Xr,Xu,Xw,Xx,Xy,X6,X7,X8,X9,Wo,Wp,Wr,Wt,Wx,Yf,Yg,Yn,Yo,Y9,Va,Vj,Vz,V0,V1,V2,V3,V5,V6,U5,K9,Kh,Gg,G6,Gm,Gq,Ll];tactic =>
   try simp only [Uq] at *;try simp only [nc2] at *
   try simp (maxSteps:=4000000) only [hlb,szM,U6]
   repeat' first|with_reducible assumption|with_reducible apply And.intro|intro _|omega|(rw [Uk];omega)
   refine Kk [2,3,4,7,30,31,32,33,34,35,36,37,38,39,40,41,42,43,44,45,46,47,48,49,50,51,52,53,54,55,56,57] (fun k:Nat=>[(6,.d (.int .i64 k))]) (fun k:Nat=>[]) (fun k:Nat=>k≤l.length∧∀ j,j<k→lackB l j=false) (fun k:Nat=>l.length-k) 0 ?_ ?_ ?_
   ·simp
   ·exact wkq
   clear hlb hlt hk
   rintro k ⟨hk,hno⟩
   rcases Kt k l.length with ⟨hlt,hlb⟩|⟨hlt,hlb⟩
   ·have q1:=K7 m0 hlt
    have hi20:=few_imp hf k
    have hst:lackB l k=false→∀ j,j<k+1→lackB l j=false:=fun h=>upTo hno h
    have hit:lackB l k=true→R1=⟨[]⟩∧R2=k∧R3=6:=fun h=>by
     rw [first_at hlt hno h] at hR2
     injection hR2 with e1 e2
     injection e2 with e2 e3
     exact ⟨e1.symm,e2.symm,e3.symm⟩
    unfold lackB at hst hit
    unfold imp at hi20 hst hit
    obtain ⟨x,hx⟩:∃ x,l.getD k m0=x:=⟨_,rfl⟩
    rw [hx] at q1 hst hit hi20
    (sym=>simp [hlb,szM,ctx_Order8_t,Zb,Zc,Ze,Zf,Zo,Z6,Qd,Qf,Qs,Qu,Qv,Qw,Qx,Jl,Jm,Jn,Js,Jt,Jv,Jw,Jy,Jz,Xi,Xj,Xl,Xm,Xn,Xo,Xr,Xu,Xw,Xx,Xy,X6,X7,X8,X9,Wo,Wp,Wr,Wt,Wx,Yf,Yg,Yn,Yo,Y9,Va,Vj,Vy,V0,V1,V2,V3,V5,V6,U5,K9,Kh,Gg,G6,Gm,Gq,Ll];tactic =>
     try simp only [Uq] at *;try simp only [nc2] at *
     try simp (maxSteps:=4000000) only [hlb,szM,U6]
     repeat' first|with_reducible assumption|with_reducible apply And.intro|intro _|omega|(rw [Uk];omega)
     refine Kk [2,3,4,36,37,38,39,40,41,42,43,44,45,46,47,48,49,50,51,52,53,54,55,56,57] (fun j:Nat=>[(7,.d (.int .i64 j))]) (fun j:Nat=>[]) (fun j:Nat=>j≤x.imps.length∧∀ i,i<j→0≤B0 l (x.imps.getD i [])) (fun j:Nat=>x.imps.length-j) 0 ?_ ?_ ?_
     ·simp
     ·exact wkq
     rintro j ⟨hj,hnj⟩
     rcases Kt j x.imps.length with ⟨hjl,hjb⟩|⟨hjl,hjb⟩
     ·have q2:=K7 ([]:List UInt8) hjl
      have hsj:ltB (B0 l (x.imps.getD j [])) 0=false→∀ i,i<j+1→0≤B0 l (x.imps.getD i []):=fun h=>upTo hnj (by rw [Hm] at h;omega)
      have hbj:ltB (B0 l (x.imps.getD j [])) 0=true→R1=⟨[]⟩∧R2=k∧R3=6:=fun h=>hit (any_at (p:=fun s=>ltB (B0 l s) 0) [] j hjl h)
      obtain ⟨y,hy⟩:∃ y,x.imps.getD j []=y:=⟨_,rfl⟩
      rw [hy] at q2 hsj hbj
      cases hb:ltB (B0 l y) 0 with
      | true =>
       obtain ⟨e1,e2,e3⟩:=hbj hb
       subst e1 e2 e3
       (sym=>simp [hlb,hjb,q1,q2,hb,hR,lW,Hn,Kx,Ky,szM,ctx_Order8_t,ctx_Order8_c,ctx_Order8_d,ctx_Order8_b,con_In08.eq_def,con_find8.eq_def,con_least8.eq_def,O4.eq_def,con_ready8.eq_def,Zb,Zc,Ze,Zf,Zg,Zn,Zo,Zp,Zq,Zs,Zv,Zx,Zy,Z6,Qb,Qd,Qf,Qg,Qh,Qp,Qq,Qr,Qs,Qu,Qv,Qw,Qx,Q1,Q8,Jc,Jd,Je,Jl,Jm,Jn,Js,Jt,Jv,Jw,Jy,Jz,J2,J3,Xe,Xf,Xi,Xj,Xl,Xm,Xn,Xq,Xr,Xu,Xw,Xx,Xy,X6,X7,X8,X9,Wb,Wc,Wd,Wf,Wm,Wn,Wo,Wp,Wr,Wt,Ww,Wx,W0,W1,W9,Ya,Yb,Yc,Ye,Yf,Yg,Yn,Yo,Yy,Yz,Y3,Y4,Y7,Y9,Va,Vj,Vm,Vy,V0,V1,V2,V3,V5,V6,Ui,U5,K9,Kh,Gg,G6,Gm,Gq,Ll];tactic =>
        try simp only [Uq] at *;try simp only [nc2] at *
        try simp (maxSteps:=4000000) only [hlb,hjb,q1,q2,hb,hR,lW,Hn,Kx,Ky,szM,U6]
        repeat' first|with_reducible assumption|with_reducible apply And.intro|intro _|omega|(rw [Uk];omega)
        all_goals first|with_reducible exact okq|omega|trivial|rfl|skip)
      | false =>
       have hs:=hsj hb
       (sym=>simp [hlb,hjb,q1,q2,hb,Hn,Kx,Ky,szM,ctx_Order8_t,ctx_Order8_c,ctx_Order8_d,ctx_Order8_b,ctx_Order8_w,con_In08.eq_def,con_find8.eq_def,con_least8.eq_def,O4.eq_def,con_ready8.eq_def,Zb,Zc,Ze,Zf,Zg,Zo,Zp,Zq,Zs,Zv,Zx,Zy,Z6,Qb,Qd,Qf,Qg,Qh,Qs,Qu,Qv,Qw,Qx,Q1,Q8,Jc,Je,Jl,Jm,Jn,Js,Jt,Jv,Jw,Jy,Jz,J2,Xe,Xf,Xi,Xj,Xl,Xm,Xn,Xr,Xu,Xw,Xx,Xy,X6,X7,X8,X9,Wb,Wd,Wf,Wm,Wn,Wo,Wp,Wr,Wt,Ww,Wx,W0,W1,W9,Ya,Yb,Yc,Ye,Yf,Yg,Yn,Yo,Yy,Yz,Y3,Y4,Y7,Y9,Va,Vj,Vy,Vz,V0,V1,V2,V3,V5,V6,Ui,U5,K9,Kh,Gg,G6,Gm,Gq,Ll];tactic =>
        try simp only [Uq] at *;try simp only [nc2] at *
        try simp (maxSteps:=4000000) only [hlb,hjb,q1,q2,hb,Hn,Kx,Ky,szM,U6]
        repeat' first|with_reducible assumption|with_reducible apply And.intro|intro _|omega|(rw [Uk];omega)
        all_goals first|with_reducible exact okq|omega|exact ⟨j+1,wkq,by omega,hs,by omega⟩|skip)
     ·have hs:=hst (any_not (p:=fun s=>ltB (B0 l s) 0) [] fun i hi=>by have:=hnj i (by omega);rw [Hm];omega)
      (sym=>simp [hlb,hjb,q1,Hn,Kx,Ky,szM,ctx_Order8_t,ctx_Order8_w,Zb,Zc,Ze,Zf,Zg,Zo,Zp,Zq,Zs,Zv,Zx,Zy,Z6,Qd,Qf,Qs,Qu,Qv,Qw,Qx,Jl,Jm,Jn,Js,Jt,Jv,Jw,Jy,Jz,Xj,Xl,Xm,Xp,Xr,Xu,Xw,Xx,Xy,X6,X7,X8,X9,Wm,Wn,Wo,Wp,Wr,Wt,Ww,Wx,W0,W1,Ya,Yb,Yf,Yg,Yn,Yo,Y7,Y9,Va,Vj,Vz,V0,V1,V2,V3,V5,V6,Ui,U5,K9,Kh,Gg,G6,Gm,Gq,Ll];tactic =>
       try simp only [Uq] at *;try simp only [nc2] at *
       try simp (maxSteps:=4000000) only [hlb,hjb,q1,Hn,Kx,Ky,szM,U6]
       repeat' first|with_reducible assumption|with_reducible apply And.intro|intro _|omega|(rw [Uk];omega)
       all_goals first|with_reducible exact okq|omega|exact ⟨k+1,wkq,by omega,hs,by omega⟩|skip))
   have hlack:=first_no (p:=lackB l) (n:=l.length) fun j hj=>hno j (by omega)
   rw [hlack] at hR2
   simp only at hR2
   clear hno
   (sym=>simp [hlb,szM,ctx_Order8_t,Zb,Zc,Ze,Zf,Zg,Zo,Z3,Z6,Qd,Qf,Qs,Qu,Qv,Qw,Qx,Ja,Jb,Jl,Jm,Jn,Js,Jt,Jv,Jw,Jy,Jz,Xj,Xl,Xm,Xn,Xo,Xp,Xr,Xu,Xw,Xx,Xy,Xz,X1,X6,X7,X8,X9,Wo,Wp,Wr,Wt,Wx,W1,Yf,Yg,Yn,Yo,Y7,Y9,Va,Vh,Vj,Vz,V0,V1,V2,V3,V5,V6,U5,K9,Kh,Gg,G6,Gm,Gq,Ll];tactic =>
    try simp only [Uq] at *;try simp only [nc2] at *
    try simp (maxSteps:=4000000) only [hlb,szM,U6]
    repeat' first|with_reducible assumption|with_reducible apply And.intro|intro _|omega|(rw [Uk];omega)
    refine Kk [61,62,63,64,65,66,67,68,69,70,71,72,73,74,75] (fun k:Nat=>[(9,.d (.int .i64 k))]) (fun k:Nat=>[(60,.row 1 ((fillN (cycB l) l.length k).map enc) 0)]) (fun k:Nat=>k≤l.length) (fun k:Nat=>l.length-k) 0 ?_ ?_ ?_
    ·omega
    ·((try simp only [Ul,U0,Ux,U8,upd,U7,Ki,K0,Nat.reduceDiv,Nat.reduceMod,Nat.reduceMul,Nat.reduceAdd,Nat.reduceEqDiff,aV,aW,if_true,if_false,reduceIte]);(first|refine Wk.of_fl ?_|skip);simp only [Wk,wkK,Ga,wkT,wk1,AV.kept,keptAll,wkO,lk,Uw,and_true,true_and,and_self,Nat.reduceEqDiff,Nat.reduceLeDiff,if_true,if_false,reduceIte,reduceCtorEq,Option.isSome,false_implies];try simp [Wk,wkK,wkT,wk1,AV.kept,keptAll,wkO,lk,Uw,fillN,List.map_replicate])
    clear hlb hlt hk
    rintro k hk
    have hbl:=fillN_len (cycB l) l.length k
    have hS3:fillN (cycB l) l.length (k+1)=(fillN (cycB l) l.length k).set k ((N8 l (k:Int)).getD k false):=rfl
    rcases Kt k l.length with ⟨hlt,hlb⟩|⟨hlt,hlb⟩
    ·obtain ⟨b,hb⟩:∃ b,fillN (cycB l) l.length k=b:=⟨_,rfl⟩
     rw [hb] at hbl hS3 ⊢
     have hrl:(N8 l (k:Int)).length=l.length:=Bz _
     have q2:=K7 false (show k<(N8 l (k:Int)).length by omega)
     have q3:=K7 false (show k<b.length by omega)
     obtain ⟨c1,hcc⟩:∃ c1,(N8 l (k:Int)).getD k false=c1:=⟨_,rfl⟩
     obtain ⟨c2,hcd⟩:∃ c1,b.getD k false=c1:=⟨_,rfl⟩
     rw [hcc] at q2 hS3
     rw [hcd] at q3
     have hms:(b.map (enc:Bool→D)).set k (.bool c1)=(b.set k c1).map enc:=by rw [List.map_set];rfl
     obtain ⟨rb,hrb⟩:∃ rb,N8 l (k:Int)=rb:=⟨_,rfl⟩
     rw [hrb] at hrl q2
     (sym=>simp [hlb,hrb,q2,q3,hrl,hbl,szM,ctx_Order8_t,ctx_Order8_c,ctx_Order8_d,ctx_Order8_b,ctx_Order8_w,con_In08.eq_def,con_find8.eq_def,con_least8.eq_def,O4.eq_def,con_ready8.eq_def,Zb,Zc,Ze,Zf,Zg,Zo,Zp,Zq,Zv,Zw,Zy,Z6,Qb,Qd,Qf,Qg,Qh,Qs,Qu,Qv,Qw,Qx,Q1,Q8,Ja,Jb,Jc,Je,Jl,Jm,Jn,Js,Jt,Jv,Jw,Jy,Jz,J2,Xe,Xf,Xi,Xj,Xl,Xm,Xn,Xr,Xu,Xw,Xx,Xy,X6,X7,X8,X9,Wb,Wd,Wf,Wo,Wp,Wr,Wt,Wx,W1,W3,W8,Yd,Yf,Yg,Yk,Yn,Yo,Yx,Yz,Y2,Y4,Y7,Y9,Va,Vf,Vj,Vy,V0,V1,V2,V3,V5,V6,Ui,Uj,U5,K9,Kh,Gg,G6,Gm,Gq,Ll];tactic =>
      try simp only [Uq] at *;try simp only [nc2] at *
      try simp (maxSteps:=4000000) only [hlb,hrb,q2,q3,hrl,hbl,szM,U6]
      repeat' first|with_reducible assumption|with_reducible apply And.intro|intro _|omega|(rw [Uk];omega)
      all_goals first|with_reducible exact okq|omega|exact ⟨k+1,by rw [hS3,←hms];exact wkq,by omega,by omega⟩|skip)
    have hkl:k=l.length:=by omega
    rw [hkl,fillN_all] at hbl
    rw [hkl,fillN_all]
    obtain ⟨cy,hcy⟩:∃ cy,(List.range l.length).map (cycB l)=cy:=⟨_,rfl⟩
    rw [hcy] at hbl hR2 ⊢
    rw [hkl] at hlb
    obtain ⟨best,hbest⟩:∃ z,Ta l cy l.length=z:=⟨_,rfl⟩
    rw [hbest] at hR2
    cases hb0:leB 0 best with
    | true =>
     rw [hb0,cond_true] at hR2
     injection hR2 with e1 e2
     injection e2 with e2 e3
     subst e1 e2 e3
     (sym=>simp [hlb,hbest,hb0,hbl,hR,lW,szM,ctx_Order8_t,ctx_Order8_c,ctx_Order8_d,ctx_Order8_b,con_In08.eq_def,con_find8.eq_def,con_least8.eq_def,O4.eq_def,con_ready8.eq_def,Zb,Zc,Ze,Zf,Zg,Zn,Zo,Z6,Qb,Qd,Qf,Qg,Qh,Qp,Qq,Qr,Qs,Qu,Qv,Qw,Qx,Q1,Q8,Ja,Jb,Jc,Jd,Je,Jl,Jm,Jn,Js,Jt,Jv,Jw,Jy,Jz,J2,J3,J4,Xe,Xf,Xj,Xl,Xm,Xp,Xq,Xr,Xu,Xw,Xx,Xy,X6,X7,X8,X9,Wb,Wc,Wd,Wf,Wo,Wp,Wr,Wt,Wx,Yc,Yf,Yg,Yn,Yo,Yz,Y0,Y1,Y4,Y9,Va,Vj,Vm,Vy,Vz,V0,V1,V2,V3,V5,V6,U5,K9,Kh,Gg,G6,Gm,Gq,Ll];tactic =>
      try simp only [Uq] at *;try simp only [nc2] at *
      try simp (maxSteps:=4000000) only [hlb,hbest,hb0,hbl,hR,lW,szM,U6]
      repeat' first|with_reducible assumption|with_reducible apply And.intro|intro _|omega|(rw [Uk];omega)
      all_goals first|with_reducible exact okq|omega|trivial|rfl|skip)
    | false =>
    rw [hb0,cond_false] at hR2
    injection hR2 with e1 e2
    injection e2 with e2 e3
    subst e1 e2 e3
    (sym=>simp [hlb,hbest,hb0,hbl,szM,ctx_Order8_t,ctx_Order8_c,ctx_Order8_d,ctx_Order8_b,con_In08.eq_def,con_find8.eq_def,con_least8.eq_def,O4.eq_def,con_ready8.eq_def,Zb,Zc,Ze,Zf,Zg,Zo,Zr,Z1,Z6,Qb,Qd,Qf,Qg,Qh,Qs,Qu,Qv,Qw,Qx,Q1,Q4,Q5,Q6,Q7,Q8,Q9,Ja,Jb,Jc,Je,Jl,Jm,Jn,Js,Jt,Jv,Jw,Jy,Jz,J0,J2,J4,Xe,Xf,Xi,Xj,Xl,Xm,Xn,Xo,Xp,Xr,Xu,Xw,Xx,Xy,X1,X6,X7,X8,X9,Wb,Wd,Wf,Wg,Wi,Wo,Wp,Wr,Wt,Wx,Yc,Yf,Yg,Yn,Yo,Yz,Y0,Y1,Y4,Y9,Va,Vj,Vz,V0,V1,V2,V3,V5,V6,U5,K9,Kh,Gg,G6,Gm,Gq,Ll];tactic =>
     try simp only [Uq] at *;try simp only [nc2] at *
     try simp (maxSteps:=4000000) only [hlb,hbest,hb0,hbl,szM,U6]
     repeat' first|with_reducible assumption|with_reducible apply And.intro|intro _|omega|(rw [Uk];omega)
     all_goals try omega
     refine Kk [12,13,86,87,88,89,90,91,92,93,94,95,96,97,98,99,100,101,102,103,104,105,106,107,108,109,110,111,112,113,114,115] (fun q:Nat×Nat=>[(11,.sl 82 ((outN l q.1).map (enc:Int→D)).length),(85,.d (.int .i64 q.1))]) (fun q:Nat×Nat=>[(82,.row 1 ((outN l q.1).map enc) q.2)]) (fun q:Nat×Nat=>q.1≤l.length∧q.2≤q.1) (fun q:Nat×Nat=>l.length-q.1) (0,0) ?_ ?_ ?_
     ·simp
     ·((try simp only [Ul,U0,Ux,U8,upd,U7,Ki,K0,Nat.reduceDiv,Nat.reduceMod,Nat.reduceMul,Nat.reduceAdd,Nat.reduceEqDiff,aV,aW,if_true,if_false,reduceIte]);(first|refine Wk.of_fl ?_|skip);simp only [Wk,wkK,Ga,wkT,wk1,AV.kept,keptAll,wkO,lk,Uw,and_true,true_and,and_self,Nat.reduceEqDiff,Nat.reduceLeDiff,if_true,if_false,reduceIte,reduceCtorEq,Option.isSome,false_implies];try simp [Wk,wkK,wkT,wk1,AV.kept,keptAll,wkO,lk,Uw,outN])
     clear hlb
     rintro ⟨r,fz⟩ ⟨hr,hfz⟩
     simp only at hr hfz ⊢
     have hol:=outN_len l r
     have hoS:outN l (r+1)=outN l r++[Ta l ((List.range l.length).map (mayB l (outN l r))) l.length]:=rfl
     rcases Kt r l.length with ⟨hrlt,hrb⟩|⟨hrlt,hrb⟩
     ·obtain ⟨o,ho⟩:∃ o,outN l r=o:=⟨_,rfl⟩
      obtain ⟨o2,ho2⟩:∃ o,outN l (r+1)=o:=⟨_,rfl⟩
      rw [ho] at hol
      rw [ho,ho2] at hoS
      rw [ho]
      (sym=>simp [hrb,hol,szM,ctx_Order8_t,Zb,Zc,Ze,Zf,Zo,Z3,Z6,Qd,Qf,Qs,Qu,Qv,Qw,Qx,Ja,Jb,Jl,Jm,Jn,Js,Jt,Jv,Jw,Jx,Jy,Jz,Xi,Xj,Xl,Xm,Xn,Xo,Xr,Xu,Xw,Xx,Xy,Xz,X1,X6,X7,X8,X9,Wo,Wp,Wr,Wt,Wx,W1,Yf,Yg,Yn,Yo,Yp,Yq,Y7,Y9,Va,Vh,Vj,Vy,V0,V1,V2,V3,V5,V6,U5,K9,Kh,Gg,G6,Gm,Gq,Ll];tactic =>
       try simp only [Uq] at *;try simp only [nc2] at *
       try simp (maxSteps:=4000000) only [hrb,hol,szM,U6]
       repeat' first|with_reducible assumption|with_reducible apply And.intro|intro _|omega|(rw [Uk];omega)
       all_goals try omega
       refine Kk [90,91,92,93,94,95,96,97,98,99,100,101,102,103,104,105,106,107,108] (fun q:Nat×Nat=>[(13,.d (.int .i64 q.1))]) (fun q:Nat×Nat=>[(82,.row 1 (o.map enc) q.2),(89,.row 1 ((fillN (mayB l o) l.length q.1).map enc) 0)]) (fun q:Nat×Nat=>q.1≤l.length∧q.2≤r) (fun q:Nat×Nat=>l.length-q.1) (0,fz) ?_ ?_ ?_
       ·simp
        omega
       ·((try simp only [Ul,U0,Ux,U8,upd,U7,Ki,K0,Nat.reduceDiv,Nat.reduceMod,Nat.reduceMul,Nat.reduceAdd,Nat.reduceEqDiff,aV,aW,if_true,if_false,reduceIte]);(first|refine Wk.of_fl ?_|skip);simp only [Wk,wkK,Ga,wkT,wk1,AV.kept,keptAll,wkO,lk,Uw,and_true,true_and,and_self,Nat.reduceEqDiff,Nat.reduceLeDiff,if_true,if_false,reduceIte,reduceCtorEq,Option.isSome,false_implies];try simp [Wk,wkK,wkT,wk1,AV.kept,keptAll,wkO,lk,Uw,fillN,List.map_replicate])
       rintro ⟨k,gz⟩ ⟨hk,hgz⟩
       simp only at hk hgz ⊢
       have hbl:=fillN_len (mayB l o) l.length k
       have hS:fillN (mayB l o) l.length (k+1)=(fillN (mayB l o) l.length k).set k (!inB o (k:Int)&&readyB l (k:Int) o):=rfl
       rcases Kt k l.length with ⟨hlt,hlb⟩|⟨hlt,hlb⟩
       ·obtain ⟨b,hb⟩:∃ b,fillN (mayB l o) l.length k=b:=⟨_,rfl⟩
        rw [hb] at hbl hS ⊢
        have q3:=K7 false (show k<b.length by omega)
        obtain ⟨c2,hcd⟩:∃ c1,b.getD k false=c1:=⟨_,rfl⟩
        rw [hcd] at q3
        have hms:∀ v,(b.map (enc:Bool→D)).set k (.bool v)=(b.set k v).map enc:=fun v=>by rw [List.map_set];rfl
        cases hin:inB o (k:Int) with
        | true =>
         rw [hin] at hS
         simp only [Bool.not_true,Bool.false_and] at hS
         have hm1:=hms false
         (sym=>simp [hrb,hlb,hol,hin,q3,hbl,szM,ctx_Order8_t,ctx_Order8_c,ctx_Order8_d,ctx_Order8_b,ctx_Order8_w,con_In08.eq_def,con_find8.eq_def,con_least8.eq_def,O4.eq_def,con_ready8.eq_def,Zb,Zc,Zd,Ze,Zf,Zg,Zo,Zp,Zq,Zt,Zw,Zy,Z6,Qb,Qd,Qe,Qf,Qg,Qh,Qs,Qu,Qv,Qw,Qx,Q1,Q8,Ja,Jb,Jc,Je,Jl,Jm,Jn,Js,Jt,Jv,Jw,Jy,Jz,J2,J4,Xe,Xf,Xi,Xj,Xl,Xm,Xn,Xr,Xu,Xw,Xx,Xy,X6,X7,X8,X9,Wb,Wd,Wf,Wm,Wn,Wo,Wp,Wr,Wt,Wu,Wx,Wy,W1,W3,W8,Yd,Yf,Yg,Yn,Yo,Yx,Y0,Y1,Y2,Y5,Y7,Y9,Va,Vf,Vj,Vk,Vy,Vz,V0,V1,V2,V3,V5,V6,Uj,U5,K9,Kh,Gg,G6,Gm,Gq,Ll];tactic =>
          try simp only [Uq] at *;try simp only [nc2] at *
          try simp (maxSteps:=4000000) only [hrb,hlb,hol,hin,q3,hbl,szM,U6]
          repeat' first|with_reducible assumption|with_reducible apply And.intro|intro _|omega|(rw [Uk];omega)
          all_goals first|with_reducible exact okq|omega|exact ⟨(k+1,r),by simp only [hS,←hm1];exact wkq,by simp only;omega,by simp only;omega,by simp only;omega⟩|skip)
        | false =>
         rw [hin] at hS
         simp only [Bool.not_false,Bool.true_and] at hS
         obtain ⟨v,hv⟩:∃ v,readyB l (k:Int) o=v:=⟨_,rfl⟩
         rw [hv] at hS
         have hm1:=hms v
         (sym=>simp [hrb,hlb,hol,hin,hv,q3,hbl,szM,ctx_Order8_t,ctx_Order8_c,ctx_Order8_d,ctx_Order8_b,ctx_Order8_w,con_In08.eq_def,con_find8.eq_def,con_least8.eq_def,O4.eq_def,con_ready8.eq_def,Zb,Zc,Zd,Ze,Zf,Zg,Zo,Zp,Zq,Zt,Zw,Zy,Z6,Qb,Qd,Qe,Qf,Qg,Qh,Qs,Qu,Qv,Qw,Qx,Q1,Q8,Ja,Jb,Jc,Je,Jl,Jm,Jn,Js,Jt,Jv,Jw,Jy,Jz,J2,J4,Xe,Xf,Xi,Xj,Xl,Xm,Xn,Xr,Xu,Xw,Xx,Xy,X6,X7,X8,X9,Wb,Wd,Wf,Wm,Wn,Wo,Wp,Wr,Wt,Wu,Wx,Wy,W1,W3,W8,Yd,Yf,Yg,Yn,Yo,Yx,Yz,Y0,Y1,Y2,Y4,Y6,Y7,Y9,Va,Vf,Vj,Vk,Vy,V0,V1,V2,V3,V5,V6,Uj,U5,K9,Kh,Gg,G6,Gm,Gq,Ll];tactic =>
          try simp only [Uq] at *;try simp only [nc2] at *
          try simp (maxSteps:=4000000) only [hrb,hlb,hol,hin,hv,q3,hbl,szM,U6]
          repeat' first|with_reducible assumption|with_reducible apply And.intro|intro _|omega|(rw [Uk];omega)
          all_goals first|with_reducible exact okq|omega|exact ⟨(k+1,r),by simp only [hS,←hm1];exact wkq,by simp only;omega,by simp only;omega,by simp only;omega⟩|skip)
       ·have hkl2:k=l.length:=by omega
        rw [hkl2,fillN_all] at hbl
        rw [hkl2] at hlb
        rw [hkl2,fillN_all]
        obtain ⟨my,hmy⟩:∃ my,(List.range l.length).map (mayB l o)=my:=⟨_,rfl⟩
        rw [hmy] at hbl hoS ⊢
        obtain ⟨z,hz⟩:∃ z,Ta l my l.length=z:=⟨_,rfl⟩
        rw [hz] at hoS
        (sym=>simp [hrb,hlb,hol,hbl,hz,szM,ctx_Order8_t,ctx_Order8_c,ctx_Order8_d,ctx_Order8_b,ctx_Order8_w,con_In08.eq_def,con_find8.eq_def,con_least8.eq_def,O4.eq_def,con_ready8.eq_def,Zb,Zc,Ze,Zf,Zg,Zo,Zr,Z1,Z4,Z5,Z6,Qb,Qd,Qf,Qg,Qh,Qs,Qu,Qv,Qw,Qx,Q1,Q4,Q5,Q6,Q7,Q8,Q9,Ja,Jb,Jc,Je,Jl,Jm,Jn,Js,Jt,Ju,Jv,Jw,Jx,Jy,Jz,J0,J1,J2,J4,Xe,Xf,Xj,Xl,Xm,Xp,Xr,Xu,Xw,Xx,Xy,Xz,X1,X6,X7,X8,X9,Wb,Wd,Wf,Wg,Wh,Wi,Wj,Wl,Wo,Wp,Wr,Wt,Wx,W2,Yc,Yf,Yg,Yn,Yo,Yp,Yq,Yz,Y0,Y1,Y4,Y9,Va,Vi,Vj,Vo,Vz,V0,V1,V2,V3,V5,V6,U5,K9,Kh,Gg,G6,Gm,Gq,Ll];tactic =>
         try simp only [Uq] at *;try simp only [nc2] at *
         try simp (maxSteps:=4000000) only [hrb,hlb,hol,hbl,hz,szM,U6]
         repeat' first|with_reducible assumption|with_reducible apply And.intro|intro _|omega|(rw [Uk];omega)
         all_goals first|with_reducible exact okq|omega|exact ⟨(r+1,gz),by simp only [ho2,hoS];((try simp only [Ul,U0,Ux,U8,upd,U7,Ki,K0,Nat.reduceDiv,Nat.reduceMod,Nat.reduceMul,Nat.reduceAdd,Nat.reduceEqDiff,aV,aW,if_true,if_false,reduceIte]);(first|refine Wk.of_fl ?_|skip);simp only [Wk,wkK,Ga,wkT,wk1,AV.kept,keptAll,wkO,lk,Uw,and_true,true_and,and_self,Nat.reduceEqDiff,Nat.reduceLeDiff,if_true,if_false,reduceIte,reduceCtorEq,Option.isSome,false_implies];try simp [Wk,wkK,wkT,wk1,AV.kept,keptAll,wkO,lk,Uw,List.map_append,bY]);exact hol.symm,by simp only;omega,by simp only;omega,by simp only;omega⟩|skip))
     ·have hrl:r=l.length:=by omega
      rw [hrl] at hrb ⊢
      (sym=>simp [hrb,hR,lW,szM,ctx_Order8_t,ctx_Order8_d,Zb,Zc,Ze,Zf,Zg,Qd,Qf,Qp,Qq,Qr,Qs,Qu,Qv,Qw,Qx,Q1,Ja,Jb,Jd,Jl,Jm,Jn,Js,Jt,Ju,Jv,Jw,Jx,Jy,Jz,J2,J4,Xj,Xl,Xm,Xp,Xq,Xr,Xu,Xw,Xx,X6,X7,X8,X9,Wc,Wf,Wo,Wp,Wr,Wt,Wx,Yc,Yn,Yo,Yp,Yq,Yz,Y9,Va,Vj,Vz,V0,V1,V2,V3,V5,V6,U5,K9,Kh,Gg,G6,Gm,Gq,Ll];tactic =>
       try simp only [Uq] at *;try simp only [nc2] at *
       try simp (maxSteps:=4000000) only [hrb,hR,lW,szM,U6]
       repeat' first|with_reducible assumption|with_reducible apply And.intro|intro _|omega|(rw [Uk];omega)
       all_goals first|trivial|rfl|skip)))))
def Succ (l:List Mod) (k j:Nat):Prop:=∃ s∈imp l k,To l s=some j
inductive Path (l:List Mod):Nat→Nat→Prop
 | one {k j:Nat}:Succ l k j→Path l k j
 | more {k j n:Nat}:Succ l k j→Path l j n→Path l k n
theorem succ_lt {l:List Mod} {k j:Nat} (h:Succ l k j):k<l.length∧j<l.length:=by
 obtain ⟨s,hs,hj⟩:=h
 refine ⟨?_,findR_lt hj⟩
 rcases Nat.lt_or_ge k l.length with h|h
 ·exact h
 ·unfold imp at hs
  rw [aY,List.getElem?_eq_none h] at hs
  cases hs
theorem path_lt {l:List Mod} {k j:Nat} (h:Path l k j):k<l.length∧j<l.length:=by
 induction h with
 | one h=>exact succ_lt h
 | more h _ ih=>exact ⟨(succ_lt h).1,ih.2⟩
theorem Path.trans {l:List Mod} {a b c:Nat} (h:Path l a b) (k:Path l b c):Path l a c:=by
 induction h with
 | one h=>exact .more h k
 | more h _ ih=>exact .more h (ih k)
theorem Path.snoc {l:List Mod} {a b c:Nat} (h:Path l a b) (k:Succ l b c):Path l a c:=h.trans (.one k)
theorem path_closed {l:List Mod} {M:Nat→Prop} (hM:∀ k j,M k→Succ l k j→M j) {i k:Nat} (h:Path l i k) (h1:∀ j,Succ l i j→M j):M k:=by
 induction h with
 | one h=>exact h1 _ h
 | more h _ ih=>exact ih fun j hj=>hM _ _ (h1 _ h) hj
theorem getD_set {b:List Bool} {n k:Nat} (hn:n<b.length):(b.set n true).getD k false=(b.getD k false||(n==k)):=by
 rw [aY,List.getElem?_set,aY]
 by_cases h:n=k
 ·subst h
  simp [hn]
 ·rw [if_neg h]
  have:(n==k)=false:=by rw [aQ];exact h
  rw [this,Bool.or_false]
theorem mk1_at {l:List Mod} {b:List Bool} (hb:b.length=l.length) (s:List UInt8) (k:Nat):(mk1 l b s).getD k false=true↔b.getD k false=true∨To l s=some k:=by
 unfold mk1
 cases h:To l s with
 | none=>simp
 | some n =>
  have:=findR_lt h
  simp only
  rw [getD_set (by omega),Bool.or_eq_true,cQ]
  simp
theorem marks_at {l:List Mod}:∀ {ss:List (List UInt8)} {b:List Bool} (_:b.length=l.length) (k:Nat),(I3 l b ss).getD k false=true↔b.getD k false=true∨∃ s∈ss,To l s=some k
 | [],b,hb,k=>by simp [I3]
 | s::ss,b,hb,k=>by
  show (I3 l (mk1 l b s) ss).getD k false=true↔_
  rw [marks_at (by rw [mk1_len,hb]) k,mk1_at hb]
  simp only [bQ,exists_eq_or_imp,or_assoc]
theorem sweep1_at {l:List Mod} {i:Nat} {b:List Bool} (hb:b.length=l.length) (k j:Nat) :
  (sweep1 l i b k).getD j false=true↔b.getD j false=true∨((k=i∨b.getD k false=true)∧Succ l k j):=by
 unfold sweep1
 cases hc:(((k:Int) != (i:Int))&&!b.getD k false) with
 | true =>
  rw [cond_true]
  rw [bX,Bool.not_eq_true',bne_iff_ne] at hc
  constructor
  ·exact .inl
  ·rintro (h|⟨h|h,_⟩)
   ·exact h
   ·exact absurd (by rw [h]) hc.1
   ·rw [hc.2] at h;cases h
 | false =>
  rw [cond_false,marks_at hb]
  rw [Bool.and_eq_false_iff,bne_eq_false_iff_eq,Bool.not_eq_false'] at hc
  have h1:k=i∨b.getD k false=true:=by
   rcases hc with h|h
   ·exact .inl (by omega)
   ·exact .inr h
  constructor
  ·rintro (h|h)
   ·exact .inl h
   ·exact .inr ⟨h1,h⟩
  ·rintro (h|⟨_,h⟩)
   ·exact .inl h
   ·exact .inr h
theorem sweepN_mono {l:List Mod} {i:Nat} {b:List Bool} (hb:b.length=l.length):∀ n j,b.getD j false=true→(Ck l i b n).getD j false=true
 | 0,_,h=>h
 | n+1,j,h=>by
  rw [Ck,sweep1_at (by rw [R7,hb])]
  exact .inl (sweepN_mono hb n j h)
theorem sweepN_succ {l:List Mod} {i:Nat} {b:List Bool} (hb:b.length=l.length):∀ n k j,k<n→(k=i∨b.getD k false=true)→Succ l k j→(Ck l i b n).getD j false=true
 | 0,_,_,h,_,_=>by omega
 | n+1,k,j,h,hk,hs=>by
  rw [Ck,sweep1_at (by rw [R7,hb])]
  by_cases e:k=n
  ·subst e
   refine .inr ⟨?_,hs⟩
   rcases hk with h|h
   ·exact .inl h
   ·exact .inr (sweepN_mono hb k k h)
  ·exact .inl (sweepN_succ hb n k j (by omega) hk hs)
theorem sweepN_sound {l:List Mod} {i:Nat} {b:List Bool} (hb:b.length=l.length) (h0:∀ k,b.getD k false=true→Path l i k):∀ n k,(Ck l i b n).getD k false=true→Path l i k
 | 0,k,h=>h0 k h
 | n+1,j,h=>by
  rw [Ck,sweep1_at (by rw [R7,hb])] at h
  rcases h with h|⟨h|h,hs⟩
  ·exact sweepN_sound hb h0 n j h
  ·subst h;exact .one hs
  ·exact (sweepN_sound hb h0 n n h).snoc hs
theorem rounds_sound {l:List Mod} {i:Nat}:∀ r k,(Pr l i r).getD k false=true→Path l i k
 | 0,k,h=>by
  have:(List.replicate l.length false).getD k false=false:=by
   rw [aY,List.getElem?_replicate]
   split<;>rfl
  change (List.replicate l.length false).getD k false=true at h
  rw [this] at h
  cases h
 | r+1,k,h=>sweepN_sound (Bz r) (fun k=>rounds_sound r k) l.length k h
theorem cnt_lt:∀ {b c:List Bool},b.length=c.length→(∀ k,b.getD k false=true→c.getD k false=true)→b=c∨b.countP id<c.countP id
 | [],[],_,_=>.inl rfl
 | [],_::_,h,_=>by simp at h
 | _::_,[],h,_=>by simp at h
 | x::b,y::c,h,hm=>by
  have h0:=hm 0
  simp only [List.getD_cons_zero] at h0
  have ih:=cnt_lt (b:=b) (c:=c) (by simpa using h) (fun k=>by simpa using hm (k+1))
  rcases ih with e|e
  ·subst e
   cases x with
   | true=>rw [h0 rfl];exact .inl rfl
   | false =>
    cases y with
    | false=>exact .inl rfl
    | true=>right;simp
  ·right
   cases x with
   | true=>rw [h0 rfl];simpa using e
   | false=>cases y<;>simp<;>omega
theorem rounds_step {l:List Mod} {i:Nat} (r:Nat):Pr l i r=Pr l i (r+1)∨(Pr l i r).countP id<(Pr l i (r+1)).countP id :=
 cnt_lt (by rw [Bz,Bz]) fun k h=>sweepN_mono (Bz r) _ k h
theorem rounds_stay {l:List Mod} {i:Nat} {r:Nat} (h:Pr l i r=Pr l i (r+1)):∀ k,Pr l i (r+k)=Pr l i r
 | 0=>rfl
 | k+1=>by
  show Pr l i ((r+k)+1)=_
  rw [Pr,rounds_stay h k]
  exact h.symm
theorem rounds_still {l:List Mod} {i:Nat}:∀ r,(∃ q,q<r∧Pr l i q=Pr l i (q+1))∨r≤(Pr l i r).countP id
 | 0=>.inr (Nat.zero_le _)
 | r+1=>by
  rcases rounds_still r with ⟨q,h1,h2⟩|h
  ·exact .inl ⟨q,by omega,h2⟩
  ·rcases rounds_step (l:=l) (i:=i) r with e|e
   ·exact .inl ⟨r,by omega,e⟩
   ·exact .inr (by omega)
theorem reached_closed {l:List Mod} {i:Nat}:∀ k j,(k=i∨(N8 l i).getD k false=true)→Succ l k j→(N8 l i).getD j false=true:=by
 have hst:N8 l i=Pr l i (l.length+1+1):=by
  rcases rounds_still (l:=l) (i:=i) (l.length+1) with ⟨q,h1,h2⟩|h
  ·have e1:=rounds_stay h2 (l.length+1-q)
   have e2:=rounds_stay h2 (l.length+1+1-q)
   rw [show q+(l.length+1-q)=l.length+1 by omega] at e1
   rw [show q+(l.length+1+1-q)=l.length+1+1 by omega] at e2
   unfold N8
   rw [e1,e2]
  ·have h3:=List.countP_le_length (p:=id) (l:=Pr l i (l.length+1))
   have h4:=Bz (l:=l) (i:=i) (l.length+1)
   omega
 intro k j hk hs
 rw [hst]
 exact sweepN_succ (Bz _) l.length k j (succ_lt hs).1 hk hs
theorem Df {l:List Mod} {i k:Nat}:(N8 l i).getD k false=true↔Path l i k :=
 ⟨fun h=>rounds_sound _ k h,fun h=>path_closed (M:=fun k=>(N8 l i).getD k false=true) (fun k j hk hs=>reached_closed k j (.inr hk) hs) h fun j hj=>reached_closed i j (.inl rfl) hj⟩
theorem less_iff {x y:List UInt8}:Op.bytesLess x y=true↔x<y:=by rw [bytesLess_eq,decide_eq_true_eq]
theorem less_not {x y:List UInt8}:Op.bytesLess x y=false↔y≤x:=by
 rw [bytesLess_eq,decide_eq_false_iff_not,List.not_lt]
theorem findR_nm:∀ {l:List Mod} {s:List UInt8} {k:Nat},To l s=some k→nm l k=s
 | [],s,k,h=>by simp [To] at h
 | m::l,s,k,h=>by
  rw [To] at h
  by_cases hm:m.name=s
  ·rw [if_pos hm] at h
   injection h with h
   subst h
   exact hm
  ·rw [if_neg hm] at h
   cases hf:To l s with
   | none=>rw [hf] at h;cases h
   | some j =>
    rw [hf] at h
    simp only [Option.map_some,aZ] at h
    subst h
    have:=findR_nm hf
    simpa [nm] using this
theorem findR_le:∀ {l:List Mod} {k:Nat},k<l.length→∃ j,To l (nm l k)=some j∧j≤k
 | [],k,h=>by simp at h
 | m::l,0,_=>⟨0,by simp [To,nm],cZ _⟩
 | m::l,k+1,h=>by
  by_cases hm:m.name=nm (m::l) (k+1)
  ·exact ⟨0,by rw [To,if_pos hm],Nat.zero_le _⟩
  ·obtain ⟨j,h1,h2⟩:=findR_le (l:=l) (k:=k) (by simpa using h)
   have e:nm (m::l) (k+1)=nm l k:=by simp [nm]
   rw [e] at hm ⊢
   exact ⟨j+1,by rw [To,if_neg hm,h1];rfl,by omega⟩
def Uniq (l:List Mod):Prop:=∀ k,k<l.length→To l (nm l k)=some k
def Full (l:List Mod):Prop:=∀ k,k<l.length→∀ s∈imp l k,∃ j,To l s=some j
theorem uniq_inj {l:List Mod} (h:Uniq l) {a b:Nat} (ha:a<l.length) (hb:b<l.length) (e:nm l a=nm l b):a=b:=by
 have h1:=h a ha
 rw [e,h b hb] at h1
 injection h1 with h1
 exact h1.symm
theorem uniq_iff {l:List Mod}:(List.range l.length).find? (dupB l)=none↔Uniq l:=by
 rw [List.find?_eq_none]
 constructor
 ·intro h k hk
  obtain ⟨j,h1,h2⟩:=findR_le hk
  have:=h k (List.mem_range.2 hk)
  rw [Bool.not_eq_true] at this
  unfold dupB B0 at this
  rw [h1] at this
  simp only at this
  rw [Hm] at this
  rw [h1,show j=k by omega]
 ·intro h k hk
  rw [List.mem_range] at hk
  unfold dupB B0
  rw [h k hk]
  simp only
  rw [Hf]
  omega
theorem full_iff {l:List Mod}:(List.range l.length).find? (lackB l)=none↔Full l:=by
 rw [List.find?_eq_none]
 constructor
 ·intro h k hk s hs
  have:=h k (List.mem_range.2 hk)
  rw [Bool.not_eq_true] at this
  unfold lackB at this
  rw [List.any_eq_false] at this
  have:=this s hs
  rw [Bool.not_eq_true] at this
  unfold B0 at this
  cases hf:To l s with
  | none=>rw [hf] at this;cases this
  | some j=>exact ⟨j,rfl⟩
 ·intro h k hk
  rw [List.mem_range] at hk
  rw [Bool.not_eq_true]
  unfold lackB
  rw [List.any_eq_false]
  intro s hs
  obtain ⟨j,hj⟩:=h k hk s hs
  unfold B0
  rw [hj]
  simp only
  rw [Hf]
  omega
theorem best_spec {l:List Mod} {is:List Bool}:∀ n,(Ta l is n=-1∧∀ j,j<n→is.getD j false=false) ∨
  ∃ k:Nat,Ta l is n=k∧k<n∧is.getD k false=true∧∀ j,j<n→is.getD j false=true→nm l k≤nm l j
 | 0=>.inl ⟨rfl,fun j hj=>by omega⟩
 | n+1=>by
  rw [Ta]
  rcases best_spec (l:=l) (is:=is) n with ⟨h,hno⟩|⟨k,h,hk,his,hle⟩
  ·rw [h]
   cases hn:is.getD n false with
   | false =>
    rw [Bool.false_and,cond_false]
    exact .inl ⟨rfl,upTo hno hn⟩
   | true =>
    right
    refine ⟨n,rfl,by omega,hn,fun j hj hj2=>?_⟩
    by_cases e:j=n
    ·subst e;exact List.le_refl _
    ·rw [hno j (by omega)] at hj2;cases hj2
  ·rw [h,aX,show ltB (k:Int) 0=false by rw [Hm];omega,Bool.false_or]
   cases hn:is.getD n false with
   | false =>
    rw [Bool.false_and,cond_false]
    refine .inr ⟨k,rfl,by omega,his,fun j hj hj2=>?_⟩
    by_cases e:j=n
    ·subst e;rw [hn] at hj2;cases hj2
    ·exact hle j (by omega) hj2
   | true =>
    rw [Bool.true_and]
    cases hb:Op.bytesLess (nm l n) (nm l k) with
    | true =>
     rw [cond_true]
     rw [less_iff] at hb
     refine .inr ⟨n,rfl,by omega,hn,fun j hj hj2=>?_⟩
     by_cases e:j=n
     ·subst e;exact List.le_refl _
     ·exact List.le_trans (List.le_of_lt hb) (hle j (by omega) hj2)
    | false =>
     rw [cond_false]
     rw [less_not] at hb
     refine .inr ⟨k,rfl,by omega,his,fun j hj hj2=>?_⟩
     by_cases e:j=n
     ·subst e;exact hb
     ·exact hle j (by omega) hj2
def Cyc (l:List Mod):Prop:=∃ k,Path l k k
theorem progress {l:List Mod} (hU:Uniq l) (hF:Full l) (hA:¬ Cyc l) {C:List (List UInt8)}:∀ n k,k<l.length→(N8 l k).countP id≤n→nm l k∉C→∃ j,j<l.length∧(nm l j∉C∧∀ s∈imp l j,s∈C):=by
 intro n
 induction n with
 | zero =>
  intro k hk hn hC
  by_cases h:∀ s∈imp l k,s∈C
  ·exact ⟨k,hk,⟨hC,h⟩⟩
  ·obtain ⟨s,h2⟩:=Classical.not_forall.1 h
   obtain ⟨hs,hsC⟩:=Classical.not_imp.1 h2
   obtain ⟨j,hj⟩:=hF k hk s hs
   have h1:(N8 l k).getD j false=true:=Df.2 (.one ⟨s,hs,hj⟩)
   have h0:(N8 l k).countP id=0:=by omega
   rw [List.countP_eq_zero] at h0
   have hjl:j<(N8 l k).length:=by have:(N8 l k).length=l.length:=Bz _;rw [this];exact findR_lt hj
   have:=h0 _ (List.getElem_mem hjl)
   rw [aY,aK hjl] at h1
   exact absurd h1 this
 | succ n ih =>
  intro k hk hn hC
  by_cases h:∀ s∈imp l k,s∈C
  ·exact ⟨k,hk,⟨hC,h⟩⟩
  ·obtain ⟨s,h2⟩:=Classical.not_forall.1 h
   obtain ⟨hs,hsC⟩:=Classical.not_imp.1 h2
   obtain ⟨j,hj⟩:=hF k hk s hs
   have hkj:Succ l k j:=⟨s,hs,hj⟩
   have hjl:=findR_lt hj
   refine ih j hjl ?_ (by rw [findR_nm hj];exact hsC)
   have l1:(N8 l j).length=l.length:=Bz _
   have l2:(N8 l k).length=l.length:=Bz _
   rcases cnt_lt (b:=N8 l j) (c:=N8 l k) (by rw [l1,l2]) (fun x hx=>Df.2 (.more hkj (Df.1 hx))) with e|e
   ·have h1:(N8 l k).getD j false=true:=Df.2 (.one hkj)
    rw [←e,Df] at h1
    exact absurd ⟨j,h1⟩ hA
   ·omega
theorem inB_iff {l:List Int} {n:Int}:inB l n=true↔n∈l:=by
 unfold inB
 rw [List.any_eq_true]
 exact ⟨fun ⟨x,h1,h2⟩=>by rw [cQ] at h2;exact h2▸h1,fun h=>⟨n,h,by simp⟩⟩
theorem map_getD {f:Nat→Bool} {n k:Nat} (h:k<n):((List.range n).map f).getD k false=f k:=by
 rw [aY]
 simp [h]
theorem best_cyc {l:List Mod} (hl:l.length≤20):leB 0 (Ta l ((List.range l.length).map (cycB l)) l.length)=true↔Cyc l:=by
 rw [G4]
 rcases best_spec (l:=l) (is:=(List.range l.length).map (cycB l)) l.length with ⟨h,hno⟩|⟨k,h,hk,his,_⟩
 ·rw [h]
  refine ⟨fun h=>by omega,fun ⟨k,hk⟩=>?_⟩
  have hkl:=(path_lt hk).1
  have:=hno k hkl
  rw [map_getD hkl] at this
  have h2:(N8 l k).getD k false=true:=Df.2 hk
  change (N8 l k).getD k false=false at this
  rw [h2] at this
  cases this
 ·rw [h]
  refine ⟨fun _=>⟨k,?_⟩,fun _=>by omega⟩
  rw [map_getD hk] at his
  exact Df.1 his
theorem all_in:∀ (n:Nat) (O:List Int),(∀ k:Nat,k<n→(k:Int)∈O)→n≤O.length
 | 0,O,_=>Nat.zero_le _
 | n+1,O,h=>by
  have h0:=h n (by omega)
  have h1:=all_in n (O.erase n) fun k hk=>(List.mem_erase_of_ne (by omega)).2 (h k (by omega))
  rw [List.length_erase_of_mem h0] at h1
  have:0<O.length:=List.length_pos_of_mem h0
  omega
theorem outN_in {l:List Mod} (hU:Uniq l) (hF:Full l) (hA:¬ Cyc l):∀ r,r≤l.length→∀ x∈outN l r,∃ k:Nat,x=k∧k<l.length
 | 0,_,x,hx=>by simp [outN] at hx
 | r+1,hr,x,hx=>by
  have ih:=outN_in hU hF hA r (by omega)
  rw [outN] at hx
  rcases List.mem_append.1 hx with hx|hx
  ·exact ih x hx
  rw [bW] at hx
  obtain ⟨O,hO⟩:∃ O,outN l r=O:=⟨_,rfl⟩
  have hlen:=outN_len l r
  rw [hO] at ih hx hlen
  have hex:∃ k:Nat,k<l.length∧(k:Int)∉O:=Classical.byContradiction fun hn=>by
   have:=all_in l.length O fun k hk=>Classical.byContradiction fun h=>hn ⟨k,hk,h⟩
   omega
  obtain ⟨k,hk,hkO⟩:=hex
  have hkC:nm l k∉O.map fun x=>nm l x.toNat:=fun h=>by
   obtain ⟨y,hy,he⟩:=List.mem_map.1 h
   obtain ⟨k',rfl,hk'⟩:=ih y hy
   rw [aX] at he
   have:=uniq_inj hU hk' hk he
   exact hkO (this▸hy)
  obtain ⟨j,hj,h1,h2⟩:=progress hU hF hA (C:=O.map fun x=>nm l x.toNat) _ k hk (cZ _) hkC
  have hmay:mayB l O j=true:=by
   unfold mayB
   rw [bX,Bool.not_eq_true']
   refine ⟨?_,?_⟩
   ·rw [←Bool.not_eq_true,inB_iff]
    exact fun h=>h1 (List.mem_map.2 ⟨_,h,by rw [aX]⟩)
   ·unfold readyB
    rw [aX,List.all_eq_true]
    intro s hs
    obtain ⟨y,hy,he⟩:=List.mem_map.1 (h2 s hs)
    obtain ⟨k',rfl,hk'⟩:=ih y hy
    rw [aX] at he
    rw [inB_iff,←he,B0,hU k' hk']
    exact hy
  rcases best_spec (l:=l) (is:=(List.range l.length).map (mayB l O)) l.length with ⟨_,hno⟩|⟨k',h,hk',_,_⟩
  ·have:=hno j hj
   rw [map_getD hj,hmay] at this
   cases this
  ·exact ⟨k',by rw [hx,h],hk'⟩
theorem order8_in {l:List Mod} (h20:l.length≤20):∀ x∈(order8 l).1.l,∃ k:Nat,x=k∧k<l.length:=by
 intro x hx
 unfold order8 at hx
 split at hx
 ·cases hx
 rename_i hu
 split at hx
 ·cases hx
 rename_i hf
 cases hc:leB 0 (Ta l ((List.range l.length).map (cycB l)) l.length) with
 | true =>
  rw [hc] at hx
  cases hx
 | false =>
  rw [hc] at hx
  have hA:¬ Cyc l:=fun h=>by
   rw [(best_cyc h20).2 h] at hc
   cases hc
  exact outN_in (uniq_iff.1 hu) (full_iff.1 hf) hA l.length (cZ _) x hx
end Go.Am.Ty.Gr
namespace Go.Am.Ty
open Go.Proofs Gr
open Enc (enc dec)
structure Tx9 where
 names:List (List UInt8)
 texts:List (List UInt8)
 deriving DecidableEq
instance encTx9:Enc Tx9:=⟨fun a=>.agg [.list 1 (a.names.map enc),.list 1 (a.texts.map enc)],fun x=>match x with
 | .agg [a,b]=>⟨a.l.map dec,b.l.map dec⟩
 | _=>⟨[],[]⟩,fun a=>by
  have h:∀ l:List (List UInt8),(l.map (enc:List UInt8→D)).map dec=l:=fun l=>Pf
  cases a
  simp [D.l,h]⟩
theorem Hi {a b:List (List UInt8)}:(enc (Tx9.mk a b):D)=.agg [.list 1 (a.map enc),.list 1 (b.map enc)]:=rfl
theorem Hj {a b:List (List UInt8)}:(dec (.agg [.list 1 (a.map enc),.list 1 (b.map enc)]):Tx9)=⟨a,b⟩:=Enc.dec_enc (Tx9.mk a b)
theorem Hh {a b:List (List UInt8)}:isE Tx9 (.agg [.list 1 (a.map enc),.list 1 (b.map enc)])=True:=eq_true (Cp (Tx9.mk a b))
structure Good9 (m:Mod6):Prop where
 name:m.name.length≤50
 short:∀ x∈m.imps,x.length≤1000000
 ilen:m.imps.length≤1502
 dlen:m.defs.length≤200
 fit:∀ d∈m.defs,FitD d
 ok:∀ d∈m.defs,d.t≠[]∧L4 d.t=true∧d.e≠[]
 right:∀ d∈m.defs,Eo d.e=true
 slen:m.sites.length≤1501
 cnt:∀ z,defsW z m.defs=if 1≤z∧z<(m.sites.length:Int)+1 then 1 else 0
theorem parse6_good {name text:List UInt8} (hn:name.length≤50) (ht:text.length≤1500) (h:(parse6 name text).2.2=0):Good9 (parse6 name text).1:=by
 obtain ⟨hT,hTl⟩:=toks2_few ht
 unfold parse6 at h ⊢
 simp only at h ⊢
 split at h
 ·exact absurd h (by assumption)
 rename_i h1
 rw [if_neg h1]
 split at h
 ·exact absurd h (by assumption)
 rename_i h2
 rw [if_neg h2]
 split at h
 ·exact absurd h (by show ¬ (4:Int)=0;decide)
 rename_i h3
 rw [if_neg h3]
 obtain ⟨_,_,_,hok⟩:=module6_ok hT name
 obtain ⟨hM,_,_⟩:=hok (by simpa using h2)
 refine ⟨by show (Sj (F9 text).1 name).1.name.length≤50;rw [hM.name];exact hn,hM.short,by have:=hM.ilen;show (Sj (F9 text).1 name).1.imps.length≤1502;omega,hM.dlen,hM.fit,hM.ok,fun d hd=>?_,by have:=hM.slen;show (Sj (F9 text).1 name).1.sites.length≤1501;omega,hM.cnt⟩
 refine Classical.byContradiction fun hr=>h3 ?_
 unfold badL
 rw [List.findIdx_lt_length]
 exact ⟨d,hd,by simpa using hr⟩
def readL:List (List UInt8)→List (List UInt8)→List Mod6→List Mod6×Bool
 | n::ns,t::ts,out=>if 50<n.length∨1500<t.length then ([],false) else if (parse6 n t).2.2≠0 then ([],false) else readL ns ts (out++[(parse6 n t).1])
 | _,_,out=>(out,true)
def read9 (t:Tx9):List Mod6×Bool:=if t.names.length≠t.texts.length∨6<t.names.length then ([],false) else readL t.names t.texts []
theorem readL_good:∀ (ns ts:List (List UInt8)) (out:List Mod6),(∀ m∈out,Good9 m)→∀ m∈(readL ns ts out).1,Good9 m
 | [],_,out,h=>by rw [readL];exact h;intro a b c d e;cases e
 | _::_,[],out,h=>by rw [readL];exact h;intro a b c d e f;cases f
 | n::ns,t::ts,out,h=>by
  rw [readL]
  split
  ·intro m hm;cases hm
  rename_i h1
  split
  ·intro m hm;cases hm
  rename_i h2
  refine readL_good ns ts _ fun m hm=>?_
  rcases List.mem_append.1 hm with hm|hm
  ·exact h m hm
  ·rw [bW] at hm
   subst hm
   exact parse6_good (by omega) (by omega) (by simpa using h2)
theorem readL_len:∀ (ns ts:List (List UInt8)) (out:List Mod6),(readL ns ts out).1.length≤out.length+ns.length
 | [],_,out=>by rw [readL];exact Nat.le_add_right _ _;intro a b c d e;cases e
 | _::_,[],out=>by rw [readL];exact Nat.le_add_right _ _;intro a b c d e f;cases f
 | n::ns,t::ts,out=>by
  rw [readL]
  split
  ·simp
  split
  ·simp
  have:=readL_len ns ts (out++[(parse6 n t).1])
  simp only [bY,bJ,List.length_nil] at this ⊢
  omega
structure Goods (l:List Mod6):Prop where
 len:l.length≤6
 good:∀ m∈l,Good9 m
theorem read9_good (t:Tx9):Goods (read9 t).1:=by
 unfold read9
 split
 ·exact ⟨by simp,fun m hm=>(by cases hm)⟩
 ·have:=readL_len t.names t.texts []
  simp only [List.length_nil] at this
  exact ⟨by omega,readL_good _ _ _ fun m hm=>(by cases hm)⟩
theorem Goods.few {l:List Mod6} (h:Goods l):FewM l:=by
 refine ⟨by have:=h.len;omega,fun k=>?_⟩
 show (l.getD k m0).imps.length≤2000
 rcases Nat.lt_or_ge k l.length with hk|hk
 ·rw [aY,aK hk]
  have:=(h.good _ (List.getElem_mem hk)).ilen
  simp only [Option.getD_some]
  omega
 ·rw [aY,List.getElem?_eq_none hk]
  simp [m0]
def C5:Con:=Mf (fun (_:Tx9)=>True) (fun t=>((⟨(read9 t).1⟩,(read9 t).2):Sl Mod6×Bool))
noncomputable def Aq:Ctx:=⟨tab,lkC [(17,S7)],60,lkB [],[],false⟩
theorem Cj:Aq.τ=tab:=rfl
theorem ctx_Read9_c:Aq.Γ=lkC [(17,S7)]:=rfl
theorem Dz:Aq.dp=60:=rfl
theorem ctx_Read9_b:Aq.Δ=lkB []:=rfl
theorem Fz:Aq.cuts=[]:=rfl
theorem ctx_Read9_w:Aq.wr=false:=rfl
set_option maxRecDepth 100000 in
theorem good_Read9:Hg Try.prog (9,C5):=by
 refine ⟨Ke Try.func9 (by kernel_rfl) rfl,?_⟩
 have K:Gu Try.prog Aq:=Ko G7 Kw (by
  intro p hp
  simp only [bQ,bZ,or_false] at hp
  rcases hp with rfl
  ·exact good_Parse6) (by simp)
 obtain ⟨c,hc⟩:∃ c,Try.f9.body=some c:=⟨_,rfl⟩
 refine Kn K Try.func9 hc [.tmp 2,.tmp 3] rfl 68 rfl (fun cvs hpre=>?_)
 change C5.pre cvs at hpre
 unfold C5 at hpre
 obtain ⟨⟨names,texts⟩,rfl,-⟩:=con1t_pre hpre
 clear hpre
 obtain ⟨R,hR⟩:∃ R,read9 ⟨names,texts⟩=R:=⟨_,rfl⟩
 have hR2:=hR
 unfold read9 at hR2
 simp only at hR2
 simp only [Try.f9,aZ] at hc
 subst hc
 refine Gf 4 (of_decide_eq_true (by kernel_rfl)) ?_
 by_cases hlen:names.length=texts.length
 case neg =>
  rw [if_pos (.inl hlen)] at hR2
  have hb:((names.length:Int) != (texts.length:Int))=true:=by rw [bne_iff_ne];omega
  subst hR2
  (sym=>simp [hb,hR,mZ,Hi,Hj,Hh,G8,Cj,Dz,Fz,C5.eq_def,Zb,Zc,Zd,Ze,Zf,Zn,Zo,Zp,Zq,Zr,Zs,Zt,Zu,Zv,Zx,Z1,Z6,Qd,Qf,Qn,Qo,Qp,Qq,Qr,Qs,Qu,Qv,Qw,Qx,Q1,Q4,Q5,Q6,Q7,Q9,Ja,Jb,Jd,Jf,Jj,Jq,Jr,Js,Jt,Jv,Jw,Jy,Jz,J0,J2,J3,J6,J7,Xb,Xj,Xl,Xm,Xq,Xr,Xu,Xw,Xx,Xy,X1,X6,X7,X8,X9,Wc,Wf,Wg,Wh,Wi,Wj,Wl,Wm,Wn,Wo,Wp,Wt,Ww,Wx,W0,W6,Yd,Yn,Yo,Yr,Ys,Yt,Yu,Yv,Yw,Y9,Vk,Vm,Vy,Vz,V0,V1,V3,V5,V6,Ui,U5,Kh,Gg,Ce,G6,Ks,Gm];tactic =>
   try simp only [Uq] at *;try simp only [nc2] at *
   try simp (maxSteps:=4000000) only [hb,hR,mZ,Hi,Hj,Hh,G8,U6]
   repeat' first|with_reducible assumption|with_reducible apply And.intro|intro _|omega|(rw [Uk];omega)
   all_goals first|with_reducible exact okq|omega|rfl|trivial|skip)
 have hb:((names.length:Int) != (texts.length:Int))=false:=by rw [hlen,bne_self_eq_false]
 rcases Dk 6 (names.length:Int) with ⟨h6,h6b⟩|⟨h6,h6b⟩
 ·rw [if_pos (.inr (by omega))] at hR2
  subst hR2
  (sym=>simp [hb,h6b,hR,mZ,Hi,Hj,Hh,G8,Cj,Dz,Fz,C5.eq_def,Zb,Zc,Zd,Ze,Zf,Zn,Zo,Zp,Zq,Zr,Zs,Zt,Zu,Zv,Zx,Z1,Z6,Qd,Qf,Qn,Qo,Qp,Qq,Qr,Qs,Qu,Qv,Qw,Qx,Q1,Q4,Q5,Q6,Q7,Q9,Ja,Jb,Jd,Jf,Jj,Jq,Jr,Js,Jt,Jv,Jw,Jy,Jz,J0,J2,J3,J6,J7,Xb,Xj,Xl,Xm,Xq,Xr,Xu,Xw,Xx,Xy,X1,X6,X7,X8,X9,Wc,Wf,Wg,Wh,Wi,Wj,Wl,Wm,Wn,Wo,Wp,Wt,Ww,Wx,W0,W6,Yd,Yn,Yo,Yr,Ys,Yt,Yu,Yv,Yw,Y9,Vj,Vk,Vm,Vy,Vz,V0,V1,V3,V5,V6,Ui,U5,Kh,Gg,Ce,G6,Ks,Gm];tactic =>
   try simp only [Uq] at *;try simp only [nc2] at *
   try simp (maxSteps:=4000000) only [hb,h6b,hR,mZ,Hi,Hj,Hh,G8,U6]
   repeat' first|with_reducible assumption|with_reducible apply And.intro|intro _|omega|(rw [Uk];omega)
   all_goals first|with_reducible exact okq|omega|rfl|trivial|skip)
 rw [if_neg (by omega)] at hR2
 (sym=>simp [hb,h6b,mZ,Hi,Hj,Hh,G8,Cj,Fz,C5.eq_def,Zb,Zc,Zd,Ze,Zf,Zn,Zo,Zp,Zq,Zr,Zs,Zt,Zu,Zv,Zx,Z1,Z6,Qd,Qf,Qn,Qo,Qs,Qu,Qv,Qw,Qx,Q4,Q5,Q6,Q7,Q9,Ja,Jb,Jf,Jj,Jq,Jr,Js,Jt,Jv,Jw,Jy,Jz,J0,J6,J7,Xb,Xi,Xj,Xl,Xm,Xn,Xo,Xr,Xu,Xw,Xx,Xy,X1,X6,X7,X8,X9,Wc,Wf,Wg,Wh,Wi,Wj,Wl,Wm,Wn,Wo,Wp,Wt,Ww,Wx,W0,W6,Yd,Yn,Yo,Yr,Ys,Yt,Yu,Yv,Yw,Y9,Vj,Vk,Vm,Vz,V0,V1,V3,V5,V6,Ui,U5,Kh,Gg,Ce,G6,Ks,Gm];tactic =>
  try simp only [Uq] at *;try simp only [nc2] at *
  try simp (maxSteps:=4000000) only [hb,h6b,mZ,Hi,Hj,Hh,G8,U6]
  repeat' first|with_reducible assumption|with_reducible apply And.intro|intro _|omega|(rw [Uk];omega)
  refine Kk [2,3,6,7,8,23,24,25,26,27,28,29,30,31,32,33,34,35,36,37,38,39,40,41,42,43,44,45,46,47,48,49,50,51,52,53,54,55,56,57,58,59,60,61,62,63,64,65,66] (fun p:Nat×List Mod6=>[(5,.d (.int .i64 p.1)),(4,.sl 9 (p.2.map (enc:Mod6→D)).length)]) (fun p:Nat×List Mod6=>[(9,.row 4 (p.2.map enc) 0)]) (fun p:Nat×List Mod6=>p.1≤names.length∧p.2.length=p.1∧readL (names.drop p.1) (texts.drop p.1) p.2=R) (fun p:Nat×List Mod6=>names.length-p.1) (0,[]) ?_ ?_ ?_
  ·exact ⟨by omega,rfl,hR2⟩
  ·exact wkq
  rintro ⟨k,out⟩ ⟨hk,hol,hL⟩
  simp only at hk hol hL
  rcases Kt k names.length with ⟨hlt,hlb⟩|⟨hlt,hlb⟩
  ·have hlt2:k<texts.length:=by omega
   have q1:=K7 ([]:List UInt8) hlt
   have q2:=K7 ([]:List UInt8) hlt2
   rw [List.drop_eq_getElem_cons hlt,List.drop_eq_getElem_cons hlt2,readL] at hL
   have e1:names.getD k []=names[k]:=by simp [hlt]
   have e2:texts.getD k []=texts[k]:=by simp [hlt2]
   rw [←e1,←e2] at hL
   obtain ⟨n,hn⟩:∃ n,names.getD k []=n:=⟨_,rfl⟩
   obtain ⟨t,ht⟩:∃ n,texts.getD k []=n:=⟨_,rfl⟩
   rw [hn] at q1 hL
   rw [ht] at q2 hL
   clear e1 e2
   rcases Dk 50 (n.length:Int) with ⟨h1,h1b⟩|⟨h1,h1b⟩
   ·rw [if_pos (.inl (by omega))] at hL
    subst hL
    (sym=>simp [hlb,q1,q2,h1b,hR,mZ,lJ,Hi,Hj,Hh,G8,Cj,Dz,Zb,Zc,Zd,Ze,Zf,Zg,Zn,Zo,Zp,Zq,Zs,Zt,Zv,Zx,Zy,Z6,Qd,Qf,Qo,Qp,Qq,Qr,Qs,Qu,Qv,Qw,Qx,Q1,Ja,Jb,Jd,Jl,Jm,Jn,Js,Jt,Jv,Jw,Jx,Jy,Jz,J2,J3,Xi,Xj,Xl,Xm,Xn,Xq,Xr,Xu,Xw,Xx,Xy,X6,X7,X8,X9,Wj,Wl,Wm,Wn,Wo,Wp,Wr,Wt,Wv,Ww,Wx,Wz,W0,W1,W9,Ye,Yn,Yo,Yp,Yq,Y7,Y9,Vj,Vk,Vm,Vy,V0,V1,V2,V3,V5,V6,Ui,U5,Kh,Gg,Ce,G6,Ks,Gm];tactic =>
     try simp only [Uq] at *;try simp only [nc2] at *
     try simp (maxSteps:=4000000) only [hlb,q1,q2,h1b,hR,mZ,lJ,Hi,Hj,Hh,G8,U6]
     repeat' first|with_reducible assumption|with_reducible apply And.intro|intro _|omega|(rw [Uk];omega)
     all_goals first|with_reducible exact okq|omega|rfl|trivial|skip)
   rcases Dk 1500 (t.length:Int) with ⟨h2,h2b⟩|⟨h2,h2b⟩
   ·rw [if_pos (.inr (by omega))] at hL
    subst hL
    (sym=>simp [hlb,q1,q2,h1b,h2b,hR,mZ,lJ,Hi,Hj,Hh,G8,Cj,Dz,Zb,Zc,Zd,Ze,Zf,Zg,Zn,Zo,Zp,Zq,Zs,Zt,Zv,Zx,Zy,Z6,Qd,Qf,Qo,Qp,Qq,Qr,Qs,Qu,Qv,Qw,Qx,Q1,Ja,Jb,Jd,Jl,Jm,Jn,Js,Jt,Jv,Jw,Jx,Jy,Jz,J2,J3,Xi,Xj,Xl,Xm,Xn,Xq,Xr,Xu,Xw,Xx,Xy,X6,X7,X8,X9,Wj,Wl,Wm,Wn,Wo,Wp,Wr,Wt,Wv,Ww,Wx,Wz,W0,W1,W9,Ye,Yn,Yo,Yp,Yq,Y7,Y9,Vj,Vk,Vm,Vy,Vz,V0,V1,V2,V3,V5,V6,Ui,U5,Kh,Gg,Ce,G6,Ks,Gm];tactic =>
     try simp only [Uq] at *;try simp only [nc2] at *
     try simp (maxSteps:=4000000) only [hlb,q1,q2,h1b,h2b,hR,mZ,lJ,Hi,Hj,Hh,G8,U6]
     repeat' first|with_reducible assumption|with_reducible apply And.intro|intro _|omega|(rw [Uk];omega)
     all_goals first|with_reducible exact okq|omega|rfl|trivial|skip)
   rw [if_neg (by omega)] at hL
   obtain ⟨⟨⟨mn,mi,md,ms⟩,a,e⟩,hP⟩:∃ q,parse6 n t=q:=⟨_,rfl⟩
   rw [hP] at hL
   simp only at hL
   by_cases he:e=0
   case neg =>
    rw [if_pos he] at hL
    have heb:(e != 0)=true:=bne_iff_ne.2 he
    subst hL
    (sym=>simp [hlb,q1,q2,h1b,h2b,hP,heb,hR,mZ,lJ,Hi,Hj,Hh,Km,G8,Cj,ctx_Read9_c,Dz,ctx_Read9_b,Fz,ctx_Read9_w,S7.eq_def,Zb,Zc,Zd,Ze,Zf,Zg,Zh,Zi,Zj,Zk,Zl,Zm,Zn,Zo,Zp,Zq,Zs,Zt,Zu,Zv,Zw,Zx,Zy,Z6,Qa,Qb,Qd,Qf,Qg,Qh,Qi,Qm,Qn,Qo,Qp,Qq,Qr,Qs,Qt,Qu,Qv,Qw,Qx,Qy,Qz,Q1,Q2,Q3,Q8,Ja,Jb,Jc,Jd,Je,Jf,Jl,Jm,Jn,Js,Jt,Jv,Jw,Jx,Jy,Jz,J2,J3,Xa,Xb,Xi,Xj,Xk,Xl,Xm,Xn,Xq,Xr,Xs,Xt,Xu,Xv,Xw,Xx,Xy,X0,X2,X3,X4,X5,X6,X7,X8,X9,Wb,Wd,Wf,Wh,Wi,Wj,Wl,Wm,Wn,Wo,Wp,Wr,Wt,Wv,Ww,Wx,Wz,W0,W1,W6,W9,Yc,Ye,Yn,Yo,Yp,Yq,Ys,Yu,Yv,Yw,Yy,Y3,Y7,Y9,Vj,Vk,Vm,Vy,Vz,V0,V1,V2,V3,V4,V5,V6,V8,Ui,Uj,U5,Kh,Gg,Ce,G6,Ks,Gm];tactic =>
     try simp only [Uq] at *;try simp only [nc2] at *
     try simp (maxSteps:=4000000) only [hlb,q1,q2,h1b,h2b,hP,heb,hR,mZ,lJ,Hi,Hj,Hh,Km,G8,U6]
     repeat' first|with_reducible assumption|with_reducible apply And.intro|intro _|omega|(rw [Uk];omega)
     all_goals first|with_reducible exact okq|omega|rfl|trivial|skip)
   rw [if_neg (by simpa using he)] at hL
   have heb:(e != 0)=false:=by rw [bne_eq_false_iff_eq];exact he
   (sym=>simp [hlb,q1,q2,h1b,h2b,hP,heb,mZ,lJ,Hi,Hj,Hh,Km,G8,Cj,ctx_Read9_c,Dz,ctx_Read9_b,Fz,ctx_Read9_w,S7.eq_def,Zb,Zc,Zd,Ze,Zf,Zg,Zh,Zi,Zj,Zk,Zl,Zm,Zo,Zp,Zq,Zr,Zs,Zt,Zu,Zv,Zw,Zx,Zy,Z1,Z4,Z5,Z6,Qa,Qb,Qd,Qf,Qg,Qh,Qi,Qj,Qm,Qn,Qo,Qs,Qt,Qu,Qv,Qw,Qx,Qy,Qz,Q1,Q2,Q3,Q4,Q5,Q6,Q7,Q8,Q9,Ja,Jb,Jc,Je,Jf,Jl,Jm,Jn,Js,Jt,Ju,Jv,Jw,Jx,Jy,Jz,J0,J1,J2,Xa,Xb,Xi,Xj,Xk,Xl,Xm,Xn,Xr,Xs,Xt,Xu,Xv,Xw,Xx,Xy,Xz,X0,X1,X2,X3,X4,X5,X6,X7,X8,X9,Wb,Wd,Wf,Wg,Wh,Wi,Wj,Wl,Wm,Wn,Wo,Wp,Wr,Wt,Wv,Ww,Wx,Wz,W0,W1,W6,W9,Yc,Ye,Yn,Yo,Yp,Yq,Ys,Yt,Yu,Yv,Yw,Yy,Y3,Y7,Y9,Vi,Vj,Vk,Vo,Vy,Vz,V0,V1,V2,V3,V4,V5,V6,V8,Ui,Uj,U5,Kh,Gg,Ce,G6,Ks,Gm];tactic =>
    try simp only [Uq] at *;try simp only [nc2] at *
    try simp (maxSteps:=4000000) only [hlb,q1,q2,h1b,h2b,hP,heb,mZ,lJ,Hi,Hj,Hh,Km,G8,U6]
    repeat' first|with_reducible assumption|with_reducible apply And.intro|intro _|omega|(rw [Uk];omega)
    all_goals first|with_reducible exact okq|omega|rfl|trivial|exact ⟨(k+1,out++[⟨mn,mi,md,ms⟩]),by ((try simp only [Ul,U0,Ux,U8,upd,U7,Ki,K0,Nat.reduceDiv,Nat.reduceMod,Nat.reduceMul,Nat.reduceAdd,Nat.reduceEqDiff,aV,aW,if_true,if_false,reduceIte]);(first|refine Wk.of_fl ?_|skip);simp only [Wk,wkK,Ga,wkT,wk1,AV.kept,keptAll,wkO,lk,Uw,and_true,true_and,and_self,Nat.reduceEqDiff,Nat.reduceLeDiff,if_true,if_false,reduceIte,reduceCtorEq,Option.isSome,false_implies];try simp [Wk,wkK,wkT,wk1,AV.kept,keptAll,wkO,lk,Uw,Km]),by omega,by simp;omega,hL,by omega⟩|skip)
  ·have hke:k=names.length:=by omega
   rw [hke,List.drop_length,readL] at hL
   rotate_left
   ·intro a b c d e;cases e
   rw [hke] at hlb
   subst hL
   (sym=>simp [hlb,hR,mZ,lJ,Hi,Hj,Hh,G8,Cj,ctx_Read9_c,Dz,ctx_Read9_b,Fz,ctx_Read9_w,S7.eq_def,Zb,Zc,Zd,Ze,Zf,Zg,Zh,Zi,Zj,Zk,Zl,Zm,Zn,Zo,Zp,Zq,Zs,Zt,Zu,Zv,Zw,Zx,Zy,Z6,Qa,Qb,Qd,Qf,Qg,Qh,Qi,Qm,Qn,Qo,Qp,Qq,Qr,Qs,Qt,Qu,Qv,Qw,Qx,Qy,Qz,Q1,Q2,Q3,Q8,Ja,Jb,Jc,Jd,Je,Jf,Jl,Jm,Jn,Js,Jt,Ju,Jv,Jw,Jx,Jy,Jz,J2,J3,J4,Xa,Xi,Xj,Xk,Xl,Xm,Xn,Xp,Xq,Xr,Xs,Xt,Xu,Xv,Xw,Xx,Xy,X0,X2,X3,X4,X5,X6,X7,X8,X9,Wb,Wd,Wf,Wh,Wi,Wj,Wl,Wm,Wn,Wo,Wp,Wr,Wt,Ww,Wx,W0,W1,Yc,Yn,Yo,Yp,Yq,Ys,Yu,Y7,Y9,Vj,Vk,Vm,Vy,Vz,V0,V1,V2,V3,V4,V5,V6,V8,Ui,Uj,U5,Kh,Gg,Ce,G6,Ks,Gm];tactic =>
    try simp only [Uq] at *;try simp only [nc2] at *
    try simp (maxSteps:=4000000) only [hlb,hR,mZ,lJ,Hi,Hj,Hh,G8,U6]
    repeat' first|with_reducible assumption|with_reducible apply And.intro|intro _|omega|(rw [Uk];omega)
    all_goals first|with_reducible exact okq|omega|rfl|trivial|skip))
def pick9 (l:List Mod6) (O:List Int):List Mod6:=O.map fun x=>l.getD x.toNat C8
def A5 (t:Tx9):List Mod6×Bool:=if (read9 t).2=false then ([],false) else (pick9 (read9 t).1 (order8 (read9 t).1).1.l,(order8 (read9 t).1).2.2==0)
def Hy:Con:=Mf (fun (_:Tx9)=>True) (fun t=>((⟨(A5 t).1⟩,(A5 t).2):Sl Mod6×Bool))
theorem outN_le {l:List Mod} (h:l.length≤20):(order8 l).1.l.length≤20:=by
 unfold order8
 split
 ·simp
 split
 ·simp
 cases leB 0 (Ta l ((List.range l.length).map (cycB l)) l.length) with
 | true=>simp
 | false =>
  show (outN l l.length).length≤20
  rw [outN_len]
  exact h
noncomputable def Cy:Ctx:=⟨tab,lkC [(9,C5),(10,con_Order8)],60,lkB [],[],false⟩
theorem Rq:Cy.τ=tab:=rfl
theorem ctx_Program9_c:Cy.Γ=lkC [(9,C5),(10,con_Order8)]:=rfl
theorem Rr:Cy.dp=60:=rfl
theorem ctx_Program9_b:Cy.Δ=lkB []:=rfl
theorem ctx_Program9_u:Cy.cuts=[]:=rfl
theorem ctx_Program9_w:Cy.wr=false:=rfl
set_option maxRecDepth 100000 in
theorem good_Program9:Hg Try.prog (4,Hy):=by
 refine ⟨Ke Try.func4 (by kernel_rfl) rfl,?_⟩
 have K:Gu Try.prog Cy:=Ko G7 Kw (by
  intro p hp
  simp only [bQ,bZ,or_false] at hp
  rcases hp with rfl|rfl
  ·exact good_Read9
  ·exact good_Order8) (by simp)
 obtain ⟨c,hc⟩:∃ c,Try.f4.body=some c:=⟨_,rfl⟩
 refine Kn K Try.func4 hc [.tmp 2,.tmp 3] rfl 44 rfl (fun cvs hpre=>?_)
 change Hy.pre cvs at hpre
 unfold Hy at hpre
 obtain ⟨⟨names,texts⟩,rfl,-⟩:=con1t_pre hpre
 clear hpre
 obtain ⟨R,hR⟩:∃ R,A5 ⟨names,texts⟩=R:=⟨_,rfl⟩
 have hR2:=hR
 unfold A5 at hR2
 have hG:=read9_good ⟨names,texts⟩
 have hF:=hG.few
 have h20:=hF.1
 have hin:=order8_in h20
 have hol:=outN_le h20
 obtain ⟨⟨l,ok⟩,hq⟩:∃ q,read9 ⟨names,texts⟩=q:=⟨_,rfl⟩
 rw [hq] at hR2 hG hF h20 hin hol
 simp only at hR2 hG hF h20 hin hol
 simp only [Try.f4,aZ] at hc
 subst hc
 refine Gf 2 (of_decide_eq_true (by kernel_rfl)) ?_
 cases ok with
 | false =>
  rw [if_pos rfl] at hR2
  subst hR2
  (sym=>simp [hq,hR,mZ,lW,Hi,Hj,Hh,G8,Rq,ctx_Program9_c,Rr,ctx_Program9_b,con_Order8.eq_def,Hy.eq_def,C5.eq_def,Zb,Zc,Ze,Zf,Zn,Zo,Zp,Zq,Zu,Zv,Qa,Qb,Qe,Qf,Qg,Qh,Qi,Qj,Qn,Qp,Qq,Qr,Qs,Qu,Qv,Qw,Qx,Q1,Q2,Q3,Q8,Ja,Jb,Jc,Jd,Je,Jj,Jq,Jr,Js,Jt,Jv,Jw,Jy,Jz,J2,J3,J6,J7,Xb,Xj,Xl,Xm,Xq,Xr,Xu,Xw,Xx,Xy,X6,X7,X8,X9,Wb,Wc,Wd,Wf,Wh,Wi,Wj,Wl,Wo,Wp,Wu,Wy,W6,Yd,Yn,Yo,Yr,Ys,Yt,Yu,Yv,Yw,Y6,Y9,Vk,Vm,Vy,V0,V1,V5,V6,Ui,U5,K9,Ce,G6,Ks,Gm,Gq];tactic =>
   try simp only [Uq] at *;try simp only [nc2] at *
   try simp (maxSteps:=4000000) only [hq,hR,mZ,lW,Hi,Hj,Hh,G8,U6]
   repeat' first|with_reducible assumption|with_reducible apply And.intro|intro _|omega|(rw [Uk];omega)
   all_goals first|with_reducible exact okq|omega|rfl|trivial|skip)
 | true =>
  rw [if_neg (by simp)] at hR2
  obtain ⟨⟨⟨O⟩,b,e⟩,hO⟩:∃ q,order8 l=q:=⟨_,rfl⟩
  rw [hO] at hR2 hin hol
  simp only at hR2 hin hol
  (sym=>simp [hq,hO,mZ,lW,Hi,Hj,Hh,G8,Rq,ctx_Program9_c,Rr,ctx_Program9_b,con_Order8.eq_def,Hy.eq_def,C5.eq_def,Zb,Zc,Ze,Zf,Zn,Zo,Zp,Zq,Zr,Zu,Zv,Z1,Qa,Qb,Qe,Qf,Qg,Qh,Qi,Qj,Qn,Qs,Qu,Qv,Qw,Qx,Q1,Q2,Q3,Q4,Q5,Q6,Q7,Q8,Q9,Ja,Jb,Jc,Je,Jj,Jq,Jr,Js,Jt,Jv,Jw,Jy,Jz,J0,J2,J6,J7,Xb,Xi,Xj,Xl,Xm,Xn,Xo,Xr,Xu,Xw,Xx,Xy,X1,X6,X7,X8,X9,Wb,Wc,Wd,Wf,Wg,Wh,Wi,Wj,Wl,Wo,Wp,Wu,Wy,W6,Yc,Yd,Yn,Yo,Yr,Ys,Yt,Yu,Yv,Yw,Yz,Y4,Y5,Y9,Va,Vj,Vk,Vm,Vz,V0,V1,V5,V6,Ui,U5,K9,Ce,G6,Ks,Gm,Gq];tactic =>
   try simp only [Uq] at *;try simp only [nc2] at *
   try simp (maxSteps:=4000000) only [hq,hO,mZ,lW,Hi,Hj,Hh,G8,U6]
   repeat' first|with_reducible assumption|with_reducible apply And.intro|intro _|omega|(rw [Uk];omega)
   all_goals first|exact hF|skip
   refine Kk [25,26,27,28,29,30,31,32,33,34,35,36,37,38,39,40] (fun k:Nat=>[(10,.d (.int .i64 k)),(9,.sl 24 ((pick9 l (O.take k)).map (enc:Mod6→D)).length)]) (fun k:Nat=>[(24,.row 4 ((pick9 l (O.take k)).map enc) 0)]) (fun k:Nat=>k≤O.length) (fun k:Nat=>O.length-k) 0 ?_ ?_ ?_
   ·omega
   ·((try simp only [Ul,U0,Ux,U8,upd,U7,Ki,K0,Nat.reduceDiv,Nat.reduceMod,Nat.reduceMul,Nat.reduceAdd,Nat.reduceEqDiff,aV,aW,if_true,if_false,reduceIte]);(first|refine Wk.of_fl ?_|skip);simp only [Wk,wkK,Ga,wkT,wk1,AV.kept,keptAll,wkO,lk,Uw,and_true,true_and,and_self,Nat.reduceEqDiff,Nat.reduceLeDiff,if_true,if_false,reduceIte,reduceCtorEq,Option.isSome,false_implies];try simp [Wk,wkK,wkT,wk1,AV.kept,keptAll,wkO,lk,Uw,pick9])
   rintro k hk
   have hpl:(pick9 l (O.take k)).length≤20:=by unfold pick9;rw [bV,List.length_take];omega
   rcases Kt k O.length with ⟨hlt,hlb⟩|⟨hlt,hlb⟩
   ·have q1:=K7 (0:Int) hlt
    obtain ⟨j,hj,hjl⟩:=hin (O.getD k 0) (by simp [hlt])
    have q2:=K7 C8 hjl
    have hst:pick9 l (O.take (k+1))=pick9 l (O.take k)++[l.getD j C8]:=by
     unfold pick9
     rw [R6 (0:Int) hlt,List.map_append]
     simp only [List.map_cons,List.map_nil]
     rw [hj,aX]
    rw [hj] at q1
    obtain ⟨P,hP⟩:∃ P,pick9 l (O.take k)=P:=⟨_,rfl⟩
    rw [hP] at hst hpl ⊢
    obtain ⟨m,hm⟩:∃ m,l.getD j C8=m:=⟨_,rfl⟩
    rw [hm] at q2 hst
    clear hin hF hG
    (sym=>simp [hlb,q1,q2,mZ,lW,enc_Mod6,G8,Rq,Rr,ctx_Program9_w,Zb,Zc,Ze,Zf,Zg,Zo,Zp,Zq,Zr,Zv,Zy,Z1,Z4,Z5,Z6,Qd,Qf,Qs,Qu,Qv,Qw,Qx,Q4,Q5,Q6,Q7,Q9,Ja,Jb,Jl,Jm,Jn,Js,Jt,Ju,Jv,Jw,Jx,Jy,Jz,J0,J1,J2,J8,Xi,Xj,Xl,Xm,Xn,Xr,Xu,Xw,Xx,Xy,Xz,X1,X6,X7,X8,X9,Wg,Wh,Wi,Wj,Wl,Wo,Wp,Wr,Wt,Wx,W1,W6,W7,Yc,Yf,Yg,Yj,Yn,Yo,Yp,Yq,Y7,Y9,Va,Vi,Vj,Vo,Vy,V0,V1,V2,V3,V5,V6,Ui,U5,K9,Ce,G6,Ks,Gm,Gq];tactic =>
     try simp only [Uq] at *;try simp only [nc2] at *
     try simp (maxSteps:=4000000) only [hlb,q1,q2,mZ,lW,enc_Mod6,G8,U6]
     repeat' first|with_reducible assumption|with_reducible apply And.intro|intro _|omega|(rw [Uk];omega)
     all_goals first|with_reducible exact okq|omega|rfl|trivial|exact ⟨k+1,by ((try simp only [Ul,U0,Ux,U8,upd,U7,Ki,K0,Nat.reduceDiv,Nat.reduceMod,Nat.reduceMul,Nat.reduceAdd,Nat.reduceEqDiff,aV,aW,if_true,if_false,reduceIte]);(first|refine Wk.of_fl ?_|skip);simp only [Wk,wkK,Ga,wkT,wk1,AV.kept,keptAll,wkO,lk,Uw,and_true,true_and,and_self,Nat.reduceEqDiff,Nat.reduceLeDiff,if_true,if_false,reduceIte,reduceCtorEq,Option.isSome,false_implies];try simp [Wk,wkK,wkT,wk1,AV.kept,keptAll,wkO,lk,Uw,hst,enc_Mod6]),by omega,by omega⟩|skip)
   ·have hke:k=O.length:=by omega
    rw [hke,List.take_length]
    rw [hke] at hlb
    subst hR2
    (sym=>simp [hlb,hR,mZ,lW,G8,Rq,Rr,ctx_Program9_u,Zb,Zc,Ze,Zf,Zg,Zo,Z6,Qd,Qf,Qp,Qq,Qr,Qs,Qu,Qv,Qw,Qx,Q1,Ja,Jb,Jd,Jf,Jl,Jm,Jn,Js,Jt,Ju,Jv,Jw,Jx,Jy,Jz,J2,J4,Xj,Xl,Xm,Xp,Xq,Xr,Xu,Xw,Xx,Xy,X6,X7,X8,X9,Wo,Wp,Wr,Wt,Wx,Yf,Yg,Yj,Yn,Yo,Yp,Yq,Y9,Va,Vj,Vz,V0,V1,V3,V5,V6,U5,K9,Ce,G6,Ks,Gm,Gq];tactic =>
     try simp only [Uq] at *;try simp only [nc2] at *
     try simp (maxSteps:=4000000) only [hlb,hR,mZ,lW,G8,U6]
     repeat' first|with_reducible assumption|with_reducible apply And.intro|intro _|omega|(rw [Uk];omega)
     all_goals first|with_reducible exact okq|omega|rfl|trivial|skip))
theorem program9_good (t:Tx9):(A5 t).1.length≤20∧∀ m∈(A5 t).1,Good9 m:=by
 have hG:=read9_good t
 have h20:=hG.few.1
 unfold A5
 split
 ·exact ⟨by simp,fun m hm=>(by cases hm)⟩
 ·refine ⟨by show (pick9 _ _).length≤20;unfold pick9;rw [bV];exact outN_le h20,fun m hm=>?_⟩
  obtain ⟨x,hx,rfl⟩:=List.mem_map.1 hm
  obtain ⟨k,rfl,hk⟩:=order8_in h20 x hx
  rw [aX,aY,aK hk]
  exact hG.good _ (List.getElem_mem hk)
def ah (l:List Mod6) (k:Nat):Nat:=((l.take k).map fun m=>m.sites.length).sum
def S8 (l:List Mod6) (k:Nat):List Int:=(List.range k).map fun j=>(ah l j:Int)
structure SitesOk (l:List Mod6):Prop where
 len:l.length≤20
 sites:∀ m∈l,m.sites.length≤2000
theorem ah_zero (l:List Mod6):ah l 0=0:=rfl
theorem ah_succ {l:List Mod6} {k:Nat} (h:k<l.length):ah l (k+1)=ah l k+(l.getD k C8).sites.length:=by
 unfold ah
 rw [R6 C8 h,List.map_append,List.sum_append]
 simp
theorem ah_le {l:List Mod6} (h:SitesOk l):∀ k,k≤l.length→ah l k≤2000*k
 | 0,_=>cZ _
 | k+1,hk=>by
  have ih:=ah_le h k (by omega)
  rw [ah_succ (by omega)]
  have:=h.sites (l.getD k C8) (by rw [aY,aK (show k<l.length by omega)];exact List.getElem_mem _)
  omega
theorem ah_mono {l : List Mod6} : ∀ {j k : Nat}, j ≤ k → k ≤ l.length → ah l j ≤ ah l k := by
  intro j k h hk
  induction k with
  | zero => have : j = 0 := by omega
            subst this; exact cZ _
  | succ k ih =>
    rcases Nat.lt_or_ge k j with h1 | h1
    · have : j = k + 1 := by omega
      subst this; exact cZ _
    · have := ih h1 (by omega)
      rw [ah_succ (by omega)]
      omega
theorem aheadT_len (l:List Mod6) (k:Nat):(S8 l k).length=k:=by unfold S8;simp
theorem aheadT_at {l:List Mod6} {j k:Nat} (h:j<k):(S8 l k).getD j 0=ah l j:=by
 unfold S8
 rw [aY]
 simp [h]
theorem aheadT_succ (l:List Mod6) (k:Nat):S8 l (k+1)=S8 l k++[(ah l k:Int)]:=by
 unfold S8
 rw [List.range_succ,List.map_append]
 rfl
def Mp:Con:=L9 (fun (l:Sl Mod6)=>SitesOk l.l) (fun l=>Sl.mk (S8 l.l (l.l.length+1)))
noncomputable def Ao:Ctx:=⟨tab,lkC [],60,lkB [],[],false⟩
theorem ctx_aheadS_t:Ao.τ=tab:=rfl
theorem ctx_aheadS_c:Ao.Γ=lkC []:=rfl
theorem ctx_aheadS_d:Ao.dp=60:=rfl
theorem ctx_aheadS_b:Ao.Δ=lkB []:=rfl
theorem ctx_aheadS_w:Ao.wr=false:=rfl
set_option maxRecDepth 100000 in
theorem good_aheadS:Hg Try.prog (11,Mp):=by
 refine ⟨Ke Try.func11 (by kernel_rfl) rfl,?_⟩
 have K:Gu Try.prog Ao:=Ko G7 Kw (by simp) (by simp)
 obtain ⟨c,hc⟩:∃ c,Try.f11.body=some c:=⟨_,rfl⟩
 refine Kn K Try.func11 hc [.tmp 2] rfl 27 rfl (fun cvs hpre=>?_)
 change Mp.pre cvs at hpre
 unfold Mp at hpre
 obtain ⟨⟨l⟩,rfl,hS⟩:=Mt hpre
 simp only at hS
 clear hpre
 obtain ⟨R,hR⟩:∃ R,S8 l (l.length+1)=R:=⟨_,rfl⟩
 have hlen:=hS.len
 have hz:S8 l 1=[0]:=rfl
 simp only [Try.f11,aZ] at hc
 subst hc
 (sym=>simp [hz,G8,ctx_aheadS_t,ctx_aheadS_d,Mp.eq_def,Za,Zb,Zc,Ze,Zf,Zn,Zo,Zr,Z1,Z6,Qs,Qu,Qv,Qw,Qx,Q4,Q5,Q6,Q7,Q9,Ja,Jb,Jj,Jq,Jr,J0,J1,J2,Xd,Xj,Xl,Xn,Xo,Xr,Xu,Xw,Xx,Xy,X1,X6,X7,X8,X9,Wc,Wf,Wg,Wh,Wi,Wj,Wl,W2,Yf,Yg,Yn,Yo,Yp,Yq,Yr,Ys,Yz,Va,Vi,Vj,Vm,Vo,V0,V1,V3,V5,V6,U5,G6,Mr,Gm,Gq,H2];tactic =>
  try simp only [Uq] at *;try simp only [nc2] at *
  try simp (maxSteps:=4000000) only [hz,G8,U6]
  repeat' first|with_reducible assumption|with_reducible apply And.intro|intro _|omega|(rw [Uk];omega)
  refine Kk [4,5,10,11,12,13,14,15,16,17,18,19,20,21,22,23,24,25] (fun k:Nat=>[(3,.sl 6 ((S8 l (k+1)).map (enc:Int→D)).length),(9,.d (.int .i64 k))]) (fun k:Nat=>[(6,.row 1 ((S8 l (k+1)).map enc) 0)]) (fun k:Nat=>k≤l.length) (fun k:Nat=>l.length-k) 0 ?_ ?_ ?_
  ·omega
  ·((try simp only [Ul,U0,Ux,U8,upd,U7,Ki,K0,Nat.reduceDiv,Nat.reduceMod,Nat.reduceMul,Nat.reduceAdd,Nat.reduceEqDiff,aV,aW,if_true,if_false,reduceIte]);(first|refine Wk.of_fl ?_|skip);simp only [Wk,wkK,Ga,wkT,wk1,AV.kept,keptAll,wkO,lk,Uw,and_true,true_and,and_self,Nat.reduceEqDiff,Nat.reduceLeDiff,if_true,if_false,reduceIte,reduceCtorEq,Option.isSome,false_implies];try simp [Wk,wkK,wkT,wk1,AV.kept,keptAll,wkO,lk,Uw,S8,ah])
  rintro k hk
  have hA:=aheadT_len l (k+1)
  have hak:=ah_le hS k hk
  rcases Kt k l.length with ⟨hlt,hlb⟩|⟨hlt,hlb⟩
  ·have q1:=K7 C8 hlt
   have q2:=K7 (0:Int) (show k<(S8 l (k+1)).length by omega)
   rw [aheadT_at (show k<k+1 by omega)] at q2
   have hs:=ah_succ hlt
   have hss:=hS.sites (l.getD k C8) (by simp [hlt])
   have hst:=aheadT_succ l (k+1)
   obtain ⟨m,hm⟩:∃ m,l.getD k C8=m:=⟨_,rfl⟩
   rw [hm] at q1 hs hss
   obtain ⟨mn,mi,md,ms⟩:=m
   simp only at hs hss
   have hsi:(ah l k:Int)+(ms.length:Int)=(ah l (k+1):Int):=by omega
   obtain ⟨A,hAq⟩:∃ A,S8 l (k+1)=A:=⟨_,rfl⟩
   rw [hAq] at hA q2 hst ⊢
   (sym=>simp [hlb,q1,q2,hsi,Km,G8,ctx_aheadS_t,ctx_aheadS_c,ctx_aheadS_b,ctx_aheadS_w,Zb,Zc,Ze,Zf,Zg,Zh,Zi,Zj,Zk,Zl,Zm,Zo,Zp,Zq,Zr,Zs,Zu,Zv,Zw,Zx,Zy,Z1,Z4,Z5,Z6,Qd,Qf,Qm,Qn,Qo,Qs,Qt,Qu,Qv,Qw,Qx,Qy,Qz,Q4,Q5,Q6,Q7,Q9,Ja,Jb,Jl,Jm,Jn,J0,J1,J2,J8,Xa,Xb,Xi,Xj,Xk,Xl,Xm,Xn,Xr,Xs,Xt,Xu,Xv,Xw,Xx,Xy,Xz,X0,X1,X2,X4,X6,X7,X9,Wg,Wh,Wi,Wj,Wl,Wm,Wn,Wr,Wt,Ww,Wx,W0,W1,W2,W6,W7,Yc,Yf,Yg,Yn,Yo,Yp,Yq,Ys,Yu,Yv,Yw,Y7,Y9,Va,Vi,Vj,Vo,Vy,Vz,V0,V1,V2,V3,V4,V5,V6,V8,Ui,Uj,U5,G6,Mr,Gm,Gq,H2];tactic =>
    try simp only [Uq] at *;try simp only [nc2] at *
    try simp (maxSteps:=4000000) only [hlb,q1,q2,hsi,Km,G8,U6]
    repeat' first|with_reducible assumption|with_reducible apply And.intro|intro _|omega|(rw [Uk];omega)
    all_goals first|with_reducible exact okq|omega|exact ⟨k+1,by ((try simp only [Ul,U0,Ux,U8,upd,U7,Ki,K0,Nat.reduceDiv,Nat.reduceMod,Nat.reduceMul,Nat.reduceAdd,Nat.reduceEqDiff,aV,aW,if_true,if_false,reduceIte]);(first|refine Wk.of_fl ?_|skip);simp only [Wk,wkK,Ga,wkT,wk1,AV.kept,keptAll,wkO,lk,Uw,and_true,true_and,and_self,Nat.reduceEqDiff,Nat.reduceLeDiff,if_true,if_false,reduceIte,reduceCtorEq,Option.isSome,false_implies];try simp [Wk,wkK,wkT,wk1,AV.kept,keptAll,wkO,lk,Uw,hst]),by omega,by omega⟩|skip)
  ·have hke:k=l.length:=by omega
   rw [hke] at hlb
   rw [hke,hR]
   (sym=>simp [hlb,hR,G8,ctx_aheadS_t,ctx_aheadS_d,Zb,Zc,Ze,Zf,Zg,Qd,Qf,Qp,Qq,Qr,Qs,Qu,Qv,Qw,Qx,Q1,Ja,Jb,Jd,Jl,Jm,Jn,J4,Xj,Xl,Xm,Xp,Xq,Xr,Xu,Xw,Xx,X6,X7,Wr,Wt,Wx,Yn,Yo,Yp,Yq,Y9,Vz,V0,V1,V3,V5,V6,U5,G6,Mr,Gm,Gq,H2];tactic =>
    try simp only [Uq] at *;try simp only [nc2] at *
    try simp (maxSteps:=4000000) only [hlb,hR,G8,U6]
    repeat' first|with_reducible assumption|with_reducible apply And.intro|intro _|omega|(rw [Uk];omega)
    all_goals first|with_reducible exact okq|omega|rfl|trivial|skip))
def Iu (l:List Mod6) (site:Int):Nat→Nat→Nat
 | 0,k=>k
 | f+1,k=>if (ah l (k+1):Int)<site then Iu l site f (k+1) else k
def Ey (l:List Mod6) (site:Int):Int×Int×Int :=
 if site<1∨(ah l l.length:Int)<site then (0,0,6) else ((Iu l site l.length 0:Int),site-ah l (Iu l site l.length 0),0)
def H5:Con:=Gn (fun (l:Sl Mod6) (site:Int)=>SitesOk l.l∧inR .i64 site) (fun l site=>Ey l.l site)
theorem pX:type_of% @H5.eq_def:=@H5.eq_def
noncomputable def Ap:Ctx:=⟨tab,lkC [(11,Mp)],60,lkB [],[],false⟩
theorem Ro:Ap.τ=tab:=rfl
theorem O0:Ap.Γ=lkC [(11,Mp)]:=rfl
theorem Oz:Ap.dp=60:=rfl
theorem O1:Ap.Δ=lkB []:=rfl
theorem ctx_WhereS_w:Ap.wr=false:=rfl
set_option maxRecDepth 100000 in
theorem good_WhereS:Hg Try.prog (8,H5):=by
 refine ⟨Ke Try.func8 (by kernel_rfl) rfl,?_⟩
 have K:Gu Try.prog Ap:=Ko G7 Kw (by
  intro p hp
  simp only [bQ,bZ,or_false] at hp
  rcases hp with rfl
  ·exact good_aheadS) (by simp)
 obtain ⟨c,hc⟩:∃ c,Try.f8.body=some c:=⟨_,rfl⟩
 refine Kn K Try.func8 hc [.tmp 4,.tmp 5,.tmp 6] rfl 38 rfl (fun cvs hpre=>?_)
 change H5.pre cvs at hpre
 unfold H5 at hpre
 obtain ⟨⟨l⟩,site,rfl,hS,hsr⟩:=cn2ttt_pre hpre
 simp only at hS hsr
 clear hpre
 obtain ⟨R,hR⟩:∃ R,Ey l site=R:=⟨_,rfl⟩
 have hR2:=hR
 unfold Ey at hR2
 have hlen:=hS.len
 have hal:=ah_le hS l.length (cZ _)
 have hA:=aheadT_len l (l.length+1)
 have qe:=K7 (0:Int) (show l.length<(S8 l (l.length+1)).length by omega)
 rw [aheadT_at (show l.length<l.length+1 by omega)] at qe
 have hat:∀ j,j≤l.length→el ((S8 l (l.length+1)).map (enc:Int→D)) j=enc (ah l j:Int):=fun j hj=>by
  have:=K7 (0:Int) (show j<(S8 l (l.length+1)).length by omega)
  rw [aheadT_at (by omega)] at this
  exact this
 obtain ⟨A,hAq⟩:∃ A,S8 l (l.length+1)=A:=⟨_,rfl⟩
 rw [hAq] at hA qe hat
 rw [Uk] at hsr
 simp only [Try.f8,aZ] at hc
 subst hc
 refine Gf 2 (of_decide_eq_true (by kernel_rfl)) ?_
 rcases Dk site 1 with ⟨h1,h1b⟩|⟨h1,h1b⟩
 ·rw [if_pos (.inl h1)] at hR2
  subst hR2
  (sym=>simp [hAq,h1b,hR,lJ,G8,Ro,O0,Oz,O1,pX,Mp.eq_def,Zb,Zc,Zd,Ze,Zf,Zt,Qb,Qd,Qf,Qg,Qh,Qp,Qq,Qr,Qs,Qu,Qv,Qw,Qx,Q1,Q8,Jc,Jd,Je,Jj,Jq,Jr,Js,Jt,Jv,Jw,Jy,Jz,J2,J6,J7,Xd,Xj,Xl,Xm,Xq,Xr,Xu,Xw,Xx,X6,X7,X8,X9,Wb,Wc,Wd,Wf,Wj,Wl,Wm,Wn,Wo,Wp,Wt,Wx,Yc,Yn,Yo,Yr,Ys,Yt,Yu,Yv,Yw,Yx,Yz,Y4,Y9,Va,Vj,Vk,Vy,V0,V1,V5,V6,U5,G6,Gm,Gq];tactic =>
   try simp only [Uq] at *;try simp only [nc2] at *
   try simp (maxSteps:=4000000) only [hAq,h1b,hR,lJ,G8,U6]
   repeat' first|with_reducible assumption|with_reducible apply And.intro|intro _|omega|(rw [Uk];omega)
   all_goals first|with_reducible exact okq|omega|exact hS|rfl|trivial|skip)
 rcases Dk (ah l l.length:Int) site with ⟨h2,h2b⟩|⟨h2,h2b⟩
 ·rw [if_pos (.inr h2)] at hR2
  subst hR2
  (sym=>simp [hAq,qe,h1b,h2b,hR,lJ,G8,Ro,O0,Oz,O1,pX,Mp.eq_def,Zb,Zc,Zd,Ze,Zf,Zo,Zp,Zq,Zt,Zv,Zy,Z6,Qb,Qd,Qf,Qg,Qh,Qp,Qq,Qr,Qs,Qu,Qv,Qw,Qx,Q1,Q8,Jc,Jd,Je,Jj,Jq,Jr,Js,Jt,Jv,Jw,Jy,Jz,J2,J6,J7,Xd,Xj,Xl,Xm,Xq,Xr,Xu,Xw,Xx,Xy,X6,X7,X8,X9,Wb,Wc,Wd,Wf,Wj,Wl,Wm,Wn,Wo,Wp,Wt,Wx,W1,W7,Yc,Yf,Yg,Yj,Yn,Yo,Yr,Ys,Yt,Yu,Yv,Yw,Yx,Yz,Y4,Y7,Y9,Va,Vj,Vk,Vy,Vz,V0,V1,V2,V3,V5,V6,Ui,U5,G6,Gm,Gq];tactic =>
   try simp only [Uq] at *;try simp only [nc2] at *
   try simp (maxSteps:=4000000) only [hAq,qe,h1b,h2b,hR,lJ,G8,U6]
   repeat' first|with_reducible assumption|with_reducible apply And.intro|intro _|omega|(rw [Uk];omega)
   all_goals first|with_reducible exact okq|omega|exact hS|rfl|trivial|skip)
 rw [if_neg (by omega)] at hR2
 obtain ⟨W,hW⟩:∃ W,Iu l site l.length 0=W:=⟨_,rfl⟩
 rw [hW] at hR2
 (sym=>simp [hAq,qe,h1b,h2b,lJ,G8,Ro,O0,Oz,O1,pX,Mp.eq_def,Zb,Zc,Zd,Ze,Zf,Zo,Zp,Zq,Zt,Zv,Zy,Z6,Qb,Qd,Qf,Qg,Qh,Qs,Qu,Qv,Qw,Qx,Q1,Q8,Jc,Je,Jj,Jq,Jr,Js,Jt,Jv,Jw,Jy,Jz,J2,J6,J7,Xd,Xi,Xj,Xl,Xm,Xn,Xo,Xr,Xu,Xw,Xx,Xy,X6,X7,X8,X9,Wb,Wc,Wd,Wf,Wj,Wl,Wm,Wn,Wo,Wp,Wt,Wx,W1,W7,Yc,Yf,Yg,Yj,Yn,Yo,Yr,Ys,Yt,Yu,Yv,Yw,Yx,Yz,Y4,Y7,Y9,Va,Vj,Vk,Vz,V0,V1,V2,V3,V5,V6,Ui,U5,G6,Gm,Gq];tactic =>
  try simp only [Uq] at *;try simp only [nc2] at *
  try simp (maxSteps:=4000000) only [hAq,qe,h1b,h2b,lJ,G8,U6]
  repeat' first|with_reducible assumption|with_reducible apply And.intro|intro _|omega|(rw [Uk];omega)
  all_goals first|exact hS|skip
  refine Kk [22,23,24,25,26,27,28,29,30] (fun p:Nat×Nat=>[(8,.d (.int .i64 p.2))]) (fun p:Nat×Nat=>[]) (fun p:Nat×Nat=>p.1+p.2=l.length∧Iu l site p.1 p.2=W∧(ah l p.2:Int)<site) (fun p:Nat×Nat=>p.1) (l.length,0) ?_ ?_ ?_
  ·exact ⟨by simp,hW,by rw [ah_zero];omega⟩
  ·exact wkq
  rintro ⟨f,k⟩ ⟨hfk,hL,hlt⟩
  simp only at hfk hL hlt
  have hkl:k<l.length:=by
   refine Nat.lt_of_le_of_ne (by omega) fun e=>?_
   rw [e] at hlt
   omega
  obtain ⟨f,rfl⟩:∃ q,f=q+1:=⟨f-1,by omega⟩
  rw [Iu] at hL
  have q1:=hat (k+1) (by omega)
  have q2:=hat k (by omega)
  have hb:=ah_le hS (k+1) (by omega)
  have htn:((k:Int)+1).toNat=k+1:=by omega
  rcases Dk (ah l (k+1):Int) site with ⟨h3,h3b⟩|⟨h3,h3b⟩
  ·rw [if_pos h3] at hL
   clear hat
   (sym=>simp [htn,q1,h3b,lJ,G8,Ro,ctx_WhereS_w,Zb,Zc,Ze,Zf,Zg,Zo,Zp,Zq,Zv,Zy,Qd,Qf,Qs,Qu,Qv,Qw,Qx,Jl,Jm,Jn,Js,Jt,Jv,Jw,Jy,Jz,Xi,Xj,Xl,Xm,Xn,Xr,Xu,Xw,Xx,Xy,X6,X7,X8,X9,Wo,Wp,Wr,Wt,Wx,W1,W7,Yc,Yf,Yg,Yj,Yn,Yo,Y9,Va,Vj,Vy,V0,V1,V2,V3,V5,V6,Ui,U5,G6,Gm,Gq];tactic =>
    try simp only [Uq] at *;try simp only [nc2] at *
    try simp (maxSteps:=4000000) only [htn,q1,h3b,lJ,G8,U6]
    repeat' first|with_reducible assumption|with_reducible apply And.intro|intro _|omega|(rw [Uk];omega)
    all_goals first|with_reducible exact okq|omega|exact ⟨(f,k+1),wkq,by omega,hL,h3,by omega⟩|skip)
  ·rw [if_neg (by omega)] at hL
   subst hL
   subst hR2
   clear hat
   (sym=>simp [htn,q1,q2,h3b,hR,lJ,G8,Ro,O0,Oz,O1,ctx_WhereS_w,Mp.eq_def,Zb,Zc,Ze,Zf,Zg,Zh,Zi,Zj,Zk,Zl,Zm,Zo,Zp,Zq,Zv,Zy,Qd,Qf,Qp,Qq,Qr,Qs,Qt,Qu,Qv,Qw,Qx,Qy,Qz,Q1,Jd,Jl,Jm,Jn,Js,Jt,Ju,Jv,Jw,Jx,Jy,Jz,J2,Xd,Xj,Xk,Xl,Xm,Xp,Xq,Xr,Xs,Xt,Xu,Xv,Xw,Xx,Xy,X2,X6,X7,X8,X9,Wh,Wi,Wo,Wp,Wr,Wt,Wx,W1,W7,Yc,Yf,Yg,Yj,Yn,Yo,Yp,Yq,Y7,Y9,Va,Vj,Vz,V0,V1,V2,V3,V4,V5,V6,V8,Ui,U5,G6,Gm,Gq];tactic =>
    try simp only [Uq] at *;try simp only [nc2] at *
    try simp (maxSteps:=4000000) only [htn,q1,q2,h3b,hR,lJ,G8,U6]
    repeat' first|with_reducible assumption|with_reducible apply And.intro|intro _|omega|(rw [Uk];omega)
    all_goals first|with_reducible exact okq|omega|rfl|trivial|skip))
end Go.Am.Ty
