/- Contracts of functions that the law reaches, and plain laws. Conditions: those that each contract states. -/
import Derived.Test.YtilpfkjhahnfaaaK5
set_option maxHeartbeats 8000000
set_option linter.unusedVariables false
set_option linter.unusedSimpArgs false
namespace Go.Am.Ty
open Go.Proofs Gr
open Enc (enc dec)
def pmI {α:Type} (f:Nat→α→α) (l:List α) (k:Nat):List α:=(l.take k).mapIdx f++l.drop k
section
variable {α:Type} {f:Nat→α→α} {l:List α}
theorem pmI_len (k:Nat):(pmI f l k).length=l.length:=by
 unfold pmI
 simp
 omega
theorem pmI_zero:pmI f l 0=l:=by simp [pmI]
theorem pmI_full:pmI f l l.length=l.mapIdx f:=by simp [pmI]
theorem pmI_at (d:α) {k:Nat} (h:k<l.length):(pmI f l k).getD k d=l.getD k d:=by
 unfold pmI
 rw [aY,List.getElem?_append_right (by simp;omega)]
 simp [show min k l.length=k by omega,aY]
theorem pmI_set (d:α) {k:Nat} (h:k<l.length):(pmI f l k).set k (f k (l.getD k d))=pmI f l (k+1):=by
 unfold pmI
 rw [List.set_append_right _ _ (by simp;omega),R6 d h,List.mapIdx_append]
 simp only [List.length_mapIdx,List.length_take,show min k l.length=k by omega,Nat.sub_self]
 rw [List.drop_eq_getElem_cons h,aV]
 simp
theorem pmI_same (d:α) {k:Nat} (h:k<l.length) (e:f k (l.getD k d)=l.getD k d):pmI f l (k+1)=pmI f l k:=by
 rw [←pmI_set d h,e,←pmI_at d h (f:=f)]
 have h2:k<(pmI f l k).length:=by rw [pmI_len];exact h
 rw [aY,aK h2]
 simp
end
theorem set_enc {α:Type} [Enc α] {l:List α} {k:Nat} {y:α}:(l.map (enc:α→D)).set k (enc y)=(l.set k y).map enc:=(List.map_set ..).symm
def T3:Con:=Be (fun (t:Sl Node)=>t.l.length≤1000000) (fun t=>t.l)
noncomputable def ctx_cloneT:Ctx:=⟨tab,lkC [],60,lkB [],[4],false⟩
theorem ctx_cloneT_t:ctx_cloneT.τ=tab:=rfl
theorem ctx_cloneT_u:ctx_cloneT.cuts=[4]:=rfl
set_option maxRecDepth 100000 in
theorem good_cloneT:Hg Try.prog (14,T3):=by
 refine ⟨Ke Try.func14 (by kernel_rfl) rfl,?_⟩
 have K:Gu Try.prog ctx_cloneT:=Ko G7 Kw (by simp) (by simp)
 obtain ⟨c,hc⟩:∃ c,Try.f14.body=some c:=⟨_,rfl⟩
 refine Kn K Try.func14 hc [.tmp 2] rfl 8 rfl (fun cvs hpre=>?_)
 change T3.pre cvs at hpre
 unfold T3 at hpre
 obtain ⟨⟨t⟩,rfl,ht⟩:=con1w_pre hpre
 simp only at ht
 clear hpre
 simp only [Try.f14,aZ] at hc
 subst hc
 (sym=>simp [nV,szN,ctx_cloneT_t,ctx_cloneT_u,T3.eq_def,Za,Zb,Zc,Ze,Zf,Zn,Zo,Zr,Z1,Z4,Z5,Qp,Qq,Qr,Qs,Qu,Qv,Qw,Qx,Q1,Q4,Q5,Q6,Q7,Q9,Ja,Jb,Jd,Jf,Jj,Jq,Jr,J0,Xi,Xj,Xl,Xm,Xq,Xr,Xu,Xw,Xx,Xy,Xz,X1,X6,X7,X8,X9,Wc,Wf,Wg,Wi,Wj,Wl,Yf,Yg,Yn,Yo,Yp,Yq,Yr,Ys,Yz,Y5,Va,Vm,Vy,Vz,V0,V1,V3,V5,V6,V7,K6,K1];tactic =>
  try simp only [Uq] at *;try simp only [nc2] at *
  try simp (maxSteps:=4000000) only [nV,szN,U6]
  repeat' first|with_reducible assumption|with_reducible apply And.intro|intro _|omega|(rw [Uk];omega)
  all_goals first|omega|(simp_all;done)|skip)
def Li:Con:=Be (fun (t:Sl Part)=>t.l.length≤1000000) (fun t=>t.l)
noncomputable def ctx_cloneE:Ctx:=⟨tab,lkC [],60,lkB [],[4],false⟩
theorem ctx_cloneE_t:ctx_cloneE.τ=tab:=rfl
theorem ctx_cloneE_u:ctx_cloneE.cuts=[4]:=rfl
set_option maxRecDepth 100000 in
theorem good_cloneE:Hg Try.prog (16,Li):=by
 refine ⟨Ke Try.func16 (by kernel_rfl) rfl,?_⟩
 have K:Gu Try.prog ctx_cloneE:=Ko G7 Kw (by simp) (by simp)
 obtain ⟨c,hc⟩:∃ c,Try.f16.body=some c:=⟨_,rfl⟩
 refine Kn K Try.func16 hc [.tmp 2] rfl 8 rfl (fun cvs hpre=>?_)
 change Li.pre cvs at hpre
 unfold Li at hpre
 obtain ⟨⟨t⟩,rfl,ht⟩:=con1w_pre hpre
 simp only at ht
 clear hpre
 simp only [Try.f16,aZ] at hc
 subst hc
 (sym=>simp [nV,szP,ctx_cloneE_t,ctx_cloneE_u,Li.eq_def,Za,Zb,Zc,Ze,Zf,Zn,Zo,Zr,Z1,Z4,Z5,Qp,Qq,Qr,Qs,Qu,Qv,Qw,Qx,Q1,Q4,Q5,Q6,Q7,Q9,Ja,Jb,Jd,Jf,Jj,Jq,Jr,J0,Xi,Xj,Xl,Xm,Xq,Xr,Xu,Xw,Xx,Xy,Xz,X1,X6,X7,X8,X9,Wc,Wf,Wg,Wi,Wj,Wl,Yf,Yg,Yn,Yo,Yp,Yq,Yr,Ys,Yz,Y5,Va,Vm,Vy,Vz,V0,V1,V3,V5,V6,V7,Gp,Gd];tactic =>
  try simp only [Uq] at *;try simp only [nc2] at *
  try simp (maxSteps:=4000000) only [nV,szP,U6]
  repeat' first|with_reducible assumption|with_reducible apply And.intro|intro _|omega|(rw [Uk];omega)
  all_goals first|omega|(simp_all;done)|skip)
def My:Con:=Be (fun (t:Sl Def6)=>t.l.length≤1000000) (fun t=>t.l)
noncomputable def ctx_cloneDefs:Ctx:=⟨tab,lkC [],60,lkB [],[4],false⟩
theorem ctx_cloneDefs_t:ctx_cloneDefs.τ=tab:=rfl
theorem ctx_cloneDefs_u:ctx_cloneDefs.cuts=[4]:=rfl
set_option maxRecDepth 100000 in
theorem good_cloneDefs:Hg Try.prog (15,My):=by
 refine ⟨Ke Try.func15 (by kernel_rfl) rfl,?_⟩
 have K:Gu Try.prog ctx_cloneDefs:=Ko G7 Kw (by simp) (by simp)
 obtain ⟨c,hc⟩:∃ c,Try.f15.body=some c:=⟨_,rfl⟩
 refine Kn K Try.func15 hc [.tmp 2] rfl 8 rfl (fun cvs hpre=>?_)
 change My.pre cvs at hpre
 unfold My at hpre
 obtain ⟨⟨t⟩,rfl,ht⟩:=con1w_pre hpre
 simp only at ht
 clear hpre
 simp only [Try.f15,aZ] at hc
 subst hc
 (sym=>simp [nV,M8,ctx_cloneDefs_t,ctx_cloneDefs_u,My.eq_def,Za,Zb,Zc,Ze,Zf,Zn,Zo,Zr,Z1,Z4,Z5,Qp,Qq,Qr,Qs,Qu,Qv,Qw,Qx,Q1,Q4,Q5,Q6,Q7,Q9,Ja,Jb,Jd,Jf,Jj,Jq,Jr,J0,Xi,Xj,Xl,Xm,Xq,Xr,Xu,Xw,Xx,Xy,Xz,X1,X6,X7,X8,X9,Wc,Wf,Wg,Wi,Wj,Wl,Yf,Yg,Yn,Yo,Yp,Yq,Yr,Ys,Yz,Y5,Va,Vm,Vy,Vz,V0,V1,V3,V5,V6,V7,Pq,Pp];tactic =>
  try simp only [Uq] at *;try simp only [nc2] at *
  try simp (maxSteps:=4000000) only [nV,M8,U6]
  repeat' first|with_reducible assumption|with_reducible apply And.intro|intro _|omega|(rw [Uk];omega)
  all_goals first|omega|(simp_all;done)|skip)
def Mx:Con:=Be (fun (t:Sl Mod6)=>t.l.length≤1000000) (fun t=>t.l)
noncomputable def ctx_cloneMods:Ctx:=⟨tab,lkC [],60,lkB [],[4],false⟩
theorem ctx_cloneMods_t:ctx_cloneMods.τ=tab:=rfl
theorem ctx_cloneMods_u:ctx_cloneMods.cuts=[4]:=rfl
set_option maxRecDepth 100000 in
theorem good_cloneMods:Hg Try.prog (12,Mx):=by
 refine ⟨Ke Try.func12 (by kernel_rfl) rfl,?_⟩
 have K:Gu Try.prog ctx_cloneMods:=Ko G7 Kw (by simp) (by simp)
 obtain ⟨c,hc⟩:∃ c,Try.f12.body=some c:=⟨_,rfl⟩
 refine Kn K Try.func12 hc [.tmp 2] rfl 8 rfl (fun cvs hpre=>?_)
 change Mx.pre cvs at hpre
 unfold Mx at hpre
 obtain ⟨⟨t⟩,rfl,ht⟩:=con1w_pre hpre
 simp only at ht
 clear hpre
 simp only [Try.f12,aZ] at hc
 subst hc
 (sym=>simp [nV,G8,ctx_cloneMods_t,ctx_cloneMods_u,Mx.eq_def,Za,Zb,Zc,Ze,Zf,Zn,Zo,Zr,Z1,Z4,Z5,Qp,Qq,Qr,Qs,Qu,Qv,Qw,Qx,Q1,Q4,Q5,Q6,Q7,Q9,Ja,Jb,Jd,Jf,Jj,Jq,Jr,J0,Xi,Xj,Xl,Xm,Xq,Xr,Xu,Xw,Xx,Xy,Xz,X1,X6,X7,X8,X9,Wc,Wf,Wg,Wi,Wj,Wl,Yf,Yg,Yn,Yo,Yp,Yq,Yr,Ys,Yz,Y5,Va,Vm,Vy,Vz,V0,V1,V3,V5,V6,V7,G6,Gm];tactic =>
  try simp only [Uq] at *;try simp only [nc2] at *
  try simp (maxSteps:=4000000) only [nV,G8,U6]
  repeat' first|with_reducible assumption|with_reducible apply And.intro|intro _|omega|(rw [Uk];omega)
  all_goals first|omega|(simp_all;done)|skip)
structure PtrI where
 x:Int
structure PtrL where
 l:List Int
instance encPtrI:Enc PtrI:=⟨fun a=>.ptr 1 (.int .i64 a.x),fun x=>match x with
 | .ptr _ a=>⟨a.i⟩
 | _=>⟨0⟩,fun a=>rfl⟩
instance encPtrL:Enc PtrL:=⟨fun a=>.ptr 1 (.list 1 (a.l.map enc)),fun x=>match x with
 | .ptr _ a=>⟨a.l.map dec⟩
 | _=>⟨[]⟩,fun a=>by
  cases a
  simp only [D.l]
  rw [Pf]⟩
theorem Sf {a:Int}:(enc (PtrI.mk a):D)=.ptr 1 (.int .i64 a):=rfl
theorem Sh {a:Int}:(dec (.ptr 1 (.int .i64 a)):PtrI)=⟨a⟩:=rfl
theorem Sc {a:Int}:isE PtrI (.ptr 1 (.int .i64 a))=True:=eq_true rfl
theorem Se {a:List Int}:(enc (PtrL.mk a):D)=.ptr 1 (.list 1 (a.map enc)):=rfl
theorem Sg {a:List Int}:(dec (.ptr 1 (.list 1 (a.map enc))):PtrL)=⟨a⟩:=Enc.dec_enc (PtrL.mk a)
theorem Sb {a:List Int}:isE PtrL (.ptr 1 (.list 1 (a.map enc)))=True:=eq_true (Cp (PtrL.mk a))
def C7 (by_:Int) (n:Node):Node:=if n.kind=0∧0<n.n then ⟨n.kind,n.name,n.n+by_⟩ else n
def Iy (by_:Int) (t:List Node):List Node:=t.mapIdx fun _=>C7 by_
def Lh:Con:=Lr (fun (t:Sl Node) (fr:PtrL) (i:PtrI)=>t.l.length≤1000000∧(∀ n∈t.l,n.kind=0→n.n≤1000000)∧0≤i.x∧i.x<fr.l.length∧fr.l.length≤1000∧0≤fr.l.getD i.x.toNat 0∧fr.l.getD i.x.toNat 0≤1000000) (fun t fr i=>Sl.mk (Iy (fr.l.getD i.x.toNat 0) t.l))
noncomputable def E7:Ctx:=⟨tab,lkC [(14,T3)],60,lkB [],[],false⟩
theorem Rh:E7.τ=tab:=rfl
theorem Oe:E7.Γ=lkC [(14,T3)]:=rfl
theorem ctx_shiftS_d:E7.dp=60:=rfl
theorem Of:E7.Δ=lkB []:=rfl
theorem ctx_shiftS_u:E7.cuts=[]:=rfl
theorem ctx_shiftS_w:E7.wr=false:=rfl
set_option maxRecDepth 100000 in
theorem good_shiftS:Hg Try.prog (13,Lh):=by
 refine ⟨Ke Try.func13 (by kernel_rfl) rfl,?_⟩
 have K:Gu Try.prog E7:=Ko G7 Kw (by
  intro p hp
  simp only [bQ,bZ,or_false] at hp
  rcases hp with rfl
  ·exact good_cloneT) (by simp)
 obtain ⟨c,hc⟩:∃ c,Try.f13.body=some c:=⟨_,rfl⟩
 refine Kn K Try.func13 hc [.tmp 4] rfl 39 rfl (fun cvs hpre=>?_)
 change Lh.pre cvs at hpre
 unfold Lh at hpre
 obtain ⟨⟨t⟩,⟨fr⟩,⟨i⟩,rfl,ht,hb,hi0,hil,hfl,hf0,hf1⟩:=Is hpre
 simp only at ht hb hi0 hil hfl hf0 hf1
 clear hpre
 obtain ⟨i,rfl⟩:∃ n:Nat,i=n:=⟨i.toNat,by omega⟩
 rw [aX] at hf0 hf1
 have qf:=K7 (0:Int) (show i<fr.length by omega)
 have hin:((i:Nat):Int).toNat=i:=aX i
 obtain ⟨b,hbq⟩:∃ b,fr.getD i 0=b:=⟨_,rfl⟩
 rw [hbq] at hf0 hf1 qf
 obtain ⟨R,hR⟩:∃ R,Iy b t=R:=⟨_,rfl⟩
 simp only [Try.f13,aZ] at hc
 subst hc
 refine Gf 2 (of_decide_eq_true (by kernel_rfl)) ?_
 (sym=>simp [nV,Sf,Se,Sh,Sg,Sc,Sb,hin,hbq,hR,Ur,Ut,Uv,Us,szN,Uu,Rh,Oe,ctx_shiftS_d,Of,T3.eq_def,Lh.eq_def,Zb,Zc,Ze,Zf,Zn,Zo,Z6,Qb,Qg,Qh,Qs,Qu,Qv,Qw,Qx,Q1,Q8,Ja,Jb,Jc,Je,Jj,Jq,Jr,Js,Jt,Jv,Jy,J2,J6,J7,Xf,Xj,Xl,Xn,Xo,Xr,Xu,Xw,Xx,Xy,X6,X7,X8,X9,Wb,Wc,Wd,Wf,Wj,Wl,Wo,Wp,Yn,Yo,Yr,Ys,Yt,Yu,Yv,Yw,Yz,Y4,Y9,Va,Vj,Vm,V0,V1,V3,V5,V6,U5,Gq,K6,K1];tactic =>
  try simp only [Uq] at *;try simp only [nc2] at *
  try simp (maxSteps:=4000000) only [nV,Sf,Se,Sh,Sg,Sc,Sb,hin,hbq,hR,Ur,Ut,Uv,Us,szN,Uu,U6]
  repeat' first|with_reducible assumption|with_reducible apply And.intro|intro _|omega|(rw [Uk];omega)
  refine Kk [6,7,13,14,15,16,17,18,19,20,21,22,23,24,25,26,27,28,29,30,31,32,33,34,35,36,37] (fun k:Nat=>[(12,.d (.int .i64 k))]) (fun k:Nat=>[(9,.row 3 ((pmI (fun _=>C7 b) t k).map enc) 0)]) (fun k:Nat=>k≤t.length) (fun k:Nat=>t.length-k) 0 ?_ ?_ ?_
  ·omega
  ·((try simp only [Ul,U0,Ux,U8,upd,U7,Ki,K0,Nat.reduceDiv,Nat.reduceMod,Nat.reduceMul,Nat.reduceAdd,Nat.reduceEqDiff,aV,aW,if_true,if_false,reduceIte]);(first|refine Wk.of_fl ?_|skip);simp only [Wk,wkK,Ga,wkT,wk1,AV.kept,keptAll,wkO,lk,Uw,and_true,true_and,and_self,Nat.reduceEqDiff,Nat.reduceLeDiff,if_true,if_false,reduceIte,reduceCtorEq,Option.isSome,false_implies];try simp [Wk,wkK,wkT,wk1,AV.kept,keptAll,wkO,lk,Uw,pmI_zero])
  rintro k hk
  have hpl:=pmI_len (f:=fun _=>C7 b) (l:=t) k
  rcases Kt k t.length with ⟨hlt,hlb⟩|⟨hlt,hlb⟩
  ·have q1:=K7 n0 (show k<(pmI (fun _=>C7 b) t k).length by omega)
   rw [pmI_at n0 hlt] at q1
   have hset:=pmI_set n0 hlt (f:=fun _=>C7 b)
   have hsame:=pmI_same n0 hlt (f:=fun _=>C7 b)
   have hbn:=hb (t.getD k n0) (by simp [hlt])
   obtain ⟨y,hy⟩:∃ y,t.getD k n0=y:=⟨_,rfl⟩
   rw [hy] at q1 hset hsame hbn
   obtain ⟨yk,yn,yi⟩:=y
   simp only at hbn
   obtain ⟨P,hP⟩:∃ P,pmI (fun _=>C7 b) t k=P:=⟨_,rfl⟩
   rw [hP] at q1 hset hsame hpl ⊢
   have hPm:(P.map (enc:Node→D)).length=t.length:=by rw [bV,hpl]
   by_cases h0:yk=0
   case neg =>
    have hk0:(yk==0)=false:=by rw [aQ];exact h0
    have hnx:=hsame (by unfold C7;rw [if_neg (fun h=>h0 h.1)])
    (sym=>simp [hlb,q1,hk0,hpl,hPm,nV,Sf,Se,Sh,Sg,Sc,Sb,hin,Ur,Ut,Uv,Us,szN,Uu,Rh,Oe,Of,ctx_shiftS_u,ctx_shiftS_w,T3.eq_def,Zb,Zc,Zd,Ze,Zf,Zg,Zh,Zi,Zj,Zk,Zl,Zm,Zo,Zp,Zq,Zs,Zt,Zu,Zv,Zw,Zx,Zy,Qd,Qf,Qm,Qn,Qo,Qs,Qt,Qu,Qv,Qw,Qx,Qy,Qz,Ja,Jb,Jf,Jl,Jm,Jn,Js,Jt,Ju,Jv,Jw,Jx,Jy,Jz,J2,J8,J9,Xb,Xi,Xj,Xk,Xl,Xm,Xn,Xr,Xs,Xt,Xu,Xv,Xw,Xx,Xy,X0,X2,X4,X6,X7,X8,X9,Wh,Wi,Wj,Wl,Wm,Wn,Wo,Wp,Wr,Wt,Ww,Wx,W0,W1,W2,W6,W7,Ya,Yb,Yn,Yo,Yp,Yq,Ys,Yu,Yv,Yw,Y7,Y9,Vj,Vk,Vy,Vz,V0,V1,V2,V3,V4,V5,V6,V8,Ui,Uj,U5,Gq,K6,K1];tactic =>
     try simp only [Uq] at *;try simp only [nc2] at *
     try simp (maxSteps:=4000000) only [hlb,q1,hk0,hpl,hPm,nV,Sf,Se,Sh,Sg,Sc,Sb,hin,Ur,Ut,Uv,Us,szN,Uu,U6]
     repeat' first|with_reducible assumption|with_reducible apply And.intro|intro _|omega|(rw [Uk];omega)
     all_goals first|with_reducible exact okq|omega|contradiction|exact ⟨k+1,by ((try simp only [Ul,U0,Ux,U8,upd,U7,Ki,K0,Nat.reduceDiv,Nat.reduceMod,Nat.reduceMul,Nat.reduceAdd,Nat.reduceEqDiff,aV,aW,if_true,if_false,reduceIte]);(first|refine Wk.of_fl ?_|skip);simp only [Wk,wkK,Ga,wkT,wk1,AV.kept,keptAll,wkO,lk,Uw,and_true,true_and,and_self,Nat.reduceEqDiff,Nat.reduceLeDiff,if_true,if_false,reduceIte,reduceCtorEq,Option.isSome,false_implies];try simp [Wk,wkK,wkT,wk1,AV.kept,keptAll,wkO,lk,Uw,hnx]),by omega,by omega⟩|skip)
   subst h0
   have hk0:((0:Int)==0)=true:=rfl
   rcases Dk 0 yi with ⟨h1,h1b⟩|⟨h1,h1b⟩
   ·have hyb:=hbn rfl
    have hs2:(P.map (enc:Node→D)).set k (.agg [.int .i64 0,.str yn,.int .i64 (yi+b)])=(pmI (fun _=>C7 b) t (k+1)).map enc:=by
     rw [←hset]
     unfold C7
     rw [if_pos ⟨rfl,h1⟩,←set_enc]
     rfl
    (sym=>simp [hlb,q1,hk0,h1b,hpl,hPm,qf,hs2,nV,Sf,Se,Sh,Sg,Sc,Sb,hin,Ur,Ut,Uv,Us,szN,Uu,Rh,Oe,Of,ctx_shiftS_u,ctx_shiftS_w,T3.eq_def,Zb,Zc,Zd,Ze,Zf,Zg,Zh,Zi,Zj,Zk,Zl,Zm,Zo,Zp,Zq,Zs,Zt,Zu,Zv,Zw,Zx,Zy,Qd,Qf,Qm,Qn,Qo,Qs,Qt,Qu,Qv,Qw,Qx,Qy,Qz,Ja,Jb,Jf,Jl,Jm,Jn,Js,Jt,Ju,Jv,Jw,Jx,Jy,Jz,J2,J8,J9,Xb,Xi,Xj,Xk,Xl,Xm,Xn,Xr,Xs,Xt,Xu,Xv,Xw,Xx,Xy,X0,X2,X4,X6,X7,X8,X9,Wh,Wi,Wj,Wl,Wm,Wn,Wo,Wp,Wr,Wt,Ww,Wx,W0,W1,W2,W6,W7,Ya,Yb,Yc,Yn,Yo,Yp,Yq,Ys,Yu,Yv,Yw,Y7,Y9,Vj,Vk,Vy,Vz,V0,V1,V2,V3,V4,V5,V6,V8,Ui,Uj,U5,Gq,K6,K1];tactic =>
     try simp only [Uq] at *;try simp only [nc2] at *
     try simp (maxSteps:=4000000) only [hlb,q1,hk0,h1b,hpl,hPm,qf,hs2,nV,Sf,Se,Sh,Sg,Sc,Sb,hin,Ur,Ut,Uv,Us,szN,Uu,U6]
     repeat' first|with_reducible assumption|with_reducible apply And.intro|intro _|omega|(rw [Uk];omega)
     all_goals first|with_reducible exact okq|omega|contradiction|exact ⟨k+1,wkq,by omega,by omega⟩|skip)
   ·have hnx:=hsame (by unfold C7;rw [if_neg (fun h=>by have:=h.2;simp only at this;omega)])
    (sym=>simp [hlb,q1,hk0,h1b,hpl,hPm,nV,Sf,Se,Sh,Sg,Sc,Sb,hin,Ur,Ut,Uv,Us,szN,Uu,Rh,Oe,Of,ctx_shiftS_u,ctx_shiftS_w,T3.eq_def,Zb,Zc,Zd,Ze,Zf,Zg,Zh,Zi,Zj,Zk,Zl,Zm,Zo,Zp,Zq,Zs,Zt,Zu,Zv,Zw,Zx,Zy,Qd,Qf,Qm,Qn,Qo,Qs,Qt,Qu,Qv,Qw,Qx,Qy,Qz,Ja,Jb,Jf,Jl,Jm,Jn,Js,Jt,Ju,Jv,Jw,Jx,Jy,Jz,J2,J8,J9,Xb,Xi,Xj,Xk,Xl,Xm,Xn,Xr,Xs,Xt,Xu,Xv,Xw,Xx,Xy,X0,X2,X4,X6,X7,X8,X9,Wh,Wi,Wj,Wl,Wm,Wn,Wo,Wp,Wr,Wt,Ww,Wx,W0,W1,W2,W6,W7,Ya,Yb,Yn,Yo,Yp,Yq,Ys,Yu,Yv,Yw,Y7,Y9,Vj,Vk,Vy,Vz,V0,V1,V2,V3,V4,V5,V6,V8,Ui,Uj,U5,Gq,K6,K1];tactic =>
     try simp only [Uq] at *;try simp only [nc2] at *
     try simp (maxSteps:=4000000) only [hlb,q1,hk0,h1b,hpl,hPm,nV,Sf,Se,Sh,Sg,Sc,Sb,hin,Ur,Ut,Uv,Us,szN,Uu,U6]
     repeat' first|with_reducible assumption|with_reducible apply And.intro|intro _|omega|(rw [Uk];omega)
     all_goals first|with_reducible exact okq|omega|contradiction|exact ⟨k+1,by ((try simp only [Ul,U0,Ux,U8,upd,U7,Ki,K0,Nat.reduceDiv,Nat.reduceMod,Nat.reduceMul,Nat.reduceAdd,Nat.reduceEqDiff,aV,aW,if_true,if_false,reduceIte]);(first|refine Wk.of_fl ?_|skip);simp only [Wk,wkK,Ga,wkT,wk1,AV.kept,keptAll,wkO,lk,Uw,and_true,true_and,and_self,Nat.reduceEqDiff,Nat.reduceLeDiff,if_true,if_false,reduceIte,reduceCtorEq,Option.isSome,false_implies];try simp [Wk,wkK,wkT,wk1,AV.kept,keptAll,wkO,lk,Uw,hnx]),by omega,by omega⟩|skip)
  ·have hke:k=t.length:=by omega
   have hfu:pmI (fun _=>C7 b) t k=R:=by rw [hke,pmI_full,←hR];rfl
   have hrl:R.length=t.length:=by rw [←hfu,hpl]
   rw [hfu]
   (sym=>simp [hlb,hrl,hR,hbq,nV,Sf,Se,Sh,Sg,Sc,Sb,hin,Ur,Ut,Uv,Us,szN,Uu,Rh,ctx_shiftS_d,Zb,Zc,Ze,Zf,Zg,Qd,Qf,Qp,Qq,Qr,Qs,Qu,Qv,Qw,Qx,Q1,Ja,Jb,Jd,Jl,Jm,Jn,Js,Jt,Ju,Jv,Jw,Jx,Jy,Jz,J4,Xj,Xl,Xm,Xp,Xq,Xr,Xu,Xw,Xx,X6,X7,X8,X9,Wo,Wp,Wr,Wt,Wx,Yn,Yo,Yp,Yq,Y9,Vz,V0,V1,V3,V5,V6,U5,Gq,K6,K1];tactic =>
    try simp only [Uq] at *;try simp only [nc2] at *
    try simp (maxSteps:=4000000) only [hlb,hrl,hR,hbq,nV,Sf,Se,Sh,Sg,Sc,Sb,hin,Ur,Ut,Uv,Us,szN,Uu,U6]
    repeat' first|with_reducible assumption|with_reducible apply And.intro|intro _|omega|(rw [Uk];omega)
    all_goals first|with_reducible exact okq|omega|rfl|trivial|skip))
end Go.Am.Ty
namespace Go.Am
theorem aLoop_killPH {C:Ctx} {c:Code} {Q:AExit→AS→Prop} {st:AS} (ks:List Nat) (i:Nat) (kills:List Nat) {α:Type} (vals:α→List (Nat×AV)) (objs:α→List (Nat×Obj)) (ok:α→Prop) (μ:α→Nat) (a0:α) (h0:ok a0)
  (hw:WkP ks st (D1 st kills (vals a0) (objs a0))) (h:∀ a,ok a→Shut (awp C c (aThen (fun s'=>∃ a',WkH i s' (D1 st kills (vals a') (objs a'))∧ok a'∧μ a'<μ a) Q) (D1 st kills (vals a) (objs a)))):aLoop C c Q st :=
 ⟨α,fun a=>D1 st kills (vals a) (objs a),ok,μ,WkH i,fun _ _ h=>.inr (.inr ⟨i,h⟩),⟨a0,⟨ks,hw⟩,h0⟩,fun a ha=>(h a ha).out⟩
end Go.Am
namespace Go.Am.Ty
open Go.Proofs Gr
open Enc (enc dec)
theorem el_set_enc {α:Type} [Enc α] {l:List α} {k:Nat} {y:α} (h:k<l.length):el ((l.set k y).map (enc:α→D)) k=enc y:=by
 unfold el
 rw [aY]
 simp [h]
theorem el_set {l:List D} {k:Nat} {y:D} (h:k<l.length):el (l.set k y) k=y:=by
 unfold el
 rw [aY]
 simp [h]
def T7 (b:Int) (p:Part):Part:=⟨p.kind,p.label,p.name,p.bind,p.many,p.num,Iy b p.t,Iy b p.u⟩
def Te (b:Int) (d:Def6):Def6:=⟨d.name,Iy b d.t,d.e.mapIdx fun _=>T7 b⟩
def Ls (l:List Mod6) (k:Nat) (m:Mod6):Mod6:=⟨m.name,m.imps,m.defs.mapIdx fun _=>Te (ah l k),m.sites⟩
def I5 (l:List Mod6):Sl Mod6×Int×Int:=if 60<ah l l.length then (⟨[]⟩,0,11) else (⟨l.mapIdx (Ls l)⟩,(ah l l.length:Int),0)
def LowT (t:List Node):Prop:=t.length≤1000000∧∀ n∈t,n.kind=0→n.n≤1000000
structure LowD (d:Def6):Prop where
 t:LowT d.t
 len:d.e.length≤1000000
 e:∀ p∈d.e,LowT p.t∧LowT p.u
structure NumOk (l:List Mod6):Prop where
 sites:SitesOk l
 len:∀ m∈l,m.defs.length≤1000
 low:∀ m∈l,∀ d∈m.defs,LowD d
def Hw:Con:=Nf (fun (l:Sl Mod6)=>NumOk l.l) (fun l=>I5 l.l)
noncomputable def F3:Ctx:=⟨tab,lkC [(11,Mp),(12,Mx),(15,My),(16,Li),(13,Lh)],60,lkB [],[],false⟩
theorem Sx:F3.τ=tab:=rfl
theorem Tz:F3.Γ=lkC [(11,Mp),(12,Mx),(15,My),(16,Li),(13,Lh)]:=rfl
theorem A0:F3.dp=60:=rfl
theorem T0:F3.Δ=lkB []:=rfl
theorem Et:F3.wr=false:=rfl
set_option maxRecDepth 100000 in
theorem good_NumberS:Hg Try.prog (6,Hw):=by
 refine ⟨Ke Try.func6 (by kernel_rfl) rfl,?_⟩
 have K:Gu Try.prog F3:=Ko G7 Kw (by
  intro p hp
  simp only [bQ,bZ,or_false] at hp
  rcases hp with rfl|rfl|rfl|rfl|rfl
  ·exact good_aheadS
  ·exact good_cloneMods
  ·exact good_cloneDefs
  ·exact good_cloneE
  ·exact good_shiftS) (by simp)
 obtain ⟨c,hc⟩:∃ c,Try.f6.body=some c:=⟨_,rfl⟩
 refine Kn K Try.func6 hc [.tmp 2,.tmp 3,.tmp 4] rfl 107 rfl (fun cvs hpre=>?_)
 change Hw.pre cvs at hpre
 unfold Hw at hpre
 obtain ⟨⟨l⟩,rfl,hN⟩:=con1q_pre hpre
 simp only at hN
 clear hpre
 have hS:=hN.sites
 obtain ⟨R,hR⟩:∃ R,I5 l=R:=⟨_,rfl⟩
 have hR2:=hR
 unfold I5 at hR2
 have hlen:=hS.len
 have hA:=aheadT_len l (l.length+1)
 have hat:∀ j,j≤l.length→el ((S8 l (l.length+1)).map (enc:Int→D)) j=enc (ah l j:Int):=fun j hj=>by
  have:=K7 (0:Int) (show j<(S8 l (l.length+1)).length by omega)
  rw [aheadT_at (by omega)] at this
  exact this
 have hatD:∀ j,j≤l.length→(S8 l (l.length+1)).getD j 0=ah l j:=fun j hj=>aheadT_at (by omega)
 have qe:=hat l.length (cZ _)
 have hal:=ah_le hS l.length (cZ _)
 obtain ⟨A,hAq⟩:∃ A,S8 l (l.length+1)=A:=⟨_,rfl⟩
 rw [hAq] at hA qe hat hatD
 have hAm:(A.map (enc:Int→D)).length=l.length+1:=by rw [bV,hA]
 simp only [Try.f6,aZ] at hc
 subst hc
 refine Gf 6 (of_decide_eq_true (by kernel_rfl)) ?_
 rcases Dk 60 (ah l l.length:Int) with ⟨h6,h6b⟩|⟨h6,h6b⟩
 ·rw [if_pos (by omega)] at hR2
  subst hR2
  (sym=>simp [hAq,hAm,qe,h6b,hR,lW,nV,G8,Sx,Tz,A0,T0,Hw.eq_def,Mp.eq_def,My.eq_def,Li.eq_def,Mx.eq_def,Lh.eq_def,Zb,Zc,Ze,Zf,Zn,Zo,Zp,Zq,Zu,Zv,Zw,Zy,Z6,Qb,Qd,Qf,Qg,Qh,Qm,Qn,Qp,Qq,Qr,Qs,Qu,Qv,Qw,Qx,Q1,Q8,Ja,Jb,Jc,Jd,Je,Jj,Jq,Jr,Js,Jt,Jv,Jw,Jy,Jz,J2,J3,J6,J7,Xd,Xf,Xj,Xl,Xm,Xq,Xr,Xu,Xw,Xx,Xy,X0,X6,X7,X8,X9,Wb,Wc,Wd,Wf,Wj,Wl,Wo,Wp,Wt,Wx,W1,W7,Yc,Yf,Yg,Yh,Yj,Yn,Yo,Yr,Ys,Yt,Yu,Yv,Yw,Yz,Y4,Y7,Y9,Va,Vj,Vm,Vv,Vx,Vy,V0,V1,V2,V3,V4,V5,V6,Ui,Uj,U5,G6,Pq,Gm,Gq,K6,K1,Gp,Pp,Gd];tactic =>
   try simp only [Uq] at *;try simp only [nc2] at *
   try simp (maxSteps:=4000000) only [hAq,hAm,qe,h6b,hR,lW,nV,G8,U6]
   repeat' first|with_reducible assumption|with_reducible apply And.intro|intro _|omega|(rw [Uk];omega)
   all_goals first|with_reducible exact okq|omega|exact hS|rfl|trivial|skip)
 rw [if_neg (by omega)] at hR2
 (sym=>simp [hAq,hAm,qe,h6b,lW,nV,G8,Sx,Tz,A0,T0,Hw.eq_def,Mp.eq_def,My.eq_def,Li.eq_def,Mx.eq_def,Lh.eq_def,Zb,Zc,Ze,Zf,Zn,Zo,Zp,Zq,Zu,Zv,Zw,Zy,Z6,Qb,Qd,Qf,Qg,Qh,Qm,Qn,Qs,Qu,Qv,Qw,Qx,Q1,Q8,Ja,Jb,Jc,Je,Jj,Jq,Jr,Js,Jt,Jv,Jw,Jy,Jz,J2,J6,J7,Xd,Xf,Xi,Xj,Xl,Xm,Xn,Xo,Xr,Xu,Xw,Xx,Xy,X0,X6,X7,X8,X9,Wb,Wc,Wd,Wf,Wj,Wl,Wo,Wp,Wt,Wx,W1,W7,Yc,Yf,Yg,Yh,Yj,Yn,Yo,Yr,Ys,Yt,Yu,Yv,Yw,Yz,Y4,Y7,Y9,Va,Vj,Vm,Vv,Vx,Vz,V0,V1,V2,V3,V4,V5,V6,Ui,Uj,U5,G6,Pq,Gm,Gq,K6,K1,Gp,Pp,Gd];tactic =>
  try simp only [Uq] at *;try simp only [nc2] at *
  try simp (maxSteps:=4000000) only [hAq,hAm,qe,h6b,lW,nV,G8,U6]
  repeat' first|with_reducible assumption|with_reducible apply And.intro|intro _|omega|(rw [Uk];omega)
  all_goals first|exact hS|omega|skip
  refine aLoop_killPH [5] 23 [7,8,9,10,11,12,13,27,28,29,30,31,32,33,34,35,36,37,38,39,40,41,42,43,44,45,46,47,48,49,50,51,52,53,54,55,56,57,58,59,60,61,62,63,64,65,66,67,68,69,70,71,72,73,74,75,76,77,78,79,80,81,82,83,84,85,86,87,88,89,90,91,92,93,94,95,96,97,98,99,100] (fun k:Nat=>[(5,.d (.ptr 1 (.list 1 (A.map enc)))),(26,.d (.int .i64 k))]) (fun k:Nat=>[(5,.fbox 1 (.list 1 (A.map enc))),(23,.row 4 ((pmI (Ls l) l k).map enc) k),(50023,.slot k 2)]) (fun k:Nat=>k≤l.length) (fun k:Nat=>l.length-k) 0 ?_ ?_ ?_
  ·omega
  ·((simp only [WkP,getD_fl',getC,U7,Ki,K0,pur,lk,upd,List.getD_cons_zero,List.getD_cons_succ,aV,aW,Nat.reduceDiv,Nat.reduceMod,Nat.reduceMul,Nat.reduceAdd,Nat.reduceEqDiff,if_true,if_false,reduceIte]);refine And.intro (by simp) ?_;((try simp only [Ul,U0,Ux,U8,upd,U7,Ki,K0,Nat.reduceDiv,Nat.reduceMod,Nat.reduceMul,Nat.reduceAdd,Nat.reduceEqDiff,aV,aW,if_true,if_false,reduceIte]);(first|refine Wk.of_fl ?_|skip);simp only [Wk,wkK,Ga,wkT,wk1,AV.kept,keptAll,wkO,lk,Uw,and_true,true_and,and_self,Nat.reduceEqDiff,Nat.reduceLeDiff,if_true,if_false,reduceIte,reduceCtorEq,Option.isSome,false_implies];try simp [Wk,wkK,wkT,wk1,AV.kept,keptAll,wkO,lk,Uw,pmI_zero]))<;>rfl
  rintro k hk
  have hpl:=pmI_len (f:=Ls l) (l:=l) k
  rcases Kt k l.length with ⟨hlt,hlb⟩|⟨hlt,hlb⟩
  rotate_left
  ·have hke:k=l.length:=by omega
   rw [hke]
   rw [hke] at hlb
   rw [pmI_full]
   subst hR2
   (sym=>simp [hlb,hAq,hAm,qe,hR,lW,nV,G8,Sx,Tz,A0,T0,Et,Mp.eq_def,My.eq_def,Li.eq_def,Mx.eq_def,Lh.eq_def,Zb,Zc,Ze,Zf,Zg,Zh,Zi,Zj,Zk,Zl,Zm,Zo,Zp,Zq,Zv,Zy,Z6,Qd,Qf,Qp,Qq,Qr,Qs,Qt,Qu,Qv,Qw,Qx,Qy,Qz,Q1,Ja,Jb,Jd,Jl,Jm,Jn,Js,Jt,Ju,Jv,Jw,Jx,Jy,Jz,J2,J4,Xd,Xf,Xj,Xk,Xl,Xm,Xp,Xq,Xr,Xs,Xt,Xu,Xv,Xw,Xx,Xy,X2,X6,X7,X8,X9,Wh,Wi,Wo,Wp,Wr,Wt,Ww,Wx,W0,W1,W7,Ya,Yc,Yf,Yg,Yn,Yo,Yp,Yq,Y7,Y9,Va,Vj,Vz,V0,V1,V2,V3,V4,V5,V6,V8,Ui,U5,G6,Pq,Gm,Gq,K6,K1,Gp,Pp,Gd];tactic =>
    try simp only [Uq] at *;try simp only [nc2] at *
    try simp (maxSteps:=4000000) only [hlb,hAq,hAm,qe,hR,lW,nV,G8,U6]
    repeat' first|with_reducible assumption|with_reducible apply And.intro|intro _|omega|(rw [Uk];omega)
    all_goals first|with_reducible exact okq|omega|rfl|trivial|(simp;done)|skip)
  have q0:=K7 C8 hlt
  have q1:=K7 C8 (show k<(pmI (Ls l) l k).length by omega)
  rw [pmI_at C8 hlt] at q1
  have hset:=pmI_set C8 hlt (f:=Ls l)
  have hmem:l.getD k C8∈l:=by simp [hlt]
  have hdl:=hN.len _ hmem
  have hlow:=hN.low _ hmem
  have hbk:=ah_le hS k hk
  have hatk:=hatD k hk
  obtain ⟨m,hm⟩:∃ m,l.getD k C8=m:=⟨_,rfl⟩
  rw [hm] at q0 q1 hset hdl hlow
  obtain ⟨mn,mi,md,ms⟩:=m
  simp only at hdl hlow
  obtain ⟨P,hP⟩:∃ P,pmI (Ls l) l k=P:=⟨_,rfl⟩
  rw [hP] at q1 hset hpl ⊢
  have hPm:(P.map (enc:Mod6→D)).length=l.length:=by rw [bV,hpl]
  have hin:((k:Nat):Int).toNat=k:=aX k
  obtain ⟨b,hbq⟩:∃ b:Int,(ah l k:Int)=b:=⟨_,rfl⟩
  rw [hbq] at hatk
  have hb0:0≤b:=by omega
  have hb1:b≤1000000:=by omega
  have hl2:∀ X:D,((P.map (enc:Mod6→D)).set k X).length=l.length:=fun X=>by rw [List.length_set,hPm]
  have hkl:(k:Int)<(l.length:Int):=by omega
  (sym=>simp [hlb,q0,q1,hPm,hl2,Km,lW,nV,G8,M8,Sx,Tz,T0,Et,Mp.eq_def,My.eq_def,Li.eq_def,Mx.eq_def,Lh.eq_def,Zb,Zc,Ze,Zf,Zh,Zi,Zj,Zk,Zl,Zm,Zo,Zp,Zq,Zs,Zu,Zv,Zw,Zx,Zy,Z6,Qb,Qd,Qf,Qg,Qh,Qk,Qm,Qn,Qs,Qt,Qu,Qv,Qw,Qx,Qy,Qz,Q1,Q3,Q8,Ja,Jb,Jc,Je,Jl,Jm,Jn,Js,Jt,Jv,Jw,Jx,Jy,Jz,J2,J9,Xd,Xf,Xi,Xj,Xk,Xl,Xm,Xn,Xo,Xr,Xs,Xt,Xu,Xv,Xw,Xx,Xy,X0,X2,X3,X4,X5,X6,X7,X8,X9,Wb,Wd,Wf,Wg,Wh,Wi,Wj,Wl,Wm,Wn,Wo,Wp,Wr,Wt,Wx,W1,W2,Ya,Yb,Yf,Yg,Yn,Yo,Yp,Yq,Yr,Ys,Yu,Yv,Yw,Y0,Y1,Y7,Y9,Va,Vj,Vr,Vy,Vz,V0,V1,V2,V3,V4,V5,V6,V8,Ui,Uj,U5,G6,Pq,Gm,Gq,K6,K1,Gp,Pp,Gd];tactic =>
   try simp only [Uq] at *;try simp only [nc2] at *
   try simp (maxSteps:=4000000) only [hlb,q0,q1,hPm,hl2,Km,lW,nV,G8,M8,U6]
   repeat' first|with_reducible assumption|with_reducible apply And.intro|intro _|omega|(rw [Uk];omega)
   all_goals first|with_reducible exact okq|omega|skip
   refine aLoop_killP [8] [9,10,11,12,13,47,48,49,50,51,52,53,54,55,56,57,58,59,60,61,62,63,64,65,66,67,68,69,70,71,72,73,74,75,76,77,78,79,80,81,82,83,84,85,86,87,88,89,90,91,92,93,94,95,96,97,98,99] (fun d:Nat=>[(8,.d (.clo 13 [.ptr 1 (.list 1 (A.map enc)),.ptr 1 (.int .i64 k)])),(46,.d (.int .i64 d))]) (fun d:Nat=>[(7,.fbox 1 (.int .i64 k)),(37,.row 3 ((pmI (fun _=>Te b) md d).map enc) 0)]) (fun d:Nat=>d≤md.length) (fun d:Nat=>md.length-d) 0 ?_ ?_ ?_
   ·omega
   ·((simp only [WkP,getD_fl',getC,U7,Ki,K0,pur,lk,upd,List.getD_cons_zero,List.getD_cons_succ,aV,aW,Nat.reduceDiv,Nat.reduceMod,Nat.reduceMul,Nat.reduceAdd,Nat.reduceEqDiff,if_true,if_false,reduceIte]);refine And.intro (by simp) ?_;((try simp only [Ul,U0,Ux,U8,upd,U7,Ki,K0,Nat.reduceDiv,Nat.reduceMod,Nat.reduceMul,Nat.reduceAdd,Nat.reduceEqDiff,aV,aW,if_true,if_false,reduceIte]);(first|refine Wk.of_fl ?_|skip);simp only [Wk,wkK,Ga,wkT,wk1,AV.kept,keptAll,wkO,lk,Uw,and_true,true_and,and_self,Nat.reduceEqDiff,Nat.reduceLeDiff,if_true,if_false,reduceIte,reduceCtorEq,Option.isSome,false_implies];try simp [Wk,wkK,wkT,wk1,AV.kept,keptAll,wkO,lk,Uw,pmI_zero]))<;>rfl
   rintro d hd
   have hdlen:=pmI_len (f:=fun _=>Te b) (l:=md) d
   rcases Kt d md.length with ⟨hdlt,hdlb⟩|⟨hdlt,hdlb⟩
   rotate_left
   ·have hde:d=md.length:=by omega
    have hfu:pmI (fun _=>Te b) md d=md.mapIdx fun _=>Te b:=by rw [hde,pmI_full]
    have hset2:(P.map (enc:Mod6→D)).set k (.agg [.str mn,.list 1 (mi.map enc),.list 3 ((md.mapIdx fun _=>Te b).map enc),.list 3 (ms.map enc)])=(pmI (Ls l) l (k+1)).map enc:=by
     rw [←hset,←set_enc]
     unfold Ls
     rw [hbq]
     rfl
    have hPk:k<(P.map (enc:Mod6→D)).length:=by omega
    have hfl:(md.mapIdx fun _=>Te b).length=md.length:=by simp
    rw [hfu]
    (sym=>simp [hdlb,hfl,hl2,Sf,Se,Sh,Sg,Sc,Sb,lW,nV,G8,M8,szP,Ur,Ut,Uv,Us,szN,Uu,Sx,Et,Zb,Zc,Ze,Zf,Zg,Qd,Qf,Qs,Qu,Qv,Qw,Qx,Jb,Jl,Jm,Jn,Js,Jt,Ju,Jv,Jw,Jx,Jy,Jz,Xj,Xl,Xm,Xp,Xr,Xu,Xw,Xx,X6,X7,X8,X9,Wo,Wp,Wr,Wt,Wx,Yn,Yo,Yp,Yq,Y9,Vj,Vz,V0,V1,V5,V6,U5,G6,Pq,Gm,Gq,K6,K1,Gp,Pp,Gd];tactic =>
     try simp only [Uq] at *;try simp only [nc2] at *
     try simp (maxSteps:=4000000) only [hdlb,hfl,hl2,Sf,Se,Sh,Sg,Sc,Sb,lW,nV,G8,M8,szP,Ur,Ut,Uv,Us,szN,Uu,U6]
     repeat' first|with_reducible assumption|with_reducible apply And.intro|intro _|omega|(rw [Uk];omega)
     all_goals first|with_reducible exact okq|omega|exact ⟨k+1,by ((try simp only [Ul,U0,Ux,U8,upd,U7,Ki,K0,Nat.reduceDiv,Nat.reduceMod,Nat.reduceMul,Nat.reduceAdd,Nat.reduceEqDiff,aV,aW,if_true,if_false,reduceIte]);simp only [WkH,pur,lk,upd,D.setCell,el_set,List.set_set,aV,aW,Nat.reduceDiv,Nat.reduceMod,Nat.reduceMul,Nat.reduceAdd,Nat.reduceEqDiff,if_true,if_false,reduceIte,hset2,hl2,hPk,el_set];refine And.intro (by first|trivial|(simp;done)|omega) (And.intro (by first|trivial|(simp;done)) (And.intro (by first|trivial|omega|(simp;done)) (And.intro (by first|trivial|omega|(simp;omega)) (And.intro (by first|trivial|omega) ?_))));((try simp only [Ul,U0,Ux,U8,upd,U7,Ki,K0,Nat.reduceDiv,Nat.reduceMod,Nat.reduceMul,Nat.reduceAdd,Nat.reduceEqDiff,aV,aW,if_true,if_false,reduceIte]);(first|refine Wk.of_fl ?_|skip);simp only [Wk,wkK,Ga,wkT,wk1,AV.kept,keptAll,wkO,lk,Uw,and_true,true_and,and_self,Nat.reduceEqDiff,Nat.reduceLeDiff,if_true,if_false,reduceIte,reduceCtorEq,Option.isSome,false_implies];try simp [Wk,wkK,wkT,wk1,AV.kept,keptAll,wkO,lk,Uw,hset2,hl2,hPk,el_set])),by omega,by omega⟩|skip)
   have q2:=K7 Du (show d<(pmI (fun _=>Te b) md d).length by omega)
   rw [pmI_at Du hdlt] at q2
   have hsetd:=pmI_set Du hdlt (f:=fun _=>Te b)
   have hlowd:=hlow (md.getD d Du) (by simp [hdlt])
   obtain ⟨x,hx⟩:∃ x,md.getD d Du=x:=⟨_,rfl⟩
   rw [hx] at q2 hsetd hlowd
   obtain ⟨xn,xt,xe⟩:=x
   obtain ⟨⟨lowt1,lowt2⟩,lowl,lowe⟩:=hlowd
   simp only at lowt1 lowt2 lowl lowe
   obtain ⟨Q,hQ⟩:∃ Q,pmI (fun _=>Te b) md d=Q:=⟨_,rfl⟩
   rw [hQ] at q2 hsetd hdlen ⊢
   have hQm:(Q.map (enc:Def6→D)).length=md.length:=by rw [bV,hdlen]
   (sym=>simp [hdlb,q2,hQm,hl2,Gw,lW,nV,G8,M8,szP,Sx,Tz,A0,T0,Mp.eq_def,My.eq_def,Li.eq_def,Mx.eq_def,Lh.eq_def,Zb,Zc,Ze,Zf,Zo,Zp,Zq,Zs,Zu,Zv,Zw,Zx,Zy,Z6,Qb,Qd,Qf,Qg,Qh,Qm,Qn,Qo,Qs,Qu,Qv,Qw,Qx,Q1,Q8,Ja,Jb,Jc,Je,Jl,Jm,Jn,Js,Jt,Jv,Jw,Jx,Jy,Jz,J2,J8,Xa,Xb,Xd,Xf,Xi,Xj,Xl,Xm,Xn,Xo,Xr,Xu,Xw,Xx,Xy,X0,X6,X7,X8,X9,Wb,Wd,Wf,Wh,Wi,Wj,Wl,Wm,Wn,Wo,Wp,Wr,Wt,Wx,W1,W6,Yn,Yo,Yp,Yq,Ys,Yu,Yv,Yw,Y0,Y1,Y7,Y9,Va,Vj,Vy,V0,V1,V2,V3,V4,V5,V6,Ui,Uj,U5,G6,Pq,Gm,Gq,K6,K1,Gp,Pp,Gd];tactic =>
    try simp only [Uq] at *;try simp only [nc2] at *
    try simp (maxSteps:=4000000) only [hdlb,q2,hQm,hl2,Gw,lW,nV,G8,M8,szP,U6]
    repeat' first|with_reducible assumption|with_reducible apply And.intro|intro _|omega|(rw [Uk];omega)
    all_goals first|with_reducible exact okq|omega|skip
    refine Kk [12,13,57,58,59,60,61,62,63,64,65,66,67,68,69,70,71,72,73,74,75,76,77] (fun j:Nat=>[(56,.d (.int .i64 j))]) (fun j:Nat=>[(53,.row 8 ((pmI (fun _=>T7 b) xe j).map enc) 0)]) (fun j:Nat=>j≤xe.length) (fun j:Nat=>xe.length-j) 0 ?_ ?_ ?_
    ·omega
    ·((try simp only [Ul,U0,Ux,U8,upd,U7,Ki,K0,Nat.reduceDiv,Nat.reduceMod,Nat.reduceMul,Nat.reduceAdd,Nat.reduceEqDiff,aV,aW,if_true,if_false,reduceIte]);(first|refine Wk.of_fl ?_|skip);simp only [Wk,wkK,Ga,wkT,wk1,AV.kept,keptAll,wkO,lk,Uw,and_true,true_and,and_self,Nat.reduceEqDiff,Nat.reduceLeDiff,if_true,if_false,reduceIte,reduceCtorEq,Option.isSome,false_implies];try simp [Wk,wkK,wkT,wk1,AV.kept,keptAll,wkO,lk,Uw,pmI_zero])
    rintro j hj
    have hjlen:=pmI_len (f:=fun _=>T7 b) (l:=xe) j
    rcases Kt j xe.length with ⟨hjlt,hjlb⟩|⟨hjlt,hjlb⟩
    rotate_left
    ·have hje:j=xe.length:=by omega
     have hfu:pmI (fun _=>T7 b) xe j=xe.mapIdx fun _=>T7 b:=by rw [hje,pmI_full]
     have hEl:(xe.mapIdx fun _=>T7 b).length=xe.length:=by simp
     rw [hfu]
     obtain ⟨E2,hE2⟩:∃ q,(xe.mapIdx fun _=>T7 b)=q:=⟨_,rfl⟩
     obtain ⟨T2,hT2⟩:∃ q,Iy b xt=q:=⟨_,rfl⟩
     rw [hE2] at hEl ⊢
     have r7:(Q.map (enc:Def6→D)).set d (.agg [.str xn,enc (Sl.mk T2),.list 8 (xe.map enc)])=(Q.set d ⟨xn,T2,xe⟩).map enc:=set_enc (y:=(⟨xn,T2,xe⟩:Def6))
     have r8:el ((Q.set d ⟨xn,T2,xe⟩).map (enc:Def6→D)) d=.agg [.str xn,enc (Sl.mk T2),.list 8 (xe.map enc)]:=el_set_enc (by omega)
     have r9:((Q.set d ⟨xn,T2,xe⟩).map (enc:Def6→D)).set d (.agg [.str xn,enc (Sl.mk T2),.list 8 (E2.map enc)])=(pmI (fun _=>Te b) md (d+1)).map enc:=by
      rw [←hsetd]
      have:Te b ⟨xn,xt,xe⟩=⟨xn,T2,E2⟩:=by unfold Te;rw [hT2,hE2]
      rw [this]
      refine Eq.trans (set_enc (y:=(⟨xn,T2,E2⟩:Def6))) ?_
      rw [List.set_set]
     have r9b:(Q.map (enc:Def6→D)).set d (.agg [.str xn,enc (Sl.mk T2),.list 8 (E2.map enc)])=(pmI (fun _=>Te b) md (d+1)).map enc:=by
      rw [←r9,←set_enc,List.set_set]
     have hQ1:((Q.set d ⟨xn,T2,xe⟩).map (enc:Def6→D)).length=md.length:=by rw [bV,List.length_set,hdlen]
     (sym=>simp [hjlb,hEl,hl2,hQm,hQ1,q2,D.setCell.eq_1,r7,r8,r9,hin,hatk,hT2,Gw,Sf,Se,Sh,Sg,Sc,Sb,lW,nV,G8,M8,szP,Ur,Ut,Uv,Us,szN,Uu,Sx,Tz,T0,Et,Mp.eq_def,My.eq_def,Li.eq_def,Mx.eq_def,Lh.eq_def,Zb,Zc,Ze,Zf,Zg,Zh,Zi,Zj,Zk,Zl,Zm,Zo,Zp,Zq,Zs,Zv,Zw,Zx,Zy,Qb,Qc,Qd,Qf,Qg,Qh,Qo,Qs,Qt,Qu,Qv,Qw,Qx,Qy,Qz,Q1,Q8,Ja,Jb,Jc,Je,Jl,Jm,Jn,Js,Jt,Ju,Jv,Jw,Jx,Jy,Jz,J2,J4,Xd,Xf,Xj,Xk,Xl,Xm,Xp,Xr,Xs,Xt,Xu,Xv,Xw,Xx,Xy,X2,X3,X4,X5,X6,X7,X8,X9,Wb,Wd,Wf,Wh,Wi,Wj,Wl,Wm,Wn,Wo,Wp,Wr,Wt,Wx,W1,W5,W7,Ya,Yh,Yi,Yn,Yo,Yp,Yq,Yr,Ys,Y0,Y1,Y7,Y9,Va,Vj,Vz,V0,V1,V2,V3,V4,V5,V6,V8,Ui,Uj,U5,G6,Pq,Gm,Gq,K6,K1,Gp,Pp,Gd];tactic =>
      try simp only [Uq] at *;try simp only [nc2] at *
      try simp (maxSteps:=4000000) only [hjlb,hEl,hl2,hQm,hQ1,q2,D.setCell.eq_1,r7,r8,r9,hin,hatk,hT2,Gw,Sf,Se,Sh,Sg,Sc,Sb,lW,nV,G8,M8,szP,Ur,Ut,Uv,Us,szN,Uu,U6]
      repeat' first|with_reducible assumption|with_reducible apply And.intro|intro _|omega|(rw [Uk];omega)
      all_goals first|with_reducible exact okq|omega|exact lowt2 _ (by assumption) (by assumption)|exact ⟨d+1,by ((try simp only [Ul,U0,Ux,U8,upd,U7,Ki,K0,Nat.reduceDiv,Nat.reduceMod,Nat.reduceMul,Nat.reduceAdd,Nat.reduceEqDiff,aV,aW,if_true,if_false,reduceIte]);(first|refine Wk.of_fl ?_|skip);simp only [Wk,wkK,Ga,wkT,wk1,AV.kept,keptAll,wkO,lk,Uw,and_true,true_and,and_self,Nat.reduceEqDiff,Nat.reduceLeDiff,if_true,if_false,reduceIte,reduceCtorEq,Option.isSome,false_implies];try simp [Wk,wkK,wkT,wk1,AV.kept,keptAll,wkO,lk,Uw,r9,r9b]),by omega,by omega⟩|skip)
    have q3:=K7 e0 (show j<(pmI (fun _=>T7 b) xe j).length by omega)
    rw [pmI_at e0 hjlt] at q3
    have hsetj:=pmI_set e0 hjlt (f:=fun _=>T7 b)
    have hlowp:=lowe (xe.getD j e0) (by simp [hjlt])
    obtain ⟨p,hp⟩:∃ x,xe.getD j e0=x:=⟨_,rfl⟩
    rw [hp] at q3 hsetj hlowp
    obtain ⟨pk,pl,pn,pb,pm,pq,pt,pu⟩:=p
    obtain ⟨⟨lp1,lp2⟩,lp3,lp4⟩:=hlowp
    simp only at lp1 lp2 lp3 lp4
    obtain ⟨S,hSq⟩:∃ Q,pmI (fun _=>T7 b) xe j=Q:=⟨_,rfl⟩
    rw [hSq] at q3 hsetj hjlen ⊢
    have hSm:(S.map (enc:Part→D)).length=xe.length:=by rw [bV,hjlen]
    obtain ⟨T2,hT2⟩:∃ q,Iy b pt=q:=⟨_,rfl⟩
    obtain ⟨U2,hU2⟩:∃ q,Iy b pu=q:=⟨_,rfl⟩
    have r7:(S.map (enc:Part→D)).set j (.agg [.int .i64 pk,.str pl,.str pn,.str pb,.int .i64 pm,.int .i64 pq,enc (Sl.mk T2),.list 3 (pu.map enc)])=(S.set j ⟨pk,pl,pn,pb,pm,pq,T2,pu⟩).map enc:=set_enc (y:=(⟨pk,pl,pn,pb,pm,pq,T2,pu⟩:Part))
    have r8:el ((S.set j ⟨pk,pl,pn,pb,pm,pq,T2,pu⟩).map (enc:Part→D)) j=.agg [.int .i64 pk,.str pl,.str pn,.str pb,.int .i64 pm,.int .i64 pq,enc (Sl.mk T2),.list 3 (pu.map enc)]:=el_set_enc (by omega)
    have r9:((S.set j ⟨pk,pl,pn,pb,pm,pq,T2,pu⟩).map (enc:Part→D)).set j (.agg [.int .i64 pk,.str pl,.str pn,.str pb,.int .i64 pm,.int .i64 pq,enc (Sl.mk T2),enc (Sl.mk U2)])=(pmI (fun _=>T7 b) xe (j+1)).map enc:=by
     rw [←hsetj]
     have:T7 b ⟨pk,pl,pn,pb,pm,pq,pt,pu⟩=⟨pk,pl,pn,pb,pm,pq,T2,U2⟩:=by unfold T7;rw [hT2,hU2]
     rw [this]
     refine Eq.trans (set_enc (y:=(⟨pk,pl,pn,pb,pm,pq,T2,U2⟩:Part))) ?_
     rw [List.set_set]
    have r9b:(S.map (enc:Part→D)).set j (.agg [.int .i64 pk,.str pl,.str pn,.str pb,.int .i64 pm,.int .i64 pq,enc (Sl.mk T2),enc (Sl.mk U2)])=(pmI (fun _=>T7 b) xe (j+1)).map enc:=by
     rw [←r9,←set_enc,List.set_set]
    have hS1:((S.set j ⟨pk,pl,pn,pb,pm,pq,T2,pu⟩).map (enc:Part→D)).length=xe.length:=by rw [bV,List.length_set,hjlen]
    have q3:el (S.map (enc:Part→D)) j=.agg [.int .i64 pk,.str pl,.str pn,.str pb,.int .i64 pm,.int .i64 pq,.list 3 (pt.map enc),.list 3 (pu.map enc)]:=q3
    (sym=>simp [hjlb,hSm,hS1,q3,D.setCell.eq_1,r7,r8,r9,hin,hatk,hT2,hU2,Sf,Se,Sh,Sg,Sc,Sb,lW,nV,G8,M8,szP,Ur,Ut,Uv,Us,szN,Uu,Sx,Tz,T0,Et,Mp.eq_def,My.eq_def,Li.eq_def,Mx.eq_def,Lh.eq_def,Zb,Zc,Ze,Zf,Zg,Zh,Zi,Zj,Zk,Zl,Zm,Zo,Zp,Zq,Zs,Zu,Zv,Zw,Zx,Zy,Qb,Qc,Qd,Qf,Qg,Qh,Qm,Qn,Qo,Qs,Qt,Qu,Qv,Qw,Qx,Qy,Qz,Q1,Q8,Ja,Jb,Jc,Je,Jl,Jm,Jn,Js,Jt,Jv,Jw,Jy,Jz,J2,J8,Xa,Xb,Xd,Xf,Xi,Xj,Xk,Xl,Xm,Xn,Xr,Xs,Xt,Xu,Xv,Xw,Xx,Xy,X0,X2,X3,X4,X5,X6,X7,X8,X9,Wb,Wd,Wf,Wh,Wi,Wj,Wl,Wm,Wn,Wo,Wp,Wr,Wt,Wx,W1,W6,Yh,Yi,Yn,Yo,Yp,Yq,Yr,Ys,Yu,Yv,Yw,Y0,Y1,Y7,Y9,Va,Vj,Vy,Vz,V0,V1,V2,V3,V4,V5,V6,V8,Ui,Uj,U5,G6,Pq,Gm,Gq,K6,K1,Gp,Pp,Gd];tactic =>
     try simp only [Uq] at *;try simp only [nc2] at *
     try simp (maxSteps:=4000000) only [hjlb,hSm,hS1,q3,D.setCell.eq_1,r7,r8,r9,hin,hatk,hT2,hU2,Sf,Se,Sh,Sg,Sc,Sb,lW,nV,G8,M8,szP,Ur,Ut,Uv,Us,szN,Uu,U6]
     repeat' first|with_reducible assumption|with_reducible apply And.intro|intro _|omega|(rw [Uk];omega)
     all_goals first|with_reducible exact okq|omega|exact lp2 _ (by assumption) (by assumption)|exact lp4 _ (by assumption) (by assumption)|exact ⟨j+1,by ((try simp only [Ul,U0,Ux,U8,upd,U7,Ki,K0,Nat.reduceDiv,Nat.reduceMod,Nat.reduceMul,Nat.reduceAdd,Nat.reduceEqDiff,aV,aW,if_true,if_false,reduceIte]);(first|refine Wk.of_fl ?_|skip);simp only [Wk,wkK,Ga,wkT,wk1,AV.kept,keptAll,wkO,lk,Uw,and_true,true_and,and_self,Nat.reduceEqDiff,Nat.reduceLeDiff,if_true,if_false,reduceIte,reduceCtorEq,Option.isSome,false_implies];try simp [Wk,wkK,wkT,wk1,AV.kept,keptAll,wkO,lk,Uw,r9,r9b]),by omega,by omega⟩|skip))))
def Pc {α:Type} (w:α→Nat) (l:List α):Nat:=(l.map w).sum
theorem O5 {α:Type} {w:α→Nat} {l:List α} {k:Nat} (d:α) (h:k<l.length):Pc w (l.take (k+1))=Pc w (l.take k)+w (l.getD k d):=by
 unfold Pc
 rw [R6 d h,List.map_append,List.sum_append]
 simp
theorem wsum_le {α:Type} {w:α→Nat} {l:List α} {B n:Nat} (h:∀ x∈l,w x≤B) (hn:l.length≤n):Pc w l≤n*B:=by
 have:Pc w l≤l.length*B:=by
  clear hn
  induction l with
  | nil=>simp [Pc]
  | cons x l ih =>
   have h1:=h x (by simp)
   have h2:=ih fun y hy=>h y (List.mem_cons_of_mem _ hy)
   unfold Pc at h2 ⊢
   rw [List.map_cons,List.sum_cons,bJ,Nat.add_mul]
   omega
 exact Nat.le_trans this (Nat.mul_le_mul_right _ hn)
theorem wsum_take {α:Type} {w:α→Nat} {l:List α} (k:Nat):Pc w (l.take k)≤Pc w l:=by
 have h:Pc w l=Pc w (l.take k)+Pc w (l.drop k):=by
  unfold Pc
  rw [←List.sum_append,←List.map_append,List.take_append_drop]
 omega
def nd0:Node:=⟨0,[],0⟩
def countS (z:Int) (l:List Mod6):Nat:=Pc (fun m=>Pc (C9 z) m.defs) l
def typesD (d:Def6) (j:Nat):List (List Node):=d.t::(d.e.take j).flatMap fun p=>[p.t,p.u]
theorem typesD_snoc {d:Def6} {j:Nat} (h:j<d.e.length):typesD d (j+1)=typesD d j++[(d.e.getD j e0).t,(d.e.getD j e0).u]:=by
 unfold typesD
 rw [R6 e0 h,List.flatMap_append]
 simp
theorem typesD_len {d:Def6} {j:Nat} (h:j≤d.e.length):(typesD d j).length=2*j+1:=by
 induction j with
 | zero=>rfl
 | succ j ih =>
  rw [typesD_snoc (by omega),bY,ih (by omega)]
  simp
  omega
theorem typesD_sum {z:Int} {d:Def6} {j:Nat} (h:j≤d.e.length):Pc (Hz (Pi z)) (typesD d j)=Hz (Pi z) d.t+Pc (P6 z) (d.e.take j):=by
 induction j with
 | zero=>simp [typesD,Pc]
 | succ j ih =>
  rw [typesD_snoc (by omega),O5 e0 (by omega)]
  have:=ih (by omega)
  unfold Pc at this ⊢
  rw [List.map_append,List.sum_append,this]
  simp [P6]
  omega
theorem typesD_all {z:Int} {d:Def6}:Pc (Hz (Pi z)) (typesD d d.e.length)=C9 z d:=by
 rw [typesD_sum (cZ _),List.take_length]
 rfl
theorem nodeW_le (z:Int) (t:List Node):Hz (Pi z) t≤t.length:=by
 have:=wsum_le (w:=Pi z) (l:=t) (B:=1) (n:=t.length) (fun x _=>by unfold Pi;split<;>omega) (cZ _)
 unfold Pc at this
 unfold Hz
 omega
structure CntOk (l:List Mod6):Prop where
 len:l.length≤20
 defs:∀ m∈l,m.defs.length≤200
 t:∀ m∈l,∀ d∈m.defs,d.t.length≤100001
 e:∀ m∈l,∀ d∈m.defs,d.e.length≤300000
 p:∀ m∈l,∀ d∈m.defs,∀ p∈d.e,p.t.length≤100001∧p.u.length≤100001
theorem defW_le {z:Int} {d:Def6} (ht:d.t.length≤100001) (he:d.e.length≤300000) (hp:∀ p∈d.e,p.t.length≤100001∧p.u.length≤100001):C9 z d≤60000800000:=by
 have h1:=nodeW_le z d.t
 have h2:=wsum_le (w:=P6 z) (l:=d.e) (B:=200002) (n:=300000) (fun p h=>by
  have:=hp p h
  have a:=nodeW_le z p.t
  have b:=nodeW_le z p.u
  unfold P6
  omega) he
 unfold C9 Bj
 unfold Pc at h2
 omega
theorem countS_le {z:Int} {l:List Mod6} (h:CntOk l):countS z l≤1000000000000000:=by
 have:=wsum_le (w:=fun m=>Pc (C9 z) m.defs) (l:=l) (B:=200*60000800000) (n:=20) (fun m hm=>wsum_le (fun d hd=>defW_le (h.t m hm d hd) (h.e m hm d hd) (h.p m hm d hd)) (h.defs m hm)) h.len
 unfold countS
 omega
def Mc:Con:=Ms (fun (l:Sl Mod6) (_:Int)=>CntOk l.l) (fun l z=>(countS z l.l:Int))
noncomputable def Fi:Ctx:=⟨tab,lkC [],60,lkB [],[],false⟩
theorem P3:Fi.τ=tab:=rfl
theorem ctx_count9_c:Fi.Γ=lkC []:=rfl
theorem ctx_count9_d:Fi.dp=60:=rfl
theorem ctx_count9_b:Fi.Δ=lkB []:=rfl
theorem ctx_count9_u:Fi.cuts=[]:=rfl
theorem Cw:Fi.wr=false:=rfl
set_option maxRecDepth 100000 in
theorem good_count9:Hg Try.prog (7,Mc):=by
 refine ⟨Ke Try.func7 (by kernel_rfl) rfl,?_⟩
 have K:Gu Try.prog Fi:=Ko G7 Kw (by simp) (by simp)
 obtain ⟨c,hc⟩:∃ c,Try.f7.body=some c:=⟨_,rfl⟩
 refine Kn K Try.func7 hc [.tmp 4] rfl 120 rfl (fun cvs hpre=>?_)
 change Mc.pre cvs at hpre
 unfold Mc at hpre
 obtain ⟨⟨l⟩,z,rfl,hC⟩:=Bb hpre
 simp only at hC
 clear hpre
 obtain ⟨R,hR⟩:∃ R:Int,(countS z l:Int)=R:=⟨_,rfl⟩
 have hRn:Pc (fun m=>Pc (C9 z) m.defs) (l.take l.length)=countS z l:=by rw [List.take_length];rfl
 have hle:=countS_le (z:=z) hC
 have hll:=hC.len
 have hz0:((Pc (fun m:Mod6=>Pc (C9 z) m.defs) (l.take 0):Nat):Int)=0:=rfl
 simp only [Try.f7,aZ] at hc
 subst hc
 refine Gf 7 (of_decide_eq_true (by kernel_rfl)) ?_
 (sym=>simp [G8,M8,szN,Mc.eq_def,Zb,Zc,Ze,Zf,Qs,Qu,Qv,Qw,Qx,Jj,Jq,Jr,Js,Jt,Jy,J6,J7,Xe,Xj,Xl,Xn,Xo,Xr,Xu,Xw,X6,X7,X8,X9,Wc,Wf,Wj,Wl,Wp,Yc,Yr,Ys,Yt,Yu,Yv,Yw,Yx,Yz,Y9,Va,Vj,V0,V5,V6,U5,G6,Pq,Gm,K6,K1,Gp,Pp,Gd,Nw];tactic =>
  try simp only [Uq] at *;try simp only [nc2] at *
  try simp (maxSteps:=4000000) only [G8,M8,szN,U6]
  repeat' first|with_reducible assumption|with_reducible apply And.intro|intro _|omega|(rw [Uk];omega)
  refine Kk [7,8,9,10,11,12,13,14,15,16,17,18,19,20,21,22,23,24,25,26,27,28,29,30,31,32,33,34,35,36,37,38,39,40,41,42,43,44,45,46,47,48,49,50,51,52,53,54,55,56,57,58,59,60,61,62,63,64,65,66,67,68,69,70,71,72,73,74,75,76,77,78,79,80,81,82,83,84,85,86,87,88,89,90,91,92,93,94,95,96,97,98,99,100,101,102,103,104,105,106,107,108,109,110,111,112,113,114,115,116,117,118] (fun k:Nat=>[(5,.d (.int .i64 (Pc (fun m=>Pc (C9 z) m.defs) (l.take k)))),(6,.d (.int .i64 k))]) (fun k:Nat=>[]) (fun k:Nat=>k≤l.length) (fun k:Nat=>l.length-k) 0 ?_ ?_ ?_
  ·omega
  ·((try simp only [Ul,U0,Ux,U8,upd,U7,Ki,K0,Nat.reduceDiv,Nat.reduceMod,Nat.reduceMul,Nat.reduceAdd,Nat.reduceEqDiff,aV,aW,if_true,if_false,reduceIte]);(first|refine Wk.of_fl ?_|skip);simp only [Wk,wkK,Ga,wkT,wk1,AV.kept,keptAll,wkO,lk,Uw,and_true,true_and,and_self,Nat.reduceEqDiff,Nat.reduceLeDiff,if_true,if_false,reduceIte,reduceCtorEq,Option.isSome,false_implies];try simp [Wk,wkK,wkT,wk1,AV.kept,keptAll,wkO,lk,Uw,Pc])
  rintro k hk
  rcases Kt k l.length with ⟨hlt,hlb⟩|⟨hlt,hlb⟩
  rotate_left
  ·have hke:k=l.length:=by omega
   rw [hke,hRn]
   rw [hke] at hlb
   (sym=>simp [hlb,hR,G8,M8,szN,P3,ctx_count9_d,Zb,Zc,Ze,Zf,Zg,Zo,Z6,Qd,Qf,Qp,Qq,Qr,Qs,Qu,Qv,Qw,Qx,Q1,Jd,Jl,Jm,Jn,Js,Jt,Ju,Jv,Jw,Jx,Jy,Jz,J2,Xj,Xl,Xm,Xp,Xq,Xr,Xu,Xw,Xx,Xy,X6,X7,X8,X9,Wo,Wp,Wr,Wt,Wx,Yf,Yg,Yn,Yo,Yp,Yq,Y9,Va,Vz,V0,V1,V3,V5,V6,U5,G6,Pq,Gm,K6,K1,Gp,Pp,Gd,Nw])
  have q0:=K7 C8 hlt
  have hs0:=O5 (w:=fun m=>Pc (C9 z) m.defs) C8 hlt
  have ht0:=wsum_take (w:=fun m=>Pc (C9 z) m.defs) (l:=l) (k+1)
  rw [←hRn,List.take_length] at hle
  have hmem:l.getD k C8∈l:=by simp [hlt]
  have c1:=hC.defs _ hmem
  have c2:=hC.t _ hmem
  have c3:=hC.e _ hmem
  have c4:=hC.p _ hmem
  obtain ⟨m,hm⟩:∃ m,l.getD k C8=m:=⟨_,rfl⟩
  rw [hm] at q0 hs0 c1 c2 c3 c4
  obtain ⟨mn,mi,md,ms⟩:=m
  simp only at hs0 c1 c2 c3 c4
  obtain ⟨n0,hn0⟩:∃ n,Pc (fun m=>Pc (C9 z) m.defs) (l.take k)=n:=⟨_,rfl⟩
  obtain ⟨n1,hn1⟩:∃ n,Pc (fun m=>Pc (C9 z) m.defs) (l.take (k+1))=n:=⟨_,rfl⟩
  obtain ⟨nl,hnl⟩:∃ n,Pc (fun m=>Pc (C9 z) m.defs) l=n:=⟨_,rfl⟩
  rw [hn0,hn1] at hs0
  rw [hn1,hnl] at ht0
  rw [hnl] at hle
  rw [hn0]
  have hy0:(n0:Int)+((Pc (C9 z) (md.take 0):Nat):Int)=n0:=by simp [Pc]
  (sym=>simp [hlb,q0,Km,G8,M8,szN,P3,Zb,Zc,Ze,Zf,Zo,Z6,Qd,Qf,Qs,Qu,Qv,Qw,Qx,Jl,Jm,Jn,Js,Jt,Jv,Jx,Jy,Jz,Xi,Xj,Xl,Xm,Xn,Xo,Xr,Xu,Xw,Xx,Xy,X6,X7,X8,X9,Wo,Wp,Wr,Wt,Wx,Yf,Yg,Yn,Yo,Yp,Yq,Y9,Va,Vj,Vy,V0,V1,V3,V5,V6,U5,G6,Pq,Gm,K6,K1,Gp,Pp,Gd,Nw];tactic =>
   try simp only [Uq] at *;try simp only [nc2] at *
   try simp (maxSteps:=4000000) only [hlb,q0,Km,G8,M8,szN,U6]
   repeat' first|with_reducible assumption|with_reducible apply And.intro|intro _|omega|(rw [Uk];omega)
   refine Kk [8,9,10,11,18,19,20,21,22,23,24,25,26,27,28,29,30,31,32,33,34,35,36,37,38,39,40,41,42,43,44,45,46,47,48,49,50,51,52,53,54,55,56,57,58,59,60,61,62,63,64,65,66,67,68,69,70,71,72,73,74,75,76,77,78,79,80,81,82,83,84,85,86,87,88,89,90,91,92,93,94,95,96,97,98,99,100,101,102,103,104,105,106,107,108,109,110,111,112,113,114,115,116,117,118] (fun j:Nat=>[(5,.d (.int .i64 ((n0:Int)+(Pc (C9 z) (md.take j):Nat)))),(7,.d (.int .i64 j))]) (fun j:Nat=>[]) (fun j:Nat=>j≤md.length) (fun j:Nat=>md.length-j) 0 ?_ ?_ ?_
   ·omega
   ·((try simp only [Ul,U0,Ux,U8,upd,U7,Ki,K0,Nat.reduceDiv,Nat.reduceMod,Nat.reduceMul,Nat.reduceAdd,Nat.reduceEqDiff,aV,aW,if_true,if_false,reduceIte]);(first|refine Wk.of_fl ?_|skip);simp only [Wk,wkK,Ga,wkT,wk1,AV.kept,keptAll,wkO,lk,Uw,and_true,true_and,and_self,Nat.reduceEqDiff,Nat.reduceLeDiff,if_true,if_false,reduceIte,reduceCtorEq,Option.isSome,false_implies];try simp [Wk,wkK,wkT,wk1,AV.kept,keptAll,wkO,lk,Uw,Pc])
   rintro j hj
   rcases Kt j md.length with ⟨hjl,hjb⟩|⟨hjl,hjb⟩
   rotate_left
   ·have hje:j=md.length:=by omega
    rw [hje,List.take_length]
    rw [hje] at hjb
    have hnn:(n0:Int)+((Pc (C9 z) md:Nat):Int)=(n1:Int):=by omega
    (sym=>simp [hlb,q0,hjb,hnn,Km,G8,M8,szN,P3,Cw,Zb,Zc,Ze,Zf,Zg,Zo,Zp,Zq,Zs,Zv,Zx,Zy,Z6,Qd,Qf,Qs,Qu,Qv,Qw,Qx,Jl,Jm,Jn,Js,Jt,Jv,Jw,Jx,Jy,Jz,Xj,Xl,Xm,Xp,Xr,Xu,Xw,Xx,Xy,X6,X7,X8,X9,Wm,Wn,Wo,Wp,Wr,Wt,Ww,Wx,W0,W1,Ya,Yb,Yf,Yg,Yn,Yo,Yp,Yq,Y7,Y9,Va,Vj,Vz,V0,V1,V2,V3,V5,V6,Ui,U5,G6,Pq,Gm,K6,K1,Gp,Pp,Gd,Nw];tactic =>
     try simp only [Uq] at *;try simp only [nc2] at *
     try simp (maxSteps:=4000000) only [hlb,q0,hjb,hnn,Km,G8,M8,szN,U6]
     repeat' first|with_reducible assumption|with_reducible apply And.intro|intro _|omega|(rw [Uk];omega)
     all_goals first|with_reducible exact okq|omega|exact ⟨k+1,by ((try simp only [Ul,U0,Ux,U8,upd,U7,Ki,K0,Nat.reduceDiv,Nat.reduceMod,Nat.reduceMul,Nat.reduceAdd,Nat.reduceEqDiff,aV,aW,if_true,if_false,reduceIte]);(first|refine Wk.of_fl ?_|skip);simp only [Wk,wkK,Ga,wkT,wk1,AV.kept,keptAll,wkO,lk,Uw,and_true,true_and,and_self,Nat.reduceEqDiff,Nat.reduceLeDiff,if_true,if_false,reduceIte,reduceCtorEq,Option.isSome,false_implies];try simp [Wk,wkK,wkT,wk1,AV.kept,keptAll,wkO,lk,Uw,hn1]),by omega,by omega⟩|skip)
   have q1:=K7 Du hjl
   have hs1:=O5 (w:=C9 z) Du hjl
   have ht1:=wsum_take (w:=C9 z) (l:=md) (j+1)
   have hmem1:md.getD j Du∈md:=by simp [hjl]
   have c2:=c2 _ hmem1
   have c3:=c3 _ hmem1
   have c4:=c4 _ hmem1
   have hall:=typesD_all (z:=z) (d:=md.getD j Du)
   have htl:=fun (i:Nat) (h:i≤(md.getD j Du).e.length)=>typesD_len (d:=md.getD j Du) h
   have hsn:=fun (i:Nat) (h:i<(md.getD j Du).e.length)=>typesD_snoc (d:=md.getD j Du) h
   obtain ⟨x,hx⟩:∃ m,md.getD j Du=m:=⟨_,rfl⟩
   rw [hx] at q1 hs1 c2 c3 c4 hall htl hsn
   have hT0:typesD x 0=[x.t]:=rfl
   obtain ⟨T,hT⟩:∃ T,typesD x=T:=⟨_,rfl⟩
   rw [hT] at hall htl hsn hT0
   obtain ⟨xn,xt,xe⟩:=x
   simp only at hs1 c2 c3 c4 hall htl hsn hT0
   obtain ⟨b0,hb0⟩:∃ n,Pc (C9 z) (md.take j)=n:=⟨_,rfl⟩
   obtain ⟨b1,hb1⟩:∃ n,Pc (C9 z) (md.take (j+1))=n:=⟨_,rfl⟩
   obtain ⟨bl,hbl⟩:∃ n,Pc (C9 z) md=n:=⟨_,rfl⟩
   obtain ⟨dw,hdw⟩:∃ n,C9 z ⟨xn,xt,xe⟩=n:=⟨_,rfl⟩
   rw [hb0,hb1,hdw] at hs1
   rw [hb1,hbl] at ht1
   rw [hbl] at hs0
   rw [hdw] at hall
   rw [hb0]
   (sym=>simp [hlb,q0,hjb,q1,Km,Gw,G8,M8,szN,P3,ctx_count9_d,Zb,Zc,Ze,Zf,Zo,Zp,Zq,Zr,Zs,Zv,Zx,Zy,Z1,Z6,Qd,Qf,Qs,Qu,Qv,Qw,Qx,Q4,Q5,Q6,Q7,Q9,Ja,Jb,Jl,Jm,Jn,Js,Jt,Jv,Jw,Jx,Jy,Jz,J0,J1,J2,Xi,Xj,Xl,Xm,Xn,Xo,Xr,Xu,Xw,Xx,Xy,X1,X6,X7,X8,X9,Wg,Wh,Wi,Wm,Wn,Wo,Wp,Wr,Wt,Ww,Wx,W0,W1,W5,Ya,Yb,Yf,Yg,Yn,Yo,Yp,Yq,Y7,Y9,Va,Vi,Vj,Vo,Vy,V0,V1,V2,V3,V5,V6,Ui,U5,G6,Pq,Gm,K6,K1,Gp,Pp,Gd,Nw];tactic =>
    try simp only [Uq] at *;try simp only [nc2] at *
    try simp (maxSteps:=4000000) only [hlb,q0,hjb,q1,Km,Gw,G8,M8,szN,U6]
    repeat' first|with_reducible assumption|with_reducible apply And.intro|intro _|omega|(rw [Uk];omega)
    refine Kk [38,39,40,41,42,43,44,45,46,47,48,49,50,51,52,53,54,55,56,57,58,59,60,61,62,63,64,65,66,67,68,69,70,71,72,73,74,75,76,77,78,79,80] (fun i:Nat=>[(8,.sl 37 (((T i).map Sl.mk).map (enc:Sl Node→D)).length),(9,.d (.int .i64 i))]) (fun i:Nat=>[(37,.row 1 (((T i).map Sl.mk).map enc) 0)]) (fun i:Nat=>i≤xe.length) (fun i:Nat=>xe.length-i) 0 ?_ ?_ ?_
    ·omega
    ·((try simp only [Ul,U0,Ux,U8,upd,U7,Ki,K0,Nat.reduceDiv,Nat.reduceMod,Nat.reduceMul,Nat.reduceAdd,Nat.reduceEqDiff,aV,aW,if_true,if_false,reduceIte]);(first|refine Wk.of_fl ?_|skip);simp only [Wk,wkK,Ga,wkT,wk1,AV.kept,keptAll,wkO,lk,Uw,and_true,true_and,and_self,Nat.reduceEqDiff,Nat.reduceLeDiff,if_true,if_false,reduceIte,reduceCtorEq,Option.isSome,false_implies];try simp [Wk,wkK,wkT,wk1,AV.kept,keptAll,wkO,lk,Uw,hT0])<;>rfl
    rintro i hi
    have htli:=htl i hi
    rcases Kt i xe.length with ⟨hil,hib⟩|⟨hil,hib⟩
    ·have q2:=K7 e0 hil
     have hsn:=hsn i hil
     obtain ⟨p,hp⟩:∃ m,xe.getD i e0=m:=⟨_,rfl⟩
     rw [hp] at q2 hsn
     obtain ⟨Ti,hTi⟩:∃ q,T i=q:=⟨_,rfl⟩
     rw [hTi] at hsn htli ⊢
     (sym=>simp [hlb,q0,hjb,q1,hib,q2,htli,Km,Gw,G8,M8,Um,Un,Uo,Up,szP,P3,ctx_count9_c,ctx_count9_b,Cw,Zb,Zc,Ze,Zf,Zg,Zh,Zi,Zj,Zk,Zl,Zm,Zo,Zp,Zq,Zr,Zs,Zv,Zx,Zy,Z1,Z4,Z5,Z6,Qd,Qf,Qs,Qt,Qu,Qv,Qw,Qx,Qy,Qz,Q4,Q5,Q6,Q7,Q9,Ja,Jb,Jl,Jm,Jn,Js,Jt,Jv,Jw,Jy,Jz,J0,J1,J2,Xi,Xj,Xk,Xl,Xm,Xn,Xr,Xs,Xt,Xu,Xv,Xw,Xx,Xy,Xz,X1,X2,X4,X6,X7,X8,X9,Wg,Wh,Wi,Wj,Wl,Wm,Wn,Wo,Wp,Wr,Wt,Ww,Wx,W0,W1,W5,Ya,Yb,Yf,Yg,Yn,Yo,Yp,Yq,Ys,Y7,Y9,Va,Vi,Vj,Vo,Vy,Vz,V0,V1,V2,V3,V4,V5,V6,V8,Ui,U5,G6,Pq,Gm,K6,K1,Gp,Pp,Gd,Nw];tactic =>
      try simp only [Uq] at *;try simp only [nc2] at *
      try simp (maxSteps:=4000000) only [hlb,q0,hjb,q1,hib,q2,htli,Km,Gw,G8,M8,Um,Un,Uo,Up,szP,U6]
      repeat' first|with_reducible assumption|with_reducible apply And.intro|intro _|omega|(rw [Uk];omega)
      all_goals first|with_reducible exact okq|omega|exact ⟨i+1,by ((try simp only [Ul,U0,Ux,U8,upd,U7,Ki,K0,Nat.reduceDiv,Nat.reduceMod,Nat.reduceMul,Nat.reduceAdd,Nat.reduceEqDiff,aV,aW,if_true,if_false,reduceIte]);(first|refine Wk.of_fl ?_|skip);simp only [Wk,wkK,Ga,wkT,wk1,AV.kept,keptAll,wkO,lk,Uw,and_true,true_and,and_self,Nat.reduceEqDiff,Nat.reduceLeDiff,if_true,if_false,reduceIte,reduceCtorEq,Option.isSome,false_implies];try simp [Wk,wkK,wkT,wk1,AV.kept,keptAll,wkO,lk,Uw,hsn,htli])<;>exact ⟨rfl,rfl⟩,by omega,by omega⟩|skip)
    have hie:i=xe.length:=by omega
    subst hie
    obtain ⟨Ts,hTs⟩:∃ q,T xe.length=q:=⟨_,rfl⟩
    rw [hTs] at htli hall ⊢
    clear htl hsn
    have hz3:(n0:Int)+(b0:Int)+((Pc (Hz (Pi z)) (Ts.take 0):Nat):Int)=(n0:Int)+b0:=by simp [Pc]
    have hTm:((Ts.map Sl.mk).map (enc:Sl Node→D)).length=2*xe.length+1:=by rw [bV,bV,htli]
    (sym=>simp [hlb,q0,hjb,q1,hib,Km,Gw,G8,M8,szN,P3,Zb,Zc,Ze,Zf,Zg,Zo,Zp,Zq,Zs,Zv,Zx,Zy,Z6,Qd,Qf,Qs,Qu,Qv,Qw,Qx,Jb,Jl,Jm,Jn,Js,Jt,Jv,Jw,Jy,Jz,Xj,Xl,Xm,Xn,Xo,Xp,Xr,Xu,Xw,Xx,Xy,X6,X7,X8,X9,Wm,Wn,Wo,Wp,Wr,Wt,Ww,Wx,W0,W1,Ya,Yb,Yf,Yg,Yn,Yo,Y7,Y9,Va,Vj,Vz,V0,V1,V2,V3,V5,V6,Ui,U5,G6,Pq,Gm,K6,K1,Gp,Pp,Gd,Nw];tactic =>
     try simp only [Uq] at *;try simp only [nc2] at *
     try simp (maxSteps:=4000000) only [hlb,q0,hjb,q1,hib,Km,Gw,G8,M8,szN,U6]
     repeat' first|with_reducible assumption|with_reducible apply And.intro|intro _|omega|(rw [Uk];omega)
     refine Kk [11,81,82,83,84,85,86,87,88,89,90,91,92,93,94,95,96,97,98,99,100,101,102,103,104,105,106,107,108,109,110,111,112,113,114,115,116,117,118] (fun i:Nat=>[(5,.d (.int .i64 ((n0:Int)+b0+(Pc (Hz (Pi z)) (Ts.take i):Nat)))),(10,.d (.int .i64 i))]) (fun i:Nat=>[]) (fun i:Nat=>i≤Ts.length) (fun i:Nat=>Ts.length-i) 0 ?_ ?_ ?_
     ·omega
     ·((try simp only [Ul,U0,Ux,U8,upd,U7,Ki,K0,Nat.reduceDiv,Nat.reduceMod,Nat.reduceMul,Nat.reduceAdd,Nat.reduceEqDiff,aV,aW,if_true,if_false,reduceIte]);(first|refine Wk.of_fl ?_|skip);simp only [Wk,wkK,Ga,wkT,wk1,AV.kept,keptAll,wkO,lk,Uw,and_true,true_and,and_self,Nat.reduceEqDiff,Nat.reduceLeDiff,if_true,if_false,reduceIte,reduceCtorEq,Option.isSome,false_implies];try simp [Wk,wkK,wkT,wk1,AV.kept,keptAll,wkO,lk,Uw,Pc])
     rintro i hi
     rcases Kt i Ts.length with ⟨hil,hib⟩|⟨hil,hib⟩
     rotate_left
     ·have hie:i=Ts.length:=by omega
      rw [hie,List.take_length,hall]
      rw [hie] at hib
      have hnn:(n0:Int)+(b0:Int)+(dw:Int)=(n0:Int)+(b1:Int):=by omega
      (sym=>simp [hlb,q0,hjb,q1,hib,hnn,hTm,Km,Gw,G8,M8,szN,P3,Cw,Zb,Zc,Ze,Zf,Zg,Z6,Qd,Qf,Qs,Qu,Qv,Qw,Qx,Ja,Jl,Jm,Jn,Js,Jt,Jv,Jw,Jx,Jy,Jz,Xj,Xl,Xm,Xp,Xr,Xu,Xw,Xx,X6,X7,X8,X9,Wo,Wp,Wr,Wt,Wx,Yn,Yo,Yp,Yq,Y9,Vj,Vz,V0,V1,V3,V5,V6,U5,G6,Pq,Gm,K6,K1,Gp,Pp,Gd,Nw];tactic =>
       try simp only [Uq] at *;try simp only [nc2] at *
       try simp (maxSteps:=4000000) only [hlb,q0,hjb,q1,hib,hnn,hTm,Km,Gw,G8,M8,szN,U6]
       repeat' first|with_reducible assumption|with_reducible apply And.intro|intro _|omega|(rw [Uk];omega)
       all_goals first|with_reducible exact okq|omega|exact ⟨j+1,by ((try simp only [Ul,U0,Ux,U8,upd,U7,Ki,K0,Nat.reduceDiv,Nat.reduceMod,Nat.reduceMul,Nat.reduceAdd,Nat.reduceEqDiff,aV,aW,if_true,if_false,reduceIte]);(first|refine Wk.of_fl ?_|skip);simp only [Wk,wkK,Ga,wkT,wk1,AV.kept,keptAll,wkO,lk,Uw,and_true,true_and,and_self,Nat.reduceEqDiff,Nat.reduceLeDiff,if_true,if_false,reduceIte,reduceCtorEq,Option.isSome,false_implies];try simp [Wk,wkK,wkT,wk1,AV.kept,keptAll,wkO,lk,Uw,hb1]),by omega,by omega⟩|skip)
     have q2:=K7 (⟨[]⟩:Sl Node) (show i<(Ts.map Sl.mk).length by rw [bV];exact hil)
     have hs3:=O5 (w:=Hz (Pi z)) ([]:List Node) hil
     have ht3:=wsum_take (w:=Hz (Pi z)) (l:=Ts) (i+1)
     have hget:(Ts.map Sl.mk).getD i ⟨[]⟩=Sl.mk (Ts.getD i []):=by simp [hil]
     rw [hget] at q2
     rw [hall] at ht3
     obtain ⟨t,ht⟩:∃ q,Ts.getD i []=q:=⟨_,rfl⟩
     rw [ht] at q2 hs3
     obtain ⟨d0,hd0⟩:∃ n,Pc (Hz (Pi z)) (Ts.take i)=n:=⟨_,rfl⟩
     obtain ⟨d1,hd1⟩:∃ n,Pc (Hz (Pi z)) (Ts.take (i+1))=n:=⟨_,rfl⟩
     obtain ⟨tw,htw⟩:∃ n,Hz (Pi z) t=n:=⟨_,rfl⟩
     rw [hd0,hd1,htw] at hs3
     rw [hd1] at ht3
     rw [hd0]
     have hwt:Pc (Pi z) t=tw:=htw
     have htlen:t.length≤9223372036854775807:=by
      have hmem2:t∈Ts:=by rw [←ht];simp [hil]
      rw [←hTs,←hT] at hmem2
      unfold typesD at hmem2
      rcases List.mem_cons.1 hmem2 with h|h
      ·have h:t=xt:=h
       rw [h]
       omega
      ·obtain ⟨p,hp,hh⟩:=List.mem_flatMap.1 h
       have:=c4 p (List.mem_of_mem_take hp)
       simp only [bQ,bZ,or_false] at hh
       rcases hh with rfl|rfl<;>omega
     have hz4:(n0:Int)+(b0:Int)+(d0:Int)+((Pc (Pi z) (t.take 0):Nat):Int)=(n0:Int)+b0+d0:=by simp [Pc]
     (sym=>simp [hlb,q0,hjb,q1,hib,q2,hTm,Km,Gw,G8,M8,szN,P3,Zb,Zc,Ze,Zf,Z6,Qd,Qf,Qs,Qu,Qv,Qw,Qx,Ja,Jl,Jm,Jn,Js,Jt,Jv,Jw,Jx,Jy,Jz,Xi,Xj,Xl,Xm,Xn,Xo,Xr,Xu,Xw,Xx,X6,X7,X8,X9,Wo,Wp,Wr,Wt,Wx,Yn,Yo,Yp,Yq,Y9,Vj,Vy,V0,V1,V3,V5,V6,U5,G6,Pq,Gm,K6,K1,Gp,Pp,Gd,Nw];tactic =>
      try simp only [Uq] at *;try simp only [nc2] at *
      try simp (maxSteps:=4000000) only [hlb,q0,hjb,q1,hib,q2,hTm,Km,Gw,G8,M8,szN,U6]
      repeat' first|with_reducible assumption|with_reducible apply And.intro|intro _|omega|(rw [Uk];omega)
      refine Kk [87,88,89,90,91,92,93,94,95,96,97,98,99,100,101,102,103,104,105,106,107,108,109,110,111,112,113,114,115,116,117,118] (fun h:Nat=>[(5,.d (.int .i64 ((n0:Int)+b0+d0+(Pc (Pi z) (t.take h):Nat)))),(11,.d (.int .i64 h))]) (fun h:Nat=>[]) (fun h:Nat=>h≤t.length) (fun h:Nat=>t.length-h) 0 ?_ ?_ ?_
      ·omega
      ·((try simp only [Ul,U0,Ux,U8,upd,U7,Ki,K0,Nat.reduceDiv,Nat.reduceMod,Nat.reduceMul,Nat.reduceAdd,Nat.reduceEqDiff,aV,aW,if_true,if_false,reduceIte]);(first|refine Wk.of_fl ?_|skip);simp only [Wk,wkK,Ga,wkT,wk1,AV.kept,keptAll,wkO,lk,Uw,and_true,true_and,and_self,Nat.reduceEqDiff,Nat.reduceLeDiff,if_true,if_false,reduceIte,reduceCtorEq,Option.isSome,false_implies];try simp [Wk,wkK,wkT,wk1,AV.kept,keptAll,wkO,lk,Uw,Pc])
      rintro h hh
      rcases Kt h t.length with ⟨hhl,hhb⟩|⟨hhl,hhb⟩
      rotate_left
      ·have hhe:h=t.length:=by omega
       rw [hhe,List.take_length,hwt]
       rw [hhe] at hhb
       have hnn:(n0:Int)+(b0:Int)+(d0:Int)+(tw:Int)=(n0:Int)+(b0:Int)+(d1:Int):=by omega
       (sym=>simp [hlb,q0,hjb,q1,hib,q2,hTm,hhb,hnn,Km,Gw,G8,M8,szN,P3,Cw,Zb,Zc,Ze,Zf,Zg,Zo,Zp,Zq,Zv,Zy,Z6,Qd,Qf,Qs,Qu,Qv,Qw,Qx,Ja,Jl,Jm,Jn,Js,Jt,Jv,Jw,Jx,Jy,Jz,Xj,Xl,Xm,Xp,Xr,Xu,Xw,Xx,Xy,X6,X7,X8,X9,Wo,Wp,Wr,Wt,Wx,W1,Yf,Yg,Yi,Yn,Yo,Yp,Yq,Y7,Y9,Va,Vj,Vz,V0,V1,V2,V3,V5,V6,Ui,U5,G6,Pq,Gm,K6,K1,Gp,Pp,Gd,Nw];tactic =>
        try simp only [Uq] at *;try simp only [nc2] at *
        try simp (maxSteps:=4000000) only [hlb,q0,hjb,q1,hib,q2,hTm,hhb,hnn,Km,Gw,G8,M8,szN,U6]
        repeat' first|with_reducible assumption|with_reducible apply And.intro|intro _|omega|(rw [Uk];omega)
        all_goals first|with_reducible exact okq|omega|exact ⟨i+1,by ((try simp only [Ul,U0,Ux,U8,upd,U7,Ki,K0,Nat.reduceDiv,Nat.reduceMod,Nat.reduceMul,Nat.reduceAdd,Nat.reduceEqDiff,aV,aW,if_true,if_false,reduceIte]);(first|refine Wk.of_fl ?_|skip);simp only [Wk,wkK,Ga,wkT,wk1,AV.kept,keptAll,wkO,lk,Uw,and_true,true_and,and_self,Nat.reduceEqDiff,Nat.reduceLeDiff,if_true,if_false,reduceIte,reduceCtorEq,Option.isSome,false_implies];try simp [Wk,wkK,wkT,wk1,AV.kept,keptAll,wkO,lk,Uw,hd1]),by omega,by omega⟩|skip)
      have q3:=K7 nd0 hhl
      have hs4:=O5 (w:=Pi z) nd0 hhl
      have ht4:=wsum_take (w:=Pi z) (l:=t) (h+1)
      rw [hwt] at ht4
      obtain ⟨y,hy⟩:∃ q,t.getD h nd0=q:=⟨_,rfl⟩
      rw [hy] at q3 hs4
      obtain ⟨f0,hf0⟩:∃ n,Pc (Pi z) (t.take h)=n:=⟨_,rfl⟩
      obtain ⟨f1,hf1⟩:∃ n,Pc (Pi z) (t.take (h+1))=n:=⟨_,rfl⟩
      rw [hf0,hf1] at hs4
      rw [hf1] at ht4
      rw [hf0]
      unfold Pi at hs4
      cases hk0:y.kind==0 with
      | false =>
       rw [if_neg (fun e=>by rw [e.1] at hk0;simp at hk0)] at hs4
       have hnn:(f1:Int)=(f0:Int):=by omega
       (sym=>simp [hlb,q0,hjb,q1,hib,q2,hTm,hhb,q3,hk0,Km,Gw,G8,M8,Ur,Ut,Uv,Us,szN,Uu,P3,ctx_count9_u,Cw,Zb,Zc,Zd,Ze,Zf,Zg,Zo,Zp,Zq,Zs,Zt,Zv,Zx,Zy,Z6,Qd,Qf,Qs,Qu,Qv,Qw,Qx,Ja,Jf,Jl,Jm,Jn,Js,Jt,Ju,Jv,Jw,Jx,Jy,Jz,Xi,Xj,Xl,Xm,Xn,Xr,Xu,Xw,Xx,Xy,X6,X7,X8,X9,Wm,Wn,Wo,Wp,Wr,Wt,Wx,W1,W7,Yb,Yf,Yg,Yi,Yn,Yo,Yp,Yq,Y7,Y9,Va,Vj,Vk,Vy,Vz,V0,V1,V2,V3,V5,V6,Ui,U5,G6,Pq,Gm,K6,K1,Gp,Pp,Gd,Nw];tactic =>
        try simp only [Uq] at *;try simp only [nc2] at *
        try simp (maxSteps:=4000000) only [hlb,q0,hjb,q1,hib,q2,hTm,hhb,q3,hk0,Km,Gw,G8,M8,Ur,Ut,Uv,Us,szN,Uu,U6]
        repeat' first|with_reducible assumption|with_reducible apply And.intro|intro _|omega|(rw [Uk];omega)
        all_goals first|with_reducible exact okq|omega|exact ⟨h+1,by ((try simp only [Ul,U0,Ux,U8,upd,U7,Ki,K0,Nat.reduceDiv,Nat.reduceMod,Nat.reduceMul,Nat.reduceAdd,Nat.reduceEqDiff,aV,aW,if_true,if_false,reduceIte]);(first|refine Wk.of_fl ?_|skip);simp only [Wk,wkK,Ga,wkT,wk1,AV.kept,keptAll,wkO,lk,Uw,and_true,true_and,and_self,Nat.reduceEqDiff,Nat.reduceLeDiff,if_true,if_false,reduceIte,reduceCtorEq,Option.isSome,false_implies];try simp [Wk,wkK,wkT,wk1,AV.kept,keptAll,wkO,lk,Uw,hf1,hnn]),by omega,by omega⟩|skip)
      | true =>
       have hy0:y.kind=0:=by simpa using hk0
       cases hnz:y.n==z with
       | false =>
        rw [if_neg (fun e=>by rw [e.2] at hnz;simp at hnz)] at hs4
        have hnn:(f1:Int)=(f0:Int):=by omega
        (sym=>simp [hlb,q0,hjb,q1,hib,q2,hTm,hhb,q3,hk0,hnz,Km,Gw,G8,M8,Ur,Ut,Uv,Us,szN,Uu,P3,ctx_count9_u,Cw,Zb,Zc,Zd,Ze,Zf,Zg,Zo,Zp,Zq,Zs,Zt,Zv,Zx,Zy,Z6,Qd,Qf,Qs,Qu,Qv,Qw,Qx,Ja,Jf,Jl,Jm,Jn,Js,Jt,Ju,Jv,Jw,Jx,Jy,Jz,Xi,Xj,Xl,Xm,Xn,Xr,Xu,Xw,Xx,Xy,X6,X7,X8,X9,Wm,Wn,Wo,Wp,Wr,Wt,Wx,W1,W7,Yb,Yf,Yg,Yi,Yn,Yo,Yp,Yq,Y7,Y9,Va,Vj,Vk,Vy,Vz,V0,V1,V2,V3,V5,V6,Ui,U5,G6,Pq,Gm,K6,K1,Gp,Pp,Gd,Nw];tactic =>
         try simp only [Uq] at *;try simp only [nc2] at *
         try simp (maxSteps:=4000000) only [hlb,q0,hjb,q1,hib,q2,hTm,hhb,q3,hk0,hnz,Km,Gw,G8,M8,Ur,Ut,Uv,Us,szN,Uu,U6]
         repeat' first|with_reducible assumption|with_reducible apply And.intro|intro _|omega|(rw [Uk];omega)
         all_goals first|with_reducible exact okq|omega|exact ⟨h+1,by ((try simp only [Ul,U0,Ux,U8,upd,U7,Ki,K0,Nat.reduceDiv,Nat.reduceMod,Nat.reduceMul,Nat.reduceAdd,Nat.reduceEqDiff,aV,aW,if_true,if_false,reduceIte]);(first|refine Wk.of_fl ?_|skip);simp only [Wk,wkK,Ga,wkT,wk1,AV.kept,keptAll,wkO,lk,Uw,and_true,true_and,and_self,Nat.reduceEqDiff,Nat.reduceLeDiff,if_true,if_false,reduceIte,reduceCtorEq,Option.isSome,false_implies];try simp [Wk,wkK,wkT,wk1,AV.kept,keptAll,wkO,lk,Uw,hf1,hnn]),by omega,by omega⟩|skip)
       | true =>
        rw [if_pos ⟨hy0,by simpa using hnz⟩] at hs4
        have hnn:(n0:Int)+(b0:Int)+(d0:Int)+(f0:Int)+1=(n0:Int)+(b0:Int)+(d0:Int)+(f1:Int):=by omega
        (sym=>simp [hlb,q0,hjb,q1,hib,q2,hTm,hhb,q3,hk0,hnz,hnn,Km,Gw,G8,M8,Ur,Ut,Uv,Us,szN,Uu,P3,ctx_count9_u,Cw,Zb,Zc,Zd,Ze,Zf,Zg,Zo,Zp,Zq,Zs,Zt,Zv,Zx,Zy,Z6,Qd,Qf,Qs,Qu,Qv,Qw,Qx,Ja,Jf,Jl,Jm,Jn,Js,Jt,Ju,Jv,Jw,Jx,Jy,Jz,Xi,Xj,Xl,Xm,Xn,Xr,Xu,Xw,Xx,Xy,X6,X7,X8,X9,Wm,Wn,Wo,Wp,Wr,Wt,Wx,W1,W7,Yb,Yf,Yg,Yi,Yn,Yo,Yp,Yq,Y7,Y9,Va,Vj,Vk,Vy,Vz,V0,V1,V2,V3,V5,V6,Ui,U5,G6,Pq,Gm,K6,K1,Gp,Pp,Gd,Nw];tactic =>
         try simp only [Uq] at *;try simp only [nc2] at *
         try simp (maxSteps:=4000000) only [hlb,q0,hjb,q1,hib,q2,hTm,hhb,q3,hk0,hnz,hnn,Km,Gw,G8,M8,Ur,Ut,Uv,Us,szN,Uu,U6]
         repeat' first|with_reducible assumption|with_reducible apply And.intro|intro _|omega|(rw [Uk];omega)
         all_goals first|with_reducible exact okq|omega|exact ⟨h+1,by ((try simp only [Ul,U0,Ux,U8,upd,U7,Ki,K0,Nat.reduceDiv,Nat.reduceMod,Nat.reduceMul,Nat.reduceAdd,Nat.reduceEqDiff,aV,aW,if_true,if_false,reduceIte]);(first|refine Wk.of_fl ?_|skip);simp only [Wk,wkK,Ga,wkT,wk1,AV.kept,keptAll,wkO,lk,Uw,and_true,true_and,and_self,Nat.reduceEqDiff,Nat.reduceLeDiff,if_true,if_false,reduceIte,reduceCtorEq,Option.isSome,false_implies];try simp [Wk,wkK,wkT,wk1,AV.kept,keptAll,wkO,lk,Uw,hf1]),by omega,by omega⟩|skip))))))
theorem dyn_shift {b z:Int} (hb:0≤b) (hz:1≤z) (n:Node):Pi z (C7 b n)=if 1≤z-b then Pi (z-b) n else 0:=by
 obtain ⟨k,s,v⟩:=n
 unfold C7 Pi
 simp only
 split
 ·rename_i h
  simp only
  split
  ·rw [if_pos (by omega),if_pos ⟨h.1,by omega⟩]
  ·rename_i h2
   split
   ·rw [if_neg (fun e=>h2 ⟨h.1,by omega⟩)]
   ·rfl
 ·rename_i h
  have h:¬ (k=0∧0<v):=h
  rw [if_neg (fun e:k=0∧v=z=>h ⟨e.1,by omega⟩)]
  split
  ·rw [if_neg (fun e:k=0∧v=z-b=>h ⟨e.1,by omega⟩)]
  ·rfl
theorem dyn_low {b z:Int} (hb:0≤b) (hz:z<0) (n:Node):Pi z (C7 b n)=Pi z n:=by
 obtain ⟨k,s,v⟩:=n
 unfold C7 Pi
 simp only
 split
 ·rename_i h
  simp only
  rw [if_neg (by omega),if_neg (by omega)]
 ·rfl
theorem Fs {α:Type} {w w':α→Nat} {f:α→α} (h:∀ x,w (f x)=w' x) (l:List α):Pc w (l.mapIdx fun _=>f)=Pc w' l:=by
 have:(l.mapIdx fun _=>f)=l.map f:=by
  apply List.ext_getElem?
  intro i
  simp
 rw [this]
 unfold Pc
 rw [List.map_map]
 congr 1
 exact List.map_congr_left fun x _=>h x
theorem wsum_zero {α:Type} {l:List α}:Pc (fun _=>0) l=0:=by
 unfold Pc
 induction l with
 | nil=>rfl
 | cons x l ih=>rw [List.map_cons,List.sum_cons,ih]
theorem node_shift {b z:Int} (hb:0≤b) (hz:1≤z) (t:List Node):Hz (Pi z) (Iy b t)=if 1≤z-b then Hz (Pi (z-b)) t else 0:=by
 have:=Fs (w:=Pi z) (w':=fun n=>if 1≤z-b then Pi (z-b) n else 0) (f:=C7 b) (dyn_shift hb hz) t
 split
 ·rename_i h
  simp only [if_pos h] at this
  exact this
 ·rename_i h
  simp only [if_neg h,wsum_zero] at this
  exact this
theorem node_low {b z:Int} (hb:0≤b) (hz:z<0) (t:List Node):Hz (Pi z) (Iy b t)=Hz (Pi z) t :=
 Fs (w:=Pi z) (w':=Pi z) (f:=C7 b) (dyn_low hb hz) t
theorem part_shift {b z:Int} (hb:0≤b) (hz:1≤z) (p:Part):P6 z (T7 b p)=if 1≤z-b then P6 (z-b) p else 0:=by
 unfold P6 T7
 simp only [node_shift hb hz]
 split<;>rfl
theorem def_shift {b z:Int} (hb:0≤b) (hz:1≤z) (d:Def6):C9 z (Te b d)=if 1≤z-b then C9 (z-b) d else 0:=by
 unfold C9 Te
 simp only [node_shift hb hz]
 have:=Fs (w:=P6 z) (w':=fun p=>if 1≤z-b then P6 (z-b) p else 0) (f:=T7 b) (part_shift hb hz) d.e
 split
 ·rename_i h
  simp only [if_pos h] at this
  unfold Bj
  unfold Pc at this
  rw [this]
 ·rename_i h
  simp only [if_neg h,wsum_zero] at this
  unfold Bj
  unfold Pc at this
  rw [this]
theorem def_low {b z:Int} (hb:0≤b) (hz:z<0) (d:Def6):C9 z (Te b d)=C9 z d:=by
 unfold C9 Te
 simp only [node_low hb hz]
 have:=Fs (w:=P6 z) (w':=P6 z) (f:=T7 b) (fun p=>by unfold P6 T7;simp only [node_low hb hz]) d.e
 unfold Bj
 unfold Pc at this
 rw [this]
theorem mod_shift {l:List Mod6} {k:Nat} {z:Int} {m:Mod6} (hz:1≤z) (hm:∀ z,defsW z m.defs=if 1≤z∧z<(m.sites.length:Int)+1 then 1 else 0) :
  Pc (C9 z) (Ls l k m).defs=if (ah l k:Int)<z∧z≤(ah l k:Int)+m.sites.length then 1 else 0:=by
 unfold Ls
 simp only
 rw [Fs (def_shift (by omega) hz)]
 by_cases h:1≤z-(ah l k:Int)
 ·simp only [if_pos h]
  have:=hm (z-ah l k)
  unfold defsW at this
  unfold Pc
  rw [this]
  by_cases h2:(ah l k:Int)<z∧z≤(ah l k:Int)+m.sites.length
  ·rw [if_pos h2,if_pos (by omega)]
  ·rw [if_neg h2,if_neg (by omega)]
 ·simp only [if_neg h,wsum_zero]
  rw [if_neg (by omega)]
theorem mod_low {l:List Mod6} {k:Nat} {z:Int} {m:Mod6} (hz:z<0) (hm:∀ z,defsW z m.defs=if 1≤z∧z<(m.sites.length:Int)+1 then 1 else 0):Pc (C9 z) (Ls l k m).defs=0:=by
 unfold Ls
 simp only
 rw [Fs (def_low (by omega) hz)]
 have:=hm z
 unfold defsW at this
 unfold Pc
 rw [this,if_neg (by omega)]
theorem count_part {l:List Mod6} {z:Int} (hz:z≠0) (hm:∀ m∈l,∀ z,defsW z m.defs=if 1≤z∧z<(m.sites.length:Int)+1 then 1 else 0):∀ k,k≤l.length→Pc (fun m=>Pc (C9 z) m.defs) ((l.mapIdx (Ls l)).take k)=if 1≤z∧z≤(ah l k:Int) then 1 else 0
 | 0,_=>by
  rw [ah_zero,if_neg (by omega)]
  rfl
 | k+1,hk=>by
  have hk2:k<(l.mapIdx (Ls l)).length:=by simp;omega
  rw [O5 C8 hk2,count_part hz hm k (by omega),ah_succ (by omega)]
  have hg:(l.mapIdx (Ls l)).getD k C8=Ls l k (l.getD k C8):=by
   rw [aY,aY]
   simp [show k<l.length by omega]
  rw [hg]
  have hmm:=hm (l.getD k C8) (by simp [show k<l.length by omega])
  rcases Int.lt_or_le z 0 with h|h
  ·rw [mod_low h hmm,if_neg (by omega),if_neg (by omega)]
  ·rw [mod_shift (by omega) hmm]
   split<;>split<;>split<;>omega
theorem count_once {l:List Mod6} {z:Int} (hz:z≠0) (hm:∀ m∈l,∀ z,defsW z m.defs=if 1≤z∧z<(m.sites.length:Int)+1 then 1 else 0):countS z (l.mapIdx (Ls l))=if 1≤z∧z≤(ah l l.length:Int) then 1 else 0:=by
 have:=count_part hz hm l.length (cZ _)
 rw [List.take_of_length_le (by simp)] at this
 exact this
theorem whereL_spec {l:List Mod6} {z:Int} (hz:z≤(ah l l.length:Int)):∀ (f k:Nat),f+k=l.length→(ah l k:Int)<z→k≤Iu l z f k∧Iu l z f k<l.length∧(ah l (Iu l z f k):Int)<z∧z≤(ah l (Iu l z f k+1):Int)
 | 0,k,hk,h=>by
  have:k=l.length:=by omega
  rw [this] at h
  omega
 | f+1,k,hk,h=>by
  rw [Iu]
  split
  ·rename_i h1
   have:=whereL_spec hz f (k+1) (by omega) h1
   exact ⟨by omega,this.2⟩
  ·rename_i h1
   exact ⟨cZ _,by omega,h,by omega⟩
theorem where_spec {l:List Mod6} {z:Int} (h1:1≤z) (hz:z≤(ah l l.length:Int)):∃ a:Nat,a<l.length∧Ey l z=((a:Int),z-ah l a,0)∧(ah l a:Int)<z∧z≤(ah l (a+1):Int):=by
 obtain ⟨_,g1,g2,g3⟩:=whereL_spec hz l.length 0 (by simp) (by rw [ah_zero];omega)
 refine ⟨Iu l z l.length 0,g1,?_,g2,g3⟩
 unfold Ey
 rw [if_neg (by omega)]
theorem where_bad {l:List Mod6} {z:Int} (h:¬ (1≤z∧z≤(ah l l.length:Int))):Ey l z=(0,0,6):=by
 unfold Ey
 rw [if_pos (by omega)]
def prevS (l:List Mod6) (k:Nat):Int×Int:=if k≤1 then (0,0) else ((Ey l ((k:Int)-1)).1,(Ey l ((k:Int)-1)).2.1)
structure StepOk (l:List Mod6) (at_ own a b:Int):Prop where
 le:ltB a at_=false
 same:a=at_→b=own+1
 next:at_<a→b=1
theorem step_ok {l:List Mod6} {k:Nat} (h1:1≤k) (hk:(k:Int)≤(ah l l.length:Int)):StepOk l (prevS l k).1 (prevS l k).2 (Ey l k).1 (Ey l k).2.1:=by
 obtain ⟨a,ha,hw,g1,g2⟩:=where_spec (l:=l) (z:=k) (by omega) hk
 rw [hw]
 simp only
 unfold prevS
 split
 ·have:k=1:=by omega
  subst this
  exact ⟨by rw [←Bool.not_eq_true,Hf];simp only;omega,fun h=>by simp only at h ⊢;omega,fun h=>by simp only at h ⊢;omega⟩
 ·obtain ⟨a',ha',hw',g1',g2'⟩:=where_spec (l:=l) (z:=(k:Int)-1) (by omega) (by omega)
  rw [hw']
  simp only
  refine ⟨?_,fun h=>?_,fun h=>?_⟩
  ·rw [←Bool.not_eq_true,Hf]
   intro h
   have:=ah_mono (l:=l) (j:=a+1) (k:=a') (by omega) (by omega)
   omega
  ·have:a=a':=by omega
   subst this
   omega
  ·have:=ah_mono (l:=l) (j:=a'+1) (k:=a) (by omega) (by omega)
   omega
theorem prevS_succ {l:List Mod6} {k:Nat} (h:1≤k):prevS l (k+1)=((Ey l (k:Int)).1,(Ey l (k:Int)).2.1):=by
 unfold prevS
 rw [if_neg (by omega)]
 have:(((k+1:Nat):Int)-1)=k:=by omega
 rw [this]
def s00:Site:=⟨0,0,false⟩
def live9:List Mod6:=[⟨[97],[],[],[s00,s00]⟩,⟨[98],[],[],[s00,s00,s00]⟩]
theorem live9_num:NumOk live9:=by
 refine ⟨⟨by decide,fun m hm=>?_⟩,fun m hm=>?_,fun m hm d hd=>?_⟩
 ·simp only [live9,bQ,bZ,or_false] at hm
  rcases hm with rfl|rfl<;>simp
 ·simp only [live9,bQ,bZ,or_false] at hm
  rcases hm with rfl|rfl<;>simp
 ·simp only [live9,bQ,bZ,or_false] at hm
  rcases hm with rfl|rfl<;>simp at hd
def Md:Con:=Em true
noncomputable def Fk:Ctx:=⟨tab,lkC [(8,H5),(6,Hw)],60,lkB [],[],false⟩
theorem ctx_alive9_t:Fk.τ=tab:=rfl
theorem ctx_alive9_c:Fk.Γ=lkC [(8,H5),(6,Hw)]:=rfl
theorem ctx_alive9_d:Fk.dp=60:=rfl
theorem ctx_alive9_b:Fk.Δ=lkB []:=rfl
theorem ctx_alive9_u:Fk.cuts=[]:=rfl
theorem ctx_alive9_w:Fk.wr=false:=rfl
set_option maxRecDepth 100000 in
theorem good_alive9:Hg Try.prog (5,Md):=by
 refine ⟨Ke Try.func5 (by kernel_rfl) rfl,?_⟩
 have K:Gu Try.prog Fk:=Ko G7 Kw (by
  intro p hp
  simp only [bQ,bZ,or_false] at hp
  rcases hp with rfl|rfl
  ·exact good_WhereS
  ·exact good_NumberS) (by simp)
 obtain ⟨c,hc⟩:∃ c,Try.f5.body=some c:=⟨_,rfl⟩
 refine Kn K Try.func5 hc [.tmp 0] rfl 43 rfl (fun cvs hpre=>?_)
 change Md.pre cvs at hpre
 unfold Md at hpre
 obtain rfl:=con0_pre hpre
 clear hpre
 have hN:=live9_num
 have hS:=hN.sites
 have hw:Ey live9 4=(1,2,0):=by decide
 have hn:I5 live9=(⟨live9.mapIdx (Ls live9)⟩,5,0):=by
  unfold I5
  rw [if_neg (by decide)]
  rfl
 have hr:inR .i64 4:=by rw [Uk];omega
 have d1:(dec (.agg [.str [97],.list 1 [],.list 3 [],.list 3 (List.replicate 2 (.agg [.int .i64 0,.int .i64 0,.bool false]))]):Mod6)=⟨[97],[],[],[s00,s00]⟩:=rfl
 have d2:(dec (.agg [.str [98],.list 1 [],.list 3 [],.list 3 (List.replicate 3 (.agg [.int .i64 0,.int .i64 0,.bool false]))]):Mod6)=⟨[98],[],[],[s00,s00,s00]⟩:=rfl
 have i1:isE Mod6 (.agg [.str [97],.list 1 [],.list 3 [],.list 3 (List.replicate 2 (.agg [.int .i64 0,.int .i64 0,.bool false]))])=True:=eq_true rfl
 have i2:isE Mod6 (.agg [.str [98],.list 1 [],.list 3 [],.list 3 (List.replicate 3 (.agg [.int .i64 0,.int .i64 0,.bool false]))])=True:=eq_true rfl
 have hlv:[(⟨[97],[],[],[s00,s00]⟩:Mod6),⟨[98],[],[],[s00,s00,s00]⟩]=live9:=rfl
 simp only [Try.f5,aZ] at hc
 subst hc
 refine Gf 2 (of_decide_eq_true (by kernel_rfl)) ?_
 (sym=>simp [d1,d2,i1,i2,hlv,hw,hn,lJ,lW,G8,F8,ctx_alive9_t,ctx_alive9_c,ctx_alive9_d,ctx_alive9_b,ctx_alive9_u,ctx_alive9_w,Hw.eq_def,pX,Md.eq_def,Zb,Zc,Zd,Ze,Zf,Zh,Zi,Zj,Zk,Zl,Zm,Zo,Zr,Zt,Z1,Z2,Z3,Qa,Qb,Qd,Qf,Qg,Qh,Qi,Qj,Qn,Qp,Qq,Qr,Qs,Qt,Qu,Qv,Qw,Qx,Qy,Qz,Q0,Q1,Q2,Q3,Q4,Q5,Q6,Q7,Q8,Q9,Ja,Jb,Jc,Jd,Je,Jf,Jj,Jq,Jr,Js,Jt,Ju,Jv,Jw,Jx,Jy,Jz,J0,J1,J2,J4,J5,J6,J7,Xa,Xc,Xj,Xk,Xl,Xq,Xr,Xs,Xt,Xu,Xv,Xw,Xx,Xy,Xz,X0,X1,X2,X4,X6,X7,X8,X9,Wb,Wc,Wd,Wf,Wg,Wh,Wi,Wj,Wl,Wm,Wn,Wo,Wp,Wt,Wx,W1,W4,W6,Yc,Yd,Yn,Yo,Yp,Yq,Yr,Ys,Yt,Yu,Yv,Yw,Yx,Y0,Y2,Y9,Va,Vc,Vd,Vi,Vj,Vk,Vl,Vn,Vo,Vt,Vw,Vy,Vz,V0,V1,V2,V4,V5,V6,V8,Ue,Uf,Ug,Uh,U5,G6,Ks,Mr,Gm,H2];tactic =>
  try simp only [Uq] at *;try simp only [nc2] at *
  try simp (maxSteps:=4000000) only [d1,d2,i1,i2,hlv,hw,hn,lJ,lW,G8,F8,U6]
  repeat' first|with_reducible assumption|with_reducible apply And.intro|intro _|omega|(rw [Uk];omega)
  all_goals first|with_reducible exact okq|omega|exact hS|exact hN|exact hr|rfl|trivial|skip)
theorem low_of {t:List Node} (h:∀ z:Int,100000<z→Hz (Pi z) t=0) (hl:t.length≤100001):LowT t:=by
 refine ⟨by omega,fun n hn hk=>Int.not_lt.1 fun hh=>?_⟩
 have:=h n.n (by omega)
 unfold Hz at this
 have h1:=List.sum_eq_zero_iff_forall_eq_nat.1 this (Pi n.n n) (List.mem_map_of_mem hn)
 unfold Pi at h1
 rw [if_pos ⟨hk,rfl⟩] at h1
 cases h1
theorem sum_mem_zero {α:Type} {w:α→Nat} {l:List α} (h:(l.map w).sum=0) {x:α} (hx:x∈l):w x=0 :=
 List.sum_eq_zero_iff_forall_eq_nat.1 h (w x) (List.mem_map_of_mem hx)
theorem good_num {l:List Mod6} (h20:l.length≤20) (hG:∀ m∈l,Good9 m):NumOk l:=by
 refine ⟨⟨h20,fun m hm=>by have:=(hG m hm).slen;omega⟩,fun m hm=>by have:=(hG m hm).dlen;omega,fun m hm d hd=>?_⟩
 have hg:=hG m hm
 have hf:=hg.fit d hd
 have hz:∀ z:Int,100000<z→C9 z d=0:=fun z hz=>by
  have h1:=hg.cnt z
  have h2:=hg.slen
  rw [if_neg (by omega)] at h1
  unfold defsW at h1
  exact sum_mem_zero h1 hd
 refine ⟨low_of (fun z h=>?_) hf.t,by have:=hf.e;omega,fun p hp=>?_⟩
 ·have:=hz z h
  unfold C9 at this
  omega
 ·have hp1:∀ z:Int,100000<z→P6 z p=0:=fun z h=>by
   have h1:=hz z h
   unfold C9 at h1
   have h2:Bj z d.e=0:=by omega
   unfold Bj at h2
   exact sum_mem_zero h2 hp
  have hfp:=hf.fit p hp
  exact ⟨low_of (fun z h=>by have:=hp1 z h;unfold P6 at this;omega) hfp.1.1,low_of (fun z h=>by have:=hp1 z h;unfold P6 at this;omega) hfp.2.1.1⟩
theorem good_cnt {l:List Mod6} (h20:l.length≤20) (hG:∀ m∈l,Good9 m):CntOk (l.mapIdx (Ls l)):=by
 have hmem:∀ m∈l.mapIdx (Ls l),∃ k,∃ m'∈l,m=Ls l k m':=fun m hm=>by
  obtain ⟨i,hi,rfl⟩:=List.mem_mapIdx.1 hm
  exact ⟨i,_,List.getElem_mem hi,rfl⟩
 have hdef:∀ m∈l.mapIdx (Ls l),∀ d∈m.defs,∃ k,∃ m'∈l,∃ d'∈m'.defs,d=Te (ah l k) d':=fun m hm d hd=>by
  obtain ⟨k,m',hm',rfl⟩:=hmem m hm
  unfold Ls at hd
  simp only at hd
  obtain ⟨i,hi,rfl⟩:=List.mem_mapIdx.1 hd
  exact ⟨k,m',hm',_,List.getElem_mem hi,rfl⟩
 refine ⟨by simpa using h20,fun m hm=>?_,fun m hm d hd=>?_,fun m hm d hd=>?_,fun m hm d hd p hp=>?_⟩
 ·obtain ⟨k,m',hm',rfl⟩:=hmem m hm
  unfold Ls
  simpa using (hG m' hm').dlen
 ·obtain ⟨k,m',hm',d',hd',rfl⟩:=hdef m hm d hd
  unfold Te Iy
  simpa using ((hG m' hm').fit d' hd').t
 ·obtain ⟨k,m',hm',d',hd',rfl⟩:=hdef m hm d hd
  unfold Te
  simpa using ((hG m' hm').fit d' hd').e
 ·obtain ⟨k,m',hm',d',hd',rfl⟩:=hdef m hm d hd
  unfold Te at hp
  simp only at hp
  obtain ⟨i,hi,rfl⟩:=List.mem_mapIdx.1 hp
  have:=((hG m' hm').fit d' hd').fit _ (List.getElem_mem hi)
  unfold T7 Iy
  simpa using ⟨this.1.1,this.2.1.1⟩
def con_ScopeOnce:Con:=Ms (fun (_:Tx9) (site:Int)=>inR .i64 site) (fun _ _=>true)
noncomputable def Tx:Ctx:=⟨tab,lkC [(4,Hy),(5,Md),(6,Hw),(7,Mc),(8,H5)],60,lkB [],[],false⟩
theorem Ni:Tx.τ=tab:=rfl
theorem Nk:Tx.Γ=lkC [(4,Hy),(5,Md),(6,Hw),(7,Mc),(8,H5)]:=rfl
theorem Nj:Tx.dp=60:=rfl
theorem Nl:Tx.Δ=lkB []:=rfl
theorem Nv:Tx.cuts=[]:=rfl
theorem Tf:Tx.wr=false:=rfl
set_option maxRecDepth 100000 in
theorem good_ScopeOnce:Hg Try.prog (3,con_ScopeOnce):=by
 refine ⟨Ke Try.func3 (by kernel_rfl) rfl,?_⟩
 have K:Gu Try.prog Tx:=Ko G7 Kw (by
  intro p hp
  simp only [bQ,bZ,or_false] at hp
  rcases hp with rfl|rfl|rfl|rfl|rfl
  ·exact good_Program9
  ·exact good_alive9
  ·exact good_NumberS
  ·exact good_count9
  ·exact good_WhereS) (by simp)
 obtain ⟨c,hc⟩:∃ c,Try.f3.body=some c:=⟨_,rfl⟩
 refine Kn K Try.func3 hc [.tmp 4] rfl 141 rfl (fun cvs hpre=>?_)
 change con_ScopeOnce.pre cvs at hpre
 unfold con_ScopeOnce at hpre
 obtain ⟨⟨names,texts⟩,site,rfl,hsr⟩:=Bb hpre
 clear hpre
 have hg:=program9_good ⟨names,texts⟩
 obtain ⟨⟨l,ok⟩,hq⟩:∃ q,A5 ⟨names,texts⟩=q:=⟨_,rfl⟩
 rw [hq] at hg
 simp only at hg
 obtain ⟨h20,hG⟩:=hg
 have hN:=good_num h20 hG
 have hS:=hN.sites
 simp only [Try.f3,aZ] at hc
 subst hc
 refine Gf 8 (of_decide_eq_true (by kernel_rfl)) ?_
 cases ok with
 | false =>
  (sym=>simp [hq,oQ,lW,mZ,lJ,Hi,Hj,Hh,G8,Ni,Nk,Nj,Nl,Hw.eq_def,Hy.eq_def,con_ScopeOnce.eq_def,pX,Md.eq_def,Mc.eq_def,Zb,Zc,Ze,Zf,Zo,Zp,Zq,Zu,Zv,Qa,Qb,Qe,Qf,Qg,Qh,Qi,Qj,Qn,Qp,Qq,Qr,Qs,Qu,Qv,Qw,Qx,Q1,Q2,Q3,Q8,Ja,Jb,Jc,Jd,Je,Jj,Jq,Jr,Js,Jt,Jv,Jw,Jy,Jz,J2,J6,J7,Xb,Xe,Xj,Xl,Xm,Xq,Xr,Xu,Xw,Xx,Xy,X6,X7,X8,X9,Wb,Wc,Wd,Wf,Wh,Wi,Wj,Wl,Wo,Wp,Wu,Wy,W6,Yc,Yd,Yn,Yo,Yr,Ys,Yt,Yu,Yv,Yw,Y6,Y9,Vk,Vy,V0,V1,V5,V6,Ui,U5,K9,Ce,G6,Ks,Mr,Gm,H2])
 | true =>
  by_cases h60:60<ah l l.length
  ·have hnum:I5 l=(⟨[]⟩,0,11):=by unfold I5;rw [if_pos h60]
   (sym=>simp [hq,hnum,oQ,lW,mZ,lJ,Hi,Hj,Hh,G8,Ni,Nk,Nj,Nl,Nv,Hw.eq_def,Hy.eq_def,con_ScopeOnce.eq_def,pX,Md.eq_def,Mc.eq_def,Zb,Zc,Zd,Ze,Zf,Zo,Zp,Zq,Zt,Zu,Zv,Z6,Qa,Qb,Qd,Qe,Qf,Qg,Qh,Qi,Qj,Qn,Qp,Qq,Qr,Qs,Qu,Qv,Qw,Qx,Q1,Q2,Q3,Q8,Ja,Jb,Jc,Jd,Je,Jf,Jj,Jq,Jr,Js,Jt,Jv,Jw,Jy,Jz,J2,J6,J7,Xb,Xe,Xi,Xj,Xl,Xm,Xq,Xr,Xu,Xw,Xx,Xy,X6,X7,X8,X9,Wb,Wc,Wd,Wf,Wh,Wi,Wj,Wl,Wm,Wn,Wo,Wp,Wt,Wu,Wx,Wy,W6,Yc,Yd,Yf,Yg,Yn,Yo,Yr,Ys,Yt,Yu,Yv,Yw,Yz,Y4,Y5,Y9,Va,Vg,Vj,Vk,Vy,Vz,V0,V1,V5,V6,Ui,U5,K9,Ce,G6,Ks,Mr,Gm,H2];tactic =>
    try simp only [Uq] at *;try simp only [nc2] at *
    try simp (maxSteps:=4000000) only [hq,hnum,oQ,lW,mZ,lJ,Hi,Hj,Hh,G8,U6]
    repeat' first|with_reducible assumption|with_reducible apply And.intro|intro _|omega|(rw [Uk];omega)
    all_goals first|with_reducible exact okq|omega|exact hN|rfl|trivial|skip)
  have hnum:I5 l=(⟨l.mapIdx (Ls l)⟩,(ah l l.length:Int),0):=by unfold I5;rw [if_neg h60]
  have hPc:=good_cnt h20 hG
  have hcnt:=fun (z:Int) (h:z≠0)=>count_once (l:=l) (z:=z) h fun m hm=>(hG m hm).cnt
  have hstep:=fun (k:Nat)=>step_ok (l:=l) (k:=k)
  have hwh:=fun (z:Int)=>where_spec (l:=l) (z:=z)
  have hsucc:=fun (a:Nat) (h:a<l.length)=>ah_succ (l:=l) h
  have hwb:=where_bad (l:=l) (z:=site)
  have hws:=hwh site
  obtain ⟨P,hP⟩:∃ P,l.mapIdx (Ls l)=P:=⟨_,rfl⟩
  rw [hP] at hnum hPc hcnt
  obtain ⟨N,hNq⟩:∃ N,ah l l.length=N:=⟨_,rfl⟩
  rw [hNq] at hnum hcnt h60 hstep hwh hwb hws
  have hC:=hcnt site
  obtain ⟨cn,hcn⟩:∃ c,countS site P=c:=⟨_,rfl⟩
  rw [hcn] at hC
  have hc1:(cn:Int)≠0→ltB site 0=false∧ltB (N:Int) site=false:=fun h=>by
   by_cases hs0:site=0
   ·rw [hs0]
    exact ⟨by rw [←Bool.not_eq_true,Hf];omega,by rw [←Bool.not_eq_true,Hf];omega⟩
   ·have:=hC hs0
    split at this
    ·exact ⟨by rw [←Bool.not_eq_true,Hf];omega,by rw [←Bool.not_eq_true,Hf];omega⟩
    ·exact absurd (by omega:(cn:Int)=0) h
  have hz1:(prevS l 1)=(0,0):=rfl
  have hall:∃ c0:Bool,((cn:Int) != 0)=c0∧(c0=true→ltB site 0=false∧ltB (N:Int) site=false):=⟨_,rfl,fun h=>hc1 (bne_iff_ne.1 h)⟩
  obtain ⟨c0,hc0,hc2⟩:=hall
  clear hc1 hC
  have hfin:∃ (a b e:Int),Ey l site=(a,b,e)∧((e==0)==(leB 1 site&&leB site (N:Int)))=true:=by
   by_cases h:1≤site∧site≤(N:Int)
   ·obtain ⟨a,_,hw,_⟩:=hws h.1 h.2
    refine ⟨_,_,_,hw,?_⟩
    have a1:leB 1 site=true:=by rw [G4];exact h.1
    have a2:leB site (N:Int)=true:=by rw [G4];exact h.2
    rw [a1,a2]
    rfl
   ·refine ⟨_,_,_,hwb h,?_⟩
    have:(leB 1 site&&leB site (N:Int))=false:=by
     rw [←Bool.not_eq_true,bX,G4,G4]
     exact h
    rw [this]
    rfl
  obtain ⟨fa,fb,fe,hfw,hfe⟩:=hfin
  clear hws hwb
  cases c0 with
  | false =>
   (sym=>simp [hq,hnum,hcn,hc0,oQ,lW,mZ,lJ,Hi,Hj,Hh,G8,Ni,Nk,Nj,Nl,Nv,Hw.eq_def,Hy.eq_def,con_ScopeOnce.eq_def,pX,Md.eq_def,Mc.eq_def,Zb,Zc,Zd,Ze,Zf,Zo,Zp,Zq,Zt,Zu,Zv,Qa,Qb,Qd,Qe,Qf,Qg,Qh,Qi,Qj,Qn,Qs,Qu,Qv,Qw,Qx,Q1,Q2,Q3,Q8,Ja,Jb,Jc,Je,Jf,Jj,Jq,Jr,Js,Jt,Jv,Jw,Jy,Jz,J2,J6,J7,Xb,Xe,Xi,Xj,Xl,Xm,Xn,Xo,Xr,Xu,Xw,Xx,Xy,X6,X7,X8,X9,Wb,Wc,Wd,Wf,Wh,Wi,Wj,Wl,Wm,Wn,Wo,Wp,Wt,Wu,Wx,Wy,W6,Yc,Yd,Yn,Yo,Yr,Ys,Yt,Yu,Yv,Yw,Yx,Yz,Y2,Y4,Y5,Y9,Va,Vj,Vk,Vz,V0,V1,V5,V6,Ui,U5,K9,Ce,G6,Ks,Mr,Gm,H2];tactic =>
    try simp only [Uq] at *;try simp only [nc2] at *
    try simp (maxSteps:=4000000) only [hq,hnum,hcn,hc0,oQ,lW,mZ,lJ,Hi,Hj,Hh,G8,U6]
    repeat' first|with_reducible assumption|with_reducible apply And.intro|intro _|omega|(rw [Uk];omega)
    all_goals first|exact hN|exact hPc|skip
    refine Kk [4,13,14,15,58,59,60,61,62,63,64,65,66,67,68,69,70,71,72,73,74,75,76,77,78,79,80,81,82,83,84,85,86,87,88,89,90,91,92,93,94,95,96,97,98,99,100,101,102,103,104,105,106,107,108,109,110,111,112,113,114,115,116,117,118,119,120] (fun k:Nat=>[(12,.d (.int .i64 k)),(10,.d (.int .i64 (prevS l k).1)),(11,.d (.int .i64 (prevS l k).2))]) (fun k:Nat=>[]) (fun k:Nat=>1≤k∧k≤N+1) (fun k:Nat=>N+1-k) 1 ?_ ?_ ?_
    ·exact ⟨by omega,by omega⟩
    ·((try simp only [Ul,U0,Ux,U8,upd,U7,Ki,K0,Nat.reduceDiv,Nat.reduceMod,Nat.reduceMul,Nat.reduceAdd,Nat.reduceEqDiff,aV,aW,if_true,if_false,reduceIte]);(first|refine Wk.of_fl ?_|skip);simp only [Wk,wkK,Ga,wkT,wk1,AV.kept,keptAll,wkO,lk,Uw,and_true,true_and,and_self,Nat.reduceEqDiff,Nat.reduceLeDiff,if_true,if_false,reduceIte,reduceCtorEq,Option.isSome,false_implies];try simp [Wk,wkK,wkT,wk1,AV.kept,keptAll,wkO,lk,Uw,hz1])
    rintro k ⟨hk1,hk2⟩
    rcases leB_cases (k:Int) (N:Int) with ⟨hle,hleb⟩|⟨hle,hleb⟩
    ·obtain ⟨a,hal,hw,g1,g2⟩:=hwh k (by omega) (by omega)
     have hst:=hstep k hk1 (by omega)
     have hps:=prevS_succ (l:=l) hk1
     have hck:countS (k:Int) P=1:=by rw [hcnt k (by omega),if_pos (by omega)]
     have hckb:((countS (k:Int) P:Int) != 1)=false:=by rw [hck];rfl
     have hckn:((1:Nat):Int)=1:=rfl
     have hsa:=hsucc a hal
     have q1:=K7 C8 hal
     obtain ⟨m,hm⟩:∃ m,l.getD a C8=m:=⟨_,rfl⟩
     rw [hm] at hsa q1
     obtain ⟨mn,mi,md,ms⟩:=m
     simp only at hsa
     obtain ⟨b,hb⟩:∃ b,(k:Int)-(ah l a:Int)=b:=⟨_,rfl⟩
     rw [hb] at hw
     rw [hw] at hst hps
     simp only at hst hps
     obtain ⟨⟨at_,own⟩,hpq⟩:∃ q,prevS l k=q:=⟨_,rfl⟩
     rw [hpq] at hst
     simp only at hst
     obtain ⟨s1,s2,s3⟩:=hst
     rw [hpq]
     have hla:leB (l.length:Int) (a:Int)=false:=by rw [←Bool.not_eq_true,G4];omega
     have hsb:ltB (ms.length:Int) b=false:=by rw [←Bool.not_eq_true,Hf];omega
     have hown:own+1=b∨(a:Int)≠at_:=by
      by_cases h:(a:Int)=at_
      ·exact .inl (s2 h).symm
      ·exact .inr h
     have hob:-1≤own∧own≤1000000:=by
      unfold prevS at hpq
      split at hpq
      ·injection hpq with e1 e2
       omega
      ·obtain ⟨a',_,hw',g1',g2'⟩:=hwh ((k:Int)-1) (by omega) (by omega)
       rw [hw'] at hpq
       injection hpq with e1 e2
       simp only at e2
       omega
     have hkr:inR .i64 (k:Int):=by rw [Uk];omega
     clear hstep hwh hsucc hcnt
     cases hae:((a:Int)==at_) with
     | true =>
      have ha2:(a:Int)=at_:=by simpa using hae
      have hbo:(b != own+1)=false:=by rw [bne_eq_false_iff_eq];exact s2 ha2
      have hlt:ltB at_ (a:Int)=false:=by rw [←Bool.not_eq_true,Hf];omega
      (sym=>simp [hleb,hw,hck,hckn,s1,hae,hbo,hlt,hla,q1,hsb,Km,oQ,lW,mZ,lJ,Hi,Hj,Hh,G8,Ni,Nk,Nj,Nl,Nv,Tf,Hw.eq_def,Hy.eq_def,pX,Md.eq_def,Mc.eq_def,Zb,Zc,Zd,Ze,Zf,Zg,Zo,Zp,Zq,Zs,Zt,Zv,Zx,Zy,Z6,Qa,Qb,Qd,Qf,Qg,Qh,Qi,Qs,Qu,Qv,Qw,Qx,Q1,Q2,Q3,Q8,Jc,Je,Jf,Jl,Jm,Jn,Js,Jt,Jv,Jw,Jy,Jz,J2,Xe,Xi,Xj,Xl,Xm,Xn,Xr,Xu,Xw,Xx,Xy,X6,X7,X8,X9,Wb,Wd,Wf,Wj,Wl,Wm,Wn,Wo,Wp,Wr,Wt,Ww,Wx,W0,W1,Ya,Yb,Yc,Yd,Yf,Yg,Yn,Yo,Yx,Yz,Y2,Y4,Y7,Y9,Va,Vj,Vk,Vy,Vz,V0,V1,V2,V3,V5,V6,Ui,U5,K9,Ce,G6,Ks,Mr,Gm,H2];tactic =>
       try simp only [Uq] at *;try simp only [nc2] at *
       try simp (maxSteps:=4000000) only [hleb,hw,hck,hckn,s1,hae,hbo,hlt,hla,q1,hsb,Km,oQ,lW,mZ,lJ,Hi,Hj,Hh,G8,U6]
       repeat' first|with_reducible assumption|with_reducible apply And.intro|intro _|omega|(rw [Uk];omega)
       all_goals first|with_reducible exact okq|omega|exact hS|exact hPc|exact hkr|exact ⟨k+1,by ((try simp only [Ul,U0,Ux,U8,upd,U7,Ki,K0,Nat.reduceDiv,Nat.reduceMod,Nat.reduceMul,Nat.reduceAdd,Nat.reduceEqDiff,aV,aW,if_true,if_false,reduceIte]);(first|refine Wk.of_fl ?_|skip);simp only [Wk,wkK,Ga,wkT,wk1,AV.kept,keptAll,wkO,lk,Uw,and_true,true_and,and_self,Nat.reduceEqDiff,Nat.reduceLeDiff,if_true,if_false,reduceIte,reduceCtorEq,Option.isSome,false_implies];try simp [Wk,wkK,wkT,wk1,AV.kept,keptAll,wkO,lk,Uw,hps]),by omega,by omega,by omega⟩|rfl|trivial|skip)
     | false =>
      cases hlt:ltB at_ (a:Int) with
      | true =>
       have hb1:(b != 1)=false:=by rw [bne_eq_false_iff_eq];exact s3 (by rw [Hf] at hlt;exact hlt)
       (sym=>simp [hleb,hw,hck,hckn,s1,hae,hlt,hb1,hla,q1,hsb,Km,oQ,lW,mZ,lJ,Hi,Hj,Hh,G8,Ni,Nk,Nj,Nl,Nv,Tf,Hw.eq_def,Hy.eq_def,pX,Md.eq_def,Mc.eq_def,Zb,Zc,Zd,Ze,Zf,Zg,Zo,Zp,Zq,Zs,Zt,Zv,Zx,Zy,Z6,Qa,Qb,Qd,Qf,Qg,Qh,Qi,Qs,Qu,Qv,Qw,Qx,Q1,Q2,Q3,Q8,Jc,Je,Jf,Jl,Jm,Jn,Js,Jt,Jv,Jw,Jy,Jz,J2,Xe,Xi,Xj,Xl,Xm,Xn,Xr,Xu,Xw,Xx,Xy,X6,X7,X8,X9,Wb,Wd,Wf,Wj,Wl,Wm,Wn,Wo,Wp,Wr,Wt,Ww,Wx,W0,W1,Ya,Yb,Yc,Yd,Yf,Yg,Yn,Yo,Yx,Yz,Y2,Y4,Y7,Y9,Va,Vj,Vk,Vy,Vz,V0,V1,V2,V3,V5,V6,Ui,U5,K9,Ce,G6,Ks,Mr,Gm,H2];tactic =>
        try simp only [Uq] at *;try simp only [nc2] at *
        try simp (maxSteps:=4000000) only [hleb,hw,hck,hckn,s1,hae,hlt,hb1,hla,q1,hsb,Km,oQ,lW,mZ,lJ,Hi,Hj,Hh,G8,U6]
        repeat' first|with_reducible assumption|with_reducible apply And.intro|intro _|omega|(rw [Uk];omega)
        all_goals first|with_reducible exact okq|omega|exact hS|exact hPc|exact hkr|exact ⟨k+1,by ((try simp only [Ul,U0,Ux,U8,upd,U7,Ki,K0,Nat.reduceDiv,Nat.reduceMod,Nat.reduceMul,Nat.reduceAdd,Nat.reduceEqDiff,aV,aW,if_true,if_false,reduceIte]);(first|refine Wk.of_fl ?_|skip);simp only [Wk,wkK,Ga,wkT,wk1,AV.kept,keptAll,wkO,lk,Uw,and_true,true_and,and_self,Nat.reduceEqDiff,Nat.reduceLeDiff,if_true,if_false,reduceIte,reduceCtorEq,Option.isSome,false_implies];try simp [Wk,wkK,wkT,wk1,AV.kept,keptAll,wkO,lk,Uw,hps]),by omega,by omega,by omega⟩|rfl|trivial|skip)
      | false =>
       (sym=>simp [hleb,hw,hck,hckn,s1,hae,hlt,hla,q1,hsb,Km,oQ,lW,mZ,lJ,Hi,Hj,Hh,G8,Ni,Nk,Nj,Nl,Nv,Tf,Hw.eq_def,Hy.eq_def,pX,Md.eq_def,Mc.eq_def,Zb,Zc,Zd,Ze,Zf,Zg,Zo,Zp,Zq,Zs,Zt,Zv,Zx,Zy,Z6,Qa,Qb,Qd,Qf,Qg,Qh,Qi,Qs,Qu,Qv,Qw,Qx,Q1,Q2,Q3,Q8,Jc,Je,Jf,Jl,Jm,Jn,Js,Jt,Jv,Jw,Jy,Jz,J2,Xe,Xi,Xj,Xl,Xm,Xn,Xr,Xu,Xw,Xx,Xy,X6,X7,X8,X9,Wb,Wd,Wf,Wj,Wl,Wm,Wn,Wo,Wp,Wr,Wt,Ww,Wx,W0,W1,Ya,Yb,Yc,Yd,Yf,Yg,Yn,Yo,Yx,Yz,Y2,Y4,Y7,Y9,Va,Vj,Vk,Vy,Vz,V0,V1,V2,V3,V5,V6,Ui,U5,K9,Ce,G6,Ks,Mr,Gm,H2];tactic =>
        try simp only [Uq] at *;try simp only [nc2] at *
        try simp (maxSteps:=4000000) only [hleb,hw,hck,hckn,s1,hae,hlt,hla,q1,hsb,Km,oQ,lW,mZ,lJ,Hi,Hj,Hh,G8,U6]
        repeat' first|with_reducible assumption|with_reducible apply And.intro|intro _|omega|(rw [Uk];omega)
        all_goals first|with_reducible exact okq|omega|exact hS|exact hPc|exact hkr|exact ⟨k+1,by ((try simp only [Ul,U0,Ux,U8,upd,U7,Ki,K0,Nat.reduceDiv,Nat.reduceMod,Nat.reduceMul,Nat.reduceAdd,Nat.reduceEqDiff,aV,aW,if_true,if_false,reduceIte]);(first|refine Wk.of_fl ?_|skip);simp only [Wk,wkK,Ga,wkT,wk1,AV.kept,keptAll,wkO,lk,Uw,and_true,true_and,and_self,Nat.reduceEqDiff,Nat.reduceLeDiff,if_true,if_false,reduceIte,reduceCtorEq,Option.isSome,false_implies];try simp [Wk,wkK,wkT,wk1,AV.kept,keptAll,wkO,lk,Uw,hps]),by omega,by omega,by omega⟩|rfl|trivial|skip)
    ·clear hstep hwh hsucc hcnt
     cases hb1:leB 1 site with
     | false =>
      rw [hb1,Bool.false_and] at hfe
      (sym=>simp [hleb,hfw,hb1,hfe,oQ,lW,mZ,lJ,Hi,Hj,Hh,G8,Ni,Nk,Nj,Nl,Nv,Hw.eq_def,Hy.eq_def,pX,Md.eq_def,Mc.eq_def,Zb,Zc,Zd,Ze,Zf,Zg,Zt,Qa,Qb,Qd,Qf,Qg,Qh,Qi,Qp,Qq,Qr,Qs,Qu,Qv,Qw,Qx,Q1,Q2,Q3,Q8,Jc,Jd,Je,Jf,Jl,Jm,Jn,Js,Jt,Ju,Jv,Jw,Jx,Jy,Jz,J2,Xe,Xj,Xl,Xm,Xp,Xq,Xr,Xu,Xw,Xx,X6,X7,X8,X9,Wb,Wd,Wf,Wj,Wl,Wm,Wn,Wo,Wp,Wr,Wt,Wu,Wx,Wy,Yc,Yd,Yn,Yo,Yp,Yq,Yx,Yz,Y2,Y4,Y9,Va,Vj,Vk,Vy,Vz,V0,V1,V2,V5,V6,U5,K9,Ce,G6,Ks,Mr,Gm,H2];tactic =>
       try simp only [Uq] at *;try simp only [nc2] at *
       try simp (maxSteps:=4000000) only [hleb,hfw,hb1,hfe,oQ,lW,mZ,lJ,Hi,Hj,Hh,G8,U6]
       repeat' first|with_reducible assumption|with_reducible apply And.intro|intro _|omega|(rw [Uk];omega)
       all_goals first|with_reducible exact okq|omega|exact hS|exact hsr|rfl|trivial|skip)
     | true =>
      rw [hb1,Bool.true_and] at hfe
      (sym=>simp [hleb,hfw,hb1,hfe,oQ,lW,mZ,lJ,Hi,Hj,Hh,G8,Ni,Nk,Nj,Nl,Nv,Hw.eq_def,Hy.eq_def,pX,Md.eq_def,Mc.eq_def,Zb,Zc,Zd,Ze,Zf,Zg,Zt,Qa,Qb,Qd,Qf,Qg,Qh,Qi,Qp,Qq,Qr,Qs,Qu,Qv,Qw,Qx,Q1,Q2,Q3,Q8,Jc,Jd,Je,Jf,Jl,Jm,Jn,Js,Jt,Ju,Jv,Jw,Jx,Jy,Jz,J2,Xe,Xj,Xl,Xm,Xp,Xq,Xr,Xu,Xw,Xx,X6,X7,X8,X9,Wb,Wd,Wf,Wj,Wl,Wm,Wn,Wo,Wp,Wr,Wt,Wu,Wx,Wy,Yc,Yd,Yn,Yo,Yp,Yq,Yx,Yz,Y2,Y4,Y9,Va,Vj,Vk,Vy,Vz,V0,V1,V2,V5,V6,U5,K9,Ce,G6,Ks,Mr,Gm,H2];tactic =>
       try simp only [Uq] at *;try simp only [nc2] at *
       try simp (maxSteps:=4000000) only [hleb,hfw,hb1,hfe,oQ,lW,mZ,lJ,Hi,Hj,Hh,G8,U6]
       repeat' first|with_reducible assumption|with_reducible apply And.intro|intro _|omega|(rw [Uk];omega)
       all_goals first|with_reducible exact okq|omega|exact hS|exact hsr|rfl|trivial|skip))
  | true =>
   obtain ⟨hn1,hn2⟩:=hc2 rfl
   (sym=>simp [hq,hnum,hcn,hc0,hn1,hn2,oQ,lW,mZ,lJ,Hi,Hj,Hh,G8,Ni,Nk,Nj,Nl,Nv,Hw.eq_def,Hy.eq_def,con_ScopeOnce.eq_def,pX,Md.eq_def,Mc.eq_def,Zb,Zc,Zd,Ze,Zf,Zo,Zp,Zq,Zt,Zu,Zv,Qa,Qb,Qd,Qe,Qf,Qg,Qh,Qi,Qj,Qn,Qs,Qu,Qv,Qw,Qx,Q1,Q2,Q3,Q8,Ja,Jb,Jc,Je,Jf,Jj,Jq,Jr,Js,Jt,Jv,Jw,Jy,Jz,J2,J6,J7,Xb,Xe,Xi,Xj,Xl,Xm,Xn,Xo,Xr,Xu,Xw,Xx,Xy,X6,X7,X8,X9,Wb,Wc,Wd,Wf,Wh,Wi,Wj,Wl,Wm,Wn,Wo,Wp,Wt,Wu,Wx,Wy,W6,Yc,Yd,Yn,Yo,Yr,Ys,Yt,Yu,Yv,Yw,Yx,Yz,Y2,Y4,Y5,Y9,Va,Vj,Vk,Vy,Vz,V0,V1,V5,V6,Ui,U5,K9,Ce,G6,Ks,Mr,Gm,H2];tactic =>
    try simp only [Uq] at *;try simp only [nc2] at *
    try simp (maxSteps:=4000000) only [hq,hnum,hcn,hc0,hn1,hn2,oQ,lW,mZ,lJ,Hi,Hj,Hh,G8,U6]
    repeat' first|with_reducible assumption|with_reducible apply And.intro|intro _|omega|(rw [Uk];omega)
    all_goals first|exact hN|exact hPc|skip
    refine Kk [4,13,14,15,58,59,60,61,62,63,64,65,66,67,68,69,70,71,72,73,74,75,76,77,78,79,80,81,82,83,84,85,86,87,88,89,90,91,92,93,94,95,96,97,98,99,100,101,102,103,104,105,106,107,108,109,110,111,112,113,114,115,116,117,118,119,120] (fun k:Nat=>[(12,.d (.int .i64 k)),(10,.d (.int .i64 (prevS l k).1)),(11,.d (.int .i64 (prevS l k).2))]) (fun k:Nat=>[]) (fun k:Nat=>1≤k∧k≤N+1) (fun k:Nat=>N+1-k) 1 ?_ ?_ ?_
    ·exact ⟨by omega,by omega⟩
    ·((try simp only [Ul,U0,Ux,U8,upd,U7,Ki,K0,Nat.reduceDiv,Nat.reduceMod,Nat.reduceMul,Nat.reduceAdd,Nat.reduceEqDiff,aV,aW,if_true,if_false,reduceIte]);(first|refine Wk.of_fl ?_|skip);simp only [Wk,wkK,Ga,wkT,wk1,AV.kept,keptAll,wkO,lk,Uw,and_true,true_and,and_self,Nat.reduceEqDiff,Nat.reduceLeDiff,if_true,if_false,reduceIte,reduceCtorEq,Option.isSome,false_implies];try simp [Wk,wkK,wkT,wk1,AV.kept,keptAll,wkO,lk,Uw,hz1])
    rintro k ⟨hk1,hk2⟩
    rcases leB_cases (k:Int) (N:Int) with ⟨hle,hleb⟩|⟨hle,hleb⟩
    ·obtain ⟨a,hal,hw,g1,g2⟩:=hwh k (by omega) (by omega)
     have hst:=hstep k hk1 (by omega)
     have hps:=prevS_succ (l:=l) hk1
     have hck:countS (k:Int) P=1:=by rw [hcnt k (by omega),if_pos (by omega)]
     have hckb:((countS (k:Int) P:Int) != 1)=false:=by rw [hck];rfl
     have hckn:((1:Nat):Int)=1:=rfl
     have hsa:=hsucc a hal
     have q1:=K7 C8 hal
     obtain ⟨m,hm⟩:∃ m,l.getD a C8=m:=⟨_,rfl⟩
     rw [hm] at hsa q1
     obtain ⟨mn,mi,md,ms⟩:=m
     simp only at hsa
     obtain ⟨b,hb⟩:∃ b,(k:Int)-(ah l a:Int)=b:=⟨_,rfl⟩
     rw [hb] at hw
     rw [hw] at hst hps
     simp only at hst hps
     obtain ⟨⟨at_,own⟩,hpq⟩:∃ q,prevS l k=q:=⟨_,rfl⟩
     rw [hpq] at hst
     simp only at hst
     obtain ⟨s1,s2,s3⟩:=hst
     rw [hpq]
     have hla:leB (l.length:Int) (a:Int)=false:=by rw [←Bool.not_eq_true,G4];omega
     have hsb:ltB (ms.length:Int) b=false:=by rw [←Bool.not_eq_true,Hf];omega
     have hown:own+1=b∨(a:Int)≠at_:=by
      by_cases h:(a:Int)=at_
      ·exact .inl (s2 h).symm
      ·exact .inr h
     have hob:-1≤own∧own≤1000000:=by
      unfold prevS at hpq
      split at hpq
      ·injection hpq with e1 e2
       omega
      ·obtain ⟨a',_,hw',g1',g2'⟩:=hwh ((k:Int)-1) (by omega) (by omega)
       rw [hw'] at hpq
       injection hpq with e1 e2
       simp only at e2
       omega
     have hkr:inR .i64 (k:Int):=by rw [Uk];omega
     clear hstep hwh hsucc hcnt
     cases hae:((a:Int)==at_) with
     | true =>
      have ha2:(a:Int)=at_:=by simpa using hae
      have hbo:(b != own+1)=false:=by rw [bne_eq_false_iff_eq];exact s2 ha2
      have hlt:ltB at_ (a:Int)=false:=by rw [←Bool.not_eq_true,Hf];omega
      (sym=>simp [hleb,hw,hck,hckn,s1,hae,hbo,hlt,hla,q1,hsb,Km,oQ,lW,mZ,lJ,Hi,Hj,Hh,G8,Ni,Nk,Nj,Nl,Nv,Tf,Hw.eq_def,Hy.eq_def,pX,Md.eq_def,Mc.eq_def,Zb,Zc,Zd,Ze,Zf,Zg,Zo,Zp,Zq,Zs,Zt,Zv,Zx,Zy,Z6,Qa,Qb,Qd,Qf,Qg,Qh,Qi,Qs,Qu,Qv,Qw,Qx,Q1,Q2,Q3,Q8,Jc,Je,Jf,Jl,Jm,Jn,Js,Jt,Jv,Jw,Jy,Jz,J2,Xe,Xi,Xj,Xl,Xm,Xn,Xr,Xu,Xw,Xx,Xy,X6,X7,X8,X9,Wb,Wd,Wf,Wj,Wl,Wm,Wn,Wo,Wp,Wr,Wt,Ww,Wx,W0,W1,Ya,Yb,Yc,Yd,Yf,Yg,Yn,Yo,Yx,Yz,Y2,Y4,Y7,Y9,Va,Vj,Vk,Vy,Vz,V0,V1,V2,V3,V5,V6,Ui,U5,K9,Ce,G6,Ks,Mr,Gm,H2];tactic =>
       try simp only [Uq] at *;try simp only [nc2] at *
       try simp (maxSteps:=4000000) only [hleb,hw,hck,hckn,s1,hae,hbo,hlt,hla,q1,hsb,Km,oQ,lW,mZ,lJ,Hi,Hj,Hh,G8,U6]
       repeat' first|with_reducible assumption|with_reducible apply And.intro|intro _|omega|(rw [Uk];omega)
       all_goals first|with_reducible exact okq|omega|exact hS|exact hPc|exact hkr|exact ⟨k+1,by ((try simp only [Ul,U0,Ux,U8,upd,U7,Ki,K0,Nat.reduceDiv,Nat.reduceMod,Nat.reduceMul,Nat.reduceAdd,Nat.reduceEqDiff,aV,aW,if_true,if_false,reduceIte]);(first|refine Wk.of_fl ?_|skip);simp only [Wk,wkK,Ga,wkT,wk1,AV.kept,keptAll,wkO,lk,Uw,and_true,true_and,and_self,Nat.reduceEqDiff,Nat.reduceLeDiff,if_true,if_false,reduceIte,reduceCtorEq,Option.isSome,false_implies];try simp [Wk,wkK,wkT,wk1,AV.kept,keptAll,wkO,lk,Uw,hps]),by omega,by omega,by omega⟩|rfl|trivial|skip)
     | false =>
      cases hlt:ltB at_ (a:Int) with
      | true =>
       have hb1:(b != 1)=false:=by rw [bne_eq_false_iff_eq];exact s3 (by rw [Hf] at hlt;exact hlt)
       (sym=>simp [hleb,hw,hck,hckn,s1,hae,hlt,hb1,hla,q1,hsb,Km,oQ,lW,mZ,lJ,Hi,Hj,Hh,G8,Ni,Nk,Nj,Nl,Nv,Tf,Hw.eq_def,Hy.eq_def,pX,Md.eq_def,Mc.eq_def,Zb,Zc,Zd,Ze,Zf,Zg,Zo,Zp,Zq,Zs,Zt,Zv,Zx,Zy,Z6,Qa,Qb,Qd,Qf,Qg,Qh,Qi,Qs,Qu,Qv,Qw,Qx,Q1,Q2,Q3,Q8,Jc,Je,Jf,Jl,Jm,Jn,Js,Jt,Jv,Jw,Jy,Jz,J2,Xe,Xi,Xj,Xl,Xm,Xn,Xr,Xu,Xw,Xx,Xy,X6,X7,X8,X9,Wb,Wd,Wf,Wj,Wl,Wm,Wn,Wo,Wp,Wr,Wt,Ww,Wx,W0,W1,Ya,Yb,Yc,Yd,Yf,Yg,Yn,Yo,Yx,Yz,Y2,Y4,Y7,Y9,Va,Vj,Vk,Vy,Vz,V0,V1,V2,V3,V5,V6,Ui,U5,K9,Ce,G6,Ks,Mr,Gm,H2];tactic =>
        try simp only [Uq] at *;try simp only [nc2] at *
        try simp (maxSteps:=4000000) only [hleb,hw,hck,hckn,s1,hae,hlt,hb1,hla,q1,hsb,Km,oQ,lW,mZ,lJ,Hi,Hj,Hh,G8,U6]
        repeat' first|with_reducible assumption|with_reducible apply And.intro|intro _|omega|(rw [Uk];omega)
        all_goals first|with_reducible exact okq|omega|exact hS|exact hPc|exact hkr|exact ⟨k+1,by ((try simp only [Ul,U0,Ux,U8,upd,U7,Ki,K0,Nat.reduceDiv,Nat.reduceMod,Nat.reduceMul,Nat.reduceAdd,Nat.reduceEqDiff,aV,aW,if_true,if_false,reduceIte]);(first|refine Wk.of_fl ?_|skip);simp only [Wk,wkK,Ga,wkT,wk1,AV.kept,keptAll,wkO,lk,Uw,and_true,true_and,and_self,Nat.reduceEqDiff,Nat.reduceLeDiff,if_true,if_false,reduceIte,reduceCtorEq,Option.isSome,false_implies];try simp [Wk,wkK,wkT,wk1,AV.kept,keptAll,wkO,lk,Uw,hps]),by omega,by omega,by omega⟩|rfl|trivial|skip)
      | false =>
       (sym=>simp [hleb,hw,hck,hckn,s1,hae,hlt,hla,q1,hsb,Km,oQ,lW,mZ,lJ,Hi,Hj,Hh,G8,Ni,Nk,Nj,Nl,Nv,Tf,Hw.eq_def,Hy.eq_def,pX,Md.eq_def,Mc.eq_def,Zb,Zc,Zd,Ze,Zf,Zg,Zo,Zp,Zq,Zs,Zt,Zv,Zx,Zy,Z6,Qa,Qb,Qd,Qf,Qg,Qh,Qi,Qs,Qu,Qv,Qw,Qx,Q1,Q2,Q3,Q8,Jc,Je,Jf,Jl,Jm,Jn,Js,Jt,Jv,Jw,Jy,Jz,J2,Xe,Xi,Xj,Xl,Xm,Xn,Xr,Xu,Xw,Xx,Xy,X6,X7,X8,X9,Wb,Wd,Wf,Wj,Wl,Wm,Wn,Wo,Wp,Wr,Wt,Ww,Wx,W0,W1,Ya,Yb,Yc,Yd,Yf,Yg,Yn,Yo,Yx,Yz,Y2,Y4,Y7,Y9,Va,Vj,Vk,Vy,Vz,V0,V1,V2,V3,V5,V6,Ui,U5,K9,Ce,G6,Ks,Mr,Gm,H2];tactic =>
        try simp only [Uq] at *;try simp only [nc2] at *
        try simp (maxSteps:=4000000) only [hleb,hw,hck,hckn,s1,hae,hlt,hla,q1,hsb,Km,oQ,lW,mZ,lJ,Hi,Hj,Hh,G8,U6]
        repeat' first|with_reducible assumption|with_reducible apply And.intro|intro _|omega|(rw [Uk];omega)
        all_goals first|with_reducible exact okq|omega|exact hS|exact hPc|exact hkr|exact ⟨k+1,by ((try simp only [Ul,U0,Ux,U8,upd,U7,Ki,K0,Nat.reduceDiv,Nat.reduceMod,Nat.reduceMul,Nat.reduceAdd,Nat.reduceEqDiff,aV,aW,if_true,if_false,reduceIte]);(first|refine Wk.of_fl ?_|skip);simp only [Wk,wkK,Ga,wkT,wk1,AV.kept,keptAll,wkO,lk,Uw,and_true,true_and,and_self,Nat.reduceEqDiff,Nat.reduceLeDiff,if_true,if_false,reduceIte,reduceCtorEq,Option.isSome,false_implies];try simp [Wk,wkK,wkT,wk1,AV.kept,keptAll,wkO,lk,Uw,hps]),by omega,by omega,by omega⟩|rfl|trivial|skip)
    ·clear hstep hwh hsucc hcnt
     cases hb1:leB 1 site with
     | false =>
      rw [hb1,Bool.false_and] at hfe
      (sym=>simp [hleb,hfw,hb1,hfe,oQ,lW,mZ,lJ,Hi,Hj,Hh,G8,Ni,Nk,Nj,Nl,Nv,Hw.eq_def,Hy.eq_def,pX,Md.eq_def,Mc.eq_def,Zb,Zc,Zd,Ze,Zf,Zg,Zt,Qa,Qb,Qd,Qf,Qg,Qh,Qi,Qp,Qq,Qr,Qs,Qu,Qv,Qw,Qx,Q1,Q2,Q3,Q8,Jc,Jd,Je,Jf,Jl,Jm,Jn,Js,Jt,Ju,Jv,Jw,Jx,Jy,Jz,J2,Xe,Xj,Xl,Xm,Xp,Xq,Xr,Xu,Xw,Xx,X6,X7,X8,X9,Wb,Wd,Wf,Wj,Wl,Wm,Wn,Wo,Wp,Wr,Wt,Wu,Wx,Wy,Yc,Yd,Yn,Yo,Yp,Yq,Yx,Yz,Y2,Y4,Y9,Va,Vj,Vk,Vy,Vz,V0,V1,V2,V5,V6,U5,K9,Ce,G6,Ks,Mr,Gm,H2];tactic =>
       try simp only [Uq] at *;try simp only [nc2] at *
       try simp (maxSteps:=4000000) only [hleb,hfw,hb1,hfe,oQ,lW,mZ,lJ,Hi,Hj,Hh,G8,U6]
       repeat' first|with_reducible assumption|with_reducible apply And.intro|intro _|omega|(rw [Uk];omega)
       all_goals first|with_reducible exact okq|omega|exact hS|exact hsr|rfl|trivial|skip)
     | true =>
      rw [hb1,Bool.true_and] at hfe
      (sym=>simp [hleb,hfw,hb1,hfe,oQ,lW,mZ,lJ,Hi,Hj,Hh,G8,Ni,Nk,Nj,Nl,Nv,Hw.eq_def,Hy.eq_def,pX,Md.eq_def,Mc.eq_def,Zb,Zc,Zd,Ze,Zf,Zg,Zt,Qa,Qb,Qd,Qf,Qg,Qh,Qi,Qp,Qq,Qr,Qs,Qu,Qv,Qw,Qx,Q1,Q2,Q3,Q8,Jc,Jd,Je,Jf,Jl,Jm,Jn,Js,Jt,Ju,Jv,Jw,Jx,Jy,Jz,J2,Xe,Xj,Xl,Xm,Xp,Xq,Xr,Xu,Xw,Xx,X6,X7,X8,X9,Wb,Wd,Wf,Wj,Wl,Wm,Wn,Wo,Wp,Wr,Wt,Wu,Wx,Wy,Yc,Yd,Yn,Yo,Yp,Yq,Yx,Yz,Y2,Y4,Y9,Va,Vj,Vk,Vy,Vz,V0,V1,V2,V5,V6,U5,K9,Ce,G6,Ks,Mr,Gm,H2];tactic =>
       try simp only [Uq] at *;try simp only [nc2] at *
       try simp (maxSteps:=4000000) only [hleb,hfw,hb1,hfe,oQ,lW,mZ,lJ,Hi,Hj,Hh,G8,U6]
       repeat' first|with_reducible assumption|with_reducible apply And.intro|intro _|omega|(rw [Uk];omega)
       all_goals first|with_reducible exact okq|omega|exact hS|exact hsr|rfl|trivial|skip))
open Go.Proofs
theorem all2_two {p q:D→Prop} {ds:List D} (h:All2 [p,q] ds):∃ a b,ds=[a,b]∧p a∧q b:=by
 match ds,h with
 | [a,b],h=>exact ⟨a,b,rfl,h.1,h.2.1⟩
theorem rdTexts:Rdt Try.prog 22 1 false (Sl (List UInt8)) (fun a=>a.l.length≤maxLen∧∀ y∈a.l,y.length≤maxLen):=rdt_sl Try.underlying22 (by kernel_rfl) rfl (by decide) (rdt_str Try.underlying9)
theorem rdTx9:Rdt Try.prog 24 2 true Tx9 (fun a=>a.names.length≤maxLen) :=
 (rd_struct (ps:=[_,_]) Try.underlying24 (by kernel_rfl) rfl ⟨rfl,by kernel_rfl,rdTexts,rfl,by kernel_rfl,rdTexts,trivial⟩).mono fun x h=>by
  obtain ⟨ds,rfl,h⟩:=h
  obtain ⟨a,b,rfl,⟨⟨k⟩,rfl,hk,_⟩,⟨⟨t⟩,rfl,ht⟩⟩:=all2_two h
  exact ⟨⟨k,t⟩,rfl,hk⟩
theorem rdN:Rdt Try.prog 3 1 false Int (fun a=>inR .i64 a):=rdt_int Try.underlying3
end Go.Am.Ty
