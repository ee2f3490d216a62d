/- Contracts of functions that the law reaches, and plain laws. Conditions: those that each contract states. -/
import Derived.Test.YtpgfllgpliffaaaGreatDoorC7
set_option maxHeartbeats 8000000
set_option linter.unusedVariables false
set_option linter.unusedSimpArgs false
variable {p:Prop}
set_option maxRecDepth 100000
namespace Go.Am.Ty
open Go.Proofs Go.Rose Go.Rose.Rose
open Enc (enc dec)
theorem L3 {l s V:List UInt8} {a b:D} (hV:l++s=V) (hl:V.length≤10000000000):Z7.ok (⟨58,l,[a,b]⟩,s):=by
 rw [←hV,Zb] at hl;exact ⟨.inr (.inr ⟨rfl,rfl⟩),by show l.length+s.length≤_;omega⟩
def K4:BCon where
 X:=AX×Part
 ok x:=x.2.t.length=1∧Aj .i64 x.2.num∧x.2.name.length≤1000000∧(x.1.l++D2 x.2).length≤10000000000
 args x:=[.ref 90000 0,.d (enc x.2)]
 objs x:=Uu x.1
 res x:=.tup []
 post x:=Uu ⟨x.1.e,x.1.i,x.1.l++D2 x.2⟩
theorem bB {a:AX} {p:Part} {V:List UInt8} (hV:a.l++D2 p=V):K4.post (a,p)=Uu ⟨a.e,a.i,V⟩:=by rw [←hV];rfl
theorem tX {a:AX×Part}:K4.res a=.tup []:=rfl
class Kej:Prop
theorem Kej.k (_:Kej) (h:p:=by
 repeat' first|exact Cg|with_reducible apply Z9|intro _
 all_goals first|contradiction|with_reducible exact Zz5|omega|skip
 refine ⟨[90000,90001],by simp,rfl,J3,?_⟩
 simp [Ze,lk,Q4,rnA,rnAs,rk]):p:=h
class Kei:Prop
theorem Kei.k (_:Kei) (h:p:=by
 repeat' first|exact Cg|with_reducible apply Z9|intro _
 all_goals first|contradiction|with_reducible exact Zz5|omega|exact hn|skip
 refine J7 (bc:=Z7) (⟨58,l,[.list 8 (e.map enc),.int .i64 i]⟩,S) [90000,90001] (L3 hV Z8) rfl (by simp) (by rw [Ql];rfl) ?_ ?_ ?_
 ·show Ze _ _ (Uu ⟨e,i,l⟩) _;rw [Jm];simp [Ze,lk,Q4,rnA,rnAs,rk]
 ·show Zj (List.drop (Uu ⟨e,i,l⟩).length _) _;rw [Jm];simp [Zj]
 have Js:=@Jm;have Jk:=@J5;have Kq:Kej:=⟨⟩;exact rT):p:=h
class Kel:Prop
theorem Kel.k (_:Kel) (h:p:=by
 repeat' first|exact Cg|with_reducible apply Z9|intro _
 all_goals first|contradiction|with_reducible exact Zz5|omega|skip
 refine ⟨[90000,90001],by simp,rfl,J3,?_⟩
 simp [Ze,lk,Q4,rnA,rnAs,rk]):p:=h
class Kek:Prop
theorem Kek.k (_:Kek) (h:p:=by
 repeat' first|exact Cg|with_reducible apply Z9|intro _
 all_goals first|contradiction|with_reducible exact Zz5|omega|skip
 refine J7 (bc:=Z7) (⟨58,l,[.list 8 (e.map enc),.int .i64 i]⟩,S) [90000,90001] (L3 hV Z8) rfl (by simp) (by rw [Ql];rfl) ?_ ?_ ?_
 ·show Ze _ _ (Uu ⟨e,i,l⟩) _;rw [Jm];simp [Ze,lk,Q4,rnA,rnAs,rk]
 ·show Zj (List.drop (Uu ⟨e,i,l⟩).length _) _;rw [Jm];simp [Zj]
 have Js:=@Jm;have Jk:=@J5;have Kq:Kel:=⟨⟩;exact rT):p:=h
class Ken:Prop
theorem Ken.k (_:Ken) (h:p:=by
 repeat' first|exact Cg|with_reducible apply Z9|intro _
 all_goals first|contradiction|with_reducible exact Zz5|omega|skip
 refine ⟨[90000,90001],by simp,rfl,J3,?_⟩
 simp [Ze,lk,Q4,rnA,rnAs,rk]):p:=h
class Kem:Prop
theorem Kem.k (_:Kem) (h:p:=by
 repeat' first|exact Cg|with_reducible apply Z9|intro _
 all_goals first|contradiction|with_reducible exact Zz5|omega|skip
 refine J7 (bc:=Z7) (⟨58,l,[.list 8 (e.map enc),.int .i64 i]⟩,S) [90000,90001] (L3 hV Z8) rfl (by simp) (by rw [Ql];rfl) ?_ ?_ ?_
 ·show Ze _ _ (Uu ⟨e,i,l⟩) _;rw [Jm];simp [Ze,lk,Q4,rnA,rnAs,rk]
 ·show Zj (List.drop (Uu ⟨e,i,l⟩).length _) _;rw [Jm];simp [Zj]
 have Js:=@Jm;have Jk:=@J5;have Kq:Ken:=⟨⟩;exact rT):p:=h
class Kep:Prop
theorem Kep.k (_:Kep) (h:p:=by
 repeat' first|exact Cg|with_reducible apply Z9|intro _
 all_goals first|contradiction|with_reducible exact Zz5|omega|skip
 refine ⟨[90000,90001],by simp,rfl,J3,?_⟩
 simp [Ze,lk,Q4,rnA,rnAs,rk]):p:=h
class Keo:Prop
theorem Keo.k (_:Keo) (h:p:=by
 repeat' first|exact Cg|with_reducible apply Z9|intro _
 refine Zm (bc:=Z7) (⟨58,l,[.list 8 (e.map enc),.int .i64 i]⟩,[40,41]) [90000,90001] (L3 hV Z8) rfl (by simp) (by rw [Ql];rfl) ?_ ?_ ?_
 ·show Ze _ _ (Uu ⟨e,i,l⟩) _;rw [Jm];simp [Ze,lk,Q4,rnA,rnAs,rk]
 ·show Zj (List.drop (Uu ⟨e,i,l⟩).length _) _;rw [Jm];simp [Zj]
 have Js:=@Jm;have Jk:=@J5;have Kq:Kep:=⟨⟩;exact rT):p:=h
theorem goodb_LitA:X9 Tryz.prog (64,K4):=by
 obtain ⟨Kx,Kt,Kc,Kd,Kb,Ku,Kw,K,Y0,Xr,eV,kB,_⟩:=Yc Qp Z0 [] false (Xu jY Rx.eq_def (Xu eP Hz.eq_def (Xu tM jI.eq_def (A6 Vw lP Yb))));refine bR K Tryz.func64 [] rfl 41 rfl (fun c hc x X5=>?_);obtain ⟨⟨e,i,l⟩,p⟩:=x;obtain ⟨Q2,hn,Ut,Z8⟩:=X5;simp only at Q2 hn Ut Z8;obtain ⟨V,hV⟩:=exq (l++D2 p);rw [hV] at Z8;have Jc:=bB (a:=⟨e,i,l⟩) hV;have Qz:=Qc n0 (show 0<p.t.length by omega)
 obtain ⟨r,hr⟩:=exq (p.t.getD 0 n0);unfold D2 at hV;rw [hr] at Qz hV;have Bf:=hn;rw [Xx] at Bf;refine ⟨?_,?_,?_,?_,?_⟩
 ·show Xg [.ref 90000 0,.d (enc p)] (Uu ⟨e,i,l⟩);rw [Jm];simp [Xg,Jp,Obj.tied,Zr,keptAll,AV.kept,Zq,Jv,lk]
 ·show Zr (Uu ⟨e,i,l⟩);rw [Jm];simp [Zr]
 ·rw [Jc];show Xg [] (Uu ⟨e,i,V⟩);rw [Jm];simp [Xg,Jp,Obj.tied,Zr,keptAll,AV.kept,Zq,Jv,lk]
 ·rw [Jc];show (Uu ⟨e,i,l⟩).length≤(Uu ⟨e,i,V⟩).length;rw [Jm,Jm];simp
 show U6 _ c (V5 _ _ (Uu ⟨e,i,l⟩).length (.tup []) (K4.post (⟨e,i,l⟩,p))) ⟨[.ref 90000 0,.d (enc p)]++Vf 39,Zq (Uu ⟨e,i,l⟩)⟩;rw [Jc];show U6 _ c (V5 _ _ (Uu ⟨e,i,l⟩).length (.tup []) (Uu ⟨e,i,V⟩)) _;rw [Jm,Jm];obtain ⟨pk,pl,pn,pb,pm,pq,pt,pu⟩:=p;obtain ⟨nk,rn,rm⟩:=r;simp only at hV Q2 hn Ut Qz Bf;by_cases h1:nk=1
 ·subst h1;rw [if_pos rfl] at hV;obtain ⟨S,Qx⟩:=exq (Lib.itoa pq);rw [Qx] at hV;have Ql:=Nj (e:=e) (i:=i) hV;cases hc;refine Ym 2 ?_;have Js:=@List.getD_cons_zero.{0};have Kq:Kei:=⟨⟩;exact rT
 by_cases h2:nk=2
 ·subst h2;rw [if_neg (by omega),if_pos rfl] at hV
  obtain ⟨S,Qx⟩:=exq (dU (pq==1));rw [Qx] at hV;have Ql:=Nj (e:=e) (i:=i) hV;cases hc;refine Ym 2 ?_;have Js:=@List.getD_cons_zero.{0};have Kq:Kek:=⟨⟩;exact rT
 by_cases h3:nk=3
 ·subst h3;rw [if_neg (by omega),if_neg (by omega),if_pos rfl] at hV
  obtain ⟨S,Qx⟩:=exq (Nn pn);rw [Qx] at hV;have Ql:=Nj (e:=e) (i:=i) hV;cases hc;refine Ym 2 ?_;have Js:=@List.getD_cons_zero.{0};have Kq:Kem:=⟨⟩;exact rT
 rw [if_neg h1,if_neg h2,if_neg h3] at hV;have Q3:(nk==1)=false:=by rw [Za];exact h1
 have Ji:(nk==2)=false:=by rw [Za];exact h2
 have Jl:(nk==3)=false:=by rw [Za];exact h3
 have Ql:=Nj (e:=e) (i:=i) hV;cases hc;refine Ym 2 ?_;have Js:=@List.getD_cons_zero.{0};have Kq:Keo:=⟨⟩;exact rT
noncomputable def Wy (n:Nat):BCon where
 X:=AX×List UInt8×List (Rose Part)
 ok x:=Zxh x.1 n x.2.2∧x.2.2.length≤1000000∧(x.1.l++W8 x.2.1 true (prTs x.2.2)).length≤10000000000
 args x:=[.ref 90000 0,.d (.int .i64 x.2.2.length),.d (.str x.2.1)]
 objs x:=Uu x.1
 res x:=.tup []
 post x:=Uu ⟨x.1.e,x.1.i+(ndss x.2.2).length,x.1.l++W8 x.2.1 true (prTs x.2.2)⟩
theorem L5 {n:Nat} {a:AX} {b:List UInt8} {ks:List (Rose Part)} {j:Nat} {V:List UInt8} (hj:a.i+(ndss ks).length=j) (hV:a.l++W8 b true (prTs ks)=V):(Wy n).post (a,b,ks)=Uu ⟨a.e,j,V⟩:=by rw [←hj,←hV];rfl
theorem Ig {n:Nat} {a:AX×List UInt8×List (Rose Part)}:(Wy n).res a=.tup []:=rfl
theorem gO {n:Nat} {e:List Part} {i:Nat} {l V:List UInt8} {y:Rose Part} (he:e.length≤1000000) (hy:At Xj e i y) (ha:(nds y).length<n∧∀ p∈nds y,fB p) (hV:l++prT y=V) (hl:V.length≤10000000000):(Xv n).ok (⟨e,i,l⟩,y):=by
 refine ⟨⟨he,⟨⟨hy.1,trivial⟩,?_⟩,fun z hz=>?_⟩,?_⟩
 ·obtain ⟨r,hr⟩:=hy.2;exact ⟨r,by rw [show (⟨e,i,l⟩:AX).e=e from rfl,show (⟨e,i,l⟩:AX).i=i from rfl,hr];simp [ndss]⟩
 ·rw [Qy] at hz;subst hz;exact ha
 ·show (l++prT y).length≤_;rw [hV];exact hl
theorem Zv0 {b p cur:List UInt8} {ps:List (List UInt8)}:cur++W8 b true (p::ps)=(cur++p)++W8 b false ps:=by simp [W8]
theorem Zv1 {b p cur:List UInt8} {ps:List (List UInt8)}:cur++W8 b false (p::ps)=((cur++b)++p)++W8 b false ps:=by simp [W8]
theorem Ze4 {b cur:List UInt8} {f:Bool}:cur++W8 b f []=cur:=by simp [W8]
class Ker:Prop
theorem Ker.k (_:Ker) (h:p:=by
 first|contradiction|skip
 refine ⟨[90000,90001],by simp,rfl,J3,?_⟩
 simp [Ze,lk,Q4,rnA,rnAs,rk]):p:=h
class Ket:Prop
theorem Ket.k (_:Ket) (h:p:=by
 first|contradiction|skip
 exact ⟨(k+1,j,V2,zs),by exact Xa,by simp at hk;simp only;omega,En,fun y hy=>fN y (List.mem_cons_of_mem _ hy),lH,by simp only;rw [hf];exact Ph,by simp only;omega⟩):p:=h
class Kes:Prop
theorem Kes.k (_:Kes) (h:p:=by
 first|contradiction|skip
 refine Zm (bc:=Xv n) (⟨e,at_,cur⟩,z) [90000,90001] (gO he hz Zek h2 l2) rfl (by simp) (by rw [Qx];rfl) ?_ ?_ ?_
 ·show Ze _ _ (Uu ⟨e,at_,cur⟩) _;rw [Jm];simp [Ze,lk,Q4,rnA,rnAs,rk]
 ·show Zj (List.drop (Uu ⟨e,at_,cur⟩).length _) _;rw [Jm];simp [Zj]
 have Y0:=Kt;have Xr:=Kt;have Q3:=@Jm;have Ji:=@bZ;have Kq:Ket:=⟨⟩;exact Qa):p:=h
class Kew:Prop
theorem Kew.k (_:Kew) (h:p:=by
 first|contradiction|skip
 exact ⟨(k+1,j,V2,zs),by exact Xa,by simp at hk;simp only;omega,En,fun y hy=>fN y (List.mem_cons_of_mem _ hy),lH,by simp only;rw [hf];exact Ph,by simp only;omega⟩):p:=h
class Kev:Prop
theorem Kev.k (_:Kev) (h:p:=by
 first|contradiction|skip
 refine Zm (bc:=Xv n) (⟨e,at_,Vb⟩,z) [90000,90001] (gO he hz Zek h2 l2) rfl (by simp) (by rw [Qx];rfl) ?_ ?_ ?_
 ·show Ze _ _ (Uu ⟨e,at_,Vb⟩) _;rw [Jm];simp [Ze,lk,Q4,rnA,rnAs,rk]
 ·show Zj (List.drop (Uu ⟨e,at_,Vb⟩).length _) _;rw [Jm];simp [Zj]
 have Y0:=Kt;have Xr:=Kt;have Q3:=@Jm;have Ji:=@bZ;have Kq:Kew:=⟨⟩;exact Qa):p:=h
class Keu:Prop
theorem Keu.k (_:Keu) (h:p:=by
 first|contradiction|skip
 refine Zm (bc:=Z7) (⟨58,cur,[.list 8 (e.map enc),.int .i64 at_]⟩,b) [90000,90001] (L3 hb lb) rfl (by simp) (by rw [Ql];rfl) ?_ ?_ ?_
 ·show Ze _ _ (Uu ⟨e,at_,cur⟩) _;rw [Jm];simp [Ze,lk,Q4,rnA,rnAs,rk]
 ·show Zj (List.drop (Uu ⟨e,at_,cur⟩).length _) _;rw [Jm];simp [Zj]
 have Y0:=Kt;have Xr:=Kt;have Q3:=@Jm;have Ji:=@J5;have Kq:Kev:=⟨⟩;exact Qa):p:=h
class Keq:Prop
theorem Keq.k (_:Keq) (h:p:=by
 refine Z4 [6,9,10,11,12,13,14,15,16,17,18,19,20] (fun q:Nat×Nat×List UInt8×List (Rose Part)=>[(8,.d (.int .i64 q.1))]) (fun q:Nat×Nat×List UInt8×List (Rose Part)=>[(90000,.box true [.bad 58,.sl 90001 q.2.2.1.length,.d (.list 8 (e.map enc)),.d (.int .i64 q.2.1)]),(90001,.brow 5 q.2.2.1)]) (fun q:Nat×Nat×List UInt8×List (Rose Part)=>q.1+q.2.2.2.length=ks.length∧Ss Xj e q.2.1 q.2.2.2∧(∀ y∈q.2.2.2,(nds y).length<n∧∀ p∈nds y,fB p)∧q.2.1+(ndss q.2.2.2).length=J∧q.2.2.1++W8 b (q.1==0) (prTs q.2.2.2)=V) (fun q:Nat×Nat×List UInt8×List (Rose Part)=>ks.length-q.1) (0,i,l,ks) ?_ ?_ ?_
 ·exact ⟨Nat.zero_add _,Xs,J8,hJ,hV⟩
 ·exact Xa
 rintro ⟨k,at_,cur,zs⟩ ⟨hk,yS,fN,yU,Ph⟩;simp only at hk yS fN yU Ph;cases zs with
 | nil =>
  have Yg:k=ks.length:=by simpa using hk
  subst Yg;have Qz:Jw (ks.length:Int) (ks.length:Int)=false:=by rw [Jj];omega
  rw [ndss,List.length_nil,Nat.add_zero] at yU;subst yU;rw [prTs,Ze4] at Ph;subst Ph;have Y0:=Kt;have Xr:=Kt;have Kq:Ker:=⟨⟩;exact Qa
 | cons z zs =>
  obtain ⟨hz,En⟩:=yS.head;have Zek:=fN z (by simp)
  have Qg:k<ks.length:=by simp at hk;omega
  have Qz:Jw (k:Int) (ks.length:Int)=true:=by rw [Je];omega
  rw [prTs] at Ph;rw [ndss,Zb] at yU;obtain ⟨j,hj⟩:=exq (at_+(nds z).length);rw [hj] at En;have lH:j+(ndss zs).length=J:=by omega
  have hf:(k+1==0)=false:=by rw [Za];omega
  rcases Nat.eq_zero_or_pos k with Zii|Zii
  ·have Q2:Jw 0 (k:Int)=false:=by rw [Jj];omega
   have kG:(k==0)=true:=by rw [Zi];exact Zii
   rw [kG,Zv0] at Ph;obtain ⟨V2,h2⟩:=exq (cur++prT z);rw [h2] at Ph;have l2:=Yi Ph Z8;have Qx:=Pu (n:=n) (a:=⟨e,at_,cur⟩) hj h2;have Y0:=Kt;have Xr:=Kt;have Kq:Kes:=⟨⟩;exact Qa
  ·have Q2:Jw 0 (k:Int)=true:=by rw [Je];omega
   have kG:(k==0)=false:=by rw [Za];omega
   rw [kG,Zv1] at Ph;obtain ⟨Vb,hb⟩:=exq (cur++b);rw [hb] at Ph;obtain ⟨V2,h2⟩:=exq (Vb++prT z);rw [h2] at Ph;have l2:=Yi Ph Z8;have lb:=Yi h2 l2;have Ql:=Nj (e:=e) (i:=at_) hb;have Qx:=Pu (n:=n) (a:=⟨e,at_,Vb⟩) hj h2;have Y0:=Kt;have Xr:=Kt;have Kq:Keu:=⟨⟩;exact Qa):p:=h
theorem stepbm_RowA (n:Nat) (ih:X9 Tryz.prog (40,Xv n)):X9 Tryz.prog (66,(Wy n)):=by
 obtain ⟨Kx,Kt,Kc,Kd,Kb,Ku,Kw,K,Y0,Xr,_⟩:=Yc Qp Z0 [] false (A6 ih (Xv.eq_def n) (A6 Vw lP Yb));refine bR K Tryz.func66 [] rfl 21 rfl (fun c hc x X5=>?_);obtain ⟨⟨e,i,l⟩,b,ks⟩:=x;obtain ⟨⟨he,Xs,J8⟩,Mg,Z8⟩:=X5;simp only at he Xs J8 Mg Z8;obtain ⟨V,hV⟩:=exq (l++W8 b true (prTs ks));obtain ⟨J,hJ⟩:=exq (i+(ndss ks).length);rw [hV] at Z8;have Jc:=L5 (n:=n) (a:=⟨e,i,l⟩) hJ hV;refine ⟨?_,?_,?_,?_,?_⟩
 ·show Xg [.ref 90000 0,.d (.int .i64 ks.length),.d (.str b)] (Uu ⟨e,i,l⟩);rw [Jm];simp [Xg,Jp,Obj.tied,Zr,keptAll,AV.kept,Zq,Jv,lk]
 ·show Zr (Uu ⟨e,i,l⟩);rw [Jm];simp [Zr]
 ·rw [Jc];show Xg [] (Uu ⟨e,J,V⟩);rw [Jm];simp [Xg,Jp,Obj.tied,Zr,keptAll,AV.kept,Zq,Jv,lk]
 ·rw [Jc];show (Uu ⟨e,i,l⟩).length≤(Uu ⟨e,J,V⟩).length;rw [Jm,Jm];simp
 show U6 Kx c (V5 _ _ (Uu ⟨e,i,l⟩).length (.tup []) ((Wy n).post (⟨e,i,l⟩,b,ks))) ⟨[.ref 90000 0,.d (.int .i64 ks.length),.d (.str b)]++Vf 18,Zq (Uu ⟨e,i,l⟩)⟩;rw [Jc];show U6 _ c (V5 _ _ (Uu ⟨e,i,l⟩).length (.tup []) (Uu ⟨e,J,V⟩)) _;rw [Jm,Jm];cases hc;have Y0:=Kt;have Xr:=Kt;have Kq:Keq:=⟨⟩;exact Qa
theorem Ch {e:List Part} {i:Nat}:Ss Xj e i []:=⟨trivial,e.drop i,by simp [ndss]⟩
theorem X0 {n:Nat} {e:List Part} {i:Nat} {l V:List UInt8} {TX:List (List UInt8)} {ks:List (Rose Part)} (he:e.length≤1000000) (Xs:Ss Xj e i ks) (J8:∀ z∈ks,(nds z).length<n∧∀ q∈nds z,fB q)
  (hc:Vg TX=ks.length) (ht:TX.length≤1000) (hV:l++Jf TX (prTs ks)=V) (hl:V.length≤10000000000):(Zs n).ok (⟨e,i,l⟩,TX,ks):=⟨⟨he,Xs,J8⟩,hc,ht,by
 show (l++Jf TX (prTs ks)).length≤_;rw [hV];exact hl⟩
theorem pX {n:Nat} {e:List Part} {i:Nat} {l b V:List UInt8} {ks:List (Rose Part)} (he:e.length≤1000000) (Xs:Ss Xj e i ks) (J8:∀ z∈ks,(nds z).length<n∧∀ q∈nds z,fB q)
  (hk:ks.length≤1000000) (hV:l++W8 b true (prTs ks)=V) (hl:V.length≤10000000000):(Wy n).ok (⟨e,i,l⟩,b,ks):=⟨⟨he,Xs,J8⟩,hk,by
 show (l++W8 b true (prTs ks)).length≤_;rw [hV];exact hl⟩
theorem I0 {s:List UInt8} {ks:List (List UInt8)} (h:s≠[]):Jf [s] ks=s:=by
 rw [Jf,if_neg h,Jf,List.append_nil]
theorem tK {p:Part} (h:p.label=[]∨p.kind=8):kU p=[]:=by unfold kU;rw [if_pos h]
theorem tW {p:Part} (h:¬ (p.label=[]∨p.kind=8)):kU p=p.label++[32,61,32]:=by unfold kU;rw [if_neg h]
class Key:Prop
theorem Key.k (_:Key) (h:p:=by
 repeat' first|exact Cg|with_reducible apply Z9|intro _
 all_goals first|contradiction|with_reducible exact Zz5|omega|skip
 refine ⟨[90000,90001],by simp,rfl,J3,?_⟩
 simp [Ze,lk,Q4,rnA,rnAs,rk]):p:=h
class Kex:Prop
theorem Kex.k (_:Kex) (h:p:=by
 repeat' first|exact Cg|with_reducible apply Z9|intro _
 all_goals first|contradiction|with_reducible exact Zz5|exact Wj|exact Vp|omega|skip
 refine Zm (bc:=Zs n) (⟨e,i+1,l⟩,[lb,[32],bd,[32,45,62,32],[]],ks) [90000,90001,111] U7 rfl (by simp) (by rw [Ql];rfl) ?_ ?_ ?_
 ·show Ze _ _ (Jq ⟨e,i+1,l⟩ [lb,[32],bd,[32,45,62,32],[]]) _;rw [Zt];simp [Ze,lk,Q4,rnA,rnAs,rk]
 ·show Zj (List.drop (Jq ⟨e,i+1,l⟩ [lb,[32],bd,[32,45,62,32],[]]).length _) _;rw [Zt];simp [Zj]
 have Xr:=Kt;have eV:=Kt;have kB:=Kt;have Q7:=@Zt;have Zz:=@Qw;have Kq:Key:=⟨⟩;exact rT):p:=h
class KeA:Prop
theorem KeA.k (_:KeA) (h:p:=by
 repeat' first|exact Cg|with_reducible apply Z9|intro _
 all_goals first|contradiction|with_reducible exact Zz5|omega|skip
 refine ⟨[90000,90001],by simp,rfl,J3,?_⟩
 simp [Ze,lk,Q4,rnA,rnAs,rk]):p:=h
class Kez:Prop
theorem Kez.k (_:Kez) (h:p:=by
 repeat' first|exact Cg|with_reducible apply Z9|intro _
 all_goals first|contradiction|with_reducible exact Zz5|exact Wj|exact Vp|omega|skip
 refine Zm (bc:=K4) (⟨e,i+1,l⟩,⟨0,lb,nm,bd,pm,pq,pt,pu⟩) [90000,90001] U7 rfl (by simp) (by rw [Ql];rfl) ?_ ?_ ?_
 ·show Ze _ _ (Uu ⟨e,i+1,l⟩) _;rw [Jm];simp [Ze,lk,Q4,rnA,rnAs,rk]
 ·show Zj (List.drop (Uu ⟨e,i+1,l⟩).length _) _;rw [Jm];simp [Zj]
 have Xr:=Kt;have eV:=Kt;have kB:=Kt;have Q7:=@Jm;have Zz:=@tX;have Kq:KeA:=⟨⟩;exact rT):p:=h
class KeC:Prop
theorem KeC.k (_:KeC) (h:p:=by
 repeat' first|exact Cg|with_reducible apply Z9|intro _
 all_goals first|contradiction|with_reducible exact Zz5|omega|skip
 refine ⟨[90000,90001],by simp,rfl,J3,?_⟩
 simp [Ze,lk,Q4,rnA,rnAs,rk]):p:=h
class KeB:Prop
theorem KeB.k (_:KeB) (h:p:=by
 repeat' first|exact Cg|with_reducible apply Z9|intro _
 all_goals first|contradiction|with_reducible exact Zz5|exact Wj|exact Vp|omega|skip
 refine Zm (bc:=Zs n) (⟨e,i+1,l⟩,[nm],ks) [90000,90001,45] U7 rfl (by simp) (by rw [Ql];rfl) ?_ ?_ ?_
 ·show Ze _ _ (Jq ⟨e,i+1,l⟩ [nm]) _;rw [Zt];simp [Ze,lk,Q4,rnA,rnAs,rk]
 ·show Zj (List.drop (Jq ⟨e,i+1,l⟩ [nm]).length _) _;rw [Zt];simp [Zj]
 have Xr:=Kt;have eV:=Kt;have kB:=Kt;have Q7:=@Zt;have Zz:=@Qw;have Kq:KeC:=⟨⟩;exact rT):p:=h
class KeE:Prop
theorem KeE.k (_:KeE) (h:p:=by
 repeat' first|exact Cg|with_reducible apply Z9|intro _
 all_goals first|contradiction|with_reducible exact Zz5|omega|skip
 refine ⟨[90000,90001],by simp,rfl,J3,?_⟩
 simp [Ze,lk,Q4,rnA,rnAs,rk]):p:=h
class KeD:Prop
theorem KeD.k (_:KeD) (h:p:=by
 repeat' first|exact Cg|with_reducible apply Z9|intro _
 all_goals first|contradiction|with_reducible exact Zz5|exact Wj|exact Vp|omega|skip
 refine J7 (bc:=Zs n) (⟨e,i+1,l⟩,[[40,102,117,110,32,40],bd,[58,32],T1,[41,32,45,62,32],[],[41]],ks) [90000,90001,55] U7 rfl (by simp) (by rw [Ql];rfl) ?_ ?_ ?_
 ·show Ze _ _ (Jq ⟨e,i+1,l⟩ [[40,102,117,110,32,40],bd,[58,32],T1,[41,32,45,62,32],[],[41]]) _;rw [Zt];simp [Ze,lk,Q4,rnA,rnAs,rk]
 ·show Zj (List.drop (Jq ⟨e,i+1,l⟩ [[40,102,117,110,32,40],bd,[58,32],T1,[41,32,45,62,32],[],[41]]).length _) _;rw [Zt];simp [Zj]
 have Xr:=Kt;have eV:=Kt;have kB:=Kt;have Q7:=@Zt;have Zz:=@Qw;have Kq:KeE:=⟨⟩;exact rT):p:=h
class KeG:Prop
theorem KeG.k (_:KeG) (h:p:=by
 repeat' first|exact Cg|with_reducible apply Z9|intro _
 all_goals first|contradiction|with_reducible exact Zz5|omega|skip
 refine ⟨[90000,90001],by simp,rfl,J3,?_⟩
 simp [Ze,lk,Q4,rnA,rnAs,rk]):p:=h
class KeF:Prop
theorem KeF.k (_:KeF) (h:p:=by
 repeat' first|exact Cg|with_reducible apply Z9|intro _
 all_goals first|contradiction|with_reducible exact Zz5|exact Wj|exact Vp|omega|skip
 refine Zm (bc:=Zs n) (⟨e,i+1,l⟩,[[40],[],[32],[],[41]],ks) [90000,90001,60] U7 rfl (by simp) (by rw [Ql];rfl) ?_ ?_ ?_
 ·show Ze _ _ (Jq ⟨e,i+1,l⟩ [[40],[],[32],[],[41]]) _;rw [Zt];simp [Ze,lk,Q4,rnA,rnAs,rk]
 ·show Zj (List.drop (Jq ⟨e,i+1,l⟩ [[40],[],[32],[],[41]]).length _) _;rw [Zt];simp [Zj]
 have Xr:=Kt;have eV:=Kt;have kB:=Kt;have Q7:=@Zt;have Zz:=@Qw;have Kq:KeG:=⟨⟩;exact rT):p:=h
class KeI:Prop
theorem KeI.k (_:KeI) (h:p:=by
 repeat' first|exact Cg|with_reducible apply Z9|intro _
 all_goals first|contradiction|with_reducible exact Zz5|omega|skip
 refine ⟨[90000,90001],by simp,rfl,J3,?_⟩
 simp [Ze,lk,Q4,rnA,rnAs,rk]):p:=h
class KeH:Prop
theorem KeH.k (_:KeH) (h:p:=by
 repeat' first|exact Cg|with_reducible apply Z9|intro _
 all_goals first|contradiction|with_reducible exact Zz5|exact Wj|exact Vp|omega|skip
 refine J7 (bc:=Zs n) (⟨e,i+1,l⟩,[[40,108,101,116,32],bd,[58,32],T1,[32,61,32],[],[32,105,110,32],[],[41]],ks) [90000,90001,70] U7 rfl (by simp) (by rw [Ql];rfl) ?_ ?_ ?_
 ·show Ze _ _ (Jq ⟨e,i+1,l⟩ [[40,108,101,116,32],bd,[58,32],T1,[32,61,32],[],[32,105,110,32],[],[41]]) _;rw [Zt];simp [Ze,lk,Q4,rnA,rnAs,rk]
 ·show Zj (List.drop (Jq ⟨e,i+1,l⟩ [[40,108,101,116,32],bd,[58,32],T1,[32,61,32],[],[32,105,110,32],[],[41]]).length _) _;rw [Zt];simp [Zj]
 have Xr:=Kt;have eV:=Kt;have kB:=Kt;have Q7:=@Zt;have Zz:=@Qw;have Kq:KeI:=⟨⟩;exact rT):p:=h
class KeK:Prop
theorem KeK.k (_:KeK) (h:p:=by
 repeat' first|exact Cg|with_reducible apply Z9|intro _
 all_goals first|contradiction|with_reducible exact Zz5|omega|skip
 refine ⟨[90000,90001],by simp,rfl,J3,?_⟩
 simp [Ze,lk,Q4,rnA,rnAs,rk]):p:=h
class KeJ:Prop
theorem KeJ.k (_:KeJ) (h:p:=by
 repeat' first|exact Cg|with_reducible apply Z9|intro _
 all_goals first|contradiction|with_reducible exact Zz5|exact Wj|exact Vp|omega|skip
 refine J7 (bc:=Zs n) (⟨e,i+1,l⟩,[[40,114,101,99,32],nm,[32,40],bd,[58,32],T1,[41,58,32],U1,[32,61,32],[],[32,105,110,32],[],[41]],ks) [90000,90001,85] U7 rfl (by simp) (by rw [Ql];rfl) ?_ ?_ ?_
 ·show Ze _ _ (Jq ⟨e,i+1,l⟩ [[40,114,101,99,32],nm,[32,40],bd,[58,32],T1,[41,58,32],U1,[32,61,32],[],[32,105,110,32],[],[41]]) _;rw [Zt];simp [Ze,lk,Q4,rnA,rnAs,rk]
 ·show Zj (List.drop (Jq ⟨e,i+1,l⟩ [[40,114,101,99,32],nm,[32,40],bd,[58,32],T1,[41,58,32],U1,[32,61,32],[],[32,105,110,32],[],[41]]).length _) _;rw [Zt];simp [Zj]
 have Xr:=Kt;have eV:=Kt;have kB:=Kt;have Q7:=@Zt;have Zz:=@Qw;have Kq:KeK:=⟨⟩;exact rT):p:=h
class KeM:Prop
theorem KeM.k (_:KeM) (h:p:=by
 repeat' first|exact Cg|with_reducible apply Z9|intro _
 all_goals first|contradiction|with_reducible exact Zz5|omega|skip
 refine ⟨[90000,90001],by simp,rfl,J3,?_⟩
 simp [Ze,lk,Q4,rnA,rnAs,rk]):p:=h
class KeL:Prop
theorem KeL.k (_:KeL) (h:p:=by
 repeat' first|exact Cg|with_reducible apply Z9|intro _
 all_goals first|contradiction|with_reducible exact Zz5|exact Wj|exact Vp|omega|skip
 refine Zm (bc:=Zs n) (⟨e,i+1,l⟩,[[40,105,102,32],[],[32,116,104,101,110,32],[],[32,101,108,115,101,32],[],[41]],ks) [90000,90001,90] U7 rfl (by simp) (by rw [Ql];rfl) ?_ ?_ ?_
 ·show Ze _ _ (Jq ⟨e,i+1,l⟩ [[40,105,102,32],[],[32,116,104,101,110,32],[],[32,101,108,115,101,32],[],[41]]) _;rw [Zt];simp [Ze,lk,Q4,rnA,rnAs,rk]
 ·show Zj (List.drop (Jq ⟨e,i+1,l⟩ [[40,105,102,32],[],[32,116,104,101,110,32],[],[32,101,108,115,101,32],[],[41]]).length _) _;rw [Zt];simp [Zj]
 have Xr:=Kt;have eV:=Kt;have kB:=Kt;have Q7:=@Zt;have Zz:=@Qw;have Kq:KeM:=⟨⟩;exact rT):p:=h
class KeQ:Prop
theorem KeQ.k (_:KeQ) (h:p:=by
 repeat' first|exact Cg|with_reducible apply Z9|intro _
 all_goals first|contradiction|with_reducible exact Zz5|omega|skip
 refine ⟨[90000,90001],by simp,rfl,J3,?_⟩
 simp [Ze,lk,Q4,rnA,rnAs,rk]):p:=h
class KeP:Prop
theorem KeP.k (_:KeP) (h:p:=by
 repeat' first|exact Cg|with_reducible apply Z9|intro _
 all_goals first|contradiction|with_reducible exact Zz5|exact Wj|exact Vp|omega|skip
 refine Zm (bc:=Zs n) (⟨e,J,V2⟩,[[32,101,110,100,41]],[]) [90000,90001,102] Eu rfl (by simp) (by rw [Js];rfl) ?_ ?_ ?_
 ·show Ze _ _ (Jq ⟨e,J,V2⟩ [[32,101,110,100,41]]) _;rw [Zt];simp [Ze,lk,Q4,rnA,rnAs,rk]
 ·show Zj (List.drop (Jq ⟨e,J,V2⟩ [[32,101,110,100,41]]).length _) _;rw [Zt];simp [Zj]
 have Xr:=Kt;have eV:=Kt;have kB:=Kt;have Q7:=@Zt;have Zz:=@Qw;have Kq:KeQ:=⟨⟩;exact rT):p:=h
class KeO:Prop
theorem KeO.k (_:KeO) (h:p:=by
 repeat' first|exact Cg|with_reducible apply Z9|intro _
 all_goals first|contradiction|with_reducible exact Zz5|exact Wj|exact Vp|omega|skip
 refine Zm (bc:=Wy n) (⟨e,j1,V1⟩,[32,124,32],kr) [90000,90001] St rfl (by simp) (by rw [Jl];rfl) ?_ ?_ ?_
 ·show Ze _ _ (Uu ⟨e,j1,V1⟩) _;rw [Jm];simp [Ze,lk,Q4,rnA,rnAs,rk]
 ·show Zj (List.drop (Uu ⟨e,j1,V1⟩).length _) _;rw [Jm];simp [Zj]
 have Xr:=Kt;have eV:=Kt;have kB:=Kt;have Q7:=@Jm;have Zz:=@Ig;have Kq:KeP:=⟨⟩;exact rT):p:=h
class KeN:Prop
theorem KeN.k (_:KeN) (h:p:=by
 repeat' first|exact Cg|with_reducible apply Z9|intro _
 all_goals first|contradiction|with_reducible exact Zz5|exact Wj|exact Vp|omega|skip
 refine Zm (bc:=Zs n) (⟨e,i+1,l⟩,[[40,99,97,115,101,32],[],[32,111,102,32]],[k0]) [90000,90001,95] U7 rfl (by simp) (by rw [Ql];rfl) ?_ ?_ ?_
 ·show Ze _ _ (Jq ⟨e,i+1,l⟩ [[40,99,97,115,101,32],[],[32,111,102,32]]) _;rw [Zt];simp [Ze,lk,Q4,rnA,rnAs,rk]
 ·show Zj (List.drop (Jq ⟨e,i+1,l⟩ [[40,99,97,115,101,32],[],[32,111,102,32]]).length _) _;rw [Zt];simp [Zj]
 have Xr:=Kt;have eV:=Kt;have kB:=Kt;have Q7:=@Zt;have Zz:=@Qw;have Kq:KeO:=⟨⟩;exact rT):p:=h
class KeS:Prop
theorem KeS.k (_:KeS) (h:p:=by
 repeat' first|exact Cg|with_reducible apply Z9|intro _
 all_goals first|contradiction|with_reducible exact Zz5|omega|skip
 refine ⟨[90000,90001],by simp,rfl,J3,?_⟩
 simp [Ze,lk,Q4,rnA,rnAs,rk]):p:=h
class KeR:Prop
theorem KeR.k (_:KeR) (h:p:=by
 repeat' first|exact Cg|with_reducible apply Z9|intro _
 all_goals first|contradiction|with_reducible exact Zz5|exact Wj|exact Vp|omega|skip
 refine Zm (bc:=Zs n) (⟨e,i+1,l⟩,[[40],[],[32],nm,[32],[],[41]],ks) [90000,90001,118] U7 rfl (by simp) (by rw [Ql];rfl) ?_ ?_ ?_
 ·show Ze _ _ (Jq ⟨e,i+1,l⟩ [[40],[],[32],nm,[32],[],[41]]) _;rw [Zt];simp [Ze,lk,Q4,rnA,rnAs,rk]
 ·show Zj (List.drop (Jq ⟨e,i+1,l⟩ [[40],[],[32],nm,[32],[],[41]]).length _) _;rw [Zt];simp [Zj]
 have Xr:=Kt;have eV:=Kt;have kB:=Kt;have Q7:=@Zt;have Zz:=@Qw;have Kq:KeS:=⟨⟩;exact rT):p:=h
class KeW:Prop
theorem KeW.k (_:KeW) (h:p:=by
 repeat' first|exact Cg|with_reducible apply Z9|intro _
 all_goals first|contradiction|with_reducible exact Zz5|omega|skip
 refine ⟨[90000,90001],by simp,rfl,J3,?_⟩
 simp [Ze,lk,Q4,rnA,rnAs,rk]):p:=h
class KeV:Prop
theorem KeV.k (_:KeV) (h:p:=by
 repeat' first|exact Cg|with_reducible apply Z9|intro _
 all_goals first|contradiction|with_reducible exact Zz5|exact Wj|exact Vp|omega|skip
 refine Zm (bc:=Zs n) (⟨e,J,V2⟩,[[125]],[]) [90000,90001,130] Eu rfl (by simp) (by rw [Js];rfl) ?_ ?_ ?_
 ·show Ze _ _ (Jq ⟨e,J,V2⟩ [[125]]) _;rw [Zt];simp [Ze,lk,Q4,rnA,rnAs,rk]
 ·show Zj (List.drop (Jq ⟨e,J,V2⟩ [[125]]).length _) _;rw [Zt];simp [Zj]
 have Xr:=Kt;have eV:=Kt;have kB:=Kt;have Q7:=@Zt;have Zz:=@Qw;have Kq:KeW:=⟨⟩;exact rT):p:=h
class KeU:Prop
theorem KeU.k (_:KeU) (h:p:=by
 repeat' first|exact Cg|with_reducible apply Z9|intro _
 all_goals first|contradiction|with_reducible exact Zz5|exact Wj|exact Vp|omega|skip
 refine Zm (bc:=Wy n) (⟨e,(i+1),V1⟩,[44,32],ks) [90000,90001] St rfl (by simp) (by rw [Jl];rfl) ?_ ?_ ?_
 ·show Ze _ _ (Uu ⟨e,(i+1),V1⟩) _;rw [Jm];simp [Ze,lk,Q4,rnA,rnAs,rk]
 ·show Zj (List.drop (Uu ⟨e,(i+1),V1⟩).length _) _;rw [Jm];simp [Zj]
 have Xr:=Kt;have eV:=Kt;have kB:=Kt;have Q7:=@Jm;have Zz:=@Ig;have Kq:KeV:=⟨⟩;exact rT):p:=h
class KeT:Prop
theorem KeT.k (_:KeT) (h:p:=by
 repeat' first|exact Cg|with_reducible apply Z9|intro _
 all_goals first|contradiction|with_reducible exact Zz5|exact Wj|exact Vp|omega|skip
 refine Zm (bc:=Zs n) (⟨e,i+1,l⟩,[[123]],[]) [90000,90001,123] U7 rfl (by simp) (by rw [Ql];rfl) ?_ ?_ ?_
 ·show Ze _ _ (Jq ⟨e,i+1,l⟩ [[123]]) _;rw [Zt];simp [Ze,lk,Q4,rnA,rnAs,rk]
 ·show Zj (List.drop (Jq ⟨e,i+1,l⟩ [[123]]).length _) _;rw [Zt];simp [Zj]
 have Xr:=Kt;have eV:=Kt;have kB:=Kt;have Q7:=@Zt;have Zz:=@Qw;have Kq:KeU:=⟨⟩;exact rT):p:=h
class KeY:Prop
theorem KeY.k (_:KeY) (h:p:=by
 repeat' first|exact Cg|with_reducible apply Z9|intro _
 all_goals first|contradiction|with_reducible exact Zz5|omega|skip
 refine ⟨[90000,90001],by simp,rfl,J3,?_⟩
 simp [Ze,lk,Q4,rnA,rnAs,rk]):p:=h
class KeX:Prop
theorem KeX.k (_:KeX) (h:p:=by
 repeat' first|exact Cg|with_reducible apply Z9|intro _
 all_goals first|contradiction|with_reducible exact Zz5|exact Wj|exact Vp|omega|skip
 refine Zm (bc:=Zs n) (⟨e,i+1,l⟩,[[],[46],nm],ks) [90000,90001,137] U7 rfl (by simp) (by rw [Ql];rfl) ?_ ?_ ?_
 ·show Ze _ _ (Jq ⟨e,i+1,l⟩ [[],[46],nm]) _;rw [Zt];simp [Ze,lk,Q4,rnA,rnAs,rk]
 ·show Zj (List.drop (Jq ⟨e,i+1,l⟩ [[],[46],nm]).length _) _;rw [Zt];simp [Zj]
 have Xr:=Kt;have eV:=Kt;have kB:=Kt;have Q7:=@Zt;have Zz:=@Qw;have Kq:KeY:=⟨⟩;exact rT):p:=h
class Kfa:Prop
theorem Kfa.k (_:Kfa) (h:p:=by
 repeat' first|exact Cg|with_reducible apply Z9|intro _
 all_goals first|contradiction|with_reducible exact Zz5|omega|skip
 refine ⟨[90000,90001],by simp,rfl,J3,?_⟩
 simp [Ze,lk,Q4,rnA,rnAs,rk]):p:=h
class KeZ:Prop
theorem KeZ.k (_:KeZ) (h:p:=by
 repeat' first|exact Cg|with_reducible apply Z9|intro _
 all_goals first|contradiction|with_reducible exact Zz5|exact Wj|exact Vp|omega|skip
 refine J7 (bc:=Zs n) (⟨e,i+1,l⟩,[[91],nm,[32,61,32],[],[58,32],T1,[93]],ks) [90000,90001,147] U7 rfl (by simp) (by rw [Ql];rfl) ?_ ?_ ?_
 ·show Ze _ _ (Jq ⟨e,i+1,l⟩ [[91],nm,[32,61,32],[],[58,32],T1,[93]]) _;rw [Zt];simp [Ze,lk,Q4,rnA,rnAs,rk]
 ·show Zj (List.drop (Jq ⟨e,i+1,l⟩ [[91],nm,[32,61,32],[],[58,32],T1,[93]]).length _) _;rw [Zt];simp [Zj]
 have Xr:=Kt;have eV:=Kt;have kB:=Kt;have Q7:=@Zt;have Zz:=@Qw;have Kq:Kfa:=⟨⟩;exact rT):p:=h
class Kfc:Prop
theorem Kfc.k (_:Kfc) (h:p:=by
 repeat' first|exact Cg|with_reducible apply Z9|intro _
 all_goals first|contradiction|with_reducible exact Zz5|omega|skip
 refine ⟨[90000,90001],by simp,rfl,J3,?_⟩
 simp [Ze,lk,Q4,rnA,rnAs,rk]):p:=h
class Kfb:Prop
theorem Kfb.k (_:Kfb) (h:p:=by
 repeat' first|exact Cg|with_reducible apply Z9|intro _
 all_goals first|contradiction|with_reducible exact Zz5|exact Wj|exact Vp|omega|skip
 refine Zm (bc:=Zs n) (⟨e,i+1,l⟩,[[40],[],[58,32],T1,[41]],ks) [90000,90001,155] U7 rfl (by simp) (by rw [Ql];rfl) ?_ ?_ ?_
 ·show Ze _ _ (Jq ⟨e,i+1,l⟩ [[40],[],[58,32],T1,[41]]) _;rw [Zt];simp [Ze,lk,Q4,rnA,rnAs,rk]
 ·show Zj (List.drop (Jq ⟨e,i+1,l⟩ [[40],[],[58,32],T1,[41]]).length _) _;rw [Zt];simp [Zj]
 have Xr:=Kt;have eV:=Kt;have kB:=Kt;have Q7:=@Zt;have Zz:=@Qw;have Kq:Kfc:=⟨⟩;exact rT):p:=h
class Kfe:Prop
theorem Kfe.k (_:Kfe) (h:p:=by
 repeat' first|exact Cg|with_reducible apply Z9|intro _
 all_goals first|contradiction|with_reducible exact Zz5|omega|skip
 refine ⟨[90000,90001],by simp,rfl,J3,?_⟩
 simp [Ze,lk,Q4,rnA,rnAs,rk]):p:=h
class Kfd:Prop
theorem Kfd.k (_:Kfd) (h:p:=by
 repeat' first|exact Cg|with_reducible apply Z9|intro _
 all_goals first|contradiction|with_reducible exact Zz5|exact Wj|exact Vp|omega|skip
 refine J7 (bc:=Zs n) (⟨e,i+1,l⟩,[[60],[],[58,32],T1,[32,61,62,32],U1,[62]],ks) [90000,90001,166] U7 rfl (by simp) (by rw [Ql];rfl) ?_ ?_ ?_
 ·show Ze _ _ (Jq ⟨e,i+1,l⟩ [[60],[],[58,32],T1,[32,61,62,32],U1,[62]]) _;rw [Zt];simp [Ze,lk,Q4,rnA,rnAs,rk]
 ·show Zj (List.drop (Jq ⟨e,i+1,l⟩ [[60],[],[58,32],T1,[32,61,62,32],U1,[62]]).length _) _;rw [Zt];simp [Zj]
 have Xr:=Kt;have eV:=Kt;have kB:=Kt;have Q7:=@Zt;have Zz:=@Qw;have Kq:Kfe:=⟨⟩;exact rT):p:=h
class Kfh:Prop
theorem Kfh.k (_:Kfh) (h:p:=by
 repeat' first|exact Cg|with_reducible apply Z9|intro _
 all_goals first|contradiction|with_reducible exact Zz5|omega|skip
 refine ⟨[90000,90001],by simp,rfl,J3,?_⟩
 simp [Ze,lk,Q4,rnA,rnAs,rk]):p:=h
class Kfg:Prop
theorem Kfg.k (_:Kfg) (h:p:=by
 repeat' first|exact Cg|with_reducible apply Z9|intro _
 all_goals first|contradiction|with_reducible exact Zz5|exact Wj|exact Vp|omega|skip
 refine Zm (bc:=K4) (⟨e,i+1,l1⟩,⟨0,lb,nm,bd,pm,pq,pt,pu⟩) [90000,90001] U7 rfl (by simp) (by rw [Ql];rfl) ?_ ?_ ?_
 ·show Ze _ _ (Uu ⟨e,i+1,l1⟩) _;rw [Jm];simp [Ze,lk,Q4,rnA,rnAs,rk]
 ·show Zj (List.drop (Uu ⟨e,i+1,l1⟩).length _) _;rw [Jm];simp [Zj]
 have Xr:=Kt;have eV:=Kt;have kB:=Kt;have Q7:=@Jm;have Zz:=@tX;have Kq:Kfh:=⟨⟩;exact rT):p:=h
class Kff:Prop
theorem Kff.k (_:Kff) (h:p:=by
 repeat' first|exact Cg|with_reducible apply Z9|intro _
 all_goals first|contradiction|with_reducible exact Zz5|exact Wj|exact Vp|omega|skip
 refine Zm (bc:=Zs n) (⟨e,i+1,l⟩,[lb,[32,61,32]],[]) [90000,90001,31] zZ rfl (by simp) (by rw [Jk];rfl) ?_ ?_ ?_
 ·show Ze _ _ (Jq ⟨e,i+1,l⟩ [lb,[32,61,32]]) _;rw [Zt];simp [Ze,lk,Q4,rnA,rnAs,rk]
 ·show Zj (List.drop (Jq ⟨e,i+1,l⟩ [lb,[32,61,32]]).length _) _;rw [Zt];simp [Zj]
 have Xr:=Kt;have eV:=Kt;have kB:=Kt;have Q7:=@Zt;have Zz:=@Qw;have Kq:Kfg:=⟨⟩;exact rT):p:=h
class Kfk:Prop
theorem Kfk.k (_:Kfk) (h:p:=by
 repeat' first|exact Cg|with_reducible apply Z9|intro _
 all_goals first|contradiction|with_reducible exact Zz5|omega|skip
 refine ⟨[90000,90001],by simp,rfl,J3,?_⟩
 simp [Ze,lk,Q4,rnA,rnAs,rk]):p:=h
class Kfj:Prop
theorem Kfj.k (_:Kfj) (h:p:=by
 repeat' first|exact Cg|with_reducible apply Z9|intro _
 all_goals first|contradiction|with_reducible exact Zz5|exact Wj|exact Vp|omega|skip
 refine Zm (bc:=Zs n) (⟨e,i+1,l1⟩,[nm],ks) [90000,90001,45] U7 rfl (by simp) (by rw [Ql];rfl) ?_ ?_ ?_
 ·show Ze _ _ (Jq ⟨e,i+1,l1⟩ [nm]) _;rw [Zt];simp [Ze,lk,Q4,rnA,rnAs,rk]
 ·show Zj (List.drop (Jq ⟨e,i+1,l1⟩ [nm]).length _) _;rw [Zt];simp [Zj]
 have Xr:=Kt;have eV:=Kt;have kB:=Kt;have Q7:=@Zt;have Zz:=@Qw;have Kq:Kfk:=⟨⟩;exact rT):p:=h
class Kfi:Prop
theorem Kfi.k (_:Kfi) (h:p:=by
 repeat' first|exact Cg|with_reducible apply Z9|intro _
 all_goals first|contradiction|with_reducible exact Zz5|exact Wj|exact Vp|omega|skip
 refine Zm (bc:=Zs n) (⟨e,i+1,l⟩,[lb,[32,61,32]],[]) [90000,90001,31] zZ rfl (by simp) (by rw [Jk];rfl) ?_ ?_ ?_
 ·show Ze _ _ (Jq ⟨e,i+1,l⟩ [lb,[32,61,32]]) _;rw [Zt];simp [Ze,lk,Q4,rnA,rnAs,rk]
 ·show Zj (List.drop (Jq ⟨e,i+1,l⟩ [lb,[32,61,32]]).length _) _;rw [Zt];simp [Zj]
 have Xr:=Kt;have eV:=Kt;have kB:=Kt;have Q7:=@Zt;have Zz:=@Qw;have Kq:Kfj:=⟨⟩;exact rT):p:=h
class Kfn:Prop
theorem Kfn.k (_:Kfn) (h:p:=by
 repeat' first|exact Cg|with_reducible apply Z9|intro _
 all_goals first|contradiction|with_reducible exact Zz5|omega|skip
 refine ⟨[90000,90001],by simp,rfl,J3,?_⟩
 simp [Ze,lk,Q4,rnA,rnAs,rk]):p:=h
class Kfm:Prop
theorem Kfm.k (_:Kfm) (h:p:=by
 repeat' first|exact Cg|with_reducible apply Z9|intro _
 all_goals first|contradiction|with_reducible exact Zz5|exact Wj|exact Vp|omega|skip
 refine J7 (bc:=Zs n) (⟨e,i+1,l1⟩,[[40,102,117,110,32,40],bd,[58,32],T1,[41,32,45,62,32],[],[41]],ks) [90000,90001,55] U7 rfl (by simp) (by rw [Ql];rfl) ?_ ?_ ?_
 ·show Ze _ _ (Jq ⟨e,i+1,l1⟩ [[40,102,117,110,32,40],bd,[58,32],T1,[41,32,45,62,32],[],[41]]) _;rw [Zt];simp [Ze,lk,Q4,rnA,rnAs,rk]
 ·show Zj (List.drop (Jq ⟨e,i+1,l1⟩ [[40,102,117,110,32,40],bd,[58,32],T1,[41,32,45,62,32],[],[41]]).length _) _;rw [Zt];simp [Zj]
 have Xr:=Kt;have eV:=Kt;have kB:=Kt;have Q7:=@Zt;have Zz:=@Qw;have Kq:Kfn:=⟨⟩;exact rT):p:=h
class Kfl:Prop
theorem Kfl.k (_:Kfl) (h:p:=by
 repeat' first|exact Cg|with_reducible apply Z9|intro _
 all_goals first|contradiction|with_reducible exact Zz5|exact Wj|exact Vp|omega|skip
 refine Zm (bc:=Zs n) (⟨e,i+1,l⟩,[lb,[32,61,32]],[]) [90000,90001,31] zZ rfl (by simp) (by rw [Jk];rfl) ?_ ?_ ?_
 ·show Ze _ _ (Jq ⟨e,i+1,l⟩ [lb,[32,61,32]]) _;rw [Zt];simp [Ze,lk,Q4,rnA,rnAs,rk]
 ·show Zj (List.drop (Jq ⟨e,i+1,l⟩ [lb,[32,61,32]]).length _) _;rw [Zt];simp [Zj]
 have Xr:=Kt;have eV:=Kt;have kB:=Kt;have Q7:=@Zt;have Zz:=@Qw;have Kq:Kfm:=⟨⟩;exact rT):p:=h
class Kfq:Prop
theorem Kfq.k (_:Kfq) (h:p:=by
 repeat' first|exact Cg|with_reducible apply Z9|intro _
 all_goals first|contradiction|with_reducible exact Zz5|omega|skip
 refine ⟨[90000,90001],by simp,rfl,J3,?_⟩
 simp [Ze,lk,Q4,rnA,rnAs,rk]):p:=h
class Kfp:Prop
theorem Kfp.k (_:Kfp) (h:p:=by
 repeat' first|exact Cg|with_reducible apply Z9|intro _
 all_goals first|contradiction|with_reducible exact Zz5|exact Wj|exact Vp|omega|skip
 refine Zm (bc:=Zs n) (⟨e,i+1,l1⟩,[[40],[],[32],[],[41]],ks) [90000,90001,60] U7 rfl (by simp) (by rw [Ql];rfl) ?_ ?_ ?_
 ·show Ze _ _ (Jq ⟨e,i+1,l1⟩ [[40],[],[32],[],[41]]) _;rw [Zt];simp [Ze,lk,Q4,rnA,rnAs,rk]
 ·show Zj (List.drop (Jq ⟨e,i+1,l1⟩ [[40],[],[32],[],[41]]).length _) _;rw [Zt];simp [Zj]
 have Xr:=Kt;have eV:=Kt;have kB:=Kt;have Q7:=@Zt;have Zz:=@Qw;have Kq:Kfq:=⟨⟩;exact rT):p:=h
class Kfo:Prop
theorem Kfo.k (_:Kfo) (h:p:=by
 repeat' first|exact Cg|with_reducible apply Z9|intro _
 all_goals first|contradiction|with_reducible exact Zz5|exact Wj|exact Vp|omega|skip
 refine Zm (bc:=Zs n) (⟨e,i+1,l⟩,[lb,[32,61,32]],[]) [90000,90001,31] zZ rfl (by simp) (by rw [Jk];rfl) ?_ ?_ ?_
 ·show Ze _ _ (Jq ⟨e,i+1,l⟩ [lb,[32,61,32]]) _;rw [Zt];simp [Ze,lk,Q4,rnA,rnAs,rk]
 ·show Zj (List.drop (Jq ⟨e,i+1,l⟩ [lb,[32,61,32]]).length _) _;rw [Zt];simp [Zj]
 have Xr:=Kt;have eV:=Kt;have kB:=Kt;have Q7:=@Zt;have Zz:=@Qw;have Kq:Kfp:=⟨⟩;exact rT):p:=h
class Kft:Prop
theorem Kft.k (_:Kft) (h:p:=by
 repeat' first|exact Cg|with_reducible apply Z9|intro _
 all_goals first|contradiction|with_reducible exact Zz5|omega|skip
 refine ⟨[90000,90001],by simp,rfl,J3,?_⟩
 simp [Ze,lk,Q4,rnA,rnAs,rk]):p:=h
class Kfs:Prop
theorem Kfs.k (_:Kfs) (h:p:=by
 repeat' first|exact Cg|with_reducible apply Z9|intro _
 all_goals first|contradiction|with_reducible exact Zz5|exact Wj|exact Vp|omega|skip
 refine J7 (bc:=Zs n) (⟨e,i+1,l1⟩,[[40,108,101,116,32],bd,[58,32],T1,[32,61,32],[],[32,105,110,32],[],[41]],ks) [90000,90001,70] U7 rfl (by simp) (by rw [Ql];rfl) ?_ ?_ ?_
 ·show Ze _ _ (Jq ⟨e,i+1,l1⟩ [[40,108,101,116,32],bd,[58,32],T1,[32,61,32],[],[32,105,110,32],[],[41]]) _;rw [Zt];simp [Ze,lk,Q4,rnA,rnAs,rk]
 ·show Zj (List.drop (Jq ⟨e,i+1,l1⟩ [[40,108,101,116,32],bd,[58,32],T1,[32,61,32],[],[32,105,110,32],[],[41]]).length _) _;rw [Zt];simp [Zj]
 have Xr:=Kt;have eV:=Kt;have kB:=Kt;have Q7:=@Zt;have Zz:=@Qw;have Kq:Kft:=⟨⟩;exact rT):p:=h
class Kfr:Prop
theorem Kfr.k (_:Kfr) (h:p:=by
 repeat' first|exact Cg|with_reducible apply Z9|intro _
 all_goals first|contradiction|with_reducible exact Zz5|exact Wj|exact Vp|omega|skip
 refine Zm (bc:=Zs n) (⟨e,i+1,l⟩,[lb,[32,61,32]],[]) [90000,90001,31] zZ rfl (by simp) (by rw [Jk];rfl) ?_ ?_ ?_
 ·show Ze _ _ (Jq ⟨e,i+1,l⟩ [lb,[32,61,32]]) _;rw [Zt];simp [Ze,lk,Q4,rnA,rnAs,rk]
 ·show Zj (List.drop (Jq ⟨e,i+1,l⟩ [lb,[32,61,32]]).length _) _;rw [Zt];simp [Zj]
 have Xr:=Kt;have eV:=Kt;have kB:=Kt;have Q7:=@Zt;have Zz:=@Qw;have Kq:Kfs:=⟨⟩;exact rT):p:=h
class Kfw:Prop
theorem Kfw.k (_:Kfw) (h:p:=by
 repeat' first|exact Cg|with_reducible apply Z9|intro _
 all_goals first|contradiction|with_reducible exact Zz5|omega|skip
 refine ⟨[90000,90001],by simp,rfl,J3,?_⟩
 simp [Ze,lk,Q4,rnA,rnAs,rk]):p:=h
class Kfv:Prop
theorem Kfv.k (_:Kfv) (h:p:=by
 repeat' first|exact Cg|with_reducible apply Z9|intro _
 all_goals first|contradiction|with_reducible exact Zz5|exact Wj|exact Vp|omega|skip
 refine J7 (bc:=Zs n) (⟨e,i+1,l1⟩,[[40,114,101,99,32],nm,[32,40],bd,[58,32],T1,[41,58,32],U1,[32,61,32],[],[32,105,110,32],[],[41]],ks) [90000,90001,85] U7 rfl (by simp) (by rw [Ql];rfl) ?_ ?_ ?_
 ·show Ze _ _ (Jq ⟨e,i+1,l1⟩ [[40,114,101,99,32],nm,[32,40],bd,[58,32],T1,[41,58,32],U1,[32,61,32],[],[32,105,110,32],[],[41]]) _;rw [Zt];simp [Ze,lk,Q4,rnA,rnAs,rk]
 ·show Zj (List.drop (Jq ⟨e,i+1,l1⟩ [[40,114,101,99,32],nm,[32,40],bd,[58,32],T1,[41,58,32],U1,[32,61,32],[],[32,105,110,32],[],[41]]).length _) _;rw [Zt];simp [Zj]
 have Xr:=Kt;have eV:=Kt;have kB:=Kt;have Q7:=@Zt;have Zz:=@Qw;have Kq:Kfw:=⟨⟩;exact rT):p:=h
class Kfu:Prop
theorem Kfu.k (_:Kfu) (h:p:=by
 repeat' first|exact Cg|with_reducible apply Z9|intro _
 all_goals first|contradiction|with_reducible exact Zz5|exact Wj|exact Vp|omega|skip
 refine Zm (bc:=Zs n) (⟨e,i+1,l⟩,[lb,[32,61,32]],[]) [90000,90001,31] zZ rfl (by simp) (by rw [Jk];rfl) ?_ ?_ ?_
 ·show Ze _ _ (Jq ⟨e,i+1,l⟩ [lb,[32,61,32]]) _;rw [Zt];simp [Ze,lk,Q4,rnA,rnAs,rk]
 ·show Zj (List.drop (Jq ⟨e,i+1,l⟩ [lb,[32,61,32]]).length _) _;rw [Zt];simp [Zj]
 have Xr:=Kt;have eV:=Kt;have kB:=Kt;have Q7:=@Zt;have Zz:=@Qw;have Kq:Kfv:=⟨⟩;exact rT):p:=h
class Kfz:Prop
theorem Kfz.k (_:Kfz) (h:p:=by
 repeat' first|exact Cg|with_reducible apply Z9|intro _
 all_goals first|contradiction|with_reducible exact Zz5|omega|skip
 refine ⟨[90000,90001],by simp,rfl,J3,?_⟩
 simp [Ze,lk,Q4,rnA,rnAs,rk]):p:=h
class Kfy:Prop
theorem Kfy.k (_:Kfy) (h:p:=by
 repeat' first|exact Cg|with_reducible apply Z9|intro _
 all_goals first|contradiction|with_reducible exact Zz5|exact Wj|exact Vp|omega|skip
 refine Zm (bc:=Zs n) (⟨e,i+1,l1⟩,[[40,105,102,32],[],[32,116,104,101,110,32],[],[32,101,108,115,101,32],[],[41]],ks) [90000,90001,90] U7 rfl (by simp) (by rw [Ql];rfl) ?_ ?_ ?_
 ·show Ze _ _ (Jq ⟨e,i+1,l1⟩ [[40,105,102,32],[],[32,116,104,101,110,32],[],[32,101,108,115,101,32],[],[41]]) _;rw [Zt];simp [Ze,lk,Q4,rnA,rnAs,rk]
 ·show Zj (List.drop (Jq ⟨e,i+1,l1⟩ [[40,105,102,32],[],[32,116,104,101,110,32],[],[32,101,108,115,101,32],[],[41]]).length _) _;rw [Zt];simp [Zj]
 have Xr:=Kt;have eV:=Kt;have kB:=Kt;have Q7:=@Zt;have Zz:=@Qw;have Kq:Kfz:=⟨⟩;exact rT):p:=h
class Kfx:Prop
theorem Kfx.k (_:Kfx) (h:p:=by
 repeat' first|exact Cg|with_reducible apply Z9|intro _
 all_goals first|contradiction|with_reducible exact Zz5|exact Wj|exact Vp|omega|skip
 refine Zm (bc:=Zs n) (⟨e,i+1,l⟩,[lb,[32,61,32]],[]) [90000,90001,31] zZ rfl (by simp) (by rw [Jk];rfl) ?_ ?_ ?_
 ·show Ze _ _ (Jq ⟨e,i+1,l⟩ [lb,[32,61,32]]) _;rw [Zt];simp [Ze,lk,Q4,rnA,rnAs,rk]
 ·show Zj (List.drop (Jq ⟨e,i+1,l⟩ [lb,[32,61,32]]).length _) _;rw [Zt];simp [Zj]
 have Xr:=Kt;have eV:=Kt;have kB:=Kt;have Q7:=@Zt;have Zz:=@Qw;have Kq:Kfy:=⟨⟩;exact rT):p:=h
class KfE:Prop
theorem KfE.k (_:KfE) (h:p:=by
 repeat' first|exact Cg|with_reducible apply Z9|intro _
 all_goals first|contradiction|with_reducible exact Zz5|omega|skip
 refine ⟨[90000,90001],by simp,rfl,J3,?_⟩
 simp [Ze,lk,Q4,rnA,rnAs,rk]):p:=h
class KfD:Prop
theorem KfD.k (_:KfD) (h:p:=by
 repeat' first|exact Cg|with_reducible apply Z9|intro _
 all_goals first|contradiction|with_reducible exact Zz5|exact Wj|exact Vp|omega|skip
 refine Zm (bc:=Zs n) (⟨e,J,V2⟩,[[32,101,110,100,41]],[]) [90000,90001,102] Eu rfl (by simp) (by rw [Js];rfl) ?_ ?_ ?_
 ·show Ze _ _ (Jq ⟨e,J,V2⟩ [[32,101,110,100,41]]) _;rw [Zt];simp [Ze,lk,Q4,rnA,rnAs,rk]
 ·show Zj (List.drop (Jq ⟨e,J,V2⟩ [[32,101,110,100,41]]).length _) _;rw [Zt];simp [Zj]
 have Xr:=Kt;have eV:=Kt;have kB:=Kt;have Q7:=@Zt;have Zz:=@Qw;have Kq:KfE:=⟨⟩;exact rT):p:=h
class KfC:Prop
theorem KfC.k (_:KfC) (h:p:=by
 repeat' first|exact Cg|with_reducible apply Z9|intro _
 all_goals first|contradiction|with_reducible exact Zz5|exact Wj|exact Vp|omega|skip
 refine Zm (bc:=Wy n) (⟨e,j1,V1⟩,[32,124,32],kr) [90000,90001] St rfl (by simp) (by rw [Jl];rfl) ?_ ?_ ?_
 ·show Ze _ _ (Uu ⟨e,j1,V1⟩) _;rw [Jm];simp [Ze,lk,Q4,rnA,rnAs,rk]
 ·show Zj (List.drop (Uu ⟨e,j1,V1⟩).length _) _;rw [Jm];simp [Zj]
 have Xr:=Kt;have eV:=Kt;have kB:=Kt;have Q7:=@Jm;have Zz:=@Ig;have Kq:KfD:=⟨⟩;exact rT):p:=h
class KfB:Prop
theorem KfB.k (_:KfB) (h:p:=by
 repeat' first|exact Cg|with_reducible apply Z9|intro _
 all_goals first|contradiction|with_reducible exact Zz5|exact Wj|exact Vp|omega|skip
 refine Zm (bc:=Zs n) (⟨e,i+1,l1⟩,[[40,99,97,115,101,32],[],[32,111,102,32]],[k0]) [90000,90001,95] U7 rfl (by simp) (by rw [Ql];rfl) ?_ ?_ ?_
 ·show Ze _ _ (Jq ⟨e,i+1,l1⟩ [[40,99,97,115,101,32],[],[32,111,102,32]]) _;rw [Zt];simp [Ze,lk,Q4,rnA,rnAs,rk]
 ·show Zj (List.drop (Jq ⟨e,i+1,l1⟩ [[40,99,97,115,101,32],[],[32,111,102,32]]).length _) _;rw [Zt];simp [Zj]
 have Xr:=Kt;have eV:=Kt;have kB:=Kt;have Q7:=@Zt;have Zz:=@Qw;have Kq:KfC:=⟨⟩;exact rT):p:=h
class KfA:Prop
theorem KfA.k (_:KfA) (h:p:=by
 repeat' first|exact Cg|with_reducible apply Z9|intro _
 all_goals first|contradiction|with_reducible exact Zz5|exact Wj|exact Vp|omega|skip
 refine Zm (bc:=Zs n) (⟨e,i+1,l⟩,[lb,[32,61,32]],[]) [90000,90001,31] zZ rfl (by simp) (by rw [Jk];rfl) ?_ ?_ ?_
 ·show Ze _ _ (Jq ⟨e,i+1,l⟩ [lb,[32,61,32]]) _;rw [Zt];simp [Ze,lk,Q4,rnA,rnAs,rk]
 ·show Zj (List.drop (Jq ⟨e,i+1,l⟩ [lb,[32,61,32]]).length _) _;rw [Zt];simp [Zj]
 have Xr:=Kt;have eV:=Kt;have kB:=Kt;have Q7:=@Zt;have Zz:=@Qw;have Kq:KfB:=⟨⟩;exact rT):p:=h
class KfH:Prop
theorem KfH.k (_:KfH) (h:p:=by
 repeat' first|exact Cg|with_reducible apply Z9|intro _
 all_goals first|contradiction|with_reducible exact Zz5|omega|skip
 refine ⟨[90000,90001],by simp,rfl,J3,?_⟩
 simp [Ze,lk,Q4,rnA,rnAs,rk]):p:=h
class KfG:Prop
theorem KfG.k (_:KfG) (h:p:=by
 repeat' first|exact Cg|with_reducible apply Z9|intro _
 all_goals first|contradiction|with_reducible exact Zz5|exact Wj|exact Vp|omega|skip
 refine Zm (bc:=Zs n) (⟨e,i+1,l1⟩,[[40],[],[32],nm,[32],[],[41]],ks) [90000,90001,118] U7 rfl (by simp) (by rw [Ql];rfl) ?_ ?_ ?_
 ·show Ze _ _ (Jq ⟨e,i+1,l1⟩ [[40],[],[32],nm,[32],[],[41]]) _;rw [Zt];simp [Ze,lk,Q4,rnA,rnAs,rk]
 ·show Zj (List.drop (Jq ⟨e,i+1,l1⟩ [[40],[],[32],nm,[32],[],[41]]).length _) _;rw [Zt];simp [Zj]
 have Xr:=Kt;have eV:=Kt;have kB:=Kt;have Q7:=@Zt;have Zz:=@Qw;have Kq:KfH:=⟨⟩;exact rT):p:=h
class KfF:Prop
theorem KfF.k (_:KfF) (h:p:=by
 repeat' first|exact Cg|with_reducible apply Z9|intro _
 all_goals first|contradiction|with_reducible exact Zz5|exact Wj|exact Vp|omega|skip
 refine Zm (bc:=Zs n) (⟨e,i+1,l⟩,[lb,[32,61,32]],[]) [90000,90001,31] zZ rfl (by simp) (by rw [Jk];rfl) ?_ ?_ ?_
 ·show Ze _ _ (Jq ⟨e,i+1,l⟩ [lb,[32,61,32]]) _;rw [Zt];simp [Ze,lk,Q4,rnA,rnAs,rk]
 ·show Zj (List.drop (Jq ⟨e,i+1,l⟩ [lb,[32,61,32]]).length _) _;rw [Zt];simp [Zj]
 have Xr:=Kt;have eV:=Kt;have kB:=Kt;have Q7:=@Zt;have Zz:=@Qw;have Kq:KfG:=⟨⟩;exact rT):p:=h
class KfM:Prop
theorem KfM.k (_:KfM) (h:p:=by
 repeat' first|exact Cg|with_reducible apply Z9|intro _
 all_goals first|contradiction|with_reducible exact Zz5|omega|skip
 refine ⟨[90000,90001],by simp,rfl,J3,?_⟩
 simp [Ze,lk,Q4,rnA,rnAs,rk]):p:=h
class KfL:Prop
theorem KfL.k (_:KfL) (h:p:=by
 repeat' first|exact Cg|with_reducible apply Z9|intro _
 all_goals first|contradiction|with_reducible exact Zz5|exact Wj|exact Vp|omega|skip
 refine Zm (bc:=Zs n) (⟨e,J,V2⟩,[[125]],[]) [90000,90001,130] Eu rfl (by simp) (by rw [Js];rfl) ?_ ?_ ?_
 ·show Ze _ _ (Jq ⟨e,J,V2⟩ [[125]]) _;rw [Zt];simp [Ze,lk,Q4,rnA,rnAs,rk]
 ·show Zj (List.drop (Jq ⟨e,J,V2⟩ [[125]]).length _) _;rw [Zt];simp [Zj]
 have Xr:=Kt;have eV:=Kt;have kB:=Kt;have Q7:=@Zt;have Zz:=@Qw;have Kq:KfM:=⟨⟩;exact rT):p:=h
class KfK:Prop
theorem KfK.k (_:KfK) (h:p:=by
 repeat' first|exact Cg|with_reducible apply Z9|intro _
 all_goals first|contradiction|with_reducible exact Zz5|exact Wj|exact Vp|omega|skip
 refine Zm (bc:=Wy n) (⟨e,(i+1),V1⟩,[44,32],ks) [90000,90001] St rfl (by simp) (by rw [Jl];rfl) ?_ ?_ ?_
 ·show Ze _ _ (Uu ⟨e,(i+1),V1⟩) _;rw [Jm];simp [Ze,lk,Q4,rnA,rnAs,rk]
 ·show Zj (List.drop (Uu ⟨e,(i+1),V1⟩).length _) _;rw [Jm];simp [Zj]
 have Xr:=Kt;have eV:=Kt;have kB:=Kt;have Q7:=@Jm;have Zz:=@Ig;have Kq:KfL:=⟨⟩;exact rT):p:=h
class KfJ:Prop
theorem KfJ.k (_:KfJ) (h:p:=by
 repeat' first|exact Cg|with_reducible apply Z9|intro _
 all_goals first|contradiction|with_reducible exact Zz5|exact Wj|exact Vp|omega|skip
 refine Zm (bc:=Zs n) (⟨e,i+1,l1⟩,[[123]],[]) [90000,90001,123] U7 rfl (by simp) (by rw [Ql];rfl) ?_ ?_ ?_
 ·show Ze _ _ (Jq ⟨e,i+1,l1⟩ [[123]]) _;rw [Zt];simp [Ze,lk,Q4,rnA,rnAs,rk]
 ·show Zj (List.drop (Jq ⟨e,i+1,l1⟩ [[123]]).length _) _;rw [Zt];simp [Zj]
 have Xr:=Kt;have eV:=Kt;have kB:=Kt;have Q7:=@Zt;have Zz:=@Qw;have Kq:KfK:=⟨⟩;exact rT):p:=h
class KfI:Prop
theorem KfI.k (_:KfI) (h:p:=by
 repeat' first|exact Cg|with_reducible apply Z9|intro _
 all_goals first|contradiction|with_reducible exact Zz5|exact Wj|exact Vp|omega|skip
 refine Zm (bc:=Zs n) (⟨e,i+1,l⟩,[lb,[32,61,32]],[]) [90000,90001,31] zZ rfl (by simp) (by rw [Jk];rfl) ?_ ?_ ?_
 ·show Ze _ _ (Jq ⟨e,i+1,l⟩ [lb,[32,61,32]]) _;rw [Zt];simp [Ze,lk,Q4,rnA,rnAs,rk]
 ·show Zj (List.drop (Jq ⟨e,i+1,l⟩ [lb,[32,61,32]]).length _) _;rw [Zt];simp [Zj]
 have Xr:=Kt;have eV:=Kt;have kB:=Kt;have Q7:=@Zt;have Zz:=@Qw;have Kq:KfJ:=⟨⟩;exact rT):p:=h
class KfP:Prop
theorem KfP.k (_:KfP) (h:p:=by
 repeat' first|exact Cg|with_reducible apply Z9|intro _
 all_goals first|contradiction|with_reducible exact Zz5|omega|skip
 refine ⟨[90000,90001],by simp,rfl,J3,?_⟩
 simp [Ze,lk,Q4,rnA,rnAs,rk]):p:=h
class KfO:Prop
theorem KfO.k (_:KfO) (h:p:=by
 repeat' first|exact Cg|with_reducible apply Z9|intro _
 all_goals first|contradiction|with_reducible exact Zz5|exact Wj|exact Vp|omega|skip
 refine Zm (bc:=Zs n) (⟨e,i+1,l1⟩,[[],[46],nm],ks) [90000,90001,137] U7 rfl (by simp) (by rw [Ql];rfl) ?_ ?_ ?_
 ·show Ze _ _ (Jq ⟨e,i+1,l1⟩ [[],[46],nm]) _;rw [Zt];simp [Ze,lk,Q4,rnA,rnAs,rk]
 ·show Zj (List.drop (Jq ⟨e,i+1,l1⟩ [[],[46],nm]).length _) _;rw [Zt];simp [Zj]
 have Xr:=Kt;have eV:=Kt;have kB:=Kt;have Q7:=@Zt;have Zz:=@Qw;have Kq:KfP:=⟨⟩;exact rT):p:=h
class KfN:Prop
theorem KfN.k (_:KfN) (h:p:=by
 repeat' first|exact Cg|with_reducible apply Z9|intro _
 all_goals first|contradiction|with_reducible exact Zz5|exact Wj|exact Vp|omega|skip
 refine Zm (bc:=Zs n) (⟨e,i+1,l⟩,[lb,[32,61,32]],[]) [90000,90001,31] zZ rfl (by simp) (by rw [Jk];rfl) ?_ ?_ ?_
 ·show Ze _ _ (Jq ⟨e,i+1,l⟩ [lb,[32,61,32]]) _;rw [Zt];simp [Ze,lk,Q4,rnA,rnAs,rk]
 ·show Zj (List.drop (Jq ⟨e,i+1,l⟩ [lb,[32,61,32]]).length _) _;rw [Zt];simp [Zj]
 have Xr:=Kt;have eV:=Kt;have kB:=Kt;have Q7:=@Zt;have Zz:=@Qw;have Kq:KfO:=⟨⟩;exact rT):p:=h
class KfS:Prop
theorem KfS.k (_:KfS) (h:p:=by
 repeat' first|exact Cg|with_reducible apply Z9|intro _
 all_goals first|contradiction|with_reducible exact Zz5|omega|skip
 refine ⟨[90000,90001],by simp,rfl,J3,?_⟩
 simp [Ze,lk,Q4,rnA,rnAs,rk]):p:=h
class KfR:Prop
theorem KfR.k (_:KfR) (h:p:=by
 repeat' first|exact Cg|with_reducible apply Z9|intro _
 all_goals first|contradiction|with_reducible exact Zz5|exact Wj|exact Vp|omega|skip
 refine J7 (bc:=Zs n) (⟨e,i+1,l1⟩,[[91],nm,[32,61,32],[],[58,32],T1,[93]],ks) [90000,90001,147] U7 rfl (by simp) (by rw [Ql];rfl) ?_ ?_ ?_
 ·show Ze _ _ (Jq ⟨e,i+1,l1⟩ [[91],nm,[32,61,32],[],[58,32],T1,[93]]) _;rw [Zt];simp [Ze,lk,Q4,rnA,rnAs,rk]
 ·show Zj (List.drop (Jq ⟨e,i+1,l1⟩ [[91],nm,[32,61,32],[],[58,32],T1,[93]]).length _) _;rw [Zt];simp [Zj]
 have Xr:=Kt;have eV:=Kt;have kB:=Kt;have Q7:=@Zt;have Zz:=@Qw;have Kq:KfS:=⟨⟩;exact rT):p:=h
class KfQ:Prop
theorem KfQ.k (_:KfQ) (h:p:=by
 repeat' first|exact Cg|with_reducible apply Z9|intro _
 all_goals first|contradiction|with_reducible exact Zz5|exact Wj|exact Vp|omega|skip
 refine Zm (bc:=Zs n) (⟨e,i+1,l⟩,[lb,[32,61,32]],[]) [90000,90001,31] zZ rfl (by simp) (by rw [Jk];rfl) ?_ ?_ ?_
 ·show Ze _ _ (Jq ⟨e,i+1,l⟩ [lb,[32,61,32]]) _;rw [Zt];simp [Ze,lk,Q4,rnA,rnAs,rk]
 ·show Zj (List.drop (Jq ⟨e,i+1,l⟩ [lb,[32,61,32]]).length _) _;rw [Zt];simp [Zj]
 have Xr:=Kt;have eV:=Kt;have kB:=Kt;have Q7:=@Zt;have Zz:=@Qw;have Kq:KfR:=⟨⟩;exact rT):p:=h
class KfV:Prop
theorem KfV.k (_:KfV) (h:p:=by
 repeat' first|exact Cg|with_reducible apply Z9|intro _
 all_goals first|contradiction|with_reducible exact Zz5|omega|skip
 refine ⟨[90000,90001],by simp,rfl,J3,?_⟩
 simp [Ze,lk,Q4,rnA,rnAs,rk]):p:=h
class KfU:Prop
theorem KfU.k (_:KfU) (h:p:=by
 repeat' first|exact Cg|with_reducible apply Z9|intro _
 all_goals first|contradiction|with_reducible exact Zz5|exact Wj|exact Vp|omega|skip
 refine Zm (bc:=Zs n) (⟨e,i+1,l1⟩,[[40],[],[58,32],T1,[41]],ks) [90000,90001,155] U7 rfl (by simp) (by rw [Ql];rfl) ?_ ?_ ?_
 ·show Ze _ _ (Jq ⟨e,i+1,l1⟩ [[40],[],[58,32],T1,[41]]) _;rw [Zt];simp [Ze,lk,Q4,rnA,rnAs,rk]
 ·show Zj (List.drop (Jq ⟨e,i+1,l1⟩ [[40],[],[58,32],T1,[41]]).length _) _;rw [Zt];simp [Zj]
 have Xr:=Kt;have eV:=Kt;have kB:=Kt;have Q7:=@Zt;have Zz:=@Qw;have Kq:KfV:=⟨⟩;exact rT):p:=h
class KfT:Prop
theorem KfT.k (_:KfT) (h:p:=by
 repeat' first|exact Cg|with_reducible apply Z9|intro _
 all_goals first|contradiction|with_reducible exact Zz5|exact Wj|exact Vp|omega|skip
 refine Zm (bc:=Zs n) (⟨e,i+1,l⟩,[lb,[32,61,32]],[]) [90000,90001,31] zZ rfl (by simp) (by rw [Jk];rfl) ?_ ?_ ?_
 ·show Ze _ _ (Jq ⟨e,i+1,l⟩ [lb,[32,61,32]]) _;rw [Zt];simp [Ze,lk,Q4,rnA,rnAs,rk]
 ·show Zj (List.drop (Jq ⟨e,i+1,l⟩ [lb,[32,61,32]]).length _) _;rw [Zt];simp [Zj]
 have Xr:=Kt;have eV:=Kt;have kB:=Kt;have Q7:=@Zt;have Zz:=@Qw;have Kq:KfU:=⟨⟩;exact rT):p:=h
class KfY:Prop
theorem KfY.k (_:KfY) (h:p:=by
 repeat' first|exact Cg|with_reducible apply Z9|intro _
 all_goals first|contradiction|with_reducible exact Zz5|omega|skip
 refine ⟨[90000,90001],by simp,rfl,J3,?_⟩
 simp [Ze,lk,Q4,rnA,rnAs,rk]):p:=h
class KfX:Prop
theorem KfX.k (_:KfX) (h:p:=by
 repeat' first|exact Cg|with_reducible apply Z9|intro _
 all_goals first|contradiction|with_reducible exact Zz5|exact Wj|exact Vp|omega|skip
 refine J7 (bc:=Zs n) (⟨e,i+1,l1⟩,[[60],[],[58,32],T1,[32,61,62,32],U1,[62]],ks) [90000,90001,166] U7 rfl (by simp) (by rw [Ql];rfl) ?_ ?_ ?_
 ·show Ze _ _ (Jq ⟨e,i+1,l1⟩ [[60],[],[58,32],T1,[32,61,62,32],U1,[62]]) _;rw [Zt];simp [Ze,lk,Q4,rnA,rnAs,rk]
 ·show Zj (List.drop (Jq ⟨e,i+1,l1⟩ [[60],[],[58,32],T1,[32,61,62,32],U1,[62]]).length _) _;rw [Zt];simp [Zj]
 have Xr:=Kt;have eV:=Kt;have kB:=Kt;have Q7:=@Zt;have Zz:=@Qw;have Kq:KfY:=⟨⟩;exact rT):p:=h
class KfW:Prop
theorem KfW.k (_:KfW) (h:p:=by
 repeat' first|exact Cg|with_reducible apply Z9|intro _
 all_goals first|contradiction|with_reducible exact Zz5|exact Wj|exact Vp|omega|skip
 refine Zm (bc:=Zs n) (⟨e,i+1,l⟩,[lb,[32,61,32]],[]) [90000,90001,31] zZ rfl (by simp) (by rw [Jk];rfl) ?_ ?_ ?_
 ·show Ze _ _ (Jq ⟨e,i+1,l⟩ [lb,[32,61,32]]) _;rw [Zt];simp [Ze,lk,Q4,rnA,rnAs,rk]
 ·show Zj (List.drop (Jq ⟨e,i+1,l⟩ [lb,[32,61,32]]).length _) _;rw [Zt];simp [Zj]
 have Xr:=Kt;have eV:=Kt;have kB:=Kt;have Q7:=@Zt;have Zz:=@Qw;have Kq:KfX:=⟨⟩;exact rT):p:=h
theorem stepb_PartA (n:Nat) (ih:X9 Tryz.prog (40,Xv n)):X9 Tryz.prog (40,(Xv (n+1))):=by
 obtain ⟨Kx,Kt,Kc,Kd,Kb,Ku,Kw,K,Y0,Xr,eV,kB,_⟩:=Yc Qp Z0 [] false (Xu good_PrintT T7.eq_def (A6 goodb_LitA K4.eq_def (A6 (stepbm_SayA n ih) (Zs.eq_def n) (A6 (stepbm_RowA n ih) (Wy.eq_def n) Yb))));refine bR K Tryz.func40 [] rfl 168 rfl (fun c hc x X5=>?_);obtain ⟨⟨e,i,l⟩,y⟩:=x;obtain ⟨⟨he,C1,J8⟩,Z8⟩:=X5;simp only at he C1 J8 Z8;obtain ⟨hy,-⟩:=C1.head;obtain ⟨R5,F7⟩:=J8 y (by simp)
 obtain ⟨p,ks⟩:=y;obtain ⟨V,hV⟩:=exq (l++prT (mk p ks));obtain ⟨J,hJ⟩:=exq (i+(nds (mk p ks)).length);have Jc:=Pu (n:=n+1) (a:=⟨e,i,l⟩) hJ hV;rw [hV] at Z8;have Bk:=hy.lt;have Qz:=Qc e0 Bk;rw [hy.root e0] at Qz;obtain ⟨Xs,Wa⟩:=hy.kids;simp only [kids,root] at Xs Wa Qz;have Qea:=F7 p (by rw [Jt];exact List.mem_cons_self ..)
 have Gn:i+1+(ndss ks).length=J:=by rw [←hJ,Jt,Zd];omega
 have Jy:∀ z∈ks,(nds z).length<n∧∀ q∈nds z,fB q:=fun z hz=>⟨by
  have:=Hs hz;rw [Jt,Zd] at R5;omega,fun q hq=>F7 q (by rw [Jt];exact List.mem_cons_of_mem _ (iZ hz hq))⟩
 rw [prT,←List.append_assoc] at hV;refine ⟨?_,?_,?_,?_,?_⟩
 ·show Xg [.ref 90000 0] (Uu ⟨e,i,l⟩);rw [Jm];simp [Xg,Jp,Obj.tied,Zr,keptAll,AV.kept,Zq,Jv,lk]
 ·show Zr (Uu ⟨e,i,l⟩);rw [Jm];simp [Zr]
 ·rw [Jc];show Xg [] (Uu ⟨e,J,V⟩);rw [Jm];simp [Xg,Jp,Obj.tied,Zr,keptAll,AV.kept,Zq,Jv,lk]
 ·rw [Jc];show (Uu ⟨e,i,l⟩).length≤(Uu ⟨e,J,V⟩).length;rw [Jm,Jm];simp
 show U6 Kx c (V5 _ _ (Uu ⟨e,i,l⟩).length (.tup []) ((Xv (n+1)).post (⟨e,i,l⟩,mk p ks))) ⟨[.ref 90000 0]++Vf 167,Zq (Uu ⟨e,i,l⟩)⟩;rw [Jc];show U6 _ c (V5 _ _ (Uu ⟨e,i,l⟩).length (.tup []) (Uu ⟨e,J,V⟩)) _;rw [Jm,Jm];have Zh6:(([]:List UInt8)==[])=true:=rfl;obtain ⟨pk,lb,nm,bd,pm,pq,pt,pu⟩:=p;obtain ⟨⟨V7,Yr⟩,Ni,Ut,H6,Yq,Wo,Yp,U4⟩:=Qea;simp only at V7 Yr Ni Ut H6 Yq Wo Yp U4;obtain ⟨T1,Q3⟩:=exq (eE pt);obtain ⟨U1,Ji⟩:=exq (eE pu);obtain ⟨l1,Mn⟩:=exq (l++kU ⟨pk,lb,nm,bd,pm,pq,pt,pu⟩);rw [Mn] at hV;have Hj:=Yi hV Z8;have Qx:(i:Int)+1=((i+1:Nat):Int):=by omega
 have Yg:pk=0∨pk=1∨pk=2∨pk=3∨pk=4∨pk=5∨pk=6∨pk=7∨pk=8∨pk=9∨pk=10∨pk=11∨pk=12∨pk=13∨pk=14:=by omega
 by_cases Ug:lb=[]∨pk=8
 ·rw [tK Ug,List.append_nil] at Mn;subst Mn;by_cases h8:pk=8
  ·subst h8;have Q2:(lb==[])=false:=by rw [Za];exact Yq rfl
   clear Yg;have U5:Xz ⟨8,lb,nm,bd,pm,pq,pt,pu⟩=[lb,[32],bd,[32,45,62,32],[]]:=by simp [Xz]
   have Q6:ks.length=1:=by rw [Wa];simp [Xj,Qu]
   have X8:=H6 (by simp)
   have Y7:=Yq rfl;rw [show Q5 ⟨8,lb,nm,bd,pm,pq,pt,pu⟩ (prTs ks)=Jf [lb,[32],bd,[32,45,62,32],[]] (prTs ks) by rw [←U5];simp [Q5]] at hV
   have U7:(Zs n).ok (⟨e,i+1,l⟩,[lb,[32],bd,[32,45,62,32],[]],ks):=X0 he Xs Jy (by rw [Q6];simp [Vg,X8,Y7]) (by simp) hV Z8
   have Ql:=Q8 (n:=n) (a:=⟨e,i+1,l⟩) Gn hV
   ((try clear hV);(try clear Wa);(try clear Q6);(try clear U5);(try clear Xm);(try clear X8);(try clear Y7);(try clear Y1);(try clear Ge);(try clear Z8);(try clear Hj);(try clear hJ);(try clear Gn);(try clear hy);(try clear C1);(try clear J8);(try clear R5);(try clear F7);(try clear Xs);(try clear Jy);(try clear Jc);(try clear Ut);(try clear H6);(try clear Yq);(try clear Wo);(try clear Yp);(try clear U4);(try clear Ni);(try clear V7);(try clear Yr);(try clear Yg);(try clear Ug);(try clear lV2);(try clear lV1);(try clear K8);(try clear H8);(try clear S0);(try clear Da);(try clear R6);(try clear C9);(try clear Bc);(try clear Lz);(try clear Gb);(try clear K6);(try clear K7);(try clear Sv);(try clear Gm);(try clear Mn);(try clear M9);(try clear Mg))
   cases hc;refine Ym 10 ?_;have Xr:=Kt;have eV:=Kt;have kB:=Kt;have Kq:Kex:=⟨⟩;exact rT
  have Q2:(lb==[])=true:=by
   rcases Ug with h|h
   ·rw [h];rfl
   ·exact absurd h h8
  have Yg:pk=0∨pk=1∨pk=2∨pk=3∨pk=4∨pk=5∨pk=6∨pk=7∨pk=9∨pk=10∨pk=11∨pk=12∨pk=13∨pk=14:=by omega
  rcases Yg with rfl|rfl|rfl|rfl|rfl|rfl|rfl|rfl|rfl|rfl|rfl|rfl|rfl|rfl
  ·obtain ⟨Qd1,Qd7,vP⟩:=Ni rfl;have Q6:ks=[]:=List.length_eq_zero_iff.1 (by rw [Wa];simp [Xj,Qu])
   subst Q6;rw [show Q5 ⟨0,lb,nm,bd,pm,pq,pt,pu⟩ (prTs [])=D2 ⟨0,lb,nm,bd,pm,pq,pt,pu⟩ by simp [Q5]] at hV
   simp only [ndss,List.length_nil,Nat.add_zero] at Gn;subst Gn;have U7:K4.ok (⟨e,i+1,l⟩,⟨0,lb,nm,bd,pm,pq,pt,pu⟩):=⟨Qd1,Qd7,vP,by show (l++D2 _).length≤_;rw [hV];exact Z8⟩
   have Ql:=bB (a:=⟨e,i+1,l⟩) hV
   ((try clear hV);(try clear Wa);(try clear Q6);(try clear U5);(try clear Xm);(try clear X8);(try clear Y7);(try clear Y1);(try clear Ge);(try clear Z8);(try clear Hj);(try clear hJ);(try clear Gn);(try clear hy);(try clear C1);(try clear J8);(try clear R5);(try clear F7);(try clear Xs);(try clear Jy);(try clear Jc);(try clear Ut);(try clear H6);(try clear Yq);(try clear Wo);(try clear Yp);(try clear U4);(try clear Ni);(try clear V7);(try clear Yr);(try clear Yg);(try clear Ug);(try clear lV2);(try clear lV1);(try clear K8);(try clear H8);(try clear S0);(try clear Da);(try clear R6);(try clear C9);(try clear Bc);(try clear Lz);(try clear Gb);(try clear K6);(try clear K7);(try clear Sv);(try clear Gm);(try clear Mn);(try clear M9);(try clear Mg))
   cases hc;refine Ym 10 ?_;have Xr:=Kt;have eV:=Kt;have kB:=Kt;have Kq:Kez:=⟨⟩;exact rT
  ·have U5:Xz ⟨1,lb,nm,bd,pm,pq,pt,pu⟩=[nm]:=by simp [Xz]
   have Q6:ks.length=0:=by rw [Wa];simp [Xj,Qu]
   have Xm:=Ut (by simp)
   rw [show Q5 ⟨1,lb,nm,bd,pm,pq,pt,pu⟩ (prTs ks)=Jf [nm] (prTs ks) by rw [←U5];simp [Q5]] at hV
   have U7:(Zs n).ok (⟨e,i+1,l⟩,[nm],ks):=X0 he Xs Jy (by rw [Q6];simp [Vg,Xm]) (by simp) hV Z8
   have Ql:=Q8 (n:=n) (a:=⟨e,i+1,l⟩) Gn hV
   ((try clear hV);(try clear Wa);(try clear Q6);(try clear U5);(try clear Xm);(try clear X8);(try clear Y7);(try clear Y1);(try clear Ge);(try clear Z8);(try clear Hj);(try clear hJ);(try clear Gn);(try clear hy);(try clear C1);(try clear J8);(try clear R5);(try clear F7);(try clear Xs);(try clear Jy);(try clear Jc);(try clear Ut);(try clear H6);(try clear Yq);(try clear Wo);(try clear Yp);(try clear U4);(try clear Ni);(try clear V7);(try clear Yr);(try clear Yg);(try clear Ug);(try clear lV2);(try clear lV1);(try clear K8);(try clear H8);(try clear S0);(try clear Da);(try clear R6);(try clear C9);(try clear Bc);(try clear Lz);(try clear Gb);(try clear K6);(try clear K7);(try clear Sv);(try clear Gm);(try clear Mn);(try clear M9);(try clear Mg))
   cases hc;refine Ym 10 ?_;have Xr:=Kt;have eV:=Kt;have kB:=Kt;have Kq:KeB:=⟨⟩;exact rT
  ·have U5:Xz ⟨2,lb,nm,bd,pm,pq,pt,pu⟩=[[40,102,117,110,32,40],bd,[58,32],T1,[41,32,45,62,32],[],[41]]:=by simp [Xz,Q3]
   have Q6:ks.length=1:=by rw [Wa];simp [Xj,Qu]
   have X8:=H6 (by simp)
   have Wj:=Wo (by simp)
   have Y1:=Wz Wj;rw [Q3] at Y1;rw [show Q5 ⟨2,lb,nm,bd,pm,pq,pt,pu⟩ (prTs ks)=Jf [[40,102,117,110,32,40],bd,[58,32],T1,[41,32,45,62,32],[],[41]] (prTs ks) by rw [←U5];simp [Q5]] at hV
   have U7:(Zs n).ok (⟨e,i+1,l⟩,[[40,102,117,110,32,40],bd,[58,32],T1,[41,32,45,62,32],[],[41]],ks):=X0 he Xs Jy (by rw [Q6];simp [Vg,X8,Y1]) (by simp) hV Z8
   have Ql:=Q8 (n:=n) (a:=⟨e,i+1,l⟩) Gn hV
   ((try clear hV);(try clear Wa);(try clear Q6);(try clear U5);(try clear Xm);(try clear X8);(try clear Y7);(try clear Y1);(try clear Ge);(try clear Z8);(try clear Hj);(try clear hJ);(try clear Gn);(try clear hy);(try clear C1);(try clear J8);(try clear R5);(try clear F7);(try clear Xs);(try clear Jy);(try clear Jc);(try clear Ut);(try clear H6);(try clear Yq);(try clear Wo);(try clear Yp);(try clear U4);(try clear Ni);(try clear V7);(try clear Yr);(try clear Yg);(try clear Ug);(try clear lV2);(try clear lV1);(try clear K8);(try clear H8);(try clear S0);(try clear Da);(try clear R6);(try clear C9);(try clear Bc);(try clear Lz);(try clear Gb);(try clear K6);(try clear K7);(try clear Sv);(try clear Gm);(try clear Mn);(try clear M9);(try clear Mg))
   cases hc;refine Ym 10 ?_;have Xr:=Kt;have eV:=Kt;have kB:=Kt;have Kq:KeD:=⟨⟩;exact rT
  ·have U5:Xz ⟨3,lb,nm,bd,pm,pq,pt,pu⟩=[[40],[],[32],[],[41]]:=by simp [Xz]
   have Q6:ks.length=2:=by rw [Wa];simp [Xj,Qu]
   rw [show Q5 ⟨3,lb,nm,bd,pm,pq,pt,pu⟩ (prTs ks)=Jf [[40],[],[32],[],[41]] (prTs ks) by rw [←U5];simp [Q5]] at hV
   have U7:(Zs n).ok (⟨e,i+1,l⟩,[[40],[],[32],[],[41]],ks):=X0 he Xs Jy (by rw [Q6];simp [Vg]) (by simp) hV Z8
   have Ql:=Q8 (n:=n) (a:=⟨e,i+1,l⟩) Gn hV
   ((try clear hV);(try clear Wa);(try clear Q6);(try clear U5);(try clear Xm);(try clear X8);(try clear Y7);(try clear Y1);(try clear Ge);(try clear Z8);(try clear Hj);(try clear hJ);(try clear Gn);(try clear hy);(try clear C1);(try clear J8);(try clear R5);(try clear F7);(try clear Xs);(try clear Jy);(try clear Jc);(try clear Ut);(try clear H6);(try clear Yq);(try clear Wo);(try clear Yp);(try clear U4);(try clear Ni);(try clear V7);(try clear Yr);(try clear Yg);(try clear Ug);(try clear lV2);(try clear lV1);(try clear K8);(try clear H8);(try clear S0);(try clear Da);(try clear R6);(try clear C9);(try clear Bc);(try clear Lz);(try clear Gb);(try clear K6);(try clear K7);(try clear Sv);(try clear Gm);(try clear Mn);(try clear M9);(try clear Mg))
   cases hc;refine Ym 10 ?_;have Xr:=Kt;have eV:=Kt;have kB:=Kt;have Kq:KeF:=⟨⟩;exact rT
  ·have U5:Xz ⟨4,lb,nm,bd,pm,pq,pt,pu⟩=[[40,108,101,116,32],bd,[58,32],T1,[32,61,32],[],[32,105,110,32],[],[41]]:=by simp [Xz,Q3]
   have Q6:ks.length=2:=by rw [Wa];simp [Xj,Qu]
   have X8:=H6 (by simp)
   have Wj:=Wo (by simp)
   have Y1:=Wz Wj;rw [Q3] at Y1;rw [show Q5 ⟨4,lb,nm,bd,pm,pq,pt,pu⟩ (prTs ks)=Jf [[40,108,101,116,32],bd,[58,32],T1,[32,61,32],[],[32,105,110,32],[],[41]] (prTs ks) by rw [←U5];simp [Q5]] at hV
   have U7:(Zs n).ok (⟨e,i+1,l⟩,[[40,108,101,116,32],bd,[58,32],T1,[32,61,32],[],[32,105,110,32],[],[41]],ks):=X0 he Xs Jy (by rw [Q6];simp [Vg,X8,Y1]) (by simp) hV Z8
   have Ql:=Q8 (n:=n) (a:=⟨e,i+1,l⟩) Gn hV
   ((try clear hV);(try clear Wa);(try clear Q6);(try clear U5);(try clear Xm);(try clear X8);(try clear Y7);(try clear Y1);(try clear Ge);(try clear Z8);(try clear Hj);(try clear hJ);(try clear Gn);(try clear hy);(try clear C1);(try clear J8);(try clear R5);(try clear F7);(try clear Xs);(try clear Jy);(try clear Jc);(try clear Ut);(try clear H6);(try clear Yq);(try clear Wo);(try clear Yp);(try clear U4);(try clear Ni);(try clear V7);(try clear Yr);(try clear Yg);(try clear Ug);(try clear lV2);(try clear lV1);(try clear K8);(try clear H8);(try clear S0);(try clear Da);(try clear R6);(try clear C9);(try clear Bc);(try clear Lz);(try clear Gb);(try clear K6);(try clear K7);(try clear Sv);(try clear Gm);(try clear Mn);(try clear M9);(try clear Mg))
   cases hc;refine Ym 10 ?_;have Xr:=Kt;have eV:=Kt;have kB:=Kt;have Kq:KeH:=⟨⟩;exact rT
  ·have U5:Xz ⟨5,lb,nm,bd,pm,pq,pt,pu⟩=[[40,114,101,99,32],nm,[32,40],bd,[58,32],T1,[41,58,32],U1,[32,61,32],[],[32,105,110,32],[],[41]]:=by simp [Xz,Q3,Ji]
   have Q6:ks.length=2:=by rw [Wa];simp [Xj,Qu]
   have Xm:=Ut (by simp)
   have X8:=H6 (by simp)
   have Wj:=Wo (by simp)
   have Y1:=Wz Wj;rw [Q3] at Y1;have Vp:=Yp (by simp)
   have Ge:=Wz Vp;rw [Ji] at Ge;rw [show Q5 ⟨5,lb,nm,bd,pm,pq,pt,pu⟩ (prTs ks)=Jf [[40,114,101,99,32],nm,[32,40],bd,[58,32],T1,[41,58,32],U1,[32,61,32],[],[32,105,110,32],[],[41]] (prTs ks) by rw [←U5];simp [Q5]] at hV
   have U7:(Zs n).ok (⟨e,i+1,l⟩,[[40,114,101,99,32],nm,[32,40],bd,[58,32],T1,[41,58,32],U1,[32,61,32],[],[32,105,110,32],[],[41]],ks):=X0 he Xs Jy (by rw [Q6];simp [Vg,Xm,X8,Y1,Ge]) (by simp) hV Z8
   have Ql:=Q8 (n:=n) (a:=⟨e,i+1,l⟩) Gn hV
   ((try clear hV);(try clear Wa);(try clear Q6);(try clear U5);(try clear Xm);(try clear X8);(try clear Y7);(try clear Y1);(try clear Ge);(try clear Z8);(try clear Hj);(try clear hJ);(try clear Gn);(try clear hy);(try clear C1);(try clear J8);(try clear R5);(try clear F7);(try clear Xs);(try clear Jy);(try clear Jc);(try clear Ut);(try clear H6);(try clear Yq);(try clear Wo);(try clear Yp);(try clear U4);(try clear Ni);(try clear V7);(try clear Yr);(try clear Yg);(try clear Ug);(try clear lV2);(try clear lV1);(try clear K8);(try clear H8);(try clear S0);(try clear Da);(try clear R6);(try clear C9);(try clear Bc);(try clear Lz);(try clear Gb);(try clear K6);(try clear K7);(try clear Sv);(try clear Gm);(try clear Mn);(try clear M9);(try clear Mg))
   cases hc;refine Ym 10 ?_;have Xr:=Kt;have eV:=Kt;have kB:=Kt;have Kq:KeJ:=⟨⟩;exact rT
  ·have U5:Xz ⟨6,lb,nm,bd,pm,pq,pt,pu⟩=[[40,105,102,32],[],[32,116,104,101,110,32],[],[32,101,108,115,101,32],[],[41]]:=by simp [Xz]
   have Q6:ks.length=3:=by rw [Wa];simp [Xj,Qu]
   rw [show Q5 ⟨6,lb,nm,bd,pm,pq,pt,pu⟩ (prTs ks)=Jf [[40,105,102,32],[],[32,116,104,101,110,32],[],[32,101,108,115,101,32],[],[41]] (prTs ks) by rw [←U5];simp [Q5]] at hV
   have U7:(Zs n).ok (⟨e,i+1,l⟩,[[40,105,102,32],[],[32,116,104,101,110,32],[],[32,101,108,115,101,32],[],[41]],ks):=X0 he Xs Jy (by rw [Q6];simp [Vg]) (by simp) hV Z8
   have Ql:=Q8 (n:=n) (a:=⟨e,i+1,l⟩) Gn hV
   ((try clear hV);(try clear Wa);(try clear Q6);(try clear U5);(try clear Xm);(try clear X8);(try clear Y7);(try clear Y1);(try clear Ge);(try clear Z8);(try clear Hj);(try clear hJ);(try clear Gn);(try clear hy);(try clear C1);(try clear J8);(try clear R5);(try clear F7);(try clear Xs);(try clear Jy);(try clear Jc);(try clear Ut);(try clear H6);(try clear Yq);(try clear Wo);(try clear Yp);(try clear U4);(try clear Ni);(try clear V7);(try clear Yr);(try clear Yg);(try clear Ug);(try clear lV2);(try clear lV1);(try clear K8);(try clear H8);(try clear S0);(try clear Da);(try clear R6);(try clear C9);(try clear Bc);(try clear Lz);(try clear Gb);(try clear K6);(try clear K7);(try clear Sv);(try clear Gm);(try clear Mn);(try clear M9);(try clear Mg))
   cases hc;refine Ym 10 ?_;have Xr:=Kt;have eV:=Kt;have kB:=Kt;have Kq:KeL:=⟨⟩;exact rT
  ·have Sv:=U4 (by simp)
   have Zkm:Qu ⟨7,lb,nm,bd,pm,pq,pt,pu⟩=pm+1:=by
    have h1:Mt pm 0=pm:=by unfold Mt;split<;>omega
    simp [Qu,h1]
   obtain ⟨k0,kr,rfl⟩:∃ k0 kr,ks=k0::kr:=by
    cases ks with
    | nil =>
     have h1:=Yu ⟨7,lb,nm,bd,pm,pq,pt,pu⟩;rw [Zkm,←Wa] at h1;simp only [List.length_nil] at h1;omega
    | cons k0 kr=>exact ⟨k0,kr,rfl⟩
   have Q6:pm=(kr.length:Int):=by
    have h1:=Yu ⟨7,lb,nm,bd,pm,pq,pt,pu⟩;rw [Zkm,←Wa,Zd] at h1;omega
   clear Zkm;have Mg:kr.length≤1000000:=by omega
   subst Q6;have Bc:∀ z∈[k0],(nds z).length<n∧∀ q∈nds z,fB q:=fun z hz=>Jy z (by rw [Qy] at hz;subst hz;exact List.mem_cons_self ..)
   have Lz:∀ z∈kr,(nds z).length<n∧∀ q∈nds z,fB q:=fun z hz=>Jy z (List.mem_cons_of_mem _ hz);obtain ⟨K7,K6⟩:=Xs.head;have Gb:Ss Xj e (i+1) [k0]:=⟨⟨K7.1,trivial⟩,by
    obtain ⟨r,hr⟩:=K7.2;exact ⟨r,by rw [hr];simp [ndss]⟩⟩
   obtain ⟨j1,A0⟩:=exq (i+1+(nds k0).length);rw [A0] at K6;have Da:i+1+(ndss [k0]).length=j1:=by rw [←A0];simp [ndss]
   have R6:j1+(ndss kr).length=J:=by rw [ndss,Zb] at Gn;omega
   rw [show Q5 ⟨7,lb,nm,bd,(kr.length:Int),pq,pt,pu⟩ (prTs (k0::kr))=Jf [[40,99,97,115,101,32],[],[32,111,102,32]] (prTs [k0])++(W8 [32,124,32] true (prTs kr)++[32,101,110,100,41]) by simp [Q5,prTs,Jf]] at hV
   rw [←List.append_assoc] at hV;obtain ⟨V1,K8⟩:=exq (l++Jf [[40,99,97,115,101,32],[],[32,111,102,32]] (prTs [k0]));rw [K8,←List.append_assoc] at hV;obtain ⟨V2,H8⟩:=exq (V1++W8 [32,124,32] true (prTs kr));rw [H8] at hV;have lV2:=Yi hV Z8;have lV1:=Yi H8 lV2;have S0:V2++Jf [[32,101,110,100,41]] (prTs [])=V:=by rw [←hV,I0 (by simp)]
   have C9:J+(ndss ([]:List (Rose Part))).length=J:=by simp [ndss]
   have U7:(Zs n).ok (⟨e,i+1,l⟩,[[40,99,97,115,101,32],[],[32,111,102,32]],[k0]):=X0 he Gb Bc (by simp [Vg]) (by simp) K8 lV1
   have Ql:=Q8 (n:=n) (a:=⟨e,i+1,l⟩) Da K8;have St:(Wy n).ok (⟨e,j1,V1⟩,[32,124,32],kr):=pX he K6 Lz Mg H8 lV2;have Jl:=L5 (n:=n) (a:=⟨e,j1,V1⟩) R6 H8;have Eu:(Zs n).ok (⟨e,J,V2⟩,[[32,101,110,100,41]],[]):=X0 he Ch (fun z hz=>by simp at hz) (by simp [Vg]) (by simp) S0 Z8
   have Js:=Q8 (n:=n) (a:=⟨e,J,V2⟩) C9 S0
   ((try clear hV);(try clear Wa);(try clear Q6);(try clear U5);(try clear Xm);(try clear X8);(try clear Y7);(try clear Y1);(try clear Ge);(try clear Z8);(try clear Hj);(try clear hJ);(try clear Gn);(try clear hy);(try clear C1);(try clear J8);(try clear R5);(try clear F7);(try clear Xs);(try clear Jy);(try clear Jc);(try clear Ut);(try clear H6);(try clear Yq);(try clear Wo);(try clear Yp);(try clear U4);(try clear Ni);(try clear V7);(try clear Yr);(try clear Yg);(try clear Ug);(try clear lV2);(try clear lV1);(try clear K8);(try clear H8);(try clear S0);(try clear Da);(try clear R6);(try clear C9);(try clear Bc);(try clear Lz);(try clear Gb);(try clear K6);(try clear K7);(try clear Sv);(try clear Gm);(try clear Mn);(try clear M9);(try clear Mg))
   cases hc;refine Ym 10 ?_;have Xr:=Kt;have eV:=Kt;have kB:=Kt;have Kq:KeN:=⟨⟩;exact rT
  ·have U5:Xz ⟨9,lb,nm,bd,pm,pq,pt,pu⟩=[[40],[],[32],nm,[32],[],[41]]:=by simp [Xz]
   have Q6:ks.length=2:=by rw [Wa];simp [Xj,Qu]
   have Xm:=Ut (by simp)
   rw [show Q5 ⟨9,lb,nm,bd,pm,pq,pt,pu⟩ (prTs ks)=Jf [[40],[],[32],nm,[32],[],[41]] (prTs ks) by rw [←U5];simp [Q5]] at hV
   have U7:(Zs n).ok (⟨e,i+1,l⟩,[[40],[],[32],nm,[32],[],[41]],ks):=X0 he Xs Jy (by rw [Q6];simp [Vg,Xm]) (by simp) hV Z8
   have Ql:=Q8 (n:=n) (a:=⟨e,i+1,l⟩) Gn hV
   ((try clear hV);(try clear Wa);(try clear Q6);(try clear U5);(try clear Xm);(try clear X8);(try clear Y7);(try clear Y1);(try clear Ge);(try clear Z8);(try clear Hj);(try clear hJ);(try clear Gn);(try clear hy);(try clear C1);(try clear J8);(try clear R5);(try clear F7);(try clear Xs);(try clear Jy);(try clear Jc);(try clear Ut);(try clear H6);(try clear Yq);(try clear Wo);(try clear Yp);(try clear U4);(try clear Ni);(try clear V7);(try clear Yr);(try clear Yg);(try clear Ug);(try clear lV2);(try clear lV1);(try clear K8);(try clear H8);(try clear S0);(try clear Da);(try clear R6);(try clear C9);(try clear Bc);(try clear Lz);(try clear Gb);(try clear K6);(try clear K7);(try clear Sv);(try clear Gm);(try clear Mn);(try clear M9);(try clear Mg))
   cases hc;refine Ym 10 ?_;have Xr:=Kt;have eV:=Kt;have kB:=Kt;have Kq:KeR:=⟨⟩;exact rT
  ·have Sv:=U4 (by simp)
   have Q6:pm=(ks.length:Int):=by
    have h1:Mt pm 0=pm:=by unfold Mt;split<;>omega
    have h2:Qu ⟨10,lb,nm,bd,pm,pq,pt,pu⟩=pm:=by simp [Qu,h1]
    have h3:=Yu ⟨10,lb,nm,bd,pm,pq,pt,pu⟩;rw [h2,←Wa] at h3;exact h3
   have Mg:ks.length≤1000000:=by omega
   subst Q6;rw [show Q5 ⟨10,lb,nm,bd,(ks.length:Int),pq,pt,pu⟩ (prTs ks)=Jf [[123]] (prTs [])++(W8 [44,32] true (prTs ks)++[125]) by simp [Q5,prTs,Jf]] at hV
   rw [←List.append_assoc] at hV;obtain ⟨V1,K8⟩:=exq (l++Jf [[123]] (prTs []));rw [K8,←List.append_assoc] at hV;obtain ⟨V2,H8⟩:=exq (V1++W8 [44,32] true (prTs ks));rw [H8] at hV;have Da:i+1+(ndss ([]:List (Rose Part))).length=i+1:=by simp [ndss]
   have lV2:=Yi hV Z8;have lV1:=Yi H8 lV2;have S0:V2++Jf [[125]] (prTs [])=V:=by rw [←hV,I0 (by simp)]
   have C9:J+(ndss ([]:List (Rose Part))).length=J:=by simp [ndss]
   have U7:(Zs n).ok (⟨e,i+1,l⟩,[[123]],[]):=X0 he Ch (fun z hz=>by simp at hz) (by simp [Vg]) (by simp) K8 lV1
   have Ql:=Q8 (n:=n) (a:=⟨e,i+1,l⟩) Da K8;have St:(Wy n).ok (⟨e,(i+1),V1⟩,[44,32],ks):=pX he Xs Jy Mg H8 lV2;have Jl:=L5 (n:=n) (a:=⟨e,(i+1),V1⟩) Gn H8;have Eu:(Zs n).ok (⟨e,J,V2⟩,[[125]],[]):=X0 he Ch (fun z hz=>by simp at hz) (by simp [Vg]) (by simp) S0 Z8
   have Js:=Q8 (n:=n) (a:=⟨e,J,V2⟩) C9 S0
   ((try clear hV);(try clear Wa);(try clear Q6);(try clear U5);(try clear Xm);(try clear X8);(try clear Y7);(try clear Y1);(try clear Ge);(try clear Z8);(try clear Hj);(try clear hJ);(try clear Gn);(try clear hy);(try clear C1);(try clear J8);(try clear R5);(try clear F7);(try clear Xs);(try clear Jy);(try clear Jc);(try clear Ut);(try clear H6);(try clear Yq);(try clear Wo);(try clear Yp);(try clear U4);(try clear Ni);(try clear V7);(try clear Yr);(try clear Yg);(try clear Ug);(try clear lV2);(try clear lV1);(try clear K8);(try clear H8);(try clear S0);(try clear Da);(try clear R6);(try clear C9);(try clear Bc);(try clear Lz);(try clear Gb);(try clear K6);(try clear K7);(try clear Sv);(try clear Gm);(try clear Mn);(try clear M9);(try clear Mg))
   cases hc;refine Ym 10 ?_;have Xr:=Kt;have eV:=Kt;have kB:=Kt;have Kq:KeT:=⟨⟩;exact rT
  ·have U5:Xz ⟨11,lb,nm,bd,pm,pq,pt,pu⟩=[[],[46],nm]:=by simp [Xz]
   have Q6:ks.length=1:=by rw [Wa];simp [Xj,Qu]
   have Xm:=Ut (by simp)
   rw [show Q5 ⟨11,lb,nm,bd,pm,pq,pt,pu⟩ (prTs ks)=Jf [[],[46],nm] (prTs ks) by rw [←U5];simp [Q5]] at hV
   have U7:(Zs n).ok (⟨e,i+1,l⟩,[[],[46],nm],ks):=X0 he Xs Jy (by rw [Q6];simp [Vg,Xm]) (by simp) hV Z8
   have Ql:=Q8 (n:=n) (a:=⟨e,i+1,l⟩) Gn hV
   ((try clear hV);(try clear Wa);(try clear Q6);(try clear U5);(try clear Xm);(try clear X8);(try clear Y7);(try clear Y1);(try clear Ge);(try clear Z8);(try clear Hj);(try clear hJ);(try clear Gn);(try clear hy);(try clear C1);(try clear J8);(try clear R5);(try clear F7);(try clear Xs);(try clear Jy);(try clear Jc);(try clear Ut);(try clear H6);(try clear Yq);(try clear Wo);(try clear Yp);(try clear U4);(try clear Ni);(try clear V7);(try clear Yr);(try clear Yg);(try clear Ug);(try clear lV2);(try clear lV1);(try clear K8);(try clear H8);(try clear S0);(try clear Da);(try clear R6);(try clear C9);(try clear Bc);(try clear Lz);(try clear Gb);(try clear K6);(try clear K7);(try clear Sv);(try clear Gm);(try clear Mn);(try clear M9);(try clear Mg))
   cases hc;refine Ym 10 ?_;have Xr:=Kt;have eV:=Kt;have kB:=Kt;have Kq:KeX:=⟨⟩;exact rT
  ·have U5:Xz ⟨12,lb,nm,bd,pm,pq,pt,pu⟩=[[91],nm,[32,61,32],[],[58,32],T1,[93]]:=by simp [Xz,Q3]
   have Q6:ks.length=1:=by rw [Wa];simp [Xj,Qu]
   have Xm:=Ut (by simp)
   have Wj:=Wo (by simp)
   have Y1:=Wz Wj;rw [Q3] at Y1;rw [show Q5 ⟨12,lb,nm,bd,pm,pq,pt,pu⟩ (prTs ks)=Jf [[91],nm,[32,61,32],[],[58,32],T1,[93]] (prTs ks) by rw [←U5];simp [Q5]] at hV
   have U7:(Zs n).ok (⟨e,i+1,l⟩,[[91],nm,[32,61,32],[],[58,32],T1,[93]],ks):=X0 he Xs Jy (by rw [Q6];simp [Vg,Xm,Y1]) (by simp) hV Z8
   have Ql:=Q8 (n:=n) (a:=⟨e,i+1,l⟩) Gn hV
   ((try clear hV);(try clear Wa);(try clear Q6);(try clear U5);(try clear Xm);(try clear X8);(try clear Y7);(try clear Y1);(try clear Ge);(try clear Z8);(try clear Hj);(try clear hJ);(try clear Gn);(try clear hy);(try clear C1);(try clear J8);(try clear R5);(try clear F7);(try clear Xs);(try clear Jy);(try clear Jc);(try clear Ut);(try clear H6);(try clear Yq);(try clear Wo);(try clear Yp);(try clear U4);(try clear Ni);(try clear V7);(try clear Yr);(try clear Yg);(try clear Ug);(try clear lV2);(try clear lV1);(try clear K8);(try clear H8);(try clear S0);(try clear Da);(try clear R6);(try clear C9);(try clear Bc);(try clear Lz);(try clear Gb);(try clear K6);(try clear K7);(try clear Sv);(try clear Gm);(try clear Mn);(try clear M9);(try clear Mg))
   cases hc;refine Ym 10 ?_;have Xr:=Kt;have eV:=Kt;have kB:=Kt;have Kq:KeZ:=⟨⟩;exact rT
  ·have U5:Xz ⟨13,lb,nm,bd,pm,pq,pt,pu⟩=[[40],[],[58,32],T1,[41]]:=by simp [Xz,Q3]
   have Q6:ks.length=1:=by rw [Wa];simp [Xj,Qu]
   have Wj:=Wo (by simp)
   have Y1:=Wz Wj;rw [Q3] at Y1;rw [show Q5 ⟨13,lb,nm,bd,pm,pq,pt,pu⟩ (prTs ks)=Jf [[40],[],[58,32],T1,[41]] (prTs ks) by rw [←U5];simp [Q5]] at hV
   have U7:(Zs n).ok (⟨e,i+1,l⟩,[[40],[],[58,32],T1,[41]],ks):=X0 he Xs Jy (by rw [Q6];simp [Vg,Y1]) (by simp) hV Z8
   have Ql:=Q8 (n:=n) (a:=⟨e,i+1,l⟩) Gn hV
   ((try clear hV);(try clear Wa);(try clear Q6);(try clear U5);(try clear Xm);(try clear X8);(try clear Y7);(try clear Y1);(try clear Ge);(try clear Z8);(try clear Hj);(try clear hJ);(try clear Gn);(try clear hy);(try clear C1);(try clear J8);(try clear R5);(try clear F7);(try clear Xs);(try clear Jy);(try clear Jc);(try clear Ut);(try clear H6);(try clear Yq);(try clear Wo);(try clear Yp);(try clear U4);(try clear Ni);(try clear V7);(try clear Yr);(try clear Yg);(try clear Ug);(try clear lV2);(try clear lV1);(try clear K8);(try clear H8);(try clear S0);(try clear Da);(try clear R6);(try clear C9);(try clear Bc);(try clear Lz);(try clear Gb);(try clear K6);(try clear K7);(try clear Sv);(try clear Gm);(try clear Mn);(try clear M9);(try clear Mg))
   cases hc;refine Ym 10 ?_;have Xr:=Kt;have eV:=Kt;have kB:=Kt;have Kq:Kfb:=⟨⟩;exact rT
  ·have U5:Xz ⟨14,lb,nm,bd,pm,pq,pt,pu⟩=[[60],[],[58,32],T1,[32,61,62,32],U1,[62]]:=by simp [Xz,Q3,Ji]
   have Q6:ks.length=1:=by rw [Wa];simp [Xj,Qu]
   have Wj:=Wo (by simp)
   have Y1:=Wz Wj;rw [Q3] at Y1;have Vp:=Yp (by simp)
   have Ge:=Wz Vp;rw [Ji] at Ge;rw [show Q5 ⟨14,lb,nm,bd,pm,pq,pt,pu⟩ (prTs ks)=Jf [[60],[],[58,32],T1,[32,61,62,32],U1,[62]] (prTs ks) by rw [←U5];simp [Q5]] at hV
   have U7:(Zs n).ok (⟨e,i+1,l⟩,[[60],[],[58,32],T1,[32,61,62,32],U1,[62]],ks):=X0 he Xs Jy (by rw [Q6];simp [Vg,Y1,Ge]) (by simp) hV Z8
   have Ql:=Q8 (n:=n) (a:=⟨e,i+1,l⟩) Gn hV
   ((try clear hV);(try clear Wa);(try clear Q6);(try clear U5);(try clear Xm);(try clear X8);(try clear Y7);(try clear Y1);(try clear Ge);(try clear Z8);(try clear Hj);(try clear hJ);(try clear Gn);(try clear hy);(try clear C1);(try clear J8);(try clear R5);(try clear F7);(try clear Xs);(try clear Jy);(try clear Jc);(try clear Ut);(try clear H6);(try clear Yq);(try clear Wo);(try clear Yp);(try clear U4);(try clear Ni);(try clear V7);(try clear Yr);(try clear Yg);(try clear Ug);(try clear lV2);(try clear lV1);(try clear K8);(try clear H8);(try clear S0);(try clear Da);(try clear R6);(try clear C9);(try clear Bc);(try clear Lz);(try clear Gb);(try clear K6);(try clear K7);(try clear Sv);(try clear Gm);(try clear Mn);(try clear M9);(try clear Mg))
   cases hc;refine Ym 10 ?_;have Xr:=Kt;have eV:=Kt;have kB:=Kt;have Kq:Kfd:=⟨⟩;exact rT
 ·have Gm:lb≠[]:=fun h=>Ug (.inl h);have Q2:(lb==[])=false:=by rw [Za];exact Gm
  rw [tW Ug] at Mn;simp only at Mn;have M9:l++Jf [lb,[32,61,32]] (prTs [])=l1:=by rw [←Mn,Ai Gm,I0 (by simp)]
  have zZ:(Zs n).ok (⟨e,i+1,l⟩,[lb,[32,61,32]],[]):=X0 he Ch (fun z hz=>by simp at hz) (by simp [Vg,Gm]) (by simp) M9 Hj
  have Jk:=Q8 (n:=n) (a:=⟨e,i+1,l⟩) (show i+1+(ndss ([]:List (Rose Part))).length=i+1 by simp [ndss]) M9
  rcases Yg with rfl|rfl|rfl|rfl|rfl|rfl|rfl|rfl|rfl|rfl|rfl|rfl|rfl|rfl|rfl
  ·obtain ⟨Qd1,Qd7,vP⟩:=Ni rfl;have Q6:ks=[]:=List.length_eq_zero_iff.1 (by rw [Wa];simp [Xj,Qu])
   subst Q6;rw [show Q5 ⟨0,lb,nm,bd,pm,pq,pt,pu⟩ (prTs [])=D2 ⟨0,lb,nm,bd,pm,pq,pt,pu⟩ by simp [Q5]] at hV
   simp only [ndss,List.length_nil,Nat.add_zero] at Gn;subst Gn;have U7:K4.ok (⟨e,i+1,l1⟩,⟨0,lb,nm,bd,pm,pq,pt,pu⟩):=⟨Qd1,Qd7,vP,by show (l1++D2 _).length≤_;rw [hV];exact Z8⟩
   have Ql:=bB (a:=⟨e,i+1,l1⟩) hV
   ((try clear hV);(try clear Wa);(try clear Q6);(try clear U5);(try clear Xm);(try clear X8);(try clear Y7);(try clear Y1);(try clear Ge);(try clear Z8);(try clear Hj);(try clear hJ);(try clear Gn);(try clear hy);(try clear C1);(try clear J8);(try clear R5);(try clear F7);(try clear Xs);(try clear Jy);(try clear Jc);(try clear Ut);(try clear H6);(try clear Yq);(try clear Wo);(try clear Yp);(try clear U4);(try clear Ni);(try clear V7);(try clear Yr);(try clear Yg);(try clear Ug);(try clear lV2);(try clear lV1);(try clear K8);(try clear H8);(try clear S0);(try clear Da);(try clear R6);(try clear C9);(try clear Bc);(try clear Lz);(try clear Gb);(try clear K6);(try clear K7);(try clear Sv);(try clear Gm);(try clear Mn);(try clear M9);(try clear Mg))
   cases hc;refine Ym 10 ?_;have Xr:=Kt;have eV:=Kt;have kB:=Kt;have Kq:Kff:=⟨⟩;exact rT
  ·have U5:Xz ⟨1,lb,nm,bd,pm,pq,pt,pu⟩=[nm]:=by simp [Xz]
   have Q6:ks.length=0:=by rw [Wa];simp [Xj,Qu]
   have Xm:=Ut (by simp)
   rw [show Q5 ⟨1,lb,nm,bd,pm,pq,pt,pu⟩ (prTs ks)=Jf [nm] (prTs ks) by rw [←U5];simp [Q5]] at hV
   have U7:(Zs n).ok (⟨e,i+1,l1⟩,[nm],ks):=X0 he Xs Jy (by rw [Q6];simp [Vg,Xm]) (by simp) hV Z8
   have Ql:=Q8 (n:=n) (a:=⟨e,i+1,l1⟩) Gn hV
   ((try clear hV);(try clear Wa);(try clear Q6);(try clear U5);(try clear Xm);(try clear X8);(try clear Y7);(try clear Y1);(try clear Ge);(try clear Z8);(try clear Hj);(try clear hJ);(try clear Gn);(try clear hy);(try clear C1);(try clear J8);(try clear R5);(try clear F7);(try clear Xs);(try clear Jy);(try clear Jc);(try clear Ut);(try clear H6);(try clear Yq);(try clear Wo);(try clear Yp);(try clear U4);(try clear Ni);(try clear V7);(try clear Yr);(try clear Yg);(try clear Ug);(try clear lV2);(try clear lV1);(try clear K8);(try clear H8);(try clear S0);(try clear Da);(try clear R6);(try clear C9);(try clear Bc);(try clear Lz);(try clear Gb);(try clear K6);(try clear K7);(try clear Sv);(try clear Gm);(try clear Mn);(try clear M9);(try clear Mg))
   cases hc;refine Ym 10 ?_;have Xr:=Kt;have eV:=Kt;have kB:=Kt;have Kq:Kfi:=⟨⟩;exact rT
  ·have U5:Xz ⟨2,lb,nm,bd,pm,pq,pt,pu⟩=[[40,102,117,110,32,40],bd,[58,32],T1,[41,32,45,62,32],[],[41]]:=by simp [Xz,Q3]
   have Q6:ks.length=1:=by rw [Wa];simp [Xj,Qu]
   have X8:=H6 (by simp)
   have Wj:=Wo (by simp)
   have Y1:=Wz Wj;rw [Q3] at Y1;rw [show Q5 ⟨2,lb,nm,bd,pm,pq,pt,pu⟩ (prTs ks)=Jf [[40,102,117,110,32,40],bd,[58,32],T1,[41,32,45,62,32],[],[41]] (prTs ks) by rw [←U5];simp [Q5]] at hV
   have U7:(Zs n).ok (⟨e,i+1,l1⟩,[[40,102,117,110,32,40],bd,[58,32],T1,[41,32,45,62,32],[],[41]],ks):=X0 he Xs Jy (by rw [Q6];simp [Vg,X8,Y1]) (by simp) hV Z8
   have Ql:=Q8 (n:=n) (a:=⟨e,i+1,l1⟩) Gn hV
   ((try clear hV);(try clear Wa);(try clear Q6);(try clear U5);(try clear Xm);(try clear X8);(try clear Y7);(try clear Y1);(try clear Ge);(try clear Z8);(try clear Hj);(try clear hJ);(try clear Gn);(try clear hy);(try clear C1);(try clear J8);(try clear R5);(try clear F7);(try clear Xs);(try clear Jy);(try clear Jc);(try clear Ut);(try clear H6);(try clear Yq);(try clear Wo);(try clear Yp);(try clear U4);(try clear Ni);(try clear V7);(try clear Yr);(try clear Yg);(try clear Ug);(try clear lV2);(try clear lV1);(try clear K8);(try clear H8);(try clear S0);(try clear Da);(try clear R6);(try clear C9);(try clear Bc);(try clear Lz);(try clear Gb);(try clear K6);(try clear K7);(try clear Sv);(try clear Gm);(try clear Mn);(try clear M9);(try clear Mg))
   cases hc;refine Ym 10 ?_;have Xr:=Kt;have eV:=Kt;have kB:=Kt;have Kq:Kfl:=⟨⟩;exact rT
  ·have U5:Xz ⟨3,lb,nm,bd,pm,pq,pt,pu⟩=[[40],[],[32],[],[41]]:=by simp [Xz]
   have Q6:ks.length=2:=by rw [Wa];simp [Xj,Qu]
   rw [show Q5 ⟨3,lb,nm,bd,pm,pq,pt,pu⟩ (prTs ks)=Jf [[40],[],[32],[],[41]] (prTs ks) by rw [←U5];simp [Q5]] at hV
   have U7:(Zs n).ok (⟨e,i+1,l1⟩,[[40],[],[32],[],[41]],ks):=X0 he Xs Jy (by rw [Q6];simp [Vg]) (by simp) hV Z8
   have Ql:=Q8 (n:=n) (a:=⟨e,i+1,l1⟩) Gn hV
   ((try clear hV);(try clear Wa);(try clear Q6);(try clear U5);(try clear Xm);(try clear X8);(try clear Y7);(try clear Y1);(try clear Ge);(try clear Z8);(try clear Hj);(try clear hJ);(try clear Gn);(try clear hy);(try clear C1);(try clear J8);(try clear R5);(try clear F7);(try clear Xs);(try clear Jy);(try clear Jc);(try clear Ut);(try clear H6);(try clear Yq);(try clear Wo);(try clear Yp);(try clear U4);(try clear Ni);(try clear V7);(try clear Yr);(try clear Yg);(try clear Ug);(try clear lV2);(try clear lV1);(try clear K8);(try clear H8);(try clear S0);(try clear Da);(try clear R6);(try clear C9);(try clear Bc);(try clear Lz);(try clear Gb);(try clear K6);(try clear K7);(try clear Sv);(try clear Gm);(try clear Mn);(try clear M9);(try clear Mg))
   cases hc;refine Ym 10 ?_;have Xr:=Kt;have eV:=Kt;have kB:=Kt;have Kq:Kfo:=⟨⟩;exact rT
  ·have U5:Xz ⟨4,lb,nm,bd,pm,pq,pt,pu⟩=[[40,108,101,116,32],bd,[58,32],T1,[32,61,32],[],[32,105,110,32],[],[41]]:=by simp [Xz,Q3]
   have Q6:ks.length=2:=by rw [Wa];simp [Xj,Qu]
   have X8:=H6 (by simp)
   have Wj:=Wo (by simp)
   have Y1:=Wz Wj;rw [Q3] at Y1;rw [show Q5 ⟨4,lb,nm,bd,pm,pq,pt,pu⟩ (prTs ks)=Jf [[40,108,101,116,32],bd,[58,32],T1,[32,61,32],[],[32,105,110,32],[],[41]] (prTs ks) by rw [←U5];simp [Q5]] at hV
   have U7:(Zs n).ok (⟨e,i+1,l1⟩,[[40,108,101,116,32],bd,[58,32],T1,[32,61,32],[],[32,105,110,32],[],[41]],ks):=X0 he Xs Jy (by rw [Q6];simp [Vg,X8,Y1]) (by simp) hV Z8
   have Ql:=Q8 (n:=n) (a:=⟨e,i+1,l1⟩) Gn hV
   ((try clear hV);(try clear Wa);(try clear Q6);(try clear U5);(try clear Xm);(try clear X8);(try clear Y7);(try clear Y1);(try clear Ge);(try clear Z8);(try clear Hj);(try clear hJ);(try clear Gn);(try clear hy);(try clear C1);(try clear J8);(try clear R5);(try clear F7);(try clear Xs);(try clear Jy);(try clear Jc);(try clear Ut);(try clear H6);(try clear Yq);(try clear Wo);(try clear Yp);(try clear U4);(try clear Ni);(try clear V7);(try clear Yr);(try clear Yg);(try clear Ug);(try clear lV2);(try clear lV1);(try clear K8);(try clear H8);(try clear S0);(try clear Da);(try clear R6);(try clear C9);(try clear Bc);(try clear Lz);(try clear Gb);(try clear K6);(try clear K7);(try clear Sv);(try clear Gm);(try clear Mn);(try clear M9);(try clear Mg))
   cases hc;refine Ym 10 ?_;have Xr:=Kt;have eV:=Kt;have kB:=Kt;have Kq:Kfr:=⟨⟩;exact rT
  ·have U5:Xz ⟨5,lb,nm,bd,pm,pq,pt,pu⟩=[[40,114,101,99,32],nm,[32,40],bd,[58,32],T1,[41,58,32],U1,[32,61,32],[],[32,105,110,32],[],[41]]:=by simp [Xz,Q3,Ji]
   have Q6:ks.length=2:=by rw [Wa];simp [Xj,Qu]
   have Xm:=Ut (by simp)
   have X8:=H6 (by simp)
   have Wj:=Wo (by simp)
   have Y1:=Wz Wj;rw [Q3] at Y1;have Vp:=Yp (by simp)
   have Ge:=Wz Vp;rw [Ji] at Ge;rw [show Q5 ⟨5,lb,nm,bd,pm,pq,pt,pu⟩ (prTs ks)=Jf [[40,114,101,99,32],nm,[32,40],bd,[58,32],T1,[41,58,32],U1,[32,61,32],[],[32,105,110,32],[],[41]] (prTs ks) by rw [←U5];simp [Q5]] at hV
   have U7:(Zs n).ok (⟨e,i+1,l1⟩,[[40,114,101,99,32],nm,[32,40],bd,[58,32],T1,[41,58,32],U1,[32,61,32],[],[32,105,110,32],[],[41]],ks):=X0 he Xs Jy (by rw [Q6];simp [Vg,Xm,X8,Y1,Ge]) (by simp) hV Z8
   have Ql:=Q8 (n:=n) (a:=⟨e,i+1,l1⟩) Gn hV
   ((try clear hV);(try clear Wa);(try clear Q6);(try clear U5);(try clear Xm);(try clear X8);(try clear Y7);(try clear Y1);(try clear Ge);(try clear Z8);(try clear Hj);(try clear hJ);(try clear Gn);(try clear hy);(try clear C1);(try clear J8);(try clear R5);(try clear F7);(try clear Xs);(try clear Jy);(try clear Jc);(try clear Ut);(try clear H6);(try clear Yq);(try clear Wo);(try clear Yp);(try clear U4);(try clear Ni);(try clear V7);(try clear Yr);(try clear Yg);(try clear Ug);(try clear lV2);(try clear lV1);(try clear K8);(try clear H8);(try clear S0);(try clear Da);(try clear R6);(try clear C9);(try clear Bc);(try clear Lz);(try clear Gb);(try clear K6);(try clear K7);(try clear Sv);(try clear Gm);(try clear Mn);(try clear M9);(try clear Mg))
   cases hc;refine Ym 10 ?_;have Xr:=Kt;have eV:=Kt;have kB:=Kt;have Kq:Kfu:=⟨⟩;exact rT
  ·have U5:Xz ⟨6,lb,nm,bd,pm,pq,pt,pu⟩=[[40,105,102,32],[],[32,116,104,101,110,32],[],[32,101,108,115,101,32],[],[41]]:=by simp [Xz]
   have Q6:ks.length=3:=by rw [Wa];simp [Xj,Qu]
   rw [show Q5 ⟨6,lb,nm,bd,pm,pq,pt,pu⟩ (prTs ks)=Jf [[40,105,102,32],[],[32,116,104,101,110,32],[],[32,101,108,115,101,32],[],[41]] (prTs ks) by rw [←U5];simp [Q5]] at hV
   have U7:(Zs n).ok (⟨e,i+1,l1⟩,[[40,105,102,32],[],[32,116,104,101,110,32],[],[32,101,108,115,101,32],[],[41]],ks):=X0 he Xs Jy (by rw [Q6];simp [Vg]) (by simp) hV Z8
   have Ql:=Q8 (n:=n) (a:=⟨e,i+1,l1⟩) Gn hV
   ((try clear hV);(try clear Wa);(try clear Q6);(try clear U5);(try clear Xm);(try clear X8);(try clear Y7);(try clear Y1);(try clear Ge);(try clear Z8);(try clear Hj);(try clear hJ);(try clear Gn);(try clear hy);(try clear C1);(try clear J8);(try clear R5);(try clear F7);(try clear Xs);(try clear Jy);(try clear Jc);(try clear Ut);(try clear H6);(try clear Yq);(try clear Wo);(try clear Yp);(try clear U4);(try clear Ni);(try clear V7);(try clear Yr);(try clear Yg);(try clear Ug);(try clear lV2);(try clear lV1);(try clear K8);(try clear H8);(try clear S0);(try clear Da);(try clear R6);(try clear C9);(try clear Bc);(try clear Lz);(try clear Gb);(try clear K6);(try clear K7);(try clear Sv);(try clear Gm);(try clear Mn);(try clear M9);(try clear Mg))
   cases hc;refine Ym 10 ?_;have Xr:=Kt;have eV:=Kt;have kB:=Kt;have Kq:Kfx:=⟨⟩;exact rT
  ·have Sv:=U4 (by simp)
   have Zkm:Qu ⟨7,lb,nm,bd,pm,pq,pt,pu⟩=pm+1:=by
    have h1:Mt pm 0=pm:=by unfold Mt;split<;>omega
    simp [Qu,h1]
   obtain ⟨k0,kr,rfl⟩:∃ k0 kr,ks=k0::kr:=by
    cases ks with
    | nil =>
     have h1:=Yu ⟨7,lb,nm,bd,pm,pq,pt,pu⟩;rw [Zkm,←Wa] at h1;simp only [List.length_nil] at h1;omega
    | cons k0 kr=>exact ⟨k0,kr,rfl⟩
   have Q6:pm=(kr.length:Int):=by
    have h1:=Yu ⟨7,lb,nm,bd,pm,pq,pt,pu⟩;rw [Zkm,←Wa,Zd] at h1;omega
   clear Zkm;have Mg:kr.length≤1000000:=by omega
   subst Q6;have Bc:∀ z∈[k0],(nds z).length<n∧∀ q∈nds z,fB q:=fun z hz=>Jy z (by rw [Qy] at hz;subst hz;exact List.mem_cons_self ..)
   have Lz:∀ z∈kr,(nds z).length<n∧∀ q∈nds z,fB q:=fun z hz=>Jy z (List.mem_cons_of_mem _ hz);obtain ⟨K7,K6⟩:=Xs.head;have Gb:Ss Xj e (i+1) [k0]:=⟨⟨K7.1,trivial⟩,by
    obtain ⟨r,hr⟩:=K7.2;exact ⟨r,by rw [hr];simp [ndss]⟩⟩
   obtain ⟨j1,A0⟩:=exq (i+1+(nds k0).length);rw [A0] at K6;have Da:i+1+(ndss [k0]).length=j1:=by rw [←A0];simp [ndss]
   have R6:j1+(ndss kr).length=J:=by rw [ndss,Zb] at Gn;omega
   rw [show Q5 ⟨7,lb,nm,bd,(kr.length:Int),pq,pt,pu⟩ (prTs (k0::kr))=Jf [[40,99,97,115,101,32],[],[32,111,102,32]] (prTs [k0])++(W8 [32,124,32] true (prTs kr)++[32,101,110,100,41]) by simp [Q5,prTs,Jf]] at hV
   rw [←List.append_assoc] at hV;obtain ⟨V1,K8⟩:=exq (l1++Jf [[40,99,97,115,101,32],[],[32,111,102,32]] (prTs [k0]));rw [K8,←List.append_assoc] at hV;obtain ⟨V2,H8⟩:=exq (V1++W8 [32,124,32] true (prTs kr));rw [H8] at hV;have lV2:=Yi hV Z8;have lV1:=Yi H8 lV2;have S0:V2++Jf [[32,101,110,100,41]] (prTs [])=V:=by rw [←hV,I0 (by simp)]
   have C9:J+(ndss ([]:List (Rose Part))).length=J:=by simp [ndss]
   have U7:(Zs n).ok (⟨e,i+1,l1⟩,[[40,99,97,115,101,32],[],[32,111,102,32]],[k0]):=X0 he Gb Bc (by simp [Vg]) (by simp) K8 lV1
   have Ql:=Q8 (n:=n) (a:=⟨e,i+1,l1⟩) Da K8;have St:(Wy n).ok (⟨e,j1,V1⟩,[32,124,32],kr):=pX he K6 Lz Mg H8 lV2;have Jl:=L5 (n:=n) (a:=⟨e,j1,V1⟩) R6 H8;have Eu:(Zs n).ok (⟨e,J,V2⟩,[[32,101,110,100,41]],[]):=X0 he Ch (fun z hz=>by simp at hz) (by simp [Vg]) (by simp) S0 Z8
   have Js:=Q8 (n:=n) (a:=⟨e,J,V2⟩) C9 S0
   ((try clear hV);(try clear Wa);(try clear Q6);(try clear U5);(try clear Xm);(try clear X8);(try clear Y7);(try clear Y1);(try clear Ge);(try clear Z8);(try clear Hj);(try clear hJ);(try clear Gn);(try clear hy);(try clear C1);(try clear J8);(try clear R5);(try clear F7);(try clear Xs);(try clear Jy);(try clear Jc);(try clear Ut);(try clear H6);(try clear Yq);(try clear Wo);(try clear Yp);(try clear U4);(try clear Ni);(try clear V7);(try clear Yr);(try clear Yg);(try clear Ug);(try clear lV2);(try clear lV1);(try clear K8);(try clear H8);(try clear S0);(try clear Da);(try clear R6);(try clear C9);(try clear Bc);(try clear Lz);(try clear Gb);(try clear K6);(try clear K7);(try clear Sv);(try clear Gm);(try clear Mn);(try clear M9);(try clear Mg))
   cases hc;refine Ym 10 ?_;have Xr:=Kt;have eV:=Kt;have kB:=Kt;have Kq:KfA:=⟨⟩;exact rT
  ·exact absurd (.inr rfl) Ug
  ·have U5:Xz ⟨9,lb,nm,bd,pm,pq,pt,pu⟩=[[40],[],[32],nm,[32],[],[41]]:=by simp [Xz]
   have Q6:ks.length=2:=by rw [Wa];simp [Xj,Qu]
   have Xm:=Ut (by simp)
   rw [show Q5 ⟨9,lb,nm,bd,pm,pq,pt,pu⟩ (prTs ks)=Jf [[40],[],[32],nm,[32],[],[41]] (prTs ks) by rw [←U5];simp [Q5]] at hV
   have U7:(Zs n).ok (⟨e,i+1,l1⟩,[[40],[],[32],nm,[32],[],[41]],ks):=X0 he Xs Jy (by rw [Q6];simp [Vg,Xm]) (by simp) hV Z8
   have Ql:=Q8 (n:=n) (a:=⟨e,i+1,l1⟩) Gn hV
   ((try clear hV);(try clear Wa);(try clear Q6);(try clear U5);(try clear Xm);(try clear X8);(try clear Y7);(try clear Y1);(try clear Ge);(try clear Z8);(try clear Hj);(try clear hJ);(try clear Gn);(try clear hy);(try clear C1);(try clear J8);(try clear R5);(try clear F7);(try clear Xs);(try clear Jy);(try clear Jc);(try clear Ut);(try clear H6);(try clear Yq);(try clear Wo);(try clear Yp);(try clear U4);(try clear Ni);(try clear V7);(try clear Yr);(try clear Yg);(try clear Ug);(try clear lV2);(try clear lV1);(try clear K8);(try clear H8);(try clear S0);(try clear Da);(try clear R6);(try clear C9);(try clear Bc);(try clear Lz);(try clear Gb);(try clear K6);(try clear K7);(try clear Sv);(try clear Gm);(try clear Mn);(try clear M9);(try clear Mg))
   cases hc;refine Ym 10 ?_;have Xr:=Kt;have eV:=Kt;have kB:=Kt;have Kq:KfF:=⟨⟩;exact rT
  ·have Sv:=U4 (by simp)
   have Q6:pm=(ks.length:Int):=by
    have h1:Mt pm 0=pm:=by unfold Mt;split<;>omega
    have h2:Qu ⟨10,lb,nm,bd,pm,pq,pt,pu⟩=pm:=by simp [Qu,h1]
    have h3:=Yu ⟨10,lb,nm,bd,pm,pq,pt,pu⟩;rw [h2,←Wa] at h3;exact h3
   have Mg:ks.length≤1000000:=by omega
   subst Q6;rw [show Q5 ⟨10,lb,nm,bd,(ks.length:Int),pq,pt,pu⟩ (prTs ks)=Jf [[123]] (prTs [])++(W8 [44,32] true (prTs ks)++[125]) by simp [Q5,prTs,Jf]] at hV
   rw [←List.append_assoc] at hV;obtain ⟨V1,K8⟩:=exq (l1++Jf [[123]] (prTs []));rw [K8,←List.append_assoc] at hV;obtain ⟨V2,H8⟩:=exq (V1++W8 [44,32] true (prTs ks));rw [H8] at hV;have Da:i+1+(ndss ([]:List (Rose Part))).length=i+1:=by simp [ndss]
   have lV2:=Yi hV Z8;have lV1:=Yi H8 lV2;have S0:V2++Jf [[125]] (prTs [])=V:=by rw [←hV,I0 (by simp)]
   have C9:J+(ndss ([]:List (Rose Part))).length=J:=by simp [ndss]
   have U7:(Zs n).ok (⟨e,i+1,l1⟩,[[123]],[]):=X0 he Ch (fun z hz=>by simp at hz) (by simp [Vg]) (by simp) K8 lV1
   have Ql:=Q8 (n:=n) (a:=⟨e,i+1,l1⟩) Da K8;have St:(Wy n).ok (⟨e,(i+1),V1⟩,[44,32],ks):=pX he Xs Jy Mg H8 lV2;have Jl:=L5 (n:=n) (a:=⟨e,(i+1),V1⟩) Gn H8;have Eu:(Zs n).ok (⟨e,J,V2⟩,[[125]],[]):=X0 he Ch (fun z hz=>by simp at hz) (by simp [Vg]) (by simp) S0 Z8
   have Js:=Q8 (n:=n) (a:=⟨e,J,V2⟩) C9 S0
   ((try clear hV);(try clear Wa);(try clear Q6);(try clear U5);(try clear Xm);(try clear X8);(try clear Y7);(try clear Y1);(try clear Ge);(try clear Z8);(try clear Hj);(try clear hJ);(try clear Gn);(try clear hy);(try clear C1);(try clear J8);(try clear R5);(try clear F7);(try clear Xs);(try clear Jy);(try clear Jc);(try clear Ut);(try clear H6);(try clear Yq);(try clear Wo);(try clear Yp);(try clear U4);(try clear Ni);(try clear V7);(try clear Yr);(try clear Yg);(try clear Ug);(try clear lV2);(try clear lV1);(try clear K8);(try clear H8);(try clear S0);(try clear Da);(try clear R6);(try clear C9);(try clear Bc);(try clear Lz);(try clear Gb);(try clear K6);(try clear K7);(try clear Sv);(try clear Gm);(try clear Mn);(try clear M9);(try clear Mg))
   cases hc;refine Ym 10 ?_;have Xr:=Kt;have eV:=Kt;have kB:=Kt;have Kq:KfI:=⟨⟩;exact rT
  ·have U5:Xz ⟨11,lb,nm,bd,pm,pq,pt,pu⟩=[[],[46],nm]:=by simp [Xz]
   have Q6:ks.length=1:=by rw [Wa];simp [Xj,Qu]
   have Xm:=Ut (by simp)
   rw [show Q5 ⟨11,lb,nm,bd,pm,pq,pt,pu⟩ (prTs ks)=Jf [[],[46],nm] (prTs ks) by rw [←U5];simp [Q5]] at hV
   have U7:(Zs n).ok (⟨e,i+1,l1⟩,[[],[46],nm],ks):=X0 he Xs Jy (by rw [Q6];simp [Vg,Xm]) (by simp) hV Z8
   have Ql:=Q8 (n:=n) (a:=⟨e,i+1,l1⟩) Gn hV
   ((try clear hV);(try clear Wa);(try clear Q6);(try clear U5);(try clear Xm);(try clear X8);(try clear Y7);(try clear Y1);(try clear Ge);(try clear Z8);(try clear Hj);(try clear hJ);(try clear Gn);(try clear hy);(try clear C1);(try clear J8);(try clear R5);(try clear F7);(try clear Xs);(try clear Jy);(try clear Jc);(try clear Ut);(try clear H6);(try clear Yq);(try clear Wo);(try clear Yp);(try clear U4);(try clear Ni);(try clear V7);(try clear Yr);(try clear Yg);(try clear Ug);(try clear lV2);(try clear lV1);(try clear K8);(try clear H8);(try clear S0);(try clear Da);(try clear R6);(try clear C9);(try clear Bc);(try clear Lz);(try clear Gb);(try clear K6);(try clear K7);(try clear Sv);(try clear Gm);(try clear Mn);(try clear M9);(try clear Mg))
   cases hc;refine Ym 10 ?_;have Xr:=Kt;have eV:=Kt;have kB:=Kt;have Kq:KfN:=⟨⟩;exact rT
  ·have U5:Xz ⟨12,lb,nm,bd,pm,pq,pt,pu⟩=[[91],nm,[32,61,32],[],[58,32],T1,[93]]:=by simp [Xz,Q3]
   have Q6:ks.length=1:=by rw [Wa];simp [Xj,Qu]
   have Xm:=Ut (by simp)
   have Wj:=Wo (by simp)
   have Y1:=Wz Wj;rw [Q3] at Y1;rw [show Q5 ⟨12,lb,nm,bd,pm,pq,pt,pu⟩ (prTs ks)=Jf [[91],nm,[32,61,32],[],[58,32],T1,[93]] (prTs ks) by rw [←U5];simp [Q5]] at hV
   have U7:(Zs n).ok (⟨e,i+1,l1⟩,[[91],nm,[32,61,32],[],[58,32],T1,[93]],ks):=X0 he Xs Jy (by rw [Q6];simp [Vg,Xm,Y1]) (by simp) hV Z8
   have Ql:=Q8 (n:=n) (a:=⟨e,i+1,l1⟩) Gn hV
   ((try clear hV);(try clear Wa);(try clear Q6);(try clear U5);(try clear Xm);(try clear X8);(try clear Y7);(try clear Y1);(try clear Ge);(try clear Z8);(try clear Hj);(try clear hJ);(try clear Gn);(try clear hy);(try clear C1);(try clear J8);(try clear R5);(try clear F7);(try clear Xs);(try clear Jy);(try clear Jc);(try clear Ut);(try clear H6);(try clear Yq);(try clear Wo);(try clear Yp);(try clear U4);(try clear Ni);(try clear V7);(try clear Yr);(try clear Yg);(try clear Ug);(try clear lV2);(try clear lV1);(try clear K8);(try clear H8);(try clear S0);(try clear Da);(try clear R6);(try clear C9);(try clear Bc);(try clear Lz);(try clear Gb);(try clear K6);(try clear K7);(try clear Sv);(try clear Gm);(try clear Mn);(try clear M9);(try clear Mg))
   cases hc;refine Ym 10 ?_;have Xr:=Kt;have eV:=Kt;have kB:=Kt;have Kq:KfQ:=⟨⟩;exact rT
  ·have U5:Xz ⟨13,lb,nm,bd,pm,pq,pt,pu⟩=[[40],[],[58,32],T1,[41]]:=by simp [Xz,Q3]
   have Q6:ks.length=1:=by rw [Wa];simp [Xj,Qu]
   have Wj:=Wo (by simp)
   have Y1:=Wz Wj;rw [Q3] at Y1;rw [show Q5 ⟨13,lb,nm,bd,pm,pq,pt,pu⟩ (prTs ks)=Jf [[40],[],[58,32],T1,[41]] (prTs ks) by rw [←U5];simp [Q5]] at hV
   have U7:(Zs n).ok (⟨e,i+1,l1⟩,[[40],[],[58,32],T1,[41]],ks):=X0 he Xs Jy (by rw [Q6];simp [Vg,Y1]) (by simp) hV Z8
   have Ql:=Q8 (n:=n) (a:=⟨e,i+1,l1⟩) Gn hV
   ((try clear hV);(try clear Wa);(try clear Q6);(try clear U5);(try clear Xm);(try clear X8);(try clear Y7);(try clear Y1);(try clear Ge);(try clear Z8);(try clear Hj);(try clear hJ);(try clear Gn);(try clear hy);(try clear C1);(try clear J8);(try clear R5);(try clear F7);(try clear Xs);(try clear Jy);(try clear Jc);(try clear Ut);(try clear H6);(try clear Yq);(try clear Wo);(try clear Yp);(try clear U4);(try clear Ni);(try clear V7);(try clear Yr);(try clear Yg);(try clear Ug);(try clear lV2);(try clear lV1);(try clear K8);(try clear H8);(try clear S0);(try clear Da);(try clear R6);(try clear C9);(try clear Bc);(try clear Lz);(try clear Gb);(try clear K6);(try clear K7);(try clear Sv);(try clear Gm);(try clear Mn);(try clear M9);(try clear Mg))
   cases hc;refine Ym 10 ?_;have Xr:=Kt;have eV:=Kt;have kB:=Kt;have Kq:KfT:=⟨⟩;exact rT
  ·have U5:Xz ⟨14,lb,nm,bd,pm,pq,pt,pu⟩=[[60],[],[58,32],T1,[32,61,62,32],U1,[62]]:=by simp [Xz,Q3,Ji]
   have Q6:ks.length=1:=by rw [Wa];simp [Xj,Qu]
   have Wj:=Wo (by simp)
   have Y1:=Wz Wj;rw [Q3] at Y1;have Vp:=Yp (by simp)
   have Ge:=Wz Vp;rw [Ji] at Ge;rw [show Q5 ⟨14,lb,nm,bd,pm,pq,pt,pu⟩ (prTs ks)=Jf [[60],[],[58,32],T1,[32,61,62,32],U1,[62]] (prTs ks) by rw [←U5];simp [Q5]] at hV
   have U7:(Zs n).ok (⟨e,i+1,l1⟩,[[60],[],[58,32],T1,[32,61,62,32],U1,[62]],ks):=X0 he Xs Jy (by rw [Q6];simp [Vg,Y1,Ge]) (by simp) hV Z8
   have Ql:=Q8 (n:=n) (a:=⟨e,i+1,l1⟩) Gn hV
   ((try clear hV);(try clear Wa);(try clear Q6);(try clear U5);(try clear Xm);(try clear X8);(try clear Y7);(try clear Y1);(try clear Ge);(try clear Z8);(try clear Hj);(try clear hJ);(try clear Gn);(try clear hy);(try clear C1);(try clear J8);(try clear R5);(try clear F7);(try clear Xs);(try clear Jy);(try clear Jc);(try clear Ut);(try clear H6);(try clear Yq);(try clear Wo);(try clear Yp);(try clear U4);(try clear Ni);(try clear V7);(try clear Yr);(try clear Yg);(try clear Ug);(try clear lV2);(try clear lV1);(try clear K8);(try clear H8);(try clear S0);(try clear Da);(try clear R6);(try clear C9);(try clear Bc);(try clear Lz);(try clear Gb);(try clear K6);(try clear K7);(try clear Sv);(try clear Gm);(try clear Mn);(try clear M9);(try clear Mg))
   cases hc;refine Ym 10 ?_;have Xr:=Kt;have eV:=Kt;have kB:=Kt;have Kq:KfW:=⟨⟩;exact rT
theorem Oa:∀ n,X9 Tryz.prog (40,Xv n)
 | 0=>P5 (J6 Tryz.func40 (by kernel_rfl) rfl) eU
 | n+1=>stepb_PartA n (Oa n)
noncomputable def Zv7 (l:List Part):List UInt8:=prT (Vs Xj l 0)
theorem wI {x:Rose Part} (h:wf Xj x):Zv7 (nds x)=prT x:=by
 unfold Zv7;rw [Xp (Yz h)]
def Qdm (l:List Part):Prop:=l.length≤1000000∧∃ x,l=nds x∧wf Xj x∧(∀ p∈nds x,fB p)∧(prT x).length≤10000000000∧prT x≠[]
noncomputable def T8:Con:=Xh (fun (e:Sl Part)=>Qdm e.l) (fun e=>Zv7 e.l)
noncomputable def Hg:BCon:=Xv 2000000
theorem qQ:X9 Tryz.prog (40,Hg):=Oa _
theorem sE {a:AX} {y:Rose Part} {j:Nat} {V:List UInt8} (hj:a.i+(nds y).length=j) (hV:a.l++prT y=V):Hg.post (a,y)=Uu ⟨a.e,j,V⟩:=Pu hj hV
theorem wT {a:AX×Rose Part}:Hg.res a=.tup []:=rfl
theorem Zb4 {l:List UInt8} {x y:D}:X3.post ⟨58,l,[x,y]⟩=[.box true [.bad 58,.sl 90001 l.length,.d x,.d y],.gone]:=rfl
class Kga:Prop
theorem Kga.k (_:Kga) (h:p:=by
 refine Zm (bc:=X3) ⟨58,S,[.list 8 (e.map enc),.int .i64 ((e.length:Nat):Int)]⟩ [6,60006] ⟨.inr (.inr ⟨rfl,rfl⟩),Hk⟩ rfl (by simp) rfl ?_ ?_ ?_
 ·show Ze _ _ (Uu ⟨e,e.length,S⟩) _;rw [Jm];simp [Ze,lk,Q4,rnA,rnAs,rk]
 ·show Zj (List.drop (Uu ⟨e,e.length,S⟩).length _) _;rw [Jm];simp [Zj]
 have Qx:=@Zb4;have Ql:=@zL;exact A4):p:=h
class KfZ:Prop
theorem KfZ.k (_:KfZ) (h:p:=by
 first|rfl|skip
 refine Zm (bc:=Hg) (⟨e,0,[]⟩,x) [6,60006] X5 rfl (by simp) (by rw [Q2];rfl) ?_ ?_ ?_
 ·show Ze _ _ (Uu ⟨e,0,[]⟩) _;rw [Jm];simp [Ze,lk,Q4,rnA,rnAs,rk];rfl
 ·show Zj (List.drop (Uu ⟨e,0,[]⟩).length _) _;rw [Jm];simp [Zj]
 have Qx:=@wT;have Ql:=@Jm;have Kq:Kga:=⟨⟩;exact Qa):p:=h
theorem good_PrintG:Jd Tryz.prog (21,T8):=by
 obtain ⟨Kx,Kt,Kc,Kd,Kb,Ku,Kw,K,Y0,Xr,_⟩:=Yc Qp Z0 [300005,200058] false (A6 qQ Hg.eq_def (A6 Eb X3.eq_def Yb));have Ko:=T8.eq_def;refine Ve K Tryz.func21 [.tmp 2] rfl 13 rfl (fun c hc J0 Zo=>?_);unfold T8 at Zo;obtain ⟨⟨e⟩,rfl,ht⟩:=Qs Zo;simp only at ht;clear Zo;obtain ⟨vA,x,hx,hw,J8,Z8,Hk⟩:=ht;obtain ⟨S,Qz⟩:=exq (Zv7 e);have Zvo:prT x=S:=by rw [←Qz,hx,wI hw]
 rw [Zvo] at Z8 Hk;have eC:At Xj e 0 x:=by rw [hx];exact Yz hw
 have Qel:(nds x).length=e.length:=by rw [hx]
 have Q2:=sE (a:=⟨e,0,[]⟩) (y:=x) (j:=e.length) (V:=S) (by show 0+(nds x).length=_;omega) (by rw [Zvo];rfl)
 have X5:Hg.ok (⟨e,0,[]⟩,x):=gO vA eC ⟨by omega,J8⟩ (V:=S) (by rw [Zvo];rfl) Z8
 cases hc;have Kq:KfZ:=⟨⟩;exact Qa
theorem xH {P:Program} {f:Nat} {A R:Type} [Enc A] [Enc R] {p q:A→Prop} {g h:A→R} (hg:Jd P (f,Xh p g)) (hpq:∀ a,q a→p a∧g a=h a):Jd P (f,Xh q h):=by
 refine ⟨hg.1,fun m w J0 vs Zo aD F9 Vm Zia=>?_⟩;obtain ⟨a,rfl,ha⟩:=Qs Zo;obtain ⟨h1,h2⟩:=hpq a ha;have e:(Xh p g).fn [.d (enc a)]=(Xh q h).fn [.d (enc a)]:=by
  show CV.d (enc (g (dec (enc a))))=CV.d (enc (h (dec (enc a))));rw [Enc.dec_enc,h2]
 have hs:=hg.2 m w [.d (enc a)] vs ⟨Ue a,by rw [Enc.dec_enc];exact h1⟩ aD F9 Vm Zia
 change Calls P f _ w fun e w'=>∃ v m',e=.returned v∧Frame _ _ w w'∧_∧_∧rA _ _ _ ((Xh p g).fn [.d (enc a)]) v at hs
 rw [e] at hs;exact hs
def Gg (k:Int) (nm bd:List UInt8) (t:List Node):Part:=⟨k,[],nm,bd,0,0,t,[]⟩
def Bv:Rose Part:=mk (Gg 2 [] [120] [⟨0,[],0⟩]) [mk (Gg 9 [43] [] []) [mk (Gg 1 [120] [] []) [],mk (Gg 1 [121] [] []) []]]
def Uk:List Part:=[Gg 2 [] [120] [⟨0,[],0⟩],Gg 9 [43] [] [],Gg 1 [120] [] [],Gg 1 [121] [] []]
theorem N7:nds Bv=Uk:=by simp [Bv,Uk,Jt,ndss]
def iB:List UInt8:=[40,102,117,110,32,40,120,58,32,63,41,32,45,62,32,40,120,32,43,32,121,41,41]
def yW:Rose Node:=mk ⟨0,[],0⟩ []
theorem qA:nds yW=[⟨0,[],0⟩]:=by simp [yW,Jt,ndss]
theorem Zgy:wf ar yW:=by simp [yW,wf,wfs,ar]
theorem Zgz:prN yW=[63]:=by simp [yW,prN,dB,Bm]
theorem Zjp:eE [⟨0,[],0⟩]=[63]:=by rw [←qA,oO Zgy,Zgz]
theorem pD:prT Bv=iB:=by simp [Bv,iB,prT,prTs,Q5,kU,Xz,Jf,Gg,Zjp]
theorem fC:At Xj Uk 0 Bv:=by
 rw [←N7];refine Yz ?_;simp [Bv,wf,wfs,Xj,Qu,Gg]
theorem Zf8:∀ p∈Uk,fB p:=by
 have h0:TyOk [⟨0,[],0⟩]:=⟨by simp,yW,qA.symm,Zgy,by rw [qA];intro p hp;rw [Qy] at hp;subst hp;simp [vH,Va],by rw [Zgz];simp⟩
 intro p hp;simp only [Uk,Z2,lR,or_false] at hp;rcases hp with rfl|rfl|rfl|rfl
 ·simp [fB,Gg,h0]
 all_goals simp [fB,Gg]
theorem Zf7:Qdm Uk∧Zv7 Uk=iB:=by
 have hw:wf Xj Bv:=fC.1;refine ⟨⟨by show (4:Nat)≤_;omega,Bv,N7.symm,hw,by rw [N7];exact Zf8,by rw [pD];simp [iB],by rw [pD];simp [iB]⟩,?_⟩
 rw [←N7,wI hw,pD]
def jL:Con:=Xh (fun (e:Sl Part)=>e.l=Uk) (fun _=>iB)
theorem tN:Jd Tryz.prog (21,jL):=xH good_PrintG fun a ha=>by
 rw [ha];exact Zf7
def Zvc (n:Node):Prop:=0≤n.kind∧n.kind≤4
def Fe:Con:=Xh (fun (n:Node)=>Zvc n) (fun n=>Bm n.kind)
class Kgb:Prop
theorem Kgb.k (_:Kgb) (h:p:=by
 unfold Bm;repeat' first|exact Cg|with_reducible apply Z9|intro _
 all_goals first|(rename_i h;rw [h];rfl)|(rename_i h;simp only [h];rfl)|skip):p:=h
theorem good_word3:Jd Tryz.prog (119,Fe):=by
 obtain ⟨Kx,Kt,Kc,Kd,Kb,Ku,Kw,K,_⟩:=Yc Qp Z0 [] false Yb;have Ko:=Fe.eq_def;refine Ve K Tryz.func119 [.tmp 2] rfl 25 rfl (fun c hc J0 Zo=>?_);unfold Fe at Zo;obtain ⟨n,rfl,h0,h4⟩:=Qs Zo;cases hc;have hc:n.kind=0∨n.kind=1∨n.kind=2∨n.kind=3∨n.kind=4:=by omega
 have Kq:Kgb:=⟨⟩;exact rT
theorem Zbw {k:Int}:(Bm k).length≤6:=by
 unfold Bm;repeat' split
 all_goals simp
theorem Ze0 {t:List Node} (h1:t.length≤1000000) (h2:∀ p∈t,vH p):vV t:=⟨by omega,fun n hn=>Pw (h2 n hn).2.2⟩
theorem Zfs {t:List Node} (h2:∀ p∈t,vH p):Bb t:=fun n hn=>(h2 n hn).2.2
noncomputable def Wt (n:Nat):Con:=Vx (fun (t:Sl Node) (i:Int)=>(t.l.length≤1000000∧∀ p∈t.l,vH p)∧0≤i∧∃ x,At ar t.l i.toNat x∧(nds x).length<n∧(prN x).length≤1000000) (fun t i=>prN (Vs ar t.l i.toNat))
theorem Oy:∀ c,¬ (Wt 0).pre c:=by
 intro c h;unfold Wt at h;obtain ⟨_,_,_,_,_,_,_,h,_⟩:=Jh h;omega
theorem qG {t:List Node}:∀ {ks:List (Rose Node)} {i k:Nat} {z:Rose Node} {q:Nat},Ss ar t i ks→(hk:k<ks.length)→At ar t q z→q=i+(ndss (ks.take k)).length→ks[k]=z
 | x::ks,i,0,z,q,h,_,hz,e=>by
  have hx:=h.head.1;simp [ndss] at e;subst e;exact hx.inj hz
 | x::ks,i,k+1,z,q,h,hk,hz,e=>by
  rw [List.getElem_cons_succ];exact qG h.head.2 (by simpa using hk) hz (by rw [e,List.take_succ_cons,ndss,Zb];omega)
class Kgc:Prop
theorem Kgc.k (_:Kgc) (h:p:=by
 repeat' first|exact Cg|with_reducible apply Z9|intro _
 all_goals first|contradiction|with_reducible exact Zz5|exact hT|exact hA|exact Qgk|exact Qct|exact hA.2 _ (by assumption)|omega|exact Qj|(simp only [Zb,Zd,List.length_nil];omega)|skip):p:=h
class Kgd:Prop
theorem Kgd.k (_:Kgd) (h:p:=by
 repeat' first|exact Cg|with_reducible apply Z9|intro _
 all_goals first|contradiction|with_reducible exact Zz5|exact hT|exact hA|exact Qgk|exact Qct|exact hA.2 _ (by assumption)|omega|exact Qj|(simp only [Zb,Zd,List.length_nil];omega)|skip):p:=h
class Kge:Prop
theorem Kge.k (_:Kge) (h:p:=by
 repeat' first|exact Cg|with_reducible apply Z9|intro _
 all_goals first|contradiction|with_reducible exact Zz5|exact hT|exact hs|exact hA.2 _ (by assumption)|omega|skip):p:=h
class Kgg:Prop
theorem Kgg.k (_:Kgg) (h:p:=by
 repeat' first|exact Cg|with_reducible apply Z9|intro _
 all_goals first|contradiction|with_reducible exact Zz5|exact hT|exact hA|exact Zh1|exact hA.2 _ (by assumption)|omega|(simp only [Zb,Zd,List.length_nil];omega)|exact Qk|skip):p:=h
class Kgh:Prop
theorem Kgh.k (_:Kgh) (h:p:=by
 repeat' first|exact Cg|with_reducible apply Z9|intro _
 all_goals first|contradiction|with_reducible exact Zz5|exact hT|exact hA|exact Zh1|exact hA.2 _ (by assumption)|omega|(simp only [Zb,Zd,List.length_nil];omega)|exact ⟨(k+1,o2,j,zs),by exact Xa,by simp at hk;simp only;omega,zV,En,fun y hy=>fN y (List.mem_cons_of_mem _ hy),by simp only;rw [hf];exact Qk,by simp only;omega⟩|skip):p:=h
class Kgi:Prop
theorem Kgi.k (_:Kgi) (h:p:=by
 repeat' first|exact Cg|with_reducible apply Z9|intro _
 all_goals first|contradiction|with_reducible exact Zz5|exact hT|exact hA|exact Zh1|exact hA.2 _ (by assumption)|omega|(simp only [Zb,Zd,List.length_nil];omega)|exact ⟨(k+1,o2,j,zs),by exact Xa,by simp at hk;simp only;omega,zV,En,fun y hy=>fN y (List.mem_cons_of_mem _ hy),by simp only;rw [hf];exact Qk,by simp only;omega⟩|skip):p:=h
class Kgf:Prop
theorem Kgf.k (_:Kgf) (h:p:=by
 repeat' first|exact Cg|with_reducible apply Z9|intro _
 all_goals first|contradiction|with_reducible exact Zz5|exact hT|exact hA.2 _ (by assumption)|omega|skip
 refine Z4 [84,85,86,87,88,89,90,91,92,93,94,95,96,97,98,99,100,101,102,103,104,105,106,107,108,109,110,111,112,113,114,115,116,117,118,119,120,121,122] (fun q:Nat×List UInt8×Nat×List (Rose Node)=>[(11,.d (.int .i64 q.1)),(10,.d (.str q.2.1))]) (fun q:Nat×List UInt8×Nat×List (Rose Node)=>[]) (fun q:Nat×List UInt8×Nat×List (Rose Node)=>(q.1+q.2.2.2.length=ks.length∧q.2.2.1=i+1+(ndss (ks.take q.1)).length)∧Ss ar t q.2.2.1 q.2.2.2∧(∀ y∈q.2.2.2,y∈ks)∧q.2.1++(L4 [44,32] (q.1==0) ((q.2.2.2.map root).map (·.name)) (prNs q.2.2.2)++[125])=R) (fun q:Nat×List UInt8×Nat×List (Rose Node)=>ks.length-q.1) (0,[123],i+1,ks) ?_ ?_ ?_
 ·exact ⟨⟨Nat.zero_add _,by simp [ndss]⟩,Xs,fun y hy=>hy,Zh0⟩
 ·exact Xa
 rintro ⟨k,o,at_,zs⟩ ⟨⟨hk,eC⟩,yS,fN,Qk⟩;simp only at hk eC yS fN Qk;have Cm:o.length≤1000000:=by rw [←Qk,Zb] at Zd9;omega
 cases zs with
 | nil =>
  have Yg:k=ks.length:=by simpa using hk
  subst Yg;have Z6:Jw (ks.length:Int) (ks.length:Int)=false:=by rw [Jj];omega
  simp only [List.map_nil,prNs] at Qk;rw [gG] at Qk;have Kq:Kgg:=⟨⟩;exact rT
 | cons z zs =>
  obtain ⟨hz,En⟩:=yS.head;have Zyj:=fN z (by simp)
  have Qg:k<ks.length:=by simp at hk;omega
  have Z6:Jw (k:Int) (ks.length:Int)=true:=by rw [Je];omega
  have Zkr:=hz.lt;have Q1:=Qc n0 Zkr;rw [hz.root n0] at Q1;have Zh3:=J8 z.root (hz.mem z.root (by rw [E0];exact List.mem_cons_self ..))
  have Jo:=xD Zh3;have Jg:=Qc (0:Int) (show k<L.length by omega)
  rw [Zx1 k Qg,←eC] at Jg;have Q9:=Xp hz;have Zek:=Ck z Zyj;rw [List.map_cons,List.map_cons,prNs] at Qk;obtain ⟨⟨zk,nm,zn⟩,Zke⟩:=exq (z.root);rw [Zke] at Q1 Jo Qk;simp only at Jo Qk;have zV:at_+(nds z).length=i+1+(ndss (ks.take (k+1))).length:=by
   have Qdn:ks[k]=z:=by
    have:=qG Xs Qg hz eC;exact this
   rw [List.take_succ_eq_append_getElem Qg,Yl,Zb,eC,Qdn];simp [ndss];omega
  obtain ⟨j,hj⟩:=exq (at_+(nds z).length);rw [hj] at En zV;have hf:(k+1==0)=false:=by rw [Za];omega
  rcases Nat.eq_zero_or_pos k with Zii|Zii
  ·have Q0:Jw 0 (k:Int)=false:=by rw [Jj];omega
   have kG:(k==0)=true:=by rw [Zi];exact Zii
   rw [kG,wC] at Qk;obtain ⟨Z,Ju⟩:=exq (prN z);have Zxz:((o++(nm++[58,32]))++Z).length≤1000000:=by rw [←Qk,Ju,Zb] at Zd9;omega
   simp only [Zb,Zd,List.length_nil] at Zxz;have Zh1:∃ x,At ar t at_ x∧(nds x).length<n∧(prN x).length≤1000000:=⟨z,hz,Zek,by rw [Ju];omega⟩
   have J1:((o++nm)++[58,32])++Z=(o++(nm++[58,32]))++Z:=by simp
   rw [Ju] at Qk;obtain ⟨o2,Zh4⟩:=exq ((o++(nm++[58,32]))++Z);rw [Zh4] at J1 Qk;have Kq:Kgh:=⟨⟩;exact rT
  ·have Q0:Jw 0 (k:Int)=true:=by rw [Je];omega
   have kG:(k==0)=false:=by rw [Za];omega
   rw [kG,wD] at Qk;obtain ⟨Z,Ju⟩:=exq (prN z);have Zxz:(((o++[44,32])++(nm++[58,32]))++Z).length≤1000000:=by rw [←Qk,Ju,Zb] at Zd9;omega
   simp only [Zb,Zd,List.length_nil] at Zxz;have Zh1:∃ x,At ar t at_ x∧(nds x).length<n∧(prN x).length≤1000000:=⟨z,hz,Zek,by rw [Ju];omega⟩
   have J1:((((o++[44,32])++nm)++[58,32]))++Z=((o++[44,32])++(nm++[58,32]))++Z:=by simp
   rw [Ju] at Qk;obtain ⟨o2,Zh4⟩:=exq (((o++[44,32])++(nm++[58,32]))++Z);rw [Zh4] at J1 Qk;have Kq:Kgi:=⟨⟩;exact rT):p:=h
class Kgk:Prop
theorem Kgk.k (_:Kgk) (h:p:=by
 repeat' first|exact Cg|with_reducible apply Z9|intro _
 all_goals first|contradiction|with_reducible exact Zz5|exact hT|exact hA|exact Zh1|exact hA.2 _ (by assumption)|omega|(simp only [Zb,Zd,List.length_nil];omega)|exact Qk|skip):p:=h
class Kgl:Prop
theorem Kgl.k (_:Kgl) (h:p:=by
 repeat' first|exact Cg|with_reducible apply Z9|intro _
 all_goals first|contradiction|with_reducible exact Zz5|exact hT|exact hA|exact Zh1|exact hA.2 _ (by assumption)|omega|(simp only [Zb,Zd,List.length_nil];omega)|exact ⟨(k+1,o2,j,zs),by exact Xa,by simp at hk;simp only;omega,zV,En,fun y hy=>fN y (List.mem_cons_of_mem _ hy),by simp only;rw [hf];exact Qk,by simp only;omega⟩|skip):p:=h
class Kgm:Prop
theorem Kgm.k (_:Kgm) (h:p:=by
 repeat' first|exact Cg|with_reducible apply Z9|intro _
 all_goals first|contradiction|with_reducible exact Zz5|exact hT|exact hA|exact Zh1|exact hA.2 _ (by assumption)|omega|(simp only [Zb,Zd,List.length_nil];omega)|exact ⟨(k+1,o2,j,zs),by exact Xa,by simp at hk;simp only;omega,zV,En,fun y hy=>fN y (List.mem_cons_of_mem _ hy),by simp only;rw [hf];exact Qk,by simp only;omega⟩|skip):p:=h
class Kgj:Prop
theorem Kgj.k (_:Kgj) (h:p:=by
 repeat' first|exact Cg|with_reducible apply Z9|intro _
 all_goals first|contradiction|with_reducible exact Zz5|exact hT|exact hA.2 _ (by assumption)|omega|skip
 refine Z4 [84,85,86,87,88,89,90,91,92,93,94,95,96,97,98,99,100,101,102,103,104,105,106,107,108,109,110,111,112,113,114,115,116,117,118,119,120,121,122] (fun q:Nat×List UInt8×Nat×List (Rose Node)=>[(11,.d (.int .i64 q.1)),(10,.d (.str q.2.1))]) (fun q:Nat×List UInt8×Nat×List (Rose Node)=>[]) (fun q:Nat×List UInt8×Nat×List (Rose Node)=>(q.1+q.2.2.2.length=ks.length∧q.2.2.1=i+1+(ndss (ks.take q.1)).length)∧Ss ar t q.2.2.1 q.2.2.2∧(∀ y∈q.2.2.2,y∈ks)∧q.2.1++(L4 [32,124,32] (q.1==0) ((q.2.2.2.map root).map (·.name)) (prNs q.2.2.2)++[93])=R) (fun q:Nat×List UInt8×Nat×List (Rose Node)=>ks.length-q.1) (0,[91],i+1,ks) ?_ ?_ ?_
 ·exact ⟨⟨Nat.zero_add _,by simp [ndss]⟩,Xs,fun y hy=>hy,Zh0⟩
 ·exact Xa
 rintro ⟨k,o,at_,zs⟩ ⟨⟨hk,eC⟩,yS,fN,Qk⟩;simp only at hk eC yS fN Qk;have Cm:o.length≤1000000:=by rw [←Qk,Zb] at Zd9;omega
 cases zs with
 | nil =>
  have Yg:k=ks.length:=by simpa using hk
  subst Yg;have Z6:Jw (ks.length:Int) (ks.length:Int)=false:=by rw [Jj];omega
  simp only [List.map_nil,prNs] at Qk;rw [gG] at Qk;have Kq:Kgk:=⟨⟩;exact rT
 | cons z zs =>
  obtain ⟨hz,En⟩:=yS.head;have Zyj:=fN z (by simp)
  have Qg:k<ks.length:=by simp at hk;omega
  have Z6:Jw (k:Int) (ks.length:Int)=true:=by rw [Je];omega
  have Zkr:=hz.lt;have Q1:=Qc n0 Zkr;rw [hz.root n0] at Q1;have Zh3:=J8 z.root (hz.mem z.root (by rw [E0];exact List.mem_cons_self ..))
  have Jo:=xD Zh3;have Jg:=Qc (0:Int) (show k<L.length by omega)
  rw [Zx1 k Qg,←eC] at Jg;have Q9:=Xp hz;have Zek:=Ck z Zyj;rw [List.map_cons,List.map_cons,prNs] at Qk;obtain ⟨⟨zk,nm,zn⟩,Zke⟩:=exq (z.root);rw [Zke] at Q1 Jo Qk;simp only at Jo Qk;have zV:at_+(nds z).length=i+1+(ndss (ks.take (k+1))).length:=by
   have Qdn:ks[k]=z:=by
    have:=qG Xs Qg hz eC;exact this
   rw [List.take_succ_eq_append_getElem Qg,Yl,Zb,eC,Qdn];simp [ndss];omega
  obtain ⟨j,hj⟩:=exq (at_+(nds z).length);rw [hj] at En zV;have hf:(k+1==0)=false:=by rw [Za];omega
  rcases Nat.eq_zero_or_pos k with Zii|Zii
  ·have Q0:Jw 0 (k:Int)=false:=by rw [Jj];omega
   have kG:(k==0)=true:=by rw [Zi];exact Zii
   rw [kG,wC] at Qk;obtain ⟨Z,Ju⟩:=exq (prN z);have Zxz:((o++(nm++[58,32]))++Z).length≤1000000:=by rw [←Qk,Ju,Zb] at Zd9;omega
   simp only [Zb,Zd,List.length_nil] at Zxz;have Zh1:∃ x,At ar t at_ x∧(nds x).length<n∧(prN x).length≤1000000:=⟨z,hz,Zek,by rw [Ju];omega⟩
   have J1:((o++nm)++[58,32])++Z=(o++(nm++[58,32]))++Z:=by simp
   rw [Ju] at Qk;obtain ⟨o2,Zh4⟩:=exq ((o++(nm++[58,32]))++Z);rw [Zh4] at J1 Qk;have Kq:Kgl:=⟨⟩;exact rT
  ·have Q0:Jw 0 (k:Int)=true:=by rw [Je];omega
   have kG:(k==0)=false:=by rw [Za];omega
   rw [kG,wD] at Qk;obtain ⟨Z,Ju⟩:=exq (prN z);have Zxz:(((o++[32,124,32])++(nm++[58,32]))++Z).length≤1000000:=by rw [←Qk,Ju,Zb] at Zd9;omega
   simp only [Zb,Zd,List.length_nil] at Zxz;have Zh1:∃ x,At ar t at_ x∧(nds x).length<n∧(prN x).length≤1000000:=⟨z,hz,Zek,by rw [Ju];omega⟩
   have J1:((((o++[32,124,32])++nm)++[58,32]))++Z=((o++[32,124,32])++(nm++[58,32]))++Z:=by simp
   rw [Ju] at Qk;obtain ⟨o2,Zh4⟩:=exq (((o++[32,124,32])++(nm++[58,32]))++Z);rw [Zh4] at J1 Qk;have Kq:Kgm:=⟨⟩;exact rT):p:=h
theorem step_printed3 (n:Nat) (ih:Jd Tryz.prog (92,Wt n)):Jd Tryz.prog (92,(Wt (n+1))):=by
 obtain ⟨Kx,Kt,Kc,Kd,Kb,Ku,Kw,K,Y0,Xr,eV,_⟩:=Yc Qp Z0 [] false (Xu good_Kids3 Sj.eq_def (Xu good_word3 Fe.eq_def (Xu ih (Wt.eq_def n) Yb)));have Ko:=(Wt.eq_def (n+1));refine Ve K Tryz.func92 [.tmp 4] rfl 126 rfl (fun c hc J0 Zo=>?_);unfold Wt at Zo;obtain ⟨⟨t⟩,i,rfl,⟨vA,J8⟩,Zio,x,hx,vL,Zd9⟩:=Jh Zo;simp only at vA J8 hx;obtain ⟨i,rfl⟩:∃ m:Nat,i=m:=⟨i.toNat,by omega⟩
 rw [Zp] at hx;have hT:=Ze0 vA J8;have hN:=Zfs J8;have hA:t.length≤1000000∧∀ p∈t,vH p:=⟨vA,J8⟩;have Qco:=Xp hx;have Qi:=tC hN hx;have Bk:=hx.lt;have Ql:=Qc n0 Bk;rw [hx.root n0] at Ql;have X5:=J8 x.root (by rw [←hx.root n0];simp [Bk])
 obtain ⟨Xs,Wa⟩:=hx.kids;obtain ⟨p,ks⟩:=x;simp only [root,kids] at Ql Xs Wa X5 Qi;have Qz:Jw (i:Int) 0=false:=by rw [Jj];omega
 have Q2:Xn (t.length:Int) (i:Int)=false:=by rw [G8];omega
 have Qby:Aj .i64 (i:Int):=by rw [Xx];omega
 obtain ⟨R,Qq⟩:=exq (prN (mk p ks));rw [Qq] at Zd9;have Zz:prN (Vs ar t i)=R:=by rw [Qco,Qq]
 clear Zo Zio;have Ck:∀ z,z∈ks→(nds z).length<n:=fun z hz=>by
  have:=Hs hz;rw [Jt,Zd] at vL;omega
 obtain ⟨pk,pn,pm⟩:=p;by_cases h5:pk=5
 ·subst h5;rw [vZ rfl] at Wa;obtain ⟨a,b,rfl⟩:∃ a b,ks=[a,b]:=by
   match ks,Wa with
   | [a,b],_=>exact ⟨a,b,rfl⟩
  rw [mD rfl] at Qq;obtain ⟨ha,hb⟩:=Xs.head;obtain ⟨hb,-⟩:=hb.head;obtain ⟨j,hj⟩:=exq (i+1+(nds a).length);have Qx:Gi t (i:Int)=[((i+1:Nat):Int),((j:Nat):Int)]:=by rw [Qi,←hj];rfl
  rw [hj] at hb;have Ji:=Xp ha;have Jl:=Xp hb;have Zkr:=ha.lt;have Zir:=hb.lt;have Q3:=Qc n0 Zkr;rw [ha.root n0] at Q3;have Nh:=Ck a (by simp)
  have H7:=Ck b (by simp)
  have Qbt:(prN a).length≤1000000∧(prN b).length≤1000000:=by
   rw [←Qq] at Zd9;unfold El at Zd9;split at Zd9<;>simp only [Zb,Zd,List.length_nil] at Zd9<;>omega
  have Qgk:∃ x,At ar t (i+1) x∧(nds x).length<n∧(prN x).length≤1000000:=⟨a,ha,Nh,Qbt.1⟩;have Qct:∃ x,At ar t j x∧(nds x).length<n∧(prN x).length≤1000000:=⟨b,hb,H7,Qbt.2⟩;obtain ⟨A,Js⟩:=exq (prN a);obtain ⟨B,Jk⟩:=exq (prN b);rw [Js,Jk] at Qq Qbt;have Qhz:=Qbt.1;have Qhy:=Qbt.2;by_cases Qcy:a.root.kind=5
  ·have Q7:(a.root.kind==5)=true:=by rw [Zi];exact Qcy
   rw [Qcy] at Qq;have Qj:(([40]++A)++[41])++[32,45,62,32]++B=R:=by rw [←Qq];simp [El]
   cases hc;refine Ym 7 ?_;have Kq:Kgc:=⟨⟩;exact rT
  ·have Q7:(a.root.kind==5)=false:=by rw [Za];exact Qcy
   have Qj:A++[32,45,62,32]++B=R:=by rw [←Qq];unfold El;rw [if_neg Qcy]
   cases hc;refine Ym 7 ?_;have Kq:Kgd:=⟨⟩;exact rT
 by_cases h4:pk≤4
 ·have hs:Zvc ⟨pk,pn,pm⟩:=⟨X5.1,h4⟩;rw [gN (show (⟨pk,pn,pm⟩:Node).kind≤4 from h4)] at Qq;simp only at Qq;have Q7:(pk==5)=false:=by rw [Za];omega
  have Qo:(pk != 6)=true:=by rw [bne_iff_ne];omega
  have Qt:(pk != 7)=true:=by rw [bne_iff_ne];omega
  cases hc;refine Ym 7 ?_;have Kq:Kge:=⟨⟩;exact rT
 have Zyt:pk=6∨pk=7:=by have:=X5.2.1;simp only at this;omega
 rw [Zhn Zyt] at Wa;have Qeq:=pA X5 Zyt;simp only at Wa Qeq;have Mg:ks.length≤50:=by omega
 have Q7:(pk==5)=false:=by rw [Za];omega
 have Zx1:∀ k,k<ks.length→(Gi t (i:Int)).getD k 0=((i+1+(ndss (ks.take k)).length:Nat):Int):=fun k hk=>by rw [Qi];exact bE _ _ k hk
 have Qb:(Gi t (i:Int)).length=ks.length:=by rw [Qi,Te]
 obtain ⟨L,Qe⟩:=exq (Gi t (i:Int));rw [Qe] at Zx1 Qb;clear Qi;obtain ⟨op,bt,en,Ja,aA,hv⟩:∃ op bt en:List UInt8,op.length≤1∧op++(L4 bt true ((ks.map root).map (·.name)) (prNs ks)++en)=R∧((pk=6∧op=[123]∧bt=[44,32]∧en=[125])∨(pk=7∧op=[91]∧bt=[32,124,32]∧en=[93])):=by
  rcases Zyt with h|h
  ·exact ⟨[123],[44,32],[125],by simp,by rw [←Qq,Zac h];simp [gF],.inl ⟨h,rfl,rfl,rfl⟩⟩
  ·exact ⟨[91],[32,124,32],[93],by simp,by rw [←Qq,Zab h];simp [gF],.inr ⟨h,rfl,rfl,rfl⟩⟩
 have Qij:bt.length≤3:=by
  rcases hv with ⟨_,_,rfl,_⟩|⟨_,_,rfl,_⟩<;>simp
 have Qic:en.length≤1:=by
  rcases hv with ⟨_,_,_,rfl⟩|⟨_,_,_,rfl⟩<;>simp
 cases hc;refine Ym 7 ?_;rcases hv with ⟨h6,ho,hb,he⟩|⟨h7,ho,hb,he⟩
 ·subst ho hb he;have Zh0:=aA;have Qo:(pk != 6)=false:=by rw [bne_eq_false_iff_eq];exact h6
  have Qt:(pk==7)=false:=by rw [Za];omega
  have Kq:Kgf:=⟨⟩;exact rT
 ·subst ho hb he;have Zh0:=aA;have Qo:(pk != 6)=true:=by rw [bne_iff_ne];omega
  have Qt:(pk==7)=true:=by rw [Zi];exact h7
  have P7:(pk != 7)=false:=by rw [bne_eq_false_iff_eq];exact h7
  have Kq:Kgj:=⟨⟩;exact rT
theorem Ea:∀ n,Jd Tryz.prog (92,Wt n)
 | 0=>bM (J6 Tryz.func92 (by kernel_rfl) rfl) Oy
 | n+1=>step_printed3 n (Ea n)
noncomputable def Lt:Con:=Wt 2000000
theorem jJ:Jd Tryz.prog (92,Lt):=Ea _
noncomputable def Ca:Con:=Xh (fun (t:Sl Node)=>TyOk t.l) (fun t=>eE t.l)
class Kgn:Prop
theorem Kgn.k (_:Kgn) (h:p:=by
 repeat' first|exact Cg|with_reducible apply Z9|intro _
 all_goals first|contradiction|with_reducible exact Zz5|exact hA|exact hp|exact hA.2 _ (by assumption)|omega|skip):p:=h
theorem good_Print3:Jd Tryz.prog (67,Ca):=by
 obtain ⟨Kx,Kt,Kc,Kd,Kb,Ku,Kw,K,Y0,_⟩:=Yc Qp Z0 [] false (Xu jJ Lt.eq_def Yb);have Ko:=Ca.eq_def;refine Ve K Tryz.func67 [.tmp 2] rfl 5 rfl (fun c hc J0 Zo=>?_);unfold Ca at Zo;obtain ⟨⟨t⟩,rfl,ht⟩:=Qs Zo;simp only at ht;clear Zo;obtain ⟨vA,x,hx,hw,J8,Z8⟩:=ht;obtain ⟨S,Qz⟩:=exq (eE t);have eC:At ar t 0 x:=by rw [hx];exact Yz hw
 have Q2:prN (Vs ar t 0)=S:=Qz;have Qel:(nds x).length=t.length:=by rw [hx]
 have hA:t.length≤1000000∧∀ p∈t,vH p:=⟨vA,by rw [hx];exact J8⟩
 have hp:∃ x,At ar t 0 x∧(nds x).length<2000000∧(prN x).length≤1000000:=⟨x,eC,by omega,Z8⟩
 have Qx:(0:Int).toNat=0:=rfl;cases hc;have Ql:=@Lt.eq_def;have Q3:=@Wt.eq_def;have Kq:Kgn:=⟨⟩;exact rT
def Zbm (p:Part):Prop:=p.t.length=1∧(1≤(p.t.getD 0 n0).kind∧(p.t.getD 0 n0).kind≤4)∧(0≤p.num∧p.num≤999999999999999999)∧p.name.length≤1000000
def Oz:Con:=Xh (fun (p:Part)=>Zbm p) (fun p=>D2 p)
theorem Zam {n:Int} (h:0≤n):Lib.itoa n=Lib.decDigits n.toNat:=by
 unfold Lib.itoa;rw [if_neg (by omega)]
theorem Zda:Jd Tryz.prog (68,Oz):=by
 obtain ⟨Kx,Kt,Kc,Kd,Kb,Ku,Kw,K,Y0,Xr,_⟩:=Yc Qp Z0 [] false (Xu good_figures5 M3.eq_def (Xu good_Quote1 T6.eq_def Yb));have Ko:=Oz.eq_def;refine Ve K Tryz.func68 [.tmp 2] rfl 23 rfl (fun c hc J0 Zo=>?_);unfold Oz at Zo;obtain ⟨p,rfl,Q2,hk,hq,hn⟩:=Qs Zo;have Qz:=Qc n0 (show 0<p.t.length by omega)
 obtain ⟨R,Qx⟩:=exq (D2 p);have Ql:=Qx;unfold D2 at Ql;obtain ⟨r,hr⟩:=exq (p.t.getD 0 n0);rw [hr] at Qz hk Ql;clear Zo;obtain ⟨pk,pl,pn,pb,pm,pq,pt,pu⟩:=p;obtain ⟨nk,rn,rm⟩:=r;simp only at Q2 hk hq hn Qz Ql;have Yg:nk=1∨nk=2∨nk=3∨nk=4:=by omega
 have Qi9:=hq.1;have Qi8:=hq.2;rcases Yg with rfl|rfl|rfl|rfl
 ·rw [if_pos rfl,Zam hq.1] at Ql;cases hc;have Jl:=@List.getD_cons_zero.{0};exact Ng
 ·rw [if_neg (by omega),if_pos rfl] at Ql
  cases Ji:(pq==1) with
  | true =>
   rw [Ji] at Ql;have Q3:([116,114,117,101]:List UInt8)=R:=Ql;cases hc;have Jl:=@List.getD_cons_zero.{0};exact Ng
  | false =>
   rw [Ji] at Ql;have Q3:([102,97,108,115,101]:List UInt8)=R:=Ql;cases hc;have Jl:=@List.getD_cons_zero.{0};exact Ng
 ·rw [if_neg (by omega),if_neg (by omega),if_pos rfl,←Zff] at Ql
  cases hc;have Jl:=@List.getD_cons_zero.{0};exact Ng
 ·rw [if_neg (by omega),if_neg (by omega),if_neg (by omega)] at Ql
  cases hc;have Jl:=@List.getD_cons_zero.{0};exact Ng
section
variable {α:Type} {ar:α→Nat}
theorem Za2:∀ {l:List α} {o k:Nat},Hw ar l o=some k→o≤k∧k≤l.length
 | l,0,k,h=>by cases l<;>(simp only [Hw,Zc] at h;omega)
 | [],o+1,k,h=>by simp [Hw] at h
 | n::l,o+1,k,h=>by
  rw [Hw,Option.map_eq_some_iff] at h;obtain ⟨k',h1,rfl⟩:=h;have:=Za2 h1;simp only [Zd];omega
theorem Zdp {l:List α} {k o r:Nat} (d:α) (h:Hw ar (l.drop k) o=some r) (ho:0<o):k<l.length∧∃ r',r=r'+1∧Hw ar (l.drop (k+1)) (o-1+ar (l.getD k d))=some r':=by
 obtain ⟨o,rfl⟩:∃ p,o=p+1:=⟨o-1,by omega⟩
 rcases Nat.lt_or_ge k l.length with hk|hk
 ·refine ⟨hk,?_⟩;rw [List.drop_eq_getElem_cons hk,Hw,Option.map_eq_some_iff] at h;obtain ⟨k',h1,rfl⟩:=h;refine ⟨k',rfl,?_⟩;rw [←h1];simp [hk]
 ·rw [List.drop_eq_nil_of_le hk] at h;simp [Hw] at h
theorem Zdo {l:List α} {r:Nat} (h:Hw ar l 0=some r):r=0:=by
 cases l<;>(simp only [Hw,Zc] at h;exact h.symm)
end
def cZ (t:List Part) (i:Int):Prop:=0≤i→i<t.length→∃ x,At Xj t i.toNat x
def Sm:Con:=Vx (fun (t:Sl Part) (i:Int)=>Me t.l∧Aj .i64 i∧cZ t.l i) (fun t i=>Sf t.l i)
class Kgp:Prop
theorem Kgp.k (_:Kgp) (h:p:=by
 first|exact Zxx|exact ⟨(k+1,o-1+Xj y),by exact Xa,⟨r',hr',by simp only;omega⟩,by simp only;omega⟩|skip):p:=h
class Kgo:Prop
theorem Kgo.k (_:Kgo) (h:p:=by
 refine Z4 [14,15,16,17,18,19,20,21,22,23,24,25] (fun p:Nat×Nat=>[(1,.d (.int .i64 p.1)),(5,.d (.int .i64 p.2))]) (fun p:Nat×Nat=>[]) (fun p:Nat×Nat=>∃ r,Hw Xj (t.drop p.1) p.2=some r∧p.1+r=i+(nds x).length) (fun p:Nat×Nat=>t.length-p.1) (i,1) ?_ ?_ ?_
 ·exact ⟨_,hn,rfl⟩
 ·exact Xa
 rintro ⟨k,o⟩ ⟨r,hr,aH⟩;simp only at hr aH;rcases Ub 0 o with ⟨h2,Ql⟩|⟨h2,Ql⟩
 ·obtain ⟨Qg,r',rfl,hr'⟩:=Zdp e0 hr (by omega)
  have Q3:=Qc e0 Qg;have M8:=Za2 hr';rw [List.length_drop] at M8;obtain ⟨y,hy⟩:=exq (t.getD k e0);have Qbp:=hm y (by rw [←hy];simp [Qg])
  rw [hy] at Q3 M8 hr';have Ji:=Yu y;have Jl:(o:Int)+((Xj y:Int)-1)=((o-1+Xj y:Nat):Int):=by omega
  have Zxx:=Qbp.2.2;have Qim:Xj y≤60:=by have:=Qbp.2.1;omega
  have Kq:Kgp:=⟨⟩;exact Qa
 ·have ho:o=0:=by omega
  have Zym:r=0:=by rw [ho] at hr;exact Zdo hr
  have Js:(k:Int)=R:=by rw [Db];omega
  exact A4):p:=h
theorem good_EndA:Jd Tryz.prog (16,Sm):=by
 obtain ⟨Kx,Kt,Kc,Kd,Kb,Ku,Kw,K,Y0,_⟩:=Yc Qp Z0 [] false (Xu Tk Ns.eq_def Yb);have Ko:=Sm.eq_def;refine Ve K Tryz.func16 [.tmp 4] rfl 27 rfl (fun c hc J0 Zo=>?_);unfold Sm at Zo;obtain ⟨⟨t⟩,i,rfl,⟨ht,hm⟩,hi,hx⟩:=Jh Zo;simp only at ht hm hx;rw [Xx] at hi;clear Zo;obtain ⟨R,Q2⟩:=exq (Sf t i);have Qj:=Q2;unfold Sf at Qj;cases hc;rcases Ub i 0 with ⟨h0,Qz⟩|⟨h0,Qz⟩
 ·rw [if_pos (.inl h0)] at Qj;subst Qj;exact A4
 rcases G9 t.length i.toNat with ⟨h1,Qx⟩|⟨h1,Qx⟩
 ·rw [if_pos (.inr (by omega))] at Qj
  subst Qj;rw [show ((i.toNat:Nat):Int)=i by omega] at Qx
  exact A4
 obtain ⟨x,hx⟩:=hx (by omega) (by omega)
 obtain ⟨i,rfl⟩:∃ n:Nat,i=n:=⟨i.toNat,by omega⟩
 simp only [Zp] at hx h1 Qx;have hn:=qH hx;have Db:R=((i+(nds x).length:Nat):Int):=by rw [←Q2];exact fG hx
 have Kq:Kgo:=⟨⟩;exact Qa
end Go.Am.Ty
