/- Contracts of functions that the law reaches, and plain laws. Conditions: those that each contract states. -/
import Derived.Test.YtilpfkjhahnfaaaGreatF9
set_option maxHeartbeats 8000000
set_option linter.unusedVariables false
set_option linter.unusedSimpArgs false
variable {p:Prop}
set_option maxRecDepth 100000
namespace Go.Am.Ty
open Go.Proofs Gr
open Enc (enc dec)
def Zts (p:List UInt8) (x:Def6):Bd:=⟨p++x.name,x.t⟩
def Cr (i:List UInt8) (x:Mod6):List Bd:=if x.name=i then x.defs.map (Zts (x.name++[33])) else []
def gX (l:List Mod6) (i:List UInt8):List Bd:=l.flatMap (Cr i)
def Zxe (l:List Mod6) (m d:Nat):List Bd:=(l.getD m Js).imps.flatMap (gX l)++((l.getD m Js).defs.take d).map (Zts [])
def Ir (l:List Mod6) (m d:Int):List Bd :=
 if m<0∨(l.length:Int)≤m∨d<0∨((l.getD m.toNat Js).defs.length:Int)≤d then [] else Zxe l m.toNat d.toNat
structure EnvOk (l:List Mod6):Prop where
 len:l.length≤20
 name:∀ m∈l,m.name.length≤1000000
 iname:∀ m∈l,∀ i∈m.imps,i.length≤1000000
 dname:∀ m∈l,∀ d∈m.defs,d.name.length≤1000000
 imps:∀ m∈l,m.imps.length≤2000
 defs:∀ m∈l,m.defs.length≤1000
theorem Ad {α β:Type} {f:α→List β} {c:Nat}:∀ {l:List α},(∀ x∈l,(f x).length≤c)→(l.flatMap f).length≤c*l.length
 | [],_=>by simp
 | x::l,h=>by
  have h1:=h x (by simp)
  have h2:=Ad (f:=f) (c:=c) (l:=l) fun y hy=>h y (by simp [hy])
  rw [List.flatMap_cons,Zh,Zj,Nat.mul_add];omega
theorem Zlf {l:List Mod6} (h:EnvOk l) {x:Mod6} (hx:x∈l) (i:List UInt8):(Cr i x).length≤1000:=by
 unfold Cr;split
 ·rw [Zo];exact h.defs x hx
 ·simp
theorem Zui {l:List Mod6} (h:EnvOk l) (i:List UInt8):(gX l i).length≤20000:=by
 have:=Ad (f:=Cr i) (c:=1000) (l:=l) fun x hx=>Zlf h hx i;have:=h.len;unfold gX;omega
theorem Zqp {l:List Mod6} (h:EnvOk l) (is:List (List UInt8)):(is.flatMap (gX l)).length≤20000*is.length:=Ad fun x _=>Zui h x
theorem Ac {α β:Type} (f:α→List β) (z:α) {l:List α} {k:Nat} (h:k<l.length):(l.take (k+1)).flatMap f=(l.take k).flatMap f++f (l.getD k z):=by
 rw [Km z h,List.flatMap_append];simp
theorem Zsm {α β:Type} (f:α→β) (z:α) {l:List α} {k:Nat} (h:k<l.length):(l.take (k+1)).map f=(l.take k).map f++[f (l.getD k z)]:=by
 rw [Km z h,List.map_append];simp
def Iw (l:List Mod6) (is:List (List UInt8)) (i:Nat):List Bd:=(is.take i).flatMap (gX l)
def fZ (l:List Mod6) (x:List UInt8) (E:List Bd) (k:Nat):List Bd:=E++(l.take k).flatMap (Cr x)
def Sw (p:List UInt8) (ds:List Def6) (E:List Bd) (j:Nat):List Bd:=E++(ds.take j).map (Zts p)
theorem Zij {l:List Mod6} {is:List (List UInt8)}:Iw l is 0=[]:=by simp [Iw]
theorem Ztm {l:List Mod6} {x:List UInt8} {E:List Bd}:fZ l x E 0=E:=by simp [fZ]
theorem cH {p:List UInt8} {ds:List Def6} {E:List Bd}:Sw p ds E 0=E:=by simp [Sw]
theorem Zik {l:List Mod6} {is:List (List UInt8)} {i:Nat} (h:i<is.length):Iw l is (i+1)=fZ l (is.getD i []) (Iw l is i) l.length:=by
 unfold Iw fZ;rw [Ac (gX l) [] h,List.take_length];rfl
theorem Zil {l:List Mod6} {is:List (List UInt8)}:Iw l is is.length=is.flatMap (gX l):=by
 unfold Iw;rw [List.take_length]
theorem Ztn {l:List Mod6} {x:List UInt8} {E:List Bd} {k:Nat} (h:k<l.length):fZ l x E (k+1)=fZ l x E k++Cr x (l.getD k Js):=by
 unfold fZ;rw [Ac (Cr x) Js h,List.append_assoc]
theorem cI {p:List UInt8} {ds:List Def6} {E:List Bd} {j:Nat} (h:j<ds.length):Sw p ds E (j+1)=Sw p ds E j++[Zts p (ds.getD j Jx)]:=by
 unfold Sw;rw [Zsm (Zts p) Jx h,List.append_assoc]
theorem Zim {p:List UInt8} {ds:List Def6} {E:List Bd}:Sw p ds E ds.length=E++ds.map (Zts p):=by
 unfold Sw;rw [List.take_length]
theorem kZ {p:List UInt8} {ds:List Def6} {E:List Bd} {j:Nat}:(Sw p ds E j).length≤E.length+ds.length:=by
 unfold Sw;rw [Zh,Zo,List.length_take];omega
theorem Znk {l:List Mod6} (h:EnvOk l) {is:List (List UInt8)} {i:Nat}:(Iw l is i).length≤20000*is.length:=by
 have:=Zqp h (is.take i);rw [List.length_take] at this;unfold Iw;omega
theorem Zv5 {l:List Mod6} (h:EnvOk l) {x:List UInt8} {E:List Bd} {k:Nat}:(fZ l x E k).length≤E.length+20000:=by
 have h1:=Ad (f:=Cr x) (c:=1000) (l:=l.take k) fun y hy=>Zlf h (List.mem_of_mem_take hy) x;have h2:=h.len;rw [List.length_take] at h1;unfold fZ;rw [Zh];omega
def jI:Con:=Uj (fun (l:Sl Mod6) (_ _:Int)=>EnvOk l.l) (fun l m d=>Sl.mk (Ir l.l m d))
structure KfS:Prop
theorem KfS.k (_:KfS) (h:p:=by
 repeat' first|exact Z1|with_reducible apply Zb|intro _
 all_goals first|with_reducible exact Qo|omega|(simp only [Zh,Zj,List.length_nil];omega)|exact ⟨j+1,by rw [hsn4];(have Um:=@Nt;exact Qk),by omega,by omega⟩|skip):p:=h
structure KfT:Prop
theorem KfT.k (_:KfT) (h:p:=by
 repeat' first|exact Z1|with_reducible apply Zb|intro _
 all_goals first|with_reducible exact Qo|omega|exact ⟨k+1,by exact Qk,by omega,by omega⟩|skip):p:=h
structure KfR:Prop
theorem KfR.k (_:KfR) (h:p:=by
 repeat' first|exact Z1|with_reducible apply Zb|intro _
 all_goals first|with_reducible exact Qo|omega|skip
 refine Zi [11,53,54,55,56,57,58,59,60,61,62,63,64,65,66,67,68,69,70,71,72,73,74,75,76,77,78,79,80,81,82,83,84,85,86,87,88,89,90,91,92,93,94,95,96,97,98,99,100,101] (fun j:Nat=>[(7,.sl 13 ((Sw (yn++[33]) yd F j).map (enc:Bd→D)).length),(10,.d (.int .i64 j))]) (fun j:Nat=>[(13,.row 2 ((Sw (yn++[33]) yd F j).map enc) 0)]) (fun j:Nat=>j≤yd.length) (fun j:Nat=>yd.length-j) 0 ?_ ?_ ?_
 ·omega
 ·have Um:=@cH;exact Qk
 rintro j hj;have hGl:=kZ (p:=yn++[33]) (ds:=yd) (E:=F) (j:=j);rcases Zn j yd.length with ⟨hjlt,Zz⟩|⟨hjlt,Zz⟩
 ·have Z3:=Zr Jx hjlt;have hsn4:=cI (p:=yn++[33]) (E:=F) hjlt;have hzn:=hkdn (yd.getD j Jx) (by simp [hjlt])
  obtain ⟨Z,hZ⟩:=exq (yd.getD j Jx);rw [hZ] at Z3 hsn4 hzn;obtain ⟨zn,zt,ze⟩:=Z;simp only at hzn;obtain ⟨G,hG⟩:=exq (Sw (yn++[33]) yd F j);rw [hG] at hsn4 hGl ⊢;have hbn:Zts (yn++[33]) ⟨zn,zt,ze⟩=⟨yn++[33]++zn,zt⟩:=rfl;rw [hbn] at hsn4;clear hkdn hin;have Z9:=@Zff;have Kq:KfS:=⟨⟩;exact Gk
 ·have hje:j=yd.length:=by omega
  have hnx:Sw (yn++[33]) yd F j=fZ l x E (k+1):=by rw [hsn2,hje,Zim]
  rw [hnx];clear hkdn hin;have Z9:=@Zff;have Kq:KfT:=⟨⟩;exact Gk):p:=h
structure KfV:Prop
theorem KfV.k (_:KfV) (h:p:=by
 repeat' first|exact Z1|with_reducible apply Zb|intro _
 all_goals first|with_reducible exact Qo|omega|exact ⟨k+1,by rw [hsn2];exact Qk,by omega,by omega⟩|skip):p:=h
structure KfW:Prop
theorem KfW.k (_:KfW) (h:p:=by
 repeat' first|exact Z1|with_reducible apply Zb|intro _
 all_goals first|with_reducible exact Qo|omega|exact ⟨k+1,by rw [hsn2];exact Qk,by omega,by omega⟩|skip):p:=h
structure KfU:Prop
theorem KfU.k (_:KfU) (h:p:=by
 repeat' first|exact Z1|with_reducible apply Zb|intro _
 all_goals first|with_reducible exact Qo|omega|skip
 refine Zi [11,53,54,55,56,57,58,59,60,61,62,63,64,65,66,67,68,69,70,71,72,73,74,75,76,77,78,79,80,81,82,83,84,85,86,87,88,89,90,91,92,93,94,95,96,97,98,99,100,101] (fun j:Nat=>[(7,.sl 13 (F.map (enc:Bd→D)).length),(10,.d (.int .i64 0))]) (fun j:Nat=>[(13,.row 2 (F.map enc) 0)]) (fun j:Nat=>True) (fun j:Nat=>0) 0 ?_ ?_ ?_
 ·trivial
 ·exact Qk
 rintro j -;rcases Zn 0 yd.length with ⟨hjlt,Zz⟩|⟨hjlt,Zz⟩
 ·rw [Int.natCast_zero] at Zz;have Z9:=@Zff;have Kq:KfV:=⟨⟩;exact Gk
 ·rw [Int.natCast_zero] at Zz;have Z9:=@Zff;have Kq:KfW:=⟨⟩;exact Gk):p:=h
structure KfX:Prop
theorem KfX.k (_:KfX) (h:p:=by
 repeat' first|exact Z1|with_reducible apply Zb|intro _
 all_goals first|with_reducible exact Qo|omega|exact ⟨i+1,by exact Qk,by omega,by omega⟩|skip):p:=h
structure KfQ:Prop
theorem KfQ.k (_:KfQ) (h:p:=by
 repeat' first|exact Z1|with_reducible apply Zb|intro _
 all_goals first|with_reducible exact Qo|omega|skip
 refine Zi [10,11,47,48,49,50,51,52,53,54,55,56,57,58,59,60,61,62,63,64,65,66,67,68,69,70,71,72,73,74,75,76,77,78,79,80,81,82,83,84,85,86,87,88,89,90,91,92,93,94,95,96,97,98,99,100,101] (fun k:Nat=>[(7,.sl 13 ((fZ l x E k).map (enc:Bd→D)).length),(9,.d (.int .i64 k))]) (fun k:Nat=>[(13,.row 2 ((fZ l x E k).map enc) 0)]) (fun k:Nat=>k≤l.length) (fun k:Nat=>l.length-k) 0 ?_ ?_ ?_
 ·omega
 ·have Um:=@Ztm;exact Qk
 rintro k hk;have hFl:=Zv5 hE (x:=x) (E:=E) (k:=k);rcases Zn k l.length with ⟨hklt,Q4⟩|⟨hklt,Q4⟩
 ·have Z0:=Zr Js hklt;have hsn2:=Ztn (x:=x) (E:=E) hklt;have hkmem:l.getD k Js∈l:=by simp [hklt]
  have hkd:=hE.defs _ hkmem;have hkn:=hE.name _ hkmem;have hkdn:=hE.dname _ hkmem;obtain ⟨Y,hY⟩:=exq (l.getD k Js);rw [hY] at Z0 hsn2 hkd hkn hkdn;obtain ⟨yn,yi,yd,ys⟩:=Y;simp only at hkd hkn hkdn;have hof:Cr x ⟨yn,yi,yd,ys⟩=if yn=x then yd.map (Zts (yn++[33])) else []:=rfl
  rw [hof] at hsn2;obtain ⟨F,hF⟩:=exq (fZ l x E k);rw [hF] at hFl hsn2 ⊢;have hFlen:F.length≤20000*2000+20000:=by omega
  by_cases hyn:yn=x
  ·rw [if_pos hyn] at hsn2;have Z7:(yn==x)=true:=by rw [Zm];exact hyn
   have Z9:=@Zff;have Kq:KfR:=⟨⟩;exact Gk
  ·rw [if_neg hyn,List.append_nil] at hsn2;have Z7:(yn==x)=false:=by rw [Za];exact hyn
   clear hkdn hin;have Z9:=@Zff;have Kq:KfU:=⟨⟩;exact Gk
 ·have hkl:k=l.length:=by omega
  have hnx:fZ l x E k=Iw l mi (i+1):=by rw [hkl,hsn]
  rw [hnx];clear hin;have Z9:=@Zff;have Kq:KfX:=⟨⟩;exact Gk):p:=h
structure KfZ:Prop
theorem KfZ.k (_:KfZ) (h:p:=by
 repeat' first|exact Z1|with_reducible apply Zb|intro _
 all_goals first|with_reducible exact Qo|omega|exact ⟨j+1,by rw [hsn4];(have Um:=@Nt;exact Qk),by omega,by omega⟩|skip):p:=h
structure KfY:Prop
theorem KfY.k (_:KfY) (h:p:=by
 repeat' first|exact Z1|with_reducible apply Zb|intro _
 all_goals first|with_reducible exact Qo|omega|skip
 refine Zi [102,103,104,105,106,107,108,109,110,111,112,113,114,115,116,117,118,119,120,121,122,123,124,125,126,127,128] (fun j:Nat=>[(7,.sl 13 ((Sw [] md E j).map (enc:Bd→D)).length),(12,.d (.int .i64 j))]) (fun j:Nat=>[(13,.row 2 ((Sw [] md E j).map enc) 0)]) (fun j:Nat=>j≤d) (fun j:Nat=>d-j) 0 ?_ ?_ ?_
 ·omega
 ·have Um:=@cH;exact Qk
 rintro j hj;have hGl:=kZ (p:=[]) (ds:=md) (E:=E) (j:=j);rcases Zn j d with ⟨hjlt,Zz⟩|⟨hjlt,Zz⟩
 ·have hjm:j<md.length:=by omega
  have Z3:=Zr Jx hjm;have hsn4:=cI (p:=[]) (E:=E) hjm;obtain ⟨Z,hZ⟩:=exq (md.getD j Jx);rw [hZ] at Z3 hsn4;obtain ⟨zn,zt,ze⟩:=Z;obtain ⟨G,hG⟩:=exq (Sw [] md E j);rw [hG] at hsn4 hGl ⊢;have hbn:Zts [] ⟨zn,zt,ze⟩=⟨zn,zt⟩:=rfl;rw [hbn] at hsn4;have Z9:=@Zff;have Kq:KfZ:=⟨⟩;exact Gk
 ·have hje:j=d:=by omega
  rw [hje] at Zz ⊢;rw [hR3];have Z9:=@Zff;exact E5):p:=h
structure KfP:Prop
theorem KfP.k (_:KfP) (h:p:=by
 repeat' first|exact Z1|with_reducible apply Zb|intro _
 all_goals first|with_reducible exact Qo|omega|skip
 have hin:=hE.iname _ hmem0;rw [hM] at hin;simp only at hin;refine Zi [9,10,11,37,38,39,40,41,42,43,44,45,46,47,48,49,50,51,52,53,54,55,56,57,58,59,60,61,62,63,64,65,66,67,68,69,70,71,72,73,74,75,76,77,78,79,80,81,82,83,84,85,86,87,88,89,90,91,92,93,94,95,96,97,98,99,100,101] (fun i:Nat=>[(7,.sl 13 ((Iw l mi i).map (enc:Bd→D)).length),(8,.d (.int .i64 i))]) (fun i:Nat=>[(13,.row 2 ((Iw l mi i).map enc) 0)]) (fun i:Nat=>i≤mi.length) (fun i:Nat=>mi.length-i) 0 ?_ ?_ ?_
 ·omega
 ·have Um:=@Zij;exact Qk
 rintro i hi;have hEl:=Znk hE (is:=mi) (i:=i);rcases Zn i mi.length with ⟨hilt,Qz⟩|⟨hilt,Qz⟩
 ·have Qv:=Zr ([]:List UInt8) hilt;have hsn:=Zik (l:=l) hilt;obtain ⟨x,hx⟩:=exq (mi.getD i []);rw [hx] at Qv hsn;have Qv:el (mi.map enc) i=(.str x:D):=Qv;obtain ⟨E,hEq⟩:=exq (Iw l mi i);rw [hEq] at hsn hEl ⊢;have Z9:=@Zff;have Kq:KfQ:=⟨⟩;exact Gk
 ·have hie:i=mi.length:=by omega
  rw [hie] at hEl Qz ⊢;rw [Zil] at hEl ⊢;obtain ⟨E,hEq⟩:=exq (mi.flatMap (gX l));rw [hEq] at hEl hR2 ⊢;have hEl2:E.length≤40000000:=by omega
  have hR3:Sw [] md E d=R:=hR2;clear hin;have Z9:=@Zff;have Kq:KfY:=⟨⟩;exact Gk):p:=h
theorem good_Env9:Qq Tryz.prog (21,jI):=by
 obtain ⟨Kx,Kt,Kc,Kd,Kb,Ku,Kw,K,_⟩:=X2 Z4 Zq [] false X1;have Ko:=jI.eq_def;refine Wh K Tryz.func21 [.tmp 6] rfl 130 rfl (fun c hc cvs hpre=>?_);unfold jI at hpre;obtain ⟨⟨l⟩,m,d,rfl,hE⟩:=Mg hpre;simp only at hE;clear hpre;obtain ⟨R,Qe⟩:=exq (Ir l m d);have hR2:=Qe;unfold Ir at hR2;have hlen:=hE.len;cases hc;refine Yv 8 ?_;rcases Xx m 0 with ⟨h1,Qd⟩|⟨h1,Qd⟩
 ·rw [if_pos (.inl h1)] at hR2;subst hR2;have Z9:=@Zff;exact E5
 obtain ⟨m,rfl⟩:∃ n:Nat,m=n:=⟨m.toNat,by omega⟩
 rcases aS (l.length:Int) (m:Int) with ⟨h2,Z6⟩|⟨h2,Z6⟩
 ·rw [if_pos (.inr (.inl h2))] at hR2;subst hR2;have Z9:=@Zff;exact E5
 rcases Xx d 0 with ⟨h3,Qa⟩|⟨h3,Qa⟩
 ·rw [if_pos (.inr (.inr (.inl h3)))] at hR2;subst hR2;have Z9:=@Zff;exact E5
 obtain ⟨d,rfl⟩:∃ n:Nat,d=n:=⟨d.toNat,by omega⟩
 have hml:m<l.length:=by omega
 have Qh:=Zr Js hml;have hmem:l.getD m Js∈l:=by simp [hml]
 have hmem0:=hmem;have hil:=hE.imps _ hmem;have hdl:=hE.defs _ hmem;rw [Zf,Zf] at hR2;unfold Zxe at hR2;obtain ⟨M,hM⟩:=exq (l.getD m Js);rw [hM] at Qh hil hdl hR2;obtain ⟨mn,mi,md,ms⟩:=M;simp only at hil hdl hR2;have Qp:((m:Nat):Int).toNat=m:=Zf m;rcases aS (md.length:Int) (d:Int) with ⟨h4,Qc⟩|⟨h4,Qc⟩
 ·rw [if_pos (.inr (.inr (.inr h4)))] at hR2;subst hR2;have Z9:=@Zff;exact E5
 rw [if_neg (by omega)] at hR2
 have Z9:=@Zff;have Kq:KfP:=⟨⟩;exact Gk
theorem Zh2 {x y:List UInt8}:D.eqb (.str x) (.str y)=(x==y):=rfl
theorem Hn:∀ {ks:List (List UInt8)},K2 .str (ks.map enc)=True
 | []=>rfl
 | k::ks=>by
  show (True∧K2 .str (ks.map enc))=True;rw [Hn,true_and]
theorem Rw {x:List UInt8}:∀ {ks:List (List UInt8)},Di (.str x) (ks.map enc)=Xn x ks
 | []=>rfl
 | k::ks=>by
  show (D.eqb (.str x) (.str k)||Di (.str x) (ks.map enc))=_;rw [Rw,Zh2,Xn]
theorem Zqe {x:List UInt8} {z:Mod6}:∀ {ks:List (List UInt8)} {vs:List Mod6},Iq (.str x) (enc z) (ks.map enc) (vs.map enc)=enc (K5 x z ks vs)
 | [],vs=>by cases vs<;>rfl
 | k::ks,[]=>rfl
 | k::ks,v::vs=>by
  show cond (D.eqb (.str x) (.str k)) (enc v) (Iq (.str x) (enc z) (ks.map enc) (vs.map enc))=_;rw [Zqe,Zh2,K5];cases x==k<;>rfl
theorem Zuj {x:List UInt8} {ks:List (List UInt8)} {vs:List Mod6}:Iq (.str x) (.agg [.str [],.list 1 [],.list 3 [],.list 3 []]) (ks.map enc) (vs.map enc)=enc (K5 x Js ks vs):=Zqe (z:=Js)
theorem Dx {x:List UInt8} {ks:List (List UInt8)}:Oh (.str x) (ks.map enc)=(Vd x ks).map enc:=by
 unfold Oh Vd;rw [Rw];cases Xn x ks
 ·simp only [cond_false,List.map_append,List.map_cons,List.map_nil];rfl
 ·rfl
theorem Zlw {x:List UInt8} {v:Mod6}:∀ {ks:List (List UInt8)} {vs:List Mod6},Bh (.str x) (enc v) (ks.map enc) (vs.map enc)=(Hi x v ks vs).map enc
 | [],vs=>by cases vs<;>rfl
 | k::ks,[]=>rfl
 | k::ks,u::vs=>by
  show cond (D.eqb (.str x) (.str k)) (enc v::vs.map enc) (enc u::Bh (.str x) (enc v) (ks.map enc) (vs.map enc))=_;rw [Zlw,Zh2,Hi];cases x==k<;>rfl
structure MM where
 ks:List (List UInt8)
 vs:List Mod6
instance encMM:Enc MM:=⟨fun a=>.map (a.ks.map enc) (a.vs.map enc),fun x=>match x with
 | .map a b=>⟨a.map dec,b.map dec⟩
 | _=>⟨[],[]⟩,fun a=>by
  obtain ⟨k,v⟩:=a;have h1:(k.map (enc:List UInt8→D)).map dec=k:=J2;have h2:(v.map (enc:Mod6→D)).map dec=v:=J2;simp only [h1,h2]⟩
theorem Zvc {a:List (List UInt8)} {b:List Mod6}:(enc (MM.mk a b):D)=.map (a.map enc) (b.map enc):=rfl
def P5 (l:List Mod6):Nat→MM
 | 0=>⟨[],[]⟩
 | k+1=>⟨Vd (nm l k) (P5 l k).ks,Hi (nm l k) (l.getD k Js) (P5 l k).ks (P5 l k).vs⟩
def Znp (l:List Mod6):Prop:=∀ i j,i<j→j<l.length→nm l i≠nm l j
theorem Zlm (l:List Mod6):∀ k,(P5 l k).ks.length=(P5 l k).vs.length
 | 0=>rfl
 | k+1=>by
  show (Vd (nm l k) (P5 l k).ks).length=(Hi (nm l k) (l.getD k Js) (P5 l k).ks (P5 l k).vs).length;rw [lI (Zlm l k)]
theorem Zwz {l:List Mod6} {k:Nat}:(l.getD k Js).name=nm l k:=rfl
theorem Zln {l:List Mod6} (hD:Znp l) (i:List UInt8):∀ k,k≤l.length→(K5 i Js (P5 l k).ks (P5 l k).vs).defs.map (Zts (i++[33]))=(l.take k).flatMap (Cr i)∧(K5 i Js (P5 l k).ks (P5 l k).vs∈l∨K5 i Js (P5 l k).ks (P5 l k).vs=Js)
 | 0,_=>⟨rfl,.inr rfl⟩
 | k+1,hk=>by
  obtain ⟨ih1,ih2⟩:=Zln hD i k (by omega)
  have hkl:k<l.length:=by omega
  have hM:P5 l (k+1)=⟨Vd (nm l k) (P5 l k).ks,Hi (nm l k) (l.getD k Js) (P5 l k).ks (P5 l k).vs⟩:=rfl;rw [hM];simp only;rw [Zd4 (Zlm l k),Ac (Cr i) Js hkl];cases h:(i==nm l k) with
  | false =>
   rw [Za] at h;rw [cond_false,ih1];refine ⟨?_,ih2⟩;unfold Cr;rw [if_neg (fun e=>h e.symm),List.append_nil]
  | true =>
   have h:=eq_of_beq h;rw [cond_true];refine ⟨?_,.inl (by simp [hkl])⟩
   have hz:(l.take k).flatMap (Cr i)=[]:=by
    rw [List.flatMap_eq_nil_iff];intro x hx;obtain ⟨j,hj,rfl⟩:=List.mem_iff_getElem.1 hx;rw [List.length_take] at hj;unfold Cr;rw [if_neg];intro e;refine hD j k (by omega) hkl ?_
    have hj2:j<l.length:=by omega
    have hg:l.getD j m0=l[j]:=by simp [hj2]
    show (l.getD j m0).name=nm l k;rw [←h,←e,hg,List.getElem_take]
   rw [hz,List.nil_append];unfold Cr;have h2:(l.getD k Js).name=i:=h.symm;rw [if_pos h2,h2]
def Tu:Con:=Xj (fun (l:Sl Mod6)=>l.l.length≤1000000) (fun l=>P5 l.l l.l.length)
structure Kgb:Prop
theorem Kgb.k (_:Kgb) (h:p:=by
 repeat' first|exact Z1|with_reducible apply Zb|intro _
 all_goals first|with_reducible exact Qo|omega|exact ⟨k+1,by rw [hS];exact Qk,by omega,by omega⟩|skip):p:=h
structure Kga:Prop
theorem Kga.k (_:Kga) (h:p:=by
 repeat' first|exact Z1|with_reducible apply Zb|intro _
 refine Zi [5,10,11,12,13,14,15,16,17] (fun k:Nat=>[(9,.d (.int .i64 k))]) (fun k:Nat=>[(6,.mp ((P5 l k).ks.map enc) ((P5 l k).vs.map enc) false)]) (fun k:Nat=>k≤l.length) (fun k:Nat=>l.length-k) 0 ?_ ?_ ?_
 ·omega
 ·have Um:=@P5.eq_1;have Ix:=@P5.eq_2;exact Qk
 rintro k hk;rcases Zn k l.length with ⟨hlt,Qd⟩|⟨hlt,Qd⟩
 ·have Qe:=Zr Js hlt;have hS:P5 l (k+1)=⟨Vd (nm l k) (P5 l k).ks,Hi (nm l k) (l.getD k Js) (P5 l k).ks (P5 l k).vs⟩:=rfl;rw [←Zwz] at hS;obtain ⟨x,hx⟩:=exq (l.getD k Js);obtain ⟨A,Qa⟩:=exq (P5 l k);rw [hx] at Qe;rw [hx,Qa] at hS;rw [Qa];obtain ⟨ks,vs⟩:=A;obtain ⟨mn,mi,md,ms⟩:=x;simp only at hS;have Z6:=Zlw (x:=mn) (v:=⟨mn,mi,md,ms⟩) (ks:=ks) (vs:=vs);rw [Jb] at Z6;have Qc:=@Hn;have Qh:=@Rw;have Qp:=@Dx;have Kq:Kgb:=⟨⟩;exact Gk
 ·have hkl:k=l.length:=by omega
  rw [hkl];rw [hkl] at Qd;obtain ⟨A,Qa⟩:=exq (P5 l l.length);rw [Qa];obtain ⟨ks,vs⟩:=A;have Qc:=@Zvc;exact E5):p:=h
theorem good_modulesS:Qq Tryz.prog (50,Tu):=by
 obtain ⟨Kx,Kt,Kc,Kd,Kb,Ku,Kw,K,_⟩:=X2 Z4 Zq [] false X1;have Ko:=Tu.eq_def;refine Wh K Tryz.func50 [.tmp 2] rfl 19 rfl (fun c hc cvs hpre=>?_);unfold Tu at hpre;obtain ⟨⟨l⟩,rfl,hl⟩:=Jr hpre;simp only at hl;clear hpre;cases hc;have Kq:Kga:=⟨⟩;exact Gk
def Bo {A B C E:Type} [Enc A] [Enc B] [Enc C] [Enc E] [Sz E] (p:A→B→C→Prop) (f:A→B→C→List E):Con:=⟨[false,false,false],[true],fun c=>match c with
 | [.d x,.d y,.d z]=>K3 A x∧K3 B y∧K3 C z∧p (dec x) (dec y) (dec z)
 | _=>False,fun c=>match c with
 | [.d x,.d y,.d z]=>.own (Sz.sz E) ((f (dec x) (dec y) (dec z)).map enc)
 | _=>.d .nilp⟩
theorem Ztd {A B C E:Type} [Enc A] [Enc B] [Enc C] [Enc E] [Sz E] {p:A→B→C→Prop} {f:A→B→C→List E} {c:List CV} (h:(Bo p f).pre c):∃ a b d,c=[.d (enc a),.d (enc b),.d (enc d)]∧p a b d:=by
 unfold Bo at h;simp only at h;split at h
 ·next x y z=>exact ⟨dec x,dec y,dec z,by rw [←h.1,←h.2.1,←h.2.2.1],h.2.2.2⟩
 ·exact h.elim
def O9:Con:=Bo (fun (l:Sl Mod6) (_ _:Int)=>EnvOk l.l∧Znp l.l) (fun l m d=>Ir l.l m d)
theorem Zwo {p:Prop} (h:p:=by (sym=>simp [Kt,Kc,Kd,Kb,Ku,Kw,Ko,W4,Gd,M4,Ln,Ek,cL,fW,oB,Zcc,Zcb,Qd,Qe,Z6,Qa,Qc,Qh,Qp,Qz,Qv,Q4,Z0,Z3,Zz,Z7,Z9,Qg,Zv,Zw,Qn,Q6,Q5,Ja,Q7,Q0,Jo,Jj,Wx,X9,Wq,Wp,Wo,Ur,Uq,Up,Kj,Ki,Kh,Ka,Q2,Q1,kW,Jp,Ji,Bo.eq_def,Zee,Xo,Qj,Y2,Nt,J0,Zvc,Jb,Qb,Y1,Zdt,Xm,Qi,Yz,J7,Hn,Zuj,Yn,Rw,Wm,Dx,Ql,Zff,P4,S1,L4,Pe,Zbv,Zbu,Zbt,Zbs,Zbr,Zbq,Zbp,Zbo,Zbn,Zbm,Zbl,Zbk,Zbj,Zbi,Zbh,Zbg,Zbf,Zbe,Zbd,Zbc,Zbb,Zba,Za9,Za8,Za7,Za6,Za5,Za4,Za3,Za2,Za1,Za0,Zaz,Zay,Zax,Zaw,Zav,Zau,Zat,Zas,Zar,Zaq,Zap,Zao,Zan,Zam,Zal,Zak,Zaj,Zai,Zah,Zag,Zaf,Zae,Zad,Zac,Zab,Zaa,zU,zT,zS,zR,zP,zO,zN,zM,zL,zI,zH,zG,zF,zE,zC,zB,zK,zW,zV,zY,zJ,zX,zZ,zQ,yU,yT,yS,yR,yP,yO,yN,yM,yL,yI,yH,yG,yF,yE,yD,yC,yB,yA,yK,yW,yV,yY,yJ,yX,yZ,yQ,xU,xT,xS,xR,xP,xO,xN,xM,xL,xI,xH,xG,xF,xE,xD,xC,xB,xA,xK,xW,xV,xY,xJ,xX,xZ,xQ,wU,wT,wS,wR,wL,wI,wH,wG,wF,wE,wD,wC,wA,wK,wW,wV,wY,wJ,wX,wZ,wQ,vU,vT,vS,vR,vP,vO,vN,vM,vL,vI,vH,vG,vF,vE,vD,vC,vB,vA,vK,vW,vV,vY,vJ,vX,vZ,vQ,uU,uT,uS,uR,uP,uO,uN,uM,uL,uI,uH,uG,uF,uE,uD,uC,uB,uA,uK,uW,uV,uY,uJ,uX,uZ,uQ,tU,tT,tS,tR,tP,tO,tN,tM,tL,tI,tH,tG,tF,tE,tD,tC,tB,tA,tK,tW,tV,tY,tJ,tX,tZ,tQ,sU,sT,sS,sR,sP,sO,sN,sM,sL,sI,sH,sG,sF,sE,sD,sC,sB,sA,sK,sW,sV,sY,sJ,sX,sZ,sQ,rU,rT,rS,rR,rP,rO,rN,rM,rL,rI,rH,rG,rF,rE,rD,rC,rB,rA,rK,rW,rV,rY,rJ,rX,rZ,rQ,qU,qT,qS,qR,qP,qO,qN,qM,qL,qI,qH,qG,qF,qE,qD,qC,qB,qA,qK,qW,qV,qY,qJ,qX,qZ,qQ,pU,pT,pS,pR,pL,pI,pH,pG,pF,pE,pD,pC,pA,pK,pW,pV,pY,pJ,pX,pZ,pQ,oU,oT,oS,oR,oP,oO,oN,oM,oL,oI,oH,oG,oF,oE,oD,oC,Tc,Tb,Ta,S9,S8,S7,Nk,Nj,Ni,Nh,Ng,Nf,Nd,Nc,Nb,Na,H9,H8,H7,H6,H5,H4,H3,H2,H0,Hz,Hy,Hx,Hw,Hv,Hu,Ht,Hs,Uc,Ub,Ua,V9,V8,V7,V6,V5,V4,V3,V2,V0,Vz,Vy,Vx,Vw,Vv,Vu,Vt,Vs,Vr,Vq,Vp,Vo,Vn,Vm,Vl,Vk,Vj,Vi,Vh])):p:=h
theorem Yh {p:Prop} (h:p:=by
 (sym=>simp [Kt,Kc,Kd,Kb,Ku,Kw,Ko,W4,Gd,M4,Ln,Ek,cL,fW,oB,Zcc,Zcb,Qd,Qe,Z6,Qa,Qc,Qh,Qp,Qz,Qv,Q4,Z0,Z3,Zz,Z7,Z9,Qg,Zv,Zw,Qn,Q6,Q5,Ja,Q7,Q0,Jo,Jj,Wx,X9,Wq,Wp,Wo,Ur,Uq,Up,Kj,Ki,Kh,Ka,Q2,Q1,kW,Jp,Ji,Bo.eq_def,Zee,Xo,Qj,Y2,Nt,J0,Zvc,Jb,Qb,Y1,Zdt,Xm,Qi,Yz,J7,Hn,Zuj,Yn,Rw,Wm,Dx,Ql,Zff,P4,S1,L4,Pe,Zbv,Zbu,Zbt,Zbs,Zbr,Zbq,Zbp,Zbo,Zbn,Zbm,Zbl,Zbk,Zbj,Zbi,Zbh,Zbg,Zbf,Zbe,Zbd,Zbc,Zbb,Zba,Za9,Za8,Za7,Za6,Za5,Za4,Za3,Za2,Za1,Za0,Zaz,Zay,Zax,Zaw,Zav,Zau,Zat,Zas,Zar,Zaq,Zap,Zao,Zan,Zam,Zal,Zak,Zaj,Zai,Zah,Zag,Zaf,Zae,Zad,Zac,Zab,Zaa,zU,zT,zS,zR,zP,zO,zN,zM,zL,zI,zH,zG,zF,zE,zC,zB,zK,zW,zV,zY,zJ,zX,zZ,zQ,yU,yT,yS,yR,yP,yO,yN,yM,yL,yI,yH,yG,yF,yE,yD,yC,yB,yA,yK,yW,yV,yY,yJ,yX,yZ,yQ,xU,xT,xS,xR,xP,xO,xN,xM,xL,xI,xH,xG,xF,xE,xD,xC,xB,xA,xK,xW,xV,xY,xJ,xX,xZ,xQ,wU,wT,wS,wR,wL,wI,wH,wG,wF,wE,wD,wC,wA,wK,wW,wV,wY,wJ,wX,wZ,wQ,vU,vT,vS,vR,vP,vO,vN,vM,vL,vI,vH,vG,vF,vE,vD,vC,vB,vA,vK,vW,vV,vY,vJ,vX,vZ,vQ,uU,uT,uS,uR,uP,uO,uN,uM,uL,uI,uH,uG,uF,uE,uD,uC,uB,uA,uK,uW,uV,uY,uJ,uX,uZ,uQ,tU,tT,tS,tR,tP,tO,tN,tM,tL,tI,tH,tG,tF,tE,tD,tC,tB,tA,tK,tW,tV,tY,tJ,tX,tZ,tQ,sU,sT,sS,sR,sP,sO,sN,sM,sL,sI,sH,sG,sF,sE,sD,sC,sB,sA,sK,sW,sV,sY,sJ,sX,sZ,sQ,rU,rT,rS,rR,rP,rO,rN,rM,rL,rI,rH,rG,rF,rE,rD,rC,rB,rA,rK,rW,rV,rY,rJ,rX,rZ,rQ,qU,qT,qS,qR,qP,qO,qN,qM,qL,qI,qH,qG,qF,qE,qD,qC,qB,qA,qK,qW,qV,qY,qJ,qX,qZ,qQ,pU,pT,pS,pR,pL,pI,pH,pG,pF,pE,pD,pC,pA,pK,pW,pV,pY,pJ,pX,pZ,pQ,oU,oT,oS,oR,oP,oO,oN,oM,oL,oI,oH,oG,oF,oE,oD,oC,Tc,Tb,Ta,S9,S8,S7,Nk,Nj,Ni,Nh,Ng,Nf,Nd,Nc,Nb,Na,H9,H8,H7,H6,H5,H4,H3,H2,H0,Hz,Hy,Hx,Hw,Hv,Hu,Ht,Hs,Uc,Ub,Ua,V9,V8,V7,V6,V5,V4,V3,V2,V0,Vz,Vy,Vx,Vw,Vv,Vu,Vt,Vs,Vr,Vq,Vp,Vo,Vn,Vm,Vl,Vk,Vj,Vi,Vh];tactic =>
   try simp only [S4] at *
   try simp only [Znv] at *
   try simp (maxSteps:=4000000) only [Qd,Qe,Z6,Qa,Qc,Qh,Qp,Qz,Qv,Q4,Z0,Z3,Zz,Z7,Z9,Qg,Zv,Zw,Qn,Q6,Q5,Ja,Q7,Q0,Jo,Jj,Wx,X9,Wq,Wp,Wo,Ur,Uq,Up,Kj,Ki,Kh,Ka,Q2,Q1,kW,Jp,Ji,Bo.eq_def,Zee,Xo,Qj,Y2,Nt,J0,Zvc,Jb,Qb,Y1,Zdt,Xm,Qi,Yz,J7,Hn,Zuj,Yn,Rw,Wm,Dx,Ql,Zff,P4,S1,L4,Pe,cM]
   first|done|exact Kq.k)):p:=h
theorem Il {p:Prop} (h:p:=by
 (sym=>simp [Kt,Kc,Kd,Kb,Ku,Kw,Ko,W4,Gd,M4,Ln,Ek,cL,fW,oB,Zcc,Zcb,Qd,Qe,Z6,Qa,Qc,Qh,Qp,Qz,Qv,Q4,Z0,Z3,Zz,Z7,Z9,Qg,Zv,Zw,Qn,Q6,Q5,Ja,Q7,Q0,Jo,Jj,Wx,X9,Wq,Wp,Wo,Ur,Uq,Up,Kj,Ki,Kh,Ka,Q2,Q1,kW,Jp,Ji,Bo.eq_def,Zee,Xo,Qj,Y2,Nt,J0,Zvc,Jb,Qb,Y1,Zdt,Xm,Qi,Yz,J7,Hn,Zuj,Yn,Rw,Wm,Dx,Ql,Zff,P4,S1,L4,Pe,Zbv,Zbu,Zbt,Zbs,Zbr,Zbq,Zbp,Zbo,Zbn,Zbm,Zbl,Zbk,Zbj,Zbi,Zbh,Zbg,Zbf,Zbe,Zbd,Zbc,Zbb,Zba,Za9,Za8,Za7,Za6,Za5,Za4,Za3,Za2,Za1,Za0,Zaz,Zay,Zax,Zaw,Zav,Zau,Zat,Zas,Zar,Zaq,Zap,Zao,Zan,Zam,Zal,Zak,Zaj,Zai,Zah,Zag,Zaf,Zae,Zad,Zac,Zab,Zaa,zU,zT,zS,zR,zP,zO,zN,zM,zL,zI,zH,zG,zF,zE,zC,zB,zK,zW,zV,zY,zJ,zX,zZ,zQ,yU,yT,yS,yR,yP,yO,yN,yM,yL,yI,yH,yG,yF,yE,yD,yC,yB,yA,yK,yW,yV,yY,yJ,yX,yZ,yQ,xU,xT,xS,xR,xP,xO,xN,xM,xL,xI,xH,xG,xF,xE,xD,xC,xB,xA,xK,xW,xV,xY,xJ,xX,xZ,xQ,wU,wT,wS,wR,wL,wI,wH,wG,wF,wE,wD,wC,wA,wK,wW,wV,wY,wJ,wX,wZ,wQ,vU,vT,vS,vR,vP,vO,vN,vM,vL,vI,vH,vG,vF,vE,vD,vC,vB,vA,vK,vW,vV,vY,vJ,vX,vZ,vQ,uU,uT,uS,uR,uP,uO,uN,uM,uL,uI,uH,uG,uF,uE,uD,uC,uB,uA,uK,uW,uV,uY,uJ,uX,uZ,uQ,tU,tT,tS,tR,tP,tO,tN,tM,tL,tI,tH,tG,tF,tE,tD,tC,tB,tA,tK,tW,tV,tY,tJ,tX,tZ,tQ,sU,sT,sS,sR,sP,sO,sN,sM,sL,sI,sH,sG,sF,sE,sD,sC,sB,sA,sK,sW,sV,sY,sJ,sX,sZ,sQ,rU,rT,rS,rR,rP,rO,rN,rM,rL,rI,rH,rG,rF,rE,rD,rC,rB,rA,rK,rW,rV,rY,rJ,rX,rZ,rQ,qU,qT,qS,qR,qP,qO,qN,qM,qL,qI,qH,qG,qF,qE,qD,qC,qB,qA,qK,qW,qV,qY,qJ,qX,qZ,qQ,pU,pT,pS,pR,pL,pI,pH,pG,pF,pE,pD,pC,pA,pK,pW,pV,pY,pJ,pX,pZ,pQ,oU,oT,oS,oR,oP,oO,oN,oM,oL,oI,oH,oG,oF,oE,oD,oC,Tc,Tb,Ta,S9,S8,S7,Nk,Nj,Ni,Nh,Ng,Nf,Nd,Nc,Nb,Na,H9,H8,H7,H6,H5,H4,H3,H2,H0,Hz,Hy,Hx,Hw,Hv,Hu,Ht,Hs,Uc,Ub,Ua,V9,V8,V7,V6,V5,V4,V3,V2,V0,Vz,Vy,Vx,Vw,Vv,Vu,Vt,Vs,Vr,Vq,Vp,Vo,Vn,Vm,Vl,Vk,Vj,Vi,Vh];tactic =>
   try simp only [S4] at *
   try simp only [Znv] at *
   try simp (maxSteps:=4000000) only [Qd,Qe,Z6,Qa,Qc,Qh,Qp,Qz,Qv,Q4,Z0,Z3,Zz,Z7,Z9,Qg,Zv,Zw,Qn,Q6,Q5,Ja,Q7,Q0,Jo,Jj,Wx,X9,Wq,Wp,Wo,Ur,Uq,Up,Kj,Ki,Kh,Ka,Q2,Q1,kW,Jp,Ji,Bo.eq_def,Zee,Xo,Qj,Y2,Nt,J0,Zvc,Jb,Qb,Y1,Zdt,Xm,Qi,Yz,J7,Hn,Zuj,Yn,Rw,Wm,Dx,Ql,Zff,P4,S1,L4,Pe,cM]
   repeat' first|with_reducible assumption|with_reducible apply Zb|intro _|omega|(rw [Xy];omega)
   all_goals first|with_reducible exact Qo|omega|rfl|trivial|exact Or.inr trivial|assumption|contradiction|exact Qk)):p:=h
structure Kge:Prop
theorem Kge.k (_:Kge) (h:p:=by
 repeat' first|exact Z1|with_reducible apply Zb|intro _
 all_goals first|with_reducible exact Qo|omega|(simp only [Zh,Zj,List.length_nil];omega)|exact ⟨j+1,by rw [hsn4];(have Um:=@Nt;exact Qk),by omega,by omega⟩|skip):p:=h
structure Kgf:Prop
theorem Kgf.k (_:Kgf) (h:p:=by
 repeat' first|exact Z1|with_reducible apply Zb|intro _
 all_goals first|with_reducible exact Qo|omega|exact ⟨i+1,by exact Qk,by omega,by omega⟩|skip):p:=h
structure Kgd:Prop
theorem Kgd.k (_:Kgd) (h:p:=by
 repeat' first|exact Z1|with_reducible apply Zb|intro _
 all_goals first|with_reducible exact Qo|omega|rfl|skip
 refine Zi [12,55,56,57,58,59,60,61,62,63,64,65,66,67,68,69] (fun j:Nat=>[(8,.sl 68 ((Sw (x++[33]) yd E j).map (enc:Bd→D)).length),(54,.d (.int .i64 j))]) (fun j:Nat=>[(68,.row 2 ((Sw (x++[33]) yd E j).map enc) 0)]) (fun j:Nat=>j≤yd.length) (fun j:Nat=>yd.length-j) 0 ?_ ?_ ?_
 ·omega
 ·have Um:=@cH;exact Qk
 rintro j hj;have hGl:=kZ (p:=x++[33]) (ds:=yd) (E:=E) (j:=j);rcases Zn j yd.length with ⟨hjlt,Zz⟩|⟨hjlt,Zz⟩
 ·have Z3:=Zr Jx hjlt;have hsn4:=cI (p:=x++[33]) (E:=E) hjlt;have hzn:=hydn (yd.getD j Jx) (by simp [hjlt])
  obtain ⟨Z,hZ⟩:=exq (yd.getD j Jx);rw [hZ] at Z3 hsn4 hzn;obtain ⟨zn,zt,ze⟩:=Z;simp only at hzn;obtain ⟨G,hG⟩:=exq (Sw (x++[33]) yd E j);rw [hG] at hsn4 hGl ⊢;have hbn:Zts (x++[33]) ⟨zn,zt,ze⟩=⟨x++[33]++zn,zt⟩:=rfl;rw [hbn] at hsn4;clear hydn;have Kq:Kge:=⟨⟩;exact Yh
 ·have hje:j=yd.length:=by omega
  have hnx:Sw (x++[33]) yd E j=Iw l mi (i+1):=by rw [hje,hnx0]
  rw [hnx];clear hydn;have Kq:Kgf:=⟨⟩;exact Yh):p:=h
structure Kgh:Prop
theorem Kgh.k (_:Kgh) (h:p:=by
 repeat' first|exact Z1|with_reducible apply Zb|intro _
 all_goals first|with_reducible exact Qo|omega|exact ⟨j+1,by rw [hsn4];(have Um:=@Nt;exact Qk),by omega,by omega⟩|skip):p:=h
structure Kgg:Prop
theorem Kgg.k (_:Kgg) (h:p:=by
 repeat' first|exact Z1|with_reducible apply Zb|intro _
 all_goals first|with_reducible exact Qo|omega|skip
 refine Zi [14,80,81,82,83,84,85,86,87,88,89,90,91] (fun j:Nat=>[(8,.sl 68 ((Sw [] md E j).map (enc:Bd→D)).length),(79,.d (.int .i64 j))]) (fun j:Nat=>[(68,.row 2 ((Sw [] md E j).map enc) 0)]) (fun j:Nat=>j≤d) (fun j:Nat=>d-j) 0 ?_ ?_ ?_
 ·omega
 ·have Um:=@cH;exact Qk
 rintro j hj;have hGl:=kZ (p:=[]) (ds:=md) (E:=E) (j:=j);rcases Zn j d with ⟨hjlt,Zz⟩|⟨hjlt,Zz⟩
 ·have hjm:j<md.length:=by omega
  have Z3:=Zr Jx (show j<(md.take d).length by omega)
  have hgd:(md.take d).getD j Jx=md.getD j Jx:=by
   rw [Zd,Zd,List.getElem?_take_of_lt hjlt]
  rw [hgd] at Z3;have hsn4:=cI (p:=[]) (E:=E) hjm;obtain ⟨Z,hZ⟩:=exq (md.getD j Jx);rw [hZ] at Z3 hsn4;obtain ⟨zn,zt,ze⟩:=Z;obtain ⟨G,hG⟩:=exq (Sw [] md E j);rw [hG] at hsn4 hGl ⊢;have hbn:Zts [] ⟨zn,zt,ze⟩=⟨zn,zt⟩:=rfl;rw [hbn] at hsn4;have Kq:Kgh:=⟨⟩;exact Yh
 ·have hje:j=d:=by omega
  rw [hje] at Zz ⊢;rw [hR3];exact Zwo):p:=h
structure Kgc:Prop
theorem Kgc.k (_:Kgc) (h:p:=by
 repeat' first|exact Z1|with_reducible apply Zb|intro _
 all_goals first|with_reducible exact Qo|omega|skip
 refine Zi [10,12,46,47,48,49,50,51,52,53,54,55,56,57,58,59,60,61,62,63,64,65,66,67,68,69,70] (fun i:Nat=>[(8,.sl 68 ((Iw l mi i).map (enc:Bd→D)).length),(45,.d (.int .i64 i))]) (fun i:Nat=>[(68,.row 2 ((Iw l mi i).map enc) 0)]) (fun i:Nat=>i≤mi.length) (fun i:Nat=>mi.length-i) 0 ?_ ?_ ?_
 ·omega
 ·have Um:=@Zij;exact Qk
 rintro i hi;have hEl:=Znk hE (is:=mi) (i:=i);rcases Zn i mi.length with ⟨hilt,Qv⟩|⟨hilt,Qv⟩
 ·have Q4:=Zr ([]:List UInt8) hilt;have hsn:=Zik (l:=l) hilt;have hxl:=hin (mi.getD i []) (by simp [hilt])
  obtain ⟨x,hx⟩:=exq (mi.getD i []);rw [hx] at Q4 hsn hxl;have Q4:el (mi.map enc) i=(.str x:D):=Q4;obtain ⟨E,hEq⟩:=exq (Iw l mi i);rw [hEq] at hsn hEl ⊢;obtain ⟨hg1,hg2⟩:=hmodm x;clear hmodm;have hyd:(K5 x Js ks vs).defs.length≤1000:=by
   rcases hg2 with h|h
   ·exact hE.defs _ h
   ·rw [h];decide
  have hydn:∀ d∈(K5 x Js ks vs).defs,d.name.length≤1000000:=by
   rcases hg2 with h|h
   ·exact hE.dname _ h
   ·rw [h];intro d hd;cases hd
  obtain ⟨Y,Z0⟩:=exq (K5 x Js ks vs);rw [Z0] at hg1 hyd hydn;clear hg2;obtain ⟨yn,yi,yd,ys⟩:=Y;simp only at hg1 hyd hydn;rw [List.take_length] at hg1;have hnx0:Sw (x++[33]) yd E yd.length=Iw l mi (i+1):=by
   rw [hsn,Zim,hg1];unfold fZ;rw [List.take_length]
  clear hin;have Kq:Kgd:=⟨⟩;exact Yh
 ·have hie:i=mi.length:=by omega
  clear hmodm hin;rw [hie] at hEl Qv ⊢;rw [Zil] at hEl ⊢;obtain ⟨E,hEq⟩:=exq (mi.flatMap (gX l));rw [hEq] at hEl hR2 ⊢;have hEl2:E.length≤40000000:=by omega
  have hR3:Sw [] md E d=R:=hR2;have Z9:List.take d (md.map (enc:Def6→D))=(md.take d).map enc:=List.map_take.symm;have Qg:(md.take d).length=d:=by rw [List.length_take];omega
  have Kq:Kgg:=⟨⟩;exact Yh):p:=h
theorem good_EnvS:Qq Tryz.prog (20,O9):=by
 obtain ⟨Kx,Kt,Kc,Kd,Kb,Ku,Kw,K,W4,_⟩:=X2 Z4 Zq [] false (Jh good_modulesS Tu.eq_def X1);have Ko:=O9.eq_def;refine Wh K Tryz.func20 [.tmp 6] rfl 93 rfl (fun c hc cvs hpre=>?_);unfold O9 at hpre;obtain ⟨⟨l⟩,m,d,rfl,hE,hD⟩:=Ztd hpre;simp only at hE hD;clear hpre;obtain ⟨R,Qe⟩:=exq (Ir l m d);have hR2:=Qe;unfold Ir at hR2;have hlen:=hE.len;cases hc;refine Yv 5 ?_;rcases Xx m 0 with ⟨h1,Qd⟩|⟨h1,Qd⟩
 ·rw [if_pos (.inl h1)] at hR2;subst hR2;exact Zwo
 obtain ⟨m,rfl⟩:∃ n:Nat,m=n:=⟨m.toNat,by omega⟩
 rcases aS (l.length:Int) (m:Int) with ⟨h2,Z6⟩|⟨h2,Z6⟩
 ·rw [if_pos (.inr (.inl h2))] at hR2;subst hR2;exact Zwo
 rcases Xx d 0 with ⟨h3,Qa⟩|⟨h3,Qa⟩
 ·rw [if_pos (.inr (.inr (.inl h3)))] at hR2;subst hR2;exact Zwo
 obtain ⟨d,rfl⟩:∃ n:Nat,d=n:=⟨d.toNat,by omega⟩
 have hml:m<l.length:=by omega
 have Qh:=Zr Js hml;have hmem:l.getD m Js∈l:=by simp [hml]
 have hil:=hE.imps _ hmem;have hdl:=hE.defs _ hmem;rw [Zf,Zf] at hR2;unfold Zxe at hR2;obtain ⟨M,hM⟩:=exq (l.getD m Js);rw [hM] at Qh hil hdl hR2;obtain ⟨mn,mi,md,ms⟩:=M;simp only at hil hdl hR2;have Qp:((m:Nat):Int).toNat=m:=Zf m;have Z7:((d:Nat):Int).toNat=d:=Zf d;have hmodm:=fun i=>Zln hD i l.length (Zl _);obtain ⟨A,Qz⟩:=exq (P5 l l.length);rw [Qz] at hmodm;rcases aS (md.length:Int) (d:Int) with ⟨h4,Qc⟩|⟨h4,Qc⟩
 ·rw [if_pos (.inr (.inr (.inr h4)))] at hR2;subst hR2;exact Il
 rw [if_neg (by omega)] at hR2
 have hin:=hE.iname _ hmem;rw [hM] at hin;simp only at hin;obtain ⟨ks,vs⟩:=A;simp only at hmodm;have Kq:Kgc:=⟨⟩;exact Yh
theorem Zr8 {l:List Xd} (hU:M3 l) (hF:fY l) (hA:¬ Znq l) {r:Nat} (hr:r<l.length) :
  ∃ k:Nat,W5 l ((List.range l.length).map (mayB l (Gy l r))) l.length=(k:Int)∧k<l.length∧mayB l (Gy l r) k=true:=by
 have ih:=Zjc hU hF hA r (by omega)
 have hlen:=Gt l r;obtain ⟨O,hO⟩:=exq (Gy l r);rw [hO] at ih hlen ⊢;have hex:∃ k:Nat,k<l.length∧(k:Int)∉O:=Classical.byContradiction fun hn=>by
  have:=Zpr l.length O fun k hk=>Classical.byContradiction fun h=>hn ⟨k,hk,h⟩;omega
 obtain ⟨k,hk,hkO⟩:=hex;have hkC:nm l k∉O.map fun x=>nm l x.toNat:=fun h=>by
  obtain ⟨y,hy,he⟩:=List.mem_map.1 h;obtain ⟨k',rfl,hk'⟩:=ih y hy;rw [Zf] at he;have:=P9 hU hk' hk he;exact hkO (this▸hy)
 obtain ⟨j,hj,h1,h2⟩:=Zk8 hU hF hA (C:=O.map fun x=>nm l x.toNat) _ k hk (Zl _) hkC;have hmay:mayB l O j=true:=by
  unfold mayB;rw [Zk,Bool.not_eq_true'];refine ⟨?_,?_⟩
  ·rw [←Bool.not_eq_true,Tl];exact fun h=>h1 (List.mem_map.2 ⟨_,h,by rw [Zf]⟩)
  ·unfold Es;rw [Zf,List.all_eq_true];intro s hs;obtain ⟨y,hy,he⟩:=List.mem_map.1 (h2 s hs);obtain ⟨k',rfl,hk'⟩:=ih y hy;rw [Zf] at he;rw [Tl,←he,Wb,hU k' hk'];exact hy
 rcases Ll (l:=l) (is:=(List.range l.length).map (mayB l O)) l.length with ⟨_,hno⟩|⟨k',h,hk',hm,_⟩
 ·have:=hno j hj;rw [Bf hj,hmay] at this;cases this
 ·rw [Bf hk'] at hm;exact ⟨k',h,hk',hm⟩
theorem aN {l:List Xd}:∀ {r i:Nat},i<r→(Gy l r).getD i 0=W5 l ((List.range l.length).map (mayB l (Gy l i))) l.length
 | r+1,i,h=>by
  rw [Gy,Zd];rcases Nat.lt_or_ge i r with h1|h1
  ·rw [List.getElem?_append_left (by rw [Gt];exact h1),←Zd]
   exact aN h1
  ·have:i=r:=by omega
   subst this;rw [List.getElem?_append_right (by rw [Gt];exact Zl _),Gt,Nat.sub_self]
   rfl
theorem Zug {l:List Xd} {r:Nat} {x:Int} (h:x∈Gy l r):∃ j,j<r∧(Gy l r).getD j 0=x:=by
 obtain ⟨j,hj,rfl⟩:=List.mem_iff_getElem.1 h;rw [Gt] at hj;exact ⟨j,hj,by rw [Zd,Zg (by rw [Gt];exact hj)];rfl⟩
theorem Zoj {l:List Xd} {r i:Nat} (h:i<r):(Gy l r).getD i 0∈Gy l r:=by
 rw [Zd,Zg (by rw [Gt];exact h)]
 exact List.getElem_mem _
theorem Oc {l:List Xd} (h20:l.length≤20) (h:(W9 l).2.2=0):M3 l∧fY l∧¬ Znq l∧(W9 l).1.l=Gy l l.length:=by
 cases hu:(List.range l.length).find? (It l) with
 | some i=>unfold W9 at h;rw [hu] at h;cases h
 | none =>
 cases hf:(List.range l.length).find? (Bv l) with
 | some i=>unfold W9 at h;rw [hu] at h;simp only at h;rw [hf] at h;cases h
 | none =>
 cases hc:Wf 0 (W5 l ((List.range l.length).map (Dj l)) l.length) with
 | true =>
  unfold W9 at h;rw [hu] at h;simp only at h;rw [hf] at h;simp only at h;rw [hc] at h;cases h
 | false =>
  refine ⟨Iy.1 hu,Ov.1 hf,fun h=>?_,?_⟩
  ·rw [(Fv h20).2 h] at hc;cases hc
  ·unfold W9;rw [hu];simp only;rw [hf];simp only;rw [hc];rfl
def Zwb (l:List Mod6):Prop:=∀ m,m<l.length→∀ s∈imp l m,∃ k,k<m∧nm l k=s
theorem Zue {l:List Mod6} {O:List Int} {i k:Nat} (hi:i<O.length) (h:O.getD i 0=(k:Int)):(Xh l O).getD i m0=l.getD k m0:=by
 unfold Xh;rw [Zd,List.getElem?_map,Zg hi];rw [Zd,Zg hi] at h;simp only [Option.getD_some] at h;simp only [Option.map_some,Option.getD_some];rw [h,Zf];rfl
theorem mL {l:List Mod6} (hU:M3 l) (hF:fY l) (hA:¬ Znq l):Znp (Xh l (Gy l l.length))∧Zwb (Xh l (Gy l l.length)):=by
 have hlen:(Xh l (Gy l l.length)).length=l.length:=by unfold Xh;rw [Zo,Gt]
 have hat:∀ i,i<l.length→∃ k:Nat,(Gy l l.length).getD i 0=k∧k<l.length∧mayB l (Gy l i) k=true∧(Xh l (Gy l l.length)).getD i m0=l.getD k m0:=fun i hi=>by
  obtain ⟨k,h1,h2,h3⟩:=Zr8 hU hF hA hi;rw [←aN hi] at h1;exact ⟨k,h1,h2,h3,Zue (by rw [Gt];exact hi) h1⟩
 have hmem:∀ i j,j<i→i≤l.length→∃ k:Nat,(Gy l l.length).getD j 0=k∧(k:Int)∈Gy l i:=fun i j hj hi=>by
  obtain ⟨k,h1,h2,_⟩:=hat j (by omega)
  refine ⟨k,h1,?_⟩;rw [←h1,aN (show j<l.length by omega),←aN hj]
  exact Zoj hj
 refine ⟨fun i j hij hj he=>?_,fun m hm s hs=>?_⟩
 ·rw [hlen] at hj;obtain ⟨a,a1,a2,_,a4⟩:=hat i (by omega)
  obtain ⟨b,b1,b2,b3,b4⟩:=hat j hj;unfold nm at he;rw [a4,b4] at he;have e:=P9 hU a2 b2 he;subst e;obtain ⟨k,k1,k2⟩:=hmem j i hij (by omega)
  rw [a1] at k1;have:a=k:=by omega
  subst this;unfold mayB at b3;rw [Tl.2 k2] at b3;cases b3
 ·rw [hlen] at hm;obtain ⟨b,b1,b2,b3,b4⟩:=hat m hm;unfold imp at hs;rw [b4] at hs;unfold mayB at b3;rw [Zk] at b3;have h:=b3.2;unfold Es at h;rw [Zf,List.all_eq_true] at h;have h:=h s hs;rw [Tl] at h;obtain ⟨j,hj,he⟩:=Zug h;obtain ⟨a,a1,a2,_,a4⟩:=hat j (by omega)
  refine ⟨j,hj,?_⟩;unfold nm;rw [a4];have hz:Wb l s=a:=by
   rw [←he,aN hj,←aN (show j<l.length by omega),a1]
  unfold Wb at hz;cases hr:Xv l s with
  | none=>rw [hr] at hz;simp only at hz;omega
  | some q =>
   rw [hr] at hz;simp only at hz;have:q=a:=by omega
   subst this;exact Uy hr
theorem I7 {t:Tx9} (h:(Gn t).2=true):Znp (Gn t).1∧Zwb (Gn t).1:=by
 have hG:=Cn t;have h20:=hG.few.1;unfold Gn at h ⊢;split at h
 ·cases h
 rename_i hr;rw [if_neg hr];have he:(W9 (Dq t).1).2.2=0:=by simpa using h
 obtain ⟨h1,h2,h3,h4⟩:=Oc h20 he;show Znp (Xh _ _)∧Zwb (Xh _ _);rw [h4];exact mL h1 h2 h3
theorem Zuz {l:List Mod6} (h20:l.length≤20) (hG:∀ m∈l,Good9 m):EnvOk l :=
 ⟨h20,fun m hm=>by have:=(hG m hm).name;omega,fun m hm=>(hG m hm).short,fun m hm d hd=>((hG m hm).fit d hd).name,fun m hm=>by have:=(hG m hm).ilen;omega,fun m hm=>by have:=(hG m hm).dlen;omega⟩
theorem Zrt {l:List Mod6} {k:Nat} {m:Mod6} (h:Good9 m):In6 (K8 l k m):=by
 have hd:∀ d∈(K8 l k m).defs,∃ d'∈m.defs,d=W8 (ah l k) d':=fun d hd=>by
  unfold K8 at hd;simp only at hd;obtain ⟨i,hi,rfl⟩:=List.mem_mapIdx.1 hd;exact ⟨_,List.getElem_mem hi,rfl⟩
 refine ⟨by have:=h.ilen;show m.imps.length≤_;omega,by have:=h.dlen;unfold K8;simp only [List.length_mapIdx];show _≤_;omega,by have:=h.slen;show m.sites.length≤_;omega,fun d hx=>?_,fun d hx=>?_⟩
 ·obtain ⟨d',hd',rfl⟩:=hd d hx;have:=(h.fit d' hd').t;unfold W8 M2;simp only [List.length_mapIdx];show _≤_;omega
 ·obtain ⟨d',hd',rfl⟩:=hd d hx;have hf:=h.fit d' hd';refine ⟨by have:=hf.e;unfold W8;simp only [List.length_mapIdx];omega,fun p hp=>?_⟩
  unfold W8 at hp;simp only at hp;obtain ⟨i,hi,rfl⟩:=List.mem_mapIdx.1 hp;have:=hf.fit _ (List.getElem_mem hi);unfold W7 M2;refine ⟨?_,?_⟩
  ·have:=this.1.1;simp only [List.length_mapIdx];omega
  ·have:=this.2.1.1;simp only [List.length_mapIdx];omega
theorem Zyi {l:List Mod6} (h20:l.length≤20) (hG:∀ m∈l,Good9 m):Lo (K0 l).1.l.length∧∀ m∈(K0 l).1.l,In6 m:=by
 unfold K0;split
 ·exact ⟨by show 0≤_;omega,fun m hm=>by cases hm⟩
 ·refine ⟨by show (l.mapIdx (K8 l)).length≤_;simp only [List.length_mapIdx];omega,fun m hm=>?_⟩
  obtain ⟨i,hi,rfl⟩:=List.mem_mapIdx.1 hm;exact Zrt (hG _ (List.getElem_mem hi))
open Go.Proofs Go.Rose Go.Rose.Rose
def Iu (p:Part):Nat:=(Yj p).toNat
theorem Zsn (p:Part):0≤Yj p:=by
 unfold Yj Zdf;repeat' split
 all_goals omega
theorem gA (p:Part):Yj p=(Iu p:Int):=by
 have:=Zsn p;unfold Iu;omega
theorem Zh5:∀ {l:List Part} {o k:Nat},1≤o→Af Iu l o=some k→Is l o=k
 | [],o+1,k,_,h=>by simp [Af] at h
 | n::l,o+1,k,_,h=>by
  rw [Af,Option.map_eq_some_iff] at h;obtain ⟨k',h1,rfl⟩:=h;have hm:=gA n;have e:((o+1:Nat):Int)-1+Yj n=((o+Iu n:Nat):Int):=by rw [hm];omega
  rw [Is,e];by_cases hz:o+Iu n=0
  ·rw [if_pos (by omega)]
   rw [hz] at h1;cases l<;>(simp only [Af,Zc] at h1;omega)
  ·rw [if_neg (by omega),Zh5 (by omega) h1]
   omega
theorem Zjt {t:List Part} {i:Nat} {x:Rose Part} (h:At Iu t i x):Is (t.drop i) 1=(nds x).length:=Zh5 (o:=1) (Zl _) (Zre h)
theorem Zxf {t:List Part} {i:Nat} {x:Rose Part} (h:At Iu t i x):iR t i=((i+(nds x).length:Nat):Int):=by
 unfold iR;have:=h.lt;rw [if_neg (by omega),Zf,Zjt h]
 simp
def Lr:Nat→List (Rose Part)→List Int
 | _,[]=>[]
 | q,x::ks=>(q:Int)::Lr (q+(nds x).length) ks
theorem mT:∀ {q:Nat} {ks:List (Rose Part)},(Lr q ks).length=ks.length
 | _,[]=>rfl
 | q,x::ks=>by rw [Lr,Zj,mT,Zj]
theorem dE {t:List Part}:∀ {ks:List (Rose Part)} {q:Nat},Zv9 Iu t q ks→X8 t ks.length q=Lr q ks
 | [],_,_=>rfl
 | x::ks,q,h=>by
  have hx:=h.head;rw [Zj,X8,if_pos hx.1.lt,Zjt hx.1,Lr,dE hx.2]
theorem Zuv {t:List Part} {i:Nat} {x:Rose Part} (h:At Iu t i x):L9 t i=Lr (i+1) x.kids:=by
 unfold L9;have hl:=h.lt;have hk:=h.kids;have hm:=gA (t.getD i e0);rw [if_neg (by omega)]
 simp only [Zf];rw [hm,h.root e0,Zf,←hk.2,dE hk.1]
theorem kQ {t:List Part}:∀ {m q:Nat},(X8 t m q).length=m→(∀ j,q≤j→j<t.length→∃ z,At Iu t j z)→q≤t.length→∃ ks:List (Rose Part),ks.length=m∧Zv9 Iu t q ks
 | 0,q,_,_,hq=>⟨[],rfl,trivial,t.drop q,by simp [ndss]⟩
 | m+1,q,h,hz,hq=>by
  rw [X8] at h;by_cases hlt:q<t.length
  ·rw [if_pos hlt] at h;obtain ⟨x,hx⟩:=hz q (Zl _) hlt;rw [Zjt hx] at h;obtain ⟨ks,h1,h2,r,h3⟩:=kQ (m:=m) (q:=q+(nds x).length) (by simpa using h) (fun j hj=>hz j (by omega)) hx.le
   obtain ⟨h4,r',h5⟩:=hx;refine ⟨x::ks,by simp [h1],⟨h4,h2⟩,r,?_⟩
   rw [←List.drop_drop,h5,List.drop_left'] at h3
   ·rw [h5,h3,ndss,List.append_assoc]
   ·rfl
  ·rw [if_neg hlt] at h;simp at h
theorem Iz {t:List Part} (h:∀ i,i<t.length→((L9 t i).length:Int)=Yj (t.getD i e0)):∀ (m i:Nat),t.length-i≤m→i<t.length→∃ z,At Iu t i z
 | 0,i,hm,hi=>by omega
 | m+1,i,hm,hi=>by
  have h1:=h i hi;have hmn:=gA (t.getD i e0);unfold L9 at h1;rw [if_neg (by omega)] at h1
  simp only [Zf] at h1;rw [hmn,Zf] at h1;obtain ⟨ks,k1,k2,r,k3⟩:=kQ (m:=Iu (t.getD i e0)) (q:=i+1) (by omega) (fun j hj hjl=>Iz h m j (by omega) hjl) (by omega)
  refine ⟨mk (t.getD i e0) ks,⟨k1,k2⟩,r,?_⟩;rw [List.drop_eq_getElem_cons hi,k3,Rp];simp [hi]
theorem Zcl {t:List Part} (h:Gm t=true):∃ x,t=nds x∧At Iu t 0 x:=by
 unfold Gm at h;simp only [Zk,Bool.not_eq_true',Zm] at h;obtain ⟨h1,h2,⟨h3,h4⟩,h5⟩:=h;have hne:0<t.length:=by
  rcases Nat.eq_zero_or_pos t.length with h0|h0
  ·exfalso;unfold M7 at h1;simp [h0] at h1
  ·exact h0
 have hk:∀ i,i<t.length→((L9 t i).length:Int)=Yj (t.getD i e0):=by
  intro i hi;have:=List.all_eq_true.1 h5 i (List.mem_range.2 hi);unfold Zl5 at this;rw [Zk,Zm] at this;exact this.1
 obtain ⟨x,hx⟩:=Iz hk t.length 0 (by omega) hne
 have he':iR t 0=((0+(nds x).length:Nat):Int):=Zxf hx;rw [h3] at he';obtain ⟨hw,r,hr⟩:=id hx;refine ⟨x,?_,hx⟩;rw [List.drop_zero] at hr;have:=congrArg List.length hr;rw [Zh] at this;have hr0:r=[]:=List.length_eq_zero_iff.1 (by omega)
 rw [hr,hr0,List.append_nil]
instance:Inhabited Part:=⟨e0⟩
def Ie (p:Part) (k:Nat) (b:List (List UInt8)):List (List UInt8) :=
 (if p.kind=2∨p.kind=8∨(p.kind=4∧k=1)∨(p.kind=5∧k=0) then b++[p.bind] else b)++(if p.kind=5 then [p.name] else [])
mutual
def freeT:Rose Part→List (List UInt8)→List (List UInt8)
 | mk p ks,b=>if p.kind=1∧R0 b p.name=false then [p.name] else freeTs p ks 0 b
def freeTs (p:Part):List (Rose Part)→Nat→List (List UInt8)→List (List UInt8)
 | [],_,_=>[]
 | x::xs,k,b=>freeT x (Ie p k b)++freeTs p xs (k+1) b
end
theorem Zsi (p:Part) (k:Nat) (b:List (List UInt8)):(Ie p k b).length≤b.length+2:=by
 unfold Ie;split<;>split<;>simp
mutual
theorem freeT_len:∀ (x:Rose Part) (b:List (List UInt8)),(freeT x b).length≤(nds x).length
 | mk p ks,b=>by
  rw [freeT,Rp];split
  ·simp
  ·have:=freeTs_len p ks 0 b;simp only [Zj];omega
theorem freeTs_len (p:Part):∀ (xs:List (Rose Part)) (k:Nat) (b:List (List UInt8)),(freeTs p xs k b).length≤(ndss xs).length
 | [],_,_=>by simp [freeTs]
 | x::xs,k,b=>by
  have h1:=freeT_len x (Ie p k b);have h2:=freeTs_len p xs (k+1) b;rw [freeTs,ndss,Zh,Zh];omega
end
def jD:Con:=Wr (fun (l:Sl (List UInt8)) (_:List UInt8)=>l.l.length≤1000000) (fun l x=>R0 l.l x)
structure Kgj:Prop
theorem Kgj.k (_:Kgj) (h:p:=by
 repeat' first|exact Z1|with_reducible apply Zb|intro _
 all_goals first|with_reducible exact Qo|omega|exact ⟨k+1,by exact Qk,by omega,Eq.mpr hQ h2,by omega⟩|exact ⟨k+1,by exact Qk,by omega,fun m hm=>by have h3:=(Eq.mpr hQ h2:∀ j,j<k+1→(l.getD j []==s)=false) m hm;simpa using h3,by omega⟩|skip):p:=h
structure Kgi:Prop
theorem Kgi.k (_:Kgi) (h:p:=by
 repeat' first|exact Z1|with_reducible apply Zb|intro _
 refine Zi [4,6,7,8,9,10,11,12,13,14,15,16,17] (fun k:Nat=>[(5,.d (.int .i64 k))]) (fun k:Nat=>[]) (fun k:Nat=>k≤l.length∧∀ j,j<k→(l.getD j []==s)=false) (fun k:Nat=>l.length-k) 0 ?_ ?_ ?_
 ·simp
 ·exact Qk
 rintro k ⟨hk,hno⟩;rcases Zn k l.length with ⟨hlt,Qd⟩|⟨hlt,Qd⟩
 ·have Qe:=Zr ([]:List UInt8) hlt;have hst:(l.getD k []==s)=false→∀ j,j<k+1→(l.getD j []==s)=false:=fun h=>Ks hno h;have hit:(l.getD k []==s)=true→R=true:=fun h=>by rw [←hR2];exact A8 (p:=fun o=>o==s) [] k hlt h
  obtain ⟨Q,hQ⟩:=exq ((∀ j,j<k+1→(l.getD j []==s)=false));rw [hQ] at hst;obtain ⟨y,hy⟩:=exq (l.getD k []);rw [hy] at Qe hst hit;cases Z6:(y==s) with
  | true =>
   have hr:=hit Z6;subst hr;exact Il
  | false =>
   have h2:=hst Z6;have Kq:Kgj:=⟨⟩;exact Yh
 ·have hr:R=false:=by rw [←hR2];exact Ly (p:=fun o=>o==s) [] fun j hj=>hno j (by omega)
  subst hr;exact Zwo):p:=h
theorem good_inr5:Qq Tryz.prog (101,jD):=by
 obtain ⟨Kx,Kt,Kc,Kd,Kb,Ku,Kw,K,_⟩:=X2 Z4 Zq [] false X1;have Ko:=jD.eq_def;refine Wh K Tryz.func101 [.tmp 4] rfl 18 rfl (fun c hc cvs hpre=>?_);unfold jD at hpre;obtain ⟨⟨l⟩,s,rfl,hl⟩:=Jv hpre;simp only at hl;clear hpre;obtain ⟨R,Qa⟩:=exq (R0 l s);have hR2:=Qa;unfold R0 at hR2;cases hc;have Kq:Kgi:=⟨⟩;exact Yh
theorem Zdp:∀ {q k:Nat} {ks:List (Rose Part)},k<ks.length→(Lr q ks).getD k 0=((q+(ndss (ks.take k)).length:Nat):Int)
 | q,k,[],h=>by simp at h
 | q,0,x::ks,h=>by simp [Lr,ndss]
 | q,k+1,x::ks,h=>by
  have:=Zdp (q:=q+(nds x).length) (k:=k) (ks:=ks) (by simpa using h)
  rw [Lr,List.getD_cons_succ,this,List.take_succ_cons,ndss,Zh];omega
theorem Zb9 {t:List Part}:∀ {xs:List (Rose Part)} {i j:Nat},Zv9 Iu t i xs→∀ h:j<xs.length,At Iu t (i+(ndss (xs.take j)).length) xs[j]
 | [],i,j,_,h=>by simp at h
 | x::xs,i,0,ha,h=>by simpa [ndss] using ha.head.1
 | x::xs,i,j+1,ha,h=>by
  have:=Zb9 (j:=j) ha.head.2 (by simpa using h)
  rw [List.take_succ_cons,ndss,Zh,←Nat.add_assoc];exact this
theorem lK:∀ {xs:List (Rose Part)},xs.length≤(ndss xs).length
 | []=>by simp [ndss]
 | x::xs=>by
  have h1:=Zb0 x;have h2:=lK (xs:=xs);simp only [ndss,Zh,Zj];omega
theorem Du:∀ {xs:List (Rose Part)} {j:Nat} (h:j<xs.length),(nds xs[j]).length≤(ndss xs).length
 | x::xs,0,h=>by simp [ndss]
 | x::xs,j+1,h=>by
  have:=Du (xs:=xs) (j:=j) (by simpa using h)
  simp only [List.getElem_cons_succ,ndss,Zh];omega
theorem Zmh {p:Part} {ks:List (Rose Part)} {k:Nat} {b:List (List UInt8)} (h:k<ks.length):freeTs p (ks.drop k) k b=freeT ks[k] (Ie p k b)++freeTs p (ks.drop (k+1)) (k+1) b:=by
 rw [List.drop_eq_getElem_cons h,freeTs]
theorem dR {b:List (List UInt8)} {x:List UInt8}:b.map (enc:List UInt8→D)++[.str x]=(b++[x]).map enc:=by rw [List.map_append];rfl
theorem Zx7 {b c:List (List UInt8)}:b.map (enc:List UInt8→D)++c.map enc=(b++c).map enc:=by rw [List.map_append]
noncomputable def Ho (n:Nat):Con:=Uj (fun (t:Sl Part) (i:Int) (b:Sl (List UInt8))=>kJ t.l∧0≤i∧(∃ x,At Iu t.l i.toNat x∧(nds x).length<n∧b.l.length+2*(nds x).length≤900000)) (fun t i b=>Sl.mk (freeT (El Iu t.l i.toNat) b.l))
theorem Zek:∀ c,¬ (Ho 0).pre c:=by
 intro c h;unfold Ho at h;obtain ⟨_,_,_,_,_,_,_,_,h,_⟩:=Mg h;omega
structure Kgk:Prop
theorem Kgk.k (_:Kgk) (h:p:=by
 repeat' first|exact Z1|with_reducible apply Zb|intro _
 all_goals try contradiction
 refine Zi [11,33,34,35,36,37,38,39,40,41,42,43,44,45,46,47,48,49,50,51,52,53,54,55,56,57,58,59,60,61,62,63,64,65,66,67,68,69,70,71,72,73,74,75,76,77,78,79,80,81,82,83,84,85,86,87,88,89] (fun k:Nat=>[(8,.sl 29 (([]:List (List UInt8)).map (enc:List UInt8→D)).length),(10,.d (.int .i64 k))]) (fun k:Nat=>[(29,.row 1 (([]:List (List UInt8)).map enc) 0)]) (fun k:Nat=>k=0) (fun k:Nat=>0) 0 ?_ ?_ ?_
 ·rfl
 ·exact Qk
 rintro k rfl;exact Il):p:=h
structure Kgm:Prop
theorem Kgm.k (_:Kgm) (h:p:=by
 repeat' first|exact Z1|with_reducible apply Zb|intro _
 all_goals first|contradiction|with_reducible exact Qo|omega|exact hT|exact ⟨_,hxs⟩|exact ⟨(k+1,out++F),by exact Qk,by simp only;omega,hout,by simp only;omega⟩|skip):p:=h
structure Kgn:Prop
theorem Kgn.k (_:Kgn) (h:p:=by
 repeat' first|exact Z1|with_reducible apply Zb|intro _
 all_goals first|contradiction|with_reducible exact Qo|omega|exact hT|exact ⟨_,hxs⟩|exact ⟨(k+1,out++F),by exact Qk,by simp only;omega,hout,by simp only;omega⟩|skip):p:=h
structure Kgo:Prop
theorem Kgo.k (_:Kgo) (h:p:=by
 repeat' first|exact Z1|with_reducible apply Zb|intro _
 all_goals first|contradiction|with_reducible exact Qo|omega|exact hT|exact ⟨_,hxs⟩|exact ⟨(k+1,out++F),by exact Qk,by simp only;omega,hout,by simp only;omega⟩|skip):p:=h
structure Kgp:Prop
theorem Kgp.k (_:Kgp) (h:p:=by
 repeat' first|exact Z1|with_reducible apply Zb|intro _
 all_goals first|contradiction|with_reducible exact Qo|omega|exact hT|exact ⟨_,hxs⟩|exact ⟨(k+1,out++F),by exact Qk,by simp only;omega,hout,by simp only;omega⟩|skip):p:=h
structure Kgq:Prop
theorem Kgq.k (_:Kgq) (h:p:=by
 repeat' first|exact Z1|with_reducible apply Zb|intro _
 all_goals first|contradiction|with_reducible exact Qo|omega|exact hT|exact ⟨_,hxs⟩|exact ⟨(k+1,out++F),by exact Qk,by simp only;omega,hout,by simp only;omega⟩|skip):p:=h
structure Kgr:Prop
theorem Kgr.k (_:Kgr) (h:p:=by
 repeat' first|exact Z1|with_reducible apply Zb|intro _
 all_goals first|contradiction|with_reducible exact Qo|omega|exact hT|exact ⟨_,hxs⟩|exact ⟨(k+1,out++F),by exact Qk,by simp only;omega,hout,by simp only;omega⟩|skip):p:=h
structure Kgs:Prop
theorem Kgs.k (_:Kgs) (h:p:=by
 repeat' first|exact Z1|with_reducible apply Zb|intro _
 all_goals first|contradiction|with_reducible exact Qo|omega|exact hT|exact ⟨_,hxs⟩|exact ⟨(k+1,out++F),by exact Qk,by simp only;omega,hout,by simp only;omega⟩|skip):p:=h
structure Kgl:Prop
theorem Kgl.k (_:Kgl) (h:p:=by
 repeat' first|exact Z1|with_reducible apply Zb|intro _
 refine Zi [11,33,34,35,36,37,38,39,40,41,42,43,44,45,46,47,48,49,50,51,52,53,54,55,56,57,58,59,60,61,62,63,64,65,66,67,68,69,70,71,72,73,74,75,76,77,78,79,80,81,82,83,84,85,86,87,88,89] (fun p:Nat×List (List UInt8)=>[(8,.sl 29 (p.2.map (enc:List UInt8→D)).length),(10,.d (.int .i64 p.1))]) (fun p:Nat×List (List UInt8)=>[(29,.row 1 (p.2.map enc) 0)]) (fun p:Nat×List (List UInt8)=>p.1≤ks.length∧p.2++freeTs ⟨pk,pl,pn,pb,pm,pq,pt,pu⟩ (ks.drop p.1) p.1 b=R) (fun p:Nat×List (List UInt8)=>ks.length-p.1) (0,[]) ?_ ?_ ?_
 ·exact ⟨Nat.zero_le _,hR2⟩
 ·exact Qk
 rintro ⟨k,out⟩ ⟨hkk,hout⟩;simp only at hkk hout;rcases Zn k ks.length with ⟨hlt,Qv⟩|⟨hlt,Qv⟩
 rotate_left
 ·have hke:k=ks.length:=by omega
  rw [hke,List.drop_length,freeTs,List.append_nil] at hout;subst hout;exact Il
 have hml:=Zsi ⟨pk,pl,pn,pb,pm,pq,pt,pu⟩ k b;rw [Zmh hlt,←List.append_assoc] at hout;have hxk:=Zb9 hks hlt;have hpos:=Zdp (q:=i+1) hlt;rw [hl] at hpos;have Z0:=Zr (0:Int) (show k<l.length by omega)
 rw [hpos] at Z0;obtain ⟨c,hc0⟩:∃ c:Nat,i+1+(ndss (ks.take k)).length=c:=⟨_,rfl⟩;rw [hc0] at hxk Z0;have Z3:El Iu t c=ks[k]:=Ps hxk;have hsz:=Du hlt;have hfl:=freeT_len ks[k] (Ie ⟨pk,pl,pn,pb,pm,pq,pt,pu⟩ k b);have hol:=congrArg List.length hout;rw [Zh,Zh] at hol;obtain ⟨F,Zz⟩:=exq (freeT ks[k] (Ie ⟨pk,pl,pn,pb,pm,pq,pt,pu⟩ k b));obtain ⟨B,hB⟩:=exq (Ie ⟨pk,pl,pn,pb,pm,pq,pt,pu⟩ k b);rw [Zz] at hout hfl hol;rw [hB] at Zz hml;have hxs:At Iu t c ks[k]∧(nds ks[k]).length<n∧B.length+2*(nds ks[k]).length≤900000:=⟨hxk,by omega,by omega⟩
 have Z7:out.map (enc:List UInt8→D)++F.map enc=(out++F).map enc:=Zx7;have hB2:=hB;unfold Ie at hB2;simp only at hB2;by_cases h2:pk=2
 ·subst h2;rw [if_pos (Or.inl rfl),if_neg (by decide),List.append_nil] at hB2
  have Z9:b.map (enc:List UInt8→D)++[.str pb]=B.map enc:=by rw [←hB2];exact dR
  have Kq:Kgm:=⟨⟩;exact Yh
 by_cases h8:pk=8
 ·subst h8;rw [if_pos (Or.inr (Or.inl rfl)),if_neg (by decide),List.append_nil] at hB2
  have Z9:b.map (enc:List UInt8→D)++[.str pb]=B.map enc:=by rw [←hB2];exact dR
  have Kq:Kgn:=⟨⟩;exact Yh
 have Zw:(pk==2)=false:=Za.2 h2;have Qn:(pk==8)=false:=Za.2 h8;by_cases h4:pk=4
 ·subst h4;by_cases hk1:k=1
  ·rw [if_pos (Or.inr (Or.inr (Or.inl ⟨rfl,hk1⟩))),if_neg (by decide),List.append_nil] at hB2
   have Z9:b.map (enc:List UInt8→D)++[.str pb]=B.map enc:=by rw [←hB2];exact dR
   have Qg:((k:Int)==1)=true:=Zm.2 (by omega)
   have Kq:Kgo:=⟨⟩;exact Yh
  ·rw [if_neg (by rintro (h|h|h|h)<;>simp_all),if_neg (by omega),List.append_nil] at hB2
   subst hB2;have Qg:((k:Int)==1)=false:=Za.2 (by omega)
   have Kq:Kgp:=⟨⟩;exact Yh
 have Q6:(pk==4)=false:=Za.2 h4;by_cases h5:pk=5
 ·subst h5;by_cases hk0:k=0
  ·rw [if_pos (Or.inr (Or.inr (Or.inr ⟨rfl,hk0⟩))),if_pos rfl] at hB2;have Z9:b.map (enc:List UInt8→D)++[.str pb]=(b++[pb]).map enc:=dR;have Zv:(b++[pb]).map (enc:List UInt8→D)++[.str pn]=B.map enc:=by rw [←hB2];exact dR
   have Qg:((k:Int)==0)=true:=Zm.2 (by omega)
   have Kq:Kgq:=⟨⟩;exact Yh
  ·rw [if_neg (by rintro (h|h|h|h)<;>simp_all),if_pos rfl] at hB2
   have Zv:b.map (enc:List UInt8→D)++[.str pn]=B.map enc:=by rw [←hB2];exact dR
   have Qg:((k:Int)==0)=false:=Za.2 (by omega)
   have Kq:Kgr:=⟨⟩;exact Yh
 have Q5:(pk==5)=false:=Za.2 h5;rw [if_neg (by rintro (h|h|h|h)<;>simp_all),if_neg (by omega),List.append_nil] at hB2
 subst hB2;have Kq:Kgs:=⟨⟩;exact Yh):p:=h
theorem step_free5 (n:Nat) (ih:Qq Tryz.prog (57,Ho n)):Qq Tryz.prog (57,(Ho (n+1))):=by
 obtain ⟨Kx,Kt,Kc,Kd,Kb,Ku,Kw,K,W4,Gd,M4,_⟩:=X2 Z4 Zq [] false (Jh good_inr5 jD.eq_def (Jh good_Kids5 Fs.eq_def (Jh ih (Ho.eq_def n) X1)));have Ko:=(Ho.eq_def (n+1));refine Wh K Tryz.func57 [.tmp 6] rfl 91 rfl (fun c hc cvs hpre=>?_);unfold Ho at hpre;obtain ⟨⟨t⟩,i,⟨b⟩,rfl,hT,hi0,⟨x,hx,hn,hb⟩⟩:=Mg hpre;simp only at hT hx hb;obtain ⟨i,rfl⟩:∃ k:Nat,i=k:=⟨i.toNat,by omega⟩
 rw [Zf] at hx;clear hpre;have hil:=hx.lt;have hle:=hx.le;have htl:=hT.1;have Qd:=Zr e0 hil;have hr:=hx.root e0;have Qa:El Iu t i=x:=Ps hx;have Qp:=Zuv hx;have hks:=hx.kids;obtain ⟨p,ks⟩:=x;rw [show (mk p ks).kids=ks from rfl] at Qp hks;have hkl:=lK (xs:=ks);have hks2:ks.length=Iu p:=hks.2;replace hks:=hks.1;rw [show (mk p ks).root=p from rfl] at hr;rw [hr] at Qd;rw [Rp,Zj] at hn hb hle;obtain ⟨l,hl⟩:=exq (Lr (i+1) ks);rw [hl] at Qp;have Q4:l.length=ks.length:=by rw [←hl,mT]
 have hin:Zhp .i64 (i:Int):=by rw [Xy];omega
 obtain ⟨R,Qc⟩:=exq (freeT (mk p ks) b);have hR2:=Qc;rw [freeT] at hR2;obtain ⟨pk,pl,pn,pb,pm,pq,pt,pu⟩:=p;simp only at hR2;cases hc;refine Yv 5 ?_;cases Qe:(pk==1&&!(R0 b pn)) with
 | true =>
  rw [Zk,Zm,Bool.not_eq_true'] at Qe;obtain ⟨rfl,Qe⟩:=Qe;rw [if_pos ⟨rfl,Qe⟩] at hR2;subst hR2;have Z6:((1:Int)==1)=true:=rfl;exact Il
 | false =>
 have hcond:¬ (pk=1∧R0 b pn=false):=by
  rintro ⟨Qh,h2⟩;rw [Qh,h2] at Qe;cases Qe
 rw [if_neg hcond] at hR2;have hlen:=freeTs_len ⟨pk,pl,pn,pb,pm,pq,pt,pu⟩ ks 0 b;rw [hR2] at hlen;have hlen:=freeTs_len ⟨pk,pl,pn,pb,pm,pq,pt,pu⟩ ks 0 b;cases Qh:(pk==1) with
 | true =>
  have Z6:R0 b pn=true:=by
   rw [Qh,Bool.true_and,Bool.not_eq_false'] at Qe;exact Qe
  obtain rfl:pk=1:=by simpa using Qh
  have hz:ks=[]:=by
   have:=hks2;rw [show Iu ⟨1,pl,pn,pb,pm,pq,pt,pu⟩=0 from rfl] at this;exact List.length_eq_zero_iff.1 this
  subst hz;have hln:l=[]:=by rw [←hl];rfl
  subst hln;have hRn:R=[]:=by rw [←hR2];rfl
  subst hRn;have Qz:Yi (0:Int) 0=false:=rfl;have Kq:Kgk:=⟨⟩;exact Yh
 | false =>
 have Kq:Kgl:=⟨⟩;exact Yh
theorem nZ:∀ n,Qq Tryz.prog (57,Ho n)
 | 0=>Wz (Jz Tryz.func57 (by kernel_rfl) rfl) Zek
 | n+1=>step_free5 n (nZ n)
def Zfs (o:List (List UInt8)) (x:List UInt8):Bool:=match o.getLast? with
 | none=>true
 | some y=>Op.bytesLess y x
def Ci (o:List (List UInt8)) (s:List UInt8×Bool) (x:List UInt8):List UInt8×Bool:=if (Zfs o x&&(!s.2||Op.bytesLess x s.1))=true then (x,true) else s
def Ej (o l:List (List UInt8)):List UInt8×Bool:=l.foldl (Ci o) ([],false)
def Zfi (l:List (List UInt8)):Nat→List (List UInt8)→List (List UInt8)
 | 0,o=>o
 | f+1,o=>if (Ej o l).2=true then Zfi l f (o++[(Ej o l).1]) else o
def Zge (l:List (List UInt8)):List (List UInt8):=Zfi l (l.length+1) []
theorem Zqu (x:List UInt8):Zfs [] x=true:=rfl
theorem Ot (o:List (List UInt8)) (y x:List UInt8):Zfs (o++[y]) x=Op.bytesLess y x:=by
 unfold Zfs;rw [List.getLast?_append];rfl
theorem A6 (o:List (List UInt8)):∀ (l:List (List UInt8)) (s:List UInt8×Bool),(s.2=true→Zfs o s.1=true) →
  ((l.foldl (Ci o) s).2=true→((l.foldl (Ci o) s).1∈l∨s=l.foldl (Ci o) s)∧Zfs o (l.foldl (Ci o) s).1=true∧∀ y∈l,Zfs o y=true→Op.bytesLess y (l.foldl (Ci o) s).1=false) ∧
  (s.2=true→(l.foldl (Ci o) s).2=true∧Op.bytesLess s.1 (l.foldl (Ci o) s).1=false) ∧
  ((l.foldl (Ci o) s).2=false→∀ y∈l,Zfs o y=false)
 | [],s,h=>⟨fun h2=>⟨.inr rfl,h h2,fun y hy=>by cases hy⟩,fun h2=>⟨h2,N3 _⟩,fun _ y hy=>by cases hy⟩
 | x::l,s,h=>by
  have hst:Ci o s x=if (Zfs o x&&(!s.2||Op.bytesLess x s.1))=true then (x,true) else s:=rfl
  rw [List.foldl_cons];by_cases hc:(Zfs o x&&(!s.2||Op.bytesLess x s.1))=true
  ·rw [if_pos hc] at hst;rw [hst];rw [Zk] at hc;obtain ⟨i1,i2,i3⟩:=A6 o l (x,true) (fun _=>hc.1);obtain ⟨j1,j2⟩:=i2 rfl;simp only at j2;refine ⟨fun h2=>?_,fun h2=>⟨j1,?_⟩,fun h2=>by rw [j1] at h2;cases h2⟩
   ·obtain ⟨k1,k2,k3⟩:=i1 h2;refine ⟨.inl ?_,k2,fun y hy hg=>?_⟩
    ·rcases k1 with k1|k1
     ·exact List.mem_cons_of_mem _ k1
     ·rw [←k1];exact List.mem_cons_self
    ·rcases Zu.1 hy with rfl|hy
     ·exact j2
     ·exact k3 y hy hg
   ·have h3:Op.bytesLess x s.1=true:=by
     have:=hc.2;rw [h2] at this;simpa using this
    cases hb:Op.bytesLess s.1 (l.foldl (Ci o) (x,true)).1 with
    | false=>rfl
    | true =>
     have:=B7 h3 hb;rw [j2] at this;cases this
  ·rw [if_neg hc] at hst;rw [hst];obtain ⟨i1,i2,i3⟩:=A6 o l s h;have hx:∀ (hg:Zfs o x=true),s.2=true∧Op.bytesLess x s.1=false:=by
    intro hg;rw [hg,Bool.true_and] at hc;simpa using hc
   refine ⟨fun h2=>?_,i2,fun h2 y hy=>?_⟩
   ·obtain ⟨k1,k2,k3⟩:=i1 h2;refine ⟨?_,k2,fun y hy hg=>?_⟩
    ·rcases k1 with k1|k1
     ·exact .inl (List.mem_cons_of_mem _ k1)
     ·exact .inr k1
    ·rcases Zu.1 hy with rfl|hy
     ·obtain ⟨g1,g2⟩:=hx hg;obtain ⟨g3,g4⟩:=i2 g1;cases hb:Op.bytesLess y (l.foldl (Ci o) s).1 with
      | false=>rfl
      | true =>
       by_cases he:s.1=y
       ·rw [he] at g4;rw [hb] at g4;cases g4
       ·have:=B7 (Fi he g2) hb;rw [g4] at this;cases this
     ·exact k3 y hy hg
   ·rcases Zu.1 hy with rfl|hy
    ·cases hg:Zfs o y with
     | false=>rfl
     | true =>
      have:=(i2 (hx hg).1).1;rw [h2] at this;cases this
    ·exact i3 h2 y hy
theorem Zez {o l:List (List UInt8)} (h:(Ej o l).2=true):(Ej o l).1∈l∧Zfs o (Ej o l).1=true∧∀ y∈l,Zfs o y=true→Op.bytesLess y (Ej o l).1=false:=by
 obtain ⟨h1,h2,h3⟩:=(A6 o l ([],false) (fun h=>by cases h)).1 h
 refine ⟨?_,h2,h3⟩;rcases h1 with h1|h1
 ·exact h1
 ·exfalso;have:(Ej o l).2=false:=(congrArg Prod.snd h1).symm;rw [h] at this;cases this
theorem Zpl {o l:List (List UInt8)} (h:(Ej o l).2=false):∀ y∈l,Zfs o y=false:=(A6 o l ([],false) (fun h=>by cases h)).2.2 h
def Zvi (o l:List (List UInt8)):Nat:=(l.filter (Zfs o)).length
theorem Zh0 {p q:List UInt8→Bool}:∀ {l:List (List UInt8)} {b:List UInt8},(∀ x,p x=true→q x=true)→b∈l→q b=true→p b=false→(l.filter p).length<(l.filter q).length
 | [],b,_,h,_,_=>by cases h
 | x::l,b,hpq,hb,h1,h2=>by
  have hle:(l.filter p).length≤(l.filter q).length:=by
   clear hb
   induction l with
   | nil=>simp
   | cons y l ih =>
    rw [List.filter_cons,List.filter_cons];cases hp:p y with
    | true=>rw [hpq y hp];simpa using ih
    | false =>
     cases q y with
     | true=>simp only [if_true,Zj];simp only [Zt,if_false];omega
     | false=>simpa using ih
  rw [List.filter_cons,List.filter_cons];rcases Zu.1 hb with rfl|hb
  ·rw [h1,h2];simp only [Zt,if_false,if_true,Zj];omega
  ·have ih:=Zh0 (l:=l) hpq hb h1 h2;cases hp:p x with
   | true=>rw [hpq x hp];simpa using ih
   | false =>
    cases q x with
    | true=>simp only [Zt,if_false,if_true,Zj];omega
    | false=>simpa using ih
theorem Zq9 {o l:List (List UInt8)} (h:(Ej o l).2=true):Zvi (o++[(Ej o l).1]) l<Zvi o l:=by
 obtain ⟨h1,h2,h3⟩:=Zez h;refine Zh0 (fun x hx=>?_) h1 h2 ?_
 ·rw [Ot] at hx;unfold Zfs at h2 ⊢;cases ho:o.getLast? with
  | none=>rfl
  | some y =>
   rw [ho] at h2;exact B7 h2 hx
 ·rw [Ot];exact N3 _
theorem Zra {o l:List (List UInt8)}:Zvi o l≤l.length:=List.length_filter_le _ _
noncomputable def Hq (t:List Part):List (List UInt8):=Zge (freeT (El Iu t 0) [])
noncomputable def Zel:Con:=Ho 10001
theorem Zme:Qq Tryz.prog (57,Zel):=nZ _
def Znn (t:List Part):Prop:=kJ t∧∃ x,At Iu t 0 x∧(nds x).length≤10000
noncomputable def Ft:Con:=Xj (fun (t:Sl Part)=>Znn t.l) (fun t=>Sl.mk (Hq t.l))
structure Kgv:Prop
theorem Kgv.k (_:Kgv) (h:p:=by
 repeat' first|exact Z1|with_reducible apply Zb|intro _
 all_goals first|contradiction|with_reducible exact Qo|omega|exact ⟨(f,o++[best]),by exact Qk,by simp only;omega,by simp;omega,hs,by simp only;omega⟩|skip):p:=h
structure Kgw:Prop
theorem Kgw.k (_:Kgw) (h:p:=by
 repeat' first|exact Z1|with_reducible apply Zb|intro _
 all_goals first|contradiction|with_reducible exact Qo|omega|exact ⟨(i+1,x0,true),by exact Qk,by simp only;omega,hfold,by simp only;omega⟩|skip):p:=h
structure Kgx:Prop
theorem Kgx.k (_:Kgx) (h:p:=by
 repeat' first|exact Z1|with_reducible apply Zb|intro _
 all_goals first|contradiction|with_reducible exact Qo|omega|exact ⟨(i+1,x0,true),by exact Qk,by simp only;omega,hfold,by simp only;omega⟩|skip):p:=h
structure Kgy:Prop
theorem Kgy.k (_:Kgy) (h:p:=by
 repeat' first|exact Z1|with_reducible apply Zb|intro _
 all_goals first|contradiction|with_reducible exact Qo|omega|exact ⟨(i+1,best,true),by exact Qk,by simp only;omega,hfold,by simp only;omega⟩|skip):p:=h
structure Kgz:Prop
theorem Kgz.k (_:Kgz) (h:p:=by
 repeat' first|exact Z1|with_reducible apply Zb|intro _
 all_goals first|contradiction|with_reducible exact Qo|omega|exact ⟨(i+1,best,had),by exact Qk,by simp only;omega,hfold,by simp only;omega⟩|skip):p:=h
structure KgA:Prop
theorem KgA.k (_:KgA) (h:p:=by
 repeat' first|exact Z1|with_reducible apply Zb|intro _
 all_goals first|contradiction|with_reducible exact Qo|omega|exact ⟨(i+1,x0,true),by exact Qk,by simp only;omega,hfold,by simp only;omega⟩|skip):p:=h
structure KgB:Prop
theorem KgB.k (_:KgB) (h:p:=by
 repeat' first|exact Z1|with_reducible apply Zb|intro _
 all_goals first|contradiction|with_reducible exact Qo|omega|exact ⟨(i+1,x0,true),by exact Qk,by simp only;omega,hfold,by simp only;omega⟩|skip):p:=h
structure KgC:Prop
theorem KgC.k (_:KgC) (h:p:=by
 repeat' first|exact Z1|with_reducible apply Zb|intro _
 all_goals first|contradiction|with_reducible exact Qo|omega|exact ⟨(i+1,best,true),by exact Qk,by simp only;omega,hfold,by simp only;omega⟩|skip):p:=h
structure Kgu:Prop
theorem Kgu.k (_:Kgu) (h:p:=by
 repeat' first|exact Z1|with_reducible apply Zb|intro _
 all_goals first|with_reducible exact Qo|omega|skip
 refine Zi [11,12,13,14,15,16,17,18,19,20,21,22,23,24,25,26,27,28,29,30,31,32,33,34,35,36,37,38,39,40,41,42,43,44,45,46,47,48] (fun q:Nat×List UInt8×Bool=>[(5,.d (.str q.2.1)),(6,.d (.bool q.2.2)),(7,.d (.int .i64 q.1))]) (fun q:Nat×List UInt8×Bool=>[]) (fun q:Nat×List UInt8×Bool=>q.1≤l.length∧(l.drop q.1).foldl (Ci o) q.2=S) (fun q:Nat×List UInt8×Bool=>l.length-q.1) (0,[],false) ?_ ?_ ?_
 ·exact ⟨Nat.zero_le _,hS0⟩
 ·exact Qk
 rintro ⟨i,best,had⟩ ⟨hi,hfold⟩;simp only at hi hfold;rcases Zn i l.length with ⟨hlt,Z6⟩|⟨hlt,Z6⟩
 rotate_left
 ·have hie:i=l.length:=by omega
  rw [hie,List.drop_length] at hfold;subst hfold;simp only [List.foldl_nil] at hs hlt0;cases had with
  | false =>
   simp only [Zt,if_false] at hs;subst hs;exact Il
  | true =>
   simp only [if_true] at hs;have hc2:=hlt0 rfl;have Qc:o.map (enc:List UInt8→D)++[.str best]=(o++[best]).map enc:=dR;have Kq:Kgv:=⟨⟩;exact Yh
 have Qh:=Zr ([]:List UInt8) hlt;rw [List.drop_eq_getElem_cons hlt,List.foldl_cons,show l[i]=l.getD i [] by simp [hlt]] at hfold
 obtain ⟨x0,hx0⟩:=exq (l.getD i []);rw [hx0] at Qh hfold;obtain ⟨s',hsq⟩:∃ s',Ci o (best,had) x0=s':=⟨_,rfl⟩;rw [hsq] at hfold;unfold Ci at hsq;simp only at hsq;obtain ⟨lb,Qp⟩:=exq (Op.bytesLess x0 best);rw [Qp] at hsq;rcases List.eq_nil_or_concat o with ho0|⟨o',y,ho1⟩
 ·subst ho0;rw [Zqu,Bool.true_and] at hsq;have Qz:((0:Int)==0)=true:=rfl;cases had with
  | false =>
   rw [if_pos (by simp)] at hsq
   subst hsq;have Kq:Kgw:=⟨⟩;exact Yh
  | true =>
   cases lb with
   | true =>
    rw [if_pos (by simp)] at hsq
    subst hsq;have Kq:Kgx:=⟨⟩;exact Yh
   | false =>
    rw [if_neg (by simp)] at hsq
    subst hsq;have Kq:Kgy:=⟨⟩;exact Yh
 ·rw [List.concat_eq_append] at ho1;rw [show Zfs o x0=Op.bytesLess y x0 by rw [ho1,Ot]] at hsq
  have hol:o.length=o'.length+1:=by rw [ho1];simp
  have Qz:((o.length:Int)==0)=false:=Za.2 (by omega)
  have Qv:el (o.map enc) o'.length=.str y:=by rw [ho1];simp [el]
  have Q4:((o.length:Int)-1)=(o'.length:Int):=by omega
  have Z0:=less_not x0 y;obtain ⟨g,hgv⟩:=exq (Op.bytesLess y x0);rw [hgv] at Z0 hsq;cases g with
  | false =>
   rw [if_neg (by simp)] at hsq
   subst hsq;have Kq:Kgz:=⟨⟩;exact Yh
  | true =>
   cases had with
   | false =>
    rw [if_pos (by simp)] at hsq
    subst hsq;have Kq:KgA:=⟨⟩;exact Yh
   | true =>
    cases lb with
    | true =>
     rw [if_pos (by simp)] at hsq
     subst hsq;have Kq:KgB:=⟨⟩;exact Yh
    | false =>
     rw [if_neg (by simp)] at hsq
     subst hsq;have Kq:KgC:=⟨⟩;exact Yh):p:=h
structure Kgt:Prop
theorem Kgt.k (_:Kgt) (h:p:=by
 repeat' first|exact Z1|with_reducible apply Zb|intro _
 all_goals first|exact hpr|exact hT|omega|skip
 refine Zi [2,5,6,7,11,12,13,14,15,16,17,18,19,20,21,22,23,24,25,26,27,28,29,30,31,32,33,34,35,36,37,38,39,40,41,42,43,44,45,46,47,48,49,50,51,52,53,54,55] (fun p:Nat×List (List UInt8)=>[(4,.sl 10 (p.2.map (enc:List UInt8→D)).length)]) (fun p:Nat×List (List UInt8)=>[(10,.row 1 (p.2.map enc) 0)]) (fun p:Nat×List (List UInt8)=>Zvi p.2 l<p.1∧p.2.length+p.1≤l.length+1∧Zfi l p.1 p.2=R) (fun p:Nat×List (List UInt8)=>p.1) (l.length+1,[]) ?_ ?_ ?_
 ·exact ⟨by have:=Zra (o:=[]) (l:=l);simp only;omega,by simp,hR2⟩
 ·exact Qk
 rintro ⟨f,o⟩ ⟨hc,ho,hs⟩;simp only at hc ho hs;obtain ⟨f,rfl⟩:∃ g,f=g+1:=⟨f-1,by omega⟩
 rw [Zfi] at hs;obtain ⟨S,hS⟩:=exq (Ej o l);have hS0:=hS;unfold Ej at hS0;have hlt0:=Zq9 (o:=o) (l:=l);rw [hS] at hs hlt0;have Kq:Kgu:=⟨⟩;exact Yh):p:=h
theorem good_Free5:Qq Tryz.prog (24,Ft):=by
 obtain ⟨Kx,Kt,Kc,Kd,Kb,Ku,Kw,K,W4,_⟩:=X2 Z4 Zq [] false (Jh Zme Zel.eq_def X1);have Ko:=Ft.eq_def;refine Wh K Tryz.func24 [.tmp 2] rfl 56 rfl (fun c hc cvs hpre=>?_);unfold Ft at hpre;obtain ⟨⟨t⟩,rfl,hT,x,hx,hn⟩:=Jr hpre;simp only at hT hx;clear hpre;have Qd:El Iu t 0=x:=Ps hx;obtain ⟨R,Qa⟩:=exq (Hq t);have hR2:=Qa;unfold Hq Zge at hR2;rw [Qd] at hR2;have hfl:=freeT_len x [];obtain ⟨l,Qe⟩:=exq (freeT x []);rw [Qe] at hR2 hfl;have hpr:(∃ x,At Iu t (0:Int).toNat x∧(nds x).length<10001∧([]:List (List UInt8)).length+2*(nds x).length≤900000):=⟨x,hx,by omega,by simp;omega⟩
 cases hc;refine Yv 3 ?_;have Z3:=@Ho.eq_def;have Kq:Kgt:=⟨⟩;exact Yh
theorem Zkz {t:List Part} (h:Gm t=true):Znn t:=by
 obtain ⟨x,hx,ha⟩:=Zcl h;unfold Gm at h;simp only [Zk,Bool.not_eq_true'] at h;obtain ⟨h1,h2,_⟩:=h;unfold M7 at h1;simp only [Bool.or_eq_false_iff,Q9] at h1;have hl:t.length≤10000:=by omega
 exact ⟨⟨by omega,fun n hn=>Zgb (List.all_eq_true.1 h2 n hn)⟩,x,ha,by rw [←hx];exact hl⟩
def mayB (env:List Bd) (s:List UInt8):Bool:=env.any fun b=>b.name==s
def jC:Con:=Wr (fun (env:Sl Bd) (_:List UInt8)=>env.l.length≤1000000000) (fun env s=>mayB env.l s)
structure KgE:Prop
theorem KgE.k (_:KgE) (h:p:=by
 repeat' first|exact Z1|with_reducible apply Zb|intro _
 all_goals first|with_reducible exact Qo|omega|exact ⟨k+1,by exact Qk,by omega,Eq.mpr hQ h2,by omega⟩|exact ⟨k+1,by exact Qk,by omega,fun m hm=>by have h3:=(Eq.mpr hQ h2:∀ j,j<k+1→((l.getD j jU).name==s)=false) m hm;simpa using h3,by omega⟩|skip):p:=h
structure KgD:Prop
theorem KgD.k (_:KgD) (h:p:=by
 repeat' first|exact Z1|with_reducible apply Zb|intro _
 refine Zi [4,6,7,8,9,10,11,12,13,14,15,16,17,18] (fun k:Nat=>[(5,.d (.int .i64 k))]) (fun k:Nat=>[]) (fun k:Nat=>k≤l.length∧∀ j,j<k→((l.getD j jU).name==s)=false) (fun k:Nat=>l.length-k) 0 ?_ ?_ ?_
 ·simp
 ·exact Qk
 rintro k ⟨hk,hno⟩;rcases Zn k l.length with ⟨hlt,Qd⟩|⟨hlt,Qd⟩
 ·have Qe:=Zr jU hlt;have hst:((l.getD k jU).name==s)=false→∀ j,j<k+1→((l.getD j jU).name==s)=false:=fun h=>Ks hno h;have hit:((l.getD k jU).name==s)=true→R=true:=fun h=>by rw [←hR2];exact A8 (p:=fun o=>o.name==s) jU k hlt h
  obtain ⟨Q,hQ⟩:=exq ((∀ j,j<k+1→((l.getD j jU).name==s)=false));rw [hQ] at hst;obtain ⟨⟨yn,yt⟩,hy⟩:=exq (l.getD k jU);rw [hy] at Qe hst hit;simp only at hst hit;cases Z6:(yn==s) with
  | true =>
   have hr:=hit Z6;subst hr;exact Il
  | false =>
   have h2:=hst Z6;have Kq:KgE:=⟨⟩;exact Yh
 ·have hr:R=false:=by rw [←hR2];exact Ly (p:=fun o=>o.name==s) jU fun j hj=>hno j (by omega)
  subst hr;exact Zwo):p:=h
theorem good_may9:Qq Tryz.prog (56,jC):=by
 obtain ⟨Kx,Kt,Kc,Kd,Kb,Ku,Kw,K,_⟩:=X2 Z4 Zq [] false X1;have Ko:=jC.eq_def;refine Wh K Tryz.func56 [.tmp 4] rfl 19 rfl (fun c hc cvs hpre=>?_);unfold jC at hpre;obtain ⟨⟨l⟩,s,rfl,hl⟩:=Jv hpre;simp only at hl;clear hpre;obtain ⟨R,Qa⟩:=exq (mayB l s);have hR2:=Qa;unfold mayB at hR2;cases hc;have Kq:KgD:=⟨⟩;exact Yh
def Ip (env:List Bd):List (List UInt8)→Option (List UInt8)
 | []=>none
 | s::r=>if mayB env s=true then Ip env r else some s
def Zzb (l:List Mod6) (m d:Nat):Def6:=(l.getD m Js).defs.getD d Jx
noncomputable def cN (l:List Mod6) (m:Nat):Nat→Nat→Option (Nat×List UInt8)
 | 0,_=>none
 | f+1,d=>match Ip (Ir l m d) (Hq (Zzb l m d).e) with
  | some s=>some (d,s)
  | none=>cN l m f (d+1)
noncomputable def gZ (l:List Mod6):Nat→Nat→Option (Nat×Nat×List UInt8)
 | 0,_=>none
 | f+1,m=>match cN l m (l.getD m Js).defs.length 0 with
  | some (d,s)=>some (m,d,s)
  | none=>gZ l f (m+1)
def Zfk:Option (Nat×Nat×List UInt8)→Int×Int×List UInt8×Int
 | some (m,d,s)=>(m,d,s,5)
 | none=>(0,0,[],0)
noncomputable def Be (l:List Mod6):Int×Int×List UInt8×Int:=Zfk (gZ l l.length 0)
def Ei {A R S T U:Type} [Enc A] [Enc R] [Enc S] [Enc T] [Enc U] (p:A→Prop) (f:A→R×S×T×U):Con:=⟨[false],[false,false,false,false],fun c=>match c with
 | [.d x]=>K3 A x∧p (dec x)
 | _=>False,fun c=>match c with
 | [.d x]=>.tup [.d (enc (f (dec x)).1),.d (enc (f (dec x)).2.1),.d (enc (f (dec x)).2.2.1),.d (enc (f (dec x)).2.2.2)]
 | _=>.d .nilp⟩
theorem cJ {A R S T U:Type} [Enc A] [Enc R] [Enc S] [Enc T] [Enc U] {p:A→Prop} {f:A→R×S×T×U} {c:List CV} (h:(Ei p f).pre c):∃ a,c=[.d (enc a)]∧p a:=by
 unfold Ei at h;simp only at h;split at h
 ·next x=>exact ⟨dec x,by rw [←h.1],h.2⟩
 ·exact h.elim
structure NamesOk (l:List Mod6):Prop where
 env:EnvOk l
 tree:∀ m∈l,∀ d∈m.defs,Znn d.e
theorem iP {l:List Mod6} (h:EnvOk l) {m d:Int}:(Ir l m d).length≤100000000:=by
 unfold Ir;split
 ·simp
 rename_i hc;have hml:m.toNat<l.length:=by omega
 have hmem:l.getD m.toNat Js∈l:=by simp [hml]
 have h1:=h.imps _ hmem;have h2:=h.defs _ hmem;have h3:=Zqp h (l.getD m.toNat Js).imps;unfold Zxe;rw [Zh,Zo,List.length_take];omega
theorem Zkv {l:List (List UInt8)}:∀ (f:Nat) (o:List (List UInt8)),(Zfi l f o).length≤o.length+f
 | 0,o=>by simp [Zfi]
 | f+1,o=>by
  rw [Zfi];split
  ·have:=Zkv (l:=l) f (o++[(Ej o l).1]);rw [Zh] at this;simp only [Zj,List.length_nil] at this;omega
  ·omega
theorem Ab {t:List Part} (h:Znn t):(Hq t).length≤10001:=by
 obtain ⟨_,x,hx,hn⟩:=h;unfold Hq Zge;rw [Ps hx];have h1:=Zkv (l:=freeT x []) ((freeT x []).length+1) [];have h2:=freeT_len x [];simp only [List.length_nil] at h1;omega
noncomputable def De:Con:=Ei (fun (l:Sl Mod6)=>NamesOk l.l) (fun l=>Be l.l)
structure KgH:Prop
theorem KgH.k (_:KgH) (h:p:=by
 repeat' first|exact Z1|with_reducible apply Zb|intro _
 all_goals first|with_reducible exact Qo|omega|exact ⟨m+1,by exact Qk,by omega,hdR,by omega⟩|skip):p:=h
structure KgJ:Prop
theorem KgJ.k (_:KgJ) (h:p:=by
 repeat' first|exact Z1|with_reducible apply Zb|intro _
 all_goals first|with_reducible exact Qo|omega|exact ⟨d+1,by exact Qk,by omega,hkR,by omega⟩|skip):p:=h
structure KgK:Prop
theorem KgK.k (_:KgK) (h:p:=by
 repeat' first|exact Z1|with_reducible apply Zb|intro _
 all_goals first|contradiction|with_reducible exact Qo|omega|exact ⟨k+1,by exact Qk,by omega,hkR,by omega⟩|skip):p:=h
structure KgI:Prop
theorem KgI.k (_:KgI) (h:p:=by
 repeat' first|exact Z1|with_reducible apply Zb|intro _
 all_goals first|with_reducible exact Qo|omega|exact hE|exact hT|skip
 refine Zi [2,3,4,5,41,42,43,44,45,46,47,48,49,50,51,52,53,54,55,56,57,58,59] (fun k:Nat=>[(10,.d (.int .i64 k))]) (fun k:Nat=>[]) (fun k:Nat=>k≤F.length∧Zfk (match (match Ip E (F.drop k) with|some s=>some (d,s)|none=>cN l m (md.length-(d+1)) (d+1)) with|some (d,s)=>some (m,d,s)|none=>L)=R) (fun k:Nat=>F.length-k) 0 ?_ ?_ ?_
 ·exact ⟨Nat.zero_le _,hdR⟩
 ·exact Qk
 rintro k ⟨hk,hkR⟩;rcases Zn k F.length with ⟨hklt,Qz⟩|⟨hklt,Qz⟩
 rotate_left
 ·rw [List.drop_eq_nil_of_le hklt] at hkR;have hkR:Zfk (match cN l m (md.length-(d+1)) (d+1) with|some (d,s)=>some (m,d,s)|none=>L)=R:=hkR
  have Kq:KgJ:=⟨⟩;exact Yh
 have Qv:=Zr ([]:List UInt8) hklt;rw [List.drop_eq_getElem_cons hklt,show F[k]=F.getD k [] by simp [hklt],Ip] at hkR
 obtain ⟨s,hs⟩:=exq (F.getD k []);rw [hs] at Qv hkR;cases Q4:mayB E s with
 | true =>
  rw [Q4,if_pos rfl] at hkR;have Kq:KgK:=⟨⟩;exact Yh
 | false =>
  rw [Q4,if_neg (by simp)] at hkR
  have hkR:((m:Int),(d:Int),s,(5:Int))=R:=hkR;subst hkR;have Z0:=@Ei.eq_def;exact Il):p:=h
structure KgG:Prop
theorem KgG.k (_:KgG) (h:p:=by
 repeat' first|exact Z1|with_reducible apply Zb|intro _
 all_goals first|with_reducible exact Qo|omega|skip
 refine Zi [2,3,4,5,8,9,10,17,18,19,20,21,22,23,24,25,26,27,28,29,30,31,32,33,34,35,36,37,38,39,40,41,42,43,44,45,46,47,48,49,50,51,52,53,54,55,56,57,58,59] (fun d:Nat=>[(7,.d (.int .i64 d))]) (fun d:Nat=>[]) (fun d:Nat=>d≤md.length∧Zfk (match cN l m (md.length-d) d with|some (d,s)=>some (m,d,s)|none=>L)=R) (fun d:Nat=>md.length-d) 0 ?_ ?_ ?_
 ·exact ⟨Nat.zero_le _,hmR⟩
 ·exact Qk
 rintro d ⟨hd,hdR⟩;rcases Zn d md.length with ⟨hdlt,Qa⟩|⟨hdlt,Qa⟩
 rotate_left
 ·have hz:md.length-d=0:=by omega
  rw [hz] at hdR;have hdR:Zfk L=R:=hdR;rw [←hL] at hdR;have Kq:KgH:=⟨⟩;exact Yh
 have Qc:=Zr Jx hdlt;have hdm:md.getD d Jx∈md:=by simp [hdlt]
 have hT:=htr _ hdm;have hg1:md.length-d=(md.length-(d+1))+1:=by omega
 rw [hg1,cN,hdf] at hdR;have hel:=iP hE (m:=(m:Int)) (d:=(d:Int));obtain ⟨E,Qh⟩:=exq (Ir l (m:Int) (d:Int));rw [Qh] at hdR hel;obtain ⟨⟨dn,dt,de⟩,hD⟩:=exq (md.getD d Jx);rw [hD] at Qc hT hdR;simp only at hT hdR;have hFl:=Ab hT;obtain ⟨F,Qp⟩:=exq (Hq de);rw [Qp] at hdR hFl;have Kq:KgI:=⟨⟩;exact Yh):p:=h
structure KgF:Prop
theorem KgF.k (_:KgF) (h:p:=by
 repeat' first|exact Z1|with_reducible apply Zb|intro _
 all_goals first|with_reducible exact Qo|omega|skip
 refine Zi [2,3,4,5,7,8,9,10,11,12,13,14,15,16,17,18,19,20,21,22,23,24,25,26,27,28,29,30,31,32,33,34,35,36,37,38,39,40,41,42,43,44,45,46,47,48,49,50,51,52,53,54,55,56,57,58,59] (fun m:Nat=>[(6,.d (.int .i64 m))]) (fun m:Nat=>[]) (fun m:Nat=>m≤l.length∧Zfk (gZ l (l.length-m) m)=R) (fun m:Nat=>l.length-m) 0 ?_ ?_ ?_
 ·exact ⟨Nat.zero_le _,hR2⟩
 ·exact Qk
 rintro m ⟨hm,hmR⟩;rcases Zn m l.length with ⟨hlt,Qd⟩|⟨hlt,Qd⟩
 rotate_left
 ·have hz:l.length-m=0:=by omega
  rw [hz] at hmR;have hmR:((0:Int),(0:Int),([]:List UInt8),(0:Int))=R:=hmR;subst hmR;have Z0:=@Ei.eq_def;exact Zwo
 have Z6:=Zr Js hlt;have hmem:l.getD m Js∈l:=by simp [hlt]
 have hdl:=hE.defs _ hmem;have htr:=hN.tree _ hmem;have hf1:l.length-m=(l.length-(m+1))+1:=by omega
 rw [hf1,gZ] at hmR;obtain ⟨L,hL⟩:=exq (gZ l (l.length-(m+1)) (m+1));rw [hL] at hmR;have hdf:∀ d,Zzb l m d=(l.getD m Js).defs.getD d Jx:=fun d=>rfl;obtain ⟨M,hM⟩:=exq (l.getD m Js);rw [hM] at Z6 hdl htr hmR hdf;obtain ⟨mn,mi,md,ms⟩:=M;simp only at hdl htr hmR hdf;have Kq:KgG:=⟨⟩;exact Yh):p:=h
theorem good_Names9:Qq Tryz.prog (23,De):=by
 obtain ⟨Kx,Kt,Kc,Kd,Kb,Ku,Kw,K,W4,Gd,M4,_⟩:=X2 Z4 Zq [] false (Jh good_Env9 jI.eq_def (Jh good_Free5 Ft.eq_def (Jh good_may9 jC.eq_def X1)));have Ko:=De.eq_def;refine Wh K Tryz.func23 [.tmp 2,.tmp 3,.tmp 4,.tmp 5] rfl 60 rfl (fun c hc cvs hpre=>?_);unfold De at hpre;obtain ⟨⟨l⟩,rfl,hN⟩:=cJ hpre;simp only at hN;clear hpre;have hE:=hN.env;have hlen:=hE.len;obtain ⟨R,Qe⟩:=exq (Be l);have hR2:=Qe;unfold Be at hR2;cases hc;refine Yv 3 ?_;have Z0:=@Ei.eq_def;have Kq:KgF:=⟨⟩;exact Yh
open Go.Proofs Go.RowKit
structure KA where
 l:List Int
instance encKA:Enc KA:=⟨fun a=>.agg (a.l.map enc),fun x=>match x with
 | .agg l=>⟨l.map dec⟩
 | _=>⟨[]⟩,fun a=>by
  have h1:∀ l:List Int,(l.map (enc:Int→D)).map dec=l:=fun l=>J2;cases a;simp [h1]⟩
def Zut:KA:=⟨[0,0,1,2,2,2,3,1,1,2,0,1,1,1,1]⟩
theorem Zhh:(enc Zut:D)=.agg [.int .i64 0,.int .i64 0,.int .i64 1,.int .i64 2,.int .i64 2,.int .i64 2,.int .i64 3,.int .i64 1,.int .i64 1,.int .i64 2,.int .i64 0,.int .i64 1,.int .i64 1,.int .i64 1,.int .i64 1]:=rfl
def bL:Con:=Ut Zut
theorem Zo3:Qq Tryz.prog (136,bL):=by
 obtain ⟨Kx,Kt,Kc,Kd,Kb,Ku,Kw,K,_⟩:=X2 Z4 Zq [] false X1;have Ko:=bL.eq_def;refine Wh K Tryz.func136 [.cell 0 168] rfl 2 rfl (fun c hc cvs hpre=>?_);unfold bL at hpre;obtain rfl:=jL hpre;have Qe:=Zhh;obtain ⟨k,Qd⟩:=exq (Zut);rw [Qd] at Qe;cases hc;exact Zwo
def bI:Con:=Xj (fun (p:Part)=>p.many≤1000000) (fun p=>Yj p)
theorem Zo2:Qq Tryz.prog (98,bI):=by
 obtain ⟨Kx,Kt,Kc,Kd,Kb,Ku,Kw,K,W4,_⟩:=X2 Z4 Zq [] false (Jh Zo3 bL.eq_def X1);have Ko:=bI.eq_def;refine Wh K Tryz.func98 [.tmp 2] rfl 30 rfl (fun c hc cvs hpre=>?_);unfold bI at hpre;obtain ⟨p,rfl,hm⟩:=Jr hpre;obtain ⟨pk,pl,pn,pb,pm,pq,pt,pu⟩:=p;simp only at hm;clear hpre;obtain ⟨R,Qe⟩:=exq (Yj ⟨pk,pl,pn,pb,pm,pq,pt,pu⟩);have hR2:=Qe;unfold Yj at hR2;simp only at hR2;have hmx:Zdf pm 0=if pm<0 then 0 else pm:=rfl
 have hm0:0≤Zdf pm 0:=by rw [hmx];split<;>omega
 have hm1:Zdf pm 0≤1000000:=by rw [hmx];split<;>omega
 obtain ⟨X,Qh⟩:=exq (Zdf pm 0);rw [Qh] at hR2 hm0 hm1;clear hmx;have Qc:=Zhh;cases hc;rcases Xx pk 0 with ⟨h1,Qd⟩|⟨h1,Qd⟩
 ·have hr:R=0:=by
   rw [←hR2]
   repeat rw [if_neg (by omega)]
  subst hr;exact Il
 rcases Xx 14 pk with ⟨h2,Z6⟩|⟨h2,Z6⟩
 ·have hr:R=0:=by
   rw [←hR2]
   repeat rw [if_neg (by omega)]
  subst hr;exact Il
 have hc:pk=0∨pk=1∨pk=2∨pk=3∨pk=4∨pk=5∨pk=6∨pk=7∨pk=8∨pk=9∨pk=10∨pk=11∨pk=12∨pk=13∨pk=14:=by omega
 rcases hc with rfl|rfl|rfl|rfl|rfl|rfl|rfl|rfl|rfl|rfl|rfl|rfl|rfl|rfl|rfl
 ·have Qa:el [.int .i64 0,.int .i64 0,.int .i64 1,.int .i64 2,.int .i64 2,.int .i64 2,.int .i64 3,.int .i64 1,.int .i64 1,.int .i64 2,.int .i64 0,.int .i64 1,.int .i64 1,.int .i64 1,.int .i64 1] (Int.toNat (0:Int))=.int .i64 0:=rfl;have hr:R=0:=by
   rw [←hR2];simp
  subst hr;exact Il
 ·have Qa:el [.int .i64 0,.int .i64 0,.int .i64 1,.int .i64 2,.int .i64 2,.int .i64 2,.int .i64 3,.int .i64 1,.int .i64 1,.int .i64 2,.int .i64 0,.int .i64 1,.int .i64 1,.int .i64 1,.int .i64 1] (Int.toNat (1:Int))=.int .i64 0:=rfl;have hr:R=0:=by
   rw [←hR2];simp
  subst hr;exact Il
 ·have Qa:el [.int .i64 0,.int .i64 0,.int .i64 1,.int .i64 2,.int .i64 2,.int .i64 2,.int .i64 3,.int .i64 1,.int .i64 1,.int .i64 2,.int .i64 0,.int .i64 1,.int .i64 1,.int .i64 1,.int .i64 1] (Int.toNat (2:Int))=.int .i64 1:=rfl;have hr:R=1:=by
   rw [←hR2];simp
  subst hr;exact Il
 ·have Qa:el [.int .i64 0,.int .i64 0,.int .i64 1,.int .i64 2,.int .i64 2,.int .i64 2,.int .i64 3,.int .i64 1,.int .i64 1,.int .i64 2,.int .i64 0,.int .i64 1,.int .i64 1,.int .i64 1,.int .i64 1] (Int.toNat (3:Int))=.int .i64 2:=rfl;have hr:R=2:=by
   rw [←hR2];simp
  subst hr;exact Il
 ·have Qa:el [.int .i64 0,.int .i64 0,.int .i64 1,.int .i64 2,.int .i64 2,.int .i64 2,.int .i64 3,.int .i64 1,.int .i64 1,.int .i64 2,.int .i64 0,.int .i64 1,.int .i64 1,.int .i64 1,.int .i64 1] (Int.toNat (4:Int))=.int .i64 2:=rfl;have hr:R=2:=by
   rw [←hR2];simp
  subst hr;exact Il
 ·have Qa:el [.int .i64 0,.int .i64 0,.int .i64 1,.int .i64 2,.int .i64 2,.int .i64 2,.int .i64 3,.int .i64 1,.int .i64 1,.int .i64 2,.int .i64 0,.int .i64 1,.int .i64 1,.int .i64 1,.int .i64 1] (Int.toNat (5:Int))=.int .i64 2:=rfl;have hr:R=2:=by
   rw [←hR2];simp
  subst hr;exact Il
 ·have Qa:el [.int .i64 0,.int .i64 0,.int .i64 1,.int .i64 2,.int .i64 2,.int .i64 2,.int .i64 3,.int .i64 1,.int .i64 1,.int .i64 2,.int .i64 0,.int .i64 1,.int .i64 1,.int .i64 1,.int .i64 1] (Int.toNat (6:Int))=.int .i64 3:=rfl;have hr:R=3:=by
   rw [←hR2];simp
  subst hr;exact Il
 ·have Qa:el [.int .i64 0,.int .i64 0,.int .i64 1,.int .i64 2,.int .i64 2,.int .i64 2,.int .i64 3,.int .i64 1,.int .i64 1,.int .i64 2,.int .i64 0,.int .i64 1,.int .i64 1,.int .i64 1,.int .i64 1] (Int.toNat (7:Int))=.int .i64 1:=rfl;have hr:R=X+1:=by
   rw [←hR2];simp
  have Qp:(1:Int)+X=R:=by omega
  exact Il
 ·have Qa:el [.int .i64 0,.int .i64 0,.int .i64 1,.int .i64 2,.int .i64 2,.int .i64 2,.int .i64 3,.int .i64 1,.int .i64 1,.int .i64 2,.int .i64 0,.int .i64 1,.int .i64 1,.int .i64 1,.int .i64 1] (Int.toNat (8:Int))=.int .i64 1:=rfl;have hr:R=1:=by
   rw [←hR2];simp
  subst hr;exact Il
 ·have Qa:el [.int .i64 0,.int .i64 0,.int .i64 1,.int .i64 2,.int .i64 2,.int .i64 2,.int .i64 3,.int .i64 1,.int .i64 1,.int .i64 2,.int .i64 0,.int .i64 1,.int .i64 1,.int .i64 1,.int .i64 1] (Int.toNat (9:Int))=.int .i64 2:=rfl;have hr:R=2:=by
   rw [←hR2];simp
  subst hr;exact Il
 ·have Qa:el [.int .i64 0,.int .i64 0,.int .i64 1,.int .i64 2,.int .i64 2,.int .i64 2,.int .i64 3,.int .i64 1,.int .i64 1,.int .i64 2,.int .i64 0,.int .i64 1,.int .i64 1,.int .i64 1,.int .i64 1] (Int.toNat (10:Int))=.int .i64 0:=rfl;have hr:R=X:=by
   rw [←hR2];simp
  have Qp:(0:Int)+X=R:=by omega
  exact Il
 ·have Qa:el [.int .i64 0,.int .i64 0,.int .i64 1,.int .i64 2,.int .i64 2,.int .i64 2,.int .i64 3,.int .i64 1,.int .i64 1,.int .i64 2,.int .i64 0,.int .i64 1,.int .i64 1,.int .i64 1,.int .i64 1] (Int.toNat (11:Int))=.int .i64 1:=rfl;have hr:R=1:=by
   rw [←hR2];simp
  subst hr;exact Il
 ·have Qa:el [.int .i64 0,.int .i64 0,.int .i64 1,.int .i64 2,.int .i64 2,.int .i64 2,.int .i64 3,.int .i64 1,.int .i64 1,.int .i64 2,.int .i64 0,.int .i64 1,.int .i64 1,.int .i64 1,.int .i64 1] (Int.toNat (12:Int))=.int .i64 1:=rfl;have hr:R=1:=by
   rw [←hR2];simp
  subst hr;exact Il
 ·have Qa:el [.int .i64 0,.int .i64 0,.int .i64 1,.int .i64 2,.int .i64 2,.int .i64 2,.int .i64 3,.int .i64 1,.int .i64 1,.int .i64 2,.int .i64 0,.int .i64 1,.int .i64 1,.int .i64 1,.int .i64 1] (Int.toNat (13:Int))=.int .i64 1:=rfl;have hr:R=1:=by
   rw [←hR2];simp
  subst hr;exact Il
 ·have Qa:el [.int .i64 0,.int .i64 0,.int .i64 1,.int .i64 2,.int .i64 2,.int .i64 2,.int .i64 3,.int .i64 1,.int .i64 1,.int .i64 2,.int .i64 0,.int .i64 1,.int .i64 1,.int .i64 1,.int .i64 1] (Int.toNat (14:Int))=.int .i64 1:=rfl;have hr:R=1:=by
   rw [←hR2];simp
  subst hr;exact Il
open Go.Proofs
theorem Zj1:nD 1 [90000]:=fun j hj=>by
 have:j=0:=by omega
 subst this;rfl
theorem Zrb:nD 0 []:=fun j hj=>by omega
def Zfq (v:List UInt8) (x:List UInt8):Bool:=v==x
abbrev Qbt:=Option (List (List UInt8))×List UInt8
def Qan:Option (List (List UInt8))→AV
 | none=>.nils 1
 | some l=>.sl 90000 l.length
def Zwu:Option (List (List UInt8))→List Obj
 | none=>[]
 | some l=>[.row 1 (l.map enc) 0]
def Bu:Option (List (List UInt8))→List (List UInt8)
 | none=>[]
 | some l=>l
def Hf:BCon where
 X:=Qbt
 ok:=fun p=>(Bu p.1).length≤1000000000
 args:=fun p=>[Qan p.1,.d (.str p.2)]
 objs:=fun p=>Zwu p.1
 res:=fun p=>.int .i64 (Yf (Zfq p.2) (Bu p.1))
 post:=fun p=>Zwu p.1
structure KgM:Prop
theorem KgM.k (_:KgM) (h:p:=by
 repeat' first|exact Z1|with_reducible apply Zb|intro _
 all_goals first|omega|exact ⟨[],by simp,rfl,Zrb⟩|skip):p:=h
structure KgL:Prop
theorem KgL.k (_:KgL) (h:p:=by
 repeat' first|exact Z1|with_reducible apply Zb|intro _
 refine Zi [4,5,9,10,11,12,13,14,15,16,17,18] (fun k:Nat=>[(8,.d (.int .i64 k))]) (fun k:Nat=>[]) (fun k:Nat=>k=0) (fun k:Nat=>0) 0 ?_ ?_ ?_
 ·rfl
 ·exact Qk
 rintro k rfl;have Kq:KgM:=⟨⟩;exact Yh):p:=h
structure KgO:Prop
theorem KgO.k (_:KgO) (h:p:=by
 repeat' first|exact Z1|with_reducible apply Zb|intro _
 all_goals first|omega|exact ⟨k+1,by exact Qk,by omega,h2,by omega⟩|skip):p:=h
structure KgP:Prop
theorem KgP.k (_:KgP) (h:p:=by
 repeat' first|exact Z1|with_reducible apply Zb|intro _
 all_goals first|omega|exact ⟨[90000],by simp,rfl,Zj1,rfl,trivial⟩|skip):p:=h
structure KgQ:Prop
theorem KgQ.k (_:KgQ) (h:p:=by
 repeat' first|exact Z1|with_reducible apply Zb|intro _
 all_goals first|omega|exact ⟨[90000],by simp,rfl,Zj1,rfl,trivial⟩|skip):p:=h
structure KgN:Prop
theorem KgN.k (_:KgN) (h:p:=by
 repeat' first|exact Z1|with_reducible apply Zb|intro _
 refine Zi [4,5,9,10,11,12,13,14,15,16,17,18] (fun k:Nat=>[(8,.d (.int .i64 k))]) (fun k:Nat=>[]) (fun k:Nat=>k≤l.length∧∀ j,j<k→Zfq v (l.getD j [])=false) (fun k:Nat=>l.length-k) 0 ?_ ?_ ?_
 ·simp
 ·exact Qk
 rintro k ⟨hk,hno⟩;rcases Zn k l.length with ⟨hlt,Z6⟩|⟨hlt,Z6⟩
 ·have Qa:=Zr ([]:List UInt8) hlt;have hst:Zfq v (l.getD k [])=false→∀ j,j<k+1→Zfq v (l.getD j [])=false:=fun h=>Ks hno h;have hit:Zfq v (l.getD k [])=true→Yf (Zfq v) l=k:=fun h=>hK [] hlt hno h;obtain ⟨y,hy⟩:=exq (l.getD k []);rw [hy] at Qa hst hit;cases hs:Zfq v y with
  | false =>
   have h2:=hst hs;have Qc:(v==y)=false:=hs;have Kq:KgO:=⟨⟩;exact Yh
  | true =>
   have Qe:=hit hs;have Qc:(v==y)=true:=hs;have Kq:KgP:=⟨⟩;exact Yh
 ·have Qe:=Fl (p:=Zfq v) (l:=l) [] (fun j hj=>hno j (by omega))
  have Kq:KgQ:=⟨⟩;exact Yh):p:=h
theorem goodb_indexSt:Nu Tryz.prog (135,Hf):=by
 obtain ⟨Kx,Kt,Kc,Kd,Kb,Ku,Kw,K,_⟩:=X2 Z4 Zq [] false X1;refine Zfu K Tryz.func135 [.tmp 4] rfl 19 rfl (fun c hc x hok=>?_);obtain ⟨o,v⟩:=x
 change (Bu o).length≤1000000000 at hok
 cases o with
 | none =>
  refine ⟨?_,?_,?_,?_,?_⟩
  ·show Xz [.nils 1,.d (.str v)] [];simp [Xz,J9,Obj.tied,Zx,keptAll,AV.kept,Z8,Xp,lk]
  ·show Zx [];simp [Zx]
  ·show Xz [] [];simp [Xz,J9,Obj.tied,Zx,keptAll,AV.kept,Z8,Xp,lk]
  ·exact Zl _
  ·show Mi _ _ (P3 _ _ 0 (.int .i64 (Yf (Zfq v) [])) []) ⟨[.nils 1,.d (.str v)]++U8 17,Z8 []⟩;have Qd:Yi (0:Int) 0=false:=rfl;have Qe:Yf (Zfq v) ([]:List (List UInt8))=-1:=rfl;cases hc;have Kq:KgL:=⟨⟩;exact Yh
 | some l =>
  change l.length≤1000000000 at hok
  refine ⟨?_,?_,?_,?_,?_⟩
  ·show Xz [.sl 90000 l.length,.d (.str v)] [.row 1 (l.map enc) 0];simp [Xz,J9,Obj.tied,Zx,keptAll,AV.kept,Z8,Xp,lk]
  ·show Zx [.row 1 (l.map enc) 0];simp [Zx]
  ·show Xz [] [.row 1 (l.map enc) 0];simp [Xz,J9,Obj.tied,Zx,keptAll,AV.kept,Z8,Xp,lk]
  ·exact Zl _
  ·show Mi _ _ (P3 _ _ [Obj.row 1 (l.map (enc:List UInt8→D)) 0].length (.int .i64 (Yf (Zfq v) l)) [Obj.row 1 (l.map enc) 0]) ⟨[.sl 90000 l.length,.d (.str v)]++U8 17,Z8 [Obj.row 1 (l.map enc) 0]⟩;cases hc;have Kq:KgN:=⟨⟩;exact Yh
def Y9:BCon where
 X:=Qbt
 ok:=fun p=>(Bu p.1).length≤1000000000
 args:=fun p=>[Qan p.1,.d (.str p.2)]
 objs:=fun p=>Zwu p.1
 res:=fun p=>.bool ((Bu p.1).any (Zfq p.2))
 post:=fun p=>Zwu p.1
structure KgS:Prop
theorem KgS.k (_:KgS) (h:p:=by
 repeat' first|exact Z1|with_reducible apply Zb|intro _
 all_goals first|omega|exact ⟨[],by simp,rfl,Zrb⟩|skip):p:=h
structure KgR:Prop
theorem KgR.k (_:KgR) (h:p:=by
 repeat' first|exact Z1|with_reducible apply Zb|intro _
 refine Qw (bc:=Hf) (none,v) [] hok rfl (by simp) rfl ?_ ?_ ?_
 ·exact trivial
 ·exact trivial
 have Kq:KgS:=⟨⟩;exact Yh):p:=h
structure KgU:Prop
theorem KgU.k (_:KgU) (h:p:=by
 repeat' first|exact Z1|with_reducible apply Zb|intro _
 all_goals first|omega|exact ⟨[90000],by simp,rfl,Zj1,rfl,trivial⟩|skip):p:=h
structure KgT:Prop
theorem KgT.k (_:KgT) (h:p:=by
 repeat' first|exact Z1|with_reducible apply Zb|intro _
 refine Qw (bc:=Hf) (some l,v) [90000] hok rfl (by simp) rfl ?_ ?_ ?_
 ·show Zs _ _ [Obj.row 1 (l.map (enc:List UInt8→D)) 0] _;simp [Zs,lk,Uu,rnA,rnAs,rk]
 ·exact trivial
 have Kq:KgU:=⟨⟩;exact Yh):p:=h
theorem goodb_containsSt:Nu Tryz.prog (97,Y9):=by
 obtain ⟨Kx,Kt,Kc,Kd,Kb,Ku,Kw,K,W4,_⟩:=X2 Z4 Zq [] false (Zpj goodb_indexSt Hf.eq_def X1);refine Zfu K Tryz.func97 [.tmp 4] rfl 9 rfl (fun c hc x hok=>?_);obtain ⟨o,v⟩:=x
 change (Bu o).length≤1000000000 at hok
 have Z6:=iQ (p:=Zfq v) (l:=Bu o);obtain ⟨R,hR⟩:=exq (Yf (Zfq v) (Bu o));have Qe:Hf.res (o,v)=.int .i64 R:=by rw [←hR];rfl
 rw [hR] at Z6;obtain ⟨B,hB⟩:=exq ((Bu o).any (Zfq v));rw [hB] at Z6;cases o with
 | none =>
  have Qd:Hf.post (none,v)=[]:=rfl;refine ⟨?_,?_,?_,?_,?_⟩
  ·show Xz [.nils 1,.d (.str v)] [];simp [Xz,J9,Obj.tied,Zx,keptAll,AV.kept,Z8,Xp,lk]
  ·show Zx [];simp [Zx]
  ·show Xz [] [];simp [Xz,J9,Obj.tied,Zx,keptAll,AV.kept,Z8,Xp,lk]
  ·exact Zl _
  ·show Mi _ _ (P3 _ _ 0 (.bool ((Bu none).any (Zfq v))) []) ⟨[.nils 1,.d (.str v)]++U8 7,Z8 []⟩;rw [hB];cases hc;have Kq:KgR:=⟨⟩;exact Yh
 | some l =>
  have Qd:Hf.post (some l,v)=[.row 1 (l.map enc) 0]:=rfl;refine ⟨?_,?_,?_,?_,?_⟩
  ·show Xz [.sl 90000 l.length,.d (.str v)] [.row 1 (l.map enc) 0];simp [Xz,J9,Obj.tied,Zx,keptAll,AV.kept,Z8,Xp,lk]
  ·show Zx [.row 1 (l.map enc) 0];simp [Zx]
  ·show Xz [] [.row 1 (l.map enc) 0];simp [Xz,J9,Obj.tied,Zx,keptAll,AV.kept,Z8,Xp,lk]
  ·exact Zl _
  ·show Mi _ _ (P3 _ _ [Obj.row 1 (l.map (enc:List UInt8→D)) 0].length (.bool ((Bu (some l)).any (Zfq v))) [Obj.row 1 (l.map enc) 0]) ⟨[.sl 90000 l.length,.d (.str v)]++U8 7,Z8 [Obj.row 1 (l.map enc) 0]⟩;rw [hB];cases hc;have Kq:KgT:=⟨⟩;exact Yh
open Go.Proofs Go.Rose Go.Rose.Rose Gr
def mY (C:List (List UInt8)):List Bool:=C.map fun _=>true
theorem L7 {x:List UInt8} {v:Bool}:∀ {ks:List (List UInt8)} {vs:List Bool},Bh (.str x) (.bool v) (ks.map enc) (vs.map enc)=(Hi x v ks vs).map enc
 | [],_=>rfl
 | y::ks,[]=>rfl
 | y::ks,z::vs=>by
  show cond (D.eqb (.str x) (.str y)) (.bool v::vs.map enc) (enc z::Bh (.str x) (.bool v) (ks.map enc) (vs.map enc))=(cond (x==y) (v::vs) (z::Hi x v ks vs)).map enc;rw [L7,show D.eqb (.str x) (.str y)=(x==y) from rfl];cases x==y<;>rfl
theorem lH {x:List UInt8}:∀ {S:List (List UInt8)},Hi x true S (mY S)=mY (Vd x S)
 | []=>rfl
 | y::S=>by
  show cond (x==y) (true::mY S) (true::Hi x true S (mY S))=mY (Vd x (y::S));rw [lH];unfold Vd;show _=mY (cond ((x==y)||Xn x S) (y::S) (y::S++[x]));cases x==y
  ·cases Xn x S<;>rfl
  ·rfl
def dK (p:Part) (k:Nat) (b:List (List UInt8)):List (List UInt8) :=
 if p.kind=2∨p.kind=8∨(p.kind=4∧k=1) then b++[p.bind] else if p.kind=5 then (if k=0 then b++[p.name,p.bind] else b++[p.name]) else b
mutual
def partT:Rose Part→List (List UInt8)→List (List UInt8)→List (List UInt8)
 | mk p ks,b,S=>if p.kind=1 then (if R0 b p.name=true then S else Vd p.name S) else partTs p ks 0 b S
def partTs (p:Part):List (Rose Part)→Nat→List (List UInt8)→List (List UInt8)→List (List UInt8)
 | [],_,_,S=>S
 | x::xs,k,b,S=>partTs p xs (k+1) b (partT x (dK p k b) S)
end
mutual
def hasB:Rose Part→Bool
 | mk p ks=>(p.kind==2||p.kind==8||p.kind==4||p.kind==5)||hasBs ks
def hasBs:List (Rose Part)→Bool
 | []=>false
 | x::xs=>hasB x||hasBs xs
end
theorem Zsz {x:List UInt8} {S:List (List UInt8)}:(Vd x S).length≤S.length+1:=by
 unfold Vd;cases Xn x S<;>simp
mutual
theorem partT_len:∀ (x:Rose Part) (b S:List (List UInt8)),(partT x b S).length≤S.length+(nds x).length
 | mk p ks,b,S=>by
  rw [partT,Rp,Zj];split
  ·split
   ·omega
   ·have:=Zsz (x:=p.name) (S:=S);omega
  ·have:=partTs_len p ks 0 b S;omega
theorem partTs_len (p:Part):∀ (xs:List (Rose Part)) (k:Nat) (b S:List (List UInt8)),(partTs p xs k b S).length≤S.length+(ndss xs).length
 | [],_,_,_=>by simp [partTs,ndss]
 | x::xs,k,b,S=>by
  have h1:=partT_len x (dK p k b) S;have h2:=partTs_len p xs (k+1) b (partT x (dK p k b) S);rw [partTs,ndss,Zh];omega
end
structure PX where
 t:List Part
 i:Nat
 bd:Option (List (List UInt8))
 S:List (List UInt8)
noncomputable def PX.x (a:PX):Rose Part:=El Iu a.t a.i
def PX.Ok (n m:Nat) (a:PX):Prop:=kJ a.t∧∃ y,At Iu a.t a.i y∧(nds y).length<n∧(Bu a.bd).length+m+2*(nds y).length≤900000∧a.S.length+(nds y).length≤900000
def pN (t:List Part) (i:Nat) (S:List (List UInt8)):List Obj:=[.box false [.d (.list 8 (t.map enc))],.box false [.d (.int .i64 i)],.box false [.nils 1],.box false [.mpr 90006],.box false [.clo 95 [.ref 90002 0,.ref 90005 0]],.box false [.clo 96 [.ref 90000 0,.ref 90001 0,.ref 90002 0,.ref 90003 0,.ref 90004 0,.ref 90005 0]],.mp (S.map enc) ((mY S).map enc) false]
def pB (t:List Part) (i:Nat) (b:List (List UInt8)) (S:List (List UInt8)):List Obj:=[.box false [.d (.list 8 (t.map enc))],.box false [.d (.int .i64 i)],.box false [.sl 90007 b.length],.box false [.mpr 90006],.box false [.clo 95 [.ref 90002 0,.ref 90005 0]],.box false [.clo 96 [.ref 90000 0,.ref 90001 0,.ref 90002 0,.ref 90003 0,.ref 90004 0,.ref 90005 0]],.mp (S.map enc) ((mY S).map enc) false,.row 1 (b.map enc) 0]
def pM (t:List Part) (i:Nat) (b:List (List UInt8)) (S:List (List UInt8)):List Obj:=[.box false [.d (.list 8 (t.map enc))],.box false [.d (.int .i64 i)],.box false [.sl 90008 b.length],.box false [.mpr 90006],.box false [.clo 95 [.ref 90002 0,.ref 90005 0]],.box false [.clo 96 [.ref 90000 0,.ref 90001 0,.ref 90002 0,.ref 90003 0,.ref 90004 0,.ref 90005 0]],.mp (S.map enc) ((mY S).map enc) false,.gone,.row 1 (b.map enc) 0]
def wN (t:List Part) (i:Nat) (ns:List (List UInt8)) (S:List (List UInt8)):List Obj:=[.row 1 (ns.map enc) 0,.box false [.nils 1],.box false [.clo 96 [.ref 90003 0,.ref 90004 0,.ref 90001 0,.ref 90005 0,.ref 90006 0,.ref 90002 0]],.box false [.d (.list 8 (t.map enc))],.box false [.d (.int .i64 i)],.box false [.mpr 90007],.box false [.clo 95 [.ref 90001 0,.ref 90002 0]],.mp (S.map enc) ((mY S).map enc) false]
def wB (t:List Part) (i:Nat) (b:List (List UInt8)) (ns:List (List UInt8)) (S:List (List UInt8)):List Obj:=[.row 1 (ns.map enc) 0,.box false [.sl 90008 b.length],.box false [.clo 96 [.ref 90003 0,.ref 90004 0,.ref 90001 0,.ref 90005 0,.ref 90006 0,.ref 90002 0]],.box false [.d (.list 8 (t.map enc))],.box false [.d (.int .i64 i)],.box false [.mpr 90007],.box false [.clo 95 [.ref 90001 0,.ref 90002 0]],.mp (S.map enc) ((mY S).map enc) false,.row 1 (b.map enc) 0]
def wM (t:List Part) (i:Nat) (b:List (List UInt8)) (ns:List (List UInt8)) (S:List (List UInt8)):List Obj:=[.row 1 (ns.map enc) 0,.box false [.sl 90009 b.length],.box false [.clo 96 [.ref 90003 0,.ref 90004 0,.ref 90001 0,.ref 90005 0,.ref 90006 0,.ref 90002 0]],.box false [.d (.list 8 (t.map enc))],.box false [.d (.int .i64 i)],.box false [.mpr 90007],.box false [.clo 95 [.ref 90001 0,.ref 90002 0]],.mp (S.map enc) ((mY S).map enc) false,.gone,.row 1 (b.map enc) 0]
theorem Tg (t:List Part) (i:Nat) (S:List (List UInt8)):pN t i S=[.box false [.d (.list 8 (t.map enc))],.box false [.d (.int .i64 i)],.box false [.nils 1],.box false [.mpr 90006],.box false [.clo 95 [.ref 90002 0,.ref 90005 0]],.box false [.clo 96 [.ref 90000 0,.ref 90001 0,.ref 90002 0,.ref 90003 0,.ref 90004 0,.ref 90005 0]],.mp (S.map enc) ((mY S).map enc) false]:=rfl
theorem Ue (t:List Part) (i:Nat) (b:List (List UInt8)) (S:List (List UInt8)):pB t i b S=[.box false [.d (.list 8 (t.map enc))],.box false [.d (.int .i64 i)],.box false [.sl 90007 b.length],.box false [.mpr 90006],.box false [.clo 95 [.ref 90002 0,.ref 90005 0]],.box false [.clo 96 [.ref 90000 0,.ref 90001 0,.ref 90002 0,.ref 90003 0,.ref 90004 0,.ref 90005 0]],.mp (S.map enc) ((mY S).map enc) false,.row 1 (b.map enc) 0]:=rfl
theorem lZ (t:List Part) (i:Nat) (b:List (List UInt8)) (S:List (List UInt8)):pM t i b S=[.box false [.d (.list 8 (t.map enc))],.box false [.d (.int .i64 i)],.box false [.sl 90008 b.length],.box false [.mpr 90006],.box false [.clo 95 [.ref 90002 0,.ref 90005 0]],.box false [.clo 96 [.ref 90000 0,.ref 90001 0,.ref 90002 0,.ref 90003 0,.ref 90004 0,.ref 90005 0]],.mp (S.map enc) ((mY S).map enc) false,.gone,.row 1 (b.map enc) 0]:=rfl
theorem nL (t:List Part) (i:Nat) (ns:List (List UInt8)) (S:List (List UInt8)):wN t i ns S=[.row 1 (ns.map enc) 0,.box false [.nils 1],.box false [.clo 96 [.ref 90003 0,.ref 90004 0,.ref 90001 0,.ref 90005 0,.ref 90006 0,.ref 90002 0]],.box false [.d (.list 8 (t.map enc))],.box false [.d (.int .i64 i)],.box false [.mpr 90007],.box false [.clo 95 [.ref 90001 0,.ref 90002 0]],.mp (S.map enc) ((mY S).map enc) false]:=rfl
theorem B0 (t:List Part) (i:Nat) (b:List (List UInt8)) (ns:List (List UInt8)) (S:List (List UInt8)):wB t i b ns S=[.row 1 (ns.map enc) 0,.box false [.sl 90008 b.length],.box false [.clo 96 [.ref 90003 0,.ref 90004 0,.ref 90001 0,.ref 90005 0,.ref 90006 0,.ref 90002 0]],.box false [.d (.list 8 (t.map enc))],.box false [.d (.int .i64 i)],.box false [.mpr 90007],.box false [.clo 95 [.ref 90001 0,.ref 90002 0]],.mp (S.map enc) ((mY S).map enc) false,.row 1 (b.map enc) 0]:=rfl
theorem Zch (t:List Part) (i:Nat) (b:List (List UInt8)) (ns:List (List UInt8)) (S:List (List UInt8)):wM t i b ns S=[.row 1 (ns.map enc) 0,.box false [.sl 90009 b.length],.box false [.clo 96 [.ref 90003 0,.ref 90004 0,.ref 90001 0,.ref 90005 0,.ref 90006 0,.ref 90002 0]],.box false [.d (.list 8 (t.map enc))],.box false [.d (.int .i64 i)],.box false [.mpr 90007],.box false [.clo 95 [.ref 90001 0,.ref 90002 0]],.mp (S.map enc) ((mY S).map enc) false,.gone,.row 1 (b.map enc) 0]:=rfl
def pO (t:List Part) (i:Nat) (o:Option (List (List UInt8))) (S:List (List UInt8)):List Obj:=match o with
 | none=>pN t i S
 | some b=>pB t i b S
def pP (t:List Part) (i:Nat) (o:Option (List (List UInt8))) (h:Bool) (S:List (List UInt8)):List Obj:=match o,h with
 | none,false=>pN t i S
 | none,true=>pB t i [] S
 | some b,false=>pB t i b S
 | some b,true=>pM t i b S
def wO (t:List Part) (i:Nat) (o:Option (List (List UInt8))) (ns S:List (List UInt8)):List Obj:=match o with
 | none=>wN t i ns S
 | some b=>wB t i b ns S
def wP (t:List Part) (i:Nat) (o:Option (List (List UInt8))) (ns S:List (List UInt8)):List Obj:=match o with
 | none=>wB t i [] ns S
 | some b=>wM t i b ns S
noncomputable def Zy (n:Nat):BCon where
 X:=PX
 ok:=fun a=>a.Ok n 0
 args:=fun a=>[.ref 90000 0,.ref 90001 0,.ref 90002 0,.ref 90003 0,.ref 90004 0,.ref 90005 0]
 objs:=fun a=>pO a.t a.i a.bd a.S
 res:=fun a=>.tup []
 post:=fun a=>pP a.t (a.i+(nds a.x).length) a.bd (hasB a.x) (partT a.x (Bu a.bd) a.S)
theorem eU:∀ x,¬ (Zy 0).ok x:=by
 rintro x ⟨_,_,_,h,_⟩;omega
noncomputable def Z2 (n:Nat):BCon where
 X:=PX×List (List UInt8)
 ok:=fun a=>a.1.Ok n a.2.length
 args:=fun a=>[.sl 90000 a.2.length,.ref 90001 0,.ref 90002 0]
 objs:=fun a=>wO a.1.t a.1.i a.1.bd a.2 a.1.S
 res:=fun a=>.tup []
 post:=fun a=>wP a.1.t (a.1.i+(nds a.1.x).length) a.1.bd a.2 (partT a.1.x (Bu a.1.bd++a.2) a.1.S)
theorem K9 {m:Nat} {l:List Nat} (h:decide (∀ j,j<m→l[j]?=some (90000+j))=true):nD m l:=fun j hj=>of_decide_eq_true h j hj
theorem Hm {n:Nat} {t:List Part} {i:Nat} {o:Option (List (List UInt8))} {S:List (List UInt8)} {y:Rose Part} {j:Nat} {H:Bool} {V:List (List UInt8)} (hy:At Iu t i y) (hj:i+(nds y).length=j) (hH:hasB y=H) (hV:partT y (Bu o) S=V) :
  (Zy n).post ⟨t,i,o,S⟩=pP t j o H V:=by
 have hx:(PX.mk t i o S).x=y:=Ps hy;show pP t (i+(nds (PX.mk t i o S).x).length) o (hasB (PX.mk t i o S).x) (partT (PX.mk t i o S).x (Bu o) S)=_;rw [hx,hj,hH,hV]
theorem Uo {n:Nat} {t:List Part} {i:Nat} {o:Option (List (List UInt8))} {ns S:List (List UInt8)} {y:Rose Part} {j:Nat} {V:List (List UInt8)} (hy:At Iu t i y) (hj:i+(nds y).length=j) (hV:partT y (Bu o++ns) S=V) :
  (Z2 n).post (⟨t,i,o,S⟩,ns)=wP t j o ns V:=by
 have hx:(PX.mk t i o S).x=y:=Ps hy;show wP t (i+(nds (PX.mk t i o S).x).length) o ns (partT (PX.mk t i o S).x (Bu o++ns) S)=_;rw [hx,hj,hV]
theorem Vb {n:Nat} {a:PX}:(Zy n).res a=.tup []:=rfl
theorem Hg {n:Nat} {a:PX×List (List UInt8)}:(Z2 n).res a=.tup []:=rfl
theorem nI {C:Ctx} {c:Code} {Q:AExit→AS→Prop} {st:AS} (q i j:Nat) (kills:List Nat) {α:Type} (vals:α→List (Nat×AV)) (objs:α→List (Nat×Obj)) (ok:α→Prop) (μ:α→Nat) (a0:α) (h0:ok a0)
  (hw:Wk st (Kk st kills (vals a0) (objs a0))) (h:∀ a,ok a→Shut (Mi C c (aA (fun s'=>∃ a',(Wk s' (Kk st kills (vals a') (objs a'))∨Qbn q i j s' (Kk st kills (vals a') (objs a')))∧ok a'∧μ a'<μ a) Q) (Kk st kills (vals a) (objs a)))):Zin C c Q st :=
 ⟨α,fun a=>Kk st kills (vals a) (objs a),ok,μ,fun s t=>Wk s t∨Qbn q i j s t,fun _ _ h=>h.elim (fun h=>.inl h) (fun h=>.inr (.inr (.inr ⟨q,i,j,h⟩))),⟨a0,⟨[],hw⟩,h0⟩,fun a ha=>(h a ha).out⟩
structure KgW:Prop
theorem KgW.k (_:KgW) (h:p:=by
 repeat' first|exact Z1|with_reducible apply Zb|intro _
 all_goals first|with_reducible exact Qo|omega|skip
 refine ⟨[90000,90001,90002,90003,90004,90005,90006,90007,14],by simp,rfl,K9 (by decide),?_⟩
 simp [Zs,lk,Uu,rnA,rnAs,rk]):p:=h
structure KgX:Prop
theorem KgX.k (_:KgX) (h:p:=by
 repeat' first|exact Z1|with_reducible apply Zb|intro _
 all_goals first|with_reducible exact Qo|omega|skip
 refine ⟨[90000,90001,90002,90003,90004,90005,90006,90007,14],by simp,rfl,K9 (by decide),?_⟩
 simp [Zs,lk,Uu,rnA,rnAs,rk]):p:=h
structure KgV:Prop
theorem KgV.k (_:KgV) (h:p:=by
 repeat' first|exact Z1|with_reducible apply Zb|intro _
 all_goals first|with_reducible exact Qo|omega|skip
 cases H with
 | false =>
  have Qd:(Zy n).post ⟨t,i,some ns,S⟩=pB t j ns V:=hp2;refine Qw (bc:=Zy n) ⟨t,i,some ns,S⟩ [90003,90004,90001,90005,90006,90002,90007,9] hok2 rfl (by simp) (by rw [Qd];rfl) ?_ ?_ ?_
  ·show Zs _ _ (pB t i ns S) _;rw [Ue];simp [Zs,lk,Uu,rnA,rnAs,rk]
  ·show Qf (List.drop (pB t i ns S).length _) _;rw [Ue];simp [Qf,lk]
  have Qa:=@Vb;have Qc:=@Ue;have Kq:KgW:=⟨⟩;exact Yh
 | true =>
  have Qd:(Zy n).post ⟨t,i,some ns,S⟩=pM t j ns V:=hp2;refine Qw (bc:=Zy n) ⟨t,i,some ns,S⟩ [90003,90004,90001,90005,90006,90002,90007,9,60000] hok2 rfl (by simp) (by rw [Qd];rfl) ?_ ?_ ?_
  ·show Zs _ _ (pB t i ns S) _;rw [Ue];simp [Zs,lk,Uu,rnA,rnAs,rk]
  ·show Qf (List.drop (pB t i ns S).length _) _;rw [Ue];simp [Qf,lk]
  have Qa:=@Vb;have Qc:=@lZ;have Kq:KgX:=⟨⟩;exact Yh):p:=h
structure KgZ:Prop
theorem KgZ.k (_:KgZ) (h:p:=by
 repeat' first|exact Z1|with_reducible apply Zb|intro _
 all_goals first|with_reducible exact Qo|omega|skip
 refine ⟨[90000,90001,90002,90003,90004,90005,90006,90007,90008,14],by simp,rfl,K9 (by decide),?_⟩
 simp [Zs,lk,Uu,rnA,rnAs,rk]):p:=h
structure Kha:Prop
theorem Kha.k (_:Kha) (h:p:=by
 repeat' first|exact Z1|with_reducible apply Zb|intro _
 all_goals first|with_reducible exact Qo|omega|skip
 refine ⟨[90000,90001,90002,90003,90004,90005,90006,90007,90008,14],by simp,rfl,K9 (by decide),?_⟩
 simp [Zs,lk,Uu,rnA,rnAs,rk]):p:=h
structure KgY:Prop
theorem KgY.k (_:KgY) (h:p:=by
 repeat' first|exact Z1|with_reducible apply Zb|intro _
 all_goals first|with_reducible exact Qo|omega|skip
 cases H with
 | false =>
  have Qd:(Zy n).post ⟨t,i,some (b++ns),S⟩=pB t j (b++ns) V:=hp2;refine Qw (bc:=Zy n) ⟨t,i,some (b++ns),S⟩ [90003,90004,90001,90005,90006,90002,90007,90008] hok2 rfl (by simp) (by rw [Qd];rfl) ?_ ?_ ?_
  ·show Zs _ _ (pB t i (b++ns) S) _;rw [Ue];simp [Zs,lk,Uu,rnA,rnAs,rk]
  ·show Qf (List.drop (pB t i (b++ns) S).length _) _;rw [Ue];simp [Qf,lk]
  have Qa:=@Vb;have Qc:=@Ue;have Kq:KgZ:=⟨⟩;exact Yh
 | true =>
  have Qd:(Zy n).post ⟨t,i,some (b++ns),S⟩=pM t j (b++ns) V:=hp2;refine Qw (bc:=Zy n) ⟨t,i,some (b++ns),S⟩ [90003,90004,90001,90005,90006,90002,90007,90008,60000] hok2 rfl (by simp) (by rw [Qd];rfl) ?_ ?_ ?_
  ·show Zs _ _ (pB t i (b++ns) S) _;rw [Ue];simp [Zs,lk,Uu,rnA,rnAs,rk]
  ·show Qf (List.drop (pB t i (b++ns) S).length _) _;rw [Ue];simp [Qf,lk]
  have Qa:=@Vb;have Qc:=@lZ;have Kq:Kha:=⟨⟩;exact Yh):p:=h
theorem stepbm_FreeWith (n:Nat) (ih:Nu Tryz.prog (96,Zy n)):Nu Tryz.prog (95,(Z2 n)):=by
 obtain ⟨Kx,Kt,Kc,Kd,Kb,Ku,Kw,K,W4,_⟩:=X2 Z4 Zq [100014] false (Zpj ih (Zy.eq_def n) X1);refine Zfu K Tryz.func95 [] rfl 15 rfl (fun c hc x hok=>?_);obtain ⟨⟨t,i,bd,S⟩,ns⟩:=x;obtain ⟨hT,y,hy,hn,hb,hS⟩:=hok;simp only at hT hy hb hS;obtain ⟨V,hV⟩:=exq (partT y (Bu bd++ns) S);obtain ⟨j,hj⟩:=exq (i+(nds y).length);obtain ⟨H,hH⟩:=exq (hasB y);have hpost:=Uo (n:=n) hy hj hV;cases bd with
 | none =>
  simp only [Bu,List.nil_append,List.length_nil] at hb hV;refine ⟨?_,?_,?_,?_,?_⟩
  ·show Xz [.sl 90000 ns.length,.ref 90001 0,.ref 90002 0] (wN t i ns S);rw [nL];simp [Xz,J9,Obj.tied,Zx,keptAll,AV.kept,Z8,Xp,lk]
  ·show Zx (wN t i ns S);rw [nL];simp [Zx]
  ·rw [hpost];show Xz [] (wB t j [] ns V);rw [B0];simp [Xz,J9,Obj.tied,Zx,keptAll,AV.kept,Z8,Xp,lk]
  ·rw [hpost];show (wN t i ns S).length≤(wB t j [] ns V).length;rw [nL,B0];simp
  show Mi Kx c (P3 _ _ (wN t i ns S).length (.tup []) ((Z2 n).post (⟨t,i,none,S⟩,ns))) ⟨[.sl 90000 ns.length,.ref 90001 0,.ref 90002 0]++U8 12,Z8 (wN t i ns S)⟩;rw [hpost];show Mi _ c (P3 _ _ (wN t i ns S).length (.tup []) (wB t j [] ns V)) _;rw [nL,B0];have hok2:(PX.mk t i (some ns) S).Ok n 0:=⟨hT,y,hy,hn,by show ns.length+0+_≤_;omega,hS⟩
  have hp2:=Hm (n:=n) (o:=some ns) hy hj hH hV;cases hc;have Kq:KgV:=⟨⟩;exact Yh
 | some b =>
  simp only [Bu] at hb hV;refine ⟨?_,?_,?_,?_,?_⟩
  ·show Xz [.sl 90000 ns.length,.ref 90001 0,.ref 90002 0] (wB t i b ns S);rw [B0];simp [Xz,J9,Obj.tied,Zx,keptAll,AV.kept,Z8,Xp,lk]
  ·show Zx (wB t i b ns S);rw [B0];simp [Zx]
  ·rw [hpost];show Xz [] (wM t j b ns V);rw [Zch];simp [Xz,J9,Obj.tied,Zx,keptAll,AV.kept,Z8,Xp,lk]
  ·rw [hpost];show (wB t i b ns S).length≤(wM t j b ns V).length;rw [B0,Zch];simp
  show Mi Kx c (P3 _ _ (wB t i b ns S).length (.tup []) ((Z2 n).post (⟨t,i,(some b),S⟩,ns))) ⟨[.sl 90000 ns.length,.ref 90001 0,.ref 90002 0]++U8 12,Z8 (wB t i b ns S)⟩;rw [hpost];show Mi _ c (P3 _ _ (wB t i b ns S).length (.tup []) (wM t j b ns V)) _;rw [B0,Zch];have hok2:(PX.mk t i (some (b++ns)) S).Ok n 0:=⟨hT,y,hy,hn,by show (b++ns).length+0+_≤_;simp only [Zh];omega,hS⟩
  have hp2:=Hm (n:=n) (o:=some (b++ns)) hy hj hH hV;have Qe:b.map (enc:List UInt8→D)++ns.map enc=(b++ns).map enc:=Zx7;have Z6:((b++ns).map (enc:List UInt8→D)).take b.length=b.map enc:=by rw [List.map_append,List.take_left' (by simp)]
  cases hc;have Kq:KgY:=⟨⟩;exact Yh
end Go.Am.Ty
