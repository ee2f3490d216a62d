/- Contracts of functions that the law reaches, and plain laws. Conditions: those that each contract states. -/
import Derived.Test.YtpgfllgpliffaaaGreatDoorC8
import Derived.Shelf.SlIter.Nil
import Derived.Shelf.SlIterI.Nil
import Derived.Shelf.SortM.Plain
import Derived.Shelf.SortM.SortNone
set_option maxHeartbeats 8000000
set_option linter.unusedVariables false
set_option linter.unusedSimpArgs false
variable {p:Prop}
set_option maxRecDepth 100000
namespace Go.Am.Ty
open Go.Proofs Go.Rose Go.Rose.Rose
open Enc (enc dec)
def O0:Con:=Vx (fun (l:Sl (List UInt8)) (_:List UInt8)=>l.l.length≤1000000) (fun l x=>A5 l.l x)
class Kgr:Prop
theorem Kgr.k (_:Kgr) (h:p:=by
 first|exact ⟨k+1,by exact Xa,by omega,Eq.mpr hQ h2,by omega⟩|exact ⟨k+1,by exact Xa,by omega,fun m hm=>by have h3:=(Eq.mpr hQ h2:∀ j,j<k+1→(l.getD j []==s)=false) m hm;simpa using h3,by omega⟩|skip):p:=h
class Kgq:Prop
theorem Kgq.k (_:Kgq) (h:p:=by
 refine Z4 [4,6,7,8,9,10,11,12,13,14,15,16,17] (fun k:Nat=>[(5,.d (.int .i64 k))]) (fun k:Nat=>[]) (fun k:Nat=>k≤l.length∧∀ j,j<k→(l.getD j []==s)=false) (fun k:Nat=>l.length-k) 0 ?_ ?_ ?_
 ·simp
 ·exact Xa
 rintro k ⟨hk,Y3⟩;rcases Qh k l.length with ⟨Qg,Qz⟩|⟨Qg,Qz⟩
 ·have Q2:=Qc ([]:List UInt8) Qg;have Us:(l.getD k []==s)=false→∀ j,j<k+1→(l.getD j []==s)=false:=fun h=>Nf Y3 h;have C3:(l.getD k []==s)=true→R=true:=fun h=>by rw [←Qj];exact Zhp (p:=fun o=>o==s) [] k Qg h
  obtain ⟨Q,hQ⟩:=exq ((∀ j,j<k+1→(l.getD j []==s)=false));rw [hQ] at Us;obtain ⟨y,hy⟩:=exq (l.getD k []);rw [hy] at Q2 Us C3;cases Qx:(y==s) with
  | true =>
   have hr:=C3 Qx;subst hr;exact Ng
  | false =>
   have h2:=Us Qx;have Kq:Kgr:=⟨⟩;exact Qa
 ·have hr:R=false:=by rw [←Qj];exact Zbh (p:=fun o=>o==s) [] fun j hj=>Y3 j (by omega)
  subst hr;exact A4):p:=h
theorem good_inr5:Jd Tryz.prog (73,O0):=by
 obtain ⟨Kx,Kt,Kc,Kd,Kb,Ku,Kw,K,_⟩:=Yc Qp Z0 [] false Yb;have Ko:=O0.eq_def;refine Ve K Tryz.func73 [.tmp 4] rfl 18 rfl (fun c hc J0 Zo=>?_);unfold O0 at Zo;obtain ⟨⟨l⟩,s,rfl,hl⟩:=Jh Zo;simp only at hl;clear Zo;obtain ⟨R,Ql⟩:=exq (A5 l s);have Qj:=Ql;unfold A5 at Qj;cases hc;have Kq:Kgq:=⟨⟩;exact Qa
theorem P2:∀ {q k:Nat} {ks:List (Rose Part)},k<ks.length→(Uz q ks).getD k 0=((q+(ndss (ks.take k)).length:Nat):Int)
 | q,k,[],h=>by simp at h
 | q,0,x::ks,h=>by simp [Uz,ndss]
 | q,k+1,x::ks,h=>by
  have:=P2 (q:=q+(nds x).length) (k:=k) (ks:=ks) (by simpa using h)
  rw [Uz,List.getD_cons_succ,this,List.take_succ_cons,ndss,Zb];omega
theorem aY {t:List Part}:∀ {xs:List (Rose Part)} {i j:Nat},Ss Xj t i xs→∀ h:j<xs.length,At Xj t (i+(ndss (xs.take j)).length) xs[j]
 | [],i,j,_,h=>by simp at h
 | x::xs,i,0,ha,h=>by simpa [ndss] using ha.head.1
 | x::xs,i,j+1,ha,h=>by
  have:=aY (j:=j) ha.head.2 (by simpa using h)
  rw [List.take_succ_cons,ndss,Zb,←Nat.add_assoc];exact this
theorem bC:∀ {xs:List (Rose Part)},xs.length≤(ndss xs).length
 | []=>by simp [ndss]
 | x::xs=>by
  have h1:=Ta x;have h2:=bC (xs:=xs);simp only [ndss,Zb,Zd];omega
theorem Qj0:∀ {xs:List (Rose Part)} {j:Nat} (h:j<xs.length),(nds xs[j]).length≤(ndss xs).length
 | x::xs,0,h=>by simp [ndss]
 | x::xs,j+1,h=>by
  have:=Qj0 (xs:=xs) (j:=j) (by simpa using h)
  simp only [List.getElem_cons_succ,ndss,Zb];omega
theorem tT {p:Part} {ks:List (Rose Part)} {k:Nat} {b:List (List UInt8)} (h:k<ks.length):freeTs p (ks.drop k) k b=freeT ks[k] (Cv p k b)++freeTs p (ks.drop (k+1)) (k+1) b:=by
 rw [List.drop_eq_getElem_cons h,freeTs]
theorem Ab {b:List (List UInt8)} {x:List UInt8}:b.map (enc:List UInt8→D)++[.str x]=(b++[x]).map enc:=by rw [List.map_append];rfl
theorem Zvb {b c:List (List UInt8)}:b.map (enc:List UInt8→D)++c.map enc=(b++c).map enc:=by rw [List.map_append]
noncomputable def Ur (n:Nat):Con:=Ba (fun (t:Sl Part) (i:Int) (b:Sl (List UInt8))=>Me t.l∧0≤i∧(∃ x,At Xj t.l i.toNat x∧(nds x).length<n∧b.l.length+2*(nds x).length≤900000)) (fun t i b=>Sl.mk (freeT (Vs Xj t.l i.toNat) b.l))
theorem jG:∀ c,¬ (Ur 0).pre c:=by
 intro c h;unfold Ur at h;obtain ⟨_,_,_,_,_,_,_,_,h,_⟩:=So h;omega
class Kgs:Prop
theorem Kgs.k (_:Kgs) (h:p:=by
 repeat' first|exact Cg|with_reducible apply Z9|intro _
 all_goals try contradiction
 refine Z4 [11,33,34,35,36,37,38,39,40,41,42,43,44,45,46,47,48,49,50,51,52,53,54,55,56,57,58,59,60,61,62,63,64,65,66,67,68,69,70,71,72,73,74,75,76,77,78,79,80,81,82,83,84,85,86,87,88,89] (fun k:Nat=>[(8,.sl 29 (([]:List (List UInt8)).map (enc:List UInt8→D)).length),(10,.d (.int .i64 k))]) (fun k:Nat=>[(29,.row 1 (([]:List (List UInt8)).map enc) 0)]) (fun k:Nat=>k=0) (fun k:Nat=>0) 0 ?_ ?_ ?_
 ·rfl
 ·exact Xa
 rintro k rfl;exact Ng):p:=h
class Kgu:Prop
theorem Kgu.k (_:Kgu) (h:p:=by
 first|contradiction|exact hT|exact ⟨_,Aw⟩|exact ⟨(k+1,out++F),by exact Xa,by simp only;omega,Wp,by simp only;omega⟩|skip):p:=h
class Kgv:Prop
theorem Kgv.k (_:Kgv) (h:p:=by
 first|contradiction|exact hT|exact ⟨_,Aw⟩|exact ⟨(k+1,out++F),by exact Xa,by simp only;omega,Wp,by simp only;omega⟩|skip):p:=h
class Kgw:Prop
theorem Kgw.k (_:Kgw) (h:p:=by
 first|contradiction|exact hT|exact ⟨_,Aw⟩|exact ⟨(k+1,out++F),by exact Xa,by simp only;omega,Wp,by simp only;omega⟩|skip):p:=h
class Kgx:Prop
theorem Kgx.k (_:Kgx) (h:p:=by
 first|contradiction|exact hT|exact ⟨_,Aw⟩|exact ⟨(k+1,out++F),by exact Xa,by simp only;omega,Wp,by simp only;omega⟩|skip):p:=h
class Kgy:Prop
theorem Kgy.k (_:Kgy) (h:p:=by
 first|contradiction|exact hT|exact ⟨_,Aw⟩|exact ⟨(k+1,out++F),by exact Xa,by simp only;omega,Wp,by simp only;omega⟩|skip):p:=h
class Kgz:Prop
theorem Kgz.k (_:Kgz) (h:p:=by
 first|contradiction|exact hT|exact ⟨_,Aw⟩|exact ⟨(k+1,out++F),by exact Xa,by simp only;omega,Wp,by simp only;omega⟩|skip):p:=h
class KgA:Prop
theorem KgA.k (_:KgA) (h:p:=by
 first|contradiction|exact hT|exact ⟨_,Aw⟩|exact ⟨(k+1,out++F),by exact Xa,by simp only;omega,Wp,by simp only;omega⟩|skip):p:=h
class Kgt:Prop
theorem Kgt.k (_:Kgt) (h:p:=by
 refine Z4 [11,33,34,35,36,37,38,39,40,41,42,43,44,45,46,47,48,49,50,51,52,53,54,55,56,57,58,59,60,61,62,63,64,65,66,67,68,69,70,71,72,73,74,75,76,77,78,79,80,81,82,83,84,85,86,87,88,89] (fun p:Nat×List (List UInt8)=>[(8,.sl 29 (p.2.map (enc:List UInt8→D)).length),(10,.d (.int .i64 p.1))]) (fun p:Nat×List (List UInt8)=>[(29,.row 1 (p.2.map enc) 0)]) (fun p:Nat×List (List UInt8)=>p.1≤ks.length∧p.2++freeTs ⟨pk,pl,pn,pb,pm,pq,pt,pu⟩ (ks.drop p.1) p.1 b=R) (fun p:Nat×List (List UInt8)=>ks.length-p.1) (0,[]) ?_ ?_ ?_
 ·exact ⟨Nat.zero_le _,Qj⟩
 ·exact Xa
 rintro ⟨k,out⟩ ⟨Yg,Wp⟩;simp only at Yg Wp;rcases Qh k ks.length with ⟨Qg,Jk⟩|⟨Qg,Jk⟩
 rotate_left
 ·have Zec:k=ks.length:=by omega
  rw [Zec,List.drop_length,freeTs,List.append_nil] at Wp;subst Wp;exact Ng
 have Qhv:=Zct ⟨pk,pl,pn,pb,pm,pq,pt,pu⟩ k b;rw [tT Qg,←List.append_assoc] at Wp;have Qdr:=aY Xs Qg;have Rc:=P2 (q:=i+1) Qg;rw [hl] at Rc;have Zz:=Qc (0:Int) (show k<l.length by omega)
 rw [Rc] at Zz;obtain ⟨c,Zye⟩:∃ c:Nat,i+1+(ndss (ks.take k)).length=c:=⟨_,rfl⟩;rw [Zye] at Qdr Zz;have Qi:Vs Xj t c=ks[k]:=Xp Qdr;have K5:=Qj0 Qg;have Zx5:=freeT_len ks[k] (Cv ⟨pk,pl,pn,pb,pm,pq,pt,pu⟩ k b);have Cm:=congrArg List.length Wp;rw [Zb,Zb] at Cm;obtain ⟨F,Qo⟩:=exq (freeT ks[k] (Cv ⟨pk,pl,pn,pb,pm,pq,pt,pu⟩ k b));obtain ⟨B,hB⟩:=exq (Cv ⟨pk,pl,pn,pb,pm,pq,pt,pu⟩ k b);rw [Qo] at Wp Zx5 Cm;rw [hB] at Qo Qhv;have Aw:At Xj t c ks[k]∧(nds ks[k]).length<n∧B.length+2*(nds ks[k]).length≤900000:=⟨Qdr,by omega,by omega⟩
 have Qt:out.map (enc:List UInt8→D)++F.map enc=(out++F).map enc:=Zvb;have vT:=hB;unfold Cv at vT;simp only at vT;by_cases h2:pk=2
 ·subst h2;rw [if_pos (Or.inl rfl),if_neg (by decide),List.append_nil] at vT
  have Qq:b.map (enc:List UInt8→D)++[.str pb]=B.map enc:=by rw [←vT];exact Ab
  have Kq:Kgu:=⟨⟩;exact Qa
 by_cases h8:pk=8
 ·subst h8;rw [if_pos (Or.inr (Or.inl rfl)),if_neg (by decide),List.append_nil] at vT
  have Qq:b.map (enc:List UInt8→D)++[.str pb]=B.map enc:=by rw [←vT];exact Ab
  have Kq:Kgv:=⟨⟩;exact Qa
 have Qb:(pk==2)=false:=Za.2 h2;have Qk:(pk==8)=false:=Za.2 h8;by_cases h4:pk=4
 ·subst h4;by_cases aI:k=1
  ·rw [if_pos (Or.inr (Or.inr (Or.inl ⟨rfl,aI⟩))),if_neg (by decide),List.append_nil] at vT
   have Qq:b.map (enc:List UInt8→D)++[.str pb]=B.map enc:=by rw [←vT];exact Ab
   have Qe:((k:Int)==1)=true:=Zi.2 (by omega)
   have Kq:Kgw:=⟨⟩;exact Qa
  ·rw [if_neg (by rintro (h|h|h|h)<;>simp_all),if_neg (by omega),List.append_nil] at vT
   subst vT;have Qe:((k:Int)==1)=false:=Za.2 (by omega)
   have Kq:Kgx:=⟨⟩;exact Qa
 have Q0:(pk==4)=false:=Za.2 h4;by_cases h5:pk=5
 ·subst h5;by_cases V7:k=0
  ·rw [if_pos (Or.inr (Or.inr (Or.inr ⟨rfl,V7⟩))),if_pos rfl] at vT;have Qq:b.map (enc:List UInt8→D)++[.str pb]=(b++[pb]).map enc:=Ab;have Z6:(b++[pb]).map (enc:List UInt8→D)++[.str pn]=B.map enc:=by rw [←vT];exact Ab
   have Qe:((k:Int)==0)=true:=Zi.2 (by omega)
   have Kq:Kgy:=⟨⟩;exact Qa
  ·rw [if_neg (by rintro (h|h|h|h)<;>simp_all),if_pos rfl] at vT
   have Z6:b.map (enc:List UInt8→D)++[.str pn]=B.map enc:=by rw [←vT];exact Ab
   have Qe:((k:Int)==0)=false:=Za.2 (by omega)
   have Kq:Kgz:=⟨⟩;exact Qa
 have Q1:(pk==5)=false:=Za.2 h5;rw [if_neg (by rintro (h|h|h|h)<;>simp_all),if_neg (by omega),List.append_nil] at vT
 subst vT;have Kq:KgA:=⟨⟩;exact Qa):p:=h
theorem step_free5 (n:Nat) (ih:Jd Tryz.prog (48,Ur n)):Jd Tryz.prog (48,(Ur (n+1))):=by
 obtain ⟨Kx,Kt,Kc,Kd,Kb,Ku,Kw,K,Y0,Xr,eV,_⟩:=Yc Qp Z0 [] false (Xu good_inr5 O0.eq_def (Xu good_Kids5 Nv.eq_def (Xu ih (Ur.eq_def n) Yb)));have Ko:=(Ur.eq_def (n+1));refine Ve K Tryz.func48 [.tmp 6] rfl 91 rfl (fun c hc J0 Zo=>?_);unfold Ur at Zo;obtain ⟨⟨t⟩,i,⟨b⟩,rfl,hT,Zio,⟨x,hx,hn,hb⟩⟩:=So Zo;simp only at hT hx hb;obtain ⟨i,rfl⟩:∃ k:Nat,i=k:=⟨i.toNat,by omega⟩
 rw [Zp] at hx;clear Zo;have Bk:=hx.lt;have M8:=hx.le;have vA:=hT.1;have Qz:=Qc e0 Bk;have hr:=hx.root e0;have Ql:Vs Xj t i=x:=Xp hx;have Jl:=Iz hx;have Xs:=hx.kids;obtain ⟨p,ks⟩:=x;rw [show (mk p ks).kids=ks from rfl] at Jl Xs;have Wa:=bC (xs:=ks);have cX:ks.length=Xj p:=Xs.2;replace Xs:=Xs.1;rw [show (mk p ks).root=p from rfl] at hr;rw [hr] at Qz;rw [Jt,Zd] at hn hb M8;obtain ⟨l,hl⟩:=exq (Uz (i+1) ks);rw [hl] at Jl;have Q7:l.length=ks.length:=by rw [←hl,N9]
 have aL:Aj .i64 (i:Int):=by rw [Xx];omega
 obtain ⟨R,Q3⟩:=exq (freeT (mk p ks) b);have Qj:=Q3;rw [freeT] at Qj;obtain ⟨pk,pl,pn,pb,pm,pq,pt,pu⟩:=p;simp only at Qj;cases hc;refine Ym 5 ?_;cases Q2:(pk==1&&!(A5 b pn)) with
 | true =>
  rw [Zg,Zi,Bool.not_eq_true'] at Q2;obtain ⟨rfl,Q2⟩:=Q2;rw [if_pos ⟨rfl,Q2⟩] at Qj;subst Qj;have Qx:((1:Int)==1)=true:=rfl;exact Ng
 | false =>
 have Qb2:¬ (pk=1∧A5 b pn=false):=by
  rintro ⟨Ji,h2⟩;rw [Ji,h2] at Q2;cases Q2
 rw [if_neg Qb2] at Qj;have Z8:=freeTs_len ⟨pk,pl,pn,pb,pm,pq,pt,pu⟩ ks 0 b;rw [Qj] at Z8;have Z8:=freeTs_len ⟨pk,pl,pn,pb,pm,pq,pt,pu⟩ ks 0 b;cases Ji:(pk==1) with
 | true =>
  have Qx:A5 b pn=true:=by
   rw [Ji,Bool.true_and,Bool.not_eq_false'] at Q2;exact Q2
  obtain rfl:pk=1:=by simpa using Ji
  have hz:ks=[]:=by
   have:=cX;rw [show Xj ⟨1,pl,pn,pb,pm,pq,pt,pu⟩=0 from rfl] at this;exact List.length_eq_zero_iff.1 this
  subst hz;have Qhx:l=[]:=by rw [←hl];rfl
  subst Qhx;have Qir:R=[]:=by rw [←Qj];rfl
  subst Qir;have Js:Jw (0:Int) 0=false:=rfl;have Kq:Kgs:=⟨⟩;exact rT
 | false =>
 have Kq:Kgt:=⟨⟩;exact Qa
theorem dM:∀ n,Jd Tryz.prog (48,Ur n)
 | 0=>bM (J6 Tryz.func48 (by kernel_rfl) rfl) jG
 | n+1=>step_free5 n (dM n)
noncomputable def Bg:Rose Part→List UInt8
 | mk p ks=>Q5 p (prTs ks)
theorem wL {p:Part} {ks:List (Rose Part)}:Bg (mk p ks)=Q5 p (prTs ks):=rfl
theorem Zfk (x:Rose Part):prT x=kU x.root++Bg x:=by
 obtain ⟨p,ks⟩:=x;rw [prT];rfl
def Gl (k:Int):Prop:=k=0∨k=2∨k=4∨k=5∨k=12∨k=13∨k=14
def Gk (k:Int):Prop:=k=5∨k=14
structure OkD (p:Part) (ks:List (Rose Part)):Prop where
 ok:fB p
 t1:Gl p.kind→TyOk p.t
 t0:¬ Gl p.kind→p.t=[]
 u1:Gk p.kind→TyOk p.u
 u0:¬ Gk p.kind→p.u=[]
 li:p.kind=0→Zbm p
 la:p.kind=10→∀ z∈ks,z.root.label≠[]∧z.root.kind≠8
 ln:p.kind≠10→∀ z∈ks,z.root.label=[]∨z.root.kind=8
mutual
def OkT:Rose Part→Prop
 | mk p ks=>OkD p ks∧OkTs ks
def OkTs:List (Rose Part)→Prop
 | []=>True
 | x::xs=>OkT x∧OkTs xs
end
theorem sG:∀ {ks:List (Rose Part)},OkTs ks→∀ z∈ks,OkT z
 | x::ks,h,z,hz=>by
  rcases Z2.1 hz with rfl|hz
  ·exact h.1
  ·exact sG h.2 z hz
theorem J4 {z:Rose Part} (h:z.root.label=[]∨z.root.kind=8):prT z=Bg z:=by
 rw [Zfk,tK h,List.nil_append]
noncomputable def Ws (n:Nat):Con:=Vx (fun (t:Sl Part) (i:Int)=>Me t.l∧0≤i∧∃ x,At Xj t.l i.toNat x∧(nds x).length<n∧OkT x∧(Bg x).length≤1000000000) (fun t i=>Bg (Vs Xj t.l i.toNat))
theorem Ox:∀ c,¬ (Ws 0).pre c:=by
 intro c h;unfold Ws at h;obtain ⟨_,_,_,_,_,_,_,h,_⟩:=Jh h;omega
theorem gM {ks:List (Rose Part)}:(prTs ks).length=ks.length:=by rw [Dx,Qn]
theorem iR:∀ {TX ks:List (List UInt8)} {k:Nat},Vg TX=ks.length→k<ks.length→(ks.getD k []).length≤(Jf TX ks).length
 | [],[],k,h,hk=>by simp at hk
 | s::TX,ks,k,h,hk=>by
  by_cases hs:s=[]
  ·subst hs;cases ks with
   | nil=>simp at hk
   | cons a ks =>
    rw [nW,Zb];cases k with
    | zero=>simp
    | succ k =>
     rw [Vg,if_pos rfl,Zd] at h;have:=iR (TX:=TX) (ks:=ks) (k:=k) (by omega) (by simpa using hk)
     simp only [List.getD_cons_succ];omega
  ·rw [Ai hs,Zb];rw [Vg,if_neg hs,Nat.zero_add] at h;have:=iR (TX:=TX) (ks:=ks) (k:=k) h hk;omega
theorem oU {s:List UInt8}:∀ {ks:List (List UInt8)} {b:Bool} {k:Nat},k<ks.length→(ks.getD k []).length≤(W8 s b ks).length
 | a::ks,b,0,hk=>by simp [W8];omega
 | a::ks,b,k+1,hk=>by
  have:=oU (s:=s) (ks:=ks) (b:=false) (k:=k) (by simpa using hk)
  simp only [List.getD_cons_succ,W8,Zb];omega
theorem Zjf {p:Part} {ks:List (Rose Part)} (hd:OkD p ks) (hl:ks.length=Xj p) {k:Nat} (hk:k<ks.length):(Bg (ks[k])).length≤(Bg (mk p ks)).length:=by
 have h1:(Bg ks[k]).length≤((prTs ks).getD k []).length:=by
  rw [Dx];simp only [Zk,List.getElem?_map,Zh hk,Option.map_some,Option.getD_some];rw [Zfk,Zb];omega
 refine Nat.le_trans h1 ?_;rw [wL];have Zvi:k<(prTs ks).length:=by rw [gM];exact hk
 obtain ⟨⟨V7,Yr⟩,-,Ut,H6,Qem,Wj,Vp,-⟩:=hd.ok;unfold Q5;split
 ·rename_i h;have:Xj p=0:=by simp [Xj,Qu,h]
  omega
 split
 ·cases hq:prTs ks with
  | nil=>rw [hq] at Zvi;simp at Zvi
  | cons a r =>
   cases k with
   | zero=>simp only [Zb,List.headD_cons,List.getD_cons_zero];omega
   | succ k =>
    rw [hq] at Zvi;have:=oU (s:=[32,124,32]) (ks:=r) (b:=true) (k:=k) (by simpa using Zvi)
    simp only [Zb,List.tail_cons,List.getD_cons_succ];omega
 split
 ·have:=oU (s:=[44,32]) (ks:=prTs ks) (b:=true) Zvi;simp only [Zb];omega
 ·refine iR ?_ Zvi;rw [gM,hl];rename_i h0 h7 Bf;have Yg:p.kind=1∨p.kind=2∨p.kind=3∨p.kind=4∨p.kind=5∨p.kind=6∨p.kind=8∨p.kind=9∨p.kind=11∨p.kind=12∨p.kind=13∨p.kind=14:=by omega
  rcases Yg with h|h|h|h|h|h|h|h|h|h|h|h<;>simp only [Xz,Xj,Qu,h]<;>simp [Vg,Ut,H6,Qem,h,Wz,Wj,Vp]
theorem kJ {t:List Part}:∀ {ks:List (Rose Part)} {i k:Nat},Ss Xj t i ks→(hk:k<ks.length)→At Xj t (i+(ndss (ks.take k)).length) ks[k]
 | x::ks,i,0,h,_=>by
  have hx:=h.head.1;simpa [ndss] using hx
 | x::ks,i,k+1,h,hk=>by
  have:=kJ h.head.2 (k:=k) (by simpa using hk)
  rw [List.take_succ_cons,ndss,Zb,←Nat.add_assoc];exact this
theorem dH:∀ {ks:List (Rose Part)},ks.length≤(ndss ks).length
 | []=>Nat.zero_le _
 | x::ks=>by
  have h1:=dH (ks:=ks);have h2:=Ta x;rw [ndss,Zb,Zd];omega
theorem sO {t:List Part} {i:Nat} {p:Part} {ks:List (Rose Part)} (h:At Xj t i (mk p ks)):ks.length≤t.length:=by
 have h1:=h.le;rw [Jt,Zd] at h1;have h2:=dH (ks:=ks);omega
theorem Hm {t:List Node} (h:TyOk t):0<t.length:=by
 obtain ⟨_,x,rfl,_⟩:=h;exact Ta x
class KgC:Prop
theorem KgC.k (_:KgC) (h:p:=by
 repeat' first|exact Cg|with_reducible apply Z9|intro _
 all_goals first|contradiction|with_reducible exact Zz5|exact Zki|exact Zh1|omega|trivial|exact ⟨(k+1,out++[Z]),by exact Xa,by show k+1≤_;omega,Zvg,by show ks.length-(k+1)<ks.length-k;omega⟩|skip):p:=h
class KgD:Prop
theorem KgD.k (_:KgD) (h:p:=by
 repeat' first|exact Cg|with_reducible apply Z9|intro _
 all_goals first|contradiction|with_reducible exact Zz5|exact Wj|exact Vp|exact rC|omega|trivial|exact Zz|(simp only [Zb,Zd,List.length_nil];omega)|skip):p:=h
class KgE:Prop
theorem KgE.k (_:KgE) (h:p:=by
 repeat' first|exact Cg|with_reducible apply Z9|intro _
 all_goals first|contradiction|with_reducible exact Zz5|exact Wj|exact Vp|exact rC|omega|trivial|exact Zz|(simp only [Zb,Zd,List.length_nil];omega)|skip):p:=h
class KgF:Prop
theorem KgF.k (_:KgF) (h:p:=by
 repeat' first|exact Cg|with_reducible apply Z9|intro _
 all_goals first|contradiction|with_reducible exact Zz5|exact Wj|exact Vp|exact rC|omega|trivial|exact Zz|(simp only [Zb,Zd,List.length_nil];omega)|skip):p:=h
class KgG:Prop
theorem KgG.k (_:KgG) (h:p:=by
 repeat' first|exact Cg|with_reducible apply Z9|intro _
 all_goals first|contradiction|with_reducible exact Zz5|exact Wj|exact Vp|exact rC|omega|trivial|exact Zz|(simp only [Zb,Zd,List.length_nil];omega)|skip):p:=h
class KgH:Prop
theorem KgH.k (_:KgH) (h:p:=by
 repeat' first|exact Cg|with_reducible apply Z9|intro _
 all_goals first|contradiction|with_reducible exact Zz5|exact Wj|exact Vp|exact rC|omega|trivial|exact Zz|(simp only [Zb,Zd,List.length_nil];omega)|skip):p:=h
class KgI:Prop
theorem KgI.k (_:KgI) (h:p:=by
 repeat' first|exact Cg|with_reducible apply Z9|intro _
 all_goals first|contradiction|with_reducible exact Zz5|exact Wj|exact Vp|exact rC|omega|trivial|exact Zz|(simp only [Zb,Zd,List.length_nil];omega)|skip):p:=h
class KgJ:Prop
theorem KgJ.k (_:KgJ) (h:p:=by
 repeat' first|exact Cg|with_reducible apply Z9|intro _
 all_goals first|contradiction|with_reducible exact Zz5|exact Wj|exact Vp|exact rC|omega|trivial|exact Zz|(simp only [Zb,Zd,List.length_nil];omega)|skip):p:=h
class KgL:Prop
theorem KgL.k (_:KgL) (h:p:=by
 repeat' first|exact Cg|with_reducible apply Z9|intro _
 all_goals first|contradiction|with_reducible exact Zz5|exact Wj|exact Vp|exact rC|omega|trivial|exact Zz|(simp only [Zb,Zd,List.length_nil];omega)|skip):p:=h
class KgM:Prop
theorem KgM.k (_:KgM) (h:p:=by
 repeat' first|exact Cg|with_reducible apply Z9|intro _
 all_goals first|contradiction|with_reducible exact Zz5|omega|trivial|(simp only [Zb,Zd,List.length_nil];simp at C8;omega)|exact ⟨(k+1,o2,rs),by exact Xa,by show 1≤k+1;omega,by simp at Az;show k+1+rs.length=N;omega,Zhz,by simp only;rw [hf];exact fV,by show N-(k+1)<N-k;omega⟩|skip):p:=h
class KgN:Prop
theorem KgN.k (_:KgN) (h:p:=by
 repeat' first|exact Cg|with_reducible apply Z9|intro _
 all_goals first|contradiction|with_reducible exact Zz5|omega|trivial|(simp only [Zb,Zd,List.length_nil];simp at C8;omega)|exact ⟨(k+1,o2,rs),by exact Xa,by show 1≤k+1;omega,by simp at Az;show k+1+rs.length=N;omega,Zhz,by simp only;rw [hf];exact fV,by show N-(k+1)<N-k;omega⟩|skip):p:=h
class KgK:Prop
theorem KgK.k (_:KgK) (h:p:=by
 repeat' first|exact Cg|with_reducible apply Z9|intro _
 all_goals first|contradiction|with_reducible exact Zz5|omega|trivial|(simp only [Zb,Zd,List.length_nil];omega)|skip
 refine Z4 [232,233,234,235,236,237,238,239,240,241,242,243,244,245,246,247] (fun q:Nat×List UInt8×List (List UInt8)=>[(11,.d (.str q.2.1)),(12,.d (.int .i64 q.1))]) (fun q:Nat×List UInt8×List (List UInt8)=>[(19,.row 1 (out.map enc) 0)]) (fun q:Nat×List UInt8×List (List UInt8)=>(1≤q.1∧q.1+q.2.2.length=N)∧q.2.2=out.drop q.1∧q.2.1++(W8 [32,124,32] (q.1==1) q.2.2++[32,101,110,100,41])=R) (fun q:Nat×List UInt8×List (List UInt8)=>N-q.1) (1,[40,99,97,115,101,32]++A++[32,111,102,32],or) ?_ ?_ ?_
 ·exact ⟨⟨Zl _,by show 1+or.length=N;omega⟩,by rw [Qcu];rfl,Qj⟩
 ·exact Xa
 rintro ⟨k,o,rs⟩ ⟨⟨Qiz,Az⟩,lE,hV⟩;simp only at Qiz Az lE hV;have C8:=congrArg List.length hV;simp only [Zb,Zd,List.length_nil] at C8;cases rs with
 | nil =>
  have Qep:k=N:=by simpa using Az
  subst Qep;have Qk:Jw (k:Int) (k:Int)=false:=by rw [Jj];omega
  have Zz:o++[32,101,110,100,41]=R:=by rw [←hV];simp [W8]
  have Kq:KgL:=⟨⟩;exact rT
 | cons B rs =>
  have Qg:k<N:=by simp at Az;omega
  have Qk:Jw (k:Int) (N:Int)=true:=by rw [Je];omega
  have Q1:el (out.map (enc:List UInt8→D)) k=.str B:=by
   rw [Qc ([]:List UInt8) (by omega)]
   have h2:(out.drop k).getD 0 []=B:=by rw [←lE];rfl
   rw [Zk,List.getElem?_drop,Nat.add_zero,←Zk] at h2;rw [h2];rfl
  have Zhz:rs=out.drop (k+1):=by
   rw [←List.drop_drop,←lE];rfl
  have hf:(k+1==1)=false:=by rw [Za];omega
  rcases Nat.lt_or_ge 1 k with h0|h0
  ·have Q0:Jw 1 (k:Int)=true:=by rw [Je];omega
   have kG:(k==1)=false:=by rw [Za];omega
   rw [kG] at hV C8;have fV:(o++[32,124,32])++B++(W8 [32,124,32] false rs++[32,101,110,100,41])=R:=by rw [←hV];simp [W8]
   obtain ⟨o2,Jg⟩:=exq ((o++[32,124,32])++B);rw [Jg] at fV;simp only [W8,Zb,Zd,List.length_nil] at C8;have Kq:KgM:=⟨⟩;exact rT
  ·have aI:k=1:=by omega
   have Q0:Jw 1 (k:Int)=false:=by rw [Jj];omega
   have kG:(k==1)=true:=by rw [Zi];exact aI
   rw [kG] at hV C8;have fV:o++B++(W8 [32,124,32] false rs++[32,101,110,100,41])=R:=by rw [←hV];simp [W8]
   obtain ⟨o2,Jg⟩:=exq (o++B);rw [Jg] at fV;simp only [W8,Zb,Zd,List.length_nil] at C8;have Kq:KgN:=⟨⟩;exact rT):p:=h
class KgO:Prop
theorem KgO.k (_:KgO) (h:p:=by
 repeat' first|exact Cg|with_reducible apply Z9|intro _
 all_goals first|contradiction|with_reducible exact Zz5|exact Wj|exact Vp|exact rC|omega|trivial|exact Zz|(simp only [Zb,Zd,List.length_nil];omega)|skip):p:=h
class KgP:Prop
theorem KgP.k (_:KgP) (h:p:=by
 repeat' first|exact Cg|with_reducible apply Z9|intro _
 all_goals first|contradiction|with_reducible exact Zz5|exact Wj|exact Vp|exact rC|omega|trivial|exact Zz|(simp only [Zb,Zd,List.length_nil];omega)|skip):p:=h
class KgR:Prop
theorem KgR.k (_:KgR) (h:p:=by
 repeat' first|exact Cg|with_reducible apply Z9|intro _
 all_goals first|contradiction|with_reducible exact Zz5|exact Wj|exact Vp|exact rC|omega|trivial|exact Zz|(simp only [Zb,Zd,List.length_nil];omega)|skip):p:=h
class KgS:Prop
theorem KgS.k (_:KgS) (h:p:=by
 repeat' first|exact Cg|with_reducible apply Z9|intro _
 all_goals first|contradiction|with_reducible exact Zz5|omega|trivial|(simp only [Zb,Zd,List.length_nil];simp at C8;omega)|exact ⟨(k+1,o2,rs),by exact Xa,by simp at Az;show k+1+rs.length=ks.length;omega,Zhz,by simp only;rw [hf];exact fV,by show ks.length-(k+1)<ks.length-k;omega⟩|skip):p:=h
class KgT:Prop
theorem KgT.k (_:KgT) (h:p:=by
 repeat' first|exact Cg|with_reducible apply Z9|intro _
 all_goals first|contradiction|with_reducible exact Zz5|omega|trivial|(simp only [Zb,Zd,List.length_nil];simp at C8;omega)|exact ⟨(k+1,o2,rs),by exact Xa,by simp at Az;show k+1+rs.length=ks.length;omega,Zhz,by simp only;rw [hf];exact fV,by show ks.length-(k+1)<ks.length-k;omega⟩|skip):p:=h
class KgQ:Prop
theorem KgQ.k (_:KgQ) (h:p:=by
 repeat' first|exact Cg|with_reducible apply Z9|intro _
 all_goals first|contradiction|with_reducible exact Zz5|omega|trivial|skip
 refine Z4 [250,251,252,253,254,255,256,257,258,259,260,261,262,263,264,265,266,267,268,269,270,271,272,273,274,275] (fun q:Nat×List UInt8×List (Rose Part)=>[(13,.d (.str q.2.1)),(14,.d (.int .i64 q.1))]) (fun q:Nat×List UInt8×List (Rose Part)=>[(19,.row 1 (out.map enc) 0)]) (fun q:Nat×List UInt8×List (Rose Part)=>q.1+q.2.2.length=ks.length∧q.2.2=ks.drop q.1∧q.2.1++(W8 [44,32] (q.1==0) (q.2.2.map (fun z=>z.root.label++[32,61,32]++Bg z))++[125])=R) (fun q:Nat×List UInt8×List (Rose Part)=>ks.length-q.1) (0,[123],ks) ?_ ?_ ?_
 ·exact ⟨Nat.zero_add _,rfl,Qj⟩
 ·exact Xa
 rintro ⟨k,o,rs⟩ ⟨Az,lE,hV⟩;simp only at Az lE hV;have C8:=congrArg List.length hV;simp only [Zb,Zd,List.length_nil] at C8;cases rs with
 | nil =>
  have Qep:k=ks.length:=by simpa using Az
  subst Qep;have Qk:Jw (ks.length:Int) (ks.length:Int)=false:=by rw [Jj];omega
  have Zz:o++[125]=R:=by rw [←hV];simp [W8]
  have Kq:KgR:=⟨⟩;exact rT
 | cons z rs =>
  have Qg:k<ks.length:=by simp at Az;omega
  have Qk:Jw (k:Int) (ks.length:Int)=true:=by rw [Je];omega
  have Zyj:ks[k]=z:=by
   have h2:(ks.drop k)[0]?=some z:=by rw [←lE];rfl
   rw [List.getElem?_drop,Nat.add_zero,Zh Qg] at h2;exact Option.some.inj h2
  have hz:=kJ Xs Qg;rw [Zyj] at hz;have Q3:=Qc (0:Int) (show k<L.length by omega)
  rw [Co k Qg] at Q3;obtain ⟨q,hq⟩:=exq (i+1+(ndss (ks.take k)).length);rw [hq] at Q3 hz;have Qd6:=hz.lt;have Jo:=Qc e0 Qd6;rw [hz.root e0] at Jo;obtain ⟨B,hB⟩:=exq (Bg z);have Q1:el (out.map (enc:List UInt8→D)) k=.str B:=by
   rw [Qc ([]:List UInt8) (by omega),Wp]
   simp only [Zk,List.getElem?_map,Zh Qg,Option.map_some,Option.getD_some,Zyj,hB];rfl
  have Zhz:rs=ks.drop (k+1):=by
   rw [←List.drop_drop,←lE];rfl
  have hf:(k+1==0)=false:=by rw [Za];omega
  rw [List.map_cons,hB] at hV C8;obtain ⟨⟨zk,zl,zn,zb,zm,zq,zt,zu⟩,Zke⟩:=exq (z.root);rw [Zke] at Jo hV C8;simp only at hV C8;rcases Nat.eq_zero_or_pos k with h0|h0
  ·have Q0:Jw 0 (k:Int)=false:=by rw [Jj];omega
   have kG:(k==0)=true:=by rw [Zi];exact h0
   rw [kG] at hV C8;have fV:o++zl++[32,61,32]++B++(W8 [44,32] false (rs.map (fun z=>z.root.label++[32,61,32]++Bg z))++[125])=R:=by rw [←hV];simp [W8]
   obtain ⟨o2,Jg⟩:=exq (o++zl++[32,61,32]++B);rw [Jg] at fV;simp only [W8,Zb,Zd,List.length_nil] at C8;have Kq:KgS:=⟨⟩;exact rT
  ·have Q0:Jw 0 (k:Int)=true:=by rw [Je];omega
   have kG:(k==0)=false:=by rw [Za];omega
   rw [kG] at hV C8;have fV:(o++[44,32])++zl++[32,61,32]++B++(W8 [44,32] false (rs.map (fun z=>z.root.label++[32,61,32]++Bg z))++[125])=R:=by rw [←hV];simp [W8]
   obtain ⟨o2,Jg⟩:=exq ((o++[44,32])++zl++[32,61,32]++B);rw [Jg] at fV;simp only [W8,Zb,Zd,List.length_nil] at C8;have Kq:KgT:=⟨⟩;exact rT):p:=h
class KgU:Prop
theorem KgU.k (_:KgU) (h:p:=by
 repeat' first|exact Cg|with_reducible apply Z9|intro _
 all_goals first|contradiction|with_reducible exact Zz5|exact Wj|exact Vp|exact rC|omega|trivial|exact Zz|(simp only [Zb,Zd,List.length_nil];omega)|skip):p:=h
class KgV:Prop
theorem KgV.k (_:KgV) (h:p:=by
 repeat' first|exact Cg|with_reducible apply Z9|intro _
 all_goals first|contradiction|with_reducible exact Zz5|exact Wj|exact Vp|exact rC|omega|trivial|exact Zz|(simp only [Zb,Zd,List.length_nil];omega)|skip):p:=h
class KgW:Prop
theorem KgW.k (_:KgW) (h:p:=by
 repeat' first|exact Cg|with_reducible apply Z9|intro _
 all_goals first|contradiction|with_reducible exact Zz5|exact Wj|exact Vp|exact rC|omega|trivial|exact Zz|(simp only [Zb,Zd,List.length_nil];omega)|skip):p:=h
class KgX:Prop
theorem KgX.k (_:KgX) (h:p:=by
 repeat' first|exact Cg|with_reducible apply Z9|intro _
 all_goals first|contradiction|with_reducible exact Zz5|exact Wj|exact Vp|exact rC|omega|trivial|exact Zz|(simp only [Zb,Zd,List.length_nil];omega)|skip):p:=h
class KgB:Prop
theorem KgB.k (_:KgB) (h:p:=by
 repeat' first|exact Cg|with_reducible apply Z9|intro _
 all_goals first
  | contradiction
  | with_reducible exact Zz5
  | exact Zki
  | exact Qby
  | omega
  | trivial
  | skip
 refine Z4 [23,24,25,26,27,28,29,30,31,32,33,34,35,36,37] (fun q:Nat×List (List UInt8)=>[(6,.sl 19 (q.2.map enc).length),(8,.d (.int .i64 q.1))]) (fun q:Nat×List (List UInt8)=>[(19,.row 1 (q.2.map enc) 0)]) (fun q:Nat×List (List UInt8)=>q.1≤ks.length∧q.2=(ks.take q.1).map Bg) (fun q:Nat×List (List UInt8)=>ks.length-q.1) (0,[]) ?_ ?_ ?_
 ·exact ⟨Nat.zero_le _,by simp⟩
 ·exact Xa
 rintro ⟨k,out⟩ ⟨hk,Wp⟩;simp only at hk Wp;have Cm:out.length=k:=by rw [Wp,Qn,List.length_take];omega
 rcases Qh k ks.length with ⟨Qg,Ql⟩|⟨Qg,Ql⟩
 ·have Q3:=Qc (0:Int) (show k<L.length by omega)
  rw [Co k Qg] at Q3;have hz:=kJ Xs Qg;obtain ⟨q,hq⟩:=exq (i+1+(ndss (ks.take k)).length);rw [hq] at Q3 hz;have Qg7:=Xp hz;have Cn:ks[k]∈ks:=List.getElem_mem Qg;have Qh3:=Qbv k Qg;have Zh1:∃ x,At Xj t q x∧(nds x).length<n∧OkT x∧(Bg x).length≤1000000000:=⟨_,hz,Ck _ Cn,sG aB _ Cn,by omega⟩
  have Zvg:out++[Bg ks[k]]=(ks.take (k+1)).map Bg:=by rw [List.take_succ_eq_append_getElem Qg,List.map_append,Wp];rfl
  obtain ⟨Z,hZ⟩:=exq (Bg ks[k]);rw [hZ] at Zvg;have Ji:Bg (Vs Xj t q)=Z:=by rw [Qg7,hZ]
  have Kq:KgC:=⟨⟩;exact rT
 ·have Yg:k=ks.length:=by omega
  subst Yg;rw [List.take_length] at Wp;clear Qbv;have Yg:pk=0∨pk=1∨pk=2∨pk=3∨pk=4∨pk=5∨pk=6∨pk=7∨pk=8∨pk=9∨pk=10∨pk=11∨pk=12∨pk=13∨pk=14:=by omega
  rcases Yg with rfl|rfl|rfl|rfl|rfl|rfl|rfl|rfl|rfl|rfl|rfl|rfl|rfl|rfl|rfl
  ·have Wj:TyOk pt:=fY (by unfold Gl;omega)
   have Jl:Jw 0 (pt.length:Int)=true:=by rw [Je];have:=Hm Wj;omega
   have Jk:Jw 0 (pu.length:Int)=false:=by rw [cJ (by unfold Gk;omega)];rfl
   have rC:=zB rfl;have Zz:D2 ⟨0,lb,nm,bd,pm,pq,pt,pu⟩=R:=by rw [←hR];simp [Q5]
   ((try clear hR);(try clear Xs);(try clear aB);(try clear hd);(try clear fY);(try clear eB);(try clear vS);(try clear cJ);(try clear zB);(try clear zK);(try clear R7);(try clear Ni);(try clear Ut);(try clear H6);(try clear Yq);(try clear Wo);(try clear Yp);(try clear U4);(try clear V7);(try clear Yr);(try clear Wa);(try clear Q6);(try clear Ck);(try clear Co);(try clear Wp);(try clear Wd);(try clear Xm);(try clear X8);(try clear Y7);(try clear Y1);(try clear Ge);(try clear hx);(try clear vL))
   have Kq:KgD:=⟨⟩;exact rT
  ·obtain rfl:pt=[]:=eB (by unfold Gl;omega)
   have Jk:Jw 0 ((([]:List Node).length:Nat):Int)=false:=rfl;obtain rfl:pu=[]:=cJ (by unfold Gk;omega)
   have Q6:ks.length=0:=by rw [Wa];simp [Xj,Qu]
   obtain rfl:ks=[]:=List.length_eq_zero_iff.1 Q6;have Xm:=Ut (by simp)
   have Zz:nm=R:=by rw [←hR];simp [Q5,Xz,Jf,prTs,Xm]
   have Ly:=congrArg List.length Zz;try simp only [Zb,Zd,List.length_nil] at Ly
   ((try clear hR);(try clear Xs);(try clear aB);(try clear hd);(try clear fY);(try clear eB);(try clear vS);(try clear cJ);(try clear zB);(try clear zK);(try clear R7);(try clear Ni);(try clear Ut);(try clear H6);(try clear Yq);(try clear Wo);(try clear Yp);(try clear U4);(try clear V7);(try clear Yr);(try clear Wa);(try clear Q6);(try clear Ck);(try clear Co);(try clear Wp);(try clear Wd);(try clear Xm);(try clear X8);(try clear Y7);(try clear Y1);(try clear Ge);(try clear hx);(try clear vL))
   have Kq:KgE:=⟨⟩;exact rT
  ·have Wj:TyOk pt:=fY (by unfold Gl;omega)
   have Jl:Jw 0 (pt.length:Int)=true:=by rw [Je];have:=Hm Wj;omega
   obtain rfl:pu=[]:=cJ (by unfold Gk;omega)
   have Jk:Jw 0 ((([]:List Node).length:Nat):Int)=false:=rfl;have Q6:ks.length=1:=by rw [Wa];simp [Xj,Qu]
   obtain ⟨a,rfl⟩:∃ a,ks=[a]:=by
    match ks,Q6 with
    | [a],_=>exact ⟨a,rfl⟩
   have Nh:=J4 (R7 (by omega) a (by simp))
   obtain ⟨A,hA⟩:=exq (Bg a);rw [hA] at Nh;have Wd:out=[A]:=by rw [Wp];simp [hA]
   have Qi:el (out.map (enc:List UInt8→D)) 0=.str A:=by rw [Wd];rfl
   have lF:out.length=1:=by rw [Cm];rfl
   have Qo:(out.map (enc:List UInt8→D)).length=1:=by rw [Qn,Cm];rfl
   have X8:=H6 (by simp)
   have Y1:=Wz Wj;rw [Js] at Y1;have Zz:[40,102,117,110,32,40]++bd++[58,32]++T1++[41,32,45,62,32]++A++[41]=R:=by rw [←hR];simp [Q5,Xz,Jf,prTs,Nh,X8,Js,Y1]
   have Ly:=congrArg List.length Zz;try simp only [Zb,Zd,List.length_nil] at Ly
   ((try clear hR);(try clear Xs);(try clear aB);(try clear hd);(try clear fY);(try clear eB);(try clear vS);(try clear cJ);(try clear zB);(try clear zK);(try clear R7);(try clear Ni);(try clear Ut);(try clear H6);(try clear Yq);(try clear Wo);(try clear Yp);(try clear U4);(try clear V7);(try clear Yr);(try clear Wa);(try clear Q6);(try clear Ck);(try clear Co);(try clear Wp);(try clear Wd);(try clear Xm);(try clear X8);(try clear Y7);(try clear Y1);(try clear Ge);(try clear hx);(try clear vL))
   have Kq:KgF:=⟨⟩;exact rT
  ·obtain rfl:pt=[]:=eB (by unfold Gl;omega)
   have Jk:Jw 0 ((([]:List Node).length:Nat):Int)=false:=rfl;obtain rfl:pu=[]:=cJ (by unfold Gk;omega)
   have Q6:ks.length=2:=by rw [Wa];simp [Xj,Qu]
   obtain ⟨a,b,rfl⟩:∃ a b,ks=[a,b]:=by
    match ks,Q6 with
    | [a,b],_=>exact ⟨a,b,rfl⟩
   have Nh:=J4 (R7 (by omega) a (by simp))
   obtain ⟨A,hA⟩:=exq (Bg a);rw [hA] at Nh;have H7:=J4 (R7 (by omega) b (by simp))
   obtain ⟨B,hB⟩:=exq (Bg b);rw [hB] at H7;have Wd:out=[A,B]:=by rw [Wp];simp [hA,hB]
   have Qi:el (out.map (enc:List UInt8→D)) 0=.str A:=by rw [Wd];rfl
   have Qt:el (out.map (enc:List UInt8→D)) 1=.str B:=by rw [Wd];rfl
   have lF:out.length=2:=by rw [Cm];rfl
   have Qo:(out.map (enc:List UInt8→D)).length=2:=by rw [Qn,Cm];rfl
   have Zz:[40]++A++[32]++B++[41]=R:=by rw [←hR];simp [Q5,Xz,Jf,prTs,Nh,H7]
   have Ly:=congrArg List.length Zz;try simp only [Zb,Zd,List.length_nil] at Ly
   ((try clear hR);(try clear Xs);(try clear aB);(try clear hd);(try clear fY);(try clear eB);(try clear vS);(try clear cJ);(try clear zB);(try clear zK);(try clear R7);(try clear Ni);(try clear Ut);(try clear H6);(try clear Yq);(try clear Wo);(try clear Yp);(try clear U4);(try clear V7);(try clear Yr);(try clear Wa);(try clear Q6);(try clear Ck);(try clear Co);(try clear Wp);(try clear Wd);(try clear Xm);(try clear X8);(try clear Y7);(try clear Y1);(try clear Ge);(try clear hx);(try clear vL))
   have Kq:KgG:=⟨⟩;exact rT
  ·have Wj:TyOk pt:=fY (by unfold Gl;omega)
   have Jl:Jw 0 (pt.length:Int)=true:=by rw [Je];have:=Hm Wj;omega
   obtain rfl:pu=[]:=cJ (by unfold Gk;omega)
   have Jk:Jw 0 ((([]:List Node).length:Nat):Int)=false:=rfl;have Q6:ks.length=2:=by rw [Wa];simp [Xj,Qu]
   obtain ⟨a,b,rfl⟩:∃ a b,ks=[a,b]:=by
    match ks,Q6 with
    | [a,b],_=>exact ⟨a,b,rfl⟩
   have Nh:=J4 (R7 (by omega) a (by simp))
   obtain ⟨A,hA⟩:=exq (Bg a);rw [hA] at Nh;have H7:=J4 (R7 (by omega) b (by simp))
   obtain ⟨B,hB⟩:=exq (Bg b);rw [hB] at H7;have Wd:out=[A,B]:=by rw [Wp];simp [hA,hB]
   have Qi:el (out.map (enc:List UInt8→D)) 0=.str A:=by rw [Wd];rfl
   have Qt:el (out.map (enc:List UInt8→D)) 1=.str B:=by rw [Wd];rfl
   have lF:out.length=2:=by rw [Cm];rfl
   have Qo:(out.map (enc:List UInt8→D)).length=2:=by rw [Qn,Cm];rfl
   have X8:=H6 (by simp)
   have Y1:=Wz Wj;rw [Js] at Y1;have Zz:[40,108,101,116,32]++bd++[58,32]++T1++[32,61,32]++A++[32,105,110,32]++B++[41]=R:=by rw [←hR];simp [Q5,Xz,Jf,prTs,Nh,H7,X8,Js,Y1]
   have Ly:=congrArg List.length Zz;try simp only [Zb,Zd,List.length_nil] at Ly
   ((try clear hR);(try clear Xs);(try clear aB);(try clear hd);(try clear fY);(try clear eB);(try clear vS);(try clear cJ);(try clear zB);(try clear zK);(try clear R7);(try clear Ni);(try clear Ut);(try clear H6);(try clear Yq);(try clear Wo);(try clear Yp);(try clear U4);(try clear V7);(try clear Yr);(try clear Wa);(try clear Q6);(try clear Ck);(try clear Co);(try clear Wp);(try clear Wd);(try clear Xm);(try clear X8);(try clear Y7);(try clear Y1);(try clear Ge);(try clear hx);(try clear vL))
   have Kq:KgH:=⟨⟩;exact rT
  ·have Wj:TyOk pt:=fY (by unfold Gl;omega)
   have Jl:Jw 0 (pt.length:Int)=true:=by rw [Je];have:=Hm Wj;omega
   have Vp:TyOk pu:=vS (by unfold Gk;omega)
   have Qq:Jw 0 (pu.length:Int)=true:=by rw [Je];have:=Hm Vp;omega
   have Q6:ks.length=2:=by rw [Wa];simp [Xj,Qu]
   obtain ⟨a,b,rfl⟩:∃ a b,ks=[a,b]:=by
    match ks,Q6 with
    | [a,b],_=>exact ⟨a,b,rfl⟩
   have Nh:=J4 (R7 (by omega) a (by simp))
   obtain ⟨A,hA⟩:=exq (Bg a);rw [hA] at Nh;have H7:=J4 (R7 (by omega) b (by simp))
   obtain ⟨B,hB⟩:=exq (Bg b);rw [hB] at H7;have Wd:out=[A,B]:=by rw [Wp];simp [hA,hB]
   have Qi:el (out.map (enc:List UInt8→D)) 0=.str A:=by rw [Wd];rfl
   have Qt:el (out.map (enc:List UInt8→D)) 1=.str B:=by rw [Wd];rfl
   have lF:out.length=2:=by rw [Cm];rfl
   have Qo:(out.map (enc:List UInt8→D)).length=2:=by rw [Qn,Cm];rfl
   have Xm:=Ut (by simp)
   have X8:=H6 (by simp)
   have Y1:=Wz Wj;rw [Js] at Y1;have Ge:=Wz Vp;rw [Qe] at Ge;have Zz:[40,114,101,99,32]++nm++[32,40]++bd++[58,32]++T1++[41,58,32]++U1++[32,61,32]++A++[32,105,110,32]++B++[41]=R:=by rw [←hR];simp [Q5,Xz,Jf,prTs,Nh,H7,Xm,X8,Js,Y1,Qe,Ge]
   have Ly:=congrArg List.length Zz;try simp only [Zb,Zd,List.length_nil] at Ly
   ((try clear hR);(try clear Xs);(try clear aB);(try clear hd);(try clear fY);(try clear eB);(try clear vS);(try clear cJ);(try clear zB);(try clear zK);(try clear R7);(try clear Ni);(try clear Ut);(try clear H6);(try clear Yq);(try clear Wo);(try clear Yp);(try clear U4);(try clear V7);(try clear Yr);(try clear Wa);(try clear Q6);(try clear Ck);(try clear Co);(try clear Wp);(try clear Wd);(try clear Xm);(try clear X8);(try clear Y7);(try clear Y1);(try clear Ge);(try clear hx);(try clear vL))
   have Kq:KgI:=⟨⟩;exact rT
  ·obtain rfl:pt=[]:=eB (by unfold Gl;omega)
   have Jk:Jw 0 ((([]:List Node).length:Nat):Int)=false:=rfl;obtain rfl:pu=[]:=cJ (by unfold Gk;omega)
   have Q6:ks.length=3:=by rw [Wa];simp [Xj,Qu]
   obtain ⟨a,b,c,rfl⟩:∃ a b c,ks=[a,b,c]:=by
    match ks,Q6 with
    | [a,b,c],_=>exact ⟨a,b,c,rfl⟩
   have Nh:=J4 (R7 (by omega) a (by simp))
   obtain ⟨A,hA⟩:=exq (Bg a);rw [hA] at Nh;have H7:=J4 (R7 (by omega) b (by simp))
   obtain ⟨B,hB⟩:=exq (Bg b);rw [hB] at H7;have Qgr:=J4 (R7 (by omega) c (by simp))
   obtain ⟨CC,Qg2⟩:=exq (Bg c);rw [Qg2] at Qgr;have Wd:out=[A,B,CC]:=by rw [Wp];simp [hA,hB,Qg2]
   have Qi:el (out.map (enc:List UInt8→D)) 0=.str A:=by rw [Wd];rfl
   have Qt:el (out.map (enc:List UInt8→D)) 1=.str B:=by rw [Wd];rfl
   have Z6:el (out.map (enc:List UInt8→D)) 2=.str CC:=by rw [Wd];rfl
   have lF:out.length=3:=by rw [Cm];rfl
   have Qo:(out.map (enc:List UInt8→D)).length=3:=by rw [Qn,Cm];rfl
   have Zz:[40,105,102,32]++A++[32,116,104,101,110,32]++B++[32,101,108,115,101,32]++CC++[41]=R:=by rw [←hR];simp [Q5,Xz,Jf,prTs,Nh,H7,Qgr]
   have Ly:=congrArg List.length Zz;try simp only [Zb,Zd,List.length_nil] at Ly
   ((try clear hR);(try clear Xs);(try clear aB);(try clear hd);(try clear fY);(try clear eB);(try clear vS);(try clear cJ);(try clear zB);(try clear zK);(try clear R7);(try clear Ni);(try clear Ut);(try clear H6);(try clear Yq);(try clear Wo);(try clear Yp);(try clear U4);(try clear V7);(try clear Yr);(try clear Wa);(try clear Q6);(try clear Ck);(try clear Co);(try clear Wp);(try clear Wd);(try clear Xm);(try clear X8);(try clear Y7);(try clear Y1);(try clear Ge);(try clear hx);(try clear vL))
   have Kq:KgJ:=⟨⟩;exact rT
  ·obtain rfl:pt=[]:=eB (by unfold Gl;omega)
   have Jk:Jw 0 ((([]:List Node).length:Nat):Int)=false:=rfl;obtain rfl:pu=[]:=cJ (by unfold Gk;omega)
   have Sv:=U4 (by simp)
   have Zkm:Qu ⟨7,lb,nm,bd,pm,pq,[],[]⟩=pm+1:=by
    have h1:Mt pm 0=pm:=by unfold Mt;split<;>omega
    simp [Qu,h1]
   obtain ⟨k0,kr,rfl⟩:∃ k0 kr,ks=k0::kr:=by
    cases ks with
    | nil =>
     have h1:=Yu ⟨7,lb,nm,bd,pm,pq,[],[]⟩;rw [Zkm,←Wa] at h1;simp only [List.length_nil] at h1;omega
    | cons k0 kr=>exact ⟨k0,kr,rfl⟩
   have Qbj:prTs (k0::kr)=out:=by
    rw [Dx,Wp];exact List.map_congr_left fun z hz=>J4 (R7 (by omega) z hz)
   obtain ⟨A,or,Qcu⟩:∃ A or,out=A::or:=by
    cases out with
    | nil=>simp at Cm
    | cons A or=>exact ⟨A,or,rfl⟩
   have Qee:or.length=kr.length:=by
    have:=congrArg List.length Qcu;rw [Cm] at this;simpa using this.symm
   have Qi:el (out.map (enc:List UInt8→D)) 0=.str A:=by rw [Qcu];rfl
   have Qj:([40,99,97,115,101,32]++A++[32,111,102,32])++(W8 [32,124,32] true or++[32,101,110,100,41])=R:=by rw [←hR,Qbj,Qcu];simp [Q5]
   have Qb:(out.map (enc:List UInt8→D)).length=(k0::kr).length:=by rw [Qn,Cm]
   obtain ⟨N,hN⟩:=exq ((k0::kr).length);have Qhr:or.length+1=N:=by rw [←hN,Qee];rfl
   have Ly:=congrArg List.length Qj;simp only [Zb,Zd,List.length_nil] at Ly;rw [hN] at Qb Ql Qx;have Kq:KgK:=⟨⟩;exact rT
  ·obtain rfl:pt=[]:=eB (by unfold Gl;omega)
   have Jk:Jw 0 ((([]:List Node).length:Nat):Int)=false:=rfl;obtain rfl:pu=[]:=cJ (by unfold Gk;omega)
   have Q6:ks.length=1:=by rw [Wa];simp [Xj,Qu]
   obtain ⟨a,rfl⟩:∃ a,ks=[a]:=by
    match ks,Q6 with
    | [a],_=>exact ⟨a,rfl⟩
   have Nh:=J4 (R7 (by omega) a (by simp))
   obtain ⟨A,hA⟩:=exq (Bg a);rw [hA] at Nh;have Wd:out=[A]:=by rw [Wp];simp [hA]
   have Qi:el (out.map (enc:List UInt8→D)) 0=.str A:=by rw [Wd];rfl
   have lF:out.length=1:=by rw [Cm];rfl
   have Qo:(out.map (enc:List UInt8→D)).length=1:=by rw [Qn,Cm];rfl
   have X8:=H6 (by simp)
   have Y7:=Yq rfl;have Zz:lb++[32]++bd++[32,45,62,32]++A=R:=by rw [←hR];simp [Q5,Xz,Jf,prTs,Nh,X8,Y7]
   have Ly:=congrArg List.length Zz;try simp only [Zb,Zd,List.length_nil] at Ly
   ((try clear hR);(try clear Xs);(try clear aB);(try clear hd);(try clear fY);(try clear eB);(try clear vS);(try clear cJ);(try clear zB);(try clear zK);(try clear R7);(try clear Ni);(try clear Ut);(try clear H6);(try clear Yq);(try clear Wo);(try clear Yp);(try clear U4);(try clear V7);(try clear Yr);(try clear Wa);(try clear Q6);(try clear Ck);(try clear Co);(try clear Wp);(try clear Wd);(try clear Xm);(try clear X8);(try clear Y7);(try clear Y1);(try clear Ge);(try clear hx);(try clear vL))
   have Kq:KgO:=⟨⟩;exact rT
  ·obtain rfl:pt=[]:=eB (by unfold Gl;omega)
   have Jk:Jw 0 ((([]:List Node).length:Nat):Int)=false:=rfl;obtain rfl:pu=[]:=cJ (by unfold Gk;omega)
   have Q6:ks.length=2:=by rw [Wa];simp [Xj,Qu]
   obtain ⟨a,b,rfl⟩:∃ a b,ks=[a,b]:=by
    match ks,Q6 with
    | [a,b],_=>exact ⟨a,b,rfl⟩
   have Nh:=J4 (R7 (by omega) a (by simp))
   obtain ⟨A,hA⟩:=exq (Bg a);rw [hA] at Nh;have H7:=J4 (R7 (by omega) b (by simp))
   obtain ⟨B,hB⟩:=exq (Bg b);rw [hB] at H7;have Wd:out=[A,B]:=by rw [Wp];simp [hA,hB]
   have Qi:el (out.map (enc:List UInt8→D)) 0=.str A:=by rw [Wd];rfl
   have Qt:el (out.map (enc:List UInt8→D)) 1=.str B:=by rw [Wd];rfl
   have lF:out.length=2:=by rw [Cm];rfl
   have Qo:(out.map (enc:List UInt8→D)).length=2:=by rw [Qn,Cm];rfl
   have Xm:=Ut (by simp)
   have Zz:[40]++A++[32]++nm++[32]++B++[41]=R:=by rw [←hR];simp [Q5,Xz,Jf,prTs,Nh,H7,Xm]
   have Ly:=congrArg List.length Zz;try simp only [Zb,Zd,List.length_nil] at Ly
   ((try clear hR);(try clear Xs);(try clear aB);(try clear hd);(try clear fY);(try clear eB);(try clear vS);(try clear cJ);(try clear zB);(try clear zK);(try clear R7);(try clear Ni);(try clear Ut);(try clear H6);(try clear Yq);(try clear Wo);(try clear Yp);(try clear U4);(try clear V7);(try clear Yr);(try clear Wa);(try clear Q6);(try clear Ck);(try clear Co);(try clear Wp);(try clear Wd);(try clear Xm);(try clear X8);(try clear Y7);(try clear Y1);(try clear Ge);(try clear hx);(try clear vL))
   have Kq:KgP:=⟨⟩;exact rT
  ·obtain rfl:pt=[]:=eB (by unfold Gl;omega)
   have Jk:Jw 0 ((([]:List Node).length:Nat):Int)=false:=rfl;obtain rfl:pu=[]:=cJ (by unfold Gk;omega)
   have Qbj:prTs ks=ks.map (fun z=>z.root.label++[32,61,32]++Bg z):=by
    rw [Dx];exact List.map_congr_left fun z hz=>by
     have h1:=zK rfl z hz;rw [Zfk,tW (fun h=>h.elim h1.1 h1.2)]
   have Qj:[123]++(W8 [44,32] true (ks.map (fun z=>z.root.label++[32,61,32]++Bg z))++[125])=R:=by rw [←hR,Qbj];simp [Q5]
   have Qb:(out.map (enc:List UInt8→D)).length=ks.length:=by rw [Qn,Cm]
   have Kq:KgQ:=⟨⟩;exact rT
  ·obtain rfl:pt=[]:=eB (by unfold Gl;omega)
   have Jk:Jw 0 ((([]:List Node).length:Nat):Int)=false:=rfl;obtain rfl:pu=[]:=cJ (by unfold Gk;omega)
   have Q6:ks.length=1:=by rw [Wa];simp [Xj,Qu]
   obtain ⟨a,rfl⟩:∃ a,ks=[a]:=by
    match ks,Q6 with
    | [a],_=>exact ⟨a,rfl⟩
   have Nh:=J4 (R7 (by omega) a (by simp))
   obtain ⟨A,hA⟩:=exq (Bg a);rw [hA] at Nh;have Wd:out=[A]:=by rw [Wp];simp [hA]
   have Qi:el (out.map (enc:List UInt8→D)) 0=.str A:=by rw [Wd];rfl
   have lF:out.length=1:=by rw [Cm];rfl
   have Qo:(out.map (enc:List UInt8→D)).length=1:=by rw [Qn,Cm];rfl
   have Xm:=Ut (by simp)
   have Zz:A++[46]++nm=R:=by rw [←hR];simp [Q5,Xz,Jf,prTs,Nh,Xm]
   have Ly:=congrArg List.length Zz;try simp only [Zb,Zd,List.length_nil] at Ly
   ((try clear hR);(try clear Xs);(try clear aB);(try clear hd);(try clear fY);(try clear eB);(try clear vS);(try clear cJ);(try clear zB);(try clear zK);(try clear R7);(try clear Ni);(try clear Ut);(try clear H6);(try clear Yq);(try clear Wo);(try clear Yp);(try clear U4);(try clear V7);(try clear Yr);(try clear Wa);(try clear Q6);(try clear Ck);(try clear Co);(try clear Wp);(try clear Wd);(try clear Xm);(try clear X8);(try clear Y7);(try clear Y1);(try clear Ge);(try clear hx);(try clear vL))
   have Kq:KgU:=⟨⟩;exact rT
  ·have Wj:TyOk pt:=fY (by unfold Gl;omega)
   have Jl:Jw 0 (pt.length:Int)=true:=by rw [Je];have:=Hm Wj;omega
   obtain rfl:pu=[]:=cJ (by unfold Gk;omega)
   have Jk:Jw 0 ((([]:List Node).length:Nat):Int)=false:=rfl;have Q6:ks.length=1:=by rw [Wa];simp [Xj,Qu]
   obtain ⟨a,rfl⟩:∃ a,ks=[a]:=by
    match ks,Q6 with
    | [a],_=>exact ⟨a,rfl⟩
   have Nh:=J4 (R7 (by omega) a (by simp))
   obtain ⟨A,hA⟩:=exq (Bg a);rw [hA] at Nh;have Wd:out=[A]:=by rw [Wp];simp [hA]
   have Qi:el (out.map (enc:List UInt8→D)) 0=.str A:=by rw [Wd];rfl
   have lF:out.length=1:=by rw [Cm];rfl
   have Qo:(out.map (enc:List UInt8→D)).length=1:=by rw [Qn,Cm];rfl
   have Xm:=Ut (by simp)
   have Y1:=Wz Wj;rw [Js] at Y1;have Zz:[91]++nm++[32,61,32]++A++[58,32]++T1++[93]=R:=by rw [←hR];simp [Q5,Xz,Jf,prTs,Nh,Xm,Js,Y1]
   have Ly:=congrArg List.length Zz;try simp only [Zb,Zd,List.length_nil] at Ly
   ((try clear hR);(try clear Xs);(try clear aB);(try clear hd);(try clear fY);(try clear eB);(try clear vS);(try clear cJ);(try clear zB);(try clear zK);(try clear R7);(try clear Ni);(try clear Ut);(try clear H6);(try clear Yq);(try clear Wo);(try clear Yp);(try clear U4);(try clear V7);(try clear Yr);(try clear Wa);(try clear Q6);(try clear Ck);(try clear Co);(try clear Wp);(try clear Wd);(try clear Xm);(try clear X8);(try clear Y7);(try clear Y1);(try clear Ge);(try clear hx);(try clear vL))
   have Kq:KgV:=⟨⟩;exact rT
  ·have Wj:TyOk pt:=fY (by unfold Gl;omega)
   have Jl:Jw 0 (pt.length:Int)=true:=by rw [Je];have:=Hm Wj;omega
   obtain rfl:pu=[]:=cJ (by unfold Gk;omega)
   have Jk:Jw 0 ((([]:List Node).length:Nat):Int)=false:=rfl;have Q6:ks.length=1:=by rw [Wa];simp [Xj,Qu]
   obtain ⟨a,rfl⟩:∃ a,ks=[a]:=by
    match ks,Q6 with
    | [a],_=>exact ⟨a,rfl⟩
   have Nh:=J4 (R7 (by omega) a (by simp))
   obtain ⟨A,hA⟩:=exq (Bg a);rw [hA] at Nh;have Wd:out=[A]:=by rw [Wp];simp [hA]
   have Qi:el (out.map (enc:List UInt8→D)) 0=.str A:=by rw [Wd];rfl
   have lF:out.length=1:=by rw [Cm];rfl
   have Qo:(out.map (enc:List UInt8→D)).length=1:=by rw [Qn,Cm];rfl
   have Y1:=Wz Wj;rw [Js] at Y1;have Zz:[40]++A++[58,32]++T1++[41]=R:=by rw [←hR];simp [Q5,Xz,Jf,prTs,Nh,Js,Y1]
   have Ly:=congrArg List.length Zz;try simp only [Zb,Zd,List.length_nil] at Ly
   ((try clear hR);(try clear Xs);(try clear aB);(try clear hd);(try clear fY);(try clear eB);(try clear vS);(try clear cJ);(try clear zB);(try clear zK);(try clear R7);(try clear Ni);(try clear Ut);(try clear H6);(try clear Yq);(try clear Wo);(try clear Yp);(try clear U4);(try clear V7);(try clear Yr);(try clear Wa);(try clear Q6);(try clear Ck);(try clear Co);(try clear Wp);(try clear Wd);(try clear Xm);(try clear X8);(try clear Y7);(try clear Y1);(try clear Ge);(try clear hx);(try clear vL))
   have Kq:KgW:=⟨⟩;exact rT
  ·have Wj:TyOk pt:=fY (by unfold Gl;omega)
   have Jl:Jw 0 (pt.length:Int)=true:=by rw [Je];have:=Hm Wj;omega
   have Vp:TyOk pu:=vS (by unfold Gk;omega)
   have Qq:Jw 0 (pu.length:Int)=true:=by rw [Je];have:=Hm Vp;omega
   have Q6:ks.length=1:=by rw [Wa];simp [Xj,Qu]
   obtain ⟨a,rfl⟩:∃ a,ks=[a]:=by
    match ks,Q6 with
    | [a],_=>exact ⟨a,rfl⟩
   have Nh:=J4 (R7 (by omega) a (by simp))
   obtain ⟨A,hA⟩:=exq (Bg a);rw [hA] at Nh;have Wd:out=[A]:=by rw [Wp];simp [hA]
   have Qi:el (out.map (enc:List UInt8→D)) 0=.str A:=by rw [Wd];rfl
   have lF:out.length=1:=by rw [Cm];rfl
   have Qo:(out.map (enc:List UInt8→D)).length=1:=by rw [Qn,Cm];rfl
   have Y1:=Wz Wj;rw [Js] at Y1;have Ge:=Wz Vp;rw [Qe] at Ge;have Zz:[60]++A++[58,32]++T1++[32,61,62,32]++U1++[62]=R:=by rw [←hR];simp [Q5,Xz,Jf,prTs,Nh,Js,Y1,Qe,Ge]
   have Ly:=congrArg List.length Zz;try simp only [Zb,Zd,List.length_nil] at Ly
   ((try clear hR);(try clear Xs);(try clear aB);(try clear hd);(try clear fY);(try clear eB);(try clear vS);(try clear cJ);(try clear zB);(try clear zK);(try clear R7);(try clear Ni);(try clear Ut);(try clear H6);(try clear Yq);(try clear Wo);(try clear Yp);(try clear U4);(try clear V7);(try clear Yr);(try clear Wa);(try clear Q6);(try clear Ck);(try clear Co);(try clear Wp);(try clear Wd);(try clear Xm);(try clear X8);(try clear Y7);(try clear Y1);(try clear Ge);(try clear hx);(try clear vL))
   have Kq:KgX:=⟨⟩;exact rT):p:=h
theorem step_printed5 (n:Nat) (ih:Jd Tryz.prog (42,Ws n)):Jd Tryz.prog (42,(Ws (n+1))):=by
 obtain ⟨Kx,Kt,Kc,Kd,Kb,Ku,Kw,K,Y0,Xr,eV,kB,_⟩:=Yc Qp Z0 [] false (Xu good_Kids5 Nv.eq_def (Xu good_Print3 Ca.eq_def (Xu Zda Oz.eq_def (Xu ih (Ws.eq_def n) Yb))));have Ko:=(Ws.eq_def (n+1));refine Ve K Tryz.func42 [.tmp 4] rfl 278 rfl (fun c Zz J0 Zo=>?_);unfold Ws at Zo;obtain ⟨⟨t⟩,i,rfl,Zki,Zio,x,hx,vL,X5,Zd9⟩:=Jh Zo;simp only at Zki hx;obtain ⟨i,rfl⟩:∃ m:Nat,i=m:=⟨i.toNat,by omega⟩
 rw [Zp] at hx;have Qco:=Xp hx;have X4:=Iz hx;have Bk:=hx.lt;have vA:=Zki.1;have Q2:=Qc e0 Bk;rw [hx.root e0] at Q2;have Qby:Aj .i64 (i:Int):=by rw [Xx];omega
 obtain ⟨Xs,Wa⟩:=hx.kids;obtain ⟨p,ks⟩:=x;simp only [root,kids] at Q2 Xs Wa X4;obtain ⟨hd,aB⟩:=X5;obtain ⟨R,hR⟩:=exq (Bg (mk p ks));have Q7:Bg (Vs Xj t i)=R:=by rw [Qco,hR]
 have Qbv:∀ k,(hk:k<ks.length)→(Bg ks[k]).length≤R.length:=fun k hk=>by rw [←hR];exact Zjf hd Wa hk
 rw [hR] at Zd9;have Co:∀ k,k<ks.length→(Vn t (i:Int)).getD k 0=((i+1+(ndss (ks.take k)).length:Nat):Int):=fun k hk=>by rw [X4];exact P2 hk
 have Qx:(Vn t (i:Int)).length=ks.length:=by rw [X4,N9]
 obtain ⟨L,Qz⟩:=exq (Vn t (i:Int));rw [Qz] at Co Qx;have Mg:ks.length≤100000:=by
  have:=(sO hx);omega
 have Ck:∀ z,z∈ks→(nds z).length<n:=fun z hz=>by
  have:=Hs hz;rw [Jt,Zd] at vL;omega
 clear Zo Zio X4 Qco;obtain ⟨pk,lb,nm,bd,pm,pq,pt,pu⟩:=p;obtain ⟨⟨V7,Yr⟩,Ni,Ut,H6,Yq,Wo,Yp,U4⟩:=hd.ok;have fY:=hd.t1;have eB:=hd.t0;have vS:=hd.u1;have cJ:=hd.u0;have zB:=hd.li;have zK:=hd.la;have R7:=hd.ln;simp only at V7 Yr Ut H6 Yq fY eB vS cJ zB zK R7;rw [wL] at hR;obtain ⟨T1,Js⟩:=exq (eE pt);obtain ⟨U1,Qe⟩:=exq (eE pu);cases Zz;refine Ym 17 ?_;have Kq:KgB:=⟨⟩;exact rT
theorem D9:∀ n,Jd Tryz.prog (42,Ws n)
 | 0=>bM (J6 Tryz.func42 (by kernel_rfl) rfl) Ox
 | n+1=>step_printed5 n (D9 n)
noncomputable def Ls:Con:=Ws 2000000
theorem jX:Jd Tryz.prog (42,Ls):=D9 _
def Qa9 (l:List Part):Prop:=Me l∧∃ x,l=nds x∧wf Xj x∧OkT x∧(Bg x).length≤1000000000
noncomputable def Zck (l:List Part):List UInt8:=Bg (Vs Xj l 0)
noncomputable def T9:Con:=Xh (fun (e:Sl Part)=>Qa9 e.l) (fun e=>Zck e.l)
theorem tO:Jd Tryz.prog (22,T9):=by
 obtain ⟨Kx,Kt,Kc,Kd,Kb,Ku,Kw,K,Y0,_⟩:=Yc Qp Z0 [] false (Xu jX Ls.eq_def Yb);have Ko:=T9.eq_def;refine Ve K Tryz.func22 [.tmp 2] rfl 5 rfl (fun c hc J0 Zo=>?_);unfold T9 at Zo;obtain ⟨⟨t⟩,rfl,ht⟩:=Qs Zo;simp only at ht;clear Zo;obtain ⟨Zki,x,hx,hw,X5,Z8⟩:=ht;obtain ⟨S,Qz⟩:=exq (Zck t);have eC:At Xj t 0 x:=by rw [hx];exact Yz hw
 have Q2:Bg (Vs Xj t 0)=S:=Qz;have Qel:(nds x).length=t.length:=by rw [hx]
 have vA:=Zki.1;have hp:∃ x,At Xj t 0 x∧(nds x).length<2000000∧OkT x∧(Bg x).length≤1000000000:=⟨x,eC,by omega,X5,Z8⟩
 have Qx:(0:Int).toNat=0:=rfl;cases hc;have Ql:=@Ls.eq_def;have Q3:=@Ws.eq_def;exact Ng
def Cz (P:List Int) (k:Nat):List D:=(P.take k).map enc++List.replicate (P.length-k) (.int .i64 0)
theorem Zjk {P:List Int}:Cz P 0=List.replicate P.length (.int .i64 0):=by simp [Cz]
theorem nR {P:List Int} {k:Nat} (h:k≤P.length):(Cz P k).length=P.length:=by
 simp [Cz];omega
theorem Zdj {P:List Int}:Cz P P.length=P.map enc:=by simp [Cz]
theorem Zdi {P:List Int} {k:Nat} (h:k<P.length):(Cz P k).set k (.int .i64 (P.getD k 0))=Cz P (k+1):=by
 have hp:P.getD k 0=P[k]:=by simp [h]
 have e1:P.length-k=(P.length-(k+1))+1:=by omega
 have e2:((P.take k).map (enc:Int→D)).length=k:=by simp;omega
 unfold Cz;rw [e1,List.replicate_succ,List.set_append_right k _ (by omega),e2,Nat.sub_self,Jr,List.take_succ_eq_append_getElem h,List.map_append,List.append_assoc,hp]
 rfl
theorem Zgv {P:List Int} {k:Nat} (h:k<P.length):el (Cz P k) k=.int .i64 0:=by
 unfold Cz el;have e2:((P.take k).map (enc:Int→D)).length=k:=by simp;omega
 rw [Zk,List.getElem?_append_right (by omega),e2,Nat.sub_self]
 rw [show P.length-k=(P.length-k-1)+1 by omega,List.replicate_succ]
 rfl
def Si:Con:=Vx (fun (t:Sl Part) (i:Int)=>Me t.l∧Aj .i64 i∧cZ t.l i) (fun t i=>Sl.mk (Vn t.l i))
class KgZ:Prop
theorem KgZ.k (_:KgZ) (h:p:=by
 first|exact hT|exact Zei|exact ⟨k+1,by exact Xa,by omega,by omega⟩|skip):p:=h
class KgY:Prop
theorem KgY.k (_:KgY) (h:p:=by
 first|exact Zxx|skip
 refine Z4 [7,27,28,29,30,31,32,33,34,35,36] (fun k:Nat=>[(26,.d (.int .i64 k)),(6,.d (.int .i64 (i+1+(ndss (x.kids.take k)).length:Nat)))]) (fun k:Nat=>[(21,.row 1 (Cz R k) 0)]) (fun k:Nat=>k≤R.length) (fun k:Nat=>R.length-k) 0 ?_ ?_ ?_
 ·omega
 ·have Zuq:=Zem;have Zup:=@ndss.eq_1;have Zuo:=@ndss.eq_2;exact Xa
 rintro k hk;have Jl:=nR hk;rcases Qh k R.length with ⟨h2,Ji⟩|⟨h2,Ji⟩
 ·have Js:=Zgv h2;have Q7:=Zdi h2;rw [eC k h2] at Q7;have Qib:=nR (P:=R) (k:=k+1) h2;have Az:k<x.kids.length:=by omega
  have ha:=aY Xs Az;have Zz:=fG ha;have fJ:i+1+(ndss (x.kids.take k)).length+(nds x.kids[k]).length=i+1+(ndss (x.kids.take (k+1))).length:=by
   rw [List.take_succ_eq_append_getElem Az,Yl,Zb];simp [ndss];omega
  rw [fJ] at Zz;have Zyr:=ha.lt;obtain ⟨q,Jk⟩:=exq (i+1+(ndss (x.kids.take k)).length);rw [Jk] at Q7 Zz ha Zyr;have Zei:cZ t ((q:Nat):Int):=fun _ _=>⟨_,by rw [Zp];exact ha⟩
  have Kq:KgZ:=⟨⟩;exact Qa
 ·have Yg:k=R.length:=by omega
  subst Yg;have Qi:=Zdj (P:=R);exact Ng):p:=h
theorem good_KidsA:Jd Tryz.prog (19,Si):=by
 obtain ⟨Kx,Kt,Kc,Kd,Kb,Ku,Kw,K,Y0,Xr,_⟩:=Yc Qp Z0 [] false (Xu Tk Ns.eq_def (Xu good_EndA Sm.eq_def Yb));have Ko:=Si.eq_def;refine Ve K Tryz.func19 [.tmp 4] rfl 38 rfl (fun c hc J0 Zo=>?_);unfold Si at Zo;obtain ⟨⟨t⟩,i,rfl,⟨ht,hm⟩,hi,hx⟩:=Jh Zo;simp only at ht hm hx;have hT:Me t:=⟨ht,hm⟩;rw [Xx] at hi;clear Zo;obtain ⟨R,Q2⟩:=exq (Vn t i);have Qj:=Q2;unfold Vn at Qj;cases hc;refine Ym 2 ?_;rcases Ub i 0 with ⟨h0,Qz⟩|⟨h0,Qz⟩
 ·rw [if_pos (.inl h0)] at Qj;subst Qj;exact Ng
 rcases G9 t.length i.toNat with ⟨h1,Qx⟩|⟨h1,Qx⟩
 ·rw [if_pos (.inr (by omega))] at Qj
  subst Qj;rw [show ((i.toNat:Nat):Int)=i by omega] at Qx
  exact Ng
 obtain ⟨x,hx⟩:=hx (by omega) (by omega)
 obtain ⟨i,rfl⟩:∃ n:Nat,i=n:=⟨i.toNat,by omega⟩
 simp only [Zp] at hx h1 Qx;have Db:R=Uz (i+1) x.kids:=by rw [←Q2];exact Iz hx
 obtain ⟨Xs,Wa⟩:=hx.kids;have h1:i<t.length:=by omega
 have Ql:=Qc e0 h1;rw [hx.root e0] at Ql;obtain ⟨y,hy⟩:=exq (x.root);rw [hy] at Ql Wa;have Qbp:=hm y (by rw [←hy,←hx.root e0];simp [h1])
 have Zxx:=Qbp.2.2;have hP:R.length=x.kids.length:=by rw [Db,N9]
 have Q3:Qu y=((R.length:Nat):Int):=by rw [Yu y,hP,Wa]
 have Qi7:R.length≤60:=by have:=Qbp.2.1;omega
 have eC:∀ k,k<R.length→R.getD k 0=((i+1+(ndss (x.kids.take k)).length:Nat):Int):=fun k hk=>by rw [Db];exact P2 (by omega)
 have Zem:=Zjk (P:=R);have Kq:KgY:=⟨⟩;exact Qa
open Go.Proofs
namespace Gr
end Gr
section
variable {α β:Type} [BEq α]
def Uv (x:α):List α→Bool
 | []=>false
 | y::l=>(x==y)||Uv x l
def Zgr (x:α) (z:β):List α→List β→β
 | y::ks,v::vs=>cond (x==y) v (Zgr x z ks vs)
 | _,_=>z
def Ha (x:α) (ks:List α):List α:=cond (Uv x ks) ks (ks++[x])
def tR (x:α) (v:β):List α→List β→List β
 | y::ks,u::vs=>cond (x==y) (v::vs) (u::tR x v ks vs)
 | _,_=>[v]
theorem nF {x y:α}:∀ {l:List α},Uv x (l++[y])=(Uv x l||(x==y))
 | []=>by simp [Uv]
 | z::l=>by simp only [List.cons_append,Uv,nF (l:=l),Bool.or_assoc]
variable [LawfulBEq α]
theorem Zgq {x y:α} {ks:List α}:Uv x (Ha y ks)=(Uv x ks||(x==y)):=by
 unfold Ha;cases h:Uv y ks with
 | false=>rw [cond_false,nF]
 | true =>
  rw [cond_true];cases Zvd:(x==y) with
  | false=>rw [Bool.or_false]
  | true=>rw [eq_of_beq Zvd,h];rfl
end
theorem Zu5 {x y:List UInt8}:D.eqb (.str x) (.str y)=(x==y):=rfl
theorem Pf:∀ {ks:List (List UInt8)},Uc .str (ks.map enc)=True
 | []=>rfl
 | k::ks=>by
  show (True∧Uc .str (ks.map enc))=True;rw [Pf,true_and]
theorem Zfz {x:List UInt8}:∀ {ks:List (List UInt8)},L9 (.str x) (ks.map enc)=Uv x ks
 | []=>rfl
 | k::ks=>by
  show (D.eqb (.str x) (.str k)||L9 (.str x) (ks.map enc))=_;rw [Zfz,Zu5,Uv]
theorem Zi5 {x:List UInt8} {ks:List (List UInt8)}:dE (.str x) (ks.map enc)=(Ha x ks).map enc:=by
 unfold dE Ha;rw [Zfz];cases Uv x ks
 ·simp only [cond_false,List.map_append,List.map_cons,List.map_nil];rfl
 ·rfl
open Go.Proofs
open Enc (enc dec)
theorem qD:aZ 1 [90000]:=fun j hj=>by
 have:j=0:=by omega
 subst this;rfl
theorem Zbb:aZ 0 []:=fun j hj=>by omega
def lQ (v:List UInt8) (x:List UInt8):Bool:=v==x
abbrev Qba:=Option (List (List UInt8))×List UInt8
def Zz4:Option (List (List UInt8))→AV
 | none=>.nils 1
 | some l=>.sl 90000 l.length
def Zi2:Option (List (List UInt8))→List Obj
 | none=>[]
 | some l=>[.row 1 (l.map enc) 0]
def Hr:Option (List (List UInt8))→List (List UInt8)
 | none=>[]
 | some l=>l
def Uf:BCon where
 X:=Qba
 ok:=fun p=>(Hr p.1).length≤1000000000
 args:=fun p=>[Zz4 p.1,.d (.str p.2)]
 objs:=fun p=>Zi2 p.1
 res:=fun p=>.int .i64 (I6 (lQ p.2) (Hr p.1))
 post:=fun p=>Zi2 p.1
class Khb:Prop
theorem Khb.k (_:Khb) (h:p:=by
 first|exact ⟨[],by simp,rfl,Zbb⟩|skip):p:=h
class Kha:Prop
theorem Kha.k (_:Kha) (h:p:=by
 refine Z4 [4,5,9,10,11,12,13,14,15,16,17,18] (fun k:Nat=>[(8,.d (.int .i64 k))]) (fun k:Nat=>[]) (fun k:Nat=>k=0) (fun k:Nat=>0) 0 ?_ ?_ ?_
 ·rfl
 ·exact Xa
 rintro k rfl;have Kq:Khb:=⟨⟩;exact Qa):p:=h
class Khd:Prop
theorem Khd.k (_:Khd) (h:p:=by
 first|exact ⟨k+1,by exact Xa,by omega,h2,by omega⟩|skip):p:=h
class Khe:Prop
theorem Khe.k (_:Khe) (h:p:=by
 first|exact ⟨[90000],by simp,rfl,qD,rfl,trivial⟩|skip):p:=h
class Khf:Prop
theorem Khf.k (_:Khf) (h:p:=by
 first|exact ⟨[90000],by simp,rfl,qD,rfl,trivial⟩|skip):p:=h
class Khc:Prop
theorem Khc.k (_:Khc) (h:p:=by
 refine Z4 [4,5,9,10,11,12,13,14,15,16,17,18] (fun k:Nat=>[(8,.d (.int .i64 k))]) (fun k:Nat=>[]) (fun k:Nat=>k≤l.length∧∀ j,j<k→lQ v (l.getD j [])=false) (fun k:Nat=>l.length-k) 0 ?_ ?_ ?_
 ·simp
 ·exact Xa
 rintro k ⟨hk,Y3⟩;rcases Qh k l.length with ⟨Qg,Qx⟩|⟨Qg,Qx⟩
 ·have Ql:=Qc ([]:List UInt8) Qg;have Us:lQ v (l.getD k [])=false→∀ j,j<k+1→lQ v (l.getD j [])=false:=fun h=>Nf Y3 h;have C3:lQ v (l.getD k [])=true→I6 (lQ v) l=k:=fun h=>pR [] Qg Y3 h;obtain ⟨y,hy⟩:=exq (l.getD k []);rw [hy] at Ql Us C3;cases hs:lQ v y with
  | false =>
   have h2:=Us hs;have Q3:(v==y)=false:=hs;have Kq:Khd:=⟨⟩;exact Qa
  | true =>
   have Q2:=C3 hs;have Q3:(v==y)=true:=hs;have Kq:Khe:=⟨⟩;exact Qa
 ·have Q2:=bH (p:=lQ v) (l:=l) [] (fun j hj=>Y3 j (by omega))
  have Kq:Khf:=⟨⟩;exact Qa):p:=h
theorem goodb_indexSt:X9 Tryz.prog (69,Uf):=by
 obtain ⟨Kx,Kt,Kc,Kd,Kb,Ku,Kw,K,_⟩:=Yc Qp Z0 [] false Yb;refine bR K Tryz.func69 [.tmp 4] rfl 19 rfl (fun c hc x X5=>?_);obtain ⟨o,v⟩:=x
 change (Hr o).length≤1000000000 at X5
 cases o with
 | none =>
  refine ⟨?_,?_,?_,?_,?_⟩
  ·show Xg [.nils 1,.d (.str v)] [];simp [Xg,Jp,Obj.tied,Zr,keptAll,AV.kept,Zq,Jv,lk]
  ·show Zr [];simp [Zr]
  ·show Xg [] [];simp [Xg,Jp,Obj.tied,Zr,keptAll,AV.kept,Zq,Jv,lk]
  ·exact Zl _
  ·show U6 _ _ (V5 _ _ 0 (.int .i64 (I6 (lQ v) [])) []) ⟨[.nils 1,.d (.str v)]++Vf 17,Zq []⟩;have Qz:Jw (0:Int) 0=false:=rfl;have Q2:I6 (lQ v) ([]:List (List UInt8))=-1:=rfl;cases hc;have Kq:Kha:=⟨⟩;exact Qa
 | some l =>
  change l.length≤1000000000 at X5
  refine ⟨?_,?_,?_,?_,?_⟩
  ·show Xg [.sl 90000 l.length,.d (.str v)] [.row 1 (l.map enc) 0];simp [Xg,Jp,Obj.tied,Zr,keptAll,AV.kept,Zq,Jv,lk]
  ·show Zr [.row 1 (l.map enc) 0];simp [Zr]
  ·show Xg [] [.row 1 (l.map enc) 0];simp [Xg,Jp,Obj.tied,Zr,keptAll,AV.kept,Zq,Jv,lk]
  ·exact Zl _
  ·show U6 _ _ (V5 _ _ [Obj.row 1 (l.map (enc:List UInt8→D)) 0].length (.int .i64 (I6 (lQ v) l)) [Obj.row 1 (l.map enc) 0]) ⟨[.sl 90000 l.length,.d (.str v)]++Vf 17,Zq [Obj.row 1 (l.map enc) 0]⟩;cases hc;have Kq:Khc:=⟨⟩;exact Qa
def X7:BCon where
 X:=Qba
 ok:=fun p=>(Hr p.1).length≤1000000000
 args:=fun p=>[Zz4 p.1,.d (.str p.2)]
 objs:=fun p=>Zi2 p.1
 res:=fun p=>.bool ((Hr p.1).any (lQ p.2))
 post:=fun p=>Zi2 p.1
class Khh:Prop
theorem Khh.k (_:Khh) (h:p:=by
 first|exact ⟨[],by simp,rfl,Zbb⟩|skip):p:=h
class Khg:Prop
theorem Khg.k (_:Khg) (h:p:=by
 refine Zm (bc:=Uf) (none,v) [] X5 rfl (by simp) rfl ?_ ?_ ?_
 ·exact trivial
 ·exact trivial
 have Kq:Khh:=⟨⟩;exact Qa):p:=h
class Khj:Prop
theorem Khj.k (_:Khj) (h:p:=by
 first|exact ⟨[90000],by simp,rfl,qD,rfl,trivial⟩|skip):p:=h
class Khi:Prop
theorem Khi.k (_:Khi) (h:p:=by
 refine Zm (bc:=Uf) (some l,v) [90000] X5 rfl (by simp) rfl ?_ ?_ ?_
 ·show Ze _ _ [Obj.row 1 (l.map (enc:List UInt8→D)) 0] _;simp [Ze,lk,Q4,rnA,rnAs,rk]
 ·exact trivial
 have Kq:Khj:=⟨⟩;exact Qa):p:=h
theorem goodb_containsSt:X9 Tryz.prog (45,X7):=by
 obtain ⟨Kx,Kt,Kc,Kd,Kb,Ku,Kw,K,Y0,_⟩:=Yc Qp Z0 [] false (A6 goodb_indexSt Uf.eq_def Yb);refine bR K Tryz.func45 [.tmp 4] rfl 9 rfl (fun c hc x X5=>?_);obtain ⟨o,v⟩:=x
 change (Hr o).length≤1000000000 at X5
 have Qx:=iT (p:=lQ v) (l:=Hr o);obtain ⟨R,hR⟩:=exq (I6 (lQ v) (Hr o));have Q2:Uf.res (o,v)=.int .i64 R:=by rw [←hR];rfl
 rw [hR] at Qx;obtain ⟨B,hB⟩:=exq ((Hr o).any (lQ v));rw [hB] at Qx;cases o with
 | none =>
  have Qz:Uf.post (none,v)=[]:=rfl;refine ⟨?_,?_,?_,?_,?_⟩
  ·show Xg [.nils 1,.d (.str v)] [];simp [Xg,Jp,Obj.tied,Zr,keptAll,AV.kept,Zq,Jv,lk]
  ·show Zr [];simp [Zr]
  ·show Xg [] [];simp [Xg,Jp,Obj.tied,Zr,keptAll,AV.kept,Zq,Jv,lk]
  ·exact Zl _
  ·show U6 _ _ (V5 _ _ 0 (.bool ((Hr none).any (lQ v))) []) ⟨[.nils 1,.d (.str v)]++Vf 7,Zq []⟩;rw [hB];cases hc;have Kq:Khg:=⟨⟩;exact Qa
 | some l =>
  have Qz:Uf.post (some l,v)=[.row 1 (l.map enc) 0]:=rfl;refine ⟨?_,?_,?_,?_,?_⟩
  ·show Xg [.sl 90000 l.length,.d (.str v)] [.row 1 (l.map enc) 0];simp [Xg,Jp,Obj.tied,Zr,keptAll,AV.kept,Zq,Jv,lk]
  ·show Zr [.row 1 (l.map enc) 0];simp [Zr]
  ·show Xg [] [.row 1 (l.map enc) 0];simp [Xg,Jp,Obj.tied,Zr,keptAll,AV.kept,Zq,Jv,lk]
  ·exact Zl _
  ·show U6 _ _ (V5 _ _ [Obj.row 1 (l.map (enc:List UInt8→D)) 0].length (.bool ((Hr (some l)).any (lQ v))) [Obj.row 1 (l.map enc) 0]) ⟨[.sl 90000 l.length,.d (.str v)]++Vf 7,Zq [Obj.row 1 (l.map enc) 0]⟩;rw [hB];cases hc;have Kq:Khi:=⟨⟩;exact Qa
open Go.Proofs Go.Rose Go.Rose.Rose Gr
def Rb (C:List (List UInt8)):List Bool:=C.map fun _=>true
theorem Is {x:List UInt8} {v:Bool}:∀ {ks:List (List UInt8)} {vs:List Bool},Bt (.str x) (.bool v) (ks.map enc) (vs.map enc)=(tR x v ks vs).map enc
 | [],_=>rfl
 | y::ks,[]=>rfl
 | y::ks,z::vs=>by
  show cond (D.eqb (.str x) (.str y)) (.bool v::vs.map enc) (enc z::Bt (.str x) (.bool v) (ks.map enc) (vs.map enc))=(cond (x==y) (v::vs) (z::tR x v ks vs)).map enc;rw [Is,show D.eqb (.str x) (.str y)=(x==y) from rfl];cases x==y<;>rfl
theorem E4 {x:List UInt8}:∀ {S:List (List UInt8)},tR x true S (Rb S)=Rb (Ha x S)
 | []=>rfl
 | y::S=>by
  show cond (x==y) (true::Rb S) (true::tR x true S (Rb S))=Rb (Ha x (y::S));rw [E4];unfold Ha;show _=Rb (cond ((x==y)||Uv x S) (y::S) (y::S++[x]));cases x==y
  ·cases Uv x S<;>rfl
  ·rfl
def Dz (p:Part) (k:Nat) (b:List (List UInt8)):List (List UInt8) :=
 if p.kind=2∨p.kind=8∨(p.kind=4∧k=1) then b++[p.bind] else if p.kind=5 then (if k=0 then b++[p.name,p.bind] else b++[p.name]) else b
mutual
def partT:Rose Part→List (List UInt8)→List (List UInt8)→List (List UInt8)
 | mk p ks,b,S=>if p.kind=1 then (if A5 b p.name=true then S else Ha p.name S) else partTs p ks 0 b S
def partTs (p:Part):List (Rose Part)→Nat→List (List UInt8)→List (List UInt8)→List (List UInt8)
 | [],_,_,S=>S
 | x::xs,k,b,S=>partTs p xs (k+1) b (partT x (Dz p k b) S)
end
mutual
def hasB:Rose Part→Bool
 | mk p ks=>(p.kind==2||p.kind==8||p.kind==4||p.kind==5)||hasBs ks
def hasBs:List (Rose Part)→Bool
 | []=>false
 | x::xs=>hasB x||hasBs xs
end
theorem nE {x:List UInt8} {S:List (List UInt8)}:(Ha x S).length≤S.length+1:=by
 unfold Ha;cases Uv x S<;>simp
mutual
theorem partT_len:∀ (x:Rose Part) (b S:List (List UInt8)),(partT x b S).length≤S.length+(nds x).length
 | mk p ks,b,S=>by
  rw [partT,Jt,Zd];split
  ·split
   ·omega
   ·have:=nE (x:=p.name) (S:=S);omega
  ·have:=partTs_len p ks 0 b S;omega
theorem partTs_len (p:Part):∀ (xs:List (Rose Part)) (k:Nat) (b S:List (List UInt8)),(partTs p xs k b S).length≤S.length+(ndss xs).length
 | [],_,_,_=>by simp [partTs,ndss]
 | x::xs,k,b,S=>by
  have h1:=partT_len x (Dz p k b) S;have h2:=partTs_len p xs (k+1) b (partT x (Dz p k b) S);rw [partTs,ndss,Zb];omega
end
structure PX where
 t:List Part
 i:Nat
 bd:Option (List (List UInt8))
 S:List (List UInt8)
noncomputable def PX.x (a:PX):Rose Part:=Vs Xj a.t a.i
def PX.Ok (n m:Nat) (a:PX):Prop:=Me a.t∧∃ y,At Xj a.t a.i y∧(nds y).length<n∧(Hr a.bd).length+m+2*(nds y).length≤900000∧a.S.length+(nds y).length≤900000
def pN (t:List Part) (i:Nat) (S:List (List UInt8)):List Obj:=[.box false [.d (.list 8 (t.map enc))],.box false [.d (.int .i64 i)],.box false [.nils 1],.box false [.mpr 90006],.box false [.clo 43 [.ref 90002 0,.ref 90005 0]],.box false [.clo 44 [.ref 90000 0,.ref 90001 0,.ref 90002 0,.ref 90003 0,.ref 90004 0,.ref 90005 0]],.mp (S.map enc) ((Rb S).map enc) false]
def pB (t:List Part) (i:Nat) (b:List (List UInt8)) (S:List (List UInt8)):List Obj:=[.box false [.d (.list 8 (t.map enc))],.box false [.d (.int .i64 i)],.box false [.sl 90007 b.length],.box false [.mpr 90006],.box false [.clo 43 [.ref 90002 0,.ref 90005 0]],.box false [.clo 44 [.ref 90000 0,.ref 90001 0,.ref 90002 0,.ref 90003 0,.ref 90004 0,.ref 90005 0]],.mp (S.map enc) ((Rb S).map enc) false,.row 1 (b.map enc) 0]
def pM (t:List Part) (i:Nat) (b:List (List UInt8)) (S:List (List UInt8)):List Obj:=[.box false [.d (.list 8 (t.map enc))],.box false [.d (.int .i64 i)],.box false [.sl 90008 b.length],.box false [.mpr 90006],.box false [.clo 43 [.ref 90002 0,.ref 90005 0]],.box false [.clo 44 [.ref 90000 0,.ref 90001 0,.ref 90002 0,.ref 90003 0,.ref 90004 0,.ref 90005 0]],.mp (S.map enc) ((Rb S).map enc) false,.gone,.row 1 (b.map enc) 0]
def wN (t:List Part) (i:Nat) (ns:List (List UInt8)) (S:List (List UInt8)):List Obj:=[.row 1 (ns.map enc) 0,.box false [.nils 1],.box false [.clo 44 [.ref 90003 0,.ref 90004 0,.ref 90001 0,.ref 90005 0,.ref 90006 0,.ref 90002 0]],.box false [.d (.list 8 (t.map enc))],.box false [.d (.int .i64 i)],.box false [.mpr 90007],.box false [.clo 43 [.ref 90001 0,.ref 90002 0]],.mp (S.map enc) ((Rb S).map enc) false]
def wB (t:List Part) (i:Nat) (b:List (List UInt8)) (ns:List (List UInt8)) (S:List (List UInt8)):List Obj:=[.row 1 (ns.map enc) 0,.box false [.sl 90008 b.length],.box false [.clo 44 [.ref 90003 0,.ref 90004 0,.ref 90001 0,.ref 90005 0,.ref 90006 0,.ref 90002 0]],.box false [.d (.list 8 (t.map enc))],.box false [.d (.int .i64 i)],.box false [.mpr 90007],.box false [.clo 43 [.ref 90001 0,.ref 90002 0]],.mp (S.map enc) ((Rb S).map enc) false,.row 1 (b.map enc) 0]
def wM (t:List Part) (i:Nat) (b:List (List UInt8)) (ns:List (List UInt8)) (S:List (List UInt8)):List Obj:=[.row 1 (ns.map enc) 0,.box false [.sl 90009 b.length],.box false [.clo 44 [.ref 90003 0,.ref 90004 0,.ref 90001 0,.ref 90005 0,.ref 90006 0,.ref 90002 0]],.box false [.d (.list 8 (t.map enc))],.box false [.d (.int .i64 i)],.box false [.mpr 90007],.box false [.clo 43 [.ref 90001 0,.ref 90002 0]],.mp (S.map enc) ((Rb S).map enc) false,.gone,.row 1 (b.map enc) 0]
theorem Ms (t:List Part) (i:Nat) (S:List (List UInt8)):pN t i S=[.box false [.d (.list 8 (t.map enc))],.box false [.d (.int .i64 i)],.box false [.nils 1],.box false [.mpr 90006],.box false [.clo 43 [.ref 90002 0,.ref 90005 0]],.box false [.clo 44 [.ref 90000 0,.ref 90001 0,.ref 90002 0,.ref 90003 0,.ref 90004 0,.ref 90005 0]],.mp (S.map enc) ((Rb S).map enc) false]:=rfl
theorem Yh (t:List Part) (i:Nat) (b:List (List UInt8)) (S:List (List UInt8)):pB t i b S=[.box false [.d (.list 8 (t.map enc))],.box false [.d (.int .i64 i)],.box false [.sl 90007 b.length],.box false [.mpr 90006],.box false [.clo 43 [.ref 90002 0,.ref 90005 0]],.box false [.clo 44 [.ref 90000 0,.ref 90001 0,.ref 90002 0,.ref 90003 0,.ref 90004 0,.ref 90005 0]],.mp (S.map enc) ((Rb S).map enc) false,.row 1 (b.map enc) 0]:=rfl
theorem bJ (t:List Part) (i:Nat) (b:List (List UInt8)) (S:List (List UInt8)):pM t i b S=[.box false [.d (.list 8 (t.map enc))],.box false [.d (.int .i64 i)],.box false [.sl 90008 b.length],.box false [.mpr 90006],.box false [.clo 43 [.ref 90002 0,.ref 90005 0]],.box false [.clo 44 [.ref 90000 0,.ref 90001 0,.ref 90002 0,.ref 90003 0,.ref 90004 0,.ref 90005 0]],.mp (S.map enc) ((Rb S).map enc) false,.gone,.row 1 (b.map enc) 0]:=rfl
theorem eD (t:List Part) (i:Nat) (ns:List (List UInt8)) (S:List (List UInt8)):wN t i ns S=[.row 1 (ns.map enc) 0,.box false [.nils 1],.box false [.clo 44 [.ref 90003 0,.ref 90004 0,.ref 90001 0,.ref 90005 0,.ref 90006 0,.ref 90002 0]],.box false [.d (.list 8 (t.map enc))],.box false [.d (.int .i64 i)],.box false [.mpr 90007],.box false [.clo 43 [.ref 90001 0,.ref 90002 0]],.mp (S.map enc) ((Rb S).map enc) false]:=rfl
theorem Nk (t:List Part) (i:Nat) (b:List (List UInt8)) (ns:List (List UInt8)) (S:List (List UInt8)):wB t i b ns S=[.row 1 (ns.map enc) 0,.box false [.sl 90008 b.length],.box false [.clo 44 [.ref 90003 0,.ref 90004 0,.ref 90001 0,.ref 90005 0,.ref 90006 0,.ref 90002 0]],.box false [.d (.list 8 (t.map enc))],.box false [.d (.int .i64 i)],.box false [.mpr 90007],.box false [.clo 43 [.ref 90001 0,.ref 90002 0]],.mp (S.map enc) ((Rb S).map enc) false,.row 1 (b.map enc) 0]:=rfl
theorem fR (t:List Part) (i:Nat) (b:List (List UInt8)) (ns:List (List UInt8)) (S:List (List UInt8)):wM t i b ns S=[.row 1 (ns.map enc) 0,.box false [.sl 90009 b.length],.box false [.clo 44 [.ref 90003 0,.ref 90004 0,.ref 90001 0,.ref 90005 0,.ref 90006 0,.ref 90002 0]],.box false [.d (.list 8 (t.map enc))],.box false [.d (.int .i64 i)],.box false [.mpr 90007],.box false [.clo 43 [.ref 90001 0,.ref 90002 0]],.mp (S.map enc) ((Rb S).map enc) false,.gone,.row 1 (b.map enc) 0]:=rfl
def pO (t:List Part) (i:Nat) (o:Option (List (List UInt8))) (S:List (List UInt8)):List Obj:=match o with
 | none=>pN t i S
 | some b=>pB t i b S
def pP (t:List Part) (i:Nat) (o:Option (List (List UInt8))) (h:Bool) (S:List (List UInt8)):List Obj:=match o,h with
 | none,false=>pN t i S
 | none,true=>pB t i [] S
 | some b,false=>pB t i b S
 | some b,true=>pM t i b S
def wO (t:List Part) (i:Nat) (o:Option (List (List UInt8))) (ns S:List (List UInt8)):List Obj:=match o with
 | none=>wN t i ns S
 | some b=>wB t i b ns S
def wP (t:List Part) (i:Nat) (o:Option (List (List UInt8))) (ns S:List (List UInt8)):List Obj:=match o with
 | none=>wB t i [] ns S
 | some b=>wM t i b ns S
noncomputable def Z1 (n:Nat):BCon where
 X:=PX
 ok:=fun a=>a.Ok n 0
 args:=fun a=>[.ref 90000 0,.ref 90001 0,.ref 90002 0,.ref 90003 0,.ref 90004 0,.ref 90005 0]
 objs:=fun a=>pO a.t a.i a.bd a.S
 res:=fun a=>.tup []
 post:=fun a=>pP a.t (a.i+(nds a.x).length) a.bd (hasB a.x) (partT a.x (Hr a.bd) a.S)
theorem Av:∀ x,¬ (Z1 0).ok x:=by
 rintro x ⟨_,_,_,h,_⟩;omega
noncomputable def Z3 (n:Nat):BCon where
 X:=PX×List (List UInt8)
 ok:=fun a=>a.1.Ok n a.2.length
 args:=fun a=>[.sl 90000 a.2.length,.ref 90001 0,.ref 90002 0]
 objs:=fun a=>wO a.1.t a.1.i a.1.bd a.2 a.1.S
 res:=fun a=>.tup []
 post:=fun a=>wP a.1.t (a.1.i+(nds a.1.x).length) a.1.bd a.2 (partT a.1.x (Hr a.1.bd++a.2) a.1.S)
theorem Vk {m:Nat} {l:List Nat} (h:decide (∀ j,j<m→l[j]?=some (90000+j))=true):aZ m l:=fun j hj=>of_decide_eq_true h j hj
theorem Up {n:Nat} {t:List Part} {i:Nat} {o:Option (List (List UInt8))} {S:List (List UInt8)} {y:Rose Part} {j:Nat} {H:Bool} {V:List (List UInt8)} (hy:At Xj t i y) (hj:i+(nds y).length=j) (hH:hasB y=H) (hV:partT y (Hr o) S=V) :
  (Z1 n).post ⟨t,i,o,S⟩=pP t j o H V:=by
 have hx:(PX.mk t i o S).x=y:=Xp hy;show pP t (i+(nds (PX.mk t i o S).x).length) o (hasB (PX.mk t i o S).x) (partT (PX.mk t i o S).x (Hr o) S)=_;rw [hx,hj,hH,hV]
theorem Yn {n:Nat} {t:List Part} {i:Nat} {o:Option (List (List UInt8))} {ns S:List (List UInt8)} {y:Rose Part} {j:Nat} {V:List (List UInt8)} (hy:At Xj t i y) (hj:i+(nds y).length=j) (hV:partT y (Hr o++ns) S=V) :
  (Z3 n).post (⟨t,i,o,S⟩,ns)=wP t j o ns V:=by
 have hx:(PX.mk t i o S).x=y:=Xp hy;show wP t (i+(nds (PX.mk t i o S).x).length) o ns (partT (PX.mk t i o S).x (Hr o++ns) S)=_;rw [hx,hj,hV]
theorem Ye {n:Nat} {a:PX}:(Z1 n).res a=.tup []:=rfl
theorem Uh {n:Nat} {a:PX×List (List UInt8)}:(Z3 n).res a=.tup []:=rfl
theorem eY {C:Ctx} {c:Code} {Q:AExit→AS→Prop} {st:AS} (q i j:Nat) (kills:List Nat) {α:Type} (vals:α→List (Nat×AV)) (objs:α→List (Nat×Obj)) (ok:α→Prop) (μ:α→Nat) (a0:α) (h0:ok a0)
  (hw:Wk st (Lw st kills (vals a0) (objs a0))) (h:∀ a,ok a→Shut (U6 C c (eJ (fun s'=>∃ a',(Wk s' (Lw st kills (vals a') (objs a'))∨Qa6 q i j s' (Lw st kills (vals a') (objs a')))∧ok a'∧μ a'<μ a) Q) (Lw st kills (vals a) (objs a)))):Zhq C c Q st :=
 ⟨α,fun a=>Lw st kills (vals a) (objs a),ok,μ,fun s t=>Wk s t∨Qa6 q i j s t,fun _ _ h=>h.elim (fun h=>.inl h) (fun h=>.inr (.inr (.inr ⟨q,i,j,h⟩))),⟨a0,⟨[],hw⟩,h0⟩,fun a ha=>(h a ha).out⟩
class Khl:Prop
theorem Khl.k (_:Khl) (h:p:=by
 refine ⟨[90000,90001,90002,90003,90004,90005,90006,90007,14],by simp,rfl,Vk (by decide),?_⟩
 simp [Ze,lk,Q4,rnA,rnAs,rk]):p:=h
class Khm:Prop
theorem Khm.k (_:Khm) (h:p:=by
 refine ⟨[90000,90001,90002,90003,90004,90005,90006,90007,14],by simp,rfl,Vk (by decide),?_⟩
 simp [Ze,lk,Q4,rnA,rnAs,rk]):p:=h
class Khk:Prop
theorem Khk.k (_:Khk) (h:p:=by
 cases H with
 | false =>
  have Qz:(Z1 n).post ⟨t,i,some ns,S⟩=pB t j ns V:=vC;refine Zm (bc:=Z1 n) ⟨t,i,some ns,S⟩ [90003,90004,90001,90005,90006,90002,90007,9] Un rfl (by simp) (by rw [Qz];rfl) ?_ ?_ ?_
  ·show Ze _ _ (pB t i ns S) _;rw [Yh];simp [Ze,lk,Q4,rnA,rnAs,rk]
  ·show Zj (List.drop (pB t i ns S).length _) _;rw [Yh];simp [Zj,lk]
  have Ql:=@Ye;have Q3:=@Yh;have Kq:Khl:=⟨⟩;exact Qa
 | true =>
  have Qz:(Z1 n).post ⟨t,i,some ns,S⟩=pM t j ns V:=vC;refine Zm (bc:=Z1 n) ⟨t,i,some ns,S⟩ [90003,90004,90001,90005,90006,90002,90007,9,60000] Un rfl (by simp) (by rw [Qz];rfl) ?_ ?_ ?_
  ·show Ze _ _ (pB t i ns S) _;rw [Yh];simp [Ze,lk,Q4,rnA,rnAs,rk]
  ·show Zj (List.drop (pB t i ns S).length _) _;rw [Yh];simp [Zj,lk]
  have Ql:=@Ye;have Q3:=@bJ;have Kq:Khm:=⟨⟩;exact Qa):p:=h
class Kho:Prop
theorem Kho.k (_:Kho) (h:p:=by
 refine ⟨[90000,90001,90002,90003,90004,90005,90006,90007,90008,14],by simp,rfl,Vk (by decide),?_⟩
 simp [Ze,lk,Q4,rnA,rnAs,rk]):p:=h
class Khp:Prop
theorem Khp.k (_:Khp) (h:p:=by
 refine ⟨[90000,90001,90002,90003,90004,90005,90006,90007,90008,14],by simp,rfl,Vk (by decide),?_⟩
 simp [Ze,lk,Q4,rnA,rnAs,rk]):p:=h
class Khn:Prop
theorem Khn.k (_:Khn) (h:p:=by
 cases H with
 | false =>
  have Qz:(Z1 n).post ⟨t,i,some (b++ns),S⟩=pB t j (b++ns) V:=vC;refine Zm (bc:=Z1 n) ⟨t,i,some (b++ns),S⟩ [90003,90004,90001,90005,90006,90002,90007,90008] Un rfl (by simp) (by rw [Qz];rfl) ?_ ?_ ?_
  ·show Ze _ _ (pB t i (b++ns) S) _;rw [Yh];simp [Ze,lk,Q4,rnA,rnAs,rk]
  ·show Zj (List.drop (pB t i (b++ns) S).length _) _;rw [Yh];simp [Zj,lk]
  have Ql:=@Ye;have Q3:=@Yh;have Kq:Kho:=⟨⟩;exact Qa
 | true =>
  have Qz:(Z1 n).post ⟨t,i,some (b++ns),S⟩=pM t j (b++ns) V:=vC;refine Zm (bc:=Z1 n) ⟨t,i,some (b++ns),S⟩ [90003,90004,90001,90005,90006,90002,90007,90008,60000] Un rfl (by simp) (by rw [Qz];rfl) ?_ ?_ ?_
  ·show Ze _ _ (pB t i (b++ns) S) _;rw [Yh];simp [Ze,lk,Q4,rnA,rnAs,rk]
  ·show Zj (List.drop (pB t i (b++ns) S).length _) _;rw [Yh];simp [Zj,lk]
  have Ql:=@Ye;have Q3:=@bJ;have Kq:Khp:=⟨⟩;exact Qa):p:=h
theorem stepbm_FreeWith (n:Nat) (ih:X9 Tryz.prog (44,Z1 n)):X9 Tryz.prog (43,(Z3 n)):=by
 obtain ⟨Kx,Kt,Kc,Kd,Kb,Ku,Kw,K,Y0,_⟩:=Yc Qp Z0 [100014] false (A6 ih (Z1.eq_def n) Yb);refine bR K Tryz.func43 [] rfl 15 rfl (fun c hc x X5=>?_);obtain ⟨⟨t,i,bd,S⟩,ns⟩:=x;obtain ⟨hT,y,hy,hn,hb,hS⟩:=X5;simp only at hT hy hb hS;obtain ⟨V,hV⟩:=exq (partT y (Hr bd++ns) S);obtain ⟨j,hj⟩:=exq (i+(nds y).length);obtain ⟨H,hH⟩:=exq (hasB y);have Jc:=Yn (n:=n) hy hj hV;cases bd with
 | none =>
  simp only [Hr,List.nil_append,List.length_nil] at hb hV;refine ⟨?_,?_,?_,?_,?_⟩
  ·show Xg [.sl 90000 ns.length,.ref 90001 0,.ref 90002 0] (wN t i ns S);rw [eD];simp [Xg,Jp,Obj.tied,Zr,keptAll,AV.kept,Zq,Jv,lk]
  ·show Zr (wN t i ns S);rw [eD];simp [Zr]
  ·rw [Jc];show Xg [] (wB t j [] ns V);rw [Nk];simp [Xg,Jp,Obj.tied,Zr,keptAll,AV.kept,Zq,Jv,lk]
  ·rw [Jc];show (wN t i ns S).length≤(wB t j [] ns V).length;rw [eD,Nk];simp
  show U6 Kx c (V5 _ _ (wN t i ns S).length (.tup []) ((Z3 n).post (⟨t,i,none,S⟩,ns))) ⟨[.sl 90000 ns.length,.ref 90001 0,.ref 90002 0]++Vf 12,Zq (wN t i ns S)⟩;rw [Jc];show U6 _ c (V5 _ _ (wN t i ns S).length (.tup []) (wB t j [] ns V)) _;rw [eD,Nk];have Un:(PX.mk t i (some ns) S).Ok n 0:=⟨hT,y,hy,hn,by show ns.length+0+_≤_;omega,hS⟩
  have vC:=Up (n:=n) (o:=some ns) hy hj hH hV;cases hc;have Kq:Khk:=⟨⟩;exact Qa
 | some b =>
  simp only [Hr] at hb hV;refine ⟨?_,?_,?_,?_,?_⟩
  ·show Xg [.sl 90000 ns.length,.ref 90001 0,.ref 90002 0] (wB t i b ns S);rw [Nk];simp [Xg,Jp,Obj.tied,Zr,keptAll,AV.kept,Zq,Jv,lk]
  ·show Zr (wB t i b ns S);rw [Nk];simp [Zr]
  ·rw [Jc];show Xg [] (wM t j b ns V);rw [fR];simp [Xg,Jp,Obj.tied,Zr,keptAll,AV.kept,Zq,Jv,lk]
  ·rw [Jc];show (wB t i b ns S).length≤(wM t j b ns V).length;rw [Nk,fR];simp
  show U6 Kx c (V5 _ _ (wB t i b ns S).length (.tup []) ((Z3 n).post (⟨t,i,(some b),S⟩,ns))) ⟨[.sl 90000 ns.length,.ref 90001 0,.ref 90002 0]++Vf 12,Zq (wB t i b ns S)⟩;rw [Jc];show U6 _ c (V5 _ _ (wB t i b ns S).length (.tup []) (wM t j b ns V)) _;rw [Nk,fR];have Un:(PX.mk t i (some (b++ns)) S).Ok n 0:=⟨hT,y,hy,hn,by show (b++ns).length+0+_≤_;simp only [Zb];omega,hS⟩
  have vC:=Up (n:=n) (o:=some (b++ns)) hy hj hH hV;have Q2:b.map (enc:List UInt8→D)++ns.map enc=(b++ns).map enc:=Zvb;have Qx:((b++ns).map (enc:List UInt8→D)).take b.length=b.map enc:=by rw [List.map_append,List.take_left' (by simp)]
  cases hc;have Kq:Khn:=⟨⟩;exact Qa
theorem iV {x:List UInt8} {ks vs:List (List UInt8)} (h:Ha x ks=vs):dE (.str x) (ks.map enc)=vs.map enc:=by rw [Zi5,h]
theorem Zj4 {l:List (List UInt8)} {v:List UInt8}:l.any (lQ v)=A5 l v:=by
 unfold A5
 induction l with
 | nil=>rfl
 | cons x l ih =>
  rw [List.any_cons,List.any_cons,ih];have:lQ v x=(x==v):=by
   unfold lQ;rw [Bool.eq_iff_iff,Zi,Zi];exact eq_comm
  rw [this]
theorem Tv {o:Option (List (List UInt8))} {v:List UInt8}:X7.res (o,v)=.bool (A5 (Hr o) v):=by
 show D.bool ((Hr o).any (lQ v))=_;rw [Zj4]
theorem yD {v:List UInt8}:X7.post (none,v)=[]:=rfl
theorem As {b:List (List UInt8)} {v:List UInt8}:X7.post (some b,v)=[.row 1 (b.map enc) 0]:=rfl
theorem oP {α:Type}:∀ {l:List α},l.length=2→∃ a b,l=[a,b]
 | [a,b],_=>⟨a,b,rfl⟩
 | [],h=>by simp at h
 | [_],h=>by simp at h
 | _::_::_::_,h=>by simp at h
theorem dA {p:Part} {ks:List (Rose Part)} {k:Nat} {b S:List (List UInt8)} (h:k<ks.length):partTs p (ks.drop k) k b S=partTs p (ks.drop (k+1)) (k+1) b (partT ks[k] (Dz p k b) S):=by
 rw [List.drop_eq_getElem_cons h,partTs]
theorem jQ {ks:List (Rose Part)} {k:Nat} (h:k<ks.length):hasBs (ks.drop k)=(hasB ks[k]||hasBs (ks.drop (k+1))):=by
 rw [List.drop_eq_getElem_cons h,hasBs]
theorem mF {ks:List (Rose Part)} {k:Nat} (h:k<ks.length):(ndss (ks.take (k+1))).length=(ndss (ks.take k)).length+(nds ks[k]).length:=by
 rw [List.take_add_one,Zh h,Yl,Zb];simp [ndss]
def Qc4:Bool→List (Nat×Obj)
 | false=>[(90002,.box false [.nils 1])]
 | true=>[(90002,.box false [.sl 60000 0]),(60000,.row 1 [] 0)]
theorem hO:Qc4 false=[(90002,.box false [.nils 1])]:=rfl
theorem mH:Qc4 true=[(90002,.box false [.sl 60000 0]),(60000,.row 1 [] 0)]:=rfl
theorem C7 {a b:Nat×Obj} {l:List (Nat×Obj)}:[a,b]++l=a::b::l:=rfl
def Qc5 (b:List (List UInt8)):Bool→List (Nat×Obj)
 | false=>[(90002,.box false [.sl 90007 b.length]),(90007,.row 1 (b.map enc) 0)]
 | true=>[(90002,.box false [.sl 60000 b.length]),(90007,.gone),(60000,.row 1 (b.map enc) 0)]
theorem iQ {b:List (List UInt8)}:Qc5 b false=[(90002,.box false [.sl 90007 b.length]),(90007,.row 1 (b.map enc) 0)]:=rfl
theorem mI {b:List (List UInt8)}:Qc5 b true=[(90002,.box false [.sl 60000 b.length]),(90007,.gone),(60000,.row 1 (b.map enc) 0)]:=rfl
class Khr:Prop
theorem Khr.k (_:Khr) (h:p:=by
 first|contradiction|skip
 refine ⟨[90000,90001,90002,90003,90004,90005,90006],by simp,rfl,Vk (by decide),?_⟩
 simp [Ze,lk,Q4,rnA,rnAs,rk]):p:=h
class Khq:Prop
theorem Khq.k (_:Khq) (h:p:=by
 first|contradiction|skip
 refine Zm (bc:=X7) (none,pn) [] (by show (([]:List (List UInt8))).length≤1000000000;simp) rfl (by simp) rfl ?_ ?_ ?_
 ·exact trivial
 ·exact trivial
 have Qx:=Tv (o:=none) (v:=pn);rw [show Hr none=([]:List (List UInt8)) from rfl] at Qx;cases aL:A5 ([]:List (List UInt8)) pn with
 | true =>
  exact absurd aL (by simp [A5])
 | false =>
  simp only [aL,Zn,if_false] at hV;have Q3:Bt (.str pn) (.bool true) (S.map enc) ((Rb S).map enc)=(Rb V).map enc:=by rw [Is,E4,hV]
  have Ji:=iV hV;rw [aL] at Qx;have Z6:=@yD;have Qb:=@Pf;have Kq:Khr:=⟨⟩;exact Qa):p:=h
class Kht:Prop
theorem Kht.k (_:Kht) (h:p:=by
 first|contradiction|skip
 refine ⟨[90000,90001,90002,90003,90004,90005,90006,60000],by simp,rfl,Vk (by decide),?_⟩
 simp [Ze,lk,Q4,rnA,rnAs,rk]):p:=h
class Khs:Prop
theorem Khs.k (_:Khs) (h:p:=by
 first|contradiction|skip
 refine Zm (bc:=Z3 n) (⟨t,i+1,none,S⟩,[pb]) [38,90002,90005,90000,90001,90003,90004,90006,60000] Un rfl (by simp) (by rw [Jk];rfl) ?_ ?_ ?_
 ·show Ze _ _ (wN t (i+1) [pb] S) _;rw [eD];simp [Ze,lk,Q4,rnA,rnAs,rk]
 ·show Zj (List.drop (wN t (i+1) [pb] S).length _) _;rw [eD];simp [Zj,lk]
 have Jl:(Z3 n).post (⟨t,i+1,none,S⟩,[pb])=wB t j [] [pb] V:=Jk;have Z6:=@Uh;have Qb:=@Nk;have Kq:Kht:=⟨⟩;exact Qa):p:=h
class Khv:Prop
theorem Khv.k (_:Khv) (h:p:=by
 first|contradiction|skip
 refine ⟨[90000,90001,90002,90003,90004,90005,90006,60000],by simp,rfl,Vk (by decide),?_⟩
 simp [Ze,lk,Q4,rnA,rnAs,rk]):p:=h
class Khu:Prop
theorem Khu.k (_:Khu) (h:p:=by
 first|contradiction|skip
 refine Zm (bc:=Z3 n) (⟨t,i+1,none,S⟩,[pb]) [38,90002,90005,90000,90001,90003,90004,90006,60000] Un rfl (by simp) (by rw [Jk];rfl) ?_ ?_ ?_
 ·show Ze _ _ (wN t (i+1) [pb] S) _;rw [eD];simp [Ze,lk,Q4,rnA,rnAs,rk]
 ·show Zj (List.drop (wN t (i+1) [pb] S).length _) _;rw [eD];simp [Zj,lk]
 have Jl:(Z3 n).post (⟨t,i+1,none,S⟩,[pb])=wB t j [] [pb] V:=Jk;have Z6:=@Uh;have Qb:=@Nk;have Kq:Khv:=⟨⟩;exact Qa):p:=h
class Khy:Prop
theorem Khy.k (_:Khy) (h:p:=by
 first|contradiction|skip
 refine ⟨[90000,90001,90002,90003,90004,90005,90006,60000],by simp,rfl,Vk (by decide),?_⟩
 simp [Ze,lk,Q4,rnA,rnAs,rk]):p:=h
class Khx:Prop
theorem Khx.k (_:Khx) (h:p:=by
 first|contradiction|skip
 have Js:(Z3 n).post (⟨t,j1,none,V1⟩,[pb])=wB t j [] [pb] V:=Yn (n:=n) (o:=none) a2 (show j1+(nds x2).length=j by omega) H8
 have kF:(Z3 n).ok (⟨t,j1,none,V1⟩,[pb]):=⟨hT,x2,a2,by omega,by show (([]:List (List UInt8))).length+1+_≤_;simp;omega,by show V1.length+_≤_;omega⟩
 refine Zm (bc:=Z3 n) (⟨t,j1,none,V1⟩,[pb]) [47,90002,90005,90000,90001,90003,90004,90006,60000] kF rfl (by simp) (by rw [Js];rfl) ?_ ?_ ?_
 ·show Ze _ _ (wN t j1 [pb] V1) _;rw [eD];simp [Ze,lk,Q4,rnA,rnAs,rk]
 ·show Zj (List.drop (wN t j1 [pb] V1).length _) _;rw [eD];simp [Zj,lk]
 have Z6:=@Uh;have Qb:=@Nk;have Kq:Khy:=⟨⟩;exact Qa):p:=h
class KhA:Prop
theorem KhA.k (_:KhA) (h:p:=by
 first|contradiction|skip
 refine ⟨[90000,90001,90002,90003,90004,90005,90006,60001],by simp,rfl,Vk (by decide),?_⟩
 simp [Ze,lk,Q4,rnA,rnAs,rk]):p:=h
class Khz:Prop
theorem Khz.k (_:Khz) (h:p:=by
 first|contradiction|skip
 have Js:(Z3 n).post (⟨t,j1,(some ([]:List (List UInt8))),V1⟩,[pb])=wM t j ([]:List (List UInt8)) [pb] V:=Yn (n:=n) (o:=(some ([]:List (List UInt8)))) a2 (show j1+(nds x2).length=j by omega) H8
 have kF:(Z3 n).ok (⟨t,j1,(some ([]:List (List UInt8))),V1⟩,[pb]):=⟨hT,x2,a2,by omega,by show (([]:List (List UInt8))).length+1+_≤_;simp;omega,by show V1.length+_≤_;omega⟩
 refine Zm (bc:=Z3 n) (⟨t,j1,(some ([]:List (List UInt8))),V1⟩,[pb]) [47,90002,90005,90000,90001,90003,90004,90006,60000,60001] kF rfl (by simp) (by rw [Js];rfl) ?_ ?_ ?_
 ·show Ze _ _ (wB t j1 ([]:List (List UInt8)) [pb] V1) _;rw [Nk];simp [Ze,lk,Q4,rnA,rnAs,rk]
 ·show Zj (List.drop (wB t j1 ([]:List (List UInt8)) [pb] V1).length _) _;rw [Nk];simp [Zj,lk]
 have Z6:=@Uh;have Qb:=@fR;have Kq:KhA:=⟨⟩;exact Qa):p:=h
class Khw:Prop
theorem Khw.k (_:Khw) (h:p:=by
 first|contradiction|skip
 cases H1 with
 | false =>
  have Jl:(Z1 n).post ⟨t,i+1,none,S⟩=pN t j1 V1:=Jk;refine Zm (bc:=Z1 n) ⟨t,i+1,none,S⟩ [90000,90001,90002,90003,90004,90005,90006] Un rfl (by simp) (by rw [Jl];rfl) ?_ ?_ ?_
  ·show Ze _ _ (pN t (i+1) S) _;rw [Ms];simp [Ze,lk,Q4,rnA,rnAs,rk]
  ·show Zj (List.drop (pN t (i+1) S).length _) _;rw [Ms];simp [Zj,lk]
  have Z6:=@Ye;have Qb:=@Ms;have Kq:Khx:=⟨⟩;exact Qa
 | true =>
  have Jl:(Z1 n).post ⟨t,i+1,none,S⟩=pB t j1 [] V1:=Jk;refine Zm (bc:=Z1 n) ⟨t,i+1,none,S⟩ [90000,90001,90002,90003,90004,90005,90006,60000] Un rfl (by simp) (by rw [Jl];rfl) ?_ ?_ ?_
  ·show Ze _ _ (pN t (i+1) S) _;rw [Ms];simp [Ze,lk,Q4,rnA,rnAs,rk]
  ·show Zj (List.drop (pN t (i+1) S).length _) _;rw [Ms];simp [Zj,lk]
  have Z6:=@Ye;have Qb:=@Yh;have Kq:Khz:=⟨⟩;exact Qa):p:=h
class KhD:Prop
theorem KhD.k (_:KhD) (h:p:=by
 first|contradiction|skip
 refine ⟨[90000,90001,90002,90003,90004,90005,90006,60001],by simp,rfl,Vk (by decide),?_⟩
 simp [Ze,lk,Q4,rnA,rnAs,rk]):p:=h
class KhC:Prop
theorem KhC.k (_:KhC) (h:p:=by
 first|contradiction|skip
 have Js:(Z3 n).post (⟨t,j1,some ([]:List (List UInt8)),V1⟩,[pn])=wM t j ([]:List (List UInt8)) [pn] V:=Yn (n:=n) (o:=some ([]:List (List UInt8))) a2 (show j1+(nds x2).length=j by omega) H8
 have kF:(Z3 n).ok (⟨t,j1,some ([]:List (List UInt8)),V1⟩,[pn]):=⟨hT,x2,a2,by omega,by show (([]:List (List UInt8))).length+1+_≤_;simp;omega,by show V1.length+_≤_;omega⟩
 refine Zm (bc:=Z3 n) (⟨t,j1,some ([]:List (List UInt8)),V1⟩,[pn]) [61,90002,90005,90000,90001,90003,90004,90006,60000,60001] kF rfl (by simp) (by rw [Js];rfl) ?_ ?_ ?_
 ·show Ze _ _ (wB t j1 ([]:List (List UInt8)) [pn] V1) _;rw [Nk];simp [Ze,lk,Q4,rnA,rnAs,rk]
 ·show Zj (List.drop (wB t j1 ([]:List (List UInt8)) [pn] V1).length _) _;rw [Nk];simp [Zj,lk]
 have Z6:=@Uh;have Qb:=@fR;have Kq:KhD:=⟨⟩;exact Qa):p:=h
class KhB:Prop
theorem KhB.k (_:KhB) (h:p:=by
 first|contradiction|skip
 refine Zm (bc:=Z3 n) (⟨t,i+1,none,S⟩,[pn,pb]) [56,90002,90005,90000,90001,90003,90004,90006,60000] Un rfl (by simp) (by rw [Jk];rfl) ?_ ?_ ?_
 ·show Ze _ _ (wN t (i+1) [pn,pb] S) _;rw [eD];simp [Ze,lk,Q4,rnA,rnAs,rk]
 ·show Zj (List.drop (wN t (i+1) [pn,pb] S).length _) _;rw [eD];simp [Zj,lk]
 have Z6:=@Uh;have Qb:=@Nk;have Kq:KhC:=⟨⟩;exact Qa):p:=h
class KhF:Prop
theorem KhF.k (_:KhF) (h:p:=by
 first|contradiction|skip
 refine ⟨[90000,90001,90002,90003,90004,90005,90006],by simp,rfl,Vk (by decide),?_⟩
 simp [Ze,lk,Q4,rnA,rnAs,rk]):p:=h
class KhG:Prop
theorem KhG.k (_:KhG) (h:p:=by
 first|contradiction|skip
 refine ⟨[90000,90001,90002,90003,90004,90005,90006,60000],by simp,rfl,Vk (by decide),?_⟩
 simp [Ze,lk,Q4,rnA,rnAs,rk]):p:=h
class KhI:Prop
theorem KhI.k (_:KhI) (h:p:=by
 first|contradiction|skip
 refine ⟨(k+1,U1,false),.inl (by rw [fJ];simp only [hO,mH,C7];exact Xa),by simp only;omega,hU,hM,by simp only;omega,by simp only;omega⟩):p:=h
class KhJ:Prop
theorem KhJ.k (_:KhJ) (h:p:=by
 first|contradiction|skip
 refine ⟨(k+1,U1,true),.inl (by rw [fJ];simp only [hO,mH,C7];exact Xa),by simp only;omega,hU,hM,by simp only;omega,by simp only;omega⟩):p:=h
class KhH:Prop
theorem KhH.k (_:KhH) (h:p:=by
 first|contradiction|skip
 cases H1 with
 | false =>
  have Jl:(Z1 n).post ⟨t,c0,none,U⟩=pN t c1 U1:=Jk;refine Zm (bc:=Z1 n) ⟨t,c0,none,U⟩ [90000,90001,90002,90003,90004,90005,90006] Un rfl (by simp) (by rw [Jl];rfl) ?_ ?_ ?_
  ·show Ze _ _ (pN t c0 U) _;rw [Ms];simp [Ze,lk,Q4,rnA,rnAs,rk]
  ·show Zj (List.drop (pN t c0 U).length _) _;rw [Ms];simp [Zj,lk]
  have Z6:=@Ye;have Qb:=@Ms;have Kq:KhI:=⟨⟩;exact Qa
 | true =>
  have Jl:(Z1 n).post ⟨t,c0,none,U⟩=pB t c1 [] U1:=Jk;refine Zm (bc:=Z1 n) ⟨t,c0,none,U⟩ [90000,90001,90002,90003,90004,90005,90006,60000] Un rfl (by simp) (by rw [Jl];rfl) ?_ ?_ ?_
  ·show Ze _ _ (pN t c0 U) _;rw [Ms];simp [Ze,lk,Q4,rnA,rnAs,rk]
  ·show Zj (List.drop (pN t c0 U).length _) _;rw [Ms];simp [Zj,lk]
  have Z6:=@Ye;have Qb:=@Yh;have Kq:KhJ:=⟨⟩;exact Qa):p:=h
class KhL:Prop
theorem KhL.k (_:KhL) (h:p:=by
 first|contradiction|skip
 refine ⟨(k+1,U1,true),.inl (by rw [fJ];simp only [hO,mH,C7];exact Xa),by simp only;omega,hU,hM,by simp only;omega,by simp only;omega⟩):p:=h
class KhM:Prop
theorem KhM.k (_:KhM) (h:p:=by
 first|contradiction|skip
 refine ⟨(k+1,U1,true),.inr (by rw [fJ];simp only [hO,mH,C7];exact Qfd),by simp only;omega,hU,hM,by simp only;omega,by simp only;omega⟩):p:=h
class KhK:Prop
theorem KhK.k (_:KhK) (h:p:=by
 first|contradiction|skip
 cases H1 with
 | false =>
  have Jl:(Z1 n).post ⟨t,c0,(some []),U⟩=pB t c1 [] U1:=Jk;refine Zm (bc:=Z1 n) ⟨t,c0,(some []),U⟩ [90000,90001,90002,90003,90004,90005,90006,60000] Un rfl (by simp) (by rw [Jl];rfl) ?_ ?_ ?_
  ·show Ze _ _ (pB t c0 [] U) _;rw [Yh];simp [Ze,lk,Q4,rnA,rnAs,rk]
  ·show Zj (List.drop (pB t c0 [] U).length _) _;rw [Yh];simp [Zj,lk]
  have Z6:=@Ye;have Qb:=@Yh;have Kq:KhL:=⟨⟩;exact Qa
 | true =>
  have Jl:(Z1 n).post ⟨t,c0,(some []),U⟩=pM t c1 [] U1:=Jk;refine Zm (bc:=Z1 n) ⟨t,c0,(some []),U⟩ [90000,90001,90002,90003,90004,90005,90006,60000,60001] Un rfl (by simp) (by rw [Jl];rfl) ?_ ?_ ?_
  ·show Ze _ _ (pB t c0 [] U) _;rw [Yh];simp [Ze,lk,Q4,rnA,rnAs,rk]
  ·show Zj (List.drop (pB t c0 [] U).length _) _;rw [Yh];simp [Zj,lk]
  have Z6:=@Ye;have Qb:=@bJ;have Kq:KhM:=⟨⟩;exact Qa):p:=h
class KhE:Prop
theorem KhE.k (_:KhE) (h:p:=by
 first|contradiction|skip
 refine eY 90002 60000 60001 [18,19,20,21] (fun q:Nat×List (List UInt8)×Bool=>[(17,.d (.int .i64 q.1))]) (fun q:Nat×List (List UInt8)×Bool=>[(90001,.box false [.d (.int .i64 (i+1+(ndss (ks.take q.1)).length:Nat))]),(90006,.mp (q.2.1.map enc) ((Rb q.2.1).map enc) false)]++Qc4 q.2.2) (fun q:Nat×List (List UInt8)×Bool=>q.1≤ks.length∧partTs ⟨pk,pl,pn,pb,pm,pq,pt,pu⟩ (ks.drop q.1) q.1 ([]:List (List UInt8)) q.2.1=V∧(q.2.2||hasBs (ks.drop q.1))=H∧q.2.1.length≤S.length+(ndss (ks.take q.1)).length) (fun q:Nat×List (List UInt8)×Bool=>ks.length-q.1) (0,S,false) ?_ ?_ ?_
 ·exact ⟨Nat.zero_le _,hV,by simpa using Qe9,by simp⟩
 ·simp only [hO,C7,List.take_zero,ndss];exact Xa
 rintro ⟨k,U,mv⟩ ⟨hk,hU,hM,Qe2⟩;simp only at hk hU hM Qe2;rcases Qh k ks.length with ⟨Qg,Qe⟩|⟨Qg,Qe⟩
 rotate_left
 ·have Zec:k=ks.length:=by omega
  rw [Zec,List.drop_length] at hU hM;rw [partTs] at hU;rw [hasBs,Bool.or_false] at hM;subst hU hM;rw [Zec,List.take_length];have Q2:i+1+(ndss ks).length=j:=by omega
  rw [Q2];rw [Zec] at Qe;cases mv with
  | false =>
   have Ql:pP t j none false U=_:=(show pP t j none false U=pN t j U from rfl).trans (Ms _ _ _);have Z6:=@hO;have Qb:=@C7;have Kq:KhF:=⟨⟩;exact Qa
  | true =>
   have Ql:pP t j none true U=_:=(show pP t j none true U=pB t j [] U from rfl).trans (Yh _ _ _ _);have Z6:=@mH;have Qb:=@C7;have Kq:KhG:=⟨⟩;exact Qa
 have ax:=aY Xs Qg;have K5:=Qj0 Qg;have Zyl:=mF Qg;rw [dA Qg,Qek] at hU;rw [jQ Qg,←Bool.or_assoc] at hM;obtain ⟨c0,Zye⟩:=exq (i+1+(ndss (ks.take k)).length);rw [Zye] at ax ⊢;have fJ:i+1+(ndss (ks.take (k+1))).length=c0+(nds ks[k]).length:=by omega
 have Zic:=Yl (ks.take (k+1)) (ks.drop (k+1));have Zid:=congrArg List.length Zic;rw [List.take_append_drop,Zb] at Zid;have zJ:=partT_len ks[k] ([]:List (List UInt8)) U;obtain ⟨y,Qdp⟩:=exq (ks[k]);rw [Qdp] at ax K5 Zyl hU hM fJ zJ;obtain ⟨U1,Zyf⟩:=exq (partT y ([]:List (List UInt8)) U);obtain ⟨H1,Zih⟩:=exq (hasB y);obtain ⟨c1,Eu⟩:=exq (c0+(nds y).length);rw [Zyf] at hU zJ;rw [Zih] at hM;rw [Eu] at fJ;clear Zic;cases mv with
 | false =>
  have Un:(PX.mk t c0 none U).Ok n 0:=⟨hT,y,ax,by omega,by show (([]:List (List UInt8))).length+0+_≤_;simp;omega,by show U.length+_≤_;omega⟩
  have Jk:=Up (n:=n) (o:=none) ax Eu Zih Zyf;have Z6:=@hO;have Qb:=@C7;have Kq:KhH:=⟨⟩;exact Qa
 | true =>
  have Un:(PX.mk t c0 (some []) U).Ok n 0:=⟨hT,y,ax,by omega,by show (([]:List (List UInt8))).length+0+_≤_;simp;omega,by show U.length+_≤_;omega⟩
  have Jk:=Up (n:=n) (o:=(some [])) ax Eu Zih Zyf;have Z6:=@mH;have Qb:=@C7;have Kq:KhK:=⟨⟩;exact Qa):p:=h
class KhO:Prop
theorem KhO.k (_:KhO) (h:p:=by
 first|contradiction|skip
 refine ⟨[90000,90001,90002,90003,90004,90005,90006,90007],by simp,rfl,Vk (by decide),?_⟩
 simp [Ze,lk,Q4,rnA,rnAs,rk]):p:=h
class KhP:Prop
theorem KhP.k (_:KhP) (h:p:=by
 first|contradiction|skip
 refine ⟨[90000,90001,90002,90003,90004,90005,90006,90007],by simp,rfl,Vk (by decide),?_⟩
 simp [Ze,lk,Q4,rnA,rnAs,rk]):p:=h
class KhN:Prop
theorem KhN.k (_:KhN) (h:p:=by
 first|contradiction|skip
 refine Zm (bc:=X7) (some b,pn) [90007] (by show (b).length≤1000000000;omega) rfl (by simp) rfl ?_ ?_ ?_
 ·show Ze _ _ [Obj.row 1 (b.map (enc:List UInt8→D)) 0] _;simp [Ze,lk,Q4,rnA,rnAs,rk]
 ·exact trivial
 have Qx:=Tv (o:=(some b)) (v:=pn);rw [show Hr (some b)=b from rfl] at Qx;cases aL:A5 b pn with
 | true =>
  simp only [aL,if_true] at hV;subst hV;rw [aL] at Qx;have Z6:=@As;have Kq:KhO:=⟨⟩;exact Qa
 | false =>
  simp only [aL,Zn,if_false] at hV;have Q3:Bt (.str pn) (.bool true) (S.map enc) ((Rb S).map enc)=(Rb V).map enc:=by rw [Is,E4,hV]
  have Ji:=iV hV;rw [aL] at Qx;have Z6:=@As;have Qb:=@Pf;have Kq:KhP:=⟨⟩;exact Qa):p:=h
class KhR:Prop
theorem KhR.k (_:KhR) (h:p:=by
 first|contradiction|skip
 refine ⟨[90000,90001,90002,90003,90004,90005,90006,90007,60000],by simp,rfl,Vk (by decide),?_⟩
 simp [Ze,lk,Q4,rnA,rnAs,rk]):p:=h
class KhQ:Prop
theorem KhQ.k (_:KhQ) (h:p:=by
 first|contradiction|skip
 refine Zm (bc:=Z3 n) (⟨t,i+1,(some b),S⟩,[pb]) [38,90002,90005,90000,90001,90003,90004,90006,90007,60000] Un rfl (by simp) (by rw [Jk];rfl) ?_ ?_ ?_
 ·show Ze _ _ (wB t (i+1) b [pb] S) _;rw [Nk];simp [Ze,lk,Q4,rnA,rnAs,rk]
 ·show Zj (List.drop (wB t (i+1) b [pb] S).length _) _;rw [Nk];simp [Zj,lk]
 have Jl:(Z3 n).post (⟨t,i+1,(some b),S⟩,[pb])=wM t j b [pb] V:=Jk;have Z6:=@Uh;have Qb:=@fR;have Kq:KhR:=⟨⟩;exact Qa):p:=h
class KhT:Prop
theorem KhT.k (_:KhT) (h:p:=by
 first|contradiction|skip
 refine ⟨[90000,90001,90002,90003,90004,90005,90006,90007,60000],by simp,rfl,Vk (by decide),?_⟩
 simp [Ze,lk,Q4,rnA,rnAs,rk]):p:=h
class KhS:Prop
theorem KhS.k (_:KhS) (h:p:=by
 first|contradiction|skip
 refine Zm (bc:=Z3 n) (⟨t,i+1,(some b),S⟩,[pb]) [38,90002,90005,90000,90001,90003,90004,90006,90007,60000] Un rfl (by simp) (by rw [Jk];rfl) ?_ ?_ ?_
 ·show Ze _ _ (wB t (i+1) b [pb] S) _;rw [Nk];simp [Ze,lk,Q4,rnA,rnAs,rk]
 ·show Zj (List.drop (wB t (i+1) b [pb] S).length _) _;rw [Nk];simp [Zj,lk]
 have Jl:(Z3 n).post (⟨t,i+1,(some b),S⟩,[pb])=wM t j b [pb] V:=Jk;have Z6:=@Uh;have Qb:=@fR;have Kq:KhT:=⟨⟩;exact Qa):p:=h
class KhW:Prop
theorem KhW.k (_:KhW) (h:p:=by
 first|contradiction|skip
 refine ⟨[90000,90001,90002,90003,90004,90005,90006,90007,60000],by simp,rfl,Vk (by decide),?_⟩
 simp [Ze,lk,Q4,rnA,rnAs,rk]):p:=h
class KhV:Prop
theorem KhV.k (_:KhV) (h:p:=by
 first|contradiction|skip
 have Js:(Z3 n).post (⟨t,j1,(some b),V1⟩,[pb])=wM t j b [pb] V:=Yn (n:=n) (o:=(some b)) a2 (show j1+(nds x2).length=j by omega) H8
 have kF:(Z3 n).ok (⟨t,j1,(some b),V1⟩,[pb]):=⟨hT,x2,a2,by omega,by show (b).length+1+_≤_;omega,by show V1.length+_≤_;omega⟩
 refine Zm (bc:=Z3 n) (⟨t,j1,(some b),V1⟩,[pb]) [47,90002,90005,90000,90001,90003,90004,90006,90007,60000] kF rfl (by simp) (by rw [Js];rfl) ?_ ?_ ?_
 ·show Ze _ _ (wB t j1 b [pb] V1) _;rw [Nk];simp [Ze,lk,Q4,rnA,rnAs,rk]
 ·show Zj (List.drop (wB t j1 b [pb] V1).length _) _;rw [Nk];simp [Zj,lk]
 have Z6:=@Uh;have Qb:=@fR;have Kq:KhW:=⟨⟩;exact Qa):p:=h
class KhY:Prop
theorem KhY.k (_:KhY) (h:p:=by
 first|contradiction|skip
 refine ⟨[90000,90001,90002,90003,90004,90005,90006,90007,60001],by simp,rfl,Vk (by decide),?_⟩
 simp [Ze,lk,Q4,rnA,rnAs,rk]):p:=h
class KhX:Prop
theorem KhX.k (_:KhX) (h:p:=by
 first|contradiction|skip
 have Js:(Z3 n).post (⟨t,j1,(some b),V1⟩,[pb])=wM t j b [pb] V:=Yn (n:=n) (o:=(some b)) a2 (show j1+(nds x2).length=j by omega) H8
 have kF:(Z3 n).ok (⟨t,j1,(some b),V1⟩,[pb]):=⟨hT,x2,a2,by omega,by show (b).length+1+_≤_;omega,by show V1.length+_≤_;omega⟩
 refine Zm (bc:=Z3 n) (⟨t,j1,(some b),V1⟩,[pb]) [47,90002,90005,90000,90001,90003,90004,90006,60000,60001] kF rfl (by simp) (by rw [Js];rfl) ?_ ?_ ?_
 ·show Ze _ _ (wB t j1 b [pb] V1) _;rw [Nk];simp [Ze,lk,Q4,rnA,rnAs,rk]
 ·show Zj (List.drop (wB t j1 b [pb] V1).length _) _;rw [Nk];simp [Zj,lk]
 have Z6:=@Uh;have Qb:=@fR;have Kq:KhY:=⟨⟩;exact Qa):p:=h
class KhU:Prop
theorem KhU.k (_:KhU) (h:p:=by
 first|contradiction|skip
 cases H1 with
 | false =>
  have Jl:(Z1 n).post ⟨t,i+1,(some b),S⟩=pB t j1 b V1:=Jk;refine Zm (bc:=Z1 n) ⟨t,i+1,(some b),S⟩ [90000,90001,90002,90003,90004,90005,90006,90007] Un rfl (by simp) (by rw [Jl];rfl) ?_ ?_ ?_
  ·show Ze _ _ (pB t (i+1) b S) _;rw [Yh];simp [Ze,lk,Q4,rnA,rnAs,rk]
  ·show Zj (List.drop (pB t (i+1) b S).length _) _;rw [Yh];simp [Zj,lk]
  have Z6:=@Ye;have Qb:=@Yh;have Kq:KhV:=⟨⟩;exact Qa
 | true =>
  have Jl:(Z1 n).post ⟨t,i+1,(some b),S⟩=pM t j1 b V1:=Jk;refine Zm (bc:=Z1 n) ⟨t,i+1,(some b),S⟩ [90000,90001,90002,90003,90004,90005,90006,90007,60000] Un rfl (by simp) (by rw [Jl];rfl) ?_ ?_ ?_
  ·show Ze _ _ (pB t (i+1) b S) _;rw [Yh];simp [Ze,lk,Q4,rnA,rnAs,rk]
  ·show Zj (List.drop (pB t (i+1) b S).length _) _;rw [Yh];simp [Zj,lk]
  have Z6:=@Ye;have Qb:=@bJ;have Kq:KhX:=⟨⟩;exact Qa):p:=h
class Kib:Prop
theorem Kib.k (_:Kib) (h:p:=by
 first|contradiction|skip
 refine ⟨[90000,90001,90002,90003,90004,90005,90006,90007,60001],by simp,rfl,Vk (by decide),?_⟩
 simp [Ze,lk,Q4,rnA,rnAs,rk]):p:=h
class Kia:Prop
theorem Kia.k (_:Kia) (h:p:=by
 first|contradiction|skip
 have Js:(Z3 n).post (⟨t,j1,some b,V1⟩,[pn])=wM t j b [pn] V:=Yn (n:=n) (o:=some b) a2 (show j1+(nds x2).length=j by omega) H8
 have kF:(Z3 n).ok (⟨t,j1,some b,V1⟩,[pn]):=⟨hT,x2,a2,by omega,by show (b).length+1+_≤_;omega,by show V1.length+_≤_;omega⟩
 refine Zm (bc:=Z3 n) (⟨t,j1,some b,V1⟩,[pn]) [61,90002,90005,90000,90001,90003,90004,90006,60000,60001] kF rfl (by simp) (by rw [Js];rfl) ?_ ?_ ?_
 ·show Ze _ _ (wB t j1 b [pn] V1) _;rw [Nk];simp [Ze,lk,Q4,rnA,rnAs,rk]
 ·show Zj (List.drop (wB t j1 b [pn] V1).length _) _;rw [Nk];simp [Zj,lk]
 have Z6:=@Uh;have Qb:=@fR;have Kq:Kib:=⟨⟩;exact Qa):p:=h
class KhZ:Prop
theorem KhZ.k (_:KhZ) (h:p:=by
 first|contradiction|skip
 refine Zm (bc:=Z3 n) (⟨t,i+1,(some b),S⟩,[pn,pb]) [56,90002,90005,90000,90001,90003,90004,90006,90007,60000] Un rfl (by simp) (by rw [Jk];rfl) ?_ ?_ ?_
 ·show Ze _ _ (wB t (i+1) b [pn,pb] S) _;rw [Nk];simp [Ze,lk,Q4,rnA,rnAs,rk]
 ·show Zj (List.drop (wB t (i+1) b [pn,pb] S).length _) _;rw [Nk];simp [Zj,lk]
 have Z6:=@Uh;have Qb:=@fR;have Kq:Kia:=⟨⟩;exact Qa):p:=h
class Kid:Prop
theorem Kid.k (_:Kid) (h:p:=by
 first|contradiction|skip
 refine ⟨[90000,90001,90002,90003,90004,90005,90006,90007],by simp,rfl,Vk (by decide),?_⟩
 simp [Ze,lk,Q4,rnA,rnAs,rk]):p:=h
class Kie:Prop
theorem Kie.k (_:Kie) (h:p:=by
 first|contradiction|skip
 refine ⟨[90000,90001,90002,90003,90004,90005,90006,90007,60000],by simp,rfl,Vk (by decide),?_⟩
 simp [Ze,lk,Q4,rnA,rnAs,rk]):p:=h
class Kig:Prop
theorem Kig.k (_:Kig) (h:p:=by
 first|contradiction|skip
 refine ⟨(k+1,U1,false),.inl (by rw [fJ];simp only [iQ,mI,C7];exact Xa),by simp only;omega,hU,hM,by simp only;omega,by simp only;omega⟩):p:=h
class Kih:Prop
theorem Kih.k (_:Kih) (h:p:=by
 first|contradiction|skip
 refine ⟨(k+1,U1,true),.inl (by rw [fJ];simp only [iQ,mI,C7];exact Xa),by simp only;omega,hU,hM,by simp only;omega,by simp only;omega⟩):p:=h
class Kif:Prop
theorem Kif.k (_:Kif) (h:p:=by
 first|contradiction|skip
 cases H1 with
 | false =>
  have Jl:(Z1 n).post ⟨t,c0,(some b),U⟩=pB t c1 b U1:=Jk;refine Zm (bc:=Z1 n) ⟨t,c0,(some b),U⟩ [90000,90001,90002,90003,90004,90005,90006,90007] Un rfl (by simp) (by rw [Jl];rfl) ?_ ?_ ?_
  ·show Ze _ _ (pB t c0 b U) _;rw [Yh];simp [Ze,lk,Q4,rnA,rnAs,rk]
  ·show Zj (List.drop (pB t c0 b U).length _) _;rw [Yh];simp [Zj,lk]
  have Z6:=@Ye;have Qb:=@Yh;have Kq:Kig:=⟨⟩;exact Qa
 | true =>
  have Jl:(Z1 n).post ⟨t,c0,(some b),U⟩=pM t c1 b U1:=Jk;refine Zm (bc:=Z1 n) ⟨t,c0,(some b),U⟩ [90000,90001,90002,90003,90004,90005,90006,90007,60000] Un rfl (by simp) (by rw [Jl];rfl) ?_ ?_ ?_
  ·show Ze _ _ (pB t c0 b U) _;rw [Yh];simp [Ze,lk,Q4,rnA,rnAs,rk]
  ·show Zj (List.drop (pB t c0 b U).length _) _;rw [Yh];simp [Zj,lk]
  have Z6:=@Ye;have Qb:=@bJ;have Kq:Kih:=⟨⟩;exact Qa):p:=h
class Kij:Prop
theorem Kij.k (_:Kij) (h:p:=by
 first|contradiction|skip
 refine ⟨(k+1,U1,true),.inl (by rw [fJ];simp only [iQ,mI,C7];exact Xa),by simp only;omega,hU,hM,by simp only;omega,by simp only;omega⟩):p:=h
class Kik:Prop
theorem Kik.k (_:Kik) (h:p:=by
 first|contradiction|skip
 refine ⟨(k+1,U1,true),.inr (by rw [fJ];simp only [iQ,mI,C7];exact Qfd),by simp only;omega,hU,hM,by simp only;omega,by simp only;omega⟩):p:=h
class Kii:Prop
theorem Kii.k (_:Kii) (h:p:=by
 first|contradiction|skip
 cases H1 with
 | false =>
  have Jl:(Z1 n).post ⟨t,c0,(some b),U⟩=pB t c1 b U1:=Jk;refine Zm (bc:=Z1 n) ⟨t,c0,(some b),U⟩ [90000,90001,90002,90003,90004,90005,90006,60000] Un rfl (by simp) (by rw [Jl];rfl) ?_ ?_ ?_
  ·show Ze _ _ (pB t c0 b U) _;rw [Yh];simp [Ze,lk,Q4,rnA,rnAs,rk]
  ·show Zj (List.drop (pB t c0 b U).length _) _;rw [Yh];simp [Zj,lk]
  have Z6:=@Ye;have Qb:=@Yh;have Kq:Kij:=⟨⟩;exact Qa
 | true =>
  have Jl:(Z1 n).post ⟨t,c0,(some b),U⟩=pM t c1 b U1:=Jk;refine Zm (bc:=Z1 n) ⟨t,c0,(some b),U⟩ [90000,90001,90002,90003,90004,90005,90006,60000,60001] Un rfl (by simp) (by rw [Jl];rfl) ?_ ?_ ?_
  ·show Ze _ _ (pB t c0 b U) _;rw [Yh];simp [Ze,lk,Q4,rnA,rnAs,rk]
  ·show Zj (List.drop (pB t c0 b U).length _) _;rw [Yh];simp [Zj,lk]
  have Z6:=@Ye;have Qb:=@bJ;have Kq:Kik:=⟨⟩;exact Qa):p:=h
class Kic:Prop
theorem Kic.k (_:Kic) (h:p:=by
 first|contradiction|skip
 refine eY 90002 60000 60001 [18,19,20,21] (fun q:Nat×List (List UInt8)×Bool=>[(17,.d (.int .i64 q.1))]) (fun q:Nat×List (List UInt8)×Bool=>[(90001,.box false [.d (.int .i64 (i+1+(ndss (ks.take q.1)).length:Nat))]),(90006,.mp (q.2.1.map enc) ((Rb q.2.1).map enc) false)]++(Qc5 b) q.2.2) (fun q:Nat×List (List UInt8)×Bool=>q.1≤ks.length∧partTs ⟨pk,pl,pn,pb,pm,pq,pt,pu⟩ (ks.drop q.1) q.1 b q.2.1=V∧(q.2.2||hasBs (ks.drop q.1))=H∧q.2.1.length≤S.length+(ndss (ks.take q.1)).length) (fun q:Nat×List (List UInt8)×Bool=>ks.length-q.1) (0,S,false) ?_ ?_ ?_
 ·exact ⟨Nat.zero_le _,hV,by simpa using Qe9,by simp⟩
 ·simp only [iQ,C7,List.take_zero,ndss];exact Xa
 rintro ⟨k,U,mv⟩ ⟨hk,hU,hM,Qe2⟩;simp only at hk hU hM Qe2;rcases Qh k ks.length with ⟨Qg,Qe⟩|⟨Qg,Qe⟩
 rotate_left
 ·have Zec:k=ks.length:=by omega
  rw [Zec,List.drop_length] at hU hM;rw [partTs] at hU;rw [hasBs,Bool.or_false] at hM;subst hU hM;rw [Zec,List.take_length];have Q2:i+1+(ndss ks).length=j:=by omega
  rw [Q2];rw [Zec] at Qe;cases mv with
  | false =>
   have Ql:pP t j (some b) false U=_:=(show pP t j (some b) false U=pB t j b U from rfl).trans (Yh _ _ _ _);have Z6:=@iQ;have Qb:=@C7;have Kq:Kid:=⟨⟩;exact Qa
  | true =>
   have Ql:pP t j (some b) true U=_:=(show pP t j (some b) true U=pM t j b U from rfl).trans (bJ _ _ _ _);have Z6:=@mI;have Qb:=@C7;have Kq:Kie:=⟨⟩;exact Qa
 have ax:=aY Xs Qg;have K5:=Qj0 Qg;have Zyl:=mF Qg;rw [dA Qg,Qek] at hU;rw [jQ Qg,←Bool.or_assoc] at hM;obtain ⟨c0,Zye⟩:=exq (i+1+(ndss (ks.take k)).length);rw [Zye] at ax ⊢;have fJ:i+1+(ndss (ks.take (k+1))).length=c0+(nds ks[k]).length:=by omega
 have Zic:=Yl (ks.take (k+1)) (ks.drop (k+1));have Zid:=congrArg List.length Zic;rw [List.take_append_drop,Zb] at Zid;have zJ:=partT_len ks[k] b U;obtain ⟨y,Qdp⟩:=exq (ks[k]);rw [Qdp] at ax K5 Zyl hU hM fJ zJ;obtain ⟨U1,Zyf⟩:=exq (partT y b U);obtain ⟨H1,Zih⟩:=exq (hasB y);obtain ⟨c1,Eu⟩:=exq (c0+(nds y).length);rw [Zyf] at hU zJ;rw [Zih] at hM;rw [Eu] at fJ;clear Zic;cases mv with
 | false =>
  have Un:(PX.mk t c0 (some b) U).Ok n 0:=⟨hT,y,ax,by omega,by show (b).length+0+_≤_;omega,by show U.length+_≤_;omega⟩
  have Jk:=Up (n:=n) (o:=(some b)) ax Eu Zih Zyf;have Z6:=@iQ;have Qb:=@C7;have Kq:Kif:=⟨⟩;exact Qa
 | true =>
  have Un:(PX.mk t c0 (some b) U).Ok n 0:=⟨hT,y,ax,by omega,by show (b).length+0+_≤_;omega,by show U.length+_≤_;omega⟩
  have Jk:=Up (n:=n) (o:=(some b)) ax Eu Zih Zyf;have Z6:=@mI;have Qb:=@C7;have Kq:Kii:=⟨⟩;exact Qa):p:=h
theorem stepb_FreePart (n:Nat) (ih:X9 Tryz.prog (44,Z1 n)):X9 Tryz.prog (44,(Z1 (n+1))):=by
 obtain ⟨Kx,Kt,Kc,Kd,Kb,Ku,Kw,K,Y0,Xr,eV,kB,_⟩:=Yc Qp Z0 [] false (Xu Tk Ns.eq_def (A6 goodb_containsSt X7.eq_def (A6 (stepbm_FreeWith n ih) (Z3.eq_def n) (A6 ih (Z1.eq_def n) Yb))));refine bR K Tryz.func44 [] rfl 63 rfl (fun c hc x X5=>?_);obtain ⟨t,i,bd,S⟩:=x;obtain ⟨hT,y,hy,hn,hb,hS⟩:=X5;simp only at hT hy hb hS;obtain ⟨V,hV⟩:=exq (partT y (Hr bd) S);obtain ⟨j,hj⟩:=exq (i+(nds y).length);obtain ⟨H,hH⟩:=exq (hasB y);have Jc:=Up (n:=n+1) (o:=bd) hy hj hH hV;have Bk:=hy.lt;have Qz:=Qc e0 Bk;have hr:=hy.root e0;have Xs:=hy.kids;have Qd9:=(hT.2 (t.getD i e0) (by simp [Bk])).2.2
 have M8:=hy.le;have vA:=hT.1;obtain ⟨p,ks⟩:=y;rw [show (mk p ks).kids=ks from rfl,show (mk p ks).root=p from rfl] at Xs;rw [show (mk p ks).root=p from rfl] at hr;obtain ⟨Xs,cX⟩:=Xs;rw [hr] at Qz Qd9;rw [Jt,Zd] at hn hb hS hj M8;rw [partT] at hV;rw [hasB] at hH;have Qq:=Yu p;have Wa:=bC (xs:=ks);obtain ⟨pk,pl,pn,pb,pm,pq,pt,pu⟩:=p;simp only at hV hH Qd9;rw [←cX] at Qq;clear hy hr;cases bd with
 | none =>
  simp only [Hr,List.length_nil] at hb hV;refine ⟨?_,?_,?_,?_,?_⟩
  ·show Xg [.ref 90000 0,.ref 90001 0,.ref 90002 0,.ref 90003 0,.ref 90004 0,.ref 90005 0] (pN t i S);rw [Ms];simp [Xg,Jp,Obj.tied,Zr,keptAll,AV.kept,Zq,Jv,lk]
  ·show Zr (pN t i S);rw [Ms];simp [Zr]
  ·rw [Jc];cases H with
   | false =>
    show Xg [] (pN t j V);rw [Ms];simp [Xg,Jp,Obj.tied,Zr,keptAll,AV.kept,Zq,Jv,lk]
   | true =>
    show Xg [] (pB t j [] V);rw [Yh];simp [Xg,Jp,Obj.tied,Zr,keptAll,AV.kept,Zq,Jv,lk]
  ·rw [Jc];cases H with
   | false =>
    show (pN t i S).length≤(pN t j V).length;rw [Ms,Ms];simp
   | true =>
    show (pN t i S).length≤(pB t j [] V).length;rw [Ms,Yh];simp
  show U6 Kx c (V5 _ _ (pN t i S).length (.tup []) ((Z1 (n+1)).post ⟨t,i,none,S⟩)) ⟨[.ref 90000 0,.ref 90001 0,.ref 90002 0,.ref 90003 0,.ref 90004 0,.ref 90005 0]++Vf 57,Zq (pN t i S)⟩;rw [Jc,Ms];cases hc;refine Ym 3 ?_;by_cases h1:pk=1
  ·subst h1;have hz:ks=[]:=List.length_eq_zero_iff.1 (by rw [cX];rfl)
   subst hz;rw [if_pos rfl] at hV;obtain rfl:H=false:=by rw [←hH];rfl
   have Qh4:i+1=j:=by rw [←hj];simp [ndss]
   have Q2:(i:Int)+1=(j:Int):=by omega
   have Ql:pP t j none false V=_:=(show pP t j none false V=pN t j V from rfl).trans (Ms _ _ _);have Kq:Khq:=⟨⟩;exact Qa
  rw [if_neg h1] at hV;have Q7:(pk==1)=false:=Za.2 h1;by_cases h2:pk=2
  ·subst h2;obtain ⟨x1,rfl⟩:∃ x1,ks=[x1]:=List.length_eq_one_iff.1 (by rw [cX];rfl)
   have a1:=Xs.head.1;simp only [ndss,List.append_nil] at hn hb hS hj;obtain rfl:H=true:=by rw [←hH];rfl
   have K8:partT x1 (([]:List (List UInt8))++[pb]) S=V:=by rw [←hV,partTs,partTs];rfl
   have Jk:=Yn (n:=n) (o:=none) a1 (show i+1+(nds x1).length=j by omega) K8
   have Un:(Z3 n).ok (⟨t,i+1,none,S⟩,[pb]):=⟨hT,x1,a1,by omega,by show (([]:List (List UInt8))).length+1+_≤_;simp;omega,by show S.length+_≤_;omega⟩
   have Ql:pP t j none true V=_:=(show pP t j none true V=pB t j [] V from rfl).trans (Yh _ _ _ _);have Kq:Khs:=⟨⟩;exact Qa
  have Zz:(pk==2)=false:=Za.2 h2;by_cases h8:pk=8
  ·subst h8;obtain ⟨x1,rfl⟩:∃ x1,ks=[x1]:=List.length_eq_one_iff.1 (by rw [cX];rfl)
   have a1:=Xs.head.1;simp only [ndss,List.append_nil] at hn hb hS hj;obtain rfl:H=true:=by rw [←hH];rfl
   have K8:partT x1 (([]:List (List UInt8))++[pb]) S=V:=by rw [←hV,partTs,partTs];rfl
   have Jk:=Yn (n:=n) (o:=none) a1 (show i+1+(nds x1).length=j by omega) K8
   have Un:(Z3 n).ok (⟨t,i+1,none,S⟩,[pb]):=⟨hT,x1,a1,by omega,by show (([]:List (List UInt8))).length+1+_≤_;simp;omega,by show S.length+_≤_;omega⟩
   have Ql:pP t j none true V=_:=(show pP t j none true V=pB t j [] V from rfl).trans (Yh _ _ _ _);have Kq:Khu:=⟨⟩;exact Qa
  have Qi:(pk==8)=false:=Za.2 h8;by_cases h4:pk=4
  ·subst h4;obtain ⟨x1,x2,rfl⟩:∃ x1 x2,ks=[x1,x2]:=oP (by rw [cX];rfl)
   have a1:=Xs.head.1;have a2:=Xs.head.2.head.1;simp only [ndss,List.append_nil,Zb] at hn hb hS hj;obtain rfl:H=true:=by rw [←hH];rfl
   obtain ⟨j1,A0⟩:=exq (i+1+(nds x1).length);rw [A0] at a2;obtain ⟨V1,K8⟩:=exq (partT x1 ([]:List (List UInt8)) S);have Mn:=partT_len x1 ([]:List (List UInt8)) S;rw [K8] at Mn;have H8:partT x2 (([]:List (List UInt8))++[pb]) V1=V:=by rw [←hV,partTs,partTs,partTs,←K8];rfl
   obtain ⟨H1,Zih⟩:=exq (hasB x1);have Jk:=Up (n:=n) (o:=none) a1 A0 Zih K8;have Un:(PX.mk t (i+1) none S).Ok n 0:=⟨hT,x1,a1,by omega,by show (([]:List (List UInt8))).length+0+_≤_;simp;omega,by show S.length+_≤_;omega⟩
   have Ql:pP t j none true V=_:=(show pP t j none true V=pB t j [] V from rfl).trans (Yh _ _ _ _);have Kq:Khw:=⟨⟩;exact Qa
  have Qo:(pk==4)=false:=Za.2 h4;by_cases h5:pk=5
  ·subst h5;obtain ⟨x1,x2,rfl⟩:∃ x1 x2,ks=[x1,x2]:=oP (by rw [cX];rfl)
   have a1:=Xs.head.1;have a2:=Xs.head.2.head.1;simp only [ndss,List.append_nil,Zb] at hn hb hS hj;obtain rfl:H=true:=by rw [←hH];rfl
   obtain ⟨j1,A0⟩:=exq (i+1+(nds x1).length);rw [A0] at a2;obtain ⟨V1,K8⟩:=exq (partT x1 (([]:List (List UInt8))++[pn,pb]) S);have Mn:=partT_len x1 (([]:List (List UInt8))++[pn,pb]) S;rw [K8] at Mn;have H8:partT x2 (([]:List (List UInt8))++[pn]) V1=V:=by rw [←hV,partTs,partTs,partTs,←K8];rfl
   have Jk:(Z3 n).post (⟨t,i+1,none,S⟩,[pn,pb])=wB t j1 [] [pn,pb] V1:=Yn (n:=n) (o:=none) a1 A0 K8;have Un:(Z3 n).ok (⟨t,i+1,none,S⟩,[pn,pb]):=⟨hT,x1,a1,by omega,by show (([]:List (List UInt8))).length+2+_≤_;simp;omega,by show S.length+_≤_;omega⟩
   have Ql:pP t j none true V=_:=(show pP t j none true V=pB t j [] V from rfl).trans (Yh _ _ _ _);have Kq:KhB:=⟨⟩;exact Qa
  have Qt:(pk==5)=false:=Za.2 h5;have Qek:∀ k,Dz ⟨pk,pl,pn,pb,pm,pq,pt,pu⟩ k ([]:List (List UInt8))=([]:List (List UInt8)):=fun k=>by unfold Dz;rw [if_neg (by simp only;omega),if_neg h5]
  have Qe9:hasBs ks=H:=by rw [←hH,Zz,Qi,Qo,Qt];rfl
  have Kq:KhE:=⟨⟩;exact Qa
 | some b =>
  simp only [Hr] at hb hV;refine ⟨?_,?_,?_,?_,?_⟩
  ·show Xg [.ref 90000 0,.ref 90001 0,.ref 90002 0,.ref 90003 0,.ref 90004 0,.ref 90005 0] (pB t i b S);rw [Yh];simp [Xg,Jp,Obj.tied,Zr,keptAll,AV.kept,Zq,Jv,lk]
  ·show Zr (pB t i b S);rw [Yh];simp [Zr]
  ·rw [Jc];cases H with
   | false =>
    show Xg [] (pB t j b V);rw [Yh];simp [Xg,Jp,Obj.tied,Zr,keptAll,AV.kept,Zq,Jv,lk]
   | true =>
    show Xg [] (pM t j b V);rw [bJ];simp [Xg,Jp,Obj.tied,Zr,keptAll,AV.kept,Zq,Jv,lk]
  ·rw [Jc];cases H with
   | false =>
    show (pB t i b S).length≤(pB t j b V).length;rw [Yh,Yh];simp
   | true =>
    show (pB t i b S).length≤(pM t j b V).length;rw [Yh,bJ];simp
  show U6 Kx c (V5 _ _ (pB t i b S).length (.tup []) ((Z1 (n+1)).post ⟨t,i,(some b),S⟩)) ⟨[.ref 90000 0,.ref 90001 0,.ref 90002 0,.ref 90003 0,.ref 90004 0,.ref 90005 0]++Vf 57,Zq (pB t i b S)⟩;rw [Jc,Yh];cases hc;refine Ym 3 ?_;by_cases h1:pk=1
  ·subst h1;have hz:ks=[]:=List.length_eq_zero_iff.1 (by rw [cX];rfl)
   subst hz;rw [if_pos rfl] at hV;obtain rfl:H=false:=by rw [←hH];rfl
   have Qh4:i+1=j:=by rw [←hj];simp [ndss]
   have Q2:(i:Int)+1=(j:Int):=by omega
   have Ql:pP t j (some b) false V=_:=(show pP t j (some b) false V=pB t j b V from rfl).trans (Yh _ _ _ _);have Kq:KhN:=⟨⟩;exact Qa
  rw [if_neg h1] at hV;have Q7:(pk==1)=false:=Za.2 h1;by_cases h2:pk=2
  ·subst h2;obtain ⟨x1,rfl⟩:∃ x1,ks=[x1]:=List.length_eq_one_iff.1 (by rw [cX];rfl)
   have a1:=Xs.head.1;simp only [ndss,List.append_nil] at hn hb hS hj;obtain rfl:H=true:=by rw [←hH];rfl
   have K8:partT x1 (b++[pb]) S=V:=by rw [←hV,partTs,partTs];rfl
   have Jk:=Yn (n:=n) (o:=(some b)) a1 (show i+1+(nds x1).length=j by omega) K8
   have Un:(Z3 n).ok (⟨t,i+1,(some b),S⟩,[pb]):=⟨hT,x1,a1,by omega,by show (b).length+1+_≤_;omega,by show S.length+_≤_;omega⟩
   have Ql:pP t j (some b) true V=_:=(show pP t j (some b) true V=pM t j b V from rfl).trans (bJ _ _ _ _);have Kq:KhQ:=⟨⟩;exact Qa
  have Zz:(pk==2)=false:=Za.2 h2;by_cases h8:pk=8
  ·subst h8;obtain ⟨x1,rfl⟩:∃ x1,ks=[x1]:=List.length_eq_one_iff.1 (by rw [cX];rfl)
   have a1:=Xs.head.1;simp only [ndss,List.append_nil] at hn hb hS hj;obtain rfl:H=true:=by rw [←hH];rfl
   have K8:partT x1 (b++[pb]) S=V:=by rw [←hV,partTs,partTs];rfl
   have Jk:=Yn (n:=n) (o:=(some b)) a1 (show i+1+(nds x1).length=j by omega) K8
   have Un:(Z3 n).ok (⟨t,i+1,(some b),S⟩,[pb]):=⟨hT,x1,a1,by omega,by show (b).length+1+_≤_;omega,by show S.length+_≤_;omega⟩
   have Ql:pP t j (some b) true V=_:=(show pP t j (some b) true V=pM t j b V from rfl).trans (bJ _ _ _ _);have Kq:KhS:=⟨⟩;exact Qa
  have Qi:(pk==8)=false:=Za.2 h8;by_cases h4:pk=4
  ·subst h4;obtain ⟨x1,x2,rfl⟩:∃ x1 x2,ks=[x1,x2]:=oP (by rw [cX];rfl)
   have a1:=Xs.head.1;have a2:=Xs.head.2.head.1;simp only [ndss,List.append_nil,Zb] at hn hb hS hj;obtain rfl:H=true:=by rw [←hH];rfl
   obtain ⟨j1,A0⟩:=exq (i+1+(nds x1).length);rw [A0] at a2;obtain ⟨V1,K8⟩:=exq (partT x1 b S);have Mn:=partT_len x1 b S;rw [K8] at Mn;have H8:partT x2 (b++[pb]) V1=V:=by rw [←hV,partTs,partTs,partTs,←K8];rfl
   obtain ⟨H1,Zih⟩:=exq (hasB x1);have Jk:=Up (n:=n) (o:=(some b)) a1 A0 Zih K8;have Un:(PX.mk t (i+1) (some b) S).Ok n 0:=⟨hT,x1,a1,by omega,by show (b).length+0+_≤_;omega,by show S.length+_≤_;omega⟩
   have Ql:pP t j (some b) true V=_:=(show pP t j (some b) true V=pM t j b V from rfl).trans (bJ _ _ _ _);have Kq:KhU:=⟨⟩;exact Qa
  have Qo:(pk==4)=false:=Za.2 h4;by_cases h5:pk=5
  ·subst h5;obtain ⟨x1,x2,rfl⟩:∃ x1 x2,ks=[x1,x2]:=oP (by rw [cX];rfl)
   have a1:=Xs.head.1;have a2:=Xs.head.2.head.1;simp only [ndss,List.append_nil,Zb] at hn hb hS hj;obtain rfl:H=true:=by rw [←hH];rfl
   obtain ⟨j1,A0⟩:=exq (i+1+(nds x1).length);rw [A0] at a2;obtain ⟨V1,K8⟩:=exq (partT x1 (b++[pn,pb]) S);have Mn:=partT_len x1 (b++[pn,pb]) S;rw [K8] at Mn;have H8:partT x2 (b++[pn]) V1=V:=by rw [←hV,partTs,partTs,partTs,←K8];rfl
   have Jk:(Z3 n).post (⟨t,i+1,(some b),S⟩,[pn,pb])=wM t j1 b [pn,pb] V1:=Yn (n:=n) (o:=(some b)) a1 A0 K8;have Un:(Z3 n).ok (⟨t,i+1,(some b),S⟩,[pn,pb]):=⟨hT,x1,a1,by omega,by show (b).length+2+_≤_;omega,by show S.length+_≤_;omega⟩
   have Ql:pP t j (some b) true V=_:=(show pP t j (some b) true V=pM t j b V from rfl).trans (bJ _ _ _ _);have Kq:KhZ:=⟨⟩;exact Qa
  have Qt:(pk==5)=false:=Za.2 h5;have Qek:∀ k,Dz ⟨pk,pl,pn,pb,pm,pq,pt,pu⟩ k b=b:=fun k=>by unfold Dz;rw [if_neg (by simp only;omega),if_neg h5]
  have Qe9:hasBs ks=H:=by rw [←hH,Zz,Qi,Qo,Qt];rfl
  have Kq:Kic:=⟨⟩;exact Qa
theorem Cx:∀ n,X9 Tryz.prog (44,Z1 n)
 | 0=>P5 (J6 Tryz.func44 (by kernel_rfl) rfl) Av
 | n+1=>stepb_FreePart n (Cx n)
open Go.Proofs Go.Shelf Go.RowKit
def mW:Ren:=⟨fun x=>if x=7 then 47 else if x=10 then 72 else x,fun x=>if x=3 then 4 else if x=23 then 46 else if x=26 then 9 else if x=27 then 64 else if x=28 then 65 else if x=33 then 68 else x,fun x=>x⟩
theorem Qdf : Bears Tryz.prog (mW.f 7) (SlBodyZ.n7 mW) := ⟨"maps.Keys[map[string]bool,string,bool]", by decide, by show Tryz.prog.funcs[47]? = _; rw [Tryz.func47]; kernel_rfl⟩
theorem Qa3 : Bears Tryz.prog (mW.f 10) (SlBodyZ.n10 mW) := ⟨"maps.Keys[map[string]bool,string,bool]$1", by decide, by show Tryz.prog.funcs[72]? = _; rw [Tryz.func72]; kernel_rfl⟩
theorem Qa2:SlLaysZ.n7 Tryz.prog mW:=⟨by kernel_rfl,Qdf,Qa3,Tryz.underlying0,Tryz.isAgg0,Tryz.sizeOf0,Tryz.zeroValue0,Tryz.underlying4,Tryz.isAgg4,Tryz.sizeOf4,Tryz.zeroValue4,Tryz.underlying46,Tryz.isAgg46,Tryz.sizeOf46,Tryz.zeroValue46,Tryz.underlying9,Tryz.isAgg9,Tryz.sizeOf9,Tryz.zeroValue9,Tryz.underlying64,Tryz.isAgg64,Tryz.sizeOf64,Tryz.zeroValue64,Tryz.underlying65,Tryz.isAgg65,Tryz.sizeOf65,Tryz.zeroValue65,Tryz.underlying68,Tryz.isAgg68,Tryz.sizeOf68,Tryz.zeroValue68⟩
def dK:Ren:=⟨fun x=>if x=6 then 46 else if x=8 then 70 else if x=9 then 71 else if x=11 then 95 else x,fun x=>if x=24 then 34 else if x=26 then 9 else if x=28 then 65 else if x=33 then 68 else x,fun x=>x⟩
theorem Qdb : Bears Tryz.prog (dK.f 6) (SlBodyZ.n6 dK) := ⟨"slices.Sorted[string]", by decide, by show Tryz.prog.funcs[46]? = _; rw [Tryz.func46]; kernel_rfl⟩
theorem Qda : Bears Tryz.prog (dK.f 8) (SlBodyZ.n8 dK) := ⟨"slices.Collect[string]", by decide, by show Tryz.prog.funcs[70]? = _; rw [Tryz.func70]; kernel_rfl⟩
theorem Qai : Bears Tryz.prog (dK.f 11) (SlBodyZ.n11 dK) := ⟨"slices.AppendSeq[[]string,string]", by decide, by show Tryz.prog.funcs[95]? = _; rw [Tryz.func95]; kernel_rfl⟩
theorem Qc9:SlLaysZ.n6 Tryz.prog dK:=⟨by kernel_rfl,Qdb,Qda,Qai,Tryz.underlying0,Tryz.isAgg0,Tryz.sizeOf0,Tryz.zeroValue0,Tryz.underlying34,Tryz.isAgg34,Tryz.sizeOf34,Tryz.zeroValue34,Tryz.underlying9,Tryz.isAgg9,Tryz.sizeOf9,Tryz.zeroValue9,Tryz.underlying65,Tryz.isAgg65,Tryz.sizeOf65,Tryz.zeroValue65,by kernel_rfl⟩
def X1:Ren:=⟨fun x=>if x=6 then 71 else if x=8 then 97 else if x=9 then 96 else if x=19 then 131 else if x=20 then 132 else if x=21 then 122 else if x=22 then 123 else if x=23 then 124 else if x=24 then 125 else if x=25 then 126 else if x=26 then 127 else if x=27 then 128 else if x=28 then 129 else if x=29 then 130 else if x=31 then 152 else if x=32 then 153 else if x=36 then 151 else if x=37 then 154 else if x=38 then 155 else if x=39 then 156 else if x=41 then 166 else x,fun x=>if x=26 then 34 else if x=27 then 34 else if x=29 then 9 else if x=32 then 103 else if x=35 then 123 else if x=36 then 124 else if x=41 then 129 else if x=44 then 132 else if x=46 then 134 else if x=53 then 146 else if x=57 then 150 else if x=63 then 163 else if x=64 then 164 else x,fun x=>x⟩
theorem Qde : Bears Tryz.prog (X1.f 6) (SlBodyM.n6 X1) := ⟨"slices.Sort[[]string,string]", by decide, by show Tryz.prog.funcs[71]? = _; rw [Tryz.func71]; kernel_rfl⟩
theorem Qdd:Tryz.prog.funcs[X1.f 8]?=some (SlBodyM.n8 X1):=by show Tryz.prog.funcs[97]?=_;rw [Tryz.func97];kernel_rfl
theorem Qdc : Bears Tryz.prog (X1.f 9) (SlBodyM.n9 X1) := ⟨"slices.pdqsortOrdered[string]", by decide, by show Tryz.prog.funcs[96]? = _; rw [Tryz.func96]; kernel_rfl⟩
theorem Qa1:Tryz.prog.funcs[X1.f 19]?=some (SlBodyM.n19 X1):=by show Tryz.prog.funcs[131]?=_;rw [Tryz.func131];kernel_rfl
theorem Qa0:Tryz.prog.funcs[X1.f 20]?=some (SlBodyM.n20 X1):=by show Tryz.prog.funcs[132]?=_;rw [Tryz.func132];kernel_rfl
theorem Qaz : Bears Tryz.prog (X1.f 21) (SlBodyM.n21 X1) := ⟨"slices.insertionSortOrdered[string]", by decide, by show Tryz.prog.funcs[122]? = _; rw [Tryz.func122]; kernel_rfl⟩
theorem Qay : Bears Tryz.prog (X1.f 22) (SlBodyM.n22 X1) := ⟨"slices.heapSortOrdered[string]", by decide, by show Tryz.prog.funcs[123]? = _; rw [Tryz.func123]; kernel_rfl⟩
theorem Qax : Bears Tryz.prog (X1.f 23) (SlBodyM.n23 X1) := ⟨"slices.breakPatternsOrdered[string]", by decide, by show Tryz.prog.funcs[124]? = _; rw [Tryz.func124]; kernel_rfl⟩
theorem Qaw : Bears Tryz.prog (X1.f 24) (SlBodyM.n24 X1) := ⟨"slices.choosePivotOrdered[string]", by decide, by show Tryz.prog.funcs[125]? = _; rw [Tryz.func125]; kernel_rfl⟩
theorem Qav : Bears Tryz.prog (X1.f 25) (SlBodyM.n25 X1) := ⟨"slices.reverseRangeOrdered[string]", by decide, by show Tryz.prog.funcs[126]? = _; rw [Tryz.func126]; kernel_rfl⟩
theorem Qau : Bears Tryz.prog (X1.f 26) (SlBodyM.n26 X1) := ⟨"slices.partialInsertionSortOrdered[string]", by decide, by show Tryz.prog.funcs[127]? = _; rw [Tryz.func127]; kernel_rfl⟩
theorem Qat : Bears Tryz.prog (X1.f 27) (SlBodyM.n27 X1) := ⟨"cmp.Less[string]", by decide, by show Tryz.prog.funcs[128]? = _; rw [Tryz.func128]; kernel_rfl⟩
theorem Qas : Bears Tryz.prog (X1.f 28) (SlBodyM.n28 X1) := ⟨"slices.partitionEqualOrdered[string]", by decide, by show Tryz.prog.funcs[129]? = _; rw [Tryz.func129]; kernel_rfl⟩
theorem Qar : Bears Tryz.prog (X1.f 29) (SlBodyM.n29 X1) := ⟨"slices.partitionOrdered[string]", by decide, by show Tryz.prog.funcs[130]? = _; rw [Tryz.func130]; kernel_rfl⟩
theorem Qaq:Tryz.prog.funcs[X1.f 31]?=some (SlBodyM.n31 X1):=by show Tryz.prog.funcs[152]?=_;rw [Tryz.func152];kernel_rfl
theorem Qap:Tryz.prog.funcs[X1.f 32]?=some (SlBodyM.n32 X1):=by show Tryz.prog.funcs[153]?=_;rw [Tryz.func153];kernel_rfl
theorem Qao : Bears Tryz.prog (X1.f 36) (SlBodyM.n36 X1) := ⟨"slices.siftDownOrdered[string]", by decide, by show Tryz.prog.funcs[151]? = _; rw [Tryz.func151]; kernel_rfl⟩
theorem Qan : Bears Tryz.prog (X1.f 37) (SlBodyM.n37 X1) := ⟨"slices.medianAdjacentOrdered[string]", by decide, by show Tryz.prog.funcs[154]? = _; rw [Tryz.func154]; kernel_rfl⟩
theorem Qam : Bears Tryz.prog (X1.f 38) (SlBodyM.n38 X1) := ⟨"slices.medianOrdered[string]", by decide, by show Tryz.prog.funcs[155]? = _; rw [Tryz.func155]; kernel_rfl⟩
theorem Qal : Bears Tryz.prog (X1.f 39) (SlBodyM.n39 X1) := ⟨"cmp.isNaN[string]", by decide, by show Tryz.prog.funcs[156]? = _; rw [Tryz.func156]; kernel_rfl⟩
theorem Qak : Bears Tryz.prog (X1.f 41) (SlBodyM.n41 X1) := ⟨"slices.order2Ordered[string]", by decide, by show Tryz.prog.funcs[166]? = _; rw [Tryz.func166]; kernel_rfl⟩
theorem Qaj:SlLaysM.n6 Tryz.prog X1:=⟨by kernel_rfl,Qde,Qdd,Qdc,Qa1,Qa0,Qaz,Qay,Qax,Qaw,Qav,Qau,Qat,Qas,Qar,Qaq,Qap,Qao,Qan,Qam,Qal,Qak,Tryz.underlying0,Tryz.isAgg0,Tryz.sizeOf0,Tryz.zeroValue0,Tryz.underlying3,Tryz.isAgg3,Tryz.sizeOf3,Tryz.zeroValue3,Tryz.underlying4,Tryz.isAgg4,Tryz.sizeOf4,Tryz.zeroValue4,Tryz.underlying5,Tryz.isAgg5,Tryz.sizeOf5,Tryz.zeroValue5,Tryz.underlying9,Tryz.isAgg9,Tryz.sizeOf9,Tryz.zeroValue9,Tryz.underlying34,Tryz.isAgg34,Tryz.sizeOf34,Tryz.zeroValue34,Tryz.underlying34,Tryz.isAgg34,Tryz.sizeOf34,Tryz.zeroValue34,Tryz.underlying9,Tryz.isAgg9,Tryz.sizeOf9,Tryz.zeroValue9,Tryz.underlying103,Tryz.isAgg103,Tryz.sizeOf103,Tryz.zeroValue103,Tryz.underlying123,Tryz.isAgg123,Tryz.sizeOf123,Tryz.zeroValue123,Tryz.underlying124,Tryz.isAgg124,Tryz.sizeOf124,Tryz.zeroValue124,Tryz.underlying129,Tryz.isAgg129,Tryz.sizeOf129,Tryz.zeroValue129,Tryz.underlying132,Tryz.isAgg132,Tryz.sizeOf132,Tryz.zeroValue132,Tryz.underlying134,Tryz.isAgg134,Tryz.sizeOf134,Tryz.zeroValue134,Tryz.underlying146,Tryz.isAgg146,Tryz.sizeOf146,Tryz.zeroValue146,Tryz.underlying150,Tryz.isAgg150,Tryz.sizeOf150,Tryz.zeroValue150,Tryz.underlying163,Tryz.isAgg163,Tryz.sizeOf163,Tryz.zeroValue163,Tryz.underlying164,Tryz.isAgg164,Tryz.sizeOf164,Tryz.zeroValue164⟩
open Go.Proofs Go.Shelf Go.RowKit Go.Maps Go.Sort
theorem Ze9 {w w':World} {m:Nat→Nat} {t n:Nat} {v:Value} {xs:List Value} {l:List D} (aA:w'.ownsRow w.heap.size t 1 v n xs) (hn:n=l.length) (hR:∀ F:Fix,RE F 1 l xs) (Vm:∀ b,w.heap.size≤b→m b=0) (K5:w.heap.size≤w'.heap.size) :
  ∃ m':Nat→Nat,(∀ b,b<w.heap.size→m' b=m b)∧(∀ b,w'.heap.size≤b→m' b=0)∧R ⟨w',m'⟩ (.list 1 l) v:=by
 subst hn;rcases aA.2 with ⟨rfl,h0⟩|⟨g,cap,cur,rfl,hb,hg,h1,h2,h3,h4⟩
 ·have hl:l=[]:=List.eq_nil_of_length_eq_zero h0;subst hl;refine ⟨m,fun _ _=>rfl,fun b hb=>Vm b (by omega),?_⟩
  simp only [R];exact ⟨none,0,rfl,Zl _,Nat.zero_le _,by simp⟩
 ·have Zia:g<w'.heap.size:=(Array.getElem?_eq_some_iff.1 hg).1;refine ⟨fun k=>if k=g then l.length else m k,fun b hb'=>?_,fun b hb'=>?_,?_⟩
  ·simp only [if_neg (show b≠g by omega)]
  ·simp only [if_neg (show b≠g by omega)]
   exact Vm b (by omega)
  ·simp only [R];refine ⟨_,cap,rfl,h1,h2,fun _=>⟨g,0,_,rfl,hR _,?_⟩⟩;have hl:=RE.length (hR ⟨w',m⟩);refine ⟨by simp [hl],fun j u hj=>?_⟩
   rw [Nat.zero_add];rw [←h4] at hj;rw [List.getElem?_take] at hj;split at hj
   ·simp only [World.cell?,hg];simpa using hj
   ·cases hj
structure MSB where
 ks:List (List UInt8)
 vs:List Bool
instance encMSB:Enc MSB:=⟨fun a=>.map (a.ks.map enc) (a.vs.map enc),fun x=>match x with
 | .map a b=>⟨a.map dec,b.map dec⟩
 | _=>⟨[],[]⟩,fun a=>by
  obtain ⟨k,v⟩:=a;simp only [List.map_map];have h1:(dec∘enc:List UInt8→List UInt8)=id:=funext fun x=>Enc.dec_enc x;have h2:(dec∘enc:Bool→Bool)=id:=funext fun x=>Enc.dec_enc x;rw [h1,h2,List.map_id,List.map_id]⟩
theorem Zao {ks:List (List UInt8)} {vs:List Bool}:C5 MSB (.map (ks.map enc) (vs.map enc))=True:=eq_true (Ue (⟨ks,vs⟩:MSB))
theorem Za5 {ks:List (List UInt8)} {vs:List Bool}:(dec (.map (ks.map enc) (vs.map enc)):MSB)=⟨ks,vs⟩:=Enc.dec_enc (⟨ks,vs⟩:MSB)
structure ItS where
 b:Bool
 ks:List (List UInt8)
 vs:List D
instance encItS:Enc ItS:=⟨fun a=>.it (cond a.b 72 999999) (a.ks.map enc) a.vs,fun x=>match x with
 | .it f a v=>⟨f==72,a.map dec,v⟩
 | _=>⟨true,[],[]⟩,fun a=>by
  obtain ⟨b,k,v⟩:=a;simp only [List.map_map];have h1:(dec∘enc:List UInt8→List UInt8)=id:=funext fun x=>Enc.dec_enc x;rw [h1,List.map_id];cases b<;>rfl⟩
theorem Zjn {a:ItS}:(enc a:D)=.it (cond a.b 72 999999) (a.ks.map enc) a.vs:=rfl
theorem Za1 {ks:List (List UInt8)} {vs:List D}:(enc (ItS.mk true ks vs):D)=.it 72 (ks.map enc) vs:=rfl
theorem Zap {ks:List (List UInt8)} {vs:List D}:C5 ItS (.it 72 (ks.map enc) vs)=True:=eq_true (Ue (⟨true,ks,vs⟩:ItS))
theorem Za6 {ks:List (List UInt8)} {vs:List D}:(dec (.it 72 (ks.map enc) vs):ItS)=⟨true,ks,vs⟩:=Enc.dec_enc (⟨true,ks,vs⟩:ItS)
theorem Zfc {F:Fix} {base:Nat} {pass:Nat→Prop} {x:D} {v:Value} (h:R F x v):rA F base pass (.d x) v:=by
 simp only [rA,Yk,kD];refine ⟨⟨_,[],rfl,h,rfl⟩,fun k hk=>?_⟩;simp [Qr] at hk
theorem Zjg {w:World} {m:Nat→Nat} {f t:Nat} {ks vs:List D} {v:Value} (hv:R ⟨w,m⟩ (.map ks vs) v) (Vm:∀ b,w.heap.size≤b→m b=0) :
  ∃ m':Nat→Nat,(∀ b,b<w.heap.size→m' b=m b)∧(∀ b,(w.alloc (.cells #[v] t)).heap.size≤b→m' b=0)∧R ⟨w.alloc (.cells #[v] t),m'⟩ (.it f ks vs) (.func (.func f) #[] #[.pointer (some ⟨w.heap.size,0,none⟩)]):=by
 simp only [R] at hv;obtain ⟨b,es,c,rfl,h1,h2,h3,h4,h5⟩:=hv;have Zif:b<w.heap.size:=(Array.getElem?_eq_some_iff.1 h1).1;have M8:Fix.le ⟨w,m⟩ ⟨w.alloc (.cells #[.map (some b)] t),fun k=>if k=w.heap.size then 1 else m k⟩:=by
  refine ⟨fun k=>?_,fun k es' c' hk Yg=>?_⟩
  ·by_cases hk:k=w.heap.size
   ·have h0:=Vm k (by omega)
    refine ⟨by simp only;rw [h0];exact Nat.zero_le _,fun off ho=>by simp only at ho;omega⟩
   ·refine ⟨by simp only [if_neg hk];exact Zl _,fun off ho=>?_⟩
    rcases Nat.lt_or_ge k w.heap.size with Qg|Pj
    ·exact World.cell?_of_block (Below.heap_alloc _ _ k Qg)
    ·have:=Vm k Pj;simp only at ho;omega
  ·have Qg:k<w.heap.size:=(Array.getElem?_eq_some_iff.1 Yg).1;exact (Below.heap_alloc _ _ k Qg).trans Yg
 refine ⟨fun k=>if k=w.heap.size then 1 else m k,fun k hk=>by simp only [if_neg (show k≠w.heap.size by omega)],fun k hk=>?_,?_⟩
 ·have hs:(w.alloc (.cells #[.map (some b)] t)).heap.size=w.heap.size+1:=by simp
  rw [hs] at hk;simp only [if_neg (show k≠w.heap.size by omega)]
  exact Vm k (by omega)
 ·simp only [R];refine ⟨w.heap.size,b,es,c,rfl,by simp,by simp,(Below.heap_alloc _ _ b Zif).trans h1,?_,Rs.mono M8 h3,Rs.mono M8 h4,h5⟩
  simp only [if_neg (show b≠w.heap.size by omega)]
  exact h2
def oJ:Con:=Xh (fun (_:MSB)=>True) (fun m=>ItS.mk true m.ks (m.vs.map enc))
theorem xS:Jd Tryz.prog (47,oJ):=by
 refine ⟨J6 Tryz.func47 (by kernel_rfl) rfl,?_⟩
 intro m w J0 vs Zo aD F9 Vm Zia;obtain ⟨a,rfl,-⟩:=Qs (id Zo:(Xh (fun (_:MSB)=>True) (fun m=>ItS.mk true m.ks (m.vs.map enc))).pre J0);simp only [Yk,kD] at aD;obtain ⟨v,r,rfl,hv,rfl⟩:=aD;obtain ⟨m',q1,q2,q3⟩:=Zjg (f:=72) (t:=46) (m:=m) hv Vm;have hm:∃ b,v=.map (some b):=by
  have hv':=hv
  change R _ (.map _ _) _ at hv'
  simp only [R] at hv';obtain ⟨b,_,_,e,_⟩:=hv';exact ⟨b,e⟩
 obtain ⟨b,rfl⟩:=hm;have hk:=(callsIn_wide (n:=5)).1 (AnyZ.keys_in Qa2 Fence.wide 5 trivial rfl (some b) w);refine Calls.mono hk ?_;rintro e w' ⟨rfl,rfl⟩;have hb:=(Below.refl w.heap.size w).alloc (Zl _) (.cells #[.map (some b)] 46);exact ⟨_,m',rfl,⟨hb.os,hb.tape,hb.output,hb.size,fun k hk _=>hb.block k hk⟩,fun b hb _=>q1 b hb,q2,by
  show rA _ _ _ (.d (enc (ItS.mk true (dec (enc a):MSB).ks ((dec (enc a):MSB).vs.map enc)))) _;rw [Enc.dec_enc];exact Zfc q3⟩
def Dt (l:List (List UInt8)):List (List UInt8):=l.mergeSort fun x y=>decide (x≤y)
def sM (_:Value):Option (DataW Unit×List MemPlace):=some (.nil,[])
theorem pV {F:Fix} {P:Program} {k:TypeId} {es:List MapEntry} {α:Type} {f:α→Value} {g:Lit→α} {ks:List α} (hk:es.map MapEntry.key=ks.map f) (hr:∀ x∈ks,∃ kl,keyOf P k (f x)=some kl∧g kl=x) :
  ((es.map (WideElems.rg P k sM)).map fun p=>g p.1)=ks:=by
 induction es generalizing ks with
 | nil=>cases ks with
  | nil=>rfl
  | cons x ks=>simp at hk
 | cons e es ih =>
  cases ks with
  | nil=>simp at hk
  | cons x ks =>
   simp only [List.map_cons,List.cons.injEq] at hk;obtain ⟨kl,h1,h2⟩:=hr x (List.mem_cons_self ..);have e1:WideElems.rg P k sM e=(kl,.nil):=by
    refine WideElems.rg_of ?_;obtain ⟨key,val,born⟩:=e;simp only at hk;rw [hk.1];exact WideElems.rd_mk (yv:=(.nil,[])) h1 rfl
   rw [List.map_cons,List.map_cons,e1,ih hk.2 fun y hy=>hr y (List.mem_cons_of_mem _ hy)];rw [←h2]
theorem uZ {P:Program} {k:TypeId} {es:Array MapEntry} {c:Nat} {α:Type} {f:α→Value} {ks:List α} (K5:es.size≤maxLen) (Us:Go.MapKept.Stamped es c) (hk:es.toList.map MapEntry.key=ks.map f) (hr:∀ x∈ks,∃ kl,keyOf P k (f x)=some kl):WideElems.Fit P k sM es c:=by
 refine ⟨K5,Us,fun e he=>?_⟩;have h1:e.key∈ks.map f:=by rw [←hk];exact List.mem_map_of_mem he
 obtain ⟨x,hx,e1⟩:=List.mem_map.1 h1;obtain ⟨kl,h2⟩:=hr x hx;obtain ⟨key,val,born⟩:=e;simp only at e1;refine ⟨(kl,.nil),?_⟩;rw [←e1];exact WideElems.rd_mk (yv:=(.nil,[])) h2 rfl
theorem Qa7 {F:Fix}:∀ {ks:List (List UInt8)} {vs:List Value},Rs F (ks.map enc) vs→vs=ks.map Go.Proofs.encStr
 | [],_,h=>by simpa [Rs] using h
 | k::ks,vs,h=>by
  simp only [List.map_cons,Rs] at h;obtain ⟨v,r,rfl,h1,h2⟩:=h;rw [List.map_cons,←Qa7 h2];rw [show v=Go.Proofs.encStr k from h1]
theorem Qa8 {F:Fix}:∀ {ks:List (List UInt8)},RE F 1 (ks.map enc) (ks.map Go.Proofs.encStr)
 | []=>rfl
 | k::ks=>by
  simp only [List.map_cons,RE];refine ⟨Go.Proofs.encStr k,ks.map Go.Proofs.encStr,rfl,rfl,fun u hu=>?_,rfl,Qa8⟩;have:u=Go.Proofs.encStr k:=by simpa [Value.cells,Go.Proofs.encStr] using hu
  subst this;rfl
theorem Zvz (m:Nat):AnyZ.SortsIn Tryz.prog dK Fence.wide m :=
 ⟨fun blk off cap ss W hH Qe0 K5=>callsIn_wide.2 (AnyM.slices_Sort_string Qaj blk off cap ss W hH Qe0 K5),
  fun p cap W=>callsIn_wide.2 (AnyM.slices_Sort_string_none Qaj p cap W)⟩
def La:Con:=Xh (fun (a:ItS)=>a.b=true∧a.ks.length≤1000000∧∀ s∈a.ks,s.length≤3000000) (fun a=>Sl.mk (Dt a.ks))
theorem qY:Jd Tryz.prog (46,La):=by
 refine ⟨J6 Tryz.func46 (by kernel_rfl) rfl,?_⟩
 intro m w J0 vs Zo aD F9 Vm Zia
 change Con.pre La J0 at Zo
 unfold La at Zo;obtain ⟨⟨tg,ks,us⟩,rfl,Qbg,Wa,Xs⟩:=Qs Zo;simp only at Qbg Wa Xs;subst Qbg;simp only [Yk,kD] at aD;obtain ⟨v,r,rfl,hv,rfl⟩:=aD;rw [Zjn] at hv;simp only [R] at hv;obtain ⟨bm,b,es,c,rfl,a1,a2,h1,h2,h3,h4,h5⟩:=hv;have Zx0:=Qa7 h3;have Zbp:∀ x∈ks,∃ kl,keyOf Tryz.prog 9 (Go.Proofs.encStr x)=some kl∧strOf kl=x:=fun x hx=>by
  refine ⟨_,WideMaps.keyOf_string_mk Tryz.underlying9 ?_,?_⟩
  ·have:=Xs x hx;show x.toArray.size≤maxLen;rw [List.size_toArray];unfold maxLen;omega
  ·show (x.toArray).toList=x;simp
 have Zkp:es.size=ks.length:=by
  have:=congrArg List.length Zx0;simpa using this
 have Zif:bm<w.heap.size:=by
  rcases Nat.lt_or_ge bm w.heap.size with h|h
  ·exact h
  ·have:=Vm bm h;omega
 have vD:w.ownsMap Tryz.prog 9 sM b es.size (.map ((es.toList.map (WideElems.rg Tryz.prog 9 sM)).foldr DataW.insert [])) :=
  ⟨es,c,h1,uZ (by rw [Zkp];unfold maxLen;omega) h5 Zx0 (fun x hx=>(Zbp x hx).imp fun kl h=>h.1),Zl _,rfl⟩
 have Zhy:Maps.size (DataW.map ((es.toList.map (WideElems.rg Tryz.prog 9 sM)).foldr DataW.insert []))=ks.length:=by
  rw [size_eq,length_read,Zkp]
 have Zh2:(strKeys (DataW.map ((es.toList.map (WideElems.rg Tryz.prog 9 sM)).foldr DataW.insert []))).Perm ks:=by
  have:=pV (F:=⟨w,m⟩) (P:=Tryz.prog) (k:=9) (g:=strOf) Zx0 Zbp;show (List.map (fun p:Lit×DataW Unit=>strOf p.1) _).Perm ks;refine List.Perm.trans ?_ (List.Perm.of_eq this);exact (Go.WideShapes.sorted_perm _).map _
 obtain ⟨D0,Qix⟩:∃ D0:DataW Unit,DataW.map ((es.toList.map (WideElems.rg Tryz.prog 9 sM)).foldr DataW.insert [])=D0:=⟨_,rfl⟩;rw [Qix] at vD Zhy Zh2;obtain ⟨f,hf⟩:∃ f:Nat,cond true 72 999999=f:=⟨_,rfl⟩;rw [hf];have Et:Mm Tryz.prog f:=by
  rw [←hf];exact J6 Tryz.func72 (by kernel_rfl) rfl
 have Qd4:SeqGives Fence.wide 2 Tryz.prog f #[.pointer (some ⟨bm,0,none⟩)] Go.Proofs.encStr (fun ss=>ss.Perm (strKeys D0)) (Maps.size D0) w:=by
  rw [←hf];exact AnyZ.keys_gives (ρ:=mW) { Qa2 with } Fence.wide _ trivial rfl (by omega) bm b _ _ _ Zif a1 vD
 have cS:=AnyZ.sorted_in Qc9 Fence.wide 5 trivial trivial trivial trivial rfl (by omega) (Zvz _) (J6 Tryz.func71 (by kernel_rfl) rfl) f #[.pointer (some ⟨bm,0,none⟩)] trivial Et _ _ (by rw [Zhy];unfold maxLen;omega) (by rw [Zhy];omega) _ Qd4
 refine Calls.mono (callsIn_wide.1 cS) ?_;rintro e w' ⟨v,ss,rfl,hp,aA,Zh6,hb⟩;have Qd2:(ss.mergeSort fun x y=>decide (x≤y))=Dt ks:=mergeSort_of_perm (hp.trans Zh2);rw [Qd2] at aA;have Z8:ss.length=((Dt ks).map (enc:List UInt8→D)).length:=by
  rw [Qn];unfold Dt;rw [List.length_mergeSort,(hp.trans Zh2).length_eq]
 obtain ⟨m',q1,q2,q3⟩:=Ze9 (m:=m) aA Z8 (fun F=>Qa8) Vm hb.size;exact ⟨_,m',rfl,⟨hb.os,hb.tape,hb.output,hb.size,fun k hk _=>hb.block k hk⟩,fun b hb _=>q1 b hb,q2,by
  show rA _ _ _ (.d (enc (Sl.mk (Dt (dec (enc (ItS.mk true ks us)):ItS).ks)))) _;rw [Enc.dec_enc];exact Zfc q3⟩
theorem Zi6 {x y:List UInt8}:Op.bytesLess x y=true↔x<y:=by rw [bytesLess_eq,decide_eq_true_eq]
theorem Sa {a b c:List UInt8} (h1:Op.bytesLess a b=true) (h2:Op.bytesLess b c=true):Op.bytesLess a c=true:=by
 rw [Zi6] at *;exact List.lt_trans h1 h2
theorem Pz (a:List UInt8):Op.bytesLess a a=false:=by
 rw [bytesLess_eq,decide_eq_false_iff_not];exact List.lt_irrefl a
theorem bW {a b:List UInt8} (h1:a≠b) (h2:Op.bytesLess b a=false):Op.bytesLess a b=true:=by
 have h:=iC a b;rw [h2] at h;cases hb:Op.bytesLess a b with
 | true=>rfl
 | false=>rw [hb,Za.2 h1] at h;cases h
end Go.Am.Ty
