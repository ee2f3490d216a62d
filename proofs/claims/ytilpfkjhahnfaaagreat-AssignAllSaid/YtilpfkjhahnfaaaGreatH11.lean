/- Contracts of functions that the law reaches, and plain laws. Conditions: those that each contract states. -/
import Derived.Test.YtilpfkjhahnfaaaGreatH10
import Derived.Shelf.SlIter.Nil
import Derived.Shelf.SlIterI.Nil
import Derived.Shelf.SortM.Plain
import Derived.Shelf.SortM.SortNone
set_option maxHeartbeats 8000000
set_option linter.unusedVariables false
set_option linter.unusedSimpArgs false
variable {p:Prop}
set_option maxRecDepth 100000
namespace Go.Am.Ty
open Go.Proofs Go.Rose Go.Rose.Rose
open Enc (enc dec)
open Gr
def jI:Con:=Xc (fun (l:Sl (List UInt8)) (_:List UInt8)=>l.l.length≤1000000) (fun l x=>in6 l.l x)
structure KgP:Prop
theorem KgP.k (_:KgP) (h:p:=by
 repeat' first|exact Z8|with_reducible apply Zb|intro _
 all_goals first|with_reducible exact Jd|omega|exact ⟨k+1,by exact Qw,by omega,Eq.mpr hQ h2,by omega⟩|exact ⟨k+1,by exact Qw,by omega,fun m hm=>by have h3:=(Eq.mpr hQ h2:∀ j,j<k+1→(l.getD j []==s)=false) m hm;simpa using h3,by omega⟩|skip):p:=h
structure KgO:Prop
theorem KgO.k (_:KgO) (h:p:=by
 repeat' first|exact Z8|with_reducible apply Zb|intro _
 refine Zm [4,6,7,8,9,10,11,12,13,14,15,16,17] (fun k:Nat=>[(5,.d (.int .i64 k))]) (fun k:Nat=>[]) (fun k:Nat=>k≤l.length∧∀ j,j<k→(l.getD j []==s)=false) (fun k:Nat=>l.length-k) 0 ?_ ?_ ?_
 ·simp
 ·exact Qw
 rintro k ⟨hk,hno⟩;rcases Zo k l.length with ⟨hlt,Qb⟩|⟨hlt,Qb⟩
 ·have Qf:=Zr ([]:List UInt8) hlt;have hst:(l.getD k []==s)=false→∀ j,j<k+1→(l.getD j []==s)=false:=fun h=>K6 hno h;have hit:(l.getD k []==s)=true→R=true:=fun h=>by rw [←hR2];exact Ix (p:=fun o=>o==s) [] k hlt h
  obtain ⟨Q,hQ⟩:=exq ((∀ j,j<k+1→(l.getD j []==s)=false));rw [hQ] at hst;obtain ⟨y,hy⟩:=exq (l.getD k []);rw [hy] at Qf hst hit;cases Z9:(y==s) with
  | true =>
   have hr:=hit Z9;subst hr;exact Af
  | false =>
   have h2:=hst Z9;have Kq:KgP:=⟨⟩;exact Wy
 ·have hr:R=false:=by rw [←hR2];exact Su (p:=fun o=>o==s) [] fun j hj=>hno j (by omega)
  subst hr;exact qC):p:=h
theorem good_inr5:Qa Tryz.prog (101,jI):=by
 obtain ⟨Kx,Kt,Kc,Kd,Kb,Ku,Kw,K,_⟩:=Xe Zv Zn [] false Xd;have Ko:=jI.eq_def;refine Xj K Tryz.func101 [.tmp 4] rfl 18 rfl (fun c hc cvs hpre=>?_);unfold jI at hpre;obtain ⟨⟨l⟩,s,rfl,hl⟩:=Ql hpre;simp only at hl;clear hpre;obtain ⟨R,Qe⟩:=exq (in6 l s);have hR2:=Qe;unfold in6 at hR2;cases hc;have Kq:KgO:=⟨⟩;exact Wy
theorem sV:∀ {q k:Nat} {ks:List (Rose Part)},k<ks.length→(Sj q ks).getD k 0=((q+(ndss (ks.take k)).length:Nat):Int)
 | q,k,[],h=>by simp at h
 | q,0,x::ks,h=>by simp [Sj,ndss]
 | q,k+1,x::ks,h=>by
  have:=sV (q:=q+(nds x).length) (k:=k) (ks:=ks) (by simpa using h)
  rw [Sj,List.getD_cons_succ,this,List.take_succ_cons,ndss,Zf];omega
theorem Zt0 {t:List Part}:∀ {xs:List (Rose Part)} {i j:Nat},Zlq kD t i xs→∀ h:j<xs.length,At kD t (i+(ndss (xs.take j)).length) xs[j]
 | [],i,j,_,h=>by simp at h
 | x::xs,i,0,ha,h=>by simpa [ndss] using ha.head.1
 | x::xs,i,j+1,ha,h=>by
  have:=Zt0 (j:=j) ha.head.2 (by simpa using h)
  rw [List.take_succ_cons,ndss,Zf,←Nat.add_assoc];exact this
theorem xM:∀ {xs:List (Rose Part)},xs.length≤(ndss xs).length
 | []=>by simp [ndss]
 | x::xs=>by
  have h1:=En x;have h2:=xM (xs:=xs);simp only [ndss,Zf,Zi];omega
theorem nJ:∀ {xs:List (Rose Part)} {j:Nat} (h:j<xs.length),(nds xs[j]).length≤(ndss xs).length
 | x::xs,0,h=>by simp [ndss]
 | x::xs,j+1,h=>by
  have:=nJ (xs:=xs) (j:=j) (by simpa using h)
  simp only [List.getElem_cons_succ,ndss,Zf];omega
theorem Zoa {p:Part} {ks:List (Rose Part)} {k:Nat} {b:List (List UInt8)} (h:k<ks.length):freeTs p (ks.drop k) k b=freeT ks[k] (gI p k b)++freeTs p (ks.drop (k+1)) (k+1) b:=by
 rw [List.drop_eq_getElem_cons h,freeTs]
theorem eE {b:List (List UInt8)} {x:List UInt8}:b.map (enc:List UInt8→D)++[.str x]=(b++[x]).map enc:=by rw [List.map_append];rfl
theorem Qgf {b c:List (List UInt8)}:b.map (enc:List UInt8→D)++c.map enc=(b++c).map enc:=by rw [List.map_append]
noncomputable def Gj (n:Nat):Con:=Vp (fun (t:Sl Part) (i:Int) (b:Sl (List UInt8))=>oK t.l∧0≤i∧(∃ x,At kD t.l i.toNat x∧(nds x).length<n∧b.l.length+2*(nds x).length≤900000)) (fun t i b=>Sl.mk (freeT (Yl kD t.l i.toNat) b.l))
theorem tP:∀ c,¬ (Gj 0).pre c:=by
 intro c h;unfold Gj at h;obtain ⟨_,_,_,_,_,_,_,_,h,_⟩:=Vb h;omega
structure KgQ:Prop
theorem KgQ.k (_:KgQ) (h:p:=by
 repeat' first|exact Z8|with_reducible apply Zb|intro _
 all_goals try contradiction
 refine Zm [11,33,34,35,36,37,38,39,40,41,42,43,44,45,46,47,48,49,50,51,52,53,54,55,56,57,58,59,60,61,62,63,64,65,66,67,68,69,70,71,72,73,74,75,76,77,78,79,80,81,82,83,84,85,86,87,88,89] (fun k:Nat=>[(8,.sl 29 (([]:List (List UInt8)).map (enc:List UInt8→D)).length),(10,.d (.int .i64 k))]) (fun k:Nat=>[(29,.row 1 (([]:List (List UInt8)).map enc) 0)]) (fun k:Nat=>k=0) (fun k:Nat=>0) 0 ?_ ?_ ?_
 ·rfl
 ·exact Qw
 rintro k rfl;exact Af):p:=h
structure KgS:Prop
theorem KgS.k (_:KgS) (h:p:=by
 repeat' first|exact Z8|with_reducible apply Zb|intro _
 all_goals first|contradiction|with_reducible exact Jd|omega|exact hT|exact ⟨_,hxs⟩|exact ⟨(k+1,out++F),by exact Qw,by simp only;omega,hout,by simp only;omega⟩|skip):p:=h
structure KgT:Prop
theorem KgT.k (_:KgT) (h:p:=by
 repeat' first|exact Z8|with_reducible apply Zb|intro _
 all_goals first|contradiction|with_reducible exact Jd|omega|exact hT|exact ⟨_,hxs⟩|exact ⟨(k+1,out++F),by exact Qw,by simp only;omega,hout,by simp only;omega⟩|skip):p:=h
structure KgU:Prop
theorem KgU.k (_:KgU) (h:p:=by
 repeat' first|exact Z8|with_reducible apply Zb|intro _
 all_goals first|contradiction|with_reducible exact Jd|omega|exact hT|exact ⟨_,hxs⟩|exact ⟨(k+1,out++F),by exact Qw,by simp only;omega,hout,by simp only;omega⟩|skip):p:=h
structure KgV:Prop
theorem KgV.k (_:KgV) (h:p:=by
 repeat' first|exact Z8|with_reducible apply Zb|intro _
 all_goals first|contradiction|with_reducible exact Jd|omega|exact hT|exact ⟨_,hxs⟩|exact ⟨(k+1,out++F),by exact Qw,by simp only;omega,hout,by simp only;omega⟩|skip):p:=h
structure KgW:Prop
theorem KgW.k (_:KgW) (h:p:=by
 repeat' first|exact Z8|with_reducible apply Zb|intro _
 all_goals first|contradiction|with_reducible exact Jd|omega|exact hT|exact ⟨_,hxs⟩|exact ⟨(k+1,out++F),by exact Qw,by simp only;omega,hout,by simp only;omega⟩|skip):p:=h
structure KgX:Prop
theorem KgX.k (_:KgX) (h:p:=by
 repeat' first|exact Z8|with_reducible apply Zb|intro _
 all_goals first|contradiction|with_reducible exact Jd|omega|exact hT|exact ⟨_,hxs⟩|exact ⟨(k+1,out++F),by exact Qw,by simp only;omega,hout,by simp only;omega⟩|skip):p:=h
structure KgY:Prop
theorem KgY.k (_:KgY) (h:p:=by
 repeat' first|exact Z8|with_reducible apply Zb|intro _
 all_goals first|contradiction|with_reducible exact Jd|omega|exact hT|exact ⟨_,hxs⟩|exact ⟨(k+1,out++F),by exact Qw,by simp only;omega,hout,by simp only;omega⟩|skip):p:=h
structure KgR:Prop
theorem KgR.k (_:KgR) (h:p:=by
 repeat' first|exact Z8|with_reducible apply Zb|intro _
 refine Zm [11,33,34,35,36,37,38,39,40,41,42,43,44,45,46,47,48,49,50,51,52,53,54,55,56,57,58,59,60,61,62,63,64,65,66,67,68,69,70,71,72,73,74,75,76,77,78,79,80,81,82,83,84,85,86,87,88,89] (fun p:Nat×List (List UInt8)=>[(8,.sl 29 (p.2.map (enc:List UInt8→D)).length),(10,.d (.int .i64 p.1))]) (fun p:Nat×List (List UInt8)=>[(29,.row 1 (p.2.map enc) 0)]) (fun p:Nat×List (List UInt8)=>p.1≤ks.length∧p.2++freeTs ⟨pk,pl,pn,pb,pm,pq,pt,pu⟩ (ks.drop p.1) p.1 b=R) (fun p:Nat×List (List UInt8)=>ks.length-p.1) (0,[]) ?_ ?_ ?_
 ·exact ⟨Nat.zero_le _,hR2⟩
 ·exact Qw
 rintro ⟨k,out⟩ ⟨hkk,hout⟩;simp only at hkk hout;rcases Zo k ks.length with ⟨hlt,Je⟩|⟨hlt,Je⟩
 rotate_left
 ·have hke:k=ks.length:=by omega
  rw [hke,List.drop_length,freeTs,List.append_nil] at hout;subst hout;exact Af
 have hml:=Zvi ⟨pk,pl,pn,pb,pm,pq,pt,pu⟩ k b;rw [Zoa hlt,←List.append_assoc] at hout;have hxk:=Zt0 hks hlt;have hpos:=sV (q:=i+1) hlt;rw [hl] at hpos;have Zu:=Zr (0:Int) (show k<l.length by omega)
 rw [hpos] at Zu;obtain ⟨c,hc0⟩:∃ c:Nat,i+1+(ndss (ks.take k)).length=c:=⟨_,rfl⟩;rw [hc0] at hxk Zu;have Zx:Yl kD t c=ks[k]:=Vc hxk;have hsz:=nJ hlt;have hfl:=freeT_len ks[k] (gI ⟨pk,pl,pn,pb,pm,pq,pt,pu⟩ k b);have hol:=congrArg List.length hout;rw [Zf,Zf] at hol;obtain ⟨F,Zw⟩:=exq (freeT ks[k] (gI ⟨pk,pl,pn,pb,pm,pq,pt,pu⟩ k b));obtain ⟨B,hB⟩:=exq (gI ⟨pk,pl,pn,pb,pm,pq,pt,pu⟩ k b);rw [Zw] at hout hfl hol;rw [hB] at Zw hml;have hxs:At kD t c ks[k]∧(nds ks[k]).length<n∧B.length+2*(nds ks[k]).length≤900000:=⟨hxk,by omega,by omega⟩
 have Zz:out.map (enc:List UInt8→D)++F.map enc=(out++F).map enc:=Qgf;have hB2:=hB;unfold gI at hB2;simp only at hB2;by_cases h2:pk=2
 ·subst h2;rw [if_pos (Or.inl rfl),if_neg (by decide),List.append_nil] at hB2
  have Zy:b.map (enc:List UInt8→D)++[.str pb]=B.map enc:=by rw [←hB2];exact eE
  have Kq:KgS:=⟨⟩;exact Wy
 by_cases h8:pk=8
 ·subst h8;rw [if_pos (Or.inr (Or.inl rfl)),if_neg (by decide),List.append_nil] at hB2
  have Zy:b.map (enc:List UInt8→D)++[.str pb]=B.map enc:=by rw [←hB2];exact eE
  have Kq:KgT:=⟨⟩;exact Wy
 have Z0:(pk==2)=false:=Za.2 h2;have Qi:(pk==8)=false:=Za.2 h8;by_cases h4:pk=4
 ·subst h4;by_cases hk1:k=1
  ·rw [if_pos (Or.inr (Or.inr (Or.inl ⟨rfl,hk1⟩))),if_neg (by decide),List.append_nil] at hB2
   have Zy:b.map (enc:List UInt8→D)++[.str pb]=B.map enc:=by rw [←hB2];exact eE
   have Qd:((k:Int)==1)=true:=Zk.2 (by omega)
   have Kq:KgU:=⟨⟩;exact Wy
  ·rw [if_neg (by rintro (h|h|h|h)<;>simp_all),if_neg (by omega),List.append_nil] at hB2
   subst hB2;have Qd:((k:Int)==1)=false:=Za.2 (by omega)
   have Kq:KgV:=⟨⟩;exact Wy
 have Qk:(pk==4)=false:=Za.2 h4;by_cases h5:pk=5
 ·subst h5;by_cases hk0:k=0
  ·rw [if_pos (Or.inr (Or.inr (Or.inr ⟨rfl,hk0⟩))),if_pos rfl] at hB2;have Zy:b.map (enc:List UInt8→D)++[.str pb]=(b++[pb]).map enc:=eE;have Z1:(b++[pb]).map (enc:List UInt8→D)++[.str pn]=B.map enc:=by rw [←hB2];exact eE
   have Qd:((k:Int)==0)=true:=Zk.2 (by omega)
   have Kq:KgW:=⟨⟩;exact Wy
  ·rw [if_neg (by rintro (h|h|h|h)<;>simp_all),if_pos rfl] at hB2
   have Z1:b.map (enc:List UInt8→D)++[.str pn]=B.map enc:=by rw [←hB2];exact eE
   have Qd:((k:Int)==0)=false:=Za.2 (by omega)
   have Kq:KgX:=⟨⟩;exact Wy
 have Qs:(pk==5)=false:=Za.2 h5;rw [if_neg (by rintro (h|h|h|h)<;>simp_all),if_neg (by omega),List.append_nil] at hB2
 subst hB2;have Kq:KgY:=⟨⟩;exact Wy):p:=h
theorem step_free5 (n:Nat) (ih:Qa Tryz.prog (57,Gj n)):Qa Tryz.prog (57,(Gj (n+1))):=by
 obtain ⟨Kx,Kt,Kc,Kd,Kb,Ku,Kw,K,X9,Uv,Po,_⟩:=Xe Zv Zn [] false (Q0 good_inr5 jI.eq_def (Q0 good_Kids5 Rp.eq_def (Q0 ih (Gj.eq_def n) Xd)));have Ko:=(Gj.eq_def (n+1));refine Xj K Tryz.func57 [.tmp 6] rfl 91 rfl (fun c hc cvs hpre=>?_);unfold Gj at hpre;obtain ⟨⟨t⟩,i,⟨b⟩,rfl,hT,hi0,⟨x,hx,hn,hb⟩⟩:=Vb hpre;simp only at hT hx hb;obtain ⟨i,rfl⟩:∃ k:Nat,i=k:=⟨i.toNat,by omega⟩
 rw [Zj] at hx;clear hpre;have hil:=hx.lt;have hle:=hx.le;have htl:=hT.1;have Qb:=Zr e0 hil;have hr:=hx.root e0;have Qe:Yl kD t i=x:=Vc hx;have Qn:=Zy2 hx;have hks:=hx.kids;obtain ⟨p,ks⟩:=x;rw [show (mk p ks).kids=ks from rfl] at Qn hks;have hkl:=xM (xs:=ks);have hks2:ks.length=kD p:=hks.2;replace hks:=hks.1;rw [show (mk p ks).root=p from rfl] at hr;rw [hr] at Qb;rw [Y7,Zi] at hn hb hle;obtain ⟨l,hl⟩:=exq (Sj (i+1) ks);rw [hl] at Qn;have Q4:l.length=ks.length:=by rw [←hl,nG]
 have hin:vV .i64 (i:Int):=by rw [Xr];omega
 obtain ⟨R,Qc⟩:=exq (freeT (mk p ks) b);have hR2:=Qc;rw [freeT] at hR2;obtain ⟨pk,pl,pn,pb,pm,pq,pt,pu⟩:=p;simp only at hR2;cases hc;refine Y4 5 ?_;cases Qf:(pk==1&&!(in6 b pn)) with
 | true =>
  rw [Zg,Zk,Bool.not_eq_true'] at Qf;obtain ⟨rfl,Qf⟩:=Qf;rw [if_pos ⟨rfl,Qf⟩] at hR2;subst hR2;have Z9:((1:Int)==1)=true:=rfl;exact Af
 | false =>
 have hcond:¬ (pk=1∧in6 b pn=false):=by
  rintro ⟨Qh,h2⟩;rw [Qh,h2] at Qf;cases Qf
 rw [if_neg hcond] at hR2;have hlen:=freeTs_len ⟨pk,pl,pn,pb,pm,pq,pt,pu⟩ ks 0 b;rw [hR2] at hlen;have hlen:=freeTs_len ⟨pk,pl,pn,pb,pm,pq,pt,pu⟩ ks 0 b;cases Qh:(pk==1) with
 | true =>
  have Z9:in6 b pn=true:=by
   rw [Qh,Bool.true_and,Bool.not_eq_false'] at Qf;exact Qf
  obtain rfl:pk=1:=by simpa using Qh
  have hz:ks=[]:=by
   have:=hks2;rw [show kD ⟨1,pl,pn,pb,pm,pq,pt,pu⟩=0 from rfl] at this;exact List.length_eq_zero_iff.1 this
  subst hz;have hln:l=[]:=by rw [←hl];rfl
  subst hln;have hRn:R=[]:=by rw [←hR2];rfl
  subst hRn;have Q6:X4 (0:Int) 0=false:=rfl;have Kq:KgQ:=⟨⟩;exact Wy
 | false =>
 have Kq:KgR:=⟨⟩;exact Wy
theorem nI:∀ n,Qa Tryz.prog (57,Gj n)
 | 0=>X2 (Jp Tryz.func57 (by kernel_rfl) rfl) tP
 | n+1=>step_free5 n (nI n)
def Zn0 (o:List (List UInt8)) (x:List UInt8):Bool:=match o.getLast? with
 | none=>true
 | some y=>Op.bytesLess y x
def De (o:List (List UInt8)) (s:List UInt8×Bool) (x:List UInt8):List UInt8×Bool:=if (Zn0 o x&&(!s.2||Op.bytesLess x s.1))=true then (x,true) else s
def I7 (o l:List (List UInt8)):List UInt8×Bool:=l.foldl (De o) ([],false)
def Zp5 (l:List (List UInt8)):Nat→List (List UInt8)→List (List UInt8)
 | 0,o=>o
 | f+1,o=>if (I7 o l).2=true then Zp5 l f (o++[(I7 o l).1]) else o
def Zxu (l:List (List UInt8)):List (List UInt8):=Zp5 l (l.length+1) []
theorem Qbp (x:List UInt8):Zn0 [] x=true:=rfl
theorem sE (o:List (List UInt8)) (y x:List UInt8):Zn0 (o++[y]) x=Op.bytesLess y x:=by
 unfold Zn0;rw [List.getLast?_append];rfl
theorem fG (o:List (List UInt8)):∀ (l:List (List UInt8)) (s:List UInt8×Bool),(s.2=true→Zn0 o s.1=true) →
  ((l.foldl (De o) s).2=true→((l.foldl (De o) s).1∈l∨s=l.foldl (De o) s)∧Zn0 o (l.foldl (De o) s).1=true∧∀ y∈l,Zn0 o y=true→Op.bytesLess y (l.foldl (De o) s).1=false) ∧
  (s.2=true→(l.foldl (De o) s).2=true∧Op.bytesLess s.1 (l.foldl (De o) s).1=false) ∧
  ((l.foldl (De o) s).2=false→∀ y∈l,Zn0 o y=false)
 | [],s,h=>⟨fun h2=>⟨.inr rfl,h h2,fun y hy=>by cases hy⟩,fun h2=>⟨h2,Dq _⟩,fun _ y hy=>by cases hy⟩
 | x::l,s,h=>by
  have hst:De o s x=if (Zn0 o x&&(!s.2||Op.bytesLess x s.1))=true then (x,true) else s:=rfl
  rw [List.foldl_cons];by_cases hc:(Zn0 o x&&(!s.2||Op.bytesLess x s.1))=true
  ·rw [if_pos hc] at hst;rw [hst];rw [Zg] at hc;obtain ⟨i1,i2,i3⟩:=fG o l (x,true) (fun _=>hc.1);obtain ⟨j1,j2⟩:=i2 rfl;simp only at j2;refine ⟨fun h2=>?_,fun h2=>⟨j1,?_⟩,fun h2=>by rw [j1] at h2;cases h2⟩
   ·obtain ⟨k1,k2,k3⟩:=i1 h2;refine ⟨.inl ?_,k2,fun y hy hg=>?_⟩
    ·rcases k1 with k1|k1
     ·exact List.mem_cons_of_mem _ k1
     ·rw [←k1];exact List.mem_cons_self
    ·rcases Zs.1 hy with rfl|hy
     ·exact j2
     ·exact k3 y hy hg
   ·have h3:Op.bytesLess x s.1=true:=by
     have:=hc.2;rw [h2] at this;simpa using this
    cases hb:Op.bytesLess s.1 (l.foldl (De o) (x,true)).1 with
    | false=>rfl
    | true =>
     have:=F7 h3 hb;rw [j2] at this;cases this
  ·rw [if_neg hc] at hst;rw [hst];obtain ⟨i1,i2,i3⟩:=fG o l s h;have hx:∀ (hg:Zn0 o x=true),s.2=true∧Op.bytesLess x s.1=false:=by
    intro hg;rw [hg,Bool.true_and] at hc;simpa using hc
   refine ⟨fun h2=>?_,i2,fun h2 y hy=>?_⟩
   ·obtain ⟨k1,k2,k3⟩:=i1 h2;refine ⟨?_,k2,fun y hy hg=>?_⟩
    ·rcases k1 with k1|k1
     ·exact .inl (List.mem_cons_of_mem _ k1)
     ·exact .inr k1
    ·rcases Zs.1 hy with rfl|hy
     ·obtain ⟨g1,g2⟩:=hx hg;obtain ⟨g3,g4⟩:=i2 g1;cases hb:Op.bytesLess y (l.foldl (De o) s).1 with
      | false=>rfl
      | true =>
       by_cases he:s.1=y
       ·rw [he] at g4;rw [hb] at g4;cases g4
       ·have:=F7 (lE he g2) hb;rw [g4] at this;cases this
     ·exact k3 y hy hg
   ·rcases Zs.1 hy with rfl|hy
    ·cases hg:Zn0 o y with
     | false=>rfl
     | true =>
      have:=(i2 (hx hg).1).1;rw [h2] at this;cases this
    ·exact i3 h2 y hy
theorem Zr1 {o l:List (List UInt8)} (h:(I7 o l).2=true):(I7 o l).1∈l∧Zn0 o (I7 o l).1=true∧∀ y∈l,Zn0 o y=true→Op.bytesLess y (I7 o l).1=false:=by
 obtain ⟨h1,h2,h3⟩:=(fG o l ([],false) (fun h=>by cases h)).1 h
 refine ⟨?_,h2,h3⟩;rcases h1 with h1|h1
 ·exact h1
 ·exfalso;have:(I7 o l).2=false:=(congrArg Prod.snd h1).symm;rw [h] at this;cases this
def Qb2 (o l:List (List UInt8)):Nat:=(l.filter (Zn0 o)).length
theorem yG {p q:List UInt8→Bool}:∀ {l:List (List UInt8)} {b:List UInt8},(∀ x,p x=true→q x=true)→b∈l→q b=true→p b=false→(l.filter p).length<(l.filter q).length
 | [],b,_,h,_,_=>by cases h
 | x::l,b,hpq,hb,h1,h2=>by
  have hle:(l.filter p).length≤(l.filter q).length:=by
   clear hb
   induction l with
   | nil=>simp
   | cons y l ih =>
    rw [List.filter_cons,List.filter_cons];cases hp:p y with
    | true=>rw [hpq y hp];simpa using ih
    | false =>
     cases q y with
     | true=>simp only [if_true,Zi];simp only [Zt,if_false];omega
     | false=>simpa using ih
  rw [List.filter_cons,List.filter_cons];rcases Zs.1 hb with rfl|hb
  ·rw [h1,h2];simp only [Zt,if_false,if_true,Zi];omega
  ·have ih:=yG (l:=l) hpq hb h1 h2;cases hp:p x with
   | true=>rw [hpq x hp];simpa using ih
   | false =>
    cases q x with
    | true=>simp only [Zt,if_false,if_true,Zi];omega
    | false=>simpa using ih
theorem Qb0 {o l:List (List UInt8)} (h:(I7 o l).2=true):Qb2 (o++[(I7 o l).1]) l<Qb2 o l:=by
 obtain ⟨h1,h2,h3⟩:=Zr1 h;refine yG (fun x hx=>?_) h1 h2 ?_
 ·rw [sE] at hx;unfold Zn0 at h2 ⊢;cases ho:o.getLast? with
  | none=>rfl
  | some y =>
   rw [ho] at h2;exact F7 h2 hx
 ·rw [sE];exact Dq _
theorem Qb1 {o l:List (List UInt8)}:Qb2 o l≤l.length:=List.length_filter_le _ _
noncomputable def fW (t:List Part):List (List UInt8):=Zxu (freeT (Yl kD t 0) [])
noncomputable def tR:Con:=Gj 10001
theorem Zn2:Qa Tryz.prog (57,tR):=nI _
def Zt5 (t:List Part):Prop:=oK t∧∃ x,At kD t 0 x∧(nds x).length≤10000
noncomputable def cN:Con:=J7 (fun (t:Sl Part)=>Zt5 t.l) (fun t=>Sl.mk (fW t.l))
structure Khb:Prop
theorem Khb.k (_:Khb) (h:p:=by
 repeat' first|exact Z8|with_reducible apply Zb|intro _
 all_goals first|contradiction|with_reducible exact Jd|omega|exact ⟨(f,o++[best]),by exact Qw,by simp only;omega,by simp;omega,hs,by simp only;omega⟩|skip):p:=h
structure Khc:Prop
theorem Khc.k (_:Khc) (h:p:=by
 repeat' first|exact Z8|with_reducible apply Zb|intro _
 all_goals first|contradiction|with_reducible exact Jd|omega|exact ⟨(i+1,x0,true),by exact Qw,by simp only;omega,hfold,by simp only;omega⟩|skip):p:=h
structure Khd:Prop
theorem Khd.k (_:Khd) (h:p:=by
 repeat' first|exact Z8|with_reducible apply Zb|intro _
 all_goals first|contradiction|with_reducible exact Jd|omega|exact ⟨(i+1,x0,true),by exact Qw,by simp only;omega,hfold,by simp only;omega⟩|skip):p:=h
structure Khe:Prop
theorem Khe.k (_:Khe) (h:p:=by
 repeat' first|exact Z8|with_reducible apply Zb|intro _
 all_goals first|contradiction|with_reducible exact Jd|omega|exact ⟨(i+1,best,true),by exact Qw,by simp only;omega,hfold,by simp only;omega⟩|skip):p:=h
structure Khf:Prop
theorem Khf.k (_:Khf) (h:p:=by
 repeat' first|exact Z8|with_reducible apply Zb|intro _
 all_goals first|contradiction|with_reducible exact Jd|omega|exact ⟨(i+1,best,had),by exact Qw,by simp only;omega,hfold,by simp only;omega⟩|skip):p:=h
structure Khg:Prop
theorem Khg.k (_:Khg) (h:p:=by
 repeat' first|exact Z8|with_reducible apply Zb|intro _
 all_goals first|contradiction|with_reducible exact Jd|omega|exact ⟨(i+1,x0,true),by exact Qw,by simp only;omega,hfold,by simp only;omega⟩|skip):p:=h
structure Khh:Prop
theorem Khh.k (_:Khh) (h:p:=by
 repeat' first|exact Z8|with_reducible apply Zb|intro _
 all_goals first|contradiction|with_reducible exact Jd|omega|exact ⟨(i+1,x0,true),by exact Qw,by simp only;omega,hfold,by simp only;omega⟩|skip):p:=h
structure Khi:Prop
theorem Khi.k (_:Khi) (h:p:=by
 repeat' first|exact Z8|with_reducible apply Zb|intro _
 all_goals first|contradiction|with_reducible exact Jd|omega|exact ⟨(i+1,best,true),by exact Qw,by simp only;omega,hfold,by simp only;omega⟩|skip):p:=h
structure Kha:Prop
theorem Kha.k (_:Kha) (h:p:=by
 repeat' first|exact Z8|with_reducible apply Zb|intro _
 all_goals first|with_reducible exact Jd|omega|skip
 refine Zm [11,12,13,14,15,16,17,18,19,20,21,22,23,24,25,26,27,28,29,30,31,32,33,34,35,36,37,38,39,40,41,42,43,44,45,46,47,48] (fun q:Nat×List UInt8×Bool=>[(5,.d (.str q.2.1)),(6,.d (.bool q.2.2)),(7,.d (.int .i64 q.1))]) (fun q:Nat×List UInt8×Bool=>[]) (fun q:Nat×List UInt8×Bool=>q.1≤l.length∧(l.drop q.1).foldl (De o) q.2=S) (fun q:Nat×List UInt8×Bool=>l.length-q.1) (0,[],false) ?_ ?_ ?_
 ·exact ⟨Nat.zero_le _,hS0⟩
 ·exact Qw
 rintro ⟨i,best,had⟩ ⟨hi,hfold⟩;simp only at hi hfold;rcases Zo i l.length with ⟨hlt,Z9⟩|⟨hlt,Z9⟩
 rotate_left
 ·have hie:i=l.length:=by omega
  rw [hie,List.drop_length] at hfold;subst hfold;simp only [List.foldl_nil] at hs hlt0;cases had with
  | false =>
   simp only [Zt,if_false] at hs;subst hs;exact Af
  | true =>
   simp only [if_true] at hs;have hc2:=hlt0 rfl;have Qc:o.map (enc:List UInt8→D)++[.str best]=(o++[best]).map enc:=eE;have Kq:Khb:=⟨⟩;exact Wy
 have Qh:=Zr ([]:List UInt8) hlt;rw [List.drop_eq_getElem_cons hlt,List.foldl_cons,show l[i]=l.getD i [] by simp [hlt]] at hfold
 obtain ⟨x0,hx0⟩:=exq (l.getD i []);rw [hx0] at Qh hfold;obtain ⟨s',hsq⟩:∃ s',De o (best,had) x0=s':=⟨_,rfl⟩;rw [hsq] at hfold;unfold De at hsq;simp only at hsq;obtain ⟨lb,Qn⟩:=exq (Op.bytesLess x0 best);rw [Qn] at hsq;rcases List.eq_nil_or_concat o with ho0|⟨o',y,ho1⟩
 ·subst ho0;rw [Qbp,Bool.true_and] at hsq;have Q6:((0:Int)==0)=true:=rfl;cases had with
  | false =>
   rw [if_pos (by simp)] at hsq
   subst hsq;have Kq:Khc:=⟨⟩;exact Wy
  | true =>
   cases lb with
   | true =>
    rw [if_pos (by simp)] at hsq
    subst hsq;have Kq:Khd:=⟨⟩;exact Wy
   | false =>
    rw [if_neg (by simp)] at hsq
    subst hsq;have Kq:Khe:=⟨⟩;exact Wy
 ·rw [List.concat_eq_append] at ho1;rw [show Zn0 o x0=Op.bytesLess y x0 by rw [ho1,sE]] at hsq
  have hol:o.length=o'.length+1:=by rw [ho1];simp
  have Q6:((o.length:Int)==0)=false:=Za.2 (by omega)
  have Je:el (o.map enc) o'.length=.str y:=by rw [ho1];simp [el]
  have Q4:((o.length:Int)-1)=(o'.length:Int):=by omega
  have Zu:=less_not x0 y;obtain ⟨g,hgv⟩:=exq (Op.bytesLess y x0);rw [hgv] at Zu hsq;cases g with
  | false =>
   rw [if_neg (by simp)] at hsq
   subst hsq;have Kq:Khf:=⟨⟩;exact Wy
  | true =>
   cases had with
   | false =>
    rw [if_pos (by simp)] at hsq
    subst hsq;have Kq:Khg:=⟨⟩;exact Wy
   | true =>
    cases lb with
    | true =>
     rw [if_pos (by simp)] at hsq
     subst hsq;have Kq:Khh:=⟨⟩;exact Wy
    | false =>
     rw [if_neg (by simp)] at hsq
     subst hsq;have Kq:Khi:=⟨⟩;exact Wy):p:=h
structure KgZ:Prop
theorem KgZ.k (_:KgZ) (h:p:=by
 repeat' first|exact Z8|with_reducible apply Zb|intro _
 all_goals first|exact hpr|exact hT|omega|skip
 refine Zm [2,5,6,7,11,12,13,14,15,16,17,18,19,20,21,22,23,24,25,26,27,28,29,30,31,32,33,34,35,36,37,38,39,40,41,42,43,44,45,46,47,48,49,50,51,52,53,54,55] (fun p:Nat×List (List UInt8)=>[(4,.sl 10 (p.2.map (enc:List UInt8→D)).length)]) (fun p:Nat×List (List UInt8)=>[(10,.row 1 (p.2.map enc) 0)]) (fun p:Nat×List (List UInt8)=>Qb2 p.2 l<p.1∧p.2.length+p.1≤l.length+1∧Zp5 l p.1 p.2=R) (fun p:Nat×List (List UInt8)=>p.1) (l.length+1,[]) ?_ ?_ ?_
 ·exact ⟨by have:=Qb1 (o:=[]) (l:=l);simp only;omega,by simp,hR2⟩
 ·exact Qw
 rintro ⟨f,o⟩ ⟨hc,ho,hs⟩;simp only at hc ho hs;obtain ⟨f,rfl⟩:∃ g,f=g+1:=⟨f-1,by omega⟩
 rw [Zp5] at hs;obtain ⟨S,hS⟩:=exq (I7 o l);have hS0:=hS;unfold I7 at hS0;have hlt0:=Qb0 (o:=o) (l:=l);rw [hS] at hs hlt0;have Kq:Kha:=⟨⟩;exact Wy):p:=h
theorem good_Free5:Qa Tryz.prog (24,cN):=by
 obtain ⟨Kx,Kt,Kc,Kd,Kb,Ku,Kw,K,X9,_⟩:=Xe Zv Zn [] false (Q0 Zn2 tR.eq_def Xd);have Ko:=cN.eq_def;refine Xj K Tryz.func24 [.tmp 2] rfl 56 rfl (fun c hc cvs hpre=>?_);unfold cN at hpre;obtain ⟨⟨t⟩,rfl,hT,x,hx,hn⟩:=Q2 hpre;simp only at hT hx;clear hpre;have Qb:Yl kD t 0=x:=Vc hx;obtain ⟨R,Qe⟩:=exq (fW t);have hR2:=Qe;unfold fW Zxu at hR2;rw [Qb] at hR2;have hfl:=freeT_len x [];obtain ⟨l,Qf⟩:=exq (freeT x []);rw [Qf] at hR2 hfl;have hpr:(∃ x,At kD t (0:Int).toNat x∧(nds x).length<10001∧([]:List (List UInt8)).length+2*(nds x).length≤900000):=⟨x,hx,by omega,by simp;omega⟩
 cases hc;refine Y4 3 ?_;have Zx:=@Gj.eq_def;have Kq:KgZ:=⟨⟩;exact Wy
theorem Zmh {t:List Part} (h:Uw t=true):Zt5 t:=by
 obtain ⟨x,hx,ha⟩:=qZ h;unfold Uw at h;simp only [Zg,Bool.not_eq_true'] at h;obtain ⟨h1,h2,_⟩:=h;unfold Mg at h1;simp only [Bool.or_eq_false_iff,Qv] at h1;have hl:t.length≤10000:=by omega
 exact ⟨⟨by omega,fun n hn=>wD (List.all_eq_true.1 h2 n hn)⟩,x,ha,by rw [←hx];exact hl⟩
def mayB (env:List Bd) (s:List UInt8):Bool:=env.any fun b=>b.name==s
def jH:Con:=Xc (fun (env:Sl Bd) (_:List UInt8)=>env.l.length≤1000000000) (fun env s=>mayB env.l s)
structure Khk:Prop
theorem Khk.k (_:Khk) (h:p:=by
 repeat' first|exact Z8|with_reducible apply Zb|intro _
 all_goals first|with_reducible exact Jd|omega|exact ⟨k+1,by exact Qw,by omega,Eq.mpr hQ h2,by omega⟩|exact ⟨k+1,by exact Qw,by omega,fun m hm=>by have h3:=(Eq.mpr hQ h2:∀ j,j<k+1→((l.getD j Qam).name==s)=false) m hm;simpa using h3,by omega⟩|skip):p:=h
structure Khj:Prop
theorem Khj.k (_:Khj) (h:p:=by
 repeat' first|exact Z8|with_reducible apply Zb|intro _
 refine Zm [4,6,7,8,9,10,11,12,13,14,15,16,17,18] (fun k:Nat=>[(5,.d (.int .i64 k))]) (fun k:Nat=>[]) (fun k:Nat=>k≤l.length∧∀ j,j<k→((l.getD j Qam).name==s)=false) (fun k:Nat=>l.length-k) 0 ?_ ?_ ?_
 ·simp
 ·exact Qw
 rintro k ⟨hk,hno⟩;rcases Zo k l.length with ⟨hlt,Qb⟩|⟨hlt,Qb⟩
 ·have Qf:=Zr Qam hlt;have hst:((l.getD k Qam).name==s)=false→∀ j,j<k+1→((l.getD j Qam).name==s)=false:=fun h=>K6 hno h;have hit:((l.getD k Qam).name==s)=true→R=true:=fun h=>by rw [←hR2];exact Ix (p:=fun o=>o.name==s) Qam k hlt h
  obtain ⟨Q,hQ⟩:=exq ((∀ j,j<k+1→((l.getD j Qam).name==s)=false));rw [hQ] at hst;obtain ⟨⟨yn,yt⟩,hy⟩:=exq (l.getD k Qam);rw [hy] at Qf hst hit;simp only at hst hit;cases Z9:(yn==s) with
  | true =>
   have hr:=hit Z9;subst hr;have Qc:=@pE;have Qh:=@Ef;exact Af
  | false =>
   have h2:=hst Z9;have Qc:=@pE;have Qh:=@Ef;have Kq:Khk:=⟨⟩;exact Wy
 ·have hr:R=false:=by rw [←hR2];exact Su (p:=fun o=>o.name==s) Qam fun j hj=>hno j (by omega)
  subst hr;have Qc:=@Ef;exact qC):p:=h
theorem good_may9:Qa Tryz.prog (56,jH):=by
 obtain ⟨Kx,Kt,Kc,Kd,Kb,Ku,Kw,K,_⟩:=Xe Zv Zn [] false Xd;have Ko:=jH.eq_def;refine Xj K Tryz.func56 [.tmp 4] rfl 19 rfl (fun c hc cvs hpre=>?_);unfold jH at hpre;obtain ⟨⟨l⟩,s,rfl,hl⟩:=Ql hpre;simp only at hl;clear hpre;obtain ⟨R,Qe⟩:=exq (mayB l s);have hR2:=Qe;unfold mayB at hR2;cases hc;have Kq:Khj:=⟨⟩;exact Wy
def Qa5 (env:List Bd):List (List UInt8)→Option (List UInt8)
 | []=>none
 | s::r=>if mayB env s=true then Qa5 env r else some s
def Qie (l:List Mod6) (m d:Nat):Def6:=(l.getD m Jx).defs.getD d J3
noncomputable def Zva (l:List Mod6) (m:Nat):Nat→Nat→Option (Nat×List UInt8)
 | 0,_=>none
 | f+1,d=>match Qa5 (Zrp l m d) (fW (Qie l m d).e) with
  | some s=>some (d,s)
  | none=>Zva l m f (d+1)
noncomputable def Zyn (l:List Mod6):Nat→Nat→Option (Nat×Nat×List UInt8)
 | 0,_=>none
 | f+1,m=>match Zva l m (l.getD m Jx).defs.length 0 with
  | some (d,s)=>some (m,d,s)
  | none=>Zyn l f (m+1)
def Zuu:Option (Nat×Nat×List UInt8)→Int×Int×List UInt8×Int
 | some (m,d,s)=>(m,d,s,5)
 | none=>(0,0,[],0)
noncomputable def rD (l:List Mod6):Int×Int×List UInt8×Int:=Zuu (Zyn l l.length 0)
def eZ {A R S T U:Type} [Enc A] [Enc R] [Enc S] [Enc T] [Enc U] (p:A→Prop) (f:A→R×S×T×U):Con:=⟨[false],[false,false,false,false],fun c=>match c with
 | [.d x]=>V9 A x∧p (dec x)
 | _=>False,fun c=>match c with
 | [.d x]=>.tup [.d (enc (f (dec x)).1),.d (enc (f (dec x)).2.1),.d (enc (f (dec x)).2.2.1),.d (enc (f (dec x)).2.2.2)]
 | _=>.d .nilp⟩
theorem Zwm {A R S T U:Type} [Enc A] [Enc R] [Enc S] [Enc T] [Enc U] {p:A→Prop} {f:A→R×S×T×U} {c:List CV} (h:(eZ p f).pre c):∃ a,c=[.d (enc a)]∧p a:=by
 unfold eZ at h;simp only at h;split at h
 ·next x=>exact ⟨dec x,by rw [←h.1],h.2⟩
 ·exact h.elim
structure NamesOk (l:List Mod6):Prop where
 env:EnvOk l
 tree:∀ m∈l,∀ d∈m.defs,Zt5 d.e
theorem Zzh {l:List Mod6} (h:EnvOk l) {m d:Int}:(Zrp l m d).length≤100000000:=by
 unfold Zrp;split
 ·simp
 rename_i hc;have hml:m.toNat<l.length:=by omega
 have hmem:l.getD m.toNat Jx∈l:=by simp [hml]
 have h1:=h.imps _ hmem;have h2:=h.defs _ hmem;have h3:=Zte h (l.getD m.toNat Jx).imps;unfold Qdh;rw [Zf,Zl,List.length_take];omega
theorem Zmd {l:List (List UInt8)}:∀ (f:Nat) (o:List (List UInt8)),(Zp5 l f o).length≤o.length+f
 | 0,o=>by simp [Zp5]
 | f+1,o=>by
  rw [Zp5];split
  ·have:=Zmd (l:=l) f (o++[(I7 o l).1]);rw [Zf] at this;simp only [Zi,List.length_nil] at this;omega
  ·omega
theorem Zrg {t:List Part} (h:Zt5 t):(fW t).length≤10001:=by
 obtain ⟨_,x,hx,hn⟩:=h;unfold fW Zxu;rw [Vc hx];have h1:=Zmd (l:=freeT x []) ((freeT x []).length+1) [];have h2:=freeT_len x [];simp only [List.length_nil] at h1;omega
noncomputable def Ip:Con:=eZ (fun (l:Sl Mod6)=>NamesOk l.l) (fun l=>rD l.l)
structure Khn:Prop
theorem Khn.k (_:Khn) (h:p:=by
 repeat' first|exact Z8|with_reducible apply Zb|intro _
 all_goals first|with_reducible exact Jd|omega|exact ⟨m+1,by exact Qw,by omega,hdR,by omega⟩|skip):p:=h
structure Khp:Prop
theorem Khp.k (_:Khp) (h:p:=by
 repeat' first|exact Z8|with_reducible apply Zb|intro _
 all_goals first|with_reducible exact Jd|omega|exact ⟨d+1,by exact Qw,by omega,hkR,by omega⟩|skip):p:=h
structure Khq:Prop
theorem Khq.k (_:Khq) (h:p:=by
 repeat' first|exact Z8|with_reducible apply Zb|intro _
 all_goals first|contradiction|with_reducible exact Jd|omega|exact ⟨k+1,by exact Qw,by omega,hkR,by omega⟩|skip):p:=h
structure Kho:Prop
theorem Kho.k (_:Kho) (h:p:=by
 repeat' first|exact Z8|with_reducible apply Zb|intro _
 all_goals first|with_reducible exact Jd|omega|exact hE|exact hT|skip
 refine Zm [2,3,4,5,41,42,43,44,45,46,47,48,49,50,51,52,53,54,55,56,57,58,59] (fun k:Nat=>[(10,.d (.int .i64 k))]) (fun k:Nat=>[]) (fun k:Nat=>k≤F.length∧Zuu (match (match Qa5 E (F.drop k) with|some s=>some (d,s)|none=>Zva l m (md.length-(d+1)) (d+1)) with|some (d,s)=>some (m,d,s)|none=>L)=R) (fun k:Nat=>F.length-k) 0 ?_ ?_ ?_
 ·exact ⟨Nat.zero_le _,hdR⟩
 ·exact Qw
 rintro k ⟨hk,hkR⟩;rcases Zo k F.length with ⟨hklt,Q6⟩|⟨hklt,Q6⟩
 rotate_left
 ·rw [List.drop_eq_nil_of_le hklt] at hkR;have hkR:Zuu (match Zva l m (md.length-(d+1)) (d+1) with|some (d,s)=>some (m,d,s)|none=>L)=R:=hkR
  have Kq:Khp:=⟨⟩;exact Wy
 have Je:=Zr ([]:List UInt8) hklt;rw [List.drop_eq_getElem_cons hklt,show F[k]=F.getD k [] by simp [hklt],Qa5] at hkR
 obtain ⟨s,hs⟩:=exq (F.getD k []);rw [hs] at Je hkR;cases Q4:mayB E s with
 | true =>
  rw [Q4,if_pos rfl] at hkR;have Zu:=@Ef;have Kq:Khq:=⟨⟩;exact Wy
 | false =>
  rw [Q4,if_neg (by simp)] at hkR
  have hkR:((m:Int),(d:Int),s,(5:Int))=R:=hkR;subst hkR;have Zu:=@eZ.eq_def;have Zx:=@Ef;exact Af):p:=h
structure Khm:Prop
theorem Khm.k (_:Khm) (h:p:=by
 repeat' first|exact Z8|with_reducible apply Zb|intro _
 all_goals first|with_reducible exact Jd|omega|skip
 refine Zm [2,3,4,5,8,9,10,17,18,19,20,21,22,23,24,25,26,27,28,29,30,31,32,33,34,35,36,37,38,39,40,41,42,43,44,45,46,47,48,49,50,51,52,53,54,55,56,57,58,59] (fun d:Nat=>[(7,.d (.int .i64 d))]) (fun d:Nat=>[]) (fun d:Nat=>d≤md.length∧Zuu (match Zva l m (md.length-d) d with|some (d,s)=>some (m,d,s)|none=>L)=R) (fun d:Nat=>md.length-d) 0 ?_ ?_ ?_
 ·exact ⟨Nat.zero_le _,hmR⟩
 ·exact Qw
 rintro d ⟨hd,hdR⟩;rcases Zo d md.length with ⟨hdlt,Qe⟩|⟨hdlt,Qe⟩
 rotate_left
 ·have hz:md.length-d=0:=by omega
  rw [hz] at hdR;have hdR:Zuu L=R:=hdR;rw [←hL] at hdR;have Kq:Khn:=⟨⟩;exact Wy
 have Qc:=Zr J3 hdlt;have hdm:md.getD d J3∈md:=by simp [hdlt]
 have hT:=htr _ hdm;have hg1:md.length-d=(md.length-(d+1))+1:=by omega
 rw [hg1,Zva,hdf] at hdR;have hel:=Zzh hE (m:=(m:Int)) (d:=(d:Int));obtain ⟨E,Qh⟩:=exq (Zrp l (m:Int) (d:Int));rw [Qh] at hdR hel;obtain ⟨⟨dn,dt,de⟩,hD⟩:=exq (md.getD d J3);rw [hD] at Qc hT hdR;simp only at hT hdR;have hFl:=Zrg hT;obtain ⟨F,Qn⟩:=exq (fW de);rw [Qn] at hdR hFl;have Zu:=@Ef;have Kq:Kho:=⟨⟩;exact Wy):p:=h
structure Khl:Prop
theorem Khl.k (_:Khl) (h:p:=by
 repeat' first|exact Z8|with_reducible apply Zb|intro _
 all_goals first|with_reducible exact Jd|omega|skip
 refine Zm [2,3,4,5,7,8,9,10,11,12,13,14,15,16,17,18,19,20,21,22,23,24,25,26,27,28,29,30,31,32,33,34,35,36,37,38,39,40,41,42,43,44,45,46,47,48,49,50,51,52,53,54,55,56,57,58,59] (fun m:Nat=>[(6,.d (.int .i64 m))]) (fun m:Nat=>[]) (fun m:Nat=>m≤l.length∧Zuu (Zyn l (l.length-m) m)=R) (fun m:Nat=>l.length-m) 0 ?_ ?_ ?_
 ·exact ⟨Nat.zero_le _,hR2⟩
 ·exact Qw
 rintro m ⟨hm,hmR⟩;rcases Zo m l.length with ⟨hlt,Qb⟩|⟨hlt,Qb⟩
 rotate_left
 ·have hz:l.length-m=0:=by omega
  rw [hz] at hmR;have hmR:((0:Int),(0:Int),([]:List UInt8),(0:Int))=R:=hmR;subst hmR;have Zu:=@eZ.eq_def;exact qC
 have Z9:=Zr Jx hlt;have hmem:l.getD m Jx∈l:=by simp [hlt]
 have hdl:=hE.defs _ hmem;have htr:=hN.tree _ hmem;have hf1:l.length-m=(l.length-(m+1))+1:=by omega
 rw [hf1,Zyn] at hmR;obtain ⟨L,hL⟩:=exq (Zyn l (l.length-(m+1)) (m+1));rw [hL] at hmR;have hdf:∀ d,Qie l m d=(l.getD m Jx).defs.getD d J3:=fun d=>rfl;obtain ⟨M,hM⟩:=exq (l.getD m Jx);rw [hM] at Z9 hdl htr hmR hdf;obtain ⟨mn,mi,md,ms⟩:=M;simp only at hdl htr hmR hdf;have Kq:Khm:=⟨⟩;exact Wy):p:=h
theorem good_Names9:Qa Tryz.prog (23,Ip):=by
 obtain ⟨Kx,Kt,Kc,Kd,Kb,Ku,Kw,K,X9,Uv,Po,_⟩:=Xe Zv Zn [] false (Q0 good_Env9 jN.eq_def (Q0 good_Free5 cN.eq_def (Q0 good_may9 jH.eq_def Xd)));have Ko:=Ip.eq_def;refine Xj K Tryz.func23 [.tmp 2,.tmp 3,.tmp 4,.tmp 5] rfl 60 rfl (fun c hc cvs hpre=>?_);unfold Ip at hpre;obtain ⟨⟨l⟩,rfl,hN⟩:=Zwm hpre;simp only at hN;clear hpre;have hE:=hN.env;have hlen:=hE.len;obtain ⟨R,Qf⟩:=exq (rD l);have hR2:=Qf;unfold rD at hR2;cases hc;refine Y4 3 ?_;have Zu:=@eZ.eq_def;have Kq:Khl:=⟨⟩;exact Wy
open Go.Proofs Go.Rose Go.Rose.Rose Gr
structure PX where
 t:List Part
 i:Nat
 bd:Option (List (List UInt8))
 S:List (List UInt8)
noncomputable def PX.x (a:PX):Rose Part:=Yl kD a.t a.i
theorem Zrz {m:Nat} {l:List Nat} (h:decide (∀ j,j<m→l[j]?=some (90000+j))=true):Ztx m l:=fun j hj=>of_decide_eq_true h j hj
open Go.Proofs Go.Shelf Go.RowKit
def wP:Ren:=⟨fun x=>if x=7 then 71 else if x=10 then 124 else x,fun x=>if x=3 then 4 else if x=23 then 105 else if x=26 then 3 else if x=27 then 108 else if x=28 then 109 else if x=33 then 155 else x,fun x=>x⟩
theorem Qhh : Bears Tryz.prog (wP.f 7) (SlBodyZ.n7 wP) := ⟨"maps.Keys[map[int]bool,int,bool]", by decide, by show Tryz.prog.funcs[71]? = _; rw [Tryz.func71]; kernel_rfl⟩
theorem Qgc : Bears Tryz.prog (wP.f 10) (SlBodyZ.n10 wP) := ⟨"maps.Keys[map[int]bool,int,bool]$1", by decide, by show Tryz.prog.funcs[124]? = _; rw [Tryz.func124]; kernel_rfl⟩
theorem Qgb:SlLaysZI.n7 Tryz.prog wP:=⟨by kernel_rfl,Qhh,Qgc,Tryz.underlying0,Tryz.isAgg0,Tryz.sizeOf0,Tryz.zeroValue0,Tryz.underlying4,Tryz.isAgg4,Tryz.sizeOf4,Tryz.zeroValue4,Tryz.underlying105,Tryz.isAgg105,Tryz.sizeOf105,Tryz.zeroValue105,Tryz.underlying3,Tryz.isAgg3,Tryz.sizeOf3,Tryz.zeroValue3,Tryz.underlying108,Tryz.isAgg108,Tryz.sizeOf108,Tryz.zeroValue108,Tryz.underlying109,Tryz.isAgg109,Tryz.sizeOf109,Tryz.zeroValue109,Tryz.underlying155,Tryz.isAgg155,Tryz.sizeOf155,Tryz.zeroValue155⟩
def mU:Ren:=⟨fun x=>if x=6 then 70 else if x=8 then 122 else if x=9 then 123 else if x=11 then 167 else x,fun x=>if x=24 then 65 else if x=26 then 3 else if x=28 then 109 else if x=33 then 155 else x,fun x=>x⟩
theorem Qhd : Bears Tryz.prog (mU.f 6) (SlBodyZ.n6 mU) := ⟨"slices.Sorted[int]", by decide, by show Tryz.prog.funcs[70]? = _; rw [Tryz.func70]; kernel_rfl⟩
theorem Qhc : Bears Tryz.prog (mU.f 8) (SlBodyZ.n8 mU) := ⟨"slices.Collect[int]", by decide, by show Tryz.prog.funcs[122]? = _; rw [Tryz.func122]; kernel_rfl⟩
theorem Qfr : Bears Tryz.prog (mU.f 11) (SlBodyZ.n11 mU) := ⟨"slices.AppendSeq[[]int,int]", by decide, by show Tryz.prog.funcs[167]? = _; rw [Tryz.func167]; kernel_rfl⟩
theorem Qhb:SlLaysZI.n6 Tryz.prog mU:=⟨by kernel_rfl,Qhd,Qhc,Qfr,Tryz.underlying0,Tryz.isAgg0,Tryz.sizeOf0,Tryz.zeroValue0,Tryz.underlying65,Tryz.isAgg65,Tryz.sizeOf65,Tryz.zeroValue65,Tryz.underlying3,Tryz.isAgg3,Tryz.sizeOf3,Tryz.zeroValue3,Tryz.underlying109,Tryz.isAgg109,Tryz.sizeOf109,Tryz.zeroValue109,by kernel_rfl⟩
def Wc:Ren:=⟨fun x=>if x=5 then 123 else if x=7 then 168 else if x=8 then 169 else if x=10 then 198 else if x=11 then 199 else if x=12 then 200 else if x=13 then 201 else if x=14 then 202 else if x=15 then 203 else if x=16 then 204 else if x=17 then 205 else if x=18 then 206 else if x=19 then 207 else if x=20 then 208 else if x=30 then 236 else if x=31 then 237 else if x=32 then 238 else if x=33 then 239 else if x=34 then 240 else if x=35 then 241 else if x=40 then 257 else x,fun x=>if x=22 then 65 else if x=23 then 65 else if x=25 then 3 else if x=32 then 196 else if x=35 then 213 else if x=36 then 214 else if x=41 then 184 else if x=44 then 220 else if x=46 then 222 else if x=53 then 239 else if x=57 then 243 else if x=63 then 256 else if x=64 then 257 else x,fun x=>x⟩
theorem Qhg : Bears Tryz.prog (Wc.f 5) (SlBodyM.n5 Wc) := ⟨"slices.Sort[[]int,int]", by decide, by show Tryz.prog.funcs[123]? = _; rw [Tryz.func123]; kernel_rfl⟩
theorem Qhf : Bears Tryz.prog (Wc.f 7) (SlBodyM.n7 Wc) := ⟨"slices.pdqsortOrdered[int]", by decide, by show Tryz.prog.funcs[168]? = _; rw [Tryz.func168]; kernel_rfl⟩
theorem Qhe:Tryz.prog.funcs[Wc.f 8]?=some (SlBodyM.n8 Wc):=by show Tryz.prog.funcs[169]?=_;rw [Tryz.func169];kernel_rfl
theorem Qga : Bears Tryz.prog (Wc.f 10) (SlBodyM.n10 Wc) := ⟨"slices.insertionSortOrdered[int]", by decide, by show Tryz.prog.funcs[198]? = _; rw [Tryz.func198]; kernel_rfl⟩
theorem Qf9 : Bears Tryz.prog (Wc.f 11) (SlBodyM.n11 Wc) := ⟨"slices.heapSortOrdered[int]", by decide, by show Tryz.prog.funcs[199]? = _; rw [Tryz.func199]; kernel_rfl⟩
theorem Qf8 : Bears Tryz.prog (Wc.f 12) (SlBodyM.n12 Wc) := ⟨"slices.breakPatternsOrdered[int]", by decide, by show Tryz.prog.funcs[200]? = _; rw [Tryz.func200]; kernel_rfl⟩
theorem Qf7 : Bears Tryz.prog (Wc.f 13) (SlBodyM.n13 Wc) := ⟨"slices.choosePivotOrdered[int]", by decide, by show Tryz.prog.funcs[201]? = _; rw [Tryz.func201]; kernel_rfl⟩
theorem Qf6 : Bears Tryz.prog (Wc.f 14) (SlBodyM.n14 Wc) := ⟨"slices.reverseRangeOrdered[int]", by decide, by show Tryz.prog.funcs[202]? = _; rw [Tryz.func202]; kernel_rfl⟩
theorem Qf5 : Bears Tryz.prog (Wc.f 15) (SlBodyM.n15 Wc) := ⟨"slices.partialInsertionSortOrdered[int]", by decide, by show Tryz.prog.funcs[203]? = _; rw [Tryz.func203]; kernel_rfl⟩
theorem Qf4 : Bears Tryz.prog (Wc.f 16) (SlBodyM.n16 Wc) := ⟨"cmp.Less[int]", by decide, by show Tryz.prog.funcs[204]? = _; rw [Tryz.func204]; kernel_rfl⟩
theorem Qf3 : Bears Tryz.prog (Wc.f 17) (SlBodyM.n17 Wc) := ⟨"slices.partitionEqualOrdered[int]", by decide, by show Tryz.prog.funcs[205]? = _; rw [Tryz.func205]; kernel_rfl⟩
theorem Qf2 : Bears Tryz.prog (Wc.f 18) (SlBodyM.n18 Wc) := ⟨"slices.partitionOrdered[int]", by decide, by show Tryz.prog.funcs[206]? = _; rw [Tryz.func206]; kernel_rfl⟩
theorem Qf1:Tryz.prog.funcs[Wc.f 19]?=some (SlBodyM.n19 Wc):=by show Tryz.prog.funcs[207]?=_;rw [Tryz.func207];kernel_rfl
theorem Qf0:Tryz.prog.funcs[Wc.f 20]?=some (SlBodyM.n20 Wc):=by show Tryz.prog.funcs[208]?=_;rw [Tryz.func208];kernel_rfl
theorem Qfz : Bears Tryz.prog (Wc.f 30) (SlBodyM.n30 Wc) := ⟨"slices.siftDownOrdered[int]", by decide, by show Tryz.prog.funcs[236]? = _; rw [Tryz.func236]; kernel_rfl⟩
theorem Qfy:Tryz.prog.funcs[Wc.f 31]?=some (SlBodyM.n31 Wc):=by show Tryz.prog.funcs[237]?=_;rw [Tryz.func237];kernel_rfl
theorem Qfx:Tryz.prog.funcs[Wc.f 32]?=some (SlBodyM.n32 Wc):=by show Tryz.prog.funcs[238]?=_;rw [Tryz.func238];kernel_rfl
theorem Qfw : Bears Tryz.prog (Wc.f 33) (SlBodyM.n33 Wc) := ⟨"slices.medianAdjacentOrdered[int]", by decide, by show Tryz.prog.funcs[239]? = _; rw [Tryz.func239]; kernel_rfl⟩
theorem Qfv : Bears Tryz.prog (Wc.f 34) (SlBodyM.n34 Wc) := ⟨"slices.medianOrdered[int]", by decide, by show Tryz.prog.funcs[240]? = _; rw [Tryz.func240]; kernel_rfl⟩
theorem Qfu : Bears Tryz.prog (Wc.f 35) (SlBodyM.n35 Wc) := ⟨"cmp.isNaN[int]", by decide, by show Tryz.prog.funcs[241]? = _; rw [Tryz.func241]; kernel_rfl⟩
theorem Qft : Bears Tryz.prog (Wc.f 40) (SlBodyM.n40 Wc) := ⟨"slices.order2Ordered[int]", by decide, by show Tryz.prog.funcs[257]? = _; rw [Tryz.func257]; kernel_rfl⟩
theorem Qfs:SlLaysM.n5 Tryz.prog Wc:=⟨by kernel_rfl,Qhg,Qhf,Qhe,Qga,Qf9,Qf8,Qf7,Qf6,Qf5,Qf4,Qf3,Qf2,Qf1,Qf0,Qfz,Qfy,Qfx,Qfw,Qfv,Qfu,Qft,Tryz.underlying0,Tryz.isAgg0,Tryz.sizeOf0,Tryz.zeroValue0,Tryz.underlying3,Tryz.isAgg3,Tryz.sizeOf3,Tryz.zeroValue3,Tryz.underlying4,Tryz.isAgg4,Tryz.sizeOf4,Tryz.zeroValue4,Tryz.underlying5,Tryz.isAgg5,Tryz.sizeOf5,Tryz.zeroValue5,Tryz.underlying9,Tryz.isAgg9,Tryz.sizeOf9,Tryz.zeroValue9,Tryz.underlying65,Tryz.isAgg65,Tryz.sizeOf65,Tryz.zeroValue65,Tryz.underlying65,Tryz.isAgg65,Tryz.sizeOf65,Tryz.zeroValue65,Tryz.underlying3,Tryz.isAgg3,Tryz.sizeOf3,Tryz.zeroValue3,Tryz.underlying196,Tryz.isAgg196,Tryz.sizeOf196,Tryz.zeroValue196,Tryz.underlying213,Tryz.isAgg213,Tryz.sizeOf213,Tryz.zeroValue213,Tryz.underlying214,Tryz.isAgg214,Tryz.sizeOf214,Tryz.zeroValue214,Tryz.underlying184,Tryz.isAgg184,Tryz.sizeOf184,Tryz.zeroValue184,Tryz.underlying220,Tryz.isAgg220,Tryz.sizeOf220,Tryz.zeroValue220,Tryz.underlying222,Tryz.isAgg222,Tryz.sizeOf222,Tryz.zeroValue222,Tryz.underlying239,Tryz.isAgg239,Tryz.sizeOf239,Tryz.zeroValue239,Tryz.underlying243,Tryz.isAgg243,Tryz.sizeOf243,Tryz.zeroValue243,Tryz.underlying256,Tryz.isAgg256,Tryz.sizeOf256,Tryz.zeroValue256,Tryz.underlying257,Tryz.isAgg257,Tryz.sizeOf257,Tryz.zeroValue257⟩
open Go.Proofs Go.Shelf Go.RowKit Go.Maps Go.Sort
theorem Zx5 {w w':World} {m:Nat→Nat} {t n:Nat} {v:Value} {xs:List Value} {l:List D} (hrow:w'.ownsRow w.heap.size t 1 v n xs) (hn:n=l.length) (hR:∀ F:Fix,RE F 1 l xs) (hnew:∀ b,w.heap.size≤b→m b=0) (hsz:w.heap.size≤w'.heap.size) :
  ∃ m':Nat→Nat,(∀ b,b<w.heap.size→m' b=m b)∧(∀ b,w'.heap.size≤b→m' b=0)∧R ⟨w',m'⟩ (.list 1 l) v:=by
 subst hn;rcases hrow.2 with ⟨rfl,h0⟩|⟨g,cap,nU,rfl,hb,hg,h1,h2,h3,h4⟩
 ·have hl:l=[]:=List.eq_nil_of_length_eq_zero h0;subst hl;refine ⟨m,fun _ _=>rfl,fun b hb=>hnew b (by omega),?_⟩
  simp only [R];exact ⟨none,0,rfl,Zq _,Nat.zero_le _,by simp⟩
 ·have hgl:g<w'.heap.size:=(Array.getElem?_eq_some_iff.1 hg).1;refine ⟨fun k=>if k=g then l.length else m k,fun b hb'=>?_,fun b hb'=>?_,?_⟩
  ·simp only [if_neg (show b≠g by omega)]
  ·simp only [if_neg (show b≠g by omega)]
   exact hnew b (by omega)
  ·simp only [R];refine ⟨_,cap,rfl,h1,h2,fun _=>⟨g,0,_,rfl,hR _,?_⟩⟩;have hl:=RE.length (hR ⟨w',m⟩);refine ⟨by simp [hl],fun j u hj=>?_⟩
   rw [Nat.zero_add];rw [←h4] at hj;rw [List.getElem?_take] at hj;split at hj
   ·simp only [World.cell?,hg];simpa using hj
   ·cases hj
structure MSI where
 ks:List (List UInt8)
 vs:List Int
instance encMSI:Enc MSI:=⟨fun a=>.map (a.ks.map enc) (a.vs.map enc),fun x=>match x with
 | .map a b=>⟨a.map dec,b.map dec⟩
 | _=>⟨[],[]⟩,fun a=>by
  obtain ⟨k,v⟩:=a;simp only [List.map_map];have h1:(dec∘enc:List UInt8→List UInt8)=id:=funext fun x=>Enc.dec_enc x;have h2:(dec∘enc:Int→Int)=id:=funext fun x=>Enc.dec_enc x;rw [h1,h2,List.map_id,List.map_id]⟩
structure MB where
 ks:List Int
 vs:List Bool
instance encMB:Enc MB:=⟨fun a=>.map (a.ks.map enc) (a.vs.map enc),fun x=>match x with
 | .map a b=>⟨a.map dec,b.map dec⟩
 | _=>⟨[],[]⟩,fun a=>by
  obtain ⟨k,v⟩:=a;simp only [List.map_map];have h1:(dec∘enc:Int→Int)=id:=funext fun x=>Enc.dec_enc x;have h2:(dec∘enc:Bool→Bool)=id:=funext fun x=>Enc.dec_enc x;rw [h1,h2,List.map_id,List.map_id]⟩
structure ItI where
 m:MB
instance encItI:Enc ItI:=⟨fun a=>.it 124 (a.m.ks.map enc) (a.m.vs.map enc),fun x=>match x with
 | .it _ a b=>⟨⟨a.map dec,b.map dec⟩⟩
 | _=>⟨⟨[],[]⟩⟩,fun a=>by
  obtain ⟨k,v⟩:=a;simp only [List.map_map];have h1:(dec∘enc:Int→Int)=id:=funext fun x=>Enc.dec_enc x;have h2:(dec∘enc:Bool→Bool)=id:=funext fun x=>Enc.dec_enc x;rw [h1,h2,List.map_id,List.map_id]⟩
theorem Qdd {ks:List Int} {vs:List Bool}:V9 MB (.map (ks.map enc) (vs.map enc))=True:=eq_true (Xq (⟨ks,vs⟩:MB))
theorem Qdm {ks:List Int} {vs:List Bool}:(dec (.map (ks.map enc) (vs.map enc)):MB)=⟨ks,vs⟩:=Enc.dec_enc (⟨ks,vs⟩:MB)
theorem Ztr {a:ItI}:(enc a:D)=.it 124 (a.m.ks.map enc) (a.m.vs.map enc):=rfl
theorem Qbl {ks:List Int} {vs:List Bool}:V9 ItI (.it 124 (ks.map enc) (vs.map enc))=True:=eq_true (Xq (⟨⟨ks,vs⟩⟩:ItI))
theorem Qby {ks:List Int} {vs:List Bool}:(dec (.it 124 (ks.map enc) (vs.map enc)):ItI)=⟨⟨ks,vs⟩⟩:=Enc.dec_enc (⟨⟨ks,vs⟩⟩:ItI)
theorem Qcn {F:Fix} {base:Nat} {pass:Nat→Prop} {x:D} {v:Value} (h:R F x v):Zpq F base pass (.d x) v:=by
 simp only [Zpq,Ui,zR];refine ⟨⟨_,[],rfl,h,rfl⟩,fun k hk=>?_⟩;simp [Q1] at hk
theorem Qbk {w:World} {m:Nat→Nat} {f t:Nat} {ks vs:List D} {v:Value} (hv:R ⟨w,m⟩ (.map ks vs) v) (hnew:∀ b,w.heap.size≤b→m b=0) :
  ∃ m':Nat→Nat,(∀ b,b<w.heap.size→m' b=m b)∧(∀ b,(w.alloc (.cells #[v] t)).heap.size≤b→m' b=0)∧R ⟨w.alloc (.cells #[v] t),m'⟩ (.it f ks vs) (.func (.func f) #[] #[.pointer (some ⟨w.heap.size,0,none⟩)]):=by
 simp only [R] at hv;obtain ⟨b,es,c,rfl,h1,h2,h3,h4,h5⟩:=hv;have hbl:b<w.heap.size:=(Array.getElem?_eq_some_iff.1 h1).1;have hle:Fix.le ⟨w,m⟩ ⟨w.alloc (.cells #[.map (some b)] t),fun k=>if k=w.heap.size then 1 else m k⟩:=by
  refine ⟨fun k=>?_,fun k es' c' hk hkk=>?_⟩
  ·by_cases hk:k=w.heap.size
   ·have h0:=hnew k (by omega)
    refine ⟨by simp only;rw [h0];exact Nat.zero_le _,fun off ho=>by simp only at ho;omega⟩
   ·refine ⟨by simp only [if_neg hk];exact Zq _,fun off ho=>?_⟩
    rcases Nat.lt_or_ge k w.heap.size with hlt|hge
    ·exact World.cell?_of_block (Below.heap_alloc _ _ k hlt)
    ·have:=hnew k hge;simp only at ho;omega
  ·have hlt:k<w.heap.size:=(Array.getElem?_eq_some_iff.1 hkk).1;exact (Below.heap_alloc _ _ k hlt).trans hkk
 refine ⟨fun k=>if k=w.heap.size then 1 else m k,fun k hk=>by simp only [if_neg (show k≠w.heap.size by omega)],fun k hk=>?_,?_⟩
 ·have hs:(w.alloc (.cells #[.map (some b)] t)).heap.size=w.heap.size+1:=by simp
  rw [hs] at hk;simp only [if_neg (show k≠w.heap.size by omega)]
  exact hnew k (by omega)
 ·simp only [R];refine ⟨w.heap.size,b,es,c,rfl,by simp,by simp,(Below.heap_alloc _ _ b hbl).trans h1,?_,Rs.mono hle h3,Rs.mono hle h4,h5⟩
  simp only [if_neg (show b≠w.heap.size by omega)]
  exact h2
def zQ:Con:=J7 (fun (_:MB)=>True) (fun m=>ItI.mk m)
theorem Zrf:Qa Tryz.prog (71,zQ):=by
 refine ⟨Jp Tryz.func71 (by kernel_rfl) rfl,?_⟩
 intro m w cvs vs hpre hcv hnd hnew;obtain ⟨a,rfl,-⟩:=Q2 (id hpre:(J7 (fun (_:MB)=>True) (fun m=>ItI.mk m)).pre cvs);simp only [Ui,zR] at hcv;obtain ⟨v,r,rfl,hv,rfl⟩:=hcv;obtain ⟨m',q1,q2,q3⟩:=Qbk (f:=124) (t:=105) (m:=m) hv hnew;have hm:∃ b,v=.map (some b):=by
  have hv':=hv
  change R _ (.map _ _) _ at hv'
  simp only [R] at hv';obtain ⟨b,_,_,e,_⟩:=hv';exact ⟨b,e⟩
 obtain ⟨b,rfl⟩:=hm;have hk:=(callsIn_wide (n:=5)).1 (AnyZI.keys_in Qgb Fence.wide 5 trivial rfl (some b) w);refine Calls.mono hk ?_;rintro e w' ⟨rfl,rfl⟩;have hb:=(Below.refl w.heap.size w).alloc (Zq _) (.cells #[.map (some b)] 105);exact ⟨_,m',rfl,⟨hb.os,hb.tape,hb.output,hb.size,fun k hk _=>hb.block k hk⟩,fun b hb _=>q1 b hb,q2,by
  show Zpq _ _ _ (.d (enc (ItI.mk (dec (enc a):MB)))) _;rw [Enc.dec_enc];exact Qcn q3⟩
def Zxv (l:List (List UInt8)):List (List UInt8):=l.mergeSort fun x y=>decide (x≤y)
def dB (l:List Int):List Int:=l.mergeSort fun x y=>decide (x≤y)
def Zm4 (_:Value):Option (DataW Unit×List MemPlace):=some (.nil,[])
theorem Zao {F:Fix} {P:Program} {k:TypeId} {es:List MapEntry} {α:Type} {f:α→Value} {g:Lit→α} {ks:List α} (hk:es.map MapEntry.key=ks.map f) (hr:∀ x∈ks,∃ kl,keyOf P k (f x)=some kl∧g kl=x) :
  ((es.map (WideElems.rg P k Zm4)).map fun p=>g p.1)=ks:=by
 induction es generalizing ks with
 | nil=>cases ks with
  | nil=>rfl
  | cons x ks=>simp at hk
 | cons e es ih =>
  cases ks with
  | nil=>simp at hk
  | cons x ks =>
   simp only [List.map_cons,List.cons.injEq] at hk;obtain ⟨kl,h1,h2⟩:=hr x (List.mem_cons_self ..);have e1:WideElems.rg P k Zm4 e=(kl,.nil):=by
    refine WideElems.rg_of ?_;obtain ⟨key,val,born⟩:=e;simp only at hk;rw [hk.1];exact WideElems.rd_mk (yv:=(.nil,[])) h1 rfl
   rw [List.map_cons,List.map_cons,e1,ih hk.2 fun y hy=>hr y (List.mem_cons_of_mem _ hy)];rw [←h2]
theorem Zod {P:Program} {k:TypeId} {es:Array MapEntry} {c:Nat} {α:Type} {f:α→Value} {ks:List α} (hsz:es.size≤maxLen) (hst:Go.MapKept.Stamped es c) (hk:es.toList.map MapEntry.key=ks.map f) (hr:∀ x∈ks,∃ kl,keyOf P k (f x)=some kl):WideElems.Fit P k Zm4 es c:=by
 refine ⟨hsz,hst,fun e he=>?_⟩;have h1:e.key∈ks.map f:=by rw [←hk];exact List.mem_map_of_mem he
 obtain ⟨x,hx,e1⟩:=List.mem_map.1 h1;obtain ⟨kl,h2⟩:=hr x hx;obtain ⟨key,val,born⟩:=e;simp only at e1;refine ⟨(kl,.nil),?_⟩;rw [←e1];exact WideElems.rd_mk (yv:=(.nil,[])) h2 rfl
theorem Qgk {F:Fix}:∀ {ks:List Int} {vs:List Value},Rs F (ks.map enc) vs→vs=ks.map Go.encZ
 | [],_,h=>by simpa [Rs] using h
 | k::ks,vs,h=>by
  simp only [List.map_cons,Rs] at h;obtain ⟨v,r,rfl,h1,h2⟩:=h;rw [List.map_cons,←Qgk h2];rw [show v=Go.encZ k from h1]
theorem Qgl {F:Fix}:∀ {ks:List Int},RE F 1 (ks.map enc) (ks.map Go.encZ)
 | []=>rfl
 | k::ks=>by
  simp only [List.map_cons,RE];refine ⟨Go.encZ k,ks.map Go.encZ,rfl,rfl,fun u hu=>?_,rfl,Qgl⟩;have:u=Go.encZ k:=by simpa [Value.cells,Go.encZ] using hu
  subst this;rfl
theorem Qc3 (m:Nat):AnyZI.SortsIn Tryz.prog mU Fence.wide m :=
 ⟨fun blk off cap ss W hH hblk hsz=>callsIn_wide.2 (AnyM.slices_Sort_int Qfs blk off cap ss W hH hblk hsz),
  fun p cap W=>callsIn_wide.2 (AnyM.slices_Sort_int_none Qfs p cap W)⟩
def Fa:Con:=J7 (fun (a:ItI)=>a.m.ks.length≤1000000∧∀ s∈a.m.ks,0≤s∧s≤1000000) (fun a=>Sl.mk (dB a.m.ks))
theorem Za6:Qa Tryz.prog (70,Fa):=by
 refine ⟨Jp Tryz.func70 (by kernel_rfl) rfl,?_⟩
 intro m w cvs vs hpre hcv hnd hnew
 change Con.pre Fa cvs at hpre
 unfold Fa at hpre;obtain ⟨⟨⟨ks,us⟩⟩,rfl,hkl,hks⟩:=Q2 hpre;simp only at hkl hks;simp only [Ui,zR] at hcv;obtain ⟨v,r,rfl,hv,rfl⟩:=hcv;rw [Ztr] at hv;simp only [R] at hv;obtain ⟨bm,b,es,c,rfl,a1,a2,h1,h2,h3,h4,h5⟩:=hv;have hkey:=Qgk h3;have hread:∀ x∈ks,∃ kl,keyOf Tryz.prog 3 (Go.encZ x)=some kl∧Go.intOf kl=x:=fun x hx=>by
  refine ⟨_,keyOf_int_mk Tryz.underlying3 ?_,rfl⟩;obtain ⟨g1,g2⟩:=hks x hx;have w1:IntKind.min .i64=-9223372036854775808:=by decide
  have w2:IntKind.max .i64=9223372036854775807:=by decide
  simp [Lit.wf,w1,w2];omega
 have hes:es.size=ks.length:=by
  have:=congrArg List.length hkey;simpa using this
 have hbl:bm<w.heap.size:=by
  rcases Nat.lt_or_ge bm w.heap.size with h|h
  ·exact h
  ·have:=hnew bm h;omega
 have hown:w.ownsMap Tryz.prog 3 Zm4 b es.size (.map ((es.toList.map (WideElems.rg Tryz.prog 3 Zm4)).foldr DataW.insert [])) :=
  ⟨es,c,h1,Zod (by rw [hes];unfold maxLen;omega) h5 hkey (fun x hx=>(hread x hx).imp fun kl h=>h.1),Zq _,rfl⟩
 have hsize:Maps.size (DataW.map ((es.toList.map (WideElems.rg Tryz.prog 3 Zm4)).foldr DataW.insert []))=ks.length:=by
  rw [size_eq,length_read,hes]
 have hperm:(intKeys (DataW.map ((es.toList.map (WideElems.rg Tryz.prog 3 Zm4)).foldr DataW.insert []))).Perm ks:=by
  have:=Zao (F:=⟨w,m⟩) (P:=Tryz.prog) (k:=3) (g:=Go.intOf) hkey hread;show (List.map (fun p:Lit×DataW Unit=>Go.intOf p.1) _).Perm ks;refine List.Perm.trans ?_ (List.Perm.of_eq this);exact (Go.WideShapes.sorted_perm _).map _
 obtain ⟨D0,hD0⟩:∃ D0:DataW Unit,DataW.map ((es.toList.map (WideElems.rg Tryz.prog 3 Zm4)).foldr DataW.insert [])=D0:=⟨_,rfl⟩;rw [hD0] at hown hsize hperm;have hseq:SeqGives Fence.wide 2 Tryz.prog 124 #[.pointer (some ⟨bm,0,none⟩)] Go.encZ (fun ss=>ss.Perm (intKeys D0)) (Maps.size D0) w :=
  AnyZI.keys_gives (ρ:=wP) { Qgb with } Fence.wide _ trivial rfl (by omega) bm b _ _ _ hbl a1 hown
 have cS:=AnyZI.sorted_in Qhb Fence.wide 5 trivial trivial trivial trivial rfl (by omega) (Qc3 _) (Jp Tryz.func123 (by kernel_rfl) rfl) 124 #[.pointer (some ⟨bm,0,none⟩)] trivial (Jp Tryz.func124 (by kernel_rfl) rfl) _ _ (by rw [hsize];unfold maxLen;omega) (by rw [hsize];omega) _ hseq
 refine Calls.mono (callsIn_wide.1 cS) ?_;rintro e w' ⟨v,ss,rfl,hp,hrow,hnil,hb⟩;have hss:(ss.mergeSort fun x y=>decide (x≤y))=dB ks:=mergeSort_of_perm_i (hp.trans hperm);rw [hss] at hrow;have hlen:ss.length=((dB ks).map (enc:Int→D)).length:=by
  rw [Zl];unfold dB;rw [List.length_mergeSort,(hp.trans hperm).length_eq]
 obtain ⟨m',q1,q2,q3⟩:=Zx5 (m:=m) hrow hlen (fun F=>Qgl) hnew hb.size;exact ⟨_,m',rfl,⟨hb.os,hb.tape,hb.output,hb.size,fun k hk _=>hb.block k hk⟩,fun b hb _=>q1 b hb,q2,by
  show Zpq _ _ _ (.d (enc (Sl.mk (dB (dec (enc (ItI.mk ⟨ks,us⟩)):ItI).m.ks)))) _;rw [Enc.dec_enc];exact Qcn q3⟩
structure NamesP (l:List Mod6):Prop where
 ok:NamesOk l
 dist:Qah l
 short:∀ m∈l,∀ d∈m.defs,∀ p∈d.e,p.name.length≤3000000
theorem Zq7 {l:List Mod6} (h20:l.length≤20) (hG:∀ m∈l,Good9 m) (hD:Qah l):NamesP l :=
 ⟨⟨Zy9 h20 hG,fun m hm d hd=>Zmh ((hG m hm).right d hd)⟩,hD,fun m hm d hd p hp=>(((hG m hm).fit d hd).fit p hp).2.2.2.1⟩
end Go.Am.Ty
namespace Go.Am.Ty.Gr
open Go.Proofs
open Enc (enc dec)
section
variable {α β:Type} [BEq α]
variable [LawfulBEq α]
theorem sL {x:α}:∀ {l:List α},U1 x l=true↔x∈l
 | []=>by simp [U1]
 | y::l=>by simp only [U1,Bool.or_eq_true,Zk,sL (l:=l),Zs]
theorem Qbq {x:α} {l:List α}:U1 x l=false↔x∉l:=by
 rw [←sL,Bool.eq_false_iff]
end
def Zu4 (l:List V2):Nat→List (List UInt8)
 | 0=>[]
 | k+1=>cond (U1 (nm l k) (Zu4 l k)) (Zu4 l k) (K9 (nm l k) (Zu4 l k))
def Qc9 (l:List V2):Nat→List Int
 | 0=>[]
 | k+1=>cond (U1 (nm l k) (Zu4 l k)) (Qc9 l k) (S8 (nm l k) (k:Int) (Zu4 l k) (Qc9 l k))
def Zam (l:List V2):MSI:=⟨Zu4 l l.length,Qc9 l l.length⟩
section
variable {α:Type} [BEq α] [LawfulBEq α]
theorem Zn7 {x:α} {ks:List α} (h:ks.Nodup):(K9 x ks).Nodup:=by
 unfold K9;cases hh:U1 x ks with
 | true=>exact h
 | false =>
  rw [cond_false];refine List.nodup_append.2 ⟨h,by simp,fun a ha b hb e=>?_⟩
  rw [Zp] at hb;subst hb;subst e;exact Qbq.1 hh ha
end
theorem fA {m:V2} {s:List UInt8}:∀ {l:List V2},Wt (l++[m]) s=match Wt l s with
  | some j=>some j
  | none=>if m.name=s then some l.length else none
 | []=>by
  show (if m.name=s then some 0 else (none:Option Nat).map _)=if m.name=s then some 0 else none
  split<;>rfl
 | x::l=>by
  rw [List.cons_append,Wt,Wt];by_cases h:x.name=s
  ·rw [if_pos h,if_pos h]
  ·rw [if_neg h,if_neg h,fA (l:=l)];cases Wt l s with
   | some j=>rfl
   | none=>by_cases hm:m.name=s<;>simp [hm]
theorem Zqi (l:List V2):∀ k,k≤l.length→(Zu4 l k).length=(Qc9 l k).length∧(Zu4 l k).Nodup ∧
  ∀ s,U1 s (Zu4 l k)=(Wt (l.take k) s).isSome∧Oh s 0 (Zu4 l k) (Qc9 l k)=((Wt (l.take k) s).getD 0:Nat)
 | 0,_=>⟨rfl,List.nodup_nil,fun s=>⟨rfl,rfl⟩⟩
 | k+1,hk=>by
  obtain ⟨h1,h2,h3⟩:=Zqi l k (by omega)
  have hlt:k<l.length:=by omega
  have hnm:l[k].name=nm l k:=by simp [nm,hlt]
  have htk:l.take (k+1)=l.take k++[l[k]]:=List.take_succ_eq_append_getElem hlt;obtain ⟨g1,g2⟩:=h3 (nm l k);cases hh:U1 (nm l k) (Zu4 l k) with
  | true =>
   simp only [Zu4,Qc9,hh,cond_true];refine ⟨h1,h2,fun s=>?_⟩;rw [htk,fA];obtain ⟨q1,q2⟩:=h3 s;cases hf:Wt (l.take k) s with
   | some j=>rw [hf] at q1 q2;exact ⟨q1,q2⟩
   | none =>
    rw [hf] at q1 q2;have:¬ l[k].name=s:=by
     rw [hnm];rintro rfl;rw [hh] at q1;cases q1
    simp only [if_neg this];exact ⟨q1,q2⟩
  | false =>
   simp only [Zu4,Qc9,hh,cond_false];refine ⟨(lU h1).symm,Zn7 h2,fun s=>?_⟩;rw [htk,fA,Zn8,sM h1];obtain ⟨q1,q2⟩:=h3 s;rw [q1,q2];cases hf:Wt (l.take k) s with
   | some j =>
    have:(s==nm l k)=false:=by
     rw [Za];rintro rfl;rw [hf] at g1;rw [hh] at g1;cases g1
    rw [this];exact ⟨rfl,rfl⟩
   | none =>
    rw [hnm];cases hs:(s==nm l k) with
    | true =>
     rw [if_pos (eq_of_beq hs).symm];simp;omega
    | false =>
     rw [Za] at hs;rw [if_neg (fun e=>hs e.symm)];exact ⟨rfl,rfl⟩
theorem Zqf (l:List V2) (s:List UInt8):U1 s (Zam l).ks=(Wt l s).isSome:=by
 have:=((Zqi l l.length (Zq _)).2.2 s).1;rwa [List.take_length] at this
theorem qW (l:List (List UInt8)):(Zxv l).Perm l:=List.mergeSort_perm _ _
def Aq (l:List V2):List (List UInt8):=Zxv (Zam l).ks
theorem rI {l:List V2} {s:List UInt8}:s∈Aq l↔∃ k,Wt l s=some k:=by
 unfold Aq;rw [(qW _).mem_iff,←sL,Zqf,Option.isSome_iff_exists]
theorem nY (l:List V2):(Aq l).Nodup:=by
 unfold Aq;rw [(qW _).nodup_iff];exact (Zqi l l.length (Zq _)).2.1
theorem gG (l:List V2):(Aq l).Pairwise (fun a b=>a≤b):=by
 have h1:(Zxv (Zam l).ks).Pairwise (fun a b=>decide (a≤b)=true):=List.pairwise_mergeSort (fun a b c h1 h2=>by
  simp only [decide_eq_true_eq] at *;exact List.le_trans h1 h2) (fun a b=>by
  simp only [Bool.or_eq_true,decide_eq_true_eq];exact List.le_total a b) _
 exact h1.imp fun h=>by rwa [decide_eq_true_eq] at h
theorem Zog {l:List V2} {s:List UInt8}:(∃ j,Wt l s=some j)↔∃ k,k<l.length∧nm l k=s :=
 ⟨fun ⟨j,h⟩=>⟨j,Ta h,aW h⟩,fun ⟨k,h,e⟩=>by subst e;obtain ⟨j,h1,_⟩:=sU h;exact ⟨j,h1⟩⟩
structure Alike8 (l r:List V2):Prop where
 ul:Zbs l
 ur:Zbs r
 lr:∀ k,k<l.length→∃ j,j<r.length∧nm r j=nm l k∧imp r j=imp l k
 rl:∀ j,j<r.length→∃ k,k<l.length∧nm l k=nm r j∧imp l k=imp r j
theorem Alike8.symm {l r:List V2} (h:Alike8 l r):Alike8 r l:=⟨h.ur,h.ul,h.rl,h.lr⟩
theorem Alike8.mem {l r:List V2} (h:Alike8 l r) (s:List UInt8):s∈Aq l↔s∈Aq r:=by
 rw [rI,rI,Zog,Zog];exact ⟨fun ⟨k,hk,e⟩=>by obtain ⟨j,hj,e2,_⟩:=h.lr k hk;exact ⟨j,hj,e2.trans e⟩,fun ⟨k,hk,e⟩=>by obtain ⟨j,hj,e2,_⟩:=h.rl k hk;exact ⟨j,hj,e2.trans e⟩⟩
theorem Alike8.names {l r:List V2} (h:Alike8 l r):Aq l=Aq r :=
 List.Perm.eq_of_pairwise (le:=fun a b=>a≤b) (fun a b _ _ h1 h2=>List.le_antisymm h1 h2) (gG l) (gG r) ((List.perm_ext_iff_of_nodup (nY l) (nY r)).2 h.mem)
theorem Alike8.succ {l r:List V2} (h:Alike8 l r) {k j k' j':Nat} (hs:pJ l k j) (hk:k'<r.length) (ek:nm r k'=nm l k) (hj:j'<r.length) (ej:nm r j'=nm l j):pJ r k' j':=by
 obtain ⟨s,hs,hf⟩:=hs;have hkl:=(pV ⟨s,hs,hf⟩:k<l.length∧j<l.length).1;obtain ⟨k2,hk2,e1,e2⟩:=h.lr k hkl;have:k'=k2:=fM h.ur hk hk2 (ek.trans e1.symm);subst this;refine ⟨s,by rw [e2];exact hs,?_⟩
 rw [←aW hf,←ej];exact h.ur j' hj
end Go.Am.Ty.Gr
namespace Go.Am.Ty
open Go.Proofs Go.Rose Go.Rose.Rose Gr
open Enc (enc dec)
def rv (l:List Mod6) (j:Nat):List Mod6:=(l.drop j).reverse
noncomputable def Fm (t:Tx9) (most:Int):Sl Mod6×Int×Bool :=
 if (Wf t).2=false then (⟨[]⟩,0,false) else
  ((T6 (Wf t).1).1,(T6 (Wf t).1).2.1,((rD (Wf t).1).2.2.2==0)&&(((T6 (Wf t).1).2.2==0)&&Xf (T6 (Wf t).1).2.1 most))
noncomputable def Eb:Con:=Y0 (fun (_:Tx9) (_:Int)=>True) (fun t most=>Fm t most)
theorem nO:Qa Tryz.prog (28,Eb):=by
 obtain ⟨Kx,Kt,Kc,Kd,Kb,Ku,Kw,K,X9,Uv,Po,_⟩:=Xe Zv Zn [] false (Q0 good_Program9 Cp.eq_def (Q0 good_Names9 Ip.eq_def (Q0 good_Number9 Fe.eq_def Xd)));have Ko:=Eb.eq_def;refine Xj K Tryz.func28 [.tmp 4,.tmp 5,.tmp 6] rfl 49 rfl (fun c hc cvs hpre=>?_);unfold Eb at hpre;obtain ⟨⟨names,texts⟩,most,rfl,-⟩:=fE hpre;clear hpre;have hg:=dE ⟨names,texts⟩;have ha:=qS (t:=⟨names,texts⟩);obtain ⟨R,Qf⟩:=exq (Fm ⟨names,texts⟩ most);have hR2:=Qf;unfold Fm at hR2;obtain ⟨⟨l,ok⟩,Qb⟩:=exq (Wf ⟨names,texts⟩);rw [Qb] at hg ha hR2;simp only at hg ha hR2;obtain ⟨h20,hG⟩:=hg;cases hc;refine Y4 3 ?_;cases ok with
 | false =>
  rw [if_pos rfl] at hR2;subst hR2;have Qn:=@eZ.eq_def;exact Af
 | true =>
  rw [if_neg (by simp)] at hR2
  have hP:=Zq7 h20 hG (ha rfl).1;have hPo:=hP.ok;have hN:=Zy8 h20 hG;clear hG;obtain ⟨⟨a,b,s,e⟩,Z9⟩:=exq (rD l);obtain ⟨⟨⟨P⟩,n,f⟩,Qe⟩:=exq (T6 l);rw [Z9,Qe] at hR2;simp only at hR2;cases Qc:(e==0) with
  | false =>
   rw [Qc,Bool.false_and] at hR2;subst hR2;have Qn:=@eZ.eq_def;exact Af
  | true =>
   rw [Qc,Bool.true_and] at hR2;cases Qh:(f==0) with
   | false =>
    rw [Qh,Bool.false_and] at hR2;subst hR2;have Qn:=@eZ.eq_def;exact Af
   | true =>
    rw [Qh,Bool.true_and] at hR2;subst hR2;have Qn:=@eZ.eq_def;exact Af
def aS (t:List Node):Prop:=∀ n∈t,n.kind≠8∧n.kind≠9
theorem V4:aS []:=fun _ h=>by cases h
theorem Zqh {a b:List Node} (ha:aS a) (hb:aS b):aS (a++b):=fun n hn=>by
 rcases List.mem_append.1 hn with h|h
 ·exact ha n h
 ·exact hb n h
theorem lY {k n:Int} {s:List UInt8} (h8:k≠8) (h9:k≠9):aS [⟨k,s,n⟩]:=fun m hm=>by
 rw [Zp] at hm;subst hm;exact ⟨h8,h9⟩
theorem Zyg {s:List UInt8} {t:List Node} (h:aS t):aS (named s t):=by
 cases t with
 | nil=>exact h
 | cons a t =>
  intro n hn;rcases Zs.1 hn with rfl|hn
  ·exact h a (List.mem_cons_self ..)
  ·exact h n (List.mem_cons_of_mem _ hn)
theorem Qfk {types:List (List Node)} (h:∀ t∈types,aS t) (k:Nat):aS (types.getD k []):=by
 rw [Zd];cases hk:types[k]? with
 | none=>exact V4
 | some x=>exact h x (List.mem_of_getElem? hk)
theorem Zsy {labels:List (List UInt8)} {types:List (List Node)} (ht:∀ t∈types,aS t):∀ (k:Nat) (done:List UInt8) (out:List Node),aS out→aS (fT labels types k done out).1
 | 0,_,_,h=>h
 | k+1,done,out,h=>by
  rw [fT];split
  ·exact V4
  ·exact Zsy ht k _ _ (Zqh h (Zyg (Qfk ht _)))
theorem Qax {k:Int} {labels:List (List UInt8)} {types:List (List Node)} (ht:∀ t∈types,aS t):aS (dJ k labels types).1:=by
 unfold dJ;split
 ·exact V4
 rename_i hk;split
 ·exact V4
 exact Zsy ht _ _ _ (lY (by omega) (by omega))
theorem qT {w:List Tok→St4→List Node×St4} {l:List Tok} (hw:∀ s,aS (w l s).1) {kind:Int} {bt fin:List UInt8}:∀ (f:Nat) (s:St4) (labels:List (List UInt8)) (types:List (List Node)),(∀ t∈types,aS t)→aS (Tp w l kind bt fin f s labels types).1
 | 0,_,_,_,_=>V4
 | f+1,s,labels,types,h2=>by
  have h4:∀ t∈types++[(w l (Vr l (Yo s) [58])).1],aS t:=fun x hx=>by
   rcases List.mem_append.1 hx with h|h
   ·exact h2 x h
   ·rw [Zp] at h;subst h;exact hw _
  rw [Tp];split
  ·exact V4
  split
  ·exact V4
  split
  ·exact V4
  split
  ·exact V4
  split
  ·exact Qax h4
  ·exact qT hw f _ _ _ h4
theorem Zzp (t:Tok):eY t≤4:=by
 unfold eY;repeat' split
 all_goals omega
theorem Zyh {w:List Tok→St4→List Node×St4} {l:List Tok} (hw:∀ s,aS (w l s).1) {d:Nat} {s:St4}:aS (Pk w d l s).1:=by
 unfold Pk;split
 ·exact V4
 split
 ·exact V4
 split
 ·exact lY (by omega) (by omega)
 split
 ·have:=Zzp (tk l s.at_);exact lY (by omega) (by omega)
 split
 ·exact V4
 split
 ·exact V4
 split
 ·exact lY (by omega) (by omega)
 split
 ·exact qT hw _ _ _ _ (fun _ h=>by cases h)
 split
 ·exact qT hw _ _ _ _ (fun _ h=>by cases h)
 ·exact hw _
theorem lJ {l:List Tok}:∀ (d:Nat) (s:St4),aS (Xg d l s).1
 | 0,_=>V4
 | d+1,s=>by
  have hA:=Zyh (w:=Xg d) (l:=l) (fun s=>lJ d s) (d:=d) (s:=s);rw [Xg];split
  ·exact hA
  split
  ·exact V4
  ·have h5:aS [(⟨5,[],0⟩:Node)]:=lY (by omega) (by omega)
   exact Zqh h5 (Zqh hA (lJ d _))
theorem Zyf (l:List Tok) (i site v:Int):aS (Vu l i site v).1:=by
 unfold Vu;split
 ·exact V4
 simp only;generalize (if (l.length:Int)<i then (l.length:Int) else i)=a
 split
 ·exact V4
 split
 ·exact V4
 split
 ·exact V4
 ·exact lJ _ _
theorem Zu1 (l:List Tok) (s:St6) (v:Int):aS (Dc l s v).1:=by
 unfold Dc;split
 ·exact V4
 split
 ·exact V4
 ·exact Zyf _ _ _ _
theorem Zu3 (l:List Tok) (s:St6) (v:Int):aS (Uy l s v).1:=by
 unfold Uy;split
 ·exact V4
 split
 ·exact Zu1 _ _ _
 ·exact lY (by omega) (by omega)
theorem Qay (l:List Tok) (s:St6) (had:List Def6):aS (oP l s had).1.t:=by
 unfold oP;simp only;split
 ·exact V4
 ·exact Zu3 _ _ _
theorem Zan {l:List Tok}:∀ (f:Nat) (s:St6) (defs:List Def6) (pl:List Int),(∀ d∈defs,aS d.t)→∀ d∈(vP l f s defs pl).2.1,aS d.t
 | 0,_,_,_,h=>h
 | f+1,s,defs,pl,h=>by
  rw [vP];split
  ·exact h
  split
  ·exact h
  ·refine Zan f _ _ _ fun d hd=>?_;rcases List.mem_append.1 hd with hd|hd
   ·exact h d hd
   ·rw [Zp] at hd;subst hd;exact Qay _ _ _
theorem Zqg (l:List Tok) (name:List UInt8):∀ d∈(Y2 l name).1.defs,aS d.t:=by
 unfold Y2;simp only;split
 ·exact fun d hd=>(by cases hd)
 split
 ·exact Zan _ _ _ _ fun d hd=>(by cases hd)
 ·exact Zan _ _ _ _ fun d hd=>(by cases hd)
theorem Zu2 (name text:List UInt8):∀ d∈(Ts name text).1.defs,aS d.t:=by
 unfold Ts;simp only;split
 ·exact fun d hd=>(by cases hd)
 split
 ·exact fun d hd=>(by cases hd)
 split
 ·exact fun d hd=>(by cases hd)
 ·exact Zqg _ _
theorem Zmr:∀ (ns ts:List (List UInt8)) (out:List Mod6),(∀ m∈out,∀ d∈m.defs,aS d.t)→∀ m∈(S1 ns ts out).1,∀ d∈m.defs,aS d.t
 | [],_,out,h=>by rw [S1];exact h;intro a b c d e;cases e
 | _::_,[],out,h=>by rw [S1];exact h;intro a b c d e f;cases f
 | n::ns,t::ts,out,h=>by
  rw [S1];split
  ·intro m hm;cases hm
  split
  ·intro m hm;cases hm
  refine Zmr ns ts _ fun m hm=>?_;rcases List.mem_append.1 hm with hm|hm
  ·exact h m hm
  ·rw [Zp] at hm;subst hm;exact Zu2 _ _
theorem Zye (t:Tx9):∀ m∈(El t).1,∀ d∈m.defs,aS d.t:=by
 unfold El;split
 ·intro m hm;cases hm
 ·exact Zmr _ _ _ fun m hm=>(by cases hm)
theorem Zms (t:Tx9):∀ m∈(Wf t).1,∀ d∈m.defs,aS d.t:=by
 have hG:=Al t;have h20:=hG.few.1;unfold Wf;split
 ·intro m hm;cases hm
 ·intro m hm;obtain ⟨x,hx,rfl⟩:=List.mem_map.1 hm;obtain ⟨k,rfl,hk⟩:=lK h20 x hx;rw [Zj,Zd,Zh hk];exact Zye t _ (List.getElem_mem hk)
structure FillOk (p:List Mod6):Prop where
 len:p.length≤1000
 defs:∀ m∈p,m.defs.length≤1000
 t:∀ m∈p,∀ d∈m.defs,d.t.length≤200000
 e:∀ m∈p,∀ d∈m.defs,Qaf d.e
def Hs (p:Part):Part:=⟨p.kind,p.label,p.name,p.bind,p.many,p.num,[],[]⟩
def Yv (d:Def6):Def6:=⟨d.name,[],d.e.mapIdx fun _=>Hs⟩
def Uu (m:Mod6):Mod6:=⟨m.name,m.imps,m.defs.mapIdx fun _=>Yv,m.sites⟩
def Uh (p:List Mod6):List Mod6:=p.mapIdx fun _=>Uu
structure BareOk (p:List Mod6):Prop where
 len:p.length≤1000
 defs:∀ m∈p,m.defs.length≤1000
 e:∀ m∈p,∀ d∈m.defs,d.e.length≤1000000
def Zsl (p:Part):List (Sl Node):=[⟨p.t⟩,⟨p.u⟩]
def Zlz (d:Def6):List (Sl Node):=[⟨d.t⟩]++d.e.flatMap Zsl
def Zxo (m:Mod6):List (Sl Node):=m.defs.flatMap Zlz
def Bk (p:List Mod6):List (Sl Node):=p.flatMap Zxo
theorem mZ {α β:Type} {f:α→List β} {l:List α} {k:Nat} (d:α) (h:k<l.length):(l.take (k+1)).flatMap f=(l.take k).flatMap f++f (l.getD k d):=by
 rw [Vd d h,List.flatMap_append];simp
theorem iL {α β:Type} {f:α→List β} {B:Nat}:∀ {l:List α} {n:Nat},(∀ x∈l,(f x).length≤B)→l.length≤n→(l.flatMap f).length≤n*B
 | [],n,_,_=>by simp
 | x::l,n,h,hn=>by
  obtain ⟨n,rfl⟩:∃ m,n=m+1:=⟨n-1,by simp at hn;omega⟩
  have h1:=h x (List.mem_cons_self ..);have h2:=iL (f:=f) (B:=B) (l:=l) (n:=n) (fun y hy=>h y (List.mem_cons_of_mem _ hy)) (by simpa using hn)
  rw [List.flatMap_cons,Zf,Nat.add_mul];omega
theorem mQ {α β:Type} {f:α→List β} {B n:Nat} {l:List α} (h:∀ x∈l,(f x).length≤B) (hn:l.length≤n) (k:Nat):((l.take k).flatMap f).length≤n*B :=
 iL (fun x hx=>h x (List.mem_of_mem_take hx)) (by rw [List.length_take];omega)
theorem Zxp {d:Def6} (h:d.e.length≤1000000):(Zlz d).length≤2000001:=by
 have:=iL (f:=Zsl) (B:=2) (l:=d.e) (n:=1000000) (fun x _=>by simp [Zsl]) h
 unfold Zlz;rw [Zf];simp only [Zi,List.length_nil];omega
theorem Zxn {m:Mod6} (h:m.defs.length≤1000) (he:∀ d∈m.defs,d.e.length≤1000000):(Zxo m).length≤2000001000:=by
 have:=iL (f:=Zlz) (B:=2000001) (l:=m.defs) (n:=1000) (fun x hx=>Zxp (he x hx)) h;unfold Zxo;omega
theorem Zpu {p:List Mod6} (h:BareOk p):(Bk p).length≤2000001000000:=by
 have:=iL (f:=Zxo) (B:=2000001000) (l:=p) (n:=1000) (fun x hx=>Zxn (h.defs x hx) (h.e x hx)) h.len;unfold Bk;omega
def Zuf (p:List Mod6) (k:Nat):List (Sl Node):=(p.take k).flatMap Zxo
def Zpt (A:List (Sl Node)) (ds:List Def6) (d:Nat):List (Sl Node):=A++(ds.take d).flatMap Zlz
def vY (C:List (Sl Node)) (e:List Part) (i:Nat):List (Sl Node):=C++(e.take i).flatMap Zsl
theorem Zxd {p:List Mod6}:Zuf p 0=[]:=by simp [Zuf]
theorem Zxj {A:List (Sl Node)} {ds:List Def6}:Zpt A ds 0=A:=by simp [Zpt]
theorem Zxg {C:List (Sl Node)} {e:List Part}:vY C e 0=C:=by simp [vY]
theorem Zxf {p:List Mod6}:Zuf p p.length=Bk p:=by unfold Zuf;rw [List.take_length];rfl
theorem Zxl {A:List (Sl Node)} {ds:List Def6}:Zpt A ds ds.length=A++ds.flatMap Zlz:=by unfold Zpt;rw [List.take_length]
theorem Zxi {C:List (Sl Node)} {e:List Part}:vY C e e.length=C++e.flatMap Zsl:=by unfold vY;rw [List.take_length]
theorem Zxe {p:List Mod6} {k:Nat} (h:k<p.length):Zuf p (k+1)=Zuf p k++(p.getD k Jx).defs.flatMap Zlz:=mZ Jx h
theorem Zxk {A:List (Sl Node)} {ds:List Def6} {d:Nat} (h:d<ds.length):Zpt A ds (d+1)=(Zpt A ds d++[⟨(ds.getD d J3).t⟩])++(ds.getD d J3).e.flatMap Zsl:=by
 unfold Zpt;rw [mZ J3 h];unfold Zlz;simp only [List.append_assoc]
theorem Zxh {C:List (Sl Node)} {e:List Part} {i:Nat} (h:i<e.length):vY C e (i+1)=(vY C e i++[⟨(e.getD i e0).t⟩])++[⟨(e.getD i e0).u⟩]:=by
 unfold vY;rw [mZ e0 h];unfold Zsl;simp only [List.append_assoc];rfl
theorem Qc0 {p:List Mod6} (h:BareOk p) (k:Nat):(Zuf p k).length≤2000001000000:=by
 have:=mQ (f:=Zxo) (B:=2000001000) (n:=1000) (fun x hx=>Zxn (h.defs x hx) (h.e x hx)) h.len k;unfold Zuf;omega
theorem Qc2 {A:List (Sl Node)} {ds:List Def6} (h:ds.length≤1000) (he:∀ d∈ds,d.e.length≤1000000) (d:Nat):(Zpt A ds d).length≤A.length+2000001000:=by
 have:=mQ (f:=Zlz) (B:=2000001) (n:=1000) (fun x hx=>Zxp (he x hx)) h d;unfold Zpt;rw [Zf];omega
theorem Qc1 {C:List (Sl Node)} {e:List Part} (i:Nat):(vY C e i).length≤C.length+2*e.length:=by
 have:=mQ (f:=Zsl) (B:=2) (n:=e.length) (l:=e) (fun x _=>by simp [Zsl]) (Zq _) i
 unfold vY;rw [Zf];omega
def bestN (last b:Int) (n:Node):Int:=if n.kind=0∧last<n.n∧(b=0∨n.n<b) then n.n else b
def oX (last b:Int) (t:List Node):Int:=t.foldl (bestN last) b
def oJ (last b:Int) (l:List (Sl Node)):Int:=l.foldl (fun b t=>oX last b t.l) b
def gH (last:Int) (l:List (Sl Node)):Nat:=(l.map fun t=>t.l.countP fun n=>n.kind==0&&X4 last n.n).sum
def Zxz (l:List (Sl Node)):Nat→Int→List Int→List Int
 | 0,_,o=>o
 | f+1,last,o=>if oJ last 0 l=0 then o else Zxz l f (oJ last 0 l) (o++[oJ last 0 l])
def Ac (l:List (Sl Node)):List Int:=Zxz l (gH 0 l+1) 0 []
theorem sO {α β:Type} {f:β→α→β} {b:β} {l:List α} {k:Nat} (d:α) (h:k<l.length):(l.take (k+1)).foldl f b=f ((l.take k).foldl f b) (l.getD k d):=by
 rw [Vd d h,List.foldl_append];rfl
structure Best (last b0:Int) (P:Int→Prop) (b:Int):Prop where
 is:b=b0∨(P b∧last<b)
 le:∀ x,P x→last<x→b≠0∧b≤x
 had:b0≠0→b≠0∧b≤b0
theorem uE {last:Int} (hl:0≤last):∀ {t:List Node} {b0:Int},Best last b0 (fun x=>∃ n∈t,n.kind=0∧n.n=x) (oX last b0 t)
 | [],b0=>⟨.inl rfl,fun x ⟨n,hn,_⟩=>(by cases hn),fun h=>⟨h,Int.le_refl _⟩⟩
 | n::t,b0=>by
  obtain ⟨h1,h2,h3⟩:=uE hl (t:=t) (b0:=bestN last b0 n);have e:oX last b0 (n::t)=oX last (bestN last b0 n) t:=rfl;rw [e];obtain ⟨B,hB⟩:=exq (oX last (bestN last b0 n) t);rw [hB] at h1 h2 h3 ⊢;unfold bestN at h1 h3;by_cases hc:n.kind=0∧last<n.n∧(b0=0∨n.n<b0)
  ·rw [if_pos hc] at h1 h3;obtain ⟨c1,c2,c3⟩:=hc;have h3:=h3 (by omega)
   refine ⟨.inr ?_,fun x hx hlx=>?_,fun h0=>?_⟩
   ·rcases h1 with h1|⟨⟨m,hm,e1,e2⟩,h4⟩
    ·exact ⟨⟨n,List.mem_cons_self ..,c1,h1.symm⟩,by omega⟩
    ·exact ⟨⟨m,List.mem_cons_of_mem _ hm,e1,e2⟩,h4⟩
   ·obtain ⟨m,hm,e1,e2⟩:=hx;rcases Zs.1 hm with rfl|hm
    ·exact ⟨h3.1,by omega⟩
    ·exact h2 x ⟨m,hm,e1,e2⟩ hlx
   ·exact ⟨h3.1,by omega⟩
  ·rw [if_neg hc] at h1 h3;refine ⟨?_,fun x hx hlx=>?_,h3⟩
   ·rcases h1 with h1|⟨⟨m,hm,e1,e2⟩,h4⟩
    ·exact .inl h1
    ·exact .inr ⟨⟨m,List.mem_cons_of_mem _ hm,e1,e2⟩,h4⟩
   ·obtain ⟨m,hm,e1,e2⟩:=hx;rcases Zs.1 hm with rfl|hm
    ·have hb:b0≠0∧b0≤x:=by
      refine ⟨fun h=>hc ⟨e1,by omega,.inl h⟩,?_⟩
      refine Classical.byContradiction fun h=>hc ⟨e1,by omega,.inr (by omega)⟩
     have:=h3 hb.1;exact ⟨this.1,by omega⟩
    ·exact h2 x ⟨m,hm,e1,e2⟩ hlx
theorem uF {last:Int} (hl:0≤last):∀ {l:List (Sl Node)} {b0:Int},Best last b0 (fun x=>∃ t∈l,∃ n∈t.l,n.kind=0∧n.n=x) (oJ last b0 l)
 | [],b0=>⟨.inl rfl,fun x ⟨n,hn,_⟩=>(by cases hn),fun h=>⟨h,Int.le_refl _⟩⟩
 | t::l,b0=>by
  obtain ⟨h1,h2,h3⟩:=uF hl (l:=l) (b0:=oX last b0 t.l);obtain ⟨g1,g2,g3⟩:=uE hl (t:=t.l) (b0:=b0);have e:oJ last b0 (t::l)=oJ last (oX last b0 t.l) l:=rfl;rw [e];obtain ⟨C,hC⟩:=exq (oX last b0 t.l);rw [hC] at h1 h2 h3 g1 g2 g3 ⊢;obtain ⟨B,hB⟩:=exq (oJ last C l);rw [hB] at h1 h2 h3 ⊢;refine ⟨?_,fun x hx hlx=>?_,fun h0=>?_⟩
  ·rcases h1 with h1|⟨⟨u,hu,hx⟩,h4⟩
   ·rcases g1 with g1|⟨hx,g4⟩
    ·exact .inl (by omega)
    ·exact .inr ⟨⟨t,List.mem_cons_self ..,by rw [h1];exact hx⟩,by omega⟩
   ·exact .inr ⟨⟨u,List.mem_cons_of_mem _ hu,hx⟩,h4⟩
  ·obtain ⟨u,hu,hx⟩:=hx;rcases Zs.1 hu with rfl|hu
   ·have a:=g2 x hx hlx;have b:=h3 a.1;exact ⟨b.1,by omega⟩
   ·exact h2 x ⟨u,hu,hx⟩ hlx
  ·have a:=g3 h0;have b:=h3 a.1;exact ⟨b.1,by omega⟩
theorem Zyq {l:List (Sl Node)} {last b:Int} (hb:last<b) (h:∃ t∈l,∃ n∈t.l,n.kind=0∧n.n=b):gH b l<gH last l:=by
 have hle:∀ {l:List (Sl Node)},gH b l≤gH last l:=by
  intro l
  induction l with
  | nil=>exact Zq _
  | cons t l ih =>
   unfold gH at ih ⊢;simp only [List.map_cons,List.sum_cons];have:(t.l.countP fun n=>n.kind==0&&X4 b n.n)≤t.l.countP fun n=>n.kind==0&&X4 last n.n :=
    List.countP_mono_left fun n _ hn=>by
     simp only [Zg,Jf] at hn ⊢;exact ⟨hn.1,by omega⟩
   omega
 obtain ⟨t,ht,n,hn,hk,hnn⟩:=h
 induction l with
 | nil=>cases ht
 | cons u l ih =>
  have h1:(u.l.countP fun n=>n.kind==0&&X4 b n.n)≤u.l.countP fun n=>n.kind==0&&X4 last n.n :=
   List.countP_mono_left fun n _ hn=>by
    simp only [Zg,Jf] at hn ⊢;exact ⟨hn.1,by omega⟩
  rcases Zs.1 ht with rfl|ht
  ·have h2:(t.l.countP fun n=>n.kind==0&&X4 b n.n)<t.l.countP fun n=>n.kind==0&&X4 last n.n:=by
    clear h1 ih;obtain ⟨tl⟩:=t;simp only at hn ⊢
    induction tl with
    | nil=>cases hn
    | cons m tl ih =>
     have g1:(tl.countP fun n=>n.kind==0&&X4 b n.n)≤tl.countP fun n=>n.kind==0&&X4 last n.n :=
      List.countP_mono_left fun n _ hn=>by
       simp only [Zg,Jf] at hn ⊢;exact ⟨hn.1,by omega⟩
     rw [List.countP_cons,List.countP_cons];rcases Zs.1 hn with rfl|hn
     ·have a:(n.kind==0&&X4 b n.n)=false:=by
       rw [Bool.and_eq_false_iff];right;rw [Qv];omega
      have c:(n.kind==0&&X4 last n.n)=true:=by
       rw [Zg];exact ⟨by simp [hk],by rw [Jf];omega⟩
      rw [a,c];simp;omega
     ·have:=ih hn (List.mem_cons_self ..);have h9:(if (m.kind==0&&X4 b m.n)=true then 1 else 0)≤if (m.kind==0&&X4 last m.n)=true then 1 else 0:=by
       split
       ·rename_i hh;rw [if_pos]
        ·exact Zq _
        ·simp only [Zg,Jf] at hh ⊢;exact ⟨hh.1,by omega⟩
       ·exact Nat.zero_le _
      omega
   have:=hle (l:=l);unfold gH at this ⊢;simp only [List.map_cons,List.sum_cons];omega
  ·have:=ih ht;unfold gH at this ⊢;simp only [List.map_cons,List.sum_cons];omega
theorem wI {l:List (Sl Node)}:∀ (f:Nat) (last:Int) (o:List Int),gH last l<f→0≤last→o.Pairwise (fun a b=>a<b)→(∀ x∈o,x≤last)→(∀ x,x∈o↔0<x∧x≤last∧∃ t∈l,∃ n∈t.l,n.kind=0∧n.n=x) →
  (Zxz l f last o).Pairwise (fun a b=>a<b)∧∀ x,x∈Zxz l f last o↔0<x∧∃ t∈l,∃ n∈t.l,n.kind=0∧n.n=x
 | 0,_,_,h,_,_,_,_=>by omega
 | f+1,last,o,hf,hl,hp,hle,hm=>by
  obtain ⟨h1,h2,_⟩:=uF hl (l:=l) (b0:=0);rw [Zxz];obtain ⟨b,hb⟩:=exq (oJ last 0 l);rw [hb] at h1 h2 ⊢;by_cases h0:b=0
  ·rw [if_pos h0];refine ⟨hp,fun x=>⟨fun hx=>⟨((hm x).1 hx).1,((hm x).1 hx).2.2⟩,fun hx=>(hm x).2 ⟨hx.1,?_,hx.2⟩⟩⟩;refine Classical.byContradiction fun hn=>?_;exact (h2 x hx.2 (by omega)).1 h0
  ·rw [if_neg h0];have h1:(∃ t∈l,∃ n∈t.l,n.kind=0∧n.n=b)∧last<b:=h1.resolve_left h0;have hlt:=Zyq h1.2 h1.1;refine wI f b (o++[b]) (by omega) (by omega) ?_ ?_ ?_
   ·rw [List.pairwise_append];exact ⟨hp,by simp,fun x hx y hy=>by rw [Zp] at hy;have:=hle x hx;omega⟩
   ·intro x hx;rcases List.mem_append.1 hx with hx|hx
    ·have:=hle x hx;omega
    ·rw [Zp] at hx;omega
   ·intro x;rw [List.mem_append,Zp,hm];constructor
    ·rintro (⟨a,c,d⟩|rfl)
     ·exact ⟨a,by omega,d⟩
     ·exact ⟨by omega,Int.le_refl _,h1.1⟩
    ·rintro ⟨a,c,d⟩;by_cases hx:x≤last
     ·exact .inl ⟨a,hx,d⟩
     ·have:=(h2 x d (by omega)).2
      exact .inr (by omega)
theorem mP (l:List (Sl Node)):(Ac l).Pairwise (fun a b=>a<b)∧∀ x,x∈Ac l↔0<x∧∃ t∈l,∃ n∈t.l,n.kind=0∧n.n=x :=
 wI _ 0 [] (by omega) (Int.le_refl _) List.Pairwise.nil (fun x hx=>by cases hx) fun x=>⟨fun h=>(by cases h),fun h=>(by omega)⟩
structure SitesP (p:List Mod6):Prop where
 bare:BareOk p
 len:∀ t∈Bk p,t.l.length≤1000000000
 low:∀ t∈Bk p,∀ n∈t.l,n.kind=0→n.n≤1000000
theorem bX {n:Nat} {p:Nat→Bool} (h:∀ j,j<n→p j=true):(List.range n).all p=true:=by
 rw [List.all_eq_true];exact fun j hj=>h j (List.mem_range.1 hj)
theorem An {n k:Nat} {p:Nat→Bool} (hk:k<n) (h:p k=false):(List.range n).all p=false:=by
 rw [←Bool.not_eq_true,List.all_eq_true];intro hh;have:=hh k (List.mem_range.2 hk);rw [h] at this;cases this
def Zsd (x y:Def6):Bool:=(x.name==y.name)&&qE x.e y.e
def Zpj (x y:Mod6):Bool:=(x.name==y.name)&&((x.imps==y.imps)&&((x.defs.length==y.defs.length)&&(List.range x.defs.length).all fun j=>Zsd (x.defs.getD j J3) (y.defs.getD j J3)))
def Qdt (a b:List Mod6):Bool:=(a.length==b.length)&&(List.range a.length).all fun j=>Zpj (a.getD j Jx) (b.getD j Jx)
noncomputable def Qdp (t u:List Node):Bool:=Qhi true (Yl ar t 0) (Yl ar u 0)
noncomputable def Zr6 (t u:List Node):Bool:=if t.length=0∧u.length=0 then true else if t.length=0∨u.length=0 then false else Qdp t u
noncomputable def Qb5 (x y:List (Sl Node)):Bool:=(List.range x.length).all fun i=>Zr6 (x.getD i ⟨[]⟩).l (y.getD i ⟨[]⟩).l
noncomputable def Cu (a b:List Mod6):Bool:=Qdt (Uh a) (Uh b)&&Qb5 (Bk a) (Bk b)
def TyOk (t:List Node):Prop:=Qgi t∧Ux t=true
theorem Jn {α β:Type} (f:α→β) (l:List α):(l.mapIdx fun _=>f)=l.map f:=by
 induction l with
 | nil=>rfl
 | cons x l ih=>rw [List.mapIdx_cons,List.map_cons,ih]
theorem Zsm (d:Def6):(Zlz d).length=1+2*d.e.length:=by
 have hE:∀ e:List Part,(e.flatMap Zsl).length=2*e.length:=by
  intro e
  induction e with
  | nil=>rfl
  | cons p e ih=>simp only [List.flatMap_cons,Zf,ih,Zsl,Zi,List.length_nil];omega
 unfold Zlz;rw [Zf,hE];rfl
theorem Qds {a b:List Mod6} (h:Qdt (Uh a) (Uh b)=true):(Bk a).length=(Bk b).length:=by
 unfold Qdt Uh at h;simp only [Jn,Zl,Zg,Zk,List.all_eq_true,List.mem_range] at h;obtain ⟨hl,hm⟩:=h;have key:∀ (a b:List Mod6),a.length=b.length→(∀ j,j<a.length→(Zxo (a.getD j Jx)).length=(Zxo (b.getD j Jx)).length)→(Bk a).length=(Bk b).length:=by
  intro a
  induction a with
  | nil=>intro b hb _;cases b with
   | nil=>rfl
   | cons y b=>simp at hb
  | cons x a ih =>
   intro b hb h;cases b with
   | nil=>simp at hb
   | cons y b =>
    have h0:=h 0 (by simp)
    have ih:=ih b (by simpa using hb) fun j hj=>by simpa using h (j+1) (by simpa using hj)
    unfold Bk at ih ⊢;simp only [List.flatMap_cons,Zf];simp only [List.getD_cons_zero] at h0;omega
 refine key a b hl fun j hj=>?_;have hj2:j<b.length:=by omega
 have h1:=hm j hj;have e1:(a.map Uu).getD j Jx=Uu (a.getD j Jx):=by simp [hj]
 have e2:(b.map Uu).getD j Jx=Uu (b.getD j Jx):=by simp [hj2]
 rw [e1,e2] at h1;obtain ⟨x,hx⟩:=exq (a.getD j Jx);obtain ⟨y,hy⟩:=exq (b.getD j Jx);rw [hx,hy] at h1 ⊢;unfold Zpj Uu at h1;simp only [Jn,Zl,Zg,Zk,List.all_eq_true,List.mem_range] at h1;obtain ⟨_,_,hdl,hd⟩:=h1;have key2:∀ (a b:List Def6),a.length=b.length→(∀ j,j<a.length→(a.getD j J3).e.length=(b.getD j J3).e.length)→(a.flatMap Zlz).length=(b.flatMap Zlz).length:=by
  intro a
  induction a with
  | nil=>intro b hb _;cases b with
   | nil=>rfl
   | cons y b=>simp at hb
  | cons x a ih =>
   intro b hb h;cases b with
   | nil=>simp at hb
   | cons y b =>
    have h0:=h 0 (by simp)
    have ih:=ih b (by simpa using hb) fun j hj=>by simpa using h (j+1) (by simpa using hj)
    simp only [List.flatMap_cons,Zf];simp only [List.getD_cons_zero] at h0;rw [Zsm,Zsm,h0,ih]
 unfold Zxo;refine key2 x.defs y.defs hdl fun j hj=>?_;have hj2:j<y.defs.length:=by omega
 have h2:=hd j hj;have e1:(x.defs.map Yv).getD j J3=Yv (x.defs.getD j J3):=by simp [hj]
 have e2:(y.defs.map Yv).getD j J3=Yv (y.defs.getD j J3):=by simp [hj2]
 rw [e1,e2] at h2;unfold Zsd Yv qE at h2;simp only [Jn,Zg,Zk] at h2;have:=congrArg List.length h2.2;simpa using this
def yM {α:Type} (p:α→α→Bool) (d:α) (a b:List α):Bool:=(a.length==b.length)&&(List.range a.length).all fun j=>p (a.getD j d) (b.getD j d)
def Fb:Con:=Xc (fun (x y:Part)=>Qac x∧Qac y) Lm
structure Khr:Prop
theorem Khr.k (_:Khr) (h:p:=by
 unfold Lm Zzd;repeat' first|exact Z8|with_reducible apply Zb|intro _
 all_goals first|with_reducible exact Jd|(simp_all;done)|skip):p:=h
theorem good_SameA_1:Qa Tryz.prog (126,Fb):=by
 obtain ⟨Kx,Kt,Kc,Kd,Kb,Ku,Kw,K,X9,_⟩:=Xe Zv Zn [] false (Q0 Zrd cE.eq_def Xd);have Ko:=Fb.eq_def;refine Xj K Tryz.func126 [.tmp 4] rfl 61 rfl (fun c hc cvs hpre=>?_);unfold Fb at hpre;obtain ⟨x,y,rfl,⟨h1,h2⟩,h3,h4⟩:=Ql hpre;cases hc;refine Y4 3 ?_;have Kq:Khr:=⟨⟩;exact Wy
def P8:Con:=Vp (fun (a b:Sl (Part)) (_:Fn0 126)=>(Lo a.l.length∧∀ x∈a.l,Qac x)∧(Lo b.l.length∧∀ x∈b.l,Qac x)) (fun a b _=>yM Lm e0 a.l b.l)
structure Kht:Prop
theorem Kht.k (_:Kht) (h:p:=by
 repeat' first|exact Z8|with_reducible apply Zb|intro _
 all_goals first|with_reducible exact Jd|omega|exact s1|exact s2|exact s1.1|exact s1.2|exact s2.1|exact s2.2|rfl|trivial|skip):p:=h
structure Khu:Prop
theorem Khu.k (_:Khu) (h:p:=by
 repeat' first|exact Z8|with_reducible apply Zb|intro _
 all_goals first|with_reducible exact Jd|omega|exact s1|exact s2|exact s1.1|exact s1.2|exact s2.1|exact s2.2|exact ⟨k+1,by exact Qw,by omega,Eq.mpr hQ h9,by omega⟩|rfl|trivial|skip):p:=h
structure Khs:Prop
theorem Khs.k (_:Khs) (h:p:=by
 repeat' first|exact Z8|with_reducible apply Zb|intro _
 refine Zm [6,7,8,9,18,19,20,21,22,23,24,25,26,27,28,29,30,31] (fun k:Nat=>[(17,.d (.int .i64 k))]) (fun k:Nat=>[]) (fun k:Nat=>k≤a.length∧∀ j,j<k→Lm (a.getD j e0) (b.getD j e0)=true) (fun k:Nat=>a.length-k) 0 ?_ ?_ ?_
 ·exact ⟨by omega,fun j hj=>absurd hj (Nat.not_lt_zero j)⟩
 ·exact Qw
 rintro k ⟨hk,hno⟩;rcases Zo k a.length with ⟨hlt,Z9⟩|⟨hlt,Z9⟩
 rotate_left
 ·have Qe:R=true:=by rw [←hR2];exact bX fun j hj=>hno j (by omega)
  clear hno;exact qC
 have hlt2:k<b.length:=by omega
 have Qc:=Zr e0 hlt;have Qh:=Zr e0 hlt2;have s1:=hA (a.getD k e0) (by simp [hlt])
 have s2:=hB (b.getD k e0) (by simp [hlt2])
 have hst:Lm (a.getD k e0) (b.getD k e0)=true→∀ j,j<k+1→Lm (a.getD j e0) (b.getD j e0)=true:=fun h=>K6 hno h;have hbad:Lm (a.getD k e0) (b.getD k e0)=false→R=false:=fun h=>by rw [←hR2];exact An hlt h
 obtain ⟨Q,hQ⟩:=exq ((∀ j,j<k+1→Lm (a.getD j e0) (b.getD j e0)=true));rw [hQ] at hst;obtain ⟨x,hx⟩:=exq (a.getD k e0);obtain ⟨y,hy⟩:=exq (b.getD k e0);rw [hx] at Qc s1 hst hbad;rw [hy] at Qh s2 hst hbad;clear hno;cases Qn:Lm x y with
 | false =>
  have Qe:=hbad Qn;clear hst hbad;have Kq:Kht:=⟨⟩;exact Wy
 | true =>
  have h9:=hst Qn;clear hst hbad;have Kq:Khu:=⟨⟩;exact Wy):p:=h
theorem good_equalParts:Qa Tryz.prog (125,P8):=by
 obtain ⟨Kx,Kt,Kc,Kd,Kb,Ku,Kw,K,X9,_⟩:=Xe Zv Zn [] false (Q0 good_SameA_1 Fb.eq_def Xd);have Ko:=P8.eq_def;refine Xj K Tryz.func125 [.tmp 6] rfl 32 rfl (fun c hc cvs hpre=>?_);unfold P8 at hpre;obtain ⟨⟨a⟩,⟨b⟩,f,rfl,⟨ha,hA⟩,hb,hB⟩:=Vb hpre;simp only at ha hb hA hB;clear hpre;have ha:a.length≤9223372036854775807:=ha;have hb:b.length≤9223372036854775807:=hb;obtain ⟨R,Qf⟩:=exq (yM Lm e0 a b);have hR2:=Qf;unfold yM at hR2;by_cases hll:a.length=b.length
 case neg =>
  have Qb:((a.length:Int) != (b.length:Int))=true:=by rw [bne_iff_ne];omega
  have hcq:(a.length==b.length)=false:=by rw [Za];exact hll
  rw [hcq,Bool.false_and] at hR2;subst hR2;cases hc;refine Y4 2 ?_;exact qC
 have Qb:((a.length:Int) != (b.length:Int))=false:=by rw [hll,bne_self_eq_false]
 have hcq:(a.length==b.length)=true:=by rw [Zk];exact hll
 rw [hcq,Bool.true_and] at hR2;cases hc;refine Y4 2 ?_;have Kq:Khs:=⟨⟩;exact Wy
theorem Zwf (a b:List Part):yM Lm e0 a b=qE a b:=by
 unfold yM qE;rw [Bool.eq_iff_iff];simp only [Zg,Zk,List.all_eq_true,List.mem_range];constructor
 ·rintro ⟨hl,h⟩;refine List.ext_getElem (by simp [hl]) fun j h1 h2=>?_
  rw [Zl] at h1 h2;have:=qD.1 (h j h1);simpa [h1,h2] using this
 ·intro h;have hl:a.length=b.length:=by simpa using congrArg List.length h
  refine ⟨hl,fun j hj=>qD.2 ?_⟩;have hj2:j<b.length:=by omega
  have h1:(a.map rK).getD j e0=(b.map rK).getD j e0:=by rw [h]
  simpa [hj,hj2] using h1
def cG:Con:=Xc (fun (a b:Sl Part)=>Qcd a.l∧Qcd b.l) (fun a b=>qE a.l b.l)
structure Khv:Prop
theorem Khv.k (_:Khv) (h:p:=by
 repeat' first|exact Z8|with_reducible apply Zb|intro _
 all_goals first|exact ha1|exact hb1|exact ha2 _ (by assumption)|exact hb2 _ (by assumption)|skip):p:=h
theorem good_SameA:Qa Tryz.prog (79,cG):=by
 obtain ⟨Kx,Kt,Kc,Kd,Kb,Ku,Kw,K,X9,_⟩:=Xe Zv Zn [] false (Q0 good_equalParts P8.eq_def Xd);have Ko:=cG.eq_def;refine Xj K Tryz.func79 [.tmp 4] rfl 8 rfl (fun c hc cvs hpre=>?_);unfold cG at hpre;obtain ⟨⟨a⟩,⟨b⟩,rfl,ha,hb⟩:=Ql hpre;simp only at ha hb;obtain ⟨ha1,ha2⟩:Qcd a:=ha;obtain ⟨hb1,hb2⟩:Qcd b:=hb;have Qb:=Zwf a b;cases hc;have Kq:Khv:=⟨⟩;exact Wy
def E7:Con:=Xc (fun (a b:Sl (List UInt8))=>Lo a.l.length∧Lo b.l.length) (fun a b=>a.l==b.l)
structure Khx:Prop
theorem Khx.k (_:Khx) (h:p:=by
 repeat' first|exact Z8|with_reducible apply Zb|intro _
 all_goals first|with_reducible exact Jd|omega|exact ⟨k+1,by exact Qw,by omega,h2,by omega⟩|skip):p:=h
structure Khw:Prop
theorem Khw.k (_:Khw) (h:p:=by
 repeat' first|exact Z8|with_reducible apply Zb|intro _
 refine Zm [4,5,14,15,16,17,18,19,20,21,22,23,24,25] (fun k:Nat=>[(13,.d (.int .i64 k))]) (fun k:Nat=>[]) (fun k:Nat=>k≤a.length∧∀ j,j<k→a.getD j []=b.getD j []) (fun k:Nat=>a.length-k) 0 ?_ ?_ ?_
 ·exact ⟨by omega,fun j hj=>absurd hj (Nat.not_lt_zero j)⟩
 ·exact Qw
 rintro k ⟨hk,hno⟩;rcases Zo k a.length with ⟨hlt,Z9⟩|⟨hlt,Z9⟩
 ·have Qe:=Zr ([]:List UInt8) hlt;have Qc:=Zr ([]:List UInt8) (show k<b.length by omega)
  have hst:a.getD k []=b.getD k []→∀ j,j<k+1→a.getD j []=b.getD j []:=fun h=>K6 hno h;have hbad:a.getD k []≠b.getD k []→(a==b)=false:=by
   intro h;rw [Za];intro e;exact h (by rw [e])
  obtain ⟨x,hx⟩:=exq (a.getD k []);obtain ⟨y,hy⟩:=exq (b.getD k []);rw [hx] at Qe hst hbad;rw [hy] at Qc hst hbad;cases Qh:(x==y) with
  | false =>
   have Qf:=hbad (by simpa using Qh)
   exact Af
  | true =>
   have h2:=hst (by simpa using Qh)
   have Kq:Khx:=⟨⟩;exact Wy
 ·have Qf:(a==b)=true:=by
   rw [Zk];exact Zqy [] hlen fun j hj=>hno j (by omega)
  clear hno;exact qC):p:=h
theorem good_equalSt:Qa Tryz.prog (76,E7):=by
 obtain ⟨Kx,Kt,Kc,Kd,Kb,Ku,Kw,K,_⟩:=Xe Zv Zn [] false Xd;have Ko:=E7.eq_def;refine Xj K Tryz.func76 [.tmp 4] rfl 26 rfl (fun c hc cvs hpre=>?_);unfold E7 at hpre;obtain ⟨⟨a⟩,⟨b⟩,rfl,ha,hb⟩:=Ql hpre;simp only at ha hb;by_cases hlen:a.length=b.length
 case neg =>
  have Qb:((a.length:Int) != (b.length:Int))=true:=by rw [bne_iff_ne];omega
  have Qf:(a==b)=false:=by rw [Za];intro e;exact hlen (by rw [e])
  cases hc;exact qC
 have Qb:((a.length:Int) != (b.length:Int))=false:=by rw [hlen,bne_self_eq_false]
 cases hc;have Kq:Khw:=⟨⟩;exact Wy
def Qgo (d:Def6):Prop:=Qcd d.e
def Bb:Con:=Xc (fun (x y:Def6)=>Qgo x∧Qgo y) Zsd
theorem oM:Qa Tryz.prog (78,Bb):=by
 obtain ⟨Kx,Kt,Kc,Kd,Kb,Ku,Kw,K,X9,_⟩:=Xe Zv Zn [] false (Q0 good_SameA cG.eq_def Xd);have Ko:=Bb.eq_def;refine Xj K Tryz.func78 [.tmp 4] rfl 17 rfl (fun c hc cvs hpre=>?_);unfold Bb at hpre;obtain ⟨⟨xn,xt,xe⟩,⟨yn,yt,ye⟩,rfl,h1,h2⟩:=Ql hpre;have h1:Qcd xe:=h1;have h2:Qcd ye:=h2;clear hpre;obtain ⟨R,Qf⟩:=exq (Zsd ⟨xn,xt,xe⟩ ⟨yn,yt,ye⟩);have Z9:((xn==yn)&&qE xe ye)=R:=Qf;cases hc;cases Qb:(xn==yn) with
 | false =>
  rw [Qb,Bool.false_and] at Z9;subst Z9;exact qC
 | true =>
  rw [Qb,Bool.true_and] at Z9;exact Af
def Ss:Con:=Vp (fun (a b:Sl (Def6)) (_:Fn0 78)=>(Lo a.l.length∧∀ x∈a.l,Qgo x)∧(Lo b.l.length∧∀ x∈b.l,Qgo x)) (fun a b _=>yM Zsd J3 a.l b.l)
structure Khz:Prop
theorem Khz.k (_:Khz) (h:p:=by
 repeat' first|exact Z8|with_reducible apply Zb|intro _
 all_goals first|with_reducible exact Jd|omega|exact s1|exact s2|exact s1.1|exact s1.2|exact s2.1|exact s2.2|rfl|trivial|skip):p:=h
structure KhA:Prop
theorem KhA.k (_:KhA) (h:p:=by
 repeat' first|exact Z8|with_reducible apply Zb|intro _
 all_goals first|with_reducible exact Jd|omega|exact s1|exact s2|exact s1.1|exact s1.2|exact s2.1|exact s2.2|exact ⟨k+1,by exact Qw,by omega,Eq.mpr hQ h9,by omega⟩|rfl|trivial|skip):p:=h
structure Khy:Prop
theorem Khy.k (_:Khy) (h:p:=by
 repeat' first|exact Z8|with_reducible apply Zb|intro _
 refine Zm [6,7,8,9,18,19,20,21,22,23,24,25,26,27,28,29,30,31] (fun k:Nat=>[(17,.d (.int .i64 k))]) (fun k:Nat=>[]) (fun k:Nat=>k≤a.length∧∀ j,j<k→Zsd (a.getD j J3) (b.getD j J3)=true) (fun k:Nat=>a.length-k) 0 ?_ ?_ ?_
 ·exact ⟨by omega,fun j hj=>absurd hj (Nat.not_lt_zero j)⟩
 ·exact Qw
 rintro k ⟨hk,hno⟩;rcases Zo k a.length with ⟨hlt,Z9⟩|⟨hlt,Z9⟩
 rotate_left
 ·have Qe:R=true:=by rw [←hR2];exact bX fun j hj=>hno j (by omega)
  clear hno;exact qC
 have hlt2:k<b.length:=by omega
 have Qc:=Zr J3 hlt;have Qh:=Zr J3 hlt2;have s1:=hA (a.getD k J3) (by simp [hlt])
 have s2:=hB (b.getD k J3) (by simp [hlt2])
 have hst:Zsd (a.getD k J3) (b.getD k J3)=true→∀ j,j<k+1→Zsd (a.getD j J3) (b.getD j J3)=true:=fun h=>K6 hno h;have hbad:Zsd (a.getD k J3) (b.getD k J3)=false→R=false:=fun h=>by rw [←hR2];exact An hlt h
 obtain ⟨Q,hQ⟩:=exq ((∀ j,j<k+1→Zsd (a.getD j J3) (b.getD j J3)=true));rw [hQ] at hst;obtain ⟨x,hx⟩:=exq (a.getD k J3);obtain ⟨y,hy⟩:=exq (b.getD k J3);rw [hx] at Qc s1 hst hbad;rw [hy] at Qh s2 hst hbad;clear hno;obtain ⟨xn,xt,xe⟩:=x;obtain ⟨yn,yt,ye⟩:=y;cases Qn:Zsd ⟨xn,xt,xe⟩ ⟨yn,yt,ye⟩ with
 | false =>
  have Qe:=hbad Qn;clear hst hbad;have Kq:Khz:=⟨⟩;exact Wy
 | true =>
  have h9:=hst Qn;clear hst hbad;have Kq:KhA:=⟨⟩;exact Wy):p:=h
theorem good_equalDefs:Qa Tryz.prog (77,Ss):=by
 obtain ⟨Kx,Kt,Kc,Kd,Kb,Ku,Kw,K,X9,_⟩:=Xe Zv Zn [] false (Q0 oM Bb.eq_def Xd);have Ko:=Ss.eq_def;refine Xj K Tryz.func77 [.tmp 6] rfl 32 rfl (fun c hc cvs hpre=>?_);unfold Ss at hpre;obtain ⟨⟨a⟩,⟨b⟩,f,rfl,⟨ha,hA⟩,hb,hB⟩:=Vb hpre;simp only at ha hb hA hB;clear hpre;have ha:a.length≤9223372036854775807:=ha;have hb:b.length≤9223372036854775807:=hb;obtain ⟨R,Qf⟩:=exq (yM Zsd J3 a b);have hR2:=Qf;unfold yM at hR2;by_cases hll:a.length=b.length
 case neg =>
  have Qb:((a.length:Int) != (b.length:Int))=true:=by rw [bne_iff_ne];omega
  have hcq:(a.length==b.length)=false:=by rw [Za];exact hll
  rw [hcq,Bool.false_and] at hR2;subst hR2;cases hc;refine Y4 2 ?_;exact qC
 have Qb:((a.length:Int) != (b.length:Int))=false:=by rw [hll,bne_self_eq_false]
 have hcq:(a.length==b.length)=true:=by rw [Zk];exact hll
 rw [hcq,Bool.true_and] at hR2;cases hc;refine Y4 2 ?_;have Kq:Khy:=⟨⟩;exact Wy
def Qgn (m:Mod6):Prop:=Lo m.imps.length∧Lo m.defs.length∧∀ d∈m.defs,Qgo d
def Cs:Con:=Xc (fun (x y:Mod6)=>Qgn x∧Qgn y) Zpj
structure KhB:Prop
theorem KhB.k (_:KhB) (h:p:=by
 repeat' first|exact Z8|with_reducible apply Zb|intro _
 all_goals first|with_reducible exact Jd|omega|exact a1|exact b1|exact a2|exact b2|exact a3 _ (by assumption)|exact b3 _ (by assumption)|rfl|trivial|skip):p:=h
theorem good_BelowA_2:Qa Tryz.prog (75,Cs):=by
 obtain ⟨Kx,Kt,Kc,Kd,Kb,Ku,Kw,K,X9,Uv,_⟩:=Xe Zv Zn [] false (Q0 good_equalSt E7.eq_def (Q0 good_equalDefs Ss.eq_def Xd));have Ko:=Cs.eq_def;refine Xj K Tryz.func75 [.tmp 4] rfl 24 rfl (fun c hc cvs hpre=>?_);unfold Cs at hpre;obtain ⟨⟨an,ai,ad,sa⟩,⟨bn,bi,bd,bs⟩,rfl,⟨a1,a2,a3⟩,b1,b2,b3⟩:=Ql hpre;simp only at a1 a2 a3 b1 b2 b3;clear hpre;obtain ⟨R,Qf⟩:=exq (Zpj ⟨an,ai,ad,sa⟩ ⟨bn,bi,bd,bs⟩);have Qe:((an==bn)&&((ai==bi)&&yM Zsd J3 ad bd))=R:=Qf;cases hc;cases Qb:(an==bn) with
 | false =>
  rw [Qb,Bool.false_and] at Qe;subst Qe;exact qC
 | true =>
 rw [Qb,Bool.true_and] at Qe;cases Z9:(ai==bi) with
 | false =>
  rw [Z9,Bool.false_and] at Qe;subst Qe;exact Af
 | true =>
  rw [Z9,Bool.true_and] at Qe;have Kq:KhB:=⟨⟩;exact Wy
def Sr:Con:=Vp (fun (a b:Sl (Mod6)) (_:Fn0 75)=>(Lo a.l.length∧∀ x∈a.l,Qgn x)∧(Lo b.l.length∧∀ x∈b.l,Qgn x)) (fun a b _=>yM Zpj Jx a.l b.l)
structure KhD:Prop
theorem KhD.k (_:KhD) (h:p:=by
 repeat' first|exact Z8|with_reducible apply Zb|intro _
 all_goals first|with_reducible exact Jd|omega|exact s1|exact s2|exact s1.1|exact s1.2|exact s2.1|exact s2.2|rfl|trivial|skip):p:=h
structure KhE:Prop
theorem KhE.k (_:KhE) (h:p:=by
 repeat' first|exact Z8|with_reducible apply Zb|intro _
 all_goals first|with_reducible exact Jd|omega|exact s1|exact s2|exact s1.1|exact s1.2|exact s2.1|exact s2.2|exact ⟨k+1,by exact Qw,by omega,Eq.mpr hQ h9,by omega⟩|rfl|trivial|skip):p:=h
structure KhC:Prop
theorem KhC.k (_:KhC) (h:p:=by
 repeat' first|exact Z8|with_reducible apply Zb|intro _
 refine Zm [6,7,8,9,18,19,20,21,22,23,24,25,26,27,28,29,30,31] (fun k:Nat=>[(17,.d (.int .i64 k))]) (fun k:Nat=>[]) (fun k:Nat=>k≤a.length∧∀ j,j<k→Zpj (a.getD j Jx) (b.getD j Jx)=true) (fun k:Nat=>a.length-k) 0 ?_ ?_ ?_
 ·exact ⟨by omega,fun j hj=>absurd hj (Nat.not_lt_zero j)⟩
 ·exact Qw
 rintro k ⟨hk,hno⟩;rcases Zo k a.length with ⟨hlt,Z9⟩|⟨hlt,Z9⟩
 rotate_left
 ·have Qe:R=true:=by rw [←hR2];exact bX fun j hj=>hno j (by omega)
  clear hno;exact qC
 have hlt2:k<b.length:=by omega
 have Qc:=Zr Jx hlt;have Qh:=Zr Jx hlt2;have s1:=hA (a.getD k Jx) (by simp [hlt])
 have s2:=hB (b.getD k Jx) (by simp [hlt2])
 have hst:Zpj (a.getD k Jx) (b.getD k Jx)=true→∀ j,j<k+1→Zpj (a.getD j Jx) (b.getD j Jx)=true:=fun h=>K6 hno h;have hbad:Zpj (a.getD k Jx) (b.getD k Jx)=false→R=false:=fun h=>by rw [←hR2];exact An hlt h
 obtain ⟨Q,hQ⟩:=exq ((∀ j,j<k+1→Zpj (a.getD j Jx) (b.getD j Jx)=true));rw [hQ] at hst;obtain ⟨x,hx⟩:=exq (a.getD k Jx);obtain ⟨y,hy⟩:=exq (b.getD k Jx);rw [hx] at Qc s1 hst hbad;rw [hy] at Qh s2 hst hbad;clear hno;obtain ⟨xn,xi,xd,xs⟩:=x;obtain ⟨yn,yi,yd,ys⟩:=y;cases Qn:Zpj ⟨xn,xi,xd,xs⟩ ⟨yn,yi,yd,ys⟩ with
 | false =>
  have Qe:=hbad Qn;clear hst hbad;have Kq:KhD:=⟨⟩;exact Wy
 | true =>
  have h9:=hst Qn;clear hst hbad;have Kq:KhE:=⟨⟩;exact Wy):p:=h
theorem good_equalMods:Qa Tryz.prog (74,Sr):=by
 obtain ⟨Kx,Kt,Kc,Kd,Kb,Ku,Kw,K,X9,_⟩:=Xe Zv Zn [] false (Q0 good_BelowA_2 Cs.eq_def Xd);have Ko:=Sr.eq_def;refine Xj K Tryz.func74 [.tmp 6] rfl 32 rfl (fun c hc cvs hpre=>?_);unfold Sr at hpre;obtain ⟨⟨a⟩,⟨b⟩,f,rfl,⟨ha,hA⟩,hb,hB⟩:=Vb hpre;simp only at ha hb hA hB;clear hpre;have ha:a.length≤9223372036854775807:=ha;have hb:b.length≤9223372036854775807:=hb;obtain ⟨R,Qf⟩:=exq (yM Zpj Jx a b);have hR2:=Qf;unfold yM at hR2;by_cases hll:a.length=b.length
 case neg =>
  have Qb:((a.length:Int) != (b.length:Int))=true:=by rw [bne_iff_ne];omega
  have hcq:(a.length==b.length)=false:=by rw [Za];exact hll
  rw [hcq,Bool.false_and] at hR2;subst hR2;cases hc;refine Y4 2 ?_;exact qC
 have Qb:((a.length:Int) != (b.length:Int))=false:=by rw [hll,bne_self_eq_false]
 have hcq:(a.length==b.length)=true:=by rw [Zk];exact hll
 rw [hcq,Bool.true_and] at hR2;cases hc;refine Y4 2 ?_;have Kq:KhC:=⟨⟩;exact Wy
noncomputable def kX (t u:Sl Node):Bool:=if t.l.length=0∨u.l.length=0 then t.l.length==u.l.length else Zr5 t.l u.l
def Qd9 (t:Sl Node):Prop:=t.l.length≤1000000000∧(t.l.length=0∨Qhl t.l)
noncomputable def Cr:Con:=Xc (fun (x y:Sl Node)=>Qd9 x∧Qd9 y) kX
theorem vM:Qa Tryz.prog (81,Cr):=by
 obtain ⟨Kx,Kt,Kc,Kd,Kb,Ku,Kw,K,X9,_⟩:=Xe Zv Zn [] false (Q0 good_BelowP Is.eq_def Xd);have Ko:=Cr.eq_def;refine Xj K Tryz.func81 [.tmp 4] rfl 21 rfl (fun c hc cvs hpre=>?_);unfold Cr at hpre;obtain ⟨⟨t⟩,⟨u⟩,rfl,⟨t1,t2⟩,u1,u2⟩:=Ql hpre;simp only at t1 t2 u1 u2;clear hpre;obtain ⟨R,Z9⟩:=exq (kX ⟨t⟩ ⟨u⟩);have Qc:=Z9;unfold kX at Qc;simp only at Qc;cases hc;by_cases ht0:t.length=0
 ·have Qb:((t.length:Int)==0)=true:=by rw [Zk];omega
  rw [if_pos (.inl ht0)] at Qc;have Qf:((t.length:Int)==(u.length:Int))=R:=by rw [←Qc,Bool.eq_iff_iff];simp only [Zk];omega
  exact qC
 have Qb:((t.length:Int)==0)=false:=by rw [Za];omega
 by_cases hu0:u.length=0
 ·have Qe:((u.length:Int)==0)=true:=by rw [Zk];omega
  rw [if_pos (.inr hu0)] at Qc;have Qf:((t.length:Int)==(u.length:Int))=R:=by rw [←Qc,Bool.eq_iff_iff];simp only [Zk];omega
  exact qC
 have Qe:((u.length:Int)==0)=false:=by rw [Za];omega
 rw [if_neg (by omega)] at Qc
 have t3:=t2.resolve_left ht0;have u3:=u2.resolve_left hu0;exact Af
noncomputable def Cl:Con:=Vp (fun (a b:Sl (Sl Node)) (_:Fn0 81)=>(Lo a.l.length∧∀ x∈a.l,Qd9 x)∧(Lo b.l.length∧∀ x∈b.l,Qd9 x)) (fun a b _=>yM kX (⟨[]⟩:Sl Node) a.l b.l)
structure KhG:Prop
theorem KhG.k (_:KhG) (h:p:=by
 repeat' first|exact Z8|with_reducible apply Zb|intro _
 all_goals first|with_reducible exact Jd|omega|exact s1|exact s2|exact s1.1|exact s1.2|exact s2.1|exact s2.2|rfl|trivial|skip):p:=h
structure KhH:Prop
theorem KhH.k (_:KhH) (h:p:=by
 repeat' first|exact Z8|with_reducible apply Zb|intro _
 all_goals first|with_reducible exact Jd|omega|exact s1|exact s2|exact s1.1|exact s1.2|exact s2.1|exact s2.2|exact ⟨k+1,by exact Qw,by omega,Eq.mpr hQ h9,by omega⟩|rfl|trivial|skip):p:=h
structure KhF:Prop
theorem KhF.k (_:KhF) (h:p:=by
 repeat' first|exact Z8|with_reducible apply Zb|intro _
 refine Zm [6,7,8,9,18,19,20,21,22,23,24,25,26,27,28,29,30,31] (fun k:Nat=>[(17,.d (.int .i64 k))]) (fun k:Nat=>[]) (fun k:Nat=>k≤a.length∧∀ j,j<k→kX (a.getD j (⟨[]⟩:Sl Node)) (b.getD j (⟨[]⟩:Sl Node))=true) (fun k:Nat=>a.length-k) 0 ?_ ?_ ?_
 ·exact ⟨by omega,fun j hj=>absurd hj (Nat.not_lt_zero j)⟩
 ·exact Qw
 rintro k ⟨hk,hno⟩;rcases Zo k a.length with ⟨hlt,Z9⟩|⟨hlt,Z9⟩
 rotate_left
 ·have Qe:R=true:=by rw [←hR2];exact bX fun j hj=>hno j (by omega)
  clear hno;exact qC
 have hlt2:k<b.length:=by omega
 have Qc:=Zr (⟨[]⟩:Sl Node) hlt;have Qh:=Zr (⟨[]⟩:Sl Node) hlt2;have s1:=hA (a.getD k (⟨[]⟩:Sl Node)) (by simp [hlt])
 have s2:=hB (b.getD k (⟨[]⟩:Sl Node)) (by simp [hlt2])
 have hst:kX (a.getD k (⟨[]⟩:Sl Node)) (b.getD k (⟨[]⟩:Sl Node))=true→∀ j,j<k+1→kX (a.getD j (⟨[]⟩:Sl Node)) (b.getD j (⟨[]⟩:Sl Node))=true:=fun h=>K6 hno h;have hbad:kX (a.getD k (⟨[]⟩:Sl Node)) (b.getD k (⟨[]⟩:Sl Node))=false→R=false:=fun h=>by rw [←hR2];exact An hlt h
 obtain ⟨Q,hQ⟩:=exq ((∀ j,j<k+1→kX (a.getD j (⟨[]⟩:Sl Node)) (b.getD j (⟨[]⟩:Sl Node))=true));rw [hQ] at hst;obtain ⟨x,hx⟩:=exq (a.getD k (⟨[]⟩:Sl Node));obtain ⟨y,hy⟩:=exq (b.getD k (⟨[]⟩:Sl Node));rw [hx] at Qc s1 hst hbad;rw [hy] at Qh s2 hst hbad;clear hno;obtain ⟨t⟩:=x;obtain ⟨u⟩:=y;cases Qn:kX ⟨t⟩ ⟨u⟩ with
 | false =>
  have Qe:=hbad Qn;clear hst hbad;have Q6:=@Zbe;have Kq:KhG:=⟨⟩;exact Wy
 | true =>
  have h9:=hst Qn;clear hst hbad;have Q6:=@Zbe;have Kq:KhH:=⟨⟩;exact Wy):p:=h
theorem good_equalTys:Qa Tryz.prog (80,Cl):=by
 obtain ⟨Kx,Kt,Kc,Kd,Kb,Ku,Kw,K,X9,_⟩:=Xe Zv Zn [] false (Q0 vM Cr.eq_def Xd);have Ko:=Cl.eq_def;refine Xj K Tryz.func80 [.tmp 6] rfl 32 rfl (fun c hc cvs hpre=>?_);unfold Cl at hpre;obtain ⟨⟨a⟩,⟨b⟩,f,rfl,⟨ha,hA⟩,hb,hB⟩:=Vb hpre;simp only at ha hb hA hB;clear hpre;have ha:a.length≤9223372036854775807:=ha;have hb:b.length≤9223372036854775807:=hb;obtain ⟨R,Qf⟩:=exq (yM kX (⟨[]⟩:Sl Node) a b);have hR2:=Qf;unfold yM at hR2;by_cases hll:a.length=b.length
 case neg =>
  have Qb:((a.length:Int) != (b.length:Int))=true:=by rw [bne_iff_ne];omega
  have hcq:(a.length==b.length)=false:=by rw [Za];exact hll
  rw [hcq,Bool.false_and] at hR2;subst hR2;cases hc;refine Y4 2 ?_;exact qC
 have Qb:((a.length:Int) != (b.length:Int))=false:=by rw [hll,bne_self_eq_false]
 have hcq:(a.length==b.length)=true:=by rw [Zk];exact hll
 rw [hcq,Bool.true_and] at hR2;cases hc;refine Y4 2 ?_;have Kq:KhF:=⟨⟩;exact Wy
theorem bP:(enc (Sl.mk ([]:List Node)):D)=.list 3 []:=rfl
def Bc:Con:=J7 (fun (_:Sl Node)=>True) (fun _=>(⟨[]⟩:Sl Node))
theorem dT:Qa Tryz.prog (73,Bc):=by
 obtain ⟨Kx,Kt,Kc,Kd,Kb,Ku,Kw,K,_⟩:=Xe Zv Zn [] false Xd;have Ko:=Bc.eq_def;refine Xj K Tryz.func73 [.tmp 2] rfl 3 rfl (fun c hc cvs hpre=>?_);unfold Bc at hpre;obtain ⟨⟨t⟩,rfl,-⟩:=Q2 hpre;cases hc;exact Af
def cV:Con:=Xc (fun (e:Sl Part) (_:Fn0 73)=>e.l.length≤1000000) (fun e _=>Sl.mk (e.l.mapIdx fun _=>Hs))
structure KhJ:Prop
theorem KhJ.k (_:KhJ) (h:p:=by
 repeat' first|exact Z8|with_reducible apply Zb|intro _
 all_goals first|with_reducible exact Jd|omega|exact ⟨j+1,by (have Km:=Q4;have Fg:=r9b;exact Qw),by omega,by omega⟩|skip):p:=h
structure KhI:Prop
theorem KhI.k (_:KhI) (h:p:=by
 repeat' first|exact Z8|with_reducible apply Zb|intro _
 all_goals try omega
 refine Zm [6,7,13,14,15,16,17,18,19,20,21,22,23,24,25,26,27,28,29,30,31,32,33] (fun j:Nat=>[(12,.d (.int .i64 j))]) (fun j:Nat=>[(9,.row 8 ((Ma (fun _=>Hs) xe j).map enc) 0)]) (fun j:Nat=>j≤xe.length) (fun j:Nat=>xe.length-j) 0 ?_ ?_ ?_
 ·omega
 ·have Km:=@Md;exact Qw
 rintro j hj;have hjlen:=Py (f:=fun _=>Hs) (l:=xe) j;rcases Zo j xe.length with ⟨hjlt,Qb⟩|⟨hjlt,Qb⟩
 rotate_left
 ·have hje:j=xe.length:=by omega
  have hfu:Ma (fun _=>Hs) xe j=xe.mapIdx fun _=>Hs:=by rw [hje,Me]
  have Qf:((xe.mapIdx fun _=>Hs).map (enc:Part→D)).length=xe.length:=by simp
  rw [hfu];rw [hje] at Qb;obtain ⟨E2,Qe⟩:=exq ((xe.mapIdx fun _=>Hs));have Z9:(xe.mapIdx fun _=>Hs).length=xe.length:=by simp
  rw [Qe] at Qf Z9 ⊢;exact Af
 have Qn:=Zr e0 (show j<(Ma (fun _=>Hs) xe j).length by omega)
 rw [Dj e0 hjlt] at Qn;have hsetj:=Px e0 hjlt (f:=fun _=>Hs);obtain ⟨p0,hp0⟩:=exq (xe.getD j e0);rw [hp0] at Qn hsetj;obtain ⟨pk,pl,pn,pb,pm,pq,pt,pu⟩:=p0;obtain ⟨S,hSq⟩:=exq (Ma (fun _=>Hs) xe j);rw [hSq] at Qn hsetj hjlen ⊢;have Qc:(S.map (enc:Part→D)).length=xe.length:=by rw [Zl,hjlen]
 have Q6:(S.map (enc:Part→D)).set j (.agg [.int .i64 pk,.str pl,.str pn,.str pb,.int .i64 pm,.int .i64 pq,.list 3 [],.list 3 (pu.map enc)])=(S.set j ⟨pk,pl,pn,pb,pm,pq,[],pu⟩).map enc:=Yp (y:=(⟨pk,pl,pn,pb,pm,pq,[],pu⟩:Part));have Je:el ((S.set j ⟨pk,pl,pn,pb,pm,pq,[],pu⟩).map (enc:Part→D)) j=.agg [.int .i64 pk,.str pl,.str pn,.str pb,.int .i64 pm,.int .i64 pq,.list 3 [],.list 3 (pu.map enc)]:=Ly (by omega)
 have Q4:((S.set j ⟨pk,pl,pn,pb,pm,pq,[],pu⟩).map (enc:Part→D)).set j (.agg [.int .i64 pk,.str pl,.str pn,.str pb,.int .i64 pm,.int .i64 pq,.list 3 [],.list 3 []])=(Ma (fun _=>Hs) xe (j+1)).map enc:=by
  rw [←hsetj];refine Eq.trans (Yp (y:=Hs ⟨pk,pl,pn,pb,pm,pq,pt,pu⟩)) ?_;rw [List.set_set]
 have r9b:(S.map (enc:Part→D)).set j (.agg [.int .i64 pk,.str pl,.str pn,.str pb,.int .i64 pm,.int .i64 pq,.list 3 [],.list 3 []])=(Ma (fun _=>Hs) xe (j+1)).map enc:=by
  rw [←Q4,←Yp,List.set_set]
 have Qh:((S.set j ⟨pk,pl,pn,pb,pm,pq,[],pu⟩).map (enc:Part→D)).length=xe.length:=by rw [Zl,List.length_set,hjlen]
 have hS2:(S.set j ⟨pk,pl,pn,pb,pm,pq,[],pu⟩).length=xe.length:=by rw [List.length_set,hjlen]
 have Qn:el (S.map (enc:Part→D)) j=.agg [.int .i64 pk,.str pl,.str pn,.str pb,.int .i64 pm,.int .i64 pq,.list 3 (pt.map enc),.list 3 (pu.map enc)]:=Qn;have Zu:=@bP;have Kq:KhJ:=⟨⟩;exact Wy):p:=h
theorem good_exprN:Qa Tryz.prog (119,cV):=by
 obtain ⟨Kx,Kt,Kc,Kd,Kb,Ku,Kw,K,X9,Uv,_⟩:=Xe Zv Zn [] false (Q0 good_cloneE D9.eq_def (Q0 dT Bc.eq_def Xd));have Ko:=cV.eq_def;refine Xj K Tryz.func119 [.tmp 4] rfl 35 rfl (fun c hc cvs hpre=>?_);unfold cV at hpre;obtain ⟨⟨xe⟩,f,rfl,hel⟩:=Ql hpre;simp only at hel;clear hpre;cases hc;refine Y4 2 ?_;have Kq:KhI:=⟨⟩;exact Wy
def cK:Con:=Xc (fun (p:Sl Mod6) (_:Fn0 73)=>BareOk p.l) (fun p _=>Sl.mk (p.l.mapIdx fun _=>Uu))
structure KhL:Prop
theorem KhL.k (_:KhL) (h:p:=by
 repeat' first|exact Z8|with_reducible apply Zb|intro _
 all_goals first|with_reducible exact Jd|omega|rfl|trivial|(simp;done)|skip):p:=h
structure KhN:Prop
theorem KhN.k (_:KhN) (h:p:=by
 repeat' first|exact Z8|with_reducible apply Zb|intro _
 all_goals first|with_reducible exact Jd|omega|exact ⟨k+1,by (have Km:=hset2;have Fg:=Je;have Zsi:=hPk;exact Qg5),by omega,by omega⟩|skip):p:=h
structure KhO:Prop
theorem KhO.k (_:KhO) (h:p:=by
 repeat' first|exact Z8|with_reducible apply Zb|intro _
 all_goals first|with_reducible exact Jd|omega|exact hdd|exact ⟨d+1,by (have Km:=Z0;have Fg:=r9b;exact Qw),by omega,by omega⟩|skip):p:=h
structure KhM:Prop
theorem KhM.k (_:KhM) (h:p:=by
 repeat' first|exact Z8|with_reducible apply Zb|intro _
 all_goals first|with_reducible exact Jd|omega|skip
 refine Zm [7,8,33,34,35,36,37,38,39,40,41,42,43,44,45,46,47,48,49,50,51,52,53,54,55,56,57,58,59,60,61] (fun d:Nat=>[(32,.d (.int .i64 d))]) (fun d:Nat=>[(23,.row 3 ((Ma (fun _=>Yv) md d).map enc) 0)]) (fun d:Nat=>d≤md.length) (fun d:Nat=>md.length-d) 0 ?_ ?_ ?_
 ·omega
 ·have Km:=@Md;exact Qw
 rintro d hd;have hdlen:=Py (f:=fun _=>Yv) (l:=md) d;rcases Zo d md.length with ⟨hdlt,Q4⟩|⟨hdlt,Q4⟩
 rotate_left
 ·have hde:d=md.length:=by omega
  have hfu:Ma (fun _=>Yv) md d=md.mapIdx fun _=>Yv:=by rw [hde,Me]
  have hset2:(P.map (enc:Mod6→D)).set k (.agg [.str mn,.list 1 (mi.map enc),.list 3 ((md.mapIdx fun _=>Yv).map enc),.list 3 (ms.map enc)])=(Ma (fun _=>Uu) p (k+1)).map enc:=by
   rw [←hset,←Yp];rfl
  have hPk:k<(P.map (enc:Mod6→D)).length:=by omega
  have Zu:(md.mapIdx fun _=>Yv).length=md.length:=by simp
  rw [hfu];have Qs:=@bP;have Kq:KhN:=⟨⟩;exact Wy
 have Zx:=Zr J3 hdlt;have Zw:=Zr J3 (show d<(Ma (fun _=>Yv) md d).length by omega)
 rw [Dj J3 hdlt] at Zw;have hsetd:=Px J3 hdlt (f:=fun _=>Yv);have hdd:=hdo (md.getD d J3) (by simp [hdlt])
 obtain ⟨x,hx⟩:=exq (md.getD d J3);rw [hx] at Zx Zw hsetd hdd;obtain ⟨xn,xt,xe⟩:=x;simp only at hdd;obtain ⟨Q,hQ⟩:=exq (Ma (fun _=>Yv) md d);rw [hQ] at Zw hsetd hdlen ⊢;have Zz:(Q.map (enc:Def6→D)).length=md.length:=by rw [Zl,hdlen]
 obtain ⟨E2,Qk⟩:=exq ((xe.mapIdx fun _=>Hs));have hFD:Yv ⟨xn,xt,xe⟩=⟨xn,[],E2⟩:=by unfold Yv;rw [Qk]
 have Qi:(0:Nat)=0:=rfl;have Qd:(Q.map (enc:Def6→D)).set d (.agg [.str xn,.list 3 [],.list 8 (xe.map enc)])=(Q.set d ⟨xn,[],xe⟩).map enc:=Yp (y:=(⟨xn,[],xe⟩:Def6));have Z1:el ((Q.set d ⟨xn,[],xe⟩).map (enc:Def6→D)) d=.agg [.str xn,.list 3 [],.list 8 (xe.map enc)]:=Ly (by omega)
 have Z0:((Q.set d ⟨xn,[],xe⟩).map (enc:Def6→D)).set d (.agg [.str xn,.list 3 [],enc (Sl.mk E2)])=(Ma (fun _=>Yv) md (d+1)).map enc:=by
  rw [←hsetd,hFD];refine Eq.trans (Yp (y:=(⟨xn,[],E2⟩:Def6))) ?_;rw [List.set_set]
 have r9b:(Q.map (enc:Def6→D)).set d (.agg [.str xn,.list 3 [],enc (Sl.mk E2)])=(Ma (fun _=>Yv) md (d+1)).map enc:=by
  rw [←Z0,←Yp,List.set_set]
 have Zy:((Q.set d ⟨xn,[],xe⟩).map (enc:Def6→D)).length=md.length:=by rw [Zl,List.length_set,hdlen]
 have hQ2:(Q.set d ⟨xn,[],xe⟩).length=md.length:=by rw [List.length_set,hdlen]
 have Qs:=@bP;have Kq:KhO:=⟨⟩;exact Wy):p:=h
structure KhK:Prop
theorem KhK.k (_:KhK) (h:p:=by
 repeat' first|exact Z8|with_reducible apply Zb|intro _
 all_goals try omega
 refine Iz [] 10 [6,7,8,14,15,16,17,18,19,20,21,22,23,24,25,26,27,28,29,30,31,32,33,34,35,36,37,38,39,40,41,42,43,44,45,46,47,48,49,50,51,52,53,54,55,56,57,58,59,60,61,62] (fun k:Nat=>[(13,.d (.int .i64 k))]) (fun k:Nat=>[(10,.row 4 ((Ma (fun _=>Uu) p k).map enc) k),(50010,.slot k 2)]) (fun k:Nat=>k≤p.length) (fun k:Nat=>p.length-k) 0 ?_ ?_ ?_
 ·omega
 ·show Wk _ _;have Km:=@Md;exact Qw
 rintro k hk;have hql:=Py (f:=fun _=>Uu) (l:=p) k;rcases Zo k p.length with ⟨hlt,Qf⟩|⟨hlt,Qf⟩
 rotate_left
 ·have hke:k=p.length:=by omega
  rw [hke];rw [hke] at Qf;rw [Me,hR];have Z9:(R.map (enc:Mod6→D)).length=p.length:=by rw [←hR,Zl,List.length_mapIdx]
  have Qe:R.length=p.length:=by rw [←hR,List.length_mapIdx]
  have Qc:=hR;have Qs:=@bP;have Kq:KhL:=⟨⟩;exact Wy
 have Qh:=Zr Jx hlt;have Qn:=Zr Jx (show k<(Ma (fun _=>Uu) p k).length by omega)
 rw [Dj Jx hlt] at Qn;have hset:=Px Jx hlt (f:=fun _=>Uu);have hmem:p.getD k Jx∈p:=by simp [hlt]
 have hdl:=hO.defs _ hmem;have hdo:=hO.e _ hmem;obtain ⟨m,hm⟩:=exq (p.getD k Jx);rw [hm] at Qh Qn hset hdl hdo;obtain ⟨mn,mi,md,ms⟩:=m;simp only at hdl hdo;obtain ⟨P,hP⟩:=exq (Ma (fun _=>Uu) p k);rw [hP] at Qn hset hql ⊢;have Q6:(P.map (enc:Mod6→D)).length=p.length:=by rw [Zl,hql]
 have Je:∀ X:D,((P.map (enc:Mod6→D)).set k X).length=p.length:=fun X=>by rw [List.length_set,Q6]
 have Qs:=@bP;have Kq:KhM:=⟨⟩;exact Wy):p:=h
theorem good_eachN:Qa Tryz.prog (65,cK):=by
 obtain ⟨Kx,Kt,Kc,Kd,Kb,Ku,Kw,K,X9,Uv,Po,Cx,_⟩:=Xe Zv Zn [] false (Q0 good_cloneMods Gk.eq_def (Q0 good_cloneDefs Gl.eq_def (Q0 good_exprN cV.eq_def (Q0 dT Bc.eq_def Xd))));have Ko:=cK.eq_def;refine Xj K Tryz.func65 [.tmp 4] rfl 64 rfl (fun c hc cvs hpre=>?_);unfold cK at hpre;obtain ⟨⟨p⟩,f,rfl,hO⟩:=Ql hpre;simp only at hO;clear hpre;have hpl:=hO.len;have Qb:(p.map (enc:Mod6→D)).length=p.length:=Zl ..;obtain ⟨R,hR⟩:=exq ((p.mapIdx fun _=>Uu));cases hc;refine Y4 4 ?_;have Qs:=@bP;have Kq:KhK:=⟨⟩;exact Wy
def H0 (m:MT) (d:Def6):Def6:=⟨d.name,Xs m d.t,d.e.map (U0 m)⟩
def T0 (m:MT) (x:Mod6):Mod6:=⟨x.name,x.imps,x.defs.mapIdx fun _=>H0 m,x.sites⟩
def Ym (m:MT) (p:List Mod6):List Mod6:=p.mapIdx fun _=>T0 m
structure EachOk (p:List Mod6):Prop where
 len:p.length≤1000
 defs:∀ m∈p,m.defs.length≤1000
 d:∀ m∈p,∀ d∈m.defs,d.t.length≤200000∧Zse d.e
def cA:Con:=Xc (fun (p:Sl Mod6) (f:Fil)=>EachOk p.l∧I8 f.m) (fun p f=>Sl.mk (Ym f.m p.l))
structure KhQ:Prop
theorem KhQ.k (_:KhQ) (h:p:=by
 repeat' first|exact Z8|with_reducible apply Zb|intro _
 all_goals first|with_reducible exact Jd|omega|rfl|trivial|(simp;done)|skip):p:=h
structure KhS:Prop
theorem KhS.k (_:KhS) (h:p:=by
 repeat' first|exact Z8|with_reducible apply Zb|intro _
 all_goals first|with_reducible exact Jd|omega|exact ⟨k+1,by (have Km:=hset2;have Fg:=Je;have Zsi:=hPk;exact Qg5),by omega,by omega⟩|skip):p:=h
structure KhT:Prop
theorem KhT.k (_:KhT) (h:p:=by
 repeat' first|exact Z8|with_reducible apply Zb|intro _
 all_goals first|with_reducible exact Jd|omega|exact hFm|exact hde|exact hdt|exact ⟨d+1,by (have Km:=Z0;have Fg:=r9b;exact Qw),by omega,by omega⟩|skip):p:=h
structure KhR:Prop
theorem KhR.k (_:KhR) (h:p:=by
 repeat' first|exact Z8|with_reducible apply Zb|intro _
 all_goals first|with_reducible exact Jd|omega|skip
 refine Zm [7,8,33,34,35,36,37,38,39,40,41,42,43,44,45,46,47,48,49,50,51,52,53,54,55,56,57,58,59,60,61] (fun d:Nat=>[(32,.d (.int .i64 d))]) (fun d:Nat=>[(23,.row 3 ((Ma (fun _=>H0 ⟨ks,vs⟩) md d).map enc) 0)]) (fun d:Nat=>d≤md.length) (fun d:Nat=>md.length-d) 0 ?_ ?_ ?_
 ·omega
 ·have Km:=@Md;exact Qw
 rintro d hd;have hdlen:=Py (f:=fun _=>H0 ⟨ks,vs⟩) (l:=md) d;rcases Zo d md.length with ⟨hdlt,Q4⟩|⟨hdlt,Q4⟩
 rotate_left
 ·have hde:d=md.length:=by omega
  have hfu:Ma (fun _=>H0 ⟨ks,vs⟩) md d=md.mapIdx fun _=>H0 ⟨ks,vs⟩:=by rw [hde,Me]
  have hset2:(P.map (enc:Mod6→D)).set k (.agg [.str mn,.list 1 (mi.map enc),.list 3 ((md.mapIdx fun _=>H0 ⟨ks,vs⟩).map enc),.list 3 (ms.map enc)])=(Ma (fun _=>T0 ⟨ks,vs⟩) p (k+1)).map enc:=by
   rw [←hset,←Yp];rfl
  have hPk:k<(P.map (enc:Mod6→D)).length:=by omega
  have Zu:(md.mapIdx fun _=>H0 ⟨ks,vs⟩).length=md.length:=by simp
  rw [hfu];have Kq:KhS:=⟨⟩;exact Wy
 have Zx:=Zr J3 hdlt;have Zw:=Zr J3 (show d<(Ma (fun _=>H0 ⟨ks,vs⟩) md d).length by omega)
 rw [Dj J3 hdlt] at Zw;have hsetd:=Px J3 hdlt (f:=fun _=>H0 ⟨ks,vs⟩);have hdd:=hdo (md.getD d J3) (by simp [hdlt])
 obtain ⟨x,hx⟩:=exq (md.getD d J3);rw [hx] at Zx Zw hsetd hdd;obtain ⟨xn,xt,xe⟩:=x;simp only at hdd;obtain ⟨Q,hQ⟩:=exq (Ma (fun _=>H0 ⟨ks,vs⟩) md d);rw [hQ] at Zw hsetd hdlen ⊢;have Zz:(Q.map (enc:Def6→D)).length=md.length:=by rw [Zl,hdlen]
 obtain ⟨hdt,hde⟩:=hdd;obtain ⟨T2,Qi⟩:=exq (Xs ⟨ks,vs⟩ xt);obtain ⟨E2,Qk⟩:=exq (xe.map (U0 ⟨ks,vs⟩));have hFD:H0 ⟨ks,vs⟩ ⟨xn,xt,xe⟩=⟨xn,T2,E2⟩:=by unfold H0;rw [Qi,Qk]
 have Qd:(Q.map (enc:Def6→D)).set d (.agg [.str xn,enc (Sl.mk T2),.list 8 (xe.map enc)])=(Q.set d ⟨xn,T2,xe⟩).map enc:=Yp (y:=(⟨xn,T2,xe⟩:Def6));have Z1:el ((Q.set d ⟨xn,T2,xe⟩).map (enc:Def6→D)) d=.agg [.str xn,enc (Sl.mk T2),.list 8 (xe.map enc)]:=Ly (by omega)
 have Z0:((Q.set d ⟨xn,T2,xe⟩).map (enc:Def6→D)).set d (.agg [.str xn,enc (Sl.mk T2),enc (Sl.mk E2)])=(Ma (fun _=>H0 ⟨ks,vs⟩) md (d+1)).map enc:=by
  rw [←hsetd,hFD];refine Eq.trans (Yp (y:=(⟨xn,T2,E2⟩:Def6))) ?_;rw [List.set_set]
 have r9b:(Q.map (enc:Def6→D)).set d (.agg [.str xn,enc (Sl.mk T2),enc (Sl.mk E2)])=(Ma (fun _=>H0 ⟨ks,vs⟩) md (d+1)).map enc:=by
  rw [←Z0,←Yp,List.set_set]
 have Zy:((Q.set d ⟨xn,T2,xe⟩).map (enc:Def6→D)).length=md.length:=by rw [Zl,List.length_set,hdlen]
 have hQ2:(Q.set d ⟨xn,T2,xe⟩).length=md.length:=by rw [List.length_set,hdlen]
 have Kq:KhT:=⟨⟩;exact Wy):p:=h
structure KhP:Prop
theorem KhP.k (_:KhP) (h:p:=by
 repeat' first|exact Z8|with_reducible apply Zb|intro _
 all_goals try omega
 refine Iz [] 10 [6,7,8,14,15,16,17,18,19,20,21,22,23,24,25,26,27,28,29,30,31,32,33,34,35,36,37,38,39,40,41,42,43,44,45,46,47,48,49,50,51,52,53,54,55,56,57,58,59,60,61,62] (fun k:Nat=>[(13,.d (.int .i64 k))]) (fun k:Nat=>[(10,.row 4 ((Ma (fun _=>T0 ⟨ks,vs⟩) p k).map enc) k),(50010,.slot k 2)]) (fun k:Nat=>k≤p.length) (fun k:Nat=>p.length-k) 0 ?_ ?_ ?_
 ·omega
 ·show Wk _ _;have Km:=@Md;exact Qw
 rintro k hk;have hql:=Py (f:=fun _=>T0 ⟨ks,vs⟩) (l:=p) k;rcases Zo k p.length with ⟨hlt,Qf⟩|⟨hlt,Qf⟩
 rotate_left
 ·have hke:k=p.length:=by omega
  rw [hke];rw [hke] at Qf;rw [Me,hR];have Z9:(R.map (enc:Mod6→D)).length=p.length:=by rw [←hR,Zl,List.length_mapIdx]
  have Qe:R.length=p.length:=by rw [←hR,List.length_mapIdx]
  have Qc:Ym ⟨ks,vs⟩ p=R:=hR;have Kq:KhQ:=⟨⟩;exact Wy
 have Qh:=Zr Jx hlt;have Qn:=Zr Jx (show k<(Ma (fun _=>T0 ⟨ks,vs⟩) p k).length by omega)
 rw [Dj Jx hlt] at Qn;have hset:=Px Jx hlt (f:=fun _=>T0 ⟨ks,vs⟩);have hmem:p.getD k Jx∈p:=by simp [hlt]
 have hdl:=hO.defs _ hmem;have hdo:=hO.d _ hmem;obtain ⟨m,hm⟩:=exq (p.getD k Jx);rw [hm] at Qh Qn hset hdl hdo;obtain ⟨mn,mi,md,ms⟩:=m;simp only at hdl hdo;obtain ⟨P,hP⟩:=exq (Ma (fun _=>T0 ⟨ks,vs⟩) p k);rw [hP] at Qn hset hql ⊢;have Q6:(P.map (enc:Mod6→D)).length=p.length:=by rw [Zl,hql]
 have Je:∀ X:D,((P.map (enc:Mod6→D)).set k X).length=p.length:=fun X=>by rw [List.length_set,Q6]
 have Kq:KhR:=⟨⟩;exact Wy):p:=h
theorem good_eachF:Qa Tryz.prog (65,cA):=by
 obtain ⟨Kx,Kt,Kc,Kd,Kb,Ku,Kw,K,X9,Uv,Po,Cx,_⟩:=Xe Zv Zn [] false (Q0 good_cloneMods Gk.eq_def (Q0 good_cloneDefs Gl.eq_def (Q0 good_exprA cW.eq_def (Q0 good_filler_1 N0.eq_def Xd))));have Ko:=cA.eq_def;refine Xj K Tryz.func65 [.tmp 4] rfl 64 rfl (fun c hc cvs hpre=>?_);unfold cA at hpre;obtain ⟨⟨p⟩,⟨mt⟩,rfl,hO,hFm⟩:=Ql hpre;simp only at hO hFm;obtain ⟨ks,vs⟩:=mt;clear hpre;have hpl:=hO.len;have Qb:(p.map (enc:Mod6→D)).length=p.length:=Zl ..;obtain ⟨R,hR⟩:=exq ((p.mapIdx fun _=>T0 ⟨ks,vs⟩));cases hc;refine Y4 4 ?_;have Kq:KhP:=⟨⟩;exact Wy
def Ba:Con:=Xc (fun (p:Sl Mod6) (l:Sl Ch)=>EachOk p.l∧l.l.length≤1000000∧I8 (Xa l.l)) (fun p l=>Sl.mk (Ym (Xa l.l) p.l))
theorem dS:Qa Tryz.prog (31,Ba):=by
 obtain ⟨Kx,Kt,Kc,Kd,Kb,Ku,Kw,K,X9,Uv,_⟩:=Xe Zv Zn [] false (Q0 good_filler D8.eq_def (Q0 good_eachF cA.eq_def Xd));have Ko:=Ba.eq_def;refine Xj K Tryz.func31 [.tmp 4] rfl 9 rfl (fun c hc cvs hpre=>?_);unfold Ba at hpre;obtain ⟨⟨p⟩,⟨l⟩,rfl,he,hl,hm⟩:=Ql hpre;simp only at he hl hm;clear hpre;unfold Xa at hm;have Qf:Xa l=Wi l l.length:=rfl;obtain ⟨⟨ks,vs⟩,Qb⟩:=exq (Wi l l.length);rw [Qb] at hm Qf;cases hc;exact Af
def tS (l:List (Sl Node)):List Obj:=[.box false [.sl 90001 l.length],.row 1 (l.map enc) 0]
theorem Pn {l:List (Sl Node)}:tS l=[.box false [.sl 90001 l.length],.row 1 (l.map enc) 0]:=rfl
def Wj:BCon where
 X:=List Node×List (Sl Node)
 ok x:=x.2.length≤5000000000000
 args x:=[.d (.list 3 (x.1.map enc)),.ref 90000 0]
 objs x:=tS x.2
 res _:=.list 3 []
 post x:=tS (x.2++[⟨x.1⟩])
theorem eA {t:List Node} {l:List (Sl Node)}:Wj.res (t,l)=.list 3 []:=rfl
theorem Om {t:List Node} {l:List (Sl Node)}:Wj.post (t,l)=tS (l++[⟨t⟩]):=rfl
structure KhU:Prop
theorem KhU.k (_:KhU) (h:p:=by
 repeat' first|exact Z8|with_reducible apply Zb|intro _
 all_goals first|with_reducible exact Jd|omega|skip
 refine ⟨[90000,90001],by simp,rfl,Zrz (by decide),?_⟩
 simp [Q3,lk,Tq,rnA,rnAs,rk]):p:=h
theorem goodb_typesA_1:Ry Tryz.prog (121,Wj):=by
 obtain ⟨Kx,Kt,Kc,Kd,Kb,Ku,Kw,K,_⟩:=Xe Zv Zn [] false Xd;refine Qbr K Tryz.func121 [.tmp 3] rfl 8 rfl (fun c hc x hok=>?_);obtain ⟨t,l⟩:=x
 change l.length≤5000000000000 at hok
 refine ⟨?_,?_,?_,?_,?_⟩
 ·show Tl [.d (.list 3 (t.map enc)),.ref 90000 0] (tS l);rw [Pn];simp [Tl,Pu,Obj.tied,Jr,keptAll,AV.kept,Jc,Mq,lk]
 ·show Jr (tS l);rw [Pn];simp [Jr]
 ·show Tl [] (tS (l++[⟨t⟩]));rw [Pn];simp [Tl,Pu,Obj.tied,Jr,keptAll,AV.kept,Jc,Mq,lk]
 ·show (tS l).length≤(tS (l++[⟨t⟩])).length;rw [Pn,Pn];simp
 show Li _ c (oA _ _ (tS l).length (.list 3 []) (tS (l++[⟨t⟩]))) ⟨[.d (.list 3 (t.map enc)),.ref 90000 0]++P6 6,Jc (tS l)⟩;have hl1:(l++[(⟨t⟩:Sl Node)]).length=l.length+1:=by simp
 have hm1:(l++[(⟨t⟩:Sl Node)]).map (enc:Sl Node→D)=l.map enc++[.list 3 (t.map enc)]:=by rw [List.map_append];rfl
 rw [Pn,Pn,hl1,hm1];cases hc;have Kq:KhU:=⟨⟩;exact Wy
def Pb:BCon where
 X:=List Part×List (Sl Node)
 ok x:=x.1.length≤1000000∧x.2.length+2*x.1.length≤4000000000000
 args x:=[.d (.list 8 (x.1.map enc)),.clo 121 [.ref 90000 0]]
 objs x:=tS x.2
 res x:=.list 8 ((x.1.mapIdx fun _=>Hs).map enc)
 post x:=tS (vY x.2 x.1 x.1.length)
theorem Zwe {e:List Part} {l:List (Sl Node)}:Pb.res (e,l)=.list 8 ((e.mapIdx fun _=>Hs).map enc):=rfl
theorem Zro {e:List Part} {l:List (Sl Node)}:Pb.post (e,l)=tS (vY l e e.length):=rfl
structure KhW:Prop
theorem KhW.k (_:KhW) (h:p:=by
 repeat' first|exact Z8|with_reducible apply Zb|intro _
 all_goals first|with_reducible exact Jd|omega|skip
 refine ⟨[90000,90001],by simp,rfl,Zrz (by decide),?_⟩
 simp [Q3,lk,Tq,rnA,rnAs,rk]):p:=h
structure KhZ:Prop
theorem KhZ.k (_:KhZ) (h:p:=by
 repeat' first|exact Z8|with_reducible apply Zb|intro _
 all_goals first|with_reducible exact Jd|omega|exact ⟨j+1,by rw [hL2];(have Km:=Zu;have Fg:=r9b;exact Qw),by omega,by omega⟩|skip):p:=h
structure KhY:Prop
theorem KhY.k (_:KhY) (h:p:=by
 repeat' first|exact Z8|with_reducible apply Zb|intro _
 all_goals first|with_reducible exact Jd|omega|skip
 refine I1 (bc:=Wj) (pu,L1) [90000,90001] (by show L1.length≤5000000000000;omega) rfl (by simp) rfl ?_ ?_ ?_
 ·show Q3 _ _ (tS L1) _;rw [Pn];simp [Q3,lk,Tq,rnA,rnAs,rk]
 ·show X6 (List.drop (tS L1).length _) _;rw [Pn];simp [X6,lk]
 have Uv:=Kt;have Zx:=@eA;have Zw:=@Pn;have Kq:KhZ:=⟨⟩;exact Wy):p:=h
structure KhX:Prop
theorem KhX.k (_:KhX) (h:p:=by
 repeat' first|exact Z8|with_reducible apply Zb|intro _
 all_goals first|with_reducible exact Jd|omega|skip
 refine I1 (bc:=Wj) (pt,L) [90000,90001] (by show L.length≤5000000000000;omega) rfl (by simp) rfl ?_ ?_ ?_
 ·show Q3 _ _ (tS L) _;rw [Pn];simp [Q3,lk,Tq,rnA,rnAs,rk]
 ·show X6 (List.drop (tS L).length _) _;rw [Pn];simp [X6,lk]
 have Uv:=Kt;have Zx:=@eA;have Zw:=@Pn;have Kq:KhY:=⟨⟩;exact Wy):p:=h
structure KhV:Prop
theorem KhV.k (_:KhV) (h:p:=by
 repeat' first|exact Z8|with_reducible apply Zb|intro _
 all_goals try omega
 refine Zm [6,7,13,14,15,16,17,18,19,20,21,22,23,24,25,26,27,28,29,30,31,32,33] (fun j:Nat=>[(12,.d (.int .i64 j))]) (fun j:Nat=>[(9,.row 8 ((Ma (fun _=>Hs) xe j).map enc) 0),(90000,.box false [.sl 90001 (vY l xe j).length]),(90001,.row 1 ((vY l xe j).map enc) 0)]) (fun j:Nat=>j≤xe.length) (fun j:Nat=>xe.length-j) 0 ?_ ?_ ?_
 ·omega
 ·rw [hE0];have Km:=@Md;exact Qw
 rintro j hj;have hjlen:=Py (f:=fun _=>Hs) (l:=xe) j;have hLl:(vY l xe j).length≤4000000000000:=by have:=Qc1 (C:=l) (e:=xe) j;omega
 rcases Zo j xe.length with ⟨hjlt,Qb⟩|⟨hjlt,Qb⟩
 rotate_left
 ·have hje:j=xe.length:=by omega
  have hfu:Ma (fun _=>Hs) xe j=xe.mapIdx fun _=>Hs:=by rw [hje,Me]
  have Qf:((xe.mapIdx fun _=>Hs).map (enc:Part→D)).length=xe.length:=by simp
  rw [hfu,hje];rw [hje] at Qb;obtain ⟨E2,hE2⟩:=exq ((xe.mapIdx fun _=>Hs));obtain ⟨L2,hL2⟩:=exq (vY l xe xe.length);have Z9:(xe.mapIdx fun _=>Hs).length=xe.length:=by simp
  rw [hE2] at Qf Z9 ⊢;rw [hL2];have Uv:=Kt;have Kq:KhW:=⟨⟩;exact Wy
 have Qc:=Zr e0 (show j<(Ma (fun _=>Hs) xe j).length by omega)
 rw [Dj e0 hjlt] at Qc;have hsetj:=Px e0 hjlt (f:=fun _=>Hs);have hs3:=Zxh (C:=l) hjlt;obtain ⟨p0,hp0⟩:=exq (xe.getD j e0);rw [hp0] at Qc hsetj hs3;obtain ⟨pk,pl,pn,pb,pm,pq,pt,pu⟩:=p0;obtain ⟨S,hSq⟩:=exq (Ma (fun _=>Hs) xe j);rw [hSq] at Qc hsetj hjlen ⊢;simp only at hs3;obtain ⟨L,hL⟩:=exq (vY l xe j);rw [hL] at hs3 hLl ⊢;have Qh:Wj.post (pt,L)=tS (L++[⟨pt⟩]):=Om;have hL1:(L++[(⟨pt⟩:Sl Node)]).length=L.length+1:=by simp
 obtain ⟨L1,hL1q⟩:=exq (L++[(⟨pt⟩:Sl Node)]);rw [hL1q] at hs3 Qh hL1;have Qn:Wj.post (pu,L1)=tS (L1++[⟨pu⟩]):=Om;rw [←hs3] at Qn;obtain ⟨L2,hL2⟩:=exq (vY l xe (j+1));rw [hL2] at Qn;have Qe:(S.map (enc:Part→D)).length=xe.length:=by rw [Zl,hjlen]
 have Je:(S.map (enc:Part→D)).set j (.agg [.int .i64 pk,.str pl,.str pn,.str pb,.int .i64 pm,.int .i64 pq,.list 3 [],.list 3 (pu.map enc)])=(S.set j ⟨pk,pl,pn,pb,pm,pq,[],pu⟩).map enc:=Yp (y:=(⟨pk,pl,pn,pb,pm,pq,[],pu⟩:Part));have Q4:el ((S.set j ⟨pk,pl,pn,pb,pm,pq,[],pu⟩).map (enc:Part→D)) j=.agg [.int .i64 pk,.str pl,.str pn,.str pb,.int .i64 pm,.int .i64 pq,.list 3 [],.list 3 (pu.map enc)]:=Ly (by omega)
 have Zu:((S.set j ⟨pk,pl,pn,pb,pm,pq,[],pu⟩).map (enc:Part→D)).set j (.agg [.int .i64 pk,.str pl,.str pn,.str pb,.int .i64 pm,.int .i64 pq,.list 3 [],.list 3 []])=(Ma (fun _=>Hs) xe (j+1)).map enc:=by
  rw [←hsetj];refine Eq.trans (Yp (y:=Hs ⟨pk,pl,pn,pb,pm,pq,pt,pu⟩)) ?_;rw [List.set_set]
 have r9b:(S.map (enc:Part→D)).set j (.agg [.int .i64 pk,.str pl,.str pn,.str pb,.int .i64 pm,.int .i64 pq,.list 3 [],.list 3 []])=(Ma (fun _=>Hs) xe (j+1)).map enc:=by
  rw [←Zu,←Yp,List.set_set]
 have Q6:((S.set j ⟨pk,pl,pn,pb,pm,pq,[],pu⟩).map (enc:Part→D)).length=xe.length:=by rw [Zl,List.length_set,hjlen]
 have hS2:(S.set j ⟨pk,pl,pn,pb,pm,pq,[],pu⟩).length=xe.length:=by rw [List.length_set,hjlen]
 have Qc:el (S.map (enc:Part→D)) j=.agg [.int .i64 pk,.str pl,.str pn,.str pb,.int .i64 pm,.int .i64 pq,.list 3 (pt.map enc),.list 3 (pu.map enc)]:=Qc;clear hs3;have Uv:=Kt;have Kq:KhX:=⟨⟩;exact Wy):p:=h
theorem goodb_exprT:Ry Tryz.prog (119,Pb):=by
 obtain ⟨Kx,Kt,Kc,Kd,Kb,Ku,Kw,K,X9,Uv,_⟩:=Xe Zv Zn [] false (Q0 good_cloneE D9.eq_def (Qd7 goodb_typesA_1 Wj.eq_def Xd));refine Qbr K Tryz.func119 [.tmp 4] rfl 35 rfl (fun c hc x hok=>?_);obtain ⟨xe,l⟩:=x;obtain ⟨hel,hll⟩:=hok;simp only at hel hll;refine ⟨?_,?_,?_,?_,?_⟩
 ·show Tl [.d (.list 8 (xe.map enc)),.clo 121 [.ref 90000 0]] (tS l);rw [Pn];simp [Tl,Pu,Obj.tied,Jr,keptAll,AV.kept,Jc,Mq,lk]
 ·show Jr (tS l);rw [Pn];simp [Jr]
 ·show Tl [] (tS (vY l xe xe.length));rw [Pn];simp [Tl,Pu,Obj.tied,Jr,keptAll,AV.kept,Jc,Mq,lk]
 ·show (tS l).length≤(tS (vY l xe xe.length)).length;rw [Pn,Pn];simp
 show Li _ c (oA _ _ (tS l).length (.list 8 ((xe.mapIdx fun _=>Hs).map enc)) (tS (vY l xe xe.length))) ⟨[.d (.list 8 (xe.map enc)),.clo 121 [.ref 90000 0]]++P6 33,Jc (tS l)⟩;rw [Pn,Pn];have hE0:vY l xe 0=l:=Zxg;cases hc;refine Y4 2 ?_;have Uv:=Kt;have Kq:KhV:=⟨⟩;exact Wy
def Sg:BCon where
 X:=List Mod6
 ok p:=BareOk p
 args p:=[.d (enc (Sl.mk p)),.clo 121 [.ref 90000 0]]
 objs _:=[.box false [.nils 1]]
 res p:=.list 4 ((p.mapIdx fun _=>Uu).map enc)
 post p:=tS (Bk p)
theorem Zrs {p:List Mod6}:Sg.post p=tS (Bk p):=rfl
structure Kib:Prop
theorem Kib.k (_:Kib) (h:p:=by
 repeat' first|exact Z8|with_reducible apply Zb|intro _
 all_goals first|with_reducible exact Jd|omega|skip
 refine ⟨[90000,60000],by simp,rfl,Zrz (by decide),?_⟩
 simp [Q3,lk,Tq,rnA,rnAs,rk]):p:=h
structure Kid:Prop
theorem Kid.k (_:Kid) (h:p:=by
 repeat' first|exact Z8|with_reducible apply Zb|intro _
 all_goals first|with_reducible exact Jd|omega|exact ⟨k+1,by rw [hG];(have Km:=hset2;have Fg:=Q6;have Zsi:=hPk;exact Qg5),by omega,by omega⟩|skip):p:=h
structure Kig:Prop
theorem Kig.k (_:Kig) (h:p:=by
 repeat' first|exact Z8|with_reducible apply Zb|intro _
 all_goals first|with_reducible exact Jd|omega|exact ⟨d+1,by rw [hG];(have Km:=Qk;have Fg:=r9b;exact Qw),by omega,by omega⟩|skip):p:=h
structure Kif:Prop
theorem Kif.k (_:Kif) (h:p:=by
 repeat' first|exact Z8|with_reducible apply Zb|intro _
 all_goals first|with_reducible exact Jd|omega|skip
 refine I1 (bc:=Pb) (xe,B') [90000,60000] ⟨by simp only;omega,by simp only;omega⟩ rfl (by simp) rfl ?_ ?_ ?_
 ·show Q3 _ _ (tS B') _;rw [Pn];simp [Q3,lk,Tq,rnA,rnAs,rk]
 ·show X6 (List.drop (tS B').length _) _;rw [Pn];simp [X6,lk]
 have Po:=Kt;have Cx:=Kt;have Qs:=@Pn;have Kq:Kig:=⟨⟩;exact Wy):p:=h
structure Kie:Prop
theorem Kie.k (_:Kie) (h:p:=by
 repeat' first|exact Z8|with_reducible apply Zb|intro _
 all_goals first|with_reducible exact Jd|omega|skip
 refine I1 (bc:=Wj) (xt,B) [90000,60000] (by show B.length≤5000000000000;omega) rfl (by simp) rfl ?_ ?_ ?_
 ·show Q3 _ _ (tS B) _;rw [Pn];simp [Q3,lk,Tq,rnA,rnAs,rk]
 ·show X6 (List.drop (tS B).length _) _;rw [Pn];simp [X6,lk]
 have Po:=Kt;have Cx:=Kt;have Qs:=@eA;have Q8:=@Pn;have Kq:Kif:=⟨⟩;exact Wy):p:=h
structure Kic:Prop
theorem Kic.k (_:Kic) (h:p:=by
 repeat' first|exact Z8|with_reducible apply Zb|intro _
 all_goals first|with_reducible exact Jd|omega|skip
 refine Zm [7,8,33,34,35,36,37,38,39,40,41,42,43,44,45,46,47,48,49,50,51,52,53,54,55,56,57,58,59,60,61] (fun d:Nat=>[(32,.d (.int .i64 d))]) (fun d:Nat=>[(23,.row 3 ((Ma (fun _=>Yv) md d).map enc) 0),(90000,.box false [.sl 60000 (Zpt A md d).length]),(60000,.row 1 ((Zpt A md d).map enc) 0)]) (fun d:Nat=>d≤md.length) (fun d:Nat=>md.length-d) 0 ?_ ?_ ?_
 ·omega
 ·rw [hA0];have Km:=@Md;exact Qw
 rintro d hd;have hdlen:=Py (f:=fun _=>Yv) (l:=md) d;have hB1:=Qc2 (A:=A) hdl hel d;rcases Zo d md.length with ⟨hdlt,Je⟩|⟨hdlt,Je⟩
 rotate_left
 ·have hde:d=md.length:=by omega
  have hfu:Ma (fun _=>Yv) md d=md.mapIdx fun _=>Yv:=by rw [hde,Me]
  have hset2:(P.map (enc:Mod6→D)).set k (.agg [.str mn,.list 1 (mi.map enc),.list 3 ((md.mapIdx fun _=>Yv).map enc),.list 3 (ms.map enc)])=(Ma (fun _=>Uu) p (k+1)).map enc:=by
   rw [←hset,←Yp];rfl
  have hPk:k<(P.map (enc:Mod6→D)).length:=by omega
  have Q4:(md.mapIdx fun _=>Yv).length=md.length:=by simp
  rw [hfu,hde,←hsucc];rw [hde] at Je;obtain ⟨G,hG⟩:=exq (Zuf p (k+1));rw [hG];have Po:=Kt;have Cx:=Kt;have Kq:Kid:=⟨⟩;exact Wy
 have Zu:=Zr J3 hdlt;have Zx:=Zr J3 (show d<(Ma (fun _=>Yv) md d).length by omega)
 rw [Dj J3 hdlt] at Zx;have hsetd:=Px J3 hdlt (f:=fun _=>Yv);have hs2:=Zxk (A:=A) hdlt;have hed:=hel (md.getD d J3) (by simp [hdlt])
 obtain ⟨x,hx⟩:=exq (md.getD d J3);rw [hx] at Zu Zx hsetd hed hs2;obtain ⟨xn,xt,xe⟩:=x;simp only at hed;obtain ⟨Q,hQ⟩:=exq (Ma (fun _=>Yv) md d);rw [hQ] at Zx hsetd hdlen ⊢;have Zw:(Q.map (enc:Def6→D)).length=md.length:=by rw [Zl,hdlen]
 simp only at hs2;rw [←Zxi] at hs2;have hBl:(Zpt A md d).length≤3000000000000:=by omega
 obtain ⟨B,hB⟩:=exq (Zpt A md d);rw [hB] at hs2 hBl ⊢;have Zz:Wj.post (xt,B)=tS (B++[⟨xt⟩]):=Om;have hB2:(B++[(⟨xt⟩:Sl Node)]).length=B.length+1:=by simp
 obtain ⟨B',hB'⟩:=exq (B++[(⟨xt⟩:Sl Node)]);rw [hB'] at hs2 Zz hB2;have Z0:Pb.post (xe,B')=tS (vY B' xe xe.length):=Zro;rw [←hs2] at Z0;have Qi:Pb.res (xe,B')=.list 8 ((xe.mapIdx fun _=>Hs).map enc):=Zwe;obtain ⟨G,hG⟩:=exq (Zpt A md (d+1));rw [hG] at Z0;obtain ⟨E2,hE2⟩:=exq ((xe.mapIdx fun _=>Hs));rw [hE2] at Qi;have hFD:Yv ⟨xn,xt,xe⟩=⟨xn,[],E2⟩:=by unfold Yv;rw [hE2]
 have Qd:(Q.map (enc:Def6→D)).set d (.agg [.str xn,.list 3 [],.list 8 (xe.map enc)])=(Q.set d ⟨xn,[],xe⟩).map enc:=Yp (y:=(⟨xn,[],xe⟩:Def6));have Z1:el ((Q.set d ⟨xn,[],xe⟩).map (enc:Def6→D)) d=.agg [.str xn,.list 3 [],.list 8 (xe.map enc)]:=Ly (by omega)
 have Qk:((Q.set d ⟨xn,[],xe⟩).map (enc:Def6→D)).set d (.agg [.str xn,.list 3 [],.list 8 (E2.map enc)])=(Ma (fun _=>Yv) md (d+1)).map enc:=by
  rw [←hsetd,hFD];refine Eq.trans (Yp (y:=(⟨xn,[],E2⟩:Def6))) ?_;rw [List.set_set]
 have r9b:(Q.map (enc:Def6→D)).set d (.agg [.str xn,.list 3 [],.list 8 (E2.map enc)])=(Ma (fun _=>Yv) md (d+1)).map enc:=by
  rw [←Qk,←Yp,List.set_set]
 have Zy:((Q.set d ⟨xn,[],xe⟩).map (enc:Def6→D)).length=md.length:=by rw [Zl,List.length_set,hdlen]
 have hQ2:(Q.set d ⟨xn,[],xe⟩).length=md.length:=by rw [List.length_set,hdlen]
 clear hs2 hB1;have Po:=Kt;have Cx:=Kt;have Kq:Kie:=⟨⟩;exact Wy):p:=h
structure Kia:Prop
theorem Kia.k (_:Kia) (h:p:=by
 repeat' first|exact Z8|with_reducible apply Zb|intro _
 all_goals try omega
 refine Iz [] 10 [6,7,8,14,15,16,17,18,19,20,21,22,23,24,25,26,27,28,29,30,31,32,33,34,35,36,37,38,39,40,41,42,43,44,45,46,47,48,49,50,51,52,53,54,55,56,57,58,59,60,61,62] (fun k:Nat=>[(13,.d (.int .i64 k))]) (fun k:Nat=>[(10,.row 4 ((Ma (fun _=>Uu) p k).map enc) k),(50010,.slot k 2),(90000,.box false [.sl 60000 (Zuf p k).length]),(60000,.row 1 ((Zuf p k).map enc) 0)]) (fun k:Nat=>k≤p.length) (fun k:Nat=>p.length-k) 0 ?_ ?_ ?_
 ·omega
 ·rw [hT0];show Wk _ _;have Km:=@Md;exact Qw
 rintro k hk;have hql:=Py (f:=fun _=>Uu) (l:=p) k;have hA1:=Qc0 hO k;rcases Zo k p.length with ⟨hlt,Qf⟩|⟨hlt,Qf⟩
 rotate_left
 ·have hke:k=p.length:=by omega
  rw [hke,Zxf];rw [hke] at Qf;obtain ⟨R,hR⟩:=exq ((p.mapIdx fun _=>Uu));rw [Me,hR];have Z9:(R.map (enc:Mod6→D)).length=p.length:=by rw [←hR,Zl,List.length_mapIdx]
  have Qe:R.length=p.length:=by rw [←hR,List.length_mapIdx]
  obtain ⟨L2,hL2⟩:=exq (Bk p);rw [hL2];have Po:=Kt;have Cx:=Kt;have Kq:Kib:=⟨⟩;exact Wy
 have Qc:=Zr Jx hlt;have Qh:=Zr Jx (show k<(Ma (fun _=>Uu) p k).length by omega)
 rw [Dj Jx hlt] at Qh;have hset:=Px Jx hlt (f:=fun _=>Uu);have hsucc:=Zxe hlt;have hmem:p.getD k Jx∈p:=by simp [hlt]
 have hdl:=hO.defs _ hmem;have hel:=hO.e _ hmem;obtain ⟨m,hm⟩:=exq (p.getD k Jx);rw [hm] at Qc Qh hset hdl hel hsucc;obtain ⟨mn,mi,md,ms⟩:=m;simp only at hdl hel;simp only at hsucc;rw [←Zxl] at hsucc;obtain ⟨P,hP⟩:=exq (Ma (fun _=>Uu) p k);rw [hP] at Qh hset hql ⊢;have Qn:(P.map (enc:Mod6→D)).length=p.length:=by rw [Zl,hql]
 have Q6:∀ X:D,((P.map (enc:Mod6→D)).set k X).length=p.length:=fun X=>by rw [List.length_set,Qn]
 obtain ⟨A,hA⟩:=exq (Zuf p k);rw [hA] at hsucc hA1 ⊢;have hA0:Zpt A md 0=A:=Zxj;have Po:=Kt;have Cx:=Kt;have Kq:Kic:=⟨⟩;exact Wy):p:=h
theorem goodb_eachT:Ry Tryz.prog (65,Sg):=by
 obtain ⟨Kx,Kt,Kc,Kd,Kb,Ku,Kw,K,X9,Uv,Po,Cx,_⟩:=Xe Zv Zn [] false (Q0 good_cloneMods Gk.eq_def (Q0 good_cloneDefs Gl.eq_def (Qd7 goodb_exprT Pb.eq_def (Qd7 goodb_typesA_1 Wj.eq_def Xd))));refine Qbr K Tryz.func65 [.tmp 4] rfl 64 rfl (fun c hc x hok=>?_);have hO:BareOk x:=hok;clear hok;refine ⟨?_,?_,?_,?_,?_⟩
 ·show Tl [.d (enc (Sl.mk x)),.clo 121 [.ref 90000 0]] [.box false [.nils 1]];simp [Tl,Pu,Obj.tied,Jr,keptAll,AV.kept,Jc,Mq,lk]
 ·show Jr [.box false [.nils 1]];simp [Jr]
 ·show Tl [] (tS (Bk x));rw [Pn];simp [Tl,Pu,Obj.tied,Jr,keptAll,AV.kept,Jc,Mq,lk]
 ·show ([.box false [.nils 1]]:List Obj).length≤(tS (Bk x)).length;rw [Pn];simp
 show Li _ c (oA _ _ 1 (.list 4 ((x.mapIdx fun _=>Uu).map enc)) (tS (Bk x))) ⟨[.d (enc (Sl.mk x)),.clo 121 [.ref 90000 0]]++P6 62,Jc [.box false [.nils 1]]⟩;obtain ⟨p,hpx⟩:∃ p:List Mod6,x=p:=⟨_,rfl⟩;rw [hpx] at hO ⊢;rw [Pn];have hpl:=hO.len;have Qb:(p.map (enc:Mod6→D)).length=p.length:=Zl ..;have hT0:Zuf p 0=[]:=Zxd;cases hc;refine Y4 4 ?_;have Po:=Kt;have Cx:=Kt;have Kq:Kia:=⟨⟩;exact Wy
def Dx:Con:=J7 (fun (p:Sl Mod6)=>BareOk p.l) (fun p=>Sl.mk (Bk p.l))
structure Kih:Prop
theorem Kih.k (_:Kih) (h:p:=by
 repeat' first|exact Z8|with_reducible apply Zb|intro _
 all_goals first|with_reducible exact Jd|omega|skip
 refine Rw (bc:=Sg) p [3,60000] hO rfl (by simp) (by rw [Qb];rfl) ?_ ?_ ?_
 ·show Q3 _ _ [.box false [.nils 1]] _;simp [Q3,lk,Tq,rnA,rnAs,rk]
 ·show X6 (List.drop ([.box false [.nils 1]]:List Obj).length _) _;simp [X6,lk]
 have Qe:=@Pn;exact Af):p:=h
theorem good_typesA:Qa Tryz.prog (69,Dx):=by
 obtain ⟨Kx,Kt,Kc,Kd,Kb,Ku,Kw,K,X9,_⟩:=Xe Zv Zn [] false (Qd7 goodb_eachT Sg.eq_def Xd);have Ko:=Dx.eq_def;refine Xj K Tryz.func69 [.tmp 2] rfl 8 rfl (fun c hc cvs hpre=>?_);unfold Dx at hpre;obtain ⟨⟨p⟩,rfl,hO⟩:=Q2 hpre;simp only at hO;clear hpre;obtain ⟨L,Z9⟩:=exq (Bk p);have Qb:Sg.post p=tS L:=by rw [Zrs,Z9]
 obtain ⟨R,Qf⟩:=exq (Sg.res p);cases hc;have Kq:Kih:=⟨⟩;exact Wy
end Go.Am.Ty
