/- Contracts of functions that the law reaches, and plain laws. Conditions: those that each contract states. -/
import Derived.Test.YtilpfkjhahnfaaaGreatP10
import Derived.Shelf.SlIter.Nil
import Derived.Shelf.SlIterI.Nil
import Derived.Shelf.SortM.Plain
import Derived.Shelf.SortM.SortNone
set_option maxHeartbeats 8000000
set_option linter.unusedVariables false
set_option linter.unusedSimpArgs false
variable {p:Prop}
set_option maxRecDepth 100000
namespace Go.Am.Ty
open Go.Proofs Go.Rose Go.Rose.Rose
def sE (p:Part):Nat:=(Vr p).toNat
theorem Qdn (p:Part):0≤Vr p:=by
 unfold Vr Zj9;repeat' split
 all_goals omega
theorem yZ (p:Part):Vr p=(sE p:Int):=by
 have:=Qdn p;unfold sE;omega
theorem Zee:∀ {l:List Part} {o k:Nat},1≤o→Sv sE l o=some k→dH l o=k
 | [],o+1,k,_,h=>by simp [Sv] at h
 | n::l,o+1,k,_,h=>by
  rw [Sv,Option.map_eq_some_iff] at h;obtain ⟨k',h1,rfl⟩:=h;have hm:=yZ n;have e:((o+1:Nat):Int)-1+Vr n=((o+sE n:Nat):Int):=by rw [hm];omega
  rw [dH,e];by_cases hz:o+sE n=0
  ·rw [if_pos (by omega)]
   rw [hz] at h1;cases l<;>(simp only [Sv,Zb] at h1;omega)
  ·rw [if_neg (by omega),Zee (by omega) h1]
   omega
theorem Zgx {t:List Part} {i:Nat} {x:Rose Part} (h:At sE t i x):dH (t.drop i) 1=(nds x).length:=Zee (o:=1) (Zr _) (vS h)
theorem Qkh {t:List Part} {i:Nat} {x:Rose Part} (h:At sE t i x):pX t i=((i+(nds x).length:Nat):Int):=by
 unfold pX;have:=h.lt;rw [if_neg (by omega),Zl,Zgx h]
 simp
def Tl:Nat→List (Rose Part)→List Int
 | _,[]=>[]
 | q,x::ks=>(q:Int)::Tl (q+(nds x).length) ks
theorem tH:∀ {q:Nat} {ks:List (Rose Part)},(Tl q ks).length=ks.length
 | _,[]=>rfl
 | q,x::ks=>by rw [Tl,Zi,tH,Zi]
theorem kZ {t:List Part}:∀ {ks:List (Rose Part)} {q:Nat},Zhi sE t q ks→Wb t ks.length q=Tl q ks
 | [],_,_=>rfl
 | x::ks,q,h=>by
  have hx:=h.head;rw [Zi,Wb,if_pos hx.1.lt,Zgx hx.1,Tl,kZ hx.2]
theorem Qg2 {t:List Part} {i:Nat} {x:Rose Part} (h:At sE t i x):Cb t i=Tl (i+1) x.kids:=by
 unfold Cb;have hl:=h.lt;have hk:=h.kids;have hm:=yZ (t.getD i e0);rw [if_neg (by omega)]
 simp only [Zl];rw [hm,h.root e0,Zl,←hk.2,kZ hk.1]
theorem qQ {t:List Part}:∀ {m q:Nat},(Wb t m q).length=m→(∀ j,q≤j→j<t.length→∃ z,At sE t j z)→q≤t.length→∃ ks:List (Rose Part),ks.length=m∧Zhi sE t q ks
 | 0,q,_,_,hq=>⟨[],rfl,trivial,t.drop q,by simp [ndss]⟩
 | m+1,q,h,hz,hq=>by
  rw [Wb] at h;by_cases Zv:q<t.length
  ·rw [if_pos Zv] at h;obtain ⟨x,hx⟩:=hz q (Zr _) Zv;rw [Zgx hx] at h;obtain ⟨ks,h1,h2,r,h3⟩:=qQ (m:=m) (q:=q+(nds x).length) (by simpa using h) (fun j hj=>hz j (by omega)) hx.le
   obtain ⟨h4,r',h5⟩:=hx;refine ⟨x::ks,by simp [h1],⟨h4,h2⟩,r,?_⟩
   rw [←List.drop_drop,h5,List.drop_left'] at h3
   ·rw [h5,h3,ndss,List.append_assoc]
   ·rfl
  ·rw [if_neg Zv] at h;simp at h
theorem dP {t:List Part} (h:∀ i,i<t.length→((Cb t i).length:Int)=Vr (t.getD i e0)):∀ (m i:Nat),t.length-i≤m→i<t.length→∃ z,At sE t i z
 | 0,i,hm,hi=>by omega
 | m+1,i,hm,hi=>by
  have h1:=h i hi;have Qjd:=yZ (t.getD i e0);unfold Cb at h1;rw [if_neg (by omega)] at h1
  simp only [Zl] at h1;rw [Qjd,Zl] at h1;obtain ⟨ks,k1,k2,r,k3⟩:=qQ (m:=sE (t.getD i e0)) (q:=i+1) (by omega) (fun j hj C6=>dP h m j (by omega) C6) (by omega)
  refine ⟨mk (t.getD i e0) ks,⟨k1,k2⟩,r,?_⟩;rw [List.drop_eq_getElem_cons hi,k3,Y2];simp [hi]
theorem wF {t:List Part} (h:Ke t=true):∃ x,t=nds x∧At sE t 0 x:=by
 unfold Ke at h;simp only [Zg,Bool.not_eq_true',Zj] at h;obtain ⟨h1,h2,⟨h3,h4⟩,h5⟩:=h;have Tz:0<t.length:=by
  rcases Nat.eq_zero_or_pos t.length with h0|h0
  ·exfalso;unfold M3 at h1;simp [h0] at h1
  ·exact h0
 have hk:∀ i,i<t.length→((Cb t i).length:Int)=Vr (t.getD i e0):=by
  intro i hi;have:=List.all_eq_true.1 h5 i (List.mem_range.2 hi);unfold Zkk at this;rw [Zg,Zj] at this;exact this.1
 obtain ⟨x,hx⟩:=dP hk t.length 0 (by omega) Tz
 have he':pX t 0=((0+(nds x).length:Nat):Int):=Qkh hx;rw [h3] at he';obtain ⟨hw,r,hr⟩:=id hx;refine ⟨x,?_,hx⟩;rw [List.drop_zero] at hr;have:=congrArg List.length hr;rw [Ze] at this;have Qv6:r=[]:=List.length_eq_zero_iff.1 (by omega)
 rw [hr,Qv6,List.append_nil]
instance:Inhabited Part:=⟨e0⟩
def nL (p:Part) (k:Nat) (b:List (List UInt8)):List (List UInt8) :=
 (if p.kind=2∨p.kind=8∨(p.kind=4∧k=1)∨(p.kind=5∧k=0) then b++[p.bind] else b)++(if p.kind=5 then [p.name] else [])
mutual
def freeT:Rose Part→List (List UInt8)→List (List UInt8)
 | mk p ks,b=>if p.kind=1∧in6 b p.name=false then [p.name] else freeTs p ks 0 b
def freeTs (p:Part):List (Rose Part)→Nat→List (List UInt8)→List (List UInt8)
 | [],_,_=>[]
 | x::xs,k,b=>freeT x (nL p k b)++freeTs p xs (k+1) b
end
theorem Qdg (p:Part) (k:Nat) (b:List (List UInt8)):(nL p k b).length≤b.length+2:=by
 unfold nL;split<;>split<;>simp
mutual
theorem freeT_len:∀ (x:Rose Part) (b:List (List UInt8)),(freeT x b).length≤(nds x).length
 | mk p ks,b=>by
  rw [freeT,Y2];split
  ·simp
  ·have:=freeTs_len p ks 0 b;simp only [Zi];omega
theorem freeTs_len (p:Part):∀ (xs:List (Rose Part)) (k:Nat) (b:List (List UInt8)),(freeTs p xs k b).length≤(ndss xs).length
 | [],_,_=>by simp [freeTs]
 | x::xs,k,b=>by
  have h1:=freeT_len x (nL p k b);have h2:=freeTs_len p xs (k+1) b;rw [freeTs,ndss,Ze,Ze];omega
end
open Enc (enc dec)
def pE:Con:=Jy (fun (l:Sl (List UInt8)) (_:List UInt8)=>l.l.length≤1000000) (fun l x=>in6 l.l x)
class KhF:Prop
theorem KhF.k (_:KhF) (h:p:=by
 first|exact ⟨k+1,by exact Qt,by omega,Eq.mpr hQ h2,by omega⟩|exact ⟨k+1,by exact Qt,by omega,fun m hm=>by have h3:=(Eq.mpr hQ h2:∀ j,j<k+1→(l.getD j []==s)=false) m hm;simpa using h3,by omega⟩|skip):p:=h
class KhE:Prop
theorem KhE.k (_:KhE) (h:p:=by
 refine Zm [4,6,7,8,9,10,11,12,13,14,15,16,17] (fun k:Nat=>[(5,.d (.int .i64 k))]) (fun k:Nat=>[]) (fun k:Nat=>k≤l.length∧∀ j,j<k→(l.getD j []==s)=false) (fun k:Nat=>l.length-k) 0 ?_ ?_ ?_
 ·simp
 ·exact Qt
 rintro k ⟨hk,Jl⟩;rcases Zn k l.length with ⟨Zv,Qk⟩|⟨Zv,Qk⟩
 ·have Qo:=Zp ([]:List UInt8) Zv;have Jg:(l.getD k []==s)=false→∀ j,j<k+1→(l.getD j []==s)=false:=fun h=>Vd Jl h;have L9:(l.getD k []==s)=true→R=true:=fun h=>by rw [←Zq];exact fF (p:=fun o=>o==s) [] k Zv h
  obtain ⟨Q,hQ⟩:=exq ((∀ j,j<k+1→(l.getD j []==s)=false));rw [hQ] at Jg;obtain ⟨y,hy⟩:=exq (l.getD k []);rw [hy] at Qo Jg L9;cases Qi:(y==s) with
  | true =>
   have hr:=L9 Qi;subst hr;exact N6
  | false =>
   have h2:=Jg Qi;have Kq:KhF:=⟨⟩;exact Jw
 ·have hr:R=false:=by rw [←Zq];exact Eb (p:=fun o=>o==s) [] fun j hj=>Jl j (by omega)
  subst hr;exact dL):p:=h
theorem good_inr5:Qc Tryz.prog (101,pE):=by
 obtain ⟨Kx,Kt,Kc,Kd,Kb,Ku,Kw,K,_⟩:=J7 Zx Zo [] false J5;have Ko:=pE.eq_def;refine J9 K Tryz.func101 [.tmp 4] rfl 18 rfl (fun c hc Ji Zh=>?_);unfold pE at Zh;obtain ⟨⟨l⟩,s,rfl,hl⟩:=Qf Zh;simp only at hl;clear Zh;obtain ⟨R,Qn⟩:=exq (in6 l s);have Zq:=Qn;unfold in6 at Zq;cases hc;have Kq:KhE:=⟨⟩;exact Jw
theorem yC:∀ {q k:Nat} {ks:List (Rose Part)},k<ks.length→(Tl q ks).getD k 0=((q+(ndss (ks.take k)).length:Nat):Int)
 | q,k,[],h=>by simp at h
 | q,0,x::ks,h=>by simp [Tl,ndss]
 | q,k+1,x::ks,h=>by
  have:=yC (q:=q+(nds x).length) (k:=k) (ks:=ks) (by simpa using h)
  rw [Tl,List.getD_cons_succ,this,List.take_succ_cons,ndss,Ze];omega
theorem Qbr {t:List Part}:∀ {xs:List (Rose Part)} {i j:Nat},Zhi sE t i xs→∀ h:j<xs.length,At sE t (i+(ndss (xs.take j)).length) xs[j]
 | [],i,j,_,h=>by simp at h
 | x::xs,i,0,ha,h=>by simpa [ndss] using ha.head.1
 | x::xs,i,j+1,ha,h=>by
  have:=Qbr (j:=j) ha.head.2 (by simpa using h)
  rw [List.take_succ_cons,ndss,Ze,←Nat.add_assoc];exact this
theorem Zdl:∀ {xs:List (Rose Part)},xs.length≤(ndss xs).length
 | []=>by simp [ndss]
 | x::xs=>by
  have h1:=Di x;have h2:=Zdl (xs:=xs);simp only [ndss,Ze,Zi];omega
theorem tV:∀ {xs:List (Rose Part)} {j:Nat} (h:j<xs.length),(nds xs[j]).length≤(ndss xs).length
 | x::xs,0,h=>by simp [ndss]
 | x::xs,j+1,h=>by
  have:=tV (xs:=xs) (j:=j) (by simpa using h)
  simp only [List.getElem_cons_succ,ndss,Ze];omega
theorem Zk9 {p:Part} {ks:List (Rose Part)} {k:Nat} {b:List (List UInt8)} (h:k<ks.length):freeTs p (ks.drop k) k b=freeT ks[k] (nL p k b)++freeTs p (ks.drop (k+1)) (k+1) b:=by
 rw [List.drop_eq_getElem_cons h,freeTs]
theorem lZ {b:List (List UInt8)} {x:List UInt8}:b.map (enc:List UInt8→D)++[.str x]=(b++[x]).map enc:=by rw [List.map_append];rfl
theorem Qsg {b c:List (List UInt8)}:b.map (enc:List UInt8→D)++c.map enc=(b++c).map enc:=by rw [List.map_append]
noncomputable def He (n:Nat):Con:=Um (fun (t:Sl Part) (i:Int) (b:Sl (List UInt8))=>uW t.l∧0≤i∧(∃ x,At sE t.l i.toNat x∧(nds x).length<n∧b.l.length+2*(nds x).length≤900000)) (fun t i b=>Sl.mk (freeT (Xa sE t.l i.toNat) b.l))
theorem zO:∀ c,¬ (He 0).pre c:=by
 intro c h;unfold He at h;obtain ⟨_,_,_,_,_,_,_,_,h,_⟩:=Vb h;omega
class KhG:Prop
theorem KhG.k (_:KhG) (h:p:=by
 repeat' first|exact M7|with_reducible apply Zw|intro _
 all_goals try contradiction
 refine Zm [11,33,34,35,36,37,38,39,40,41,42,43,44,45,46,47,48,49,50,51,52,53,54,55,56,57,58,59,60,61,62,63,64,65,66,67,68,69,70,71,72,73,74,75,76,77,78,79,80,81,82,83,84,85,86,87,88,89] (fun k:Nat=>[(8,.sl 29 (([]:List (List UInt8)).map (enc:List UInt8→D)).length),(10,.d (.int .i64 k))]) (fun k:Nat=>[(29,.row 1 (([]:List (List UInt8)).map enc) 0)]) (fun k:Nat=>k=0) (fun k:Nat=>0) 0 ?_ ?_ ?_
 ·rfl
 ·exact Qt
 rintro k rfl;exact N6):p:=h
class KhI:Prop
theorem KhI.k (_:KhI) (h:p:=by
 first|contradiction|exact hT|exact ⟨_,dM⟩|exact ⟨(k+1,out++F),by exact Qt,by simp only;omega,C5,by simp only;omega⟩|skip):p:=h
class KhJ:Prop
theorem KhJ.k (_:KhJ) (h:p:=by
 first|contradiction|exact hT|exact ⟨_,dM⟩|exact ⟨(k+1,out++F),by exact Qt,by simp only;omega,C5,by simp only;omega⟩|skip):p:=h
class KhK:Prop
theorem KhK.k (_:KhK) (h:p:=by
 first|contradiction|exact hT|exact ⟨_,dM⟩|exact ⟨(k+1,out++F),by exact Qt,by simp only;omega,C5,by simp only;omega⟩|skip):p:=h
class KhL:Prop
theorem KhL.k (_:KhL) (h:p:=by
 first|contradiction|exact hT|exact ⟨_,dM⟩|exact ⟨(k+1,out++F),by exact Qt,by simp only;omega,C5,by simp only;omega⟩|skip):p:=h
class KhM:Prop
theorem KhM.k (_:KhM) (h:p:=by
 first|contradiction|exact hT|exact ⟨_,dM⟩|exact ⟨(k+1,out++F),by exact Qt,by simp only;omega,C5,by simp only;omega⟩|skip):p:=h
class KhN:Prop
theorem KhN.k (_:KhN) (h:p:=by
 first|contradiction|exact hT|exact ⟨_,dM⟩|exact ⟨(k+1,out++F),by exact Qt,by simp only;omega,C5,by simp only;omega⟩|skip):p:=h
class KhO:Prop
theorem KhO.k (_:KhO) (h:p:=by
 first|contradiction|exact hT|exact ⟨_,dM⟩|exact ⟨(k+1,out++F),by exact Qt,by simp only;omega,C5,by simp only;omega⟩|skip):p:=h
class KhH:Prop
theorem KhH.k (_:KhH) (h:p:=by
 refine Zm [11,33,34,35,36,37,38,39,40,41,42,43,44,45,46,47,48,49,50,51,52,53,54,55,56,57,58,59,60,61,62,63,64,65,66,67,68,69,70,71,72,73,74,75,76,77,78,79,80,81,82,83,84,85,86,87,88,89] (fun p:Nat×List (List UInt8)=>[(8,.sl 29 (p.2.map (enc:List UInt8→D)).length),(10,.d (.int .i64 p.1))]) (fun p:Nat×List (List UInt8)=>[(29,.row 1 (p.2.map enc) 0)]) (fun p:Nat×List (List UInt8)=>p.1≤ks.length∧p.2++freeTs ⟨pk,pl,pn,pb,pm,pq,pt,pu⟩ (ks.drop p.1) p.1 b=R) (fun p:Nat×List (List UInt8)=>ks.length-p.1) (0,[]) ?_ ?_ ?_
 ·exact ⟨Nat.zero_le _,Zq⟩
 ·exact Qt
 rintro ⟨k,out⟩ ⟨Zba,C5⟩;simp only at Zba C5;rcases Zn k ks.length with ⟨Zv,Jh⟩|⟨Zv,Jh⟩
 rotate_left
 ·have Ni:k=ks.length:=by omega
  rw [Ni,List.drop_length,freeTs,List.append_nil] at C5;subst C5;exact N6
 have Qpv:=Qdg ⟨pk,pl,pn,pb,pm,pq,pt,pu⟩ k b;rw [Zk9 Zv,←List.append_assoc] at C5;have Qn3:=Qbr jV Zv;have mH:=yC (q:=i+1) Zv;rw [hl] at mH;have Z3:=Zp (0:Int) (show k<l.length by omega)
 rw [mH] at Z3;obtain ⟨c,Qu1⟩:∃ c:Nat,i+1+(ndss (ks.take k)).length=c:=⟨_,rfl⟩;rw [Qu1] at Qn3 Z3;have Z6:Xa sE t c=ks[k]:=Xz Qn3;have My:=tV Zv;have Qoo:=freeT_len ks[k] (nL ⟨pk,pl,pn,pb,pm,pq,pt,pu⟩ k b);have Zhr:=congrArg List.length C5;rw [Ze,Ze] at Zhr;obtain ⟨F,Z7⟩:=exq (freeT ks[k] (nL ⟨pk,pl,pn,pb,pm,pq,pt,pu⟩ k b));obtain ⟨B,hB⟩:=exq (nL ⟨pk,pl,pn,pb,pm,pq,pt,pu⟩ k b);rw [Z7] at C5 Qoo Zhr;rw [hB] at Z7 Qpv;have dM:At sE t c ks[k]∧(nds ks[k]).length<n∧B.length+2*(nds ks[k]).length≤900000:=⟨Qn3,by omega,by omega⟩
 have Qq:out.map (enc:List UInt8→D)++F.map enc=(out++F).map enc:=Qsg;have Zfc:=hB;unfold nL at Zfc;simp only at Zfc;by_cases h2:pk=2
 ·subst h2;rw [if_pos (Or.inl rfl),if_neg (by decide),List.append_nil] at Zfc
  have Qj:b.map (enc:List UInt8→D)++[.str pb]=B.map enc:=by rw [←Zfc];exact lZ
  have Kq:KhI:=⟨⟩;exact Jw
 by_cases h8:pk=8
 ·subst h8;rw [if_pos (Or.inr (Or.inl rfl)),if_neg (by decide),List.append_nil] at Zfc
  have Qj:b.map (enc:List UInt8→D)++[.str pb]=B.map enc:=by rw [←Zfc];exact lZ
  have Kq:KhJ:=⟨⟩;exact Jw
 have Qg:(pk==2)=false:=Za.2 h2;have Qr:(pk==8)=false:=Za.2 h8;by_cases h4:pk=4
 ·subst h4;by_cases Ze7:k=1
  ·rw [if_pos (Or.inr (Or.inr (Or.inl ⟨rfl,Ze7⟩))),if_neg (by decide),List.append_nil] at Zfc
   have Qj:b.map (enc:List UInt8→D)++[.str pb]=B.map enc:=by rw [←Zfc];exact lZ
   have Qx:((k:Int)==1)=true:=Zj.2 (by omega)
   have Kq:KhK:=⟨⟩;exact Jw
  ·rw [if_neg (by rintro (h|h|h|h)<;>simp_all),if_neg (by omega),List.append_nil] at Zfc
   subst Zfc;have Qx:((k:Int)==1)=false:=Za.2 (by omega)
   have Kq:KhL:=⟨⟩;exact Jw
 have Qw:(pk==4)=false:=Za.2 h4;by_cases h5:pk=5
 ·subst h5;by_cases kH:k=0
  ·rw [if_pos (Or.inr (Or.inr (Or.inr ⟨rfl,kH⟩))),if_pos rfl] at Zfc;have Qj:b.map (enc:List UInt8→D)++[.str pb]=(b++[pb]).map enc:=lZ;have Qm:(b++[pb]).map (enc:List UInt8→D)++[.str pn]=B.map enc:=by rw [←Zfc];exact lZ
   have Qx:((k:Int)==0)=true:=Zj.2 (by omega)
   have Kq:KhM:=⟨⟩;exact Jw
  ·rw [if_neg (by rintro (h|h|h|h)<;>simp_all),if_pos rfl] at Zfc
   have Qm:b.map (enc:List UInt8→D)++[.str pn]=B.map enc:=by rw [←Zfc];exact lZ
   have Qx:((k:Int)==0)=false:=Za.2 (by omega)
   have Kq:KhN:=⟨⟩;exact Jw
 have Q4:(pk==5)=false:=Za.2 h5;rw [if_neg (by rintro (h|h|h|h)<;>simp_all),if_neg (by omega),List.append_nil] at Zfc
 subst Zfc;have Kq:KhO:=⟨⟩;exact Jw):p:=h
theorem step_free5 (n:Nat) (ih:Qc Tryz.prog (57,He n)):Qc Tryz.prog (57,(He (n+1))):=by
 obtain ⟨Kx,Kt,Kc,Kd,Kb,Ku,Kw,K,X4,V2,Mo,_⟩:=J7 Zx Zo [] false (Q1 good_inr5 pE.eq_def (Q1 good_Kids5 O5.eq_def (Q1 ih (He.eq_def n) J5)));have Ko:=(He.eq_def (n+1));refine J9 K Tryz.func57 [.tmp 6] rfl 91 rfl (fun c hc Ji Zh=>?_);unfold He at Zh;obtain ⟨⟨t⟩,i,⟨b⟩,rfl,hT,Znb,⟨x,hx,hn,hb⟩⟩:=Vb Zh;simp only at hT hx hb;obtain ⟨i,rfl⟩:∃ k:Nat,i=k:=⟨i.toNat,by omega⟩
 rw [Zl] at hx;clear Zh;have Ai:=hx.lt;have Er:=hx.le;have Zm8:=hT.1;have Qk:=Zp e0 Ai;have hr:=hx.root e0;have Qn:Xa sE t i=x:=Xz hx;have Qv:=Qg2 hx;have jV:=hx.kids;obtain ⟨p,ks⟩:=x;rw [show (mk p ks).kids=ks from rfl] at Qv jV;have aK:=Zdl (xs:=ks);have Qwm:ks.length=sE p:=jV.2;replace jV:=jV.1;rw [show (mk p ks).root=p from rfl] at hr;rw [hr] at Qk;rw [Y2,Zi] at hn hb Er;obtain ⟨l,hl⟩:=exq (Tl (i+1) ks);rw [hl] at Qv;have Jb:l.length=ks.length:=by rw [←hl,tH]
 have fN:Za4 .i64 (i:Int):=by rw [Xt];omega
 obtain ⟨R,Ql⟩:=exq (freeT (mk p ks) b);have Zq:=Ql;rw [freeT] at Zq;obtain ⟨pk,pl,pn,pb,pm,pq,pt,pu⟩:=p;simp only at Zq;cases hc;refine W5 5 ?_;cases Qo:(pk==1&&!(in6 b pn)) with
 | true =>
  rw [Zg,Zj,Bool.not_eq_true'] at Qo;obtain ⟨rfl,Qo⟩:=Qo;rw [if_pos ⟨rfl,Qo⟩] at Zq;subst Zq;have Qi:((1:Int)==1)=true:=rfl;exact N6
 | false =>
 have Qtq:¬ (pk=1∧in6 b pn=false):=by
  rintro ⟨Qp,h2⟩;rw [Qp,h2] at Qo;cases Qo
 rw [if_neg Qtq] at Zq;have Q5:=freeTs_len ⟨pk,pl,pn,pb,pm,pq,pt,pu⟩ ks 0 b;rw [Zq] at Q5;have Q5:=freeTs_len ⟨pk,pl,pn,pb,pm,pq,pt,pu⟩ ks 0 b;cases Qp:(pk==1) with
 | true =>
  have Qi:in6 b pn=true:=by
   rw [Qp,Bool.true_and,Bool.not_eq_false'] at Qo;exact Qo
  obtain rfl:pk=1:=by simpa using Qp
  have hz:ks=[]:=by
   have:=Qwm;rw [show sE ⟨1,pl,pn,pb,pm,pq,pt,pu⟩=0 from rfl] at this;exact List.length_eq_zero_iff.1 this
  subst hz;have Quy:l=[]:=by rw [←hl];rfl
  subst Quy;have Jby:R=[]:=by rw [←Zq];rfl
  subst Jby;have Q3:Wd (0:Int) 0=false:=rfl;have Kq:KhG:=⟨⟩;exact Qxr
 | false =>
 have Kq:KhH:=⟨⟩;exact Jw
theorem tL:∀ n,Qc Tryz.prog (57,He n)
 | 0=>X1 (Jv Tryz.func57 (by kernel_rfl) rfl) zO
 | n+1=>step_free5 n (tL n)
def Zky (o:List (List UInt8)) (x:List UInt8):Bool:=match o.getLast? with
 | none=>true
 | some y=>Op.bytesLess y x
def Fn (o:List (List UInt8)) (s:List UInt8×Bool) (x:List UInt8):List UInt8×Bool:=if (Zky o x&&(!s.2||Op.bytesLess x s.1))=true then (x,true) else s
def dK (o l:List (List UInt8)):List UInt8×Bool:=l.foldl (Fn o) ([],false)
def Zxb (l:List (List UInt8)):Nat→List (List UInt8)→List (List UInt8)
 | 0,o=>o
 | f+1,o=>if (dK o l).2=true then Zxb l f (o++[(dK o l).1]) else o
def Qf5 (l:List (List UInt8)):List (List UInt8):=Zxb l (l.length+1) []
theorem Qke (x:List UInt8):Zky [] x=true:=rfl
theorem yL (o:List (List UInt8)) (y x:List UInt8):Zky (o++[y]) x=Op.bytesLess y x:=by
 unfold Zky;rw [List.getLast?_append];rfl
theorem mK (o:List (List UInt8)):∀ (l:List (List UInt8)) (s:List UInt8×Bool),(s.2=true→Zky o s.1=true) →
  ((l.foldl (Fn o) s).2=true→((l.foldl (Fn o) s).1∈l∨s=l.foldl (Fn o) s)∧Zky o (l.foldl (Fn o) s).1=true∧∀ y∈l,Zky o y=true→Op.bytesLess y (l.foldl (Fn o) s).1=false) ∧
  (s.2=true→(l.foldl (Fn o) s).2=true∧Op.bytesLess s.1 (l.foldl (Fn o) s).1=false) ∧
  ((l.foldl (Fn o) s).2=false→∀ y∈l,Zky o y=false)
 | [],s,h=>⟨fun h2=>⟨.inr rfl,h h2,fun y hy=>by cases hy⟩,fun h2=>⟨h2,Fy _⟩,fun _ y hy=>by cases hy⟩
 | x::l,s,h=>by
  have Jg:Fn o s x=if (Zky o x&&(!s.2||Op.bytesLess x s.1))=true then (x,true) else s:=rfl
  rw [List.foldl_cons];by_cases hc:(Zky o x&&(!s.2||Op.bytesLess x s.1))=true
  ·rw [if_pos hc] at Jg;rw [Jg];rw [Zg] at hc;obtain ⟨i1,i2,i3⟩:=mK o l (x,true) (fun _=>hc.1);obtain ⟨j1,j2⟩:=i2 rfl;simp only at j2;refine ⟨fun h2=>?_,fun h2=>⟨j1,?_⟩,fun h2=>by rw [j1] at h2;cases h2⟩
   ·obtain ⟨k1,k2,k3⟩:=i1 h2;refine ⟨.inl ?_,k2,fun y hy hg=>?_⟩
    ·rcases k1 with k1|k1
     ·exact List.mem_cons_of_mem _ k1
     ·rw [←k1];exact List.mem_cons_self
    ·rcases Zs.1 hy with rfl|hy
     ·exact j2
     ·exact k3 y hy hg
   ·have h3:Op.bytesLess x s.1=true:=by
     have:=hc.2;rw [h2] at this;simpa using this
    cases hb:Op.bytesLess s.1 (l.foldl (Fn o) (x,true)).1 with
    | false=>rfl
    | true =>
     have:=Oq h3 hb;rw [j2] at this;cases this
  ·rw [if_neg hc] at Jg;rw [Jg];obtain ⟨i1,i2,i3⟩:=mK o l s h;have hx:∀ (hg:Zky o x=true),s.2=true∧Op.bytesLess x s.1=false:=by
    intro hg;rw [hg,Bool.true_and] at hc;simpa using hc
   refine ⟨fun h2=>?_,i2,fun h2 y hy=>?_⟩
   ·obtain ⟨k1,k2,k3⟩:=i1 h2;refine ⟨?_,k2,fun y hy hg=>?_⟩
    ·rcases k1 with k1|k1
     ·exact .inl (List.mem_cons_of_mem _ k1)
     ·exact .inr k1
    ·rcases Zs.1 hy with rfl|hy
     ·obtain ⟨g1,g2⟩:=hx hg;obtain ⟨g3,g4⟩:=i2 g1;cases hb:Op.bytesLess y (l.foldl (Fn o) s).1 with
      | false=>rfl
      | true =>
       by_cases he:s.1=y
       ·rw [he] at g4;rw [hb] at g4;cases g4
       ·have:=Oq (rE he g2) hb;rw [g4] at this;cases this
     ·exact k3 y hy hg
   ·rcases Zs.1 hy with rfl|hy
    ·cases hg:Zky o y with
     | false=>rfl
     | true =>
      have:=(i2 (hx hg).1).1;rw [h2] at this;cases this
    ·exact i3 h2 y hy
theorem Zy6 {o l:List (List UInt8)} (h:(dK o l).2=true):(dK o l).1∈l∧Zky o (dK o l).1=true∧∀ y∈l,Zky o y=true→Op.bytesLess y (dK o l).1=false:=by
 obtain ⟨h1,h2,h3⟩:=(mK o l ([],false) (fun h=>by cases h)).1 h
 refine ⟨?_,h2,h3⟩;rcases h1 with h1|h1
 ·exact h1
 ·exfalso;have:(dK o l).2=false:=(congrArg Prod.snd h1).symm;rw [h] at this;cases this
def Qkq (o l:List (List UInt8)):Nat:=(l.filter (Zky o)).length
theorem Zd6 {p q:List UInt8→Bool}:∀ {l:List (List UInt8)} {b:List UInt8},(∀ x,p x=true→q x=true)→b∈l→q b=true→p b=false→(l.filter p).length<(l.filter q).length
 | [],b,_,h,_,_=>by cases h
 | x::l,b,hpq,hb,h1,h2=>by
  have Er:(l.filter p).length≤(l.filter q).length:=by
   clear hb
   induction l with
   | nil=>simp
   | cons y l ih =>
    rw [List.filter_cons,List.filter_cons];cases hp:p y with
    | true=>rw [hpq y hp];simpa using ih
    | false =>
     cases q y with
     | true=>simp only [if_true,Zi];simp only [Zu,if_false];omega
     | false=>simpa using ih
  rw [List.filter_cons,List.filter_cons];rcases Zs.1 hb with rfl|hb
  ·rw [h1,h2];simp only [Zu,if_false,if_true,Zi];omega
  ·have ih:=Zd6 (l:=l) hpq hb h1 h2;cases hp:p x with
   | true=>rw [hpq x hp];simpa using ih
   | false =>
    cases q x with
    | true=>simp only [Zu,if_false,if_true,Zi];omega
    | false=>simpa using ih
theorem Qko {o l:List (List UInt8)} (h:(dK o l).2=true):Qkq (o++[(dK o l).1]) l<Qkq o l:=by
 obtain ⟨h1,h2,h3⟩:=Zy6 h;refine Zd6 (fun x hx=>?_) h1 h2 ?_
 ·rw [yL] at hx;unfold Zky at h2 ⊢;cases ho:o.getLast? with
  | none=>rfl
  | some y =>
   rw [ho] at h2;exact Oq h2 hx
 ·rw [yL];exact Fy _
theorem Qkp {o l:List (List UInt8)}:Qkq o l≤l.length:=List.length_filter_le _ _
noncomputable def lT (t:List Part):List (List UInt8):=Qf5 (freeT (Xa sE t 0) [])
noncomputable def zP:Con:=He 10001
theorem Zk0:Qc Tryz.prog (57,zP):=tL _
def Qbw (t:List Part):Prop:=uW t∧∃ x,At sE t 0 x∧(nds x).length≤10000
noncomputable def iN:Con:=Xj (fun (t:Sl Part)=>Qbw t.l) (fun t=>Sl.mk (lT t.l))
class KhR:Prop
theorem KhR.k (_:KhR) (h:p:=by
 first|contradiction|exact ⟨(f,o++[best]),by exact Qt,by simp only;omega,by simp;omega,hs,by simp only;omega⟩|skip):p:=h
class KhS:Prop
theorem KhS.k (_:KhS) (h:p:=by
 first|contradiction|exact ⟨(i+1,x0,true),by exact Qt,by simp only;omega,Mp,by simp only;omega⟩|skip):p:=h
class KhT:Prop
theorem KhT.k (_:KhT) (h:p:=by
 first|contradiction|exact ⟨(i+1,x0,true),by exact Qt,by simp only;omega,Mp,by simp only;omega⟩|skip):p:=h
class KhU:Prop
theorem KhU.k (_:KhU) (h:p:=by
 first|contradiction|exact ⟨(i+1,best,true),by exact Qt,by simp only;omega,Mp,by simp only;omega⟩|skip):p:=h
class KhV:Prop
theorem KhV.k (_:KhV) (h:p:=by
 first|contradiction|exact ⟨(i+1,best,had),by exact Qt,by simp only;omega,Mp,by simp only;omega⟩|skip):p:=h
class KhW:Prop
theorem KhW.k (_:KhW) (h:p:=by
 first|contradiction|exact ⟨(i+1,x0,true),by exact Qt,by simp only;omega,Mp,by simp only;omega⟩|skip):p:=h
class KhX:Prop
theorem KhX.k (_:KhX) (h:p:=by
 first|contradiction|exact ⟨(i+1,x0,true),by exact Qt,by simp only;omega,Mp,by simp only;omega⟩|skip):p:=h
class KhY:Prop
theorem KhY.k (_:KhY) (h:p:=by
 first|contradiction|exact ⟨(i+1,best,true),by exact Qt,by simp only;omega,Mp,by simp only;omega⟩|skip):p:=h
class KhQ:Prop
theorem KhQ.k (_:KhQ) (h:p:=by
 refine Zm [11,12,13,14,15,16,17,18,19,20,21,22,23,24,25,26,27,28,29,30,31,32,33,34,35,36,37,38,39,40,41,42,43,44,45,46,47,48] (fun q:Nat×List UInt8×Bool=>[(5,.d (.str q.2.1)),(6,.d (.bool q.2.2)),(7,.d (.int .i64 q.1))]) (fun q:Nat×List UInt8×Bool=>[]) (fun q:Nat×List UInt8×Bool=>q.1≤l.length∧(l.drop q.1).foldl (Fn o) q.2=S) (fun q:Nat×List UInt8×Bool=>l.length-q.1) (0,[],false) ?_ ?_ ?_
 ·exact ⟨Nat.zero_le _,Qzq⟩
 ·exact Qt
 rintro ⟨i,best,had⟩ ⟨hi,Mp⟩;simp only at hi Mp;rcases Zn i l.length with ⟨Zv,Qi⟩|⟨Zv,Qi⟩
 rotate_left
 ·have Zna:i=l.length:=by omega
  rw [Zna,List.drop_length] at Mp;subst Mp;simp only [List.foldl_nil] at hs Zzu;cases had with
  | false =>
   simp only [Zu,if_false] at hs;subst hs;exact N6
  | true =>
   simp only [if_true] at hs;have Qje:=Zzu rfl;have Ql:o.map (enc:List UInt8→D)++[.str best]=(o++[best]).map enc:=lZ;have Kq:KhR:=⟨⟩;exact Jw
 have Qp:=Zp ([]:List UInt8) Zv;rw [List.drop_eq_getElem_cons Zv,List.foldl_cons,show l[i]=l.getD i [] by simp [Zv]] at Mp
 obtain ⟨x0,sI⟩:=exq (l.getD i []);rw [sI] at Qp Mp;obtain ⟨s',Zb5⟩:∃ s',Fn o (best,had) x0=s':=⟨_,rfl⟩;rw [Zb5] at Mp;unfold Fn at Zb5;simp only at Zb5;obtain ⟨lb,Qv⟩:=exq (Op.bytesLess x0 best);rw [Qv] at Zb5;rcases List.eq_nil_or_concat o with Ja2|⟨o',y,Zzr⟩
 ·subst Ja2;rw [Qke,Bool.true_and] at Zb5;have Q3:((0:Int)==0)=true:=rfl;cases had with
  | false =>
   rw [if_pos (by simp)] at Zb5
   subst Zb5;have Kq:KhS:=⟨⟩;exact Jw
  | true =>
   cases lb with
   | true =>
    rw [if_pos (by simp)] at Zb5
    subst Zb5;have Kq:KhT:=⟨⟩;exact Jw
   | false =>
    rw [if_neg (by simp)] at Zb5
    subst Zb5;have Kq:KhU:=⟨⟩;exact Jw
 ·rw [List.concat_eq_append] at Zzr;rw [show Zky o x0=Op.bytesLess y x0 by rw [Zzr,yL]] at Zb5
  have Zhr:o.length=o'.length+1:=by rw [Zzr];simp
  have Q3:((o.length:Int)==0)=false:=Za.2 (by omega)
  have Jh:el (o.map enc) o'.length=.str y:=by rw [Zzr];simp [el]
  have Jb:((o.length:Int)-1)=(o'.length:Int):=by omega
  have Z3:=less_not x0 y;obtain ⟨g,Jbh⟩:=exq (Op.bytesLess y x0);rw [Jbh] at Z3 Zb5;cases g with
  | false =>
   rw [if_neg (by simp)] at Zb5
   subst Zb5;have Kq:KhV:=⟨⟩;exact Jw
  | true =>
   cases had with
   | false =>
    rw [if_pos (by simp)] at Zb5
    subst Zb5;have Kq:KhW:=⟨⟩;exact Jw
   | true =>
    cases lb with
    | true =>
     rw [if_pos (by simp)] at Zb5
     subst Zb5;have Kq:KhX:=⟨⟩;exact Jw
    | false =>
     rw [if_neg (by simp)] at Zb5
     subst Zb5;have Kq:KhY:=⟨⟩;exact Jw):p:=h
class KhP:Prop
theorem KhP.k (_:KhP) (h:p:=by
 repeat' first|exact M7|with_reducible apply Zw|intro _
 all_goals first|exact Qpq|exact hT|omega|skip
 refine Zm [2,5,6,7,11,12,13,14,15,16,17,18,19,20,21,22,23,24,25,26,27,28,29,30,31,32,33,34,35,36,37,38,39,40,41,42,43,44,45,46,47,48,49,50,51,52,53,54,55] (fun p:Nat×List (List UInt8)=>[(4,.sl 10 (p.2.map (enc:List UInt8→D)).length)]) (fun p:Nat×List (List UInt8)=>[(10,.row 1 (p.2.map enc) 0)]) (fun p:Nat×List (List UInt8)=>Qkq p.2 l<p.1∧p.2.length+p.1≤l.length+1∧Zxb l p.1 p.2=R) (fun p:Nat×List (List UInt8)=>p.1) (l.length+1,[]) ?_ ?_ ?_
 ·exact ⟨by have:=Qkp (o:=[]) (l:=l);simp only;omega,by simp,Zq⟩
 ·exact Qt
 rintro ⟨f,o⟩ ⟨hc,ho,hs⟩;simp only at hc ho hs;obtain ⟨f,rfl⟩:∃ g,f=g+1:=⟨f-1,by omega⟩
 rw [Zxb] at hs;obtain ⟨S,hS⟩:=exq (dK o l);have Qzq:=hS;unfold dK at Qzq;have Zzu:=Qko (o:=o) (l:=l);rw [hS] at hs Zzu;have Kq:KhQ:=⟨⟩;exact Jw):p:=h
theorem good_Free5:Qc Tryz.prog (24,iN):=by
 obtain ⟨Kx,Kt,Kc,Kd,Kb,Ku,Kw,K,X4,_⟩:=J7 Zx Zo [] false (Q1 Zk0 zP.eq_def J5);have Ko:=iN.eq_def;refine J9 K Tryz.func24 [.tmp 2] rfl 56 rfl (fun c hc Ji Zh=>?_);unfold iN at Zh;obtain ⟨⟨t⟩,rfl,hT,x,hx,hn⟩:=Q8 Zh;simp only at hT hx;clear Zh;have Qk:Xa sE t 0=x:=Xz hx;obtain ⟨R,Qn⟩:=exq (lT t);have Zq:=Qn;unfold lT Qf5 at Zq;rw [Qk] at Zq;have Qoo:=freeT_len x [];obtain ⟨l,Qo⟩:=exq (freeT x []);rw [Qo] at Zq Qoo;have Qpq:(∃ x,At sE t (0:Int).toNat x∧(nds x).length<10001∧([]:List (List UInt8)).length+2*(nds x).length≤900000):=⟨x,hx,by omega,by simp;omega⟩
 cases hc;refine W5 3 ?_;have Z6:=@He.eq_def;have Kq:KhP:=⟨⟩;exact Qxr
theorem Zi9 {t:List Part} (h:Ke t=true):Qbw t:=by
 obtain ⟨x,hx,ha⟩:=wF h;unfold Ke at h;simp only [Zg,Bool.not_eq_true'] at h;obtain ⟨h1,h2,_⟩:=h;unfold M3 at h1;simp only [Bool.or_eq_false_iff,Q7] at h1;have hl:t.length≤10000:=by omega
 exact ⟨⟨by omega,fun n hn=>Zcl (List.all_eq_true.1 h2 n hn)⟩,x,ha,by rw [←hx];exact hl⟩
def mayB (env:List Bd) (s:List UInt8):Bool:=env.any fun b=>b.name==s
def pD:Con:=Jy (fun (env:Sl Bd) (_:List UInt8)=>env.l.length≤1000000000) (fun env s=>mayB env.l s)
class Kia:Prop
theorem Kia.k (_:Kia) (h:p:=by
 first|exact ⟨k+1,by exact Qt,by omega,Eq.mpr hQ h2,by omega⟩|exact ⟨k+1,by exact Qt,by omega,fun m hm=>by have h3:=(Eq.mpr hQ h2:∀ j,j<k+1→((l.getD j Qi8).name==s)=false) m hm;simpa using h3,by omega⟩|skip):p:=h
class KhZ:Prop
theorem KhZ.k (_:KhZ) (h:p:=by
 refine Zm [4,6,7,8,9,10,11,12,13,14,15,16,17,18] (fun k:Nat=>[(5,.d (.int .i64 k))]) (fun k:Nat=>[]) (fun k:Nat=>k≤l.length∧∀ j,j<k→((l.getD j Qi8).name==s)=false) (fun k:Nat=>l.length-k) 0 ?_ ?_ ?_
 ·simp
 ·exact Qt
 rintro k ⟨hk,Jl⟩;rcases Zn k l.length with ⟨Zv,Qk⟩|⟨Zv,Qk⟩
 ·have Qo:=Zp Qi8 Zv;have Jg:((l.getD k Qi8).name==s)=false→∀ j,j<k+1→((l.getD j Qi8).name==s)=false:=fun h=>Vd Jl h;have L9:((l.getD k Qi8).name==s)=true→R=true:=fun h=>by rw [←Zq];exact fF (p:=fun o=>o.name==s) Qi8 k Zv h
  obtain ⟨Q,hQ⟩:=exq ((∀ j,j<k+1→((l.getD j Qi8).name==s)=false));rw [hQ] at Jg;obtain ⟨⟨yn,yt⟩,hy⟩:=exq (l.getD k Qi8);rw [hy] at Qo Jg L9;simp only at Jg L9;cases Qi:(yn==s) with
  | true =>
   have hr:=L9 Qi;subst hr;have Ql:=@vM;have Qp:=@Ad;exact N6
  | false =>
   have h2:=Jg Qi;have Ql:=@vM;have Qp:=@Ad;have Kq:Kia:=⟨⟩;exact Jw
 ·have hr:R=false:=by rw [←Zq];exact Eb (p:=fun o=>o.name==s) Qi8 fun j hj=>Jl j (by omega)
  subst hr;have Ql:=@Ad;exact dL):p:=h
theorem good_may9:Qc Tryz.prog (56,pD):=by
 obtain ⟨Kx,Kt,Kc,Kd,Kb,Ku,Kw,K,_⟩:=J7 Zx Zo [] false J5;have Ko:=pD.eq_def;refine J9 K Tryz.func56 [.tmp 4] rfl 19 rfl (fun c hc Ji Zh=>?_);unfold pD at Zh;obtain ⟨⟨l⟩,s,rfl,hl⟩:=Qf Zh;simp only at hl;clear Zh;obtain ⟨R,Qn⟩:=exq (mayB l s);have Zq:=Qn;unfold mayB at Zq;cases hc;have Kq:KhZ:=⟨⟩;exact Jw
def Qjw (env:List Bd):List (List UInt8)→Option (List UInt8)
 | []=>none
 | s::r=>if mayB env s=true then Qjw env r else some s
def Qyl (l:List Mod6) (m d:Nat):Def6:=(l.getD m Je).defs.getD d Q6
noncomputable def Qc8 (l:List Mod6) (m:Nat):Nat→Nat→Option (Nat×List UInt8)
 | 0,_=>none
 | f+1,d=>match Qjw (Zys l m d) (lT (Qyl l m d).e) with
  | some s=>some (d,s)
  | none=>Qc8 l m f (d+1)
noncomputable def Qgs (l:List Mod6):Nat→Nat→Option (Nat×Nat×List UInt8)
 | 0,_=>none
 | f+1,m=>match Qc8 l m (l.getD m Je).defs.length 0 with
  | some (d,s)=>some (m,d,s)
  | none=>Qgs l f (m+1)
def Qcu:Option (Nat×Nat×List UInt8)→Int×Int×List UInt8×Int
 | some (m,d,s)=>(m,d,s,5)
 | none=>(0,0,[],0)
noncomputable def xM (l:List Mod6):Int×Int×List UInt8×Int:=Qcu (Qgs l l.length 0)
def kB {A R S T U:Type} [Enc A] [Enc R] [Enc S] [Enc T] [Enc U] (p:A→Prop) (f:A→R×S×T×U):Con:=⟨[false],[false,false,false,false],fun c=>match c with
 | [.d x]=>Ul A x∧p (dec x)
 | _=>False,fun c=>match c with
 | [.d x]=>.tup [.d (enc (f (dec x)).1),.d (enc (f (dec x)).2.1),.d (enc (f (dec x)).2.2.1),.d (enc (f (dec x)).2.2.2)]
 | _=>.d .nilp⟩
theorem Qel {A R S T U:Type} [Enc A] [Enc R] [Enc S] [Enc T] [Enc U] {p:A→Prop} {f:A→R×S×T×U} {c:List CV} (h:(kB p f).pre c):∃ a,c=[.d (enc a)]∧p a:=by
 unfold kB at h;simp only at h;split at h
 ·next x=>exact ⟨dec x,by rw [←h.1],h.2⟩
 ·exact h.elim
structure NamesOk (l:List Mod6):Prop where
 env:EnvOk l
 tree:∀ m∈l,∀ d∈m.defs,Qbw d.e
theorem Qhh {l:List Mod6} (h:EnvOk l) {m d:Int}:(Zys l m d).length≤100000000:=by
 unfold Zys;split
 ·simp
 rename_i hc;have Qpv:m.toNat<l.length:=by omega
 have Yn:l.getD m.toNat Je∈l:=by simp [Qpv]
 have h1:=h.imps _ Yn;have h2:=h.defs _ Yn;have h3:=Qa3 h (l.getD m.toNat Je).imps;unfold Qnf;rw [Ze,Zf,List.length_take];omega
theorem Zi4 {l:List (List UInt8)}:∀ (f:Nat) (o:List (List UInt8)),(Zxb l f o).length≤o.length+f
 | 0,o=>by simp [Zxb]
 | f+1,o=>by
  rw [Zxb];split
  ·have:=Zi4 (l:=l) f (o++[(dK o l).1]);rw [Ze] at this;simp only [Zi,List.length_nil] at this;omega
  ·omega
theorem Zyj {t:List Part} (h:Qbw t):(lT t).length≤10001:=by
 obtain ⟨_,x,hx,hn⟩:=h;unfold lT Qf5;rw [Xz hx];have h1:=Zi4 (l:=freeT x []) ((freeT x []).length+1) [];have h2:=freeT_len x [];simp only [List.length_nil] at h1;omega
noncomputable def cD:Con:=kB (fun (l:Sl Mod6)=>NamesOk l.l) (fun l=>xM l.l)
class Kid:Prop
theorem Kid.k (_:Kid) (h:p:=by
 first|exact ⟨m+1,by exact Qt,by omega,Qiz,by omega⟩|skip):p:=h
class Kif:Prop
theorem Kif.k (_:Kif) (h:p:=by
 first|exact ⟨d+1,by exact Qt,by omega,Qfm,by omega⟩|skip):p:=h
class Kig:Prop
theorem Kig.k (_:Kig) (h:p:=by
 first|contradiction|exact ⟨k+1,by exact Qt,by omega,Qfm,by omega⟩|skip):p:=h
class Kie:Prop
theorem Kie.k (_:Kie) (h:p:=by
 first|exact hE|exact hT|skip
 refine Zm [2,3,4,5,41,42,43,44,45,46,47,48,49,50,51,52,53,54,55,56,57,58,59] (fun k:Nat=>[(10,.d (.int .i64 k))]) (fun k:Nat=>[]) (fun k:Nat=>k≤F.length∧Qcu (match (match Qjw E (F.drop k) with|some s=>some (d,s)|none=>Qc8 l m (md.length-(d+1)) (d+1)) with|some (d,s)=>some (m,d,s)|none=>L)=R) (fun k:Nat=>F.length-k) 0 ?_ ?_ ?_
 ·exact ⟨Nat.zero_le _,Qiz⟩
 ·exact Qt
 rintro k ⟨hk,Qfm⟩;rcases Zn k F.length with ⟨R9,Q3⟩|⟨R9,Q3⟩
 rotate_left
 ·rw [List.drop_eq_nil_of_le R9] at Qfm;have Qfm:Qcu (match Qc8 l m (md.length-(d+1)) (d+1) with|some (d,s)=>some (m,d,s)|none=>L)=R:=Qfm
  have Kq:Kif:=⟨⟩;exact Jw
 have Jh:=Zp ([]:List UInt8) R9;rw [List.drop_eq_getElem_cons R9,show F[k]=F.getD k [] by simp [R9],Qjw] at Qfm
 obtain ⟨s,hs⟩:=exq (F.getD k []);rw [hs] at Jh Qfm;cases Jb:mayB E s with
 | true =>
  rw [Jb,if_pos rfl] at Qfm;have Z3:=@Ad;have Kq:Kig:=⟨⟩;exact Jw
 | false =>
  rw [Jb,if_neg (by simp)] at Qfm
  have Qfm:((m:Int),(d:Int),s,(5:Int))=R:=Qfm;subst Qfm;have Z3:=@kB.eq_def;have Z6:=@Ad;exact N6):p:=h
class Kic:Prop
theorem Kic.k (_:Kic) (h:p:=by
 refine Zm [2,3,4,5,8,9,10,17,18,19,20,21,22,23,24,25,26,27,28,29,30,31,32,33,34,35,36,37,38,39,40,41,42,43,44,45,46,47,48,49,50,51,52,53,54,55,56,57,58,59] (fun d:Nat=>[(7,.d (.int .i64 d))]) (fun d:Nat=>[]) (fun d:Nat=>d≤md.length∧Qcu (match Qc8 l m (md.length-d) d with|some (d,s)=>some (m,d,s)|none=>L)=R) (fun d:Nat=>md.length-d) 0 ?_ ?_ ?_
 ·exact ⟨Nat.zero_le _,Qk8⟩
 ·exact Qt
 rintro d ⟨hd,Qiz⟩;rcases Zn d md.length with ⟨Ki,Qn⟩|⟨Ki,Qn⟩
 rotate_left
 ·have hz:md.length-d=0:=by omega
  rw [hz] at Qiz;have Qiz:Qcu L=R:=Qiz;rw [←hL] at Qiz;have Kq:Kid:=⟨⟩;exact Jw
 have Ql:=Zp Q6 Ki;have Qp0:md.getD d Q6∈md:=by simp [Ki]
 have hT:=Zmr _ Qp0;have Qtn:md.length-d=(md.length-(d+1))+1:=by omega
 rw [Qtn,Qc8,Qw0] at Qiz;have aA:=Qhh hE (m:=(m:Int)) (d:=(d:Int));obtain ⟨E,Qp⟩:=exq (Zys l (m:Int) (d:Int));rw [Qp] at Qiz aA;obtain ⟨⟨dn,dt,de⟩,hD⟩:=exq (md.getD d Q6);rw [hD] at Ql hT Qiz;simp only at hT Qiz;have Qp4:=Zyj hT;obtain ⟨F,Qv⟩:=exq (lT de);rw [Qv] at Qiz Qp4;have Z3:=@Ad;have Kq:Kie:=⟨⟩;exact Jw):p:=h
class Kib:Prop
theorem Kib.k (_:Kib) (h:p:=by
 refine Zm [2,3,4,5,7,8,9,10,11,12,13,14,15,16,17,18,19,20,21,22,23,24,25,26,27,28,29,30,31,32,33,34,35,36,37,38,39,40,41,42,43,44,45,46,47,48,49,50,51,52,53,54,55,56,57,58,59] (fun m:Nat=>[(6,.d (.int .i64 m))]) (fun m:Nat=>[]) (fun m:Nat=>m≤l.length∧Qcu (Qgs l (l.length-m) m)=R) (fun m:Nat=>l.length-m) 0 ?_ ?_ ?_
 ·exact ⟨Nat.zero_le _,Zq⟩
 ·exact Qt
 rintro m ⟨hm,Qk8⟩;rcases Zn m l.length with ⟨Zv,Qk⟩|⟨Zv,Qk⟩
 rotate_left
 ·have hz:l.length-m=0:=by omega
  rw [hz] at Qk8;have Qk8:((0:Int),(0:Int),([]:List UInt8),(0:Int))=R:=Qk8;subst Qk8;have Z3:=@kB.eq_def;exact dL
 have Qi:=Zp Je Zv;have Yn:l.getD m Je∈l:=by simp [Zv]
 have fP:=hE.defs _ Yn;have Zmr:=hN.tree _ Yn;have Zhw:l.length-m=(l.length-(m+1))+1:=by omega
 rw [Zhw,Qgs] at Qk8;obtain ⟨L,hL⟩:=exq (Qgs l (l.length-(m+1)) (m+1));rw [hL] at Qk8;have Qw0:∀ d,Qyl l m d=(l.getD m Je).defs.getD d Q6:=fun d=>rfl;obtain ⟨M,hM⟩:=exq (l.getD m Je);rw [hM] at Qi fP Zmr Qk8 Qw0;obtain ⟨mn,mi,md,ms⟩:=M;simp only at fP Zmr Qk8 Qw0;have Kq:Kic:=⟨⟩;exact Jw):p:=h
theorem good_Names9:Qc Tryz.prog (23,cD):=by
 obtain ⟨Kx,Kt,Kc,Kd,Kb,Ku,Kw,K,X4,V2,Mo,_⟩:=J7 Zx Zo [] false (Q1 good_Env9 pL.eq_def (Q1 good_Free5 iN.eq_def (Q1 good_may9 pD.eq_def J5)));have Ko:=cD.eq_def;refine J9 K Tryz.func23 [.tmp 2,.tmp 3,.tmp 4,.tmp 5] rfl 60 rfl (fun c hc Ji Zh=>?_);unfold cD at Zh;obtain ⟨⟨l⟩,rfl,hN⟩:=Qel Zh;simp only at hN;clear Zh;have hE:=hN.env;have Q5:=hE.len;obtain ⟨R,Qo⟩:=exq (xM l);have Zq:=Qo;unfold xM at Zq;cases hc;refine W5 3 ?_;have Z3:=@kB.eq_def;have Kq:Kib:=⟨⟩;exact Jw
open Go.Proofs Go.Rose Go.Rose.Rose Gr
theorem Zy4 {m:Nat} {l:List Nat} (h:decide (∀ j,j<m→l[j]?=some (90000+j))=true):Qbn m l:=fun j hj=>of_decide_eq_true h j hj
open Go.Proofs Go.Shelf Go.RowKit
def Zcw:Ren:=⟨fun x=>if x=7 then 71 else if x=10 then 124 else x,fun x=>if x=3 then 4 else if x=23 then 105 else if x=26 then 3 else if x=27 then 108 else if x=28 then 109 else if x=33 then 155 else x,fun x=>x⟩
theorem Qvr : Bears Tryz.prog (Zcw.f 7) (SlBodyZ.n7 Zcw) := ⟨"maps.Keys[map[int]bool,int,bool]", by decide, by show Tryz.prog.funcs[71]? = _; rw [Tryz.func71]; kernel_rfl⟩
theorem Qsd : Bears Tryz.prog (Zcw.f 10) (SlBodyZ.n10 Zcw) := ⟨"maps.Keys[map[int]bool,int,bool]$1", by decide, by show Tryz.prog.funcs[124]? = _; rw [Tryz.func124]; kernel_rfl⟩
theorem Qsc:SlLaysZI.n7 Tryz.prog Zcw:=⟨by kernel_rfl,Qvr,Qsd,Tryz.underlying0,Tryz.isAgg0,Tryz.sizeOf0,Tryz.zeroValue0,Tryz.underlying4,Tryz.isAgg4,Tryz.sizeOf4,Tryz.zeroValue4,Tryz.underlying105,Tryz.isAgg105,Tryz.sizeOf105,Tryz.zeroValue105,Tryz.underlying3,Tryz.isAgg3,Tryz.sizeOf3,Tryz.zeroValue3,Tryz.underlying108,Tryz.isAgg108,Tryz.sizeOf108,Tryz.zeroValue108,Tryz.underlying109,Tryz.isAgg109,Tryz.sizeOf109,Tryz.zeroValue109,Tryz.underlying155,Tryz.isAgg155,Tryz.sizeOf155,Tryz.zeroValue155⟩
def tZ:Ren:=⟨fun x=>if x=6 then 70 else if x=8 then 122 else if x=9 then 123 else if x=11 then 167 else x,fun x=>if x=24 then 65 else if x=26 then 3 else if x=28 then 109 else if x=33 then 155 else x,fun x=>x⟩
theorem Qvn : Bears Tryz.prog (tZ.f 6) (SlBodyZ.n6 tZ) := ⟨"slices.Sorted[int]", by decide, by show Tryz.prog.funcs[70]? = _; rw [Tryz.func70]; kernel_rfl⟩
theorem Qvm : Bears Tryz.prog (tZ.f 8) (SlBodyZ.n8 tZ) := ⟨"slices.Collect[int]", by decide, by show Tryz.prog.funcs[122]? = _; rw [Tryz.func122]; kernel_rfl⟩
theorem Qrs : Bears Tryz.prog (tZ.f 11) (SlBodyZ.n11 tZ) := ⟨"slices.AppendSeq[[]int,int]", by decide, by show Tryz.prog.funcs[167]? = _; rw [Tryz.func167]; kernel_rfl⟩
theorem Qvl:SlLaysZI.n6 Tryz.prog tZ:=⟨by kernel_rfl,Qvn,Qvm,Qrs,Tryz.underlying0,Tryz.isAgg0,Tryz.sizeOf0,Tryz.zeroValue0,Tryz.underlying65,Tryz.isAgg65,Tryz.sizeOf65,Tryz.zeroValue65,Tryz.underlying3,Tryz.isAgg3,Tryz.sizeOf3,Tryz.zeroValue3,Tryz.underlying109,Tryz.isAgg109,Tryz.sizeOf109,Tryz.zeroValue109,by kernel_rfl⟩
def Wo:Ren:=⟨fun x=>if x=5 then 123 else if x=7 then 168 else if x=8 then 169 else if x=10 then 198 else if x=11 then 199 else if x=12 then 200 else if x=13 then 201 else if x=14 then 202 else if x=15 then 203 else if x=16 then 204 else if x=17 then 205 else if x=18 then 206 else if x=19 then 207 else if x=20 then 208 else if x=30 then 236 else if x=31 then 237 else if x=32 then 238 else if x=33 then 239 else if x=34 then 240 else if x=35 then 241 else if x=40 then 257 else x,fun x=>if x=22 then 65 else if x=23 then 65 else if x=25 then 3 else if x=32 then 196 else if x=35 then 213 else if x=36 then 214 else if x=41 then 184 else if x=44 then 220 else if x=46 then 222 else if x=53 then 239 else if x=57 then 243 else if x=63 then 256 else if x=64 then 257 else x,fun x=>x⟩
theorem Qvq : Bears Tryz.prog (Wo.f 5) (SlBodyM.n5 Wo) := ⟨"slices.Sort[[]int,int]", by decide, by show Tryz.prog.funcs[123]? = _; rw [Tryz.func123]; kernel_rfl⟩
theorem Qvp : Bears Tryz.prog (Wo.f 7) (SlBodyM.n7 Wo) := ⟨"slices.pdqsortOrdered[int]", by decide, by show Tryz.prog.funcs[168]? = _; rw [Tryz.func168]; kernel_rfl⟩
theorem Qvo:Tryz.prog.funcs[Wo.f 8]?=some (SlBodyM.n8 Wo):=by show Tryz.prog.funcs[169]?=_;rw [Tryz.func169];kernel_rfl
theorem Qsb : Bears Tryz.prog (Wo.f 10) (SlBodyM.n10 Wo) := ⟨"slices.insertionSortOrdered[int]", by decide, by show Tryz.prog.funcs[198]? = _; rw [Tryz.func198]; kernel_rfl⟩
theorem Qsa : Bears Tryz.prog (Wo.f 11) (SlBodyM.n11 Wo) := ⟨"slices.heapSortOrdered[int]", by decide, by show Tryz.prog.funcs[199]? = _; rw [Tryz.func199]; kernel_rfl⟩
theorem Qr9 : Bears Tryz.prog (Wo.f 12) (SlBodyM.n12 Wo) := ⟨"slices.breakPatternsOrdered[int]", by decide, by show Tryz.prog.funcs[200]? = _; rw [Tryz.func200]; kernel_rfl⟩
theorem Qr8 : Bears Tryz.prog (Wo.f 13) (SlBodyM.n13 Wo) := ⟨"slices.choosePivotOrdered[int]", by decide, by show Tryz.prog.funcs[201]? = _; rw [Tryz.func201]; kernel_rfl⟩
theorem Qr7 : Bears Tryz.prog (Wo.f 14) (SlBodyM.n14 Wo) := ⟨"slices.reverseRangeOrdered[int]", by decide, by show Tryz.prog.funcs[202]? = _; rw [Tryz.func202]; kernel_rfl⟩
theorem Qr6 : Bears Tryz.prog (Wo.f 15) (SlBodyM.n15 Wo) := ⟨"slices.partialInsertionSortOrdered[int]", by decide, by show Tryz.prog.funcs[203]? = _; rw [Tryz.func203]; kernel_rfl⟩
theorem Qr5 : Bears Tryz.prog (Wo.f 16) (SlBodyM.n16 Wo) := ⟨"cmp.Less[int]", by decide, by show Tryz.prog.funcs[204]? = _; rw [Tryz.func204]; kernel_rfl⟩
theorem Qr4 : Bears Tryz.prog (Wo.f 17) (SlBodyM.n17 Wo) := ⟨"slices.partitionEqualOrdered[int]", by decide, by show Tryz.prog.funcs[205]? = _; rw [Tryz.func205]; kernel_rfl⟩
theorem Qr3 : Bears Tryz.prog (Wo.f 18) (SlBodyM.n18 Wo) := ⟨"slices.partitionOrdered[int]", by decide, by show Tryz.prog.funcs[206]? = _; rw [Tryz.func206]; kernel_rfl⟩
theorem Qr2:Tryz.prog.funcs[Wo.f 19]?=some (SlBodyM.n19 Wo):=by show Tryz.prog.funcs[207]?=_;rw [Tryz.func207];kernel_rfl
theorem Qr1:Tryz.prog.funcs[Wo.f 20]?=some (SlBodyM.n20 Wo):=by show Tryz.prog.funcs[208]?=_;rw [Tryz.func208];kernel_rfl
theorem Qr0 : Bears Tryz.prog (Wo.f 30) (SlBodyM.n30 Wo) := ⟨"slices.siftDownOrdered[int]", by decide, by show Tryz.prog.funcs[236]? = _; rw [Tryz.func236]; kernel_rfl⟩
theorem Qrz:Tryz.prog.funcs[Wo.f 31]?=some (SlBodyM.n31 Wo):=by show Tryz.prog.funcs[237]?=_;rw [Tryz.func237];kernel_rfl
theorem Qry:Tryz.prog.funcs[Wo.f 32]?=some (SlBodyM.n32 Wo):=by show Tryz.prog.funcs[238]?=_;rw [Tryz.func238];kernel_rfl
theorem Qrx : Bears Tryz.prog (Wo.f 33) (SlBodyM.n33 Wo) := ⟨"slices.medianAdjacentOrdered[int]", by decide, by show Tryz.prog.funcs[239]? = _; rw [Tryz.func239]; kernel_rfl⟩
theorem Qrw : Bears Tryz.prog (Wo.f 34) (SlBodyM.n34 Wo) := ⟨"slices.medianOrdered[int]", by decide, by show Tryz.prog.funcs[240]? = _; rw [Tryz.func240]; kernel_rfl⟩
theorem Qrv : Bears Tryz.prog (Wo.f 35) (SlBodyM.n35 Wo) := ⟨"cmp.isNaN[int]", by decide, by show Tryz.prog.funcs[241]? = _; rw [Tryz.func241]; kernel_rfl⟩
theorem Qru : Bears Tryz.prog (Wo.f 40) (SlBodyM.n40 Wo) := ⟨"slices.order2Ordered[int]", by decide, by show Tryz.prog.funcs[257]? = _; rw [Tryz.func257]; kernel_rfl⟩
theorem Qrt:SlLaysM.n5 Tryz.prog Wo:=⟨by kernel_rfl,Qvq,Qvp,Qvo,Qsb,Qsa,Qr9,Qr8,Qr7,Qr6,Qr5,Qr4,Qr3,Qr2,Qr1,Qr0,Qrz,Qry,Qrx,Qrw,Qrv,Qru,Tryz.underlying0,Tryz.isAgg0,Tryz.sizeOf0,Tryz.zeroValue0,Tryz.underlying3,Tryz.isAgg3,Tryz.sizeOf3,Tryz.zeroValue3,Tryz.underlying4,Tryz.isAgg4,Tryz.sizeOf4,Tryz.zeroValue4,Tryz.underlying5,Tryz.isAgg5,Tryz.sizeOf5,Tryz.zeroValue5,Tryz.underlying9,Tryz.isAgg9,Tryz.sizeOf9,Tryz.zeroValue9,Tryz.underlying65,Tryz.isAgg65,Tryz.sizeOf65,Tryz.zeroValue65,Tryz.underlying65,Tryz.isAgg65,Tryz.sizeOf65,Tryz.zeroValue65,Tryz.underlying3,Tryz.isAgg3,Tryz.sizeOf3,Tryz.zeroValue3,Tryz.underlying196,Tryz.isAgg196,Tryz.sizeOf196,Tryz.zeroValue196,Tryz.underlying213,Tryz.isAgg213,Tryz.sizeOf213,Tryz.zeroValue213,Tryz.underlying214,Tryz.isAgg214,Tryz.sizeOf214,Tryz.zeroValue214,Tryz.underlying184,Tryz.isAgg184,Tryz.sizeOf184,Tryz.zeroValue184,Tryz.underlying220,Tryz.isAgg220,Tryz.sizeOf220,Tryz.zeroValue220,Tryz.underlying222,Tryz.isAgg222,Tryz.sizeOf222,Tryz.zeroValue222,Tryz.underlying239,Tryz.isAgg239,Tryz.sizeOf239,Tryz.zeroValue239,Tryz.underlying243,Tryz.isAgg243,Tryz.sizeOf243,Tryz.zeroValue243,Tryz.underlying256,Tryz.isAgg256,Tryz.sizeOf256,Tryz.zeroValue256,Tryz.underlying257,Tryz.isAgg257,Tryz.sizeOf257,Tryz.zeroValue257⟩
open Go.Proofs Go.Shelf Go.RowKit Go.Maps Go.Sort
theorem Qgc {w w':World} {m:Nat→Nat} {t n:Nat} {v:Value} {xs:List Value} {l:List D} (mG:w'.ownsRow w.heap.size t 1 v n xs) (hn:n=l.length) (hR:∀ F:Fix,RE F 1 l xs) (N5:∀ b,w.heap.size≤b→m b=0) (My:w.heap.size≤w'.heap.size) :
  ∃ m':Nat→Nat,(∀ b,b<w.heap.size→m' b=m b)∧(∀ b,w'.heap.size≤b→m' b=0)∧R ⟨w',m'⟩ (.list 1 l) v:=by
 subst hn;rcases mG.2 with ⟨rfl,h0⟩|⟨g,cap,uQ,rfl,hb,hg,h1,h2,h3,h4⟩
 ·have hl:l=[]:=List.eq_nil_of_length_eq_zero h0;subst hl;refine ⟨m,fun _ _=>rfl,fun b hb=>N5 b (by omega),?_⟩
  simp only [R];exact ⟨none,0,rfl,Zr _,Nat.zero_le _,by simp⟩
 ·have Qzh:g<w'.heap.size:=(Array.getElem?_eq_some_iff.1 hg).1;refine ⟨fun k=>if k=g then l.length else m k,fun b hb'=>?_,fun b hb'=>?_,?_⟩
  ·simp only [if_neg (show b≠g by omega)]
  ·simp only [if_neg (show b≠g by omega)]
   exact N5 b (by omega)
  ·simp only [R];refine ⟨_,cap,rfl,h1,h2,fun _=>⟨g,0,_,rfl,hR _,?_⟩⟩;have hl:=RE.length (hR ⟨w',m⟩);refine ⟨by simp [hl],fun j u hj=>?_⟩
   rw [Nat.zero_add];rw [←h4] at hj;rw [List.getElem?_take] at hj;split at hj
   ·simp only [World.cell?,hg];simpa using hj
   ·cases hj
structure MB where
 ks:List Int
 vs:List Bool
instance encMB:Enc MB:=⟨fun a=>.map (a.ks.map enc) (a.vs.map enc),fun x=>match x with
 | .map a b=>⟨a.map dec,b.map dec⟩
 | _=>⟨[],[]⟩,fun a=>by
  obtain ⟨k,v⟩:=a;simp only [List.map_map];have h1:(dec∘enc:Int→Int)=id:=funext fun x=>Enc.dec_enc x;have h2:(dec∘enc:Bool→Bool)=id:=funext fun x=>Enc.dec_enc x;rw [h1,h2,List.map_id,List.map_id]⟩
structure ItI where
 m:MB
instance encItI:Enc ItI:=⟨fun a=>.it 124 (a.m.ks.map enc) (a.m.vs.map enc),fun x=>match x with
 | .it _ a b=>⟨⟨a.map dec,b.map dec⟩⟩
 | _=>⟨⟨[],[]⟩⟩,fun a=>by
  obtain ⟨k,v⟩:=a;simp only [List.map_map];have h1:(dec∘enc:Int→Int)=id:=funext fun x=>Enc.dec_enc x;have h2:(dec∘enc:Bool→Bool)=id:=funext fun x=>Enc.dec_enc x;rw [h1,h2,List.map_id,List.map_id]⟩
theorem Qnb {ks:List Int} {vs:List Bool}:Ul MB (.map (ks.map enc) (vs.map enc))=True:=eq_true (Wc (⟨ks,vs⟩:MB))
theorem Qnk {ks:List Int} {vs:List Bool}:(dec (.map (ks.map enc) (vs.map enc)):MB)=⟨ks,vs⟩:=Enc.dec_enc (⟨ks,vs⟩:MB)
theorem Qbh {a:ItI}:(enc a:D)=.it 124 (a.m.ks.map enc) (a.m.vs.map enc):=rfl
theorem Qkb {ks:List Int} {vs:List Bool}:Ul ItI (.it 124 (ks.map enc) (vs.map enc))=True:=eq_true (Wc (⟨⟨ks,vs⟩⟩:ItI))
theorem Qkm {ks:List Int} {vs:List Bool}:(dec (.it 124 (ks.map enc) (vs.map enc)):ItI)=⟨⟨ks,vs⟩⟩:=Enc.dec_enc (⟨⟨ks,vs⟩⟩:ItI)
theorem Ql0 {F:Fix} {base:Nat} {pass:Nat→Prop} {x:D} {v:Value} (h:R F x v):Zm5 F base pass (.d x) v:=by
 simp only [Zm5,Uw,Ze1];refine ⟨⟨_,[],rfl,h,rfl⟩,fun k hk=>?_⟩;simp [Jc] at hk
theorem Qka {w:World} {m:Nat→Nat} {f t:Nat} {ks vs:List D} {v:Value} (hv:R ⟨w,m⟩ (.map ks vs) v) (N5:∀ b,w.heap.size≤b→m b=0) :
  ∃ m':Nat→Nat,(∀ b,b<w.heap.size→m' b=m b)∧(∀ b,(w.alloc (.cells #[v] t)).heap.size≤b→m' b=0)∧R ⟨w.alloc (.cells #[v] t),m'⟩ (.it f ks vs) (.func (.func f) #[] #[.pointer (some ⟨w.heap.size,0,none⟩)]):=by
 simp only [R] at hv;obtain ⟨b,es,c,rfl,h1,h2,h3,h4,h5⟩:=hv;have Qtu:b<w.heap.size:=(Array.getElem?_eq_some_iff.1 h1).1;have Er:Fix.le ⟨w,m⟩ ⟨w.alloc (.cells #[.map (some b)] t),fun k=>if k=w.heap.size then 1 else m k⟩:=by
  refine ⟨fun k=>?_,fun k es' c' hk Zba=>?_⟩
  ·by_cases hk:k=w.heap.size
   ·have h0:=N5 k (by omega)
    refine ⟨by simp only;rw [h0];exact Nat.zero_le _,fun off ho=>by simp only at ho;omega⟩
   ·refine ⟨by simp only [if_neg hk];exact Zr _,fun off ho=>?_⟩
    rcases Nat.lt_or_ge k w.heap.size with Zv|aY
    ·exact World.cell?_of_block (Below.heap_alloc _ _ k Zv)
    ·have:=N5 k aY;simp only at ho;omega
  ·have Zv:k<w.heap.size:=(Array.getElem?_eq_some_iff.1 Zba).1;exact (Below.heap_alloc _ _ k Zv).trans Zba
 refine ⟨fun k=>if k=w.heap.size then 1 else m k,fun k hk=>by simp only [if_neg (show k≠w.heap.size by omega)],fun k hk=>?_,?_⟩
 ·have hs:(w.alloc (.cells #[.map (some b)] t)).heap.size=w.heap.size+1:=by simp
  rw [hs] at hk;simp only [if_neg (show k≠w.heap.size by omega)]
  exact N5 k (by omega)
 ·simp only [R];refine ⟨w.heap.size,b,es,c,rfl,by simp,by simp,(Below.heap_alloc _ _ b Qtu).trans h1,?_,Rs.mono Er h3,Rs.mono Er h4,h5⟩
  simp only [if_neg (show b≠w.heap.size by omega)]
  exact h2
def Zej:Con:=Xj (fun (_:MB)=>True) (fun m=>ItI.mk m)
theorem Zyi:Qc Tryz.prog (71,Zej):=by
 refine ⟨Jv Tryz.func71 (by kernel_rfl) rfl,?_⟩
 intro m w Ji vs Zh Znc qF N5;obtain ⟨a,rfl,-⟩:=Q8 (id Zh:(Xj (fun (_:MB)=>True) (fun m=>ItI.mk m)).pre Ji);simp only [Uw,Ze1] at Znc;obtain ⟨v,r,rfl,hv,rfl⟩:=Znc;obtain ⟨m',q1,q2,q3⟩:=Qka (f:=124) (t:=105) (m:=m) hv N5;have hm:∃ b,v=.map (some b):=by
  have hv':=hv
  change R _ (.map _ _) _ at hv'
  simp only [R] at hv';obtain ⟨b,_,_,e,_⟩:=hv';exact ⟨b,e⟩
 obtain ⟨b,rfl⟩:=hm;have hk:=(callsIn_wide (n:=5)).1 (AnyZI.keys_in Qsc Fence.wide 5 trivial rfl (some b) w);refine Calls.mono hk ?_;rintro e w' ⟨rfl,rfl⟩;have hb:=(Below.refl w.heap.size w).alloc (Zr _) (.cells #[.map (some b)] 105);exact ⟨_,m',rfl,⟨hb.os,hb.tape,hb.output,hb.size,fun k hk _=>hb.block k hk⟩,fun b hb _=>q1 b hb,q2,by
  show Zm5 _ _ _ (.d (enc (ItI.mk (dec (enc a):MB)))) _;rw [Enc.dec_enc];exact Ql0 q3⟩
def dT (l:List Int):List Int:=l.mergeSort fun x y=>decide (x≤y)
def Zjv (_:Value):Option (DataW Unit×List MemPlace):=some (.nil,[])
theorem Zfz {F:Fix} {P:Program} {k:TypeId} {es:List MapEntry} {α:Type} {f:α→Value} {g:Lit→α} {ks:List α} (hk:es.map MapEntry.key=ks.map f) (hr:∀ x∈ks,∃ kl,keyOf P k (f x)=some kl∧g kl=x) :
  ((es.map (WideElems.rg P k Zjv)).map fun p=>g p.1)=ks:=by
 induction es generalizing ks with
 | nil=>cases ks with
  | nil=>rfl
  | cons x ks=>simp at hk
 | cons e es ih =>
  cases ks with
  | nil=>simp at hk
  | cons x ks =>
   simp only [List.map_cons,List.cons.injEq] at hk;obtain ⟨kl,h1,h2⟩:=hr x (List.mem_cons_self ..);have e1:WideElems.rg P k Zjv e=(kl,.nil):=by
    refine WideElems.rg_of ?_;obtain ⟨key,val,born⟩:=e;simp only at hk;rw [hk.1];exact WideElems.rd_mk (yv:=(.nil,[])) h1 rfl
   rw [List.map_cons,List.map_cons,e1,ih hk.2 fun y hy=>hr y (List.mem_cons_of_mem _ hy)];rw [←h2]
theorem Zlc {P:Program} {k:TypeId} {es:Array MapEntry} {c:Nat} {α:Type} {f:α→Value} {ks:List α} (My:es.size≤maxLen) (Jg:Go.MapKept.Stamped es c) (hk:es.toList.map MapEntry.key=ks.map f) (hr:∀ x∈ks,∃ kl,keyOf P k (f x)=some kl):WideElems.Fit P k Zjv es c:=by
 refine ⟨My,Jg,fun e he=>?_⟩;have h1:e.key∈ks.map f:=by rw [←hk];exact List.mem_map_of_mem he
 obtain ⟨x,hx,e1⟩:=List.mem_map.1 h1;obtain ⟨kl,h2⟩:=hr x hx;obtain ⟨key,val,born⟩:=e;simp only at e1;refine ⟨(kl,.nil),?_⟩;rw [←e1];exact WideElems.rd_mk (yv:=(.nil,[])) h2 rfl
theorem Qsk {F:Fix}:∀ {ks:List Int} {vs:List Value},Rs F (ks.map enc) vs→vs=ks.map Go.encZ
 | [],_,h=>by simpa [Rs] using h
 | k::ks,vs,h=>by
  simp only [List.map_cons,Rs] at h;obtain ⟨v,r,rfl,h1,h2⟩:=h;rw [List.map_cons,←Qsk h2];rw [show v=Go.encZ k from h1]
theorem Qsl {F:Fix}:∀ {ks:List Int},RE F 1 (ks.map enc) (ks.map Go.encZ)
 | []=>rfl
 | k::ks=>by
  simp only [List.map_cons,RE];refine ⟨Go.encZ k,ks.map Go.encZ,rfl,rfl,fun u hu=>?_,rfl,Qsl⟩;have:u=Go.encZ k:=by simpa [Value.cells,Go.encZ] using hu
  subst this;rfl
theorem Qm2 (m:Nat):AnyZI.SortsIn Tryz.prog tZ Fence.wide m :=
 ⟨fun blk off cap ss W hH Qw4 My=>callsIn_wide.2 (AnyM.slices_Sort_int Qrt blk off cap ss W hH Qw4 My),
  fun p cap W=>callsIn_wide.2 (AnyM.slices_Sort_int_none Qrt p cap W)⟩
def Ih:Con:=Xj (fun (a:ItI)=>a.m.ks.length≤1000000∧∀ s∈a.m.ks,0≤s∧s≤1000000) (fun a=>Sl.mk (dT a.m.ks))
theorem Zgl:Qc Tryz.prog (70,Ih):=by
 refine ⟨Jv Tryz.func70 (by kernel_rfl) rfl,?_⟩
 intro m w Ji vs Zh Znc qF N5
 change Con.pre Ih Ji at Zh
 unfold Ih at Zh;obtain ⟨⟨⟨ks,us⟩⟩,rfl,aK,jV⟩:=Q8 Zh;simp only at aK jV;simp only [Uw,Ze1] at Znc;obtain ⟨v,r,rfl,hv,rfl⟩:=Znc;rw [Qbh] at hv;simp only [R] at hv;obtain ⟨bm,b,es,c,rfl,a1,a2,h1,h2,h3,h4,h5⟩:=hv;have Qok:=Qsk h3;have Qb3:∀ x∈ks,∃ kl,keyOf Tryz.prog 3 (Go.encZ x)=some kl∧Go.intOf kl=x:=fun x hx=>by
  refine ⟨_,keyOf_int_mk Tryz.underlying3 ?_,rfl⟩;obtain ⟨g1,g2⟩:=jV x hx;have w1:IntKind.min .i64=-9223372036854775808:=by decide
  have w2:IntKind.max .i64=9223372036854775807:=by decide
  simp [Lit.wf,w1,w2];omega
 have Qfa:es.size=ks.length:=by
  have:=congrArg List.length Qok;simpa using this
 have Qtu:bm<w.heap.size:=by
  rcases Nat.lt_or_ge bm w.heap.size with h|h
  ·exact h
  ·have:=N5 bm h;omega
 have Zmu:w.ownsMap Tryz.prog 3 Zjv b es.size (.map ((es.toList.map (WideElems.rg Tryz.prog 3 Zjv)).foldr DataW.insert [])) :=
  ⟨es,c,h1,Zlc (by rw [Qfa];unfold maxLen;omega) h5 Qok (fun x hx=>(Qb3 x hx).imp fun kl h=>h.1),Zr _,rfl⟩
 have Qim:Maps.size (DataW.map ((es.toList.map (WideElems.rg Tryz.prog 3 Zjv)).foldr DataW.insert []))=ks.length:=by
  rw [size_eq,length_read,Qfa]
 have Qiq:(intKeys (DataW.map ((es.toList.map (WideElems.rg Tryz.prog 3 Zjv)).foldr DataW.insert []))).Perm ks:=by
  have:=Zfz (F:=⟨w,m⟩) (P:=Tryz.prog) (k:=3) (g:=Go.intOf) Qok Qb3;show (List.map (fun p:Lit×DataW Unit=>Go.intOf p.1) _).Perm ks;refine List.Perm.trans ?_ (List.Perm.of_eq this);exact (Go.WideShapes.sorted_perm _).map _
 obtain ⟨D0,Qxl⟩:∃ D0:DataW Unit,DataW.map ((es.toList.map (WideElems.rg Tryz.prog 3 Zjv)).foldr DataW.insert [])=D0:=⟨_,rfl⟩;rw [Qxl] at Zmu Qim Qiq;have Qv2:SeqGives Fence.wide 2 Tryz.prog 124 #[.pointer (some ⟨bm,0,none⟩)] Go.encZ (fun ss=>ss.Perm (intKeys D0)) (Maps.size D0) w :=
  AnyZI.keys_gives (ρ:=Zcw) { Qsc with } Fence.wide _ trivial rfl (by omega) bm b _ _ _ Qtu a1 Zmu
 have cS:=AnyZI.sorted_in Qvl Fence.wide 5 trivial trivial trivial trivial rfl (by omega) (Qm2 _) (Jv Tryz.func123 (by kernel_rfl) rfl) 124 #[.pointer (some ⟨bm,0,none⟩)] trivial (Jv Tryz.func124 (by kernel_rfl) rfl) _ _ (by rw [Qim];unfold maxLen;omega) (by rw [Qim];omega) _ Qv2
 refine Calls.mono (callsIn_wide.1 cS) ?_;rintro e w' ⟨v,ss,rfl,hp,mG,Qk6,hb⟩;have Zm9:(ss.mergeSort fun x y=>decide (x≤y))=dT ks:=mergeSort_of_perm_i (hp.trans Qiq);rw [Zm9] at mG;have Q5:ss.length=((dT ks).map (enc:Int→D)).length:=by
  rw [Zf];unfold dT;rw [List.length_mergeSort,(hp.trans Qiq).length_eq]
 obtain ⟨m',q1,q2,q3⟩:=Qgc (m:=m) mG Q5 (fun F=>Qsl) N5 hb.size;exact ⟨_,m',rfl,⟨hb.os,hb.tape,hb.output,hb.size,fun k hk _=>hb.block k hk⟩,fun b hb _=>q1 b hb,q2,by
  show Zm5 _ _ _ (.d (enc (Sl.mk (dT (dec (enc (ItI.mk ⟨ks,us⟩)):ItI).m.ks)))) _;rw [Enc.dec_enc];exact Ql0 q3⟩
structure NamesP (l:List Mod6):Prop where
 ok:NamesOk l
 dist:Qih l
 short:∀ m∈l,∀ d∈m.defs,∀ p∈d.e,p.name.length≤3000000
theorem Zya {l:List Mod6} (uF:l.length≤20) (hG:∀ m∈l,Good9 m) (hD:Qih l):NamesP l :=
 ⟨⟨Qg8 uF hG,fun m hm d hd=>Zi9 ((hG m hm).right d hd)⟩,hD,fun m hm d hd p hp=>(((hG m hm).fit d hd).fit p hp).2.2.2.1⟩
def rv (l:List Mod6) (j:Nat):List Mod6:=(l.drop j).reverse
noncomputable def I0 (t:Tx9) (most:Int):Sl Mod6×Int×Bool :=
 if (Wq t).2=false then (⟨[]⟩,0,false) else
  ((Dh (Wq t).1).1,(Dh (Wq t).1).2.1,((xM (Wq t).1).2.2.2==0)&&(((Dh (Wq t).1).2.2==0)&&Xp (Dh (Wq t).1).2.1 most))
noncomputable def cE:Con:=C3 (fun (_:Tx9) (_:Int)=>True) (fun t most=>I0 t most)
theorem Zk4:Qc Tryz.prog (28,cE):=by
 obtain ⟨Kx,Kt,Kc,Kd,Kb,Ku,Kw,K,X4,V2,Mo,_⟩:=J7 Zx Zo [] false (Q1 good_Program9 D5.eq_def (Q1 good_Names9 cD.eq_def (Q1 good_Number9 Il.eq_def J5)));have Ko:=cE.eq_def;refine J9 K Tryz.func28 [.tmp 4,.tmp 5,.tmp 6] rfl 49 rfl (fun c hc Ji Zh=>?_);unfold cE at Zh;obtain ⟨⟨names,texts⟩,most,rfl,-⟩:=mV Zh;clear Zh;have hg:=jP ⟨names,texts⟩;have ha:=xK (t:=⟨names,texts⟩);obtain ⟨R,Qo⟩:=exq (I0 ⟨names,texts⟩ most);have Zq:=Qo;unfold I0 at Zq;obtain ⟨⟨l,ok⟩,Qk⟩:=exq (Wq ⟨names,texts⟩);rw [Qk] at hg ha Zq;simp only at hg ha Zq;obtain ⟨uF,hG⟩:=hg;cases hc;refine W5 3 ?_;cases ok with
 | false =>
  rw [if_pos rfl] at Zq;subst Zq;have Qv:=@kB.eq_def;have Q3:=@Hu.eq_def;have Jh:=@Ui;have Jb:=@Uj;have Z3:=@Ug;exact N6
 | true =>
  rw [if_neg (by simp)] at Zq
  have hP:=Zya uF hG (ha rfl).1;have Jcs:=hP.ok;have hN:=Qg7 uF hG;clear hG;obtain ⟨⟨a,b,s,e⟩,Qi⟩:=exq (xM l);obtain ⟨⟨⟨P⟩,n,f⟩,Qn⟩:=exq (Dh l);rw [Qi,Qn] at Zq;simp only at Zq;cases Ql:(e==0) with
  | false =>
   rw [Ql,Bool.false_and] at Zq;subst Zq;have Qv:=@kB.eq_def;have Q3:=@Hu.eq_def;have Jh:=@Ui;have Jb:=@Uj;have Z3:=@Ug;exact N6
  | true =>
   rw [Ql,Bool.true_and] at Zq;cases Qp:(f==0) with
   | false =>
    rw [Qp,Bool.false_and] at Zq;subst Zq;have Qv:=@kB.eq_def;have Q3:=@Hu.eq_def;have Jh:=@Ui;have Jb:=@Uj;have Z3:=@Ug;exact N6
   | true =>
    rw [Qp,Bool.true_and] at Zq;subst Zq;have Qv:=@kB.eq_def;have Q3:=@Hu.eq_def;have Jh:=@Ui;have Jb:=@Uj;have Z3:=@Ug;exact N6
def fI (t:List Node):Prop:=∀ n∈t,n.kind≠8∧n.kind≠9
theorem V9:fI []:=fun _ h=>by cases h
theorem Zxo {a b:List Node} (ha:fI a) (hb:fI b):fI (a++b):=fun n hn=>by
 rcases List.mem_append.1 hn with h|h
 ·exact ha n h
 ·exact hb n h
theorem rW {k n:Int} {s:List UInt8} (h8:k≠8) (h9:k≠9):fI [⟨k,s,n⟩]:=fun m hm=>by
 rw [Zt] at hm;subst hm;exact ⟨h8,h9⟩
theorem Qgn {s:List UInt8} {t:List Node} (h:fI t):fI (named s t):=by
 cases t with
 | nil=>exact h
 | cons a t =>
  intro n hn;rcases Zs.1 hn with rfl|hn
  ·exact h a (List.mem_cons_self ..)
  ·exact h n (List.mem_cons_of_mem _ hn)
theorem Qrl {types:List (List Node)} (h:∀ t∈types,fI t) (k:Nat):fI (types.getD k []):=by
 rw [Zd];cases hk:types[k]? with
 | none=>exact V9
 | some x=>exact h x (List.mem_of_getElem? hk)
theorem Qah {labels:List (List UInt8)} {types:List (List Node)} (ht:∀ t∈types,fI t):∀ (k:Nat) (done:List UInt8) (out:List Node),fI out→fI (nZ labels types k done out).1
 | 0,_,_,h=>h
 | k+1,done,out,h=>by
  rw [nZ];split
  ·exact V9
  ·exact Qah ht k _ _ (Zxo h (Qgn (Qrl ht _)))
theorem Qjo {k:Int} {labels:List (List UInt8)} {types:List (List Node)} (ht:∀ t∈types,fI t):fI (jK k labels types).1:=by
 unfold jK;split
 ·exact V9
 rename_i hk;split
 ·exact V9
 exact Qah ht _ _ _ (rW (by omega) (by omega))
theorem xA {w:List Tok→St4→List Node×St4} {l:List Tok} (hw:∀ s,fI (w l s).1) {kind:Int} {bt fin:List UInt8}:∀ (f:Nat) (s:St4) (labels:List (List UInt8)) (types:List (List Node)),(∀ t∈types,fI t)→fI (Cv w l kind bt fin f s labels types).1
 | 0,_,_,_,_=>V9
 | f+1,s,labels,types,h2=>by
  have h4:∀ t∈types++[(w l (Vu l (Yv s) [58])).1],fI t:=fun x hx=>by
   rcases List.mem_append.1 hx with h|h
   ·exact h2 x h
   ·rw [Zt] at h;subst h;exact hw _
  rw [Cv];split
  ·exact V9
  split
  ·exact V9
  split
  ·exact V9
  split
  ·exact V9
  split
  ·exact Qjo h4
  ·exact xA hw f _ _ _ h4
theorem Qhs (t:Tok):kE t≤4:=by
 unfold kE;repeat' split
 all_goals omega
theorem Qgo {w:List Tok→St4→List Node×St4} {l:List Tok} (hw:∀ s,fI (w l s).1) {d:Nat} {s:St4}:fI (La w d l s).1:=by
 unfold La;split
 ·exact V9
 split
 ·exact V9
 split
 ·exact rW (by omega) (by omega)
 split
 ·have:=Qhs (tk l s.at_);exact rW (by omega) (by omega)
 split
 ·exact V9
 split
 ·exact V9
 split
 ·exact rW (by omega) (by omega)
 split
 ·exact xA hw _ _ _ _ (fun _ h=>by cases h)
 split
 ·exact xA hw _ _ _ _ (fun _ h=>by cases h)
 ·exact hw _
theorem rV {l:List Tok}:∀ (d:Nat) (s:St4),fI (Xo d l s).1
 | 0,_=>V9
 | d+1,s=>by
  have hA:=Qgo (w:=Xo d) (l:=l) (fun s=>rV d s) (d:=d) (s:=s);rw [Xo];split
  ·exact hA
  split
  ·exact V9
  ·have h5:fI [(⟨5,[],0⟩:Node)]:=rW (by omega) (by omega)
   exact Zxo h5 (Zxo hA (rV d _))
theorem Qgm (l:List Tok) (i site v:Int):fI (Vz l i site v).1:=by
 unfold Vz;split
 ·exact V9
 simp only;generalize (if (l.length:Int)<i then (l.length:Int) else i)=a
 split
 ·exact V9
 split
 ·exact V9
 split
 ·exact V9
 ·exact rV _ _
theorem Qc1 (l:List Tok) (s:St6) (v:Int):fI (Et l s v).1:=by
 unfold Et;split
 ·exact V9
 split
 ·exact V9
 ·exact Qgm _ _ _ _
theorem Qc3 (l:List Tok) (s:St6) (v:Int):fI (Kf l s v).1:=by
 unfold Kf;split
 ·exact V9
 split
 ·exact Qc1 _ _ _
 ·exact rW (by omega) (by omega)
theorem Qjp (l:List Tok) (s:St6) (had:List Def6):fI (uU l s had).1.t:=by
 unfold uU;simp only;split
 ·exact V9
 ·exact Qc3 _ _ _
theorem Zfy {l:List Tok}:∀ (f:Nat) (s:St6) (defs:List Def6) (pl:List Int),(∀ d∈defs,fI d.t)→∀ d∈(Zbr l f s defs pl).2.1,fI d.t
 | 0,_,_,_,h=>h
 | f+1,s,defs,pl,h=>by
  rw [Zbr];split
  ·exact h
  split
  ·exact h
  ·refine Zfy f _ _ _ fun d hd=>?_;rcases List.mem_append.1 hd with hd|hd
   ·exact h d hd
   ·rw [Zt] at hd;subst hd;exact Qjp _ _ _
theorem Zxn (l:List Tok) (name:List UInt8):∀ d∈(Y9 l name).1.defs,fI d.t:=by
 unfold Y9;simp only;split
 ·exact fun d hd=>(by cases hd)
 split
 ·exact Zfy _ _ _ _ fun d hd=>(by cases hd)
 ·exact Zfy _ _ _ _ fun d hd=>(by cases hd)
theorem Qc2 (name text:List UInt8):∀ d∈(Cx name text).1.defs,fI d.t:=by
 unfold Cx;simp only;split
 ·exact fun d hd=>(by cases hd)
 split
 ·exact fun d hd=>(by cases hd)
 split
 ·exact fun d hd=>(by cases hd)
 ·exact Zxn _ _
theorem Zji:∀ (ns ts:List (List UInt8)) (out:List Mod6),(∀ m∈out,∀ d∈m.defs,fI d.t)→∀ m∈(T7 ns ts out).1,∀ d∈m.defs,fI d.t
 | [],_,out,h=>by rw [T7];exact h;intro a b c d e;cases e
 | _::_,[],out,h=>by rw [T7];exact h;intro a b c d e f;cases f
 | n::ns,t::ts,out,h=>by
  rw [T7];split
  ·intro m hm;cases hm
  split
  ·intro m hm;cases hm
  refine Zji ns ts _ fun m hm=>?_;rcases List.mem_append.1 hm with hm|hm
  ·exact h m hm
  ·rw [Zt] at hm;subst hm;exact Qc2 _ _
theorem Qgl (t:Tx9):∀ m∈(Aq t).1,∀ d∈m.defs,fI d.t:=by
 unfold Aq;split
 ·intro m hm;cases hm
 ·exact Zji _ _ _ fun m hm=>(by cases hm)
theorem Zjj (t:Tx9):∀ m∈(Wq t).1,∀ d∈m.defs,fI d.t:=by
 have hG:=aU t;have uF:=hG.few.1;unfold Wq;split
 ·intro m hm;cases hm
 ·intro m hm;obtain ⟨x,hx,rfl⟩:=List.mem_map.1 hm;obtain ⟨k,rfl,hk⟩:=rB uF x hx;rw [Zl,Zd,Zk hk];exact Qgl t _ (List.getElem_mem hk)
def mJ (l:List Ch) (d:Def6):Def6:=⟨d.name,Sb l d.t,d.e.map (Ag l)⟩
def Zgy (l:List Ch) (m:Mod6):Mod6:=⟨m.name,m.imps,m.defs.mapIdx fun _=>mJ l,m.sites⟩
def Zls (l:List Ch) (p:List Mod6):List Mod6:=p.mapIdx fun _=>Zgy l
structure FillOk (p:List Mod6):Prop where
 len:p.length≤1000
 defs:∀ m∈p,m.defs.length≤1000
 t:∀ m∈p,∀ d∈m.defs,d.t.length≤200000
 e:∀ m∈p,∀ d∈m.defs,Zhf d.e
def Tu:Con:=Jy (fun (p:Sl Mod6) (l:Sl Ch)=>FillOk p.l∧Zmo l.l) (fun p l=>Sl.mk (Zls l.l p.l))
class Kii:Prop
theorem Kii.k (_:Kii) (h:p:=by
 first|rfl|trivial|(simp;done)|skip):p:=h
class Kik:Prop
theorem Kik.k (_:Kik) (h:p:=by
 first|exact ⟨k+1,by (have Vc:=qV;have Cs:=Jh;have Zm3:=Qlh;exact Qp8),by omega,by omega⟩|skip):p:=h
class Kil:Prop
theorem Kil.k (_:Kil) (h:p:=by
 first|exact hF|exact Qfn|exact ⟨d+1,by (have Vc:=Qx;exact Qt),by omega,by omega⟩|skip):p:=h
class Kij:Prop
theorem Kij.k (_:Kij) (h:p:=by
 refine Zm [25,26,27,28,29,30,31,32,33,34,35,36,37,38,39,40,41,42,43,44,45,46,47,48,49,50,51,52,53] (fun d:Nat=>[(8,.d (.int .i64 d))]) (fun d:Nat=>[(18,.row 3 ((Uv (fun _=>mJ l) md d).map enc) 0)]) (fun d:Nat=>d≤md.length) (fun d:Nat=>md.length-d) 0 ?_ ?_ ?_
 ·omega
 ·have Vc:=@V6;exact Qt
 rintro d hd;have Mq:=Kk (f:=fun _=>mJ l) (l:=md) d;rcases Zn d md.length with ⟨Ki,Jb⟩|⟨Ki,Jb⟩
 rotate_left
 ·have Zcb:d=md.length:=by omega
  have Zbc:Uv (fun _=>mJ l) md d=md.mapIdx fun _=>mJ l:=by rw [Zcb,V7]
  have qV:(P.map (enc:Mod6→D)).set k (.agg [.str mn,.list 1 (mi.map enc),.list 3 ((md.mapIdx fun _=>mJ l).map enc),.list 3 (ms.map enc)])=(Uv (fun _=>Zgy l) p (k+1)).map enc:=by
   rw [←C4,←X0];rfl
  have Qlh:k<(P.map (enc:Mod6→D)).length:=by omega
  have Z3:(md.mapIdx fun _=>mJ l).length=md.length:=by simp
  rw [Zbc];have Kq:Kik:=⟨⟩;exact Jw
 have Z6:=Zp Q6 (show d<(Uv (fun _=>mJ l) md d).length by omega)
 rw [Ms Q6 Ki] at Z6;have L7:=Kj Q6 Ki (f:=fun _=>mJ l);have Qp0:md.getD d Q6∈md:=by simp [Ki]
 have Qyy:=Zm8 _ Qp0;have Qfn:=aA _ Qp0;obtain ⟨x,hx⟩:=exq (md.getD d Q6);rw [hx] at Z6 L7 Qyy Qfn;obtain ⟨xn,xt,xe⟩:=x;simp only at Qyy Qfn;obtain ⟨Q,hQ⟩:=exq (Uv (fun _=>mJ l) md d);rw [hQ] at Z6 L7 Mq ⊢;have Z7:(Q.map (enc:Def6→D)).length=md.length:=by rw [Zf,Mq]
 obtain ⟨T2,Qq⟩:=exq (Sb l xt);obtain ⟨E2,Qj⟩:=exq (xe.map (Ag l));have Qx:(Q.map (enc:Def6→D)).set d (.agg [.str xn,enc (Sl.mk T2),enc (Sl.mk E2)])=(Uv (fun _=>mJ l) md (d+1)).map enc:=by
  rw [←L7];have:mJ l ⟨xn,xt,xe⟩=⟨xn,T2,E2⟩:=by unfold mJ;rw [Qq,Qj]
  rw [this];exact X0 (y:=(⟨xn,T2,E2⟩:Def6))
 have Kq:Kil:=⟨⟩;exact Jw):p:=h
class Kih:Prop
theorem Kih.k (_:Kih) (h:p:=by
 refine L5 [] 9 [7,8,12,13,14,15,16,17,18,19,20,21,22,23,24,25,26,27,28,29,30,31,32,33,34,35,36,37,38,39,40,41,42,43,44,45,46,47,48,49,50,51,52,53,54,55,56,57,58] (fun k:Nat=>[(6,.d (.int .i64 k))]) (fun k:Nat=>[(9,.row 4 ((Uv (fun _=>Zgy l) p k).map enc) k),(50009,.slot k 2)]) (fun k:Nat=>k≤p.length) (fun k:Nat=>p.length-k) 0 ?_ ?_ ?_
 ·omega
 ·show Wk _ _;have Vc:=@V6;exact Qt
 rintro k hk;have Zhp:=Kk (f:=fun _=>Zgy l) (l:=p) k;rcases Zn k p.length with ⟨Zv,Qo⟩|⟨Zv,Qo⟩
 rotate_left
 ·have Ni:k=p.length:=by omega
  rw [Ni];rw [Ni] at Qo;rw [V7,Zq];have Qi:(R.map (enc:Mod6→D)).length=p.length:=by rw [←Zq,Zf,List.length_mapIdx]
  have Qn:R.length=p.length:=by rw [←Zq,List.length_mapIdx]
  have Kq:Kii:=⟨⟩;exact Jw
 have Qp:=Zp Je Zv;have Qv:=Zp Je (show k<(Uv (fun _=>Zgy l) p k).length by omega)
 rw [Ms Je Zv] at Qv;have C4:=Kj Je Zv (f:=fun _=>Zgy l);have Yn:p.getD k Je∈p:=by simp [Zv]
 have fP:=hO.defs _ Yn;have Zm8:=hO.t _ Yn;have aA:=hO.e _ Yn;obtain ⟨m,hm⟩:=exq (p.getD k Je);rw [hm] at Qp Qv C4 fP Zm8 aA;obtain ⟨mn,mi,md,ms⟩:=m;simp only at fP Zm8 aA;obtain ⟨P,hP⟩:=exq (Uv (fun _=>Zgy l) p k);rw [hP] at Qv C4 Zhp ⊢;have Q3:(P.map (enc:Mod6→D)).length=p.length:=by rw [Zf,Zhp]
 have Jh:∀ X:D,((P.map (enc:Mod6→D)).set k X).length=p.length:=fun X=>by rw [List.length_set,Q3]
 have Kq:Kij:=⟨⟩;exact Jw):p:=h
theorem good_Program11:Qc Tryz.prog (32,Tu):=by
 obtain ⟨Kx,Kt,Kc,Kd,Kb,Ku,Kw,K,X4,V2,_⟩:=J7 Zx Zo [] false (Q1 good_Type11 Rw.eq_def (Q1 good_Expr11 cI.eq_def J5));have Ko:=Tu.eq_def;refine J9 K Tryz.func32 [.tmp 4] rfl 60 rfl (fun c hc Ji Zh=>?_);unfold Tu at Zh;obtain ⟨⟨p⟩,⟨l⟩,rfl,hO,hF⟩:=Qf Zh;simp only at hO hF;clear Zh;have qE:=hO.len;have Qk:(p.map (enc:Mod6→D)).length=p.length:=Zf ..;obtain ⟨R,Ql⟩:=exq (Zls l p);have Zq:=Ql;unfold Zls at Zq;cases hc;refine W5 3 ?_;have Kq:Kih:=⟨⟩;exact Jw
def Vw (p:Part):Part:=⟨p.kind,p.label,p.name,p.bind,p.many,p.num,[],[]⟩
def X2 (d:Def6):Def6:=⟨d.name,[],d.e.mapIdx fun _=>Vw⟩
def Vn (m:Mod6):Mod6:=⟨m.name,m.imps,m.defs.mapIdx fun _=>X2,m.sites⟩
def Y7 (p:List Mod6):List Mod6:=p.mapIdx fun _=>Vn
structure BareOk (p:List Mod6):Prop where
 len:p.length≤1000
 defs:∀ m∈p,m.defs.length≤1000
 e:∀ m∈p,∀ d∈m.defs,d.e.length≤1000000
def bU:Con:=Xj (fun (p:Sl Mod6)=>BareOk p.l) (fun p=>Sl.mk (Y7 p.l))
class Kin:Prop
theorem Kin.k (_:Kin) (h:p:=by
 first|rfl|trivial|(simp;done)|skip):p:=h
class Kip:Prop
theorem Kip.k (_:Kip) (h:p:=by
 first|exact ⟨k+1,by (have Vc:=qV;have Cs:=Jh;have Zm3:=Qlh;exact Qp8),by omega,by omega⟩|skip):p:=h
class Kir:Prop
theorem Kir.k (_:Kir) (h:p:=by
 first|exact ⟨d+1,by (have Vc:=Qm;exact Qt),by omega,by omega⟩|skip):p:=h
class Kis:Prop
theorem Kis.k (_:Kis) (h:p:=by
 first|exact ⟨j+1,by (have Vc:=Qm;have Cs:=r9b;exact Qt),by omega,by omega⟩|skip):p:=h
class Kiq:Prop
theorem Kiq.k (_:Kiq) (h:p:=by
 refine Zm [38,39,40,41,42,43,44,45,46,47,48,49,50,51] (fun j:Nat=>[(8,.d (.int .i64 j))]) (fun j:Nat=>[(31,.row 8 ((Uv (fun _=>Vw) xe j).map enc) 0)]) (fun j:Nat=>j≤xe.length) (fun j:Nat=>xe.length-j) 0 ?_ ?_ ?_
 ·omega
 ·have Vc:=@V6;exact Qt
 rintro j hj;have L8:=Kk (f:=fun _=>Vw) (l:=xe) j;rcases Zn j xe.length with ⟨Ka,Qj⟩|⟨Ka,Qj⟩
 rotate_left
 ·have wZ:j=xe.length:=by omega
  have Zbc:Uv (fun _=>Vw) xe j=xe.mapIdx fun _=>Vw:=by rw [wZ,V7]
  have Qx:(xe.mapIdx fun _=>Vw).length=xe.length:=by simp
  rw [Zbc];rw [wZ] at Qj;have Qm:(Q.map (enc:Def6→D)).set d (.agg [.str xn,.list 3 [],.list 8 ((xe.mapIdx fun _=>Vw).map enc)])=(Uv (fun _=>X2) md (d+1)).map enc:=by
   rw [←L7];exact X0 (y:=X2 ⟨xn,xt,xe⟩)
  obtain ⟨E2,Qfq⟩:=exq ((xe.mapIdx fun _=>Vw));rw [Qfq] at Qx Qm ⊢;have Kq:Kir:=⟨⟩;exact Jw
 have Qw:=Zp e0 (show j<(Uv (fun _=>Vw) xe j).length by omega)
 rw [Ms e0 Ka] at Qw;have R8:=Kj e0 Ka (f:=fun _=>Vw);obtain ⟨p0,Zzq⟩:=exq (xe.getD j e0);rw [Zzq] at Qw R8;obtain ⟨pk,pl,pn,pb,pm,pq,pt,pu⟩:=p0;obtain ⟨S,Qo3⟩:=exq (Uv (fun _=>Vw) xe j);rw [Qo3] at Qw R8 L8 ⊢;have Qg:(S.map (enc:Part→D)).length=xe.length:=by rw [Zf,L8]
 have Q4:(S.map (enc:Part→D)).set j (.agg [.int .i64 pk,.str pl,.str pn,.str pb,.int .i64 pm,.int .i64 pq,.list 3 [],.list 3 (pu.map enc)])=(S.set j ⟨pk,pl,pn,pb,pm,pq,[],pu⟩).map enc:=X0 (y:=(⟨pk,pl,pn,pb,pm,pq,[],pu⟩:Part));have Jf:el ((S.set j ⟨pk,pl,pn,pb,pm,pq,[],pu⟩).map (enc:Part→D)) j=.agg [.int .i64 pk,.str pl,.str pn,.str pb,.int .i64 pm,.int .i64 pq,.list 3 [],.list 3 (pu.map enc)]:=Br (by omega)
 have Qm:((S.set j ⟨pk,pl,pn,pb,pm,pq,[],pu⟩).map (enc:Part→D)).set j (.agg [.int .i64 pk,.str pl,.str pn,.str pb,.int .i64 pm,.int .i64 pq,.list 3 [],.list 3 []])=(Uv (fun _=>Vw) xe (j+1)).map enc:=by
  rw [←R8];refine Eq.trans (X0 (y:=Vw ⟨pk,pl,pn,pb,pm,pq,pt,pu⟩)) ?_;rw [List.set_set]
 have r9b:(S.map (enc:Part→D)).set j (.agg [.int .i64 pk,.str pl,.str pn,.str pb,.int .i64 pm,.int .i64 pq,.list 3 [],.list 3 []])=(Uv (fun _=>Vw) xe (j+1)).map enc:=by
  rw [←Qm,←X0,List.set_set]
 have Qr:((S.set j ⟨pk,pl,pn,pb,pm,pq,[],pu⟩).map (enc:Part→D)).length=xe.length:=by rw [Zf,List.length_set,L8]
 have Qfd:(S.set j ⟨pk,pl,pn,pb,pm,pq,[],pu⟩).length=xe.length:=by rw [List.length_set,L8]
 have Qw:el (S.map (enc:Part→D)) j=.agg [.int .i64 pk,.str pl,.str pn,.str pb,.int .i64 pm,.int .i64 pq,.list 3 (pt.map enc),.list 3 (pu.map enc)]:=Qw;have Kq:Kis:=⟨⟩;exact Jw):p:=h
class Kio:Prop
theorem Kio.k (_:Kio) (h:p:=by
 refine Zm [7,8,25,26,27,28,29,30,31,32,33,34,35,36,37,38,39,40,41,42,43,44,45,46,47,48,49,50,51,52,53,54,55,56,57,58,59,60,61] (fun d:Nat=>[(6,.d (.int .i64 d))]) (fun d:Nat=>[(18,.row 3 ((Uv (fun _=>X2) md d).map enc) 0)]) (fun d:Nat=>d≤md.length) (fun d:Nat=>md.length-d) 0 ?_ ?_ ?_
 ·omega
 ·have Vc:=@V6;exact Qt
 rintro d hd;have Mq:=Kk (f:=fun _=>X2) (l:=md) d;rcases Zn d md.length with ⟨Ki,Jb⟩|⟨Ki,Jb⟩
 rotate_left
 ·have Zcb:d=md.length:=by omega
  have Zbc:Uv (fun _=>X2) md d=md.mapIdx fun _=>X2:=by rw [Zcb,V7]
  have qV:(P.map (enc:Mod6→D)).set k (.agg [.str mn,.list 1 (mi.map enc),.list 3 ((md.mapIdx fun _=>X2).map enc),.list 3 (ms.map enc)])=(Uv (fun _=>Vn) p (k+1)).map enc:=by
   rw [←C4,←X0];rfl
  have Qlh:k<(P.map (enc:Mod6→D)).length:=by omega
  have Z3:(md.mapIdx fun _=>X2).length=md.length:=by simp
  rw [Zbc];have Kq:Kip:=⟨⟩;exact Jw
 have Z6:=Zp Q6 (show d<(Uv (fun _=>X2) md d).length by omega)
 rw [Ms Q6 Ki] at Z6;have L7:=Kj Q6 Ki (f:=fun _=>X2);have Qp0:md.getD d Q6∈md:=by simp [Ki]
 have Qfn:=aA _ Qp0;obtain ⟨x,hx⟩:=exq (md.getD d Q6);rw [hx] at Z6 L7 Qfn;obtain ⟨xn,xt,xe⟩:=x;simp only at Qfn;obtain ⟨Q,hQ⟩:=exq (Uv (fun _=>X2) md d);rw [hQ] at Z6 L7 Mq ⊢;have Z7:(Q.map (enc:Def6→D)).length=md.length:=by rw [Zf,Mq]
 have Qq:(xe.map (enc:Part→D)).length=xe.length:=Zf ..;have Kq:Kiq:=⟨⟩;exact Jw):p:=h
class Kim:Prop
theorem Kim.k (_:Kim) (h:p:=by
 refine L5 [] 9 [5,6,7,8,12,13,14,15,16,17,18,19,20,21,22,23,24,25,26,27,28,29,30,31,32,33,34,35,36,37,38,39,40,41,42,43,44,45,46,47,48,49,50,51,52,53,54,55,56,57,58,59,60,61,62,63,64,65,66] (fun k:Nat=>[(4,.d (.int .i64 k))]) (fun k:Nat=>[(9,.row 4 ((Uv (fun _=>Vn) p k).map enc) k),(50009,.slot k 2)]) (fun k:Nat=>k≤p.length) (fun k:Nat=>p.length-k) 0 ?_ ?_ ?_
 ·omega
 ·show Wk _ _;have Vc:=@V6;exact Qt
 rintro k hk;have Zhp:=Kk (f:=fun _=>Vn) (l:=p) k;rcases Zn k p.length with ⟨Zv,Qo⟩|⟨Zv,Qo⟩
 rotate_left
 ·have Ni:k=p.length:=by omega
  rw [Ni];rw [Ni] at Qo;rw [V7,Zq];have Qi:(R.map (enc:Mod6→D)).length=p.length:=by rw [←Zq,Zf,List.length_mapIdx]
  have Qn:R.length=p.length:=by rw [←Zq,List.length_mapIdx]
  have Kq:Kin:=⟨⟩;exact Jw
 have Qp:=Zp Je Zv;have Qv:=Zp Je (show k<(Uv (fun _=>Vn) p k).length by omega)
 rw [Ms Je Zv] at Qv;have C4:=Kj Je Zv (f:=fun _=>Vn);have Yn:p.getD k Je∈p:=by simp [Zv]
 have fP:=hO.defs _ Yn;have aA:=hO.e _ Yn;obtain ⟨m,hm⟩:=exq (p.getD k Je);rw [hm] at Qp Qv C4 fP aA;obtain ⟨mn,mi,md,ms⟩:=m;simp only at fP aA;obtain ⟨P,hP⟩:=exq (Uv (fun _=>Vn) p k);rw [hP] at Qv C4 Zhp ⊢;have Q3:(P.map (enc:Mod6→D)).length=p.length:=by rw [Zf,Zhp]
 have Jh:∀ X:D,((P.map (enc:Mod6→D)).set k X).length=p.length:=fun X=>by rw [List.length_set,Q3]
 have Kq:Kio:=⟨⟩;exact Jw):p:=h
theorem good_bare11:Qc Tryz.prog (84,bU):=by
 obtain ⟨Kx,Kt,Kc,Kd,Kb,Ku,Kw,K,_⟩:=J7 Zx Zo [] false J5;have Ko:=bU.eq_def;refine J9 K Tryz.func84 [.tmp 2] rfl 68 rfl (fun c hc Ji Zh=>?_);unfold bU at Zh;obtain ⟨⟨p⟩,rfl,hO⟩:=Q8 Zh;simp only at hO;clear Zh;have qE:=hO.len;have Qk:(p.map (enc:Mod6→D)).length=p.length:=Zf ..;obtain ⟨R,Ql⟩:=exq (Y7 p);have Zq:=Ql;unfold Y7 at Zq;cases hc;refine W5 4 ?_;have Kq:Kim:=⟨⟩;exact Jw
def Qfe (p:Part):List (Sl Node):=[⟨p.t⟩,⟨p.u⟩]
def Zz7 (d:Def6):List (Sl Node):=[⟨d.t⟩]++d.e.flatMap Qfe
def Qi5 (m:Mod6):List (Sl Node):=m.defs.flatMap Zz7
def De (p:List Mod6):List (Sl Node):=p.flatMap Qi5
theorem rT {α β:Type} {f:α→List β} {l:List α} {k:Nat} (d:α) (h:k<l.length):(l.take (k+1)).flatMap f=(l.take k).flatMap f++f (l.getD k d):=by
 rw [Y0 d h,List.flatMap_append];simp
theorem oL {α β:Type} {f:α→List β} {B:Nat}:∀ {l:List α} {n:Nat},(∀ x∈l,(f x).length≤B)→l.length≤n→(l.flatMap f).length≤n*B
 | [],n,_,_=>by simp
 | x::l,n,h,hn=>by
  obtain ⟨n,rfl⟩:∃ m,n=m+1:=⟨n-1,by simp at hn;omega⟩
  have h1:=h x (List.mem_cons_self ..);have h2:=oL (f:=f) (B:=B) (l:=l) (n:=n) (fun y hy=>h y (List.mem_cons_of_mem _ hy)) (by simpa using hn)
  rw [List.flatMap_cons,Ze,Nat.add_mul];omega
theorem rS {α β:Type} {f:α→List β} {B n:Nat} {l:List α} (h:∀ x∈l,(f x).length≤B) (hn:l.length≤n) (k:Nat):((l.take k).flatMap f).length≤n*B :=
 oL (fun x hx=>h x (List.mem_of_mem_take hx)) (by rw [List.length_take];omega)
theorem Qf0 {d:Def6} (h:d.e.length≤1000000):(Zz7 d).length≤2000001:=by
 have:=oL (f:=Qfe) (B:=2) (l:=d.e) (n:=1000000) (fun x _=>by simp [Qfe]) h
 unfold Zz7;rw [Ze];simp only [Zi,List.length_nil];omega
theorem Qfz {m:Mod6} (h:m.defs.length≤1000) (he:∀ d∈m.defs,d.e.length≤1000000):(Qi5 m).length≤2000001000:=by
 have:=oL (f:=Zz7) (B:=2000001) (l:=m.defs) (n:=1000) (fun x hx=>Qf0 (he x hx)) h;unfold Qi5;omega
theorem wD {p:List Mod6} (h:BareOk p):(De p).length≤2000001000000:=by
 have:=oL (f:=Qi5) (B:=2000001000) (l:=p) (n:=1000) (fun x hx=>Qfz (h.defs x hx) (h.e x hx)) h.len;unfold De;omega
def Zie (p:List Mod6) (k:Nat):List (Sl Node):=(p.take k).flatMap Qi5
def Zfh (A:List (Sl Node)) (ds:List Def6) (d:Nat):List (Sl Node):=A++(ds.take d).flatMap Zz7
def mR (C:List (Sl Node)) (e:List Part) (i:Nat):List (Sl Node):=C++(e.take i).flatMap Qfe
theorem Zib {p:List Mod6}:Zie p 0=[]:=by simp [Zie]
theorem Zil {A:List (Sl Node)} {ds:List Def6}:Zfh A ds 0=A:=by simp [Zfh]
theorem Zii {C:List (Sl Node)} {e:List Part}:mR C e 0=C:=by simp [mR]
theorem Zid {p:List Mod6}:Zie p p.length=De p:=by unfold Zie;rw [List.take_length];rfl
theorem Zin {A:List (Sl Node)} {ds:List Def6}:Zfh A ds ds.length=A++ds.flatMap Zz7:=by unfold Zfh;rw [List.take_length]
theorem Zik {C:List (Sl Node)} {e:List Part}:mR C e e.length=C++e.flatMap Qfe:=by unfold mR;rw [List.take_length]
theorem Zic {p:List Mod6} {k:Nat} (h:k<p.length):Zie p (k+1)=Zie p k++(p.getD k Je).defs.flatMap Zz7:=rT Je h
theorem Zim {A:List (Sl Node)} {ds:List Def6} {d:Nat} (h:d<ds.length):Zfh A ds (d+1)=(Zfh A ds d++[⟨(ds.getD d Q6).t⟩])++(ds.getD d Q6).e.flatMap Qfe:=by
 unfold Zfh;rw [rT Q6 h];unfold Zz7;simp only [List.append_assoc]
theorem Zij {C:List (Sl Node)} {e:List Part} {i:Nat} (h:i<e.length):mR C e (i+1)=(mR C e i++[⟨(e.getD i e0).t⟩])++[⟨(e.getD i e0).u⟩]:=by
 unfold mR;rw [rT e0 h];unfold Qfe;simp only [List.append_assoc];rfl
theorem Qfv {p:List Mod6} (h:BareOk p) (k:Nat):(Zie p k).length≤2000001000000:=by
 have:=rS (f:=Qi5) (B:=2000001000) (n:=1000) (fun x hx=>Qfz (h.defs x hx) (h.e x hx)) h.len k;unfold Zie;omega
theorem Qfx {A:List (Sl Node)} {ds:List Def6} (h:ds.length≤1000) (he:∀ d∈ds,d.e.length≤1000000) (d:Nat):(Zfh A ds d).length≤A.length+2000001000:=by
 have:=rS (f:=Zz7) (B:=2000001) (n:=1000) (fun x hx=>Qf0 (he x hx)) h d;unfold Zfh;rw [Ze];omega
theorem Qfw {C:List (Sl Node)} {e:List Part} (i:Nat):(mR C e i).length≤C.length+2*e.length:=by
 have:=rS (f:=Qfe) (B:=2) (n:=e.length) (l:=e) (fun x _=>by simp [Qfe]) (Zr _) i
 unfold mR;rw [Ze];omega
def Cg:Con:=Xj (fun (p:Sl Mod6)=>BareOk p.l) (fun p=>Sl.mk (De p.l))
class Kiu:Prop
theorem Kiu.k (_:Kiu) (h:p:=by
 first|rfl|trivial|(simp;done)|skip):p:=h
class Kiw:Prop
theorem Kiw.k (_:Kiw) (h:p:=by
 first|exact ⟨k+1,by exact Qt,by omega,by omega⟩|skip):p:=h
class Kiy:Prop
theorem Kiy.k (_:Kiy) (h:p:=by
 first|exact ⟨d+1,by exact Qt,by omega,by omega⟩|skip):p:=h
class Kiz:Prop
theorem Kiz.k (_:Kiz) (h:p:=by
 first|exact ⟨i+1,by rw [hG];(have Vc:=Qz3;have Cs:=Qz2;exact Qt),by omega,by omega⟩|skip):p:=h
class Kix:Prop
theorem Kix.k (_:Kix) (h:p:=by
 have Qpe:(B++[(⟨xt⟩:Sl Node)]).length≤3000000000001:=by rw [Ze];simp only [Zi,List.length_nil];omega
 have Qz8:(B++[(⟨xt⟩:Sl Node)]).map (enc:Sl Node→D)=B.map enc++[.list 3 (xt.map enc)]:=by rw [List.map_append];rfl
 have Qz7:(B++[(⟨xt⟩:Sl Node)]).length=B.length+1:=by simp
 obtain ⟨C,hC⟩:=exq (B++[(⟨xt⟩:Sl Node)]);rw [hC] at aX Qpe Qz8 Qz7;have Qpf:mR C xe 0=C:=Zii;refine Zm [36,37,38,39,40,41,42,43,44,45,46,47,48,49,50,51,52,53,54,55,56,57,58,59,60,61,62,63,64,65,66,67,68,69,70,71,72,73,74,75,76,77,78] (fun i:Nat=>[(3,.sl 7 ((mR C xe i).map (enc:Sl Node→D)).length),(6,.d (.int .i64 i))]) (fun i:Nat=>[(7,.row 1 ((mR C xe i).map enc) 0)]) (fun i:Nat=>i≤xe.length) (fun i:Nat=>xe.length-i) 0 ?_ ?_ ?_
 ·omega
 ·rw [Qpf];have Vc:=Qz8;have Cs:=Qz7;exact Qt
 rintro i hi;have Jcb:=Qfw (C:=C) (e:=xe) i;rcases Zn i xe.length with ⟨Zzv,Qp⟩|⟨Zzv,Qp⟩
 rotate_left
 ·have Zna:i=xe.length:=by omega
  rw [Zna,←aX];rw [Zna] at Qp;have Kq:Kiy:=⟨⟩;exact Jw
 have Qv:=Zp e0 Zzv;have Ze2:=Zij (C:=C) Zzv;obtain ⟨p0,Zzq⟩:=exq (xe.getD i e0);rw [Zzq] at Qv Ze2;obtain ⟨E,hE⟩:=exq (mR C xe i);rw [hE] at Ze2 Jcb ⊢;obtain ⟨pk,pl,pn,pb,pm,pq,pt,pu⟩:=p0;simp only at Ze2;have Qv:el (xe.map (enc:Part→D)) i=.agg [.int .i64 pk,.str pl,.str pn,.str pb,.int .i64 pm,.int .i64 pq,.list 3 (pt.map enc),.list 3 (pu.map enc)]:=Qv;have Qz2:(mR C xe (i+1)).length=E.length+2:=by rw [Ze2,Ze,Ze];rfl
 have Qz3:(mR C xe (i+1)).map (enc:Sl Node→D)=E.map enc++[.list 3 (pt.map enc),.list 3 (pu.map enc)]:=by rw [Ze2,List.map_append,List.map_append,List.append_assoc];rfl
 clear Ze2;obtain ⟨G,hG⟩:=exq (mR C xe (i+1));rw [hG] at Qz2 Qz3;have Kq:Kiz:=⟨⟩;exact Jw):p:=h
class Kiv:Prop
theorem Kiv.k (_:Kiv) (h:p:=by
 refine Zm [6,14,15,16,17,18,19,20,21,22,23,24,25,26,27,28,29,30,31,32,33,34,35,36,37,38,39,40,41,42,43,44,45,46,47,48,49,50,51,52,53,54,55,56,57,58,59,60,61,62,63,64,65,66,67,68,69,70,71,72,73,74,75,76,77,78] (fun d:Nat=>[(3,.sl 7 ((Zfh A md d).map (enc:Sl Node→D)).length),(5,.d (.int .i64 d))]) (fun d:Nat=>[(7,.row 1 ((Zfh A md d).map enc) 0)]) (fun d:Nat=>d≤md.length) (fun d:Nat=>md.length-d) 0 ?_ ?_ ?_
 ·omega
 ·rw [←Qxo];exact Qt
 rintro d hd;have Jcc:=Qfx (A:=A) fP aA d;rcases Zn d md.length with ⟨Ki,Qn⟩|⟨Ki,Qn⟩
 rotate_left
 ·have Zcb:d=md.length:=by omega
  rw [Zcb,←G9];rw [Zcb] at Qn;have Kq:Kiw:=⟨⟩;exact Jw
 have Ql:=Zp Q6 Ki;have aX:=Zim (A:=A) Ki;have Qfn:=aA _ (show md.getD d Q6∈md by simp [Ki])
 obtain ⟨x,hx⟩:=exq (md.getD d Q6);rw [hx] at Ql aX Qfn;obtain ⟨xn,xt,xe⟩:=x;simp only at Qfn aX;rw [←Zik] at aX;obtain ⟨B,hB⟩:=exq (Zfh A md d);rw [hB] at aX Jcc ⊢;have Kq:Kix:=⟨⟩;exact Jw):p:=h
class Kit:Prop
theorem Kit.k (_:Kit) (h:p:=by
 refine Zm [5,6,8,9,10,11,12,13,14,15,16,17,18,19,20,21,22,23,24,25,26,27,28,29,30,31,32,33,34,35,36,37,38,39,40,41,42,43,44,45,46,47,48,49,50,51,52,53,54,55,56,57,58,59,60,61,62,63,64,65,66,67,68,69,70,71,72,73,74,75,76,77,78] (fun k:Nat=>[(3,.sl 7 ((Zie p k).map (enc:Sl Node→D)).length),(4,.d (.int .i64 k))]) (fun k:Nat=>[(7,.row 1 ((Zie p k).map enc) 0)]) (fun k:Nat=>k≤p.length) (fun k:Nat=>p.length-k) 0 ?_ ?_ ?_
 ·omega
 ·have Vc:=@Zib;exact Qt
 rintro k hk;have Qu9:=Qfv hO k;rcases Zn k p.length with ⟨Zv,Qk⟩|⟨Zv,Qk⟩
 rotate_left
 ·have Ni:k=p.length:=by omega
  rw [Ni,Zq];rw [Ni] at Qk;have Kq:Kiu:=⟨⟩;exact Jw
 have Qi:=Zp Je Zv;have G9:=Zic Zv;have Yn:p.getD k Je∈p:=by simp [Zv]
 have fP:=hO.defs _ Yn;have aA:=hO.e _ Yn;obtain ⟨m,hm⟩:=exq (p.getD k Je);rw [hm] at Qi G9 fP aA;obtain ⟨mn,mi,md,ms⟩:=m;simp only at fP aA G9;rw [←Zin] at G9;obtain ⟨A,hA⟩:=exq (Zie p k);rw [hA] at G9 Qu9 ⊢;have Qxo:A=Zfh A md 0:=Zil.symm;have Kq:Kiv:=⟨⟩;exact Jw):p:=h
theorem good_types11:Qc Tryz.prog (72,Cg):=by
 obtain ⟨Kx,Kt,Kc,Kd,Kb,Ku,Kw,K,_⟩:=J7 Zx Zo [] false J5;have Ko:=Cg.eq_def;refine J9 K Tryz.func72 [.tmp 2] rfl 80 rfl (fun c hc Ji Zh=>?_);unfold Cg at Zh;obtain ⟨⟨p⟩,rfl,hO⟩:=Q8 Zh;simp only at hO;clear Zh;have qE:=hO.len;obtain ⟨R,Qo⟩:=exq (De p);have Zq:Zie p p.length=R:=by rw [Zid];exact Qo
 cases hc;refine W5 5 ?_;have Kq:Kit:=⟨⟩;exact Jw
def bestN (last b:Int) (n:Node):Int:=if n.kind=0∧last<n.n∧(b=0∨n.n<b) then n.n else b
def Ip (last b:Int) (t:List Node):Int:=t.foldl (bestN last) b
def Ry (last b:Int) (l:List (Sl Node)):Int:=l.foldl (fun b t=>Ip last b t.l) b
def Om (last:Int) (l:List (Sl Node)):Nat:=(l.map fun t=>t.l.countP fun n=>n.kind==0&&Wd last n.n).sum
def Zfq (l:List (Sl Node)):Nat→Int→List Int→List Int
 | 0,_,o=>o
 | f+1,last,o=>if Ry last 0 l=0 then o else Zfq l f (Ry last 0 l) (o++[Ry last 0 l])
def Fp (l:List (Sl Node)):List Int:=Zfq l (Om 0 l+1) 0 []
theorem bD {α β:Type} {f:β→α→β} {b:β} {l:List α} {k:Nat} (d:α) (h:k<l.length):(l.take (k+1)).foldl f b=f ((l.take k).foldl f b) (l.getD k d):=by
 rw [Y0 d h,List.foldl_append];rfl
structure Best (last b0:Int) (P:Int→Prop) (b:Int):Prop where
 is:b=b0∨(P b∧last<b)
 le:∀ x,P x→last<x→b≠0∧b≤x
 had:b0≠0→b≠0∧b≤b0
theorem Zak {last:Int} (hl:0≤last):∀ {t:List Node} {b0:Int},Best last b0 (fun x=>∃ n∈t,n.kind=0∧n.n=x) (Ip last b0 t)
 | [],b0=>⟨.inl rfl,fun x ⟨n,hn,_⟩=>(by cases hn),fun h=>⟨h,Int.le_refl _⟩⟩
 | n::t,b0=>by
  obtain ⟨h1,h2,h3⟩:=Zak hl (t:=t) (b0:=bestN last b0 n);have e:Ip last b0 (n::t)=Ip last (bestN last b0 n) t:=rfl;rw [e];obtain ⟨B,hB⟩:=exq (Ip last (bestN last b0 n) t);rw [hB] at h1 h2 h3 ⊢;unfold bestN at h1 h3;by_cases hc:n.kind=0∧last<n.n∧(b0=0∨n.n<b0)
  ·rw [if_pos hc] at h1 h3;obtain ⟨c1,c2,c3⟩:=hc;have h3:=h3 (by omega)
   refine ⟨.inr ?_,fun x hx Qpw=>?_,fun h0=>?_⟩
   ·rcases h1 with h1|⟨⟨m,hm,e1,e2⟩,h4⟩
    ·exact ⟨⟨n,List.mem_cons_self ..,c1,h1.symm⟩,by omega⟩
    ·exact ⟨⟨m,List.mem_cons_of_mem _ hm,e1,e2⟩,h4⟩
   ·obtain ⟨m,hm,e1,e2⟩:=hx;rcases Zs.1 hm with rfl|hm
    ·exact ⟨h3.1,by omega⟩
    ·exact h2 x ⟨m,hm,e1,e2⟩ Qpw
   ·exact ⟨h3.1,by omega⟩
  ·rw [if_neg hc] at h1 h3;refine ⟨?_,fun x hx Qpw=>?_,h3⟩
   ·rcases h1 with h1|⟨⟨m,hm,e1,e2⟩,h4⟩
    ·exact .inl h1
    ·exact .inr ⟨⟨m,List.mem_cons_of_mem _ hm,e1,e2⟩,h4⟩
   ·obtain ⟨m,hm,e1,e2⟩:=hx;rcases Zs.1 hm with rfl|hm
    ·have hb:b0≠0∧b0≤x:=by
      refine ⟨fun h=>hc ⟨e1,by omega,.inl h⟩,?_⟩
      refine Classical.byContradiction fun h=>hc ⟨e1,by omega,.inr (by omega)⟩
     have:=h3 hb.1;exact ⟨this.1,by omega⟩
    ·exact h2 x ⟨m,hm,e1,e2⟩ Qpw
theorem mA {last:Int} (hl:0≤last):∀ {l:List (Sl Node)} {b0:Int},Best last b0 (fun x=>∃ t∈l,∃ n∈t.l,n.kind=0∧n.n=x) (Ry last b0 l)
 | [],b0=>⟨.inl rfl,fun x ⟨n,hn,_⟩=>(by cases hn),fun h=>⟨h,Int.le_refl _⟩⟩
 | t::l,b0=>by
  obtain ⟨h1,h2,h3⟩:=mA hl (l:=l) (b0:=Ip last b0 t.l);obtain ⟨g1,g2,g3⟩:=Zak hl (t:=t.l) (b0:=b0);have e:Ry last b0 (t::l)=Ry last (Ip last b0 t.l) l:=rfl;rw [e];obtain ⟨C,hC⟩:=exq (Ip last b0 t.l);rw [hC] at h1 h2 h3 g1 g2 g3 ⊢;obtain ⟨B,hB⟩:=exq (Ry last C l);rw [hB] at h1 h2 h3 ⊢;refine ⟨?_,fun x hx Qpw=>?_,fun h0=>?_⟩
  ·rcases h1 with h1|⟨⟨u,hu,hx⟩,h4⟩
   ·rcases g1 with g1|⟨hx,g4⟩
    ·exact .inl (by omega)
    ·exact .inr ⟨⟨t,List.mem_cons_self ..,by rw [h1];exact hx⟩,by omega⟩
   ·exact .inr ⟨⟨u,List.mem_cons_of_mem _ hu,hx⟩,h4⟩
  ·obtain ⟨u,hu,hx⟩:=hx;rcases Zs.1 hu with rfl|hu
   ·have a:=g2 x hx Qpw;have b:=h3 a.1;exact ⟨b.1,by omega⟩
   ·exact h2 x ⟨u,hu,hx⟩ Qpw
  ·have a:=g3 h0;have b:=h3 a.1;exact ⟨b.1,by omega⟩
theorem Zj1 {l:List (Sl Node)} {last b:Int} (hb:last<b) (h:∃ t∈l,∃ n∈t.l,n.kind=0∧n.n=b):Om b l<Om last l:=by
 have Er:∀ {l:List (Sl Node)},Om b l≤Om last l:=by
  intro l
  induction l with
  | nil=>exact Zr _
  | cons t l ih =>
   unfold Om at ih ⊢;simp only [List.map_cons,List.sum_cons];have:(t.l.countP fun n=>n.kind==0&&Wd b n.n)≤t.l.countP fun n=>n.kind==0&&Wd last n.n :=
    List.countP_mono_left fun n _ hn=>by
     simp only [Zg,Jj] at hn ⊢;exact ⟨hn.1,by omega⟩
   omega
 obtain ⟨t,ht,n,hn,hk,Quv⟩:=h
 induction l with
 | nil=>cases ht
 | cons u l ih =>
  have h1:(u.l.countP fun n=>n.kind==0&&Wd b n.n)≤u.l.countP fun n=>n.kind==0&&Wd last n.n :=
   List.countP_mono_left fun n _ hn=>by
    simp only [Zg,Jj] at hn ⊢;exact ⟨hn.1,by omega⟩
  rcases Zs.1 ht with rfl|ht
  ·have h2:(t.l.countP fun n=>n.kind==0&&Wd b n.n)<t.l.countP fun n=>n.kind==0&&Wd last n.n:=by
    clear h1 ih;obtain ⟨tl⟩:=t;simp only at hn ⊢
    induction tl with
    | nil=>cases hn
    | cons m tl ih =>
     have g1:(tl.countP fun n=>n.kind==0&&Wd b n.n)≤tl.countP fun n=>n.kind==0&&Wd last n.n :=
      List.countP_mono_left fun n _ hn=>by
       simp only [Zg,Jj] at hn ⊢;exact ⟨hn.1,by omega⟩
     rw [List.countP_cons,List.countP_cons];rcases Zs.1 hn with rfl|hn
     ·have a:(n.kind==0&&Wd b n.n)=false:=by
       rw [Bool.and_eq_false_iff];right;rw [Q7];omega
      have c:(n.kind==0&&Wd last n.n)=true:=by
       rw [Zg];exact ⟨by simp [hk],by rw [Jj];omega⟩
      rw [a,c];simp;omega
     ·have:=ih hn (List.mem_cons_self ..);have h9:(if (m.kind==0&&Wd b m.n)=true then 1 else 0)≤if (m.kind==0&&Wd last m.n)=true then 1 else 0:=by
       split
       ·rename_i hh;rw [if_pos]
        ·exact Zr _
        ·simp only [Zg,Jj] at hh ⊢;exact ⟨hh.1,by omega⟩
       ·exact Nat.zero_le _
      omega
   have:=Er (l:=l);unfold Om at this ⊢;simp only [List.map_cons,List.sum_cons];omega
  ·have:=ih ht;unfold Om at this ⊢;simp only [List.map_cons,List.sum_cons];omega
theorem Zcr {l:List (Sl Node)}:∀ (f:Nat) (last:Int) (o:List Int),Om last l<f→0≤last→o.Pairwise (fun a b=>a<b)→(∀ x∈o,x≤last)→(∀ x,x∈o↔0<x∧x≤last∧∃ t∈l,∃ n∈t.l,n.kind=0∧n.n=x) →
  (Zfq l f last o).Pairwise (fun a b=>a<b)∧∀ x,x∈Zfq l f last o↔0<x∧∃ t∈l,∃ n∈t.l,n.kind=0∧n.n=x
 | 0,_,_,h,_,_,_,_=>by omega
 | f+1,last,o,hf,hl,hp,Er,hm=>by
  obtain ⟨h1,h2,_⟩:=mA hl (l:=l) (b0:=0);rw [Zfq];obtain ⟨b,hb⟩:=exq (Ry last 0 l);rw [hb] at h1 h2 ⊢;by_cases h0:b=0
  ·rw [if_pos h0];refine ⟨hp,fun x=>⟨fun hx=>⟨((hm x).1 hx).1,((hm x).1 hx).2.2⟩,fun hx=>(hm x).2 ⟨hx.1,?_,hx.2⟩⟩⟩;refine Classical.byContradiction fun hn=>?_;exact (h2 x hx.2 (by omega)).1 h0
  ·rw [if_neg h0];have h1:(∃ t∈l,∃ n∈t.l,n.kind=0∧n.n=b)∧last<b:=h1.resolve_left h0;have Zv:=Zj1 h1.2 h1.1;refine Zcr f b (o++[b]) (by omega) (by omega) ?_ ?_ ?_
   ·rw [List.pairwise_append];exact ⟨hp,by simp,fun x hx y hy=>by rw [Zt] at hy;have:=Er x hx;omega⟩
   ·intro x hx;rcases List.mem_append.1 hx with hx|hx
    ·have:=Er x hx;omega
    ·rw [Zt] at hx;omega
   ·intro x;rw [List.mem_append,Zt,hm];constructor
    ·rintro (⟨a,c,d⟩|rfl)
     ·exact ⟨a,by omega,d⟩
     ·exact ⟨by omega,Int.le_refl _,h1.1⟩
    ·rintro ⟨a,c,d⟩;by_cases hx:x≤last
     ·exact .inl ⟨a,hx,d⟩
     ·have:=(h2 x d (by omega)).2
      exact .inr (by omega)
theorem Zi1 (l:List (Sl Node)):(Fp l).Pairwise (fun a b=>a<b)∧∀ x,x∈Fp l↔0<x∧∃ t∈l,∃ n∈t.l,n.kind=0∧n.n=x :=
 Zcr _ 0 [] (by omega) (Int.le_refl _) List.Pairwise.nil (fun x hx=>by cases hx) fun x=>⟨fun h=>(by cases h),fun h=>(by omega)⟩
structure SitesP (p:List Mod6):Prop where
 bare:BareOk p
 len:∀ t∈De p,t.l.length≤1000000000
 low:∀ t∈De p,∀ n∈t.l,n.kind=0→n.n≤1000000
def Ii:Con:=Xj (fun (p:Sl Mod6)=>SitesP p.l) (fun p=>Sl.mk (Fp (De p.l)))
class KiC:Prop
theorem KiC.k (_:KiC) (h:p:=by
 first|rfl|trivial|(simp;done)|skip):p:=h
class KiD:Prop
theorem KiD.k (_:KiD) (h:p:=by
 first|exact ⟨(Z,o++[Z]),by (have Vc:=vB;have Cs:=Qil;exact Qt),Qma,Qwg,Jaf,Eq.mpr hQ Zzw,by simp only;omega⟩|skip):p:=h
class KiF:Prop
theorem KiF.k (_:KiF) (h:p:=by
 first|exact ⟨i+1,by exact Qt,by omega,by omega⟩|skip):p:=h
class KiG:Prop
theorem KiG.k (_:KiG) (h:p:=by
 first|exact ⟨k+1,by (have Vc:=Jg;exact Qt),by omega,by omega⟩|skip):p:=h
class KiH:Prop
theorem KiH.k (_:KiH) (h:p:=by
 first|exact ⟨k+1,by (have Vc:=Jg;exact Qt),by omega,by omega⟩|skip):p:=h
class KiI:Prop
theorem KiI.k (_:KiI) (h:p:=by
 first|exact ⟨k+1,by (have Vc:=Jg;exact Qt),by omega,by omega⟩|skip):p:=h
class KiJ:Prop
theorem KiJ.k (_:KiJ) (h:p:=by
 first|exact ⟨k+1,by (have Vc:=Jg;exact Qt),by omega,by omega⟩|skip):p:=h
class KiK:Prop
theorem KiK.k (_:KiK) (h:p:=by
 first|exact ⟨k+1,by (have Vc:=Jg;exact Qt),by omega,by omega⟩|skip):p:=h
class KiE:Prop
theorem KiE.k (_:KiE) (h:p:=by
 refine Zm [9,19,20,21,22,23,24,25,26,27,28,29,30,31,32,33,34,35,36,37,38,39,40,41,42,43,44,45,46,47,48,49,50,51,52,53,54,55] (fun k:Nat=>[(6,.d (.int .i64 (Ip last b (t.take k)))),(8,.d (.int .i64 k))]) (fun k:Nat=>[]) (fun k:Nat=>k≤t.length) (fun k:Nat=>t.length-k) 0 ?_ ?_ ?_
 ·omega
 ·have Vc:=Qw5;exact Qt
 rintro k hk;rcases Zn k t.length with ⟨R9,Qp⟩|⟨R9,Qp⟩
 rotate_left
 ·have Ni:k=t.length:=by omega
  rw [Ni,List.take_length,←G9];rw [Ni] at Qp;have Kq:KiF:=⟨⟩;exact Jw
 have Qv:=Zp n0 R9;have Jg:Ip last b (t.take (k+1))=bestN last (Ip last b (t.take k)) (t.getD k n0):=bD _ R9;obtain ⟨n,hn⟩:=exq (t.getD k n0);rw [hn] at Qv Jg;obtain ⟨nk,nn,ni⟩:=n;obtain ⟨c,hc⟩:=exq (Ip last b (t.take k));rw [hc] at Jg ⊢;unfold bestN at Jg;simp only at Jg;have Qv:el (t.map (enc:Node→D)) k=.agg [.int .i64 nk,.str nn,.int .i64 ni]:=Qv;cases Q3:(nk==0) with
 | false =>
  rw [if_neg (fun h=>by rw [Za] at Q3;exact Q3 h.1)] at Jg
  have Kq:KiG:=⟨⟩;exact Jw
 | true =>
 rw [Zj] at Q3;rcases Y3 last ni with ⟨h2,Jh⟩|⟨h2,Jh⟩
 rotate_left
 ·rw [if_neg (fun h=>by omega)] at Jg
  subst Q3;have Kq:KiH:=⟨⟩;exact Jw
 cases Jb:(c==0) with
 | true =>
  rw [if_pos ⟨Q3,h2,.inl (by simpa using Jb)⟩] at Jg
  subst Q3;have Kq:KiI:=⟨⟩;exact Jw
 | false =>
 rcases Y3 ni c with ⟨h4,Z3⟩|⟨h4,Z3⟩
 ·rw [if_pos ⟨Q3,h2,.inr h4⟩] at Jg;subst Q3;have Kq:KiJ:=⟨⟩;exact Jw
 ·rw [if_neg (fun h=>by rw [Za] at Jb;omega)] at Jg
  subst Q3;have Kq:KiK:=⟨⟩;exact Jw):p:=h
class KiB:Prop
theorem KiB.k (_:KiB) (h:p:=by
 refine Zm [8,9,13,14,15,16,17,18,19,20,21,22,23,24,25,26,27,28,29,30,31,32,33,34,35,36,37,38,39,40,41,42,43,44,45,46,47,48,49,50,51,52,53,54,55] (fun i:Nat=>[(6,.d (.int .i64 (Ry last 0 (L.take i)))),(7,.d (.int .i64 i))]) (fun i:Nat=>[]) (fun i:Nat=>i≤L.length) (fun i:Nat=>L.length-i) 0 ?_ ?_ ?_
 ·omega
 ·have Vc:=Jbq;exact Qt
 rintro i hi;rcases Zn i L.length with ⟨Zv,Qo⟩|⟨Zv,Qo⟩
 rotate_left
 ·have Zna:i=L.length:=by omega
  rw [Zna,Jbr];rw [Zna] at Qo;obtain ⟨g,rfl⟩:∃ g,f=g+1:=⟨f-1,by omega⟩
  rw [Zfq,hZ] at Qor;by_cases hz:Z=0
  ·rw [if_pos hz] at Qor;subst Qor;have Qi:(Z==0)=true:=by rw [Zj];exact hz
   have Kq:KiC:=⟨⟩;exact Jw
  ·rw [if_neg hz] at Qor;have Qi:(Z==0)=false:=by rw [Za];exact hz
   obtain ⟨Q3,h2,_⟩:=mA Qpx (l:=L) (b0:=0);rw [hZ] at Q3;have Q3:=Q3.resolve_left hz;have hm:=Zj1 Q3.2 Q3.1;have Qma:0≤Z:=by omega
   have vB:(o++[Z]).map (enc:Int→D)=o.map enc++[.int .i64 Z]:=by rw [List.map_append];rfl
   have Qil:(o++[Z]).length=o.length+1:=by simp
   have Zzw:∃ f,Om Z L<f∧Zfq L f Z (o++[Z])=R:=⟨g,by omega,Qor⟩
   have Jaf:Z≤1000000:=by
    obtain ⟨⟨t,ht,n,hn,hk,e⟩,_⟩:=Q3;have:=mI t ht n hn hk;omega
   have Qwg:((o++[Z]).length:Int)≤Z:=by omega
   obtain ⟨Q,hQ⟩:∃ Q,(∃ f,Om Z L<f∧Zfq L f Z (o++[Z])=R)=Q:=⟨_,rfl⟩;have Zzw:=Eq.mp hQ Zzw;clear Q3 h2 Qor Q5 mI;have Kq:KiD:=⟨⟩;exact Jw
 have Ql:=Zp (⟨[]⟩:Sl Node) Zv;have Yn:L.getD i ⟨[]⟩∈L:=by simp [Zv]
 have Zm8:=Q5 _ Yn;have G9:Ry last 0 (L.take (i+1))=Ip last (Ry last 0 (L.take i)) (L.getD i ⟨[]⟩).l:=bD _ Zv;obtain ⟨⟨t⟩,ht⟩:=exq (L.getD i ⟨[]⟩);rw [ht] at Ql G9 Zm8;simp only at G9 Zm8;have Ql:el (L.map (enc:Sl Node→D)) i=.list 3 (t.map enc):=Ql;obtain ⟨b,hb⟩:=exq (Ry last 0 (L.take i));rw [hb] at G9 ⊢;have Qw5:Ip last b []=b:=rfl;have Kq:KiE:=⟨⟩;exact Jw):p:=h
class KiA:Prop
theorem KiA.k (_:KiA) (h:p:=by
 first|exact Qt7|skip
 refine Zm [2,6,7,8,9,13,14,15,16,17,18,19,20,21,22,23,24,25,26,27,28,29,30,31,32,33,34,35,36,37,38,39,40,41,42,43,44,45,46,47,48,49,50,51,52,53,54,55,56,57,58,59,60,61,62,63] (fun q:Int×List Int=>[(4,.sl 12 (q.2.map (enc:Int→D)).length),(5,.d (.int .i64 q.1))]) (fun q:Int×List Int=>[(12,.row 1 (q.2.map enc) 0)]) (fun q:Int×List Int=>0≤q.1∧(q.2.length:Int)≤q.1∧q.1≤1000000∧∃ f,Om q.1 L<f∧Zfq L f q.1 q.2=R) (fun q:Int×List Int=>Om q.1 L) (0,[]) ?_ ?_ ?_
 ·exact ⟨Int.le_refl _,by simp,by simp only;omega,_,Nat.lt_succ_self _,Zq⟩
 ·exact Qt
 rintro ⟨last,o⟩ ⟨Qpx,Zhr,Ja9,f,hf,Qor⟩;simp only at Qpx Zhr Ja9 hf Qor;have Jbq:Ry last 0 []=0:=rfl;obtain ⟨Z,hZ⟩:=exq (Ry last 0 L);have Jbr:Ry last 0 (L.take L.length)=Z:=by rw [List.take_length,hZ]
 have Kq:KiB:=⟨⟩;exact Jw):p:=h
theorem good_Sites11:Qc Tryz.prog (35,Ii):=by
 obtain ⟨Kx,Kt,Kc,Kd,Kb,Ku,Kw,K,X4,_⟩:=J7 Zx Zo [] false (Q1 good_types11 Cg.eq_def J5);have Ko:=Ii.eq_def;refine J9 K Tryz.func35 [.tmp 2] rfl 64 rfl (fun c hc Ji Zh=>?_);unfold Ii at Zh;obtain ⟨⟨p⟩,rfl,hO⟩:=Q8 Zh;simp only at hO;clear Zh;obtain ⟨R,Qn⟩:=exq (Fp (De p));have Zq:=Qn;unfold Fp at Zq;have Qt7:=hO.bare;have Qlj:=wD Qt7;have Q5:=hO.len;have mI:=hO.low;obtain ⟨L,Qk⟩:=exq (De p);rw [Qk] at Qn Zq Qlj Q5 mI;cases hc;refine W5 4 ?_;have Kq:KiA:=⟨⟩;exact Jw
theorem Sj {n:Nat} {p:Nat→Bool} (h:∀ j,j<n→p j=true):(List.range n).all p=true:=by
 rw [List.all_eq_true];exact fun j hj=>h j (List.mem_range.1 hj)
theorem Bj {n k:Nat} {p:Nat→Bool} (hk:k<n) (h:p k=false):(List.range n).all p=false:=by
 rw [←Bool.not_eq_true,List.all_eq_true];intro hh;have:=hh k (List.mem_range.2 hk);rw [h] at this;cases this
def Zha (x y:Def6):Bool:=(x.name==y.name)&&T5 x.e y.e
def Zb0 (x y:Mod6):Bool:=(x.name==y.name)&&((x.imps==y.imps)&&((x.defs.length==y.defs.length)&&(List.range x.defs.length).all fun j=>Zha (x.defs.getD j Q6) (y.defs.getD j Q6)))
def Qkw (a b:List Mod6):Bool:=(a.length==b.length)&&(List.range a.length).all fun j=>Zb0 (a.getD j Je) (b.getD j Je)
structure InA (p:List Mod6):Prop where
 len:Lo p.length
 in6:∀ m∈p,In6 m
def Ib:Con:=Jy (fun (a b:Sl Mod6)=>InA a.l∧InA b.l) (fun a b=>Qkw a.l b.l)
class KiN:Prop
theorem KiN.k (_:KiN) (h:p:=by
 first|exact ⟨m+1,by exact Qt,by omega,Eq.mpr hQ h9,by omega⟩|skip):p:=h
class KiO:Prop
theorem KiO.k (_:KiO) (h:p:=by
 first|exact x2|exact y2|exact ⟨k+1,by exact Qt,by omega,Eq.mpr Qzs h9,by omega⟩|rfl|trivial|skip):p:=h
class KiM:Prop
theorem KiM.k (_:KiM) (h:p:=by
 refine Zm [4,58,59,60,61,62,63,64,65,66,67,68,69,70,71,72,73,74,75,76,77,78,79,80,81,82,83,84,85,86,87,88,89,90,91,92,93,94,95,96,97,98,99,100,101,102,103,104,105,106,107,108] (fun k:Nat=>[(6,.d (.int .i64 k))]) (fun k:Nat=>[]) (fun k:Nat=>k≤ad.length∧∀ j,j<k→Zha (ad.getD j Q6) (bd.getD j Q6)=true) (fun k:Nat=>ad.length-k) 0 ?_ ?_ ?_
 ·exact ⟨by omega,fun j hj=>absurd hj (Nat.not_lt_zero j)⟩
 ·exact Qt
 rintro k ⟨hk,Jl⟩;rcases Zn k ad.length with ⟨R9,Jb⟩|⟨R9,Jb⟩
 rotate_left
 ·have h9:=Jg (Sj fun j hj=>Jl j (by omega))
  clear Jl Jg Qs;have Kq:KiN:=⟨⟩;exact Jw
 have Z3:=Zp Q6 R9;have Z6:=Zp Q6 (show k<bd.length by omega)
 have Zhk:Zha (ad.getD k Q6) (bd.getD k Q6)=true→∀ j,j<k+1→Zha (ad.getD j Q6) (bd.getD j Q6)=true:=fun h=>Vd Jl h;have qW:Zha (ad.getD k Q6) (bd.getD k Q6)=false→R=false:=fun h=>Qs (Bj R9 h);obtain ⟨Qd,Qzs⟩:=exq ((∀ j,j<k+1→Zha (ad.getD j Q6) (bd.getD j Q6)=true));rw [Qzs] at Zhk;have x2:=a5 (ad.getD k Q6) (by simp [R9])
 have y2:=b5 (bd.getD k Q6) (by simp [show k<bd.length by omega])
 obtain ⟨x,hx⟩:=exq (ad.getD k Q6);obtain ⟨y,hy⟩:=exq (bd.getD k Q6);rw [hx] at Z3 x2 Zhk qW;rw [hy] at Z6 y2 Zhk qW;clear Jl Jg Qs;obtain ⟨xn,xt,xe⟩:=x;obtain ⟨yn,yt,ye⟩:=y;unfold Zha at Zhk qW;simp only at Zhk qW x2 y2;cases Z7:xn==yn with
 | false =>
  have Qn:=qW (by rw [Z7];rfl)
  clear Zhk qW;exact N6
 | true =>
 cases Qq:T5 xe ye with
 | false =>
  have Qn:=qW (by rw [Z7,Qq];rfl)
  clear Zhk qW;exact N6
 | true =>
  have h9:=Zhk (by rw [Z7,Qq];rfl)
  clear Zhk qW;have Kq:KiO:=⟨⟩;exact Jw):p:=h
class KiL:Prop
theorem KiL.k (_:KiL) (h:p:=by
 refine Zm [4,6,12,13,14,15,16,17,18,19,20,21,22,23,24,25,26,27,28,29,30,31,32,33,34,35,36,37,38,39,40,41,42,43,44,45,46,47,48,49,50,51,52,53,54,55,56,57,58,59,60,61,62,63,64,65,66,67,68,69,70,71,72,73,74,75,76,77,78,79,80,81,82,83,84,85,86,87,88,89,90,91,92,93,94,95,96,97,98,99,100,101,102,103,104,105,106,107,108] (fun m:Nat=>[(5,.d (.int .i64 m))]) (fun m:Nat=>[]) (fun m:Nat=>m≤a.length∧∀ j,j<m→Zb0 (a.getD j Je) (b.getD j Je)=true) (fun m:Nat=>a.length-m) 0 ?_ ?_ ?_
 ·exact ⟨by omega,fun j hj=>absurd hj (Nat.not_lt_zero j)⟩
 ·exact Qt
 rintro m ⟨hm,Jl⟩;rcases Zn m a.length with ⟨Zv,Qi⟩|⟨Zv,Qi⟩
 rotate_left
 ·have Qn:R=true:=by rw [←Zq];exact Sj fun j hj=>Jl j (by omega)
  clear Jl;exact dL
 have Ql:=Zp Je Zv;have Qp:=Zp Je (show m<b.length by omega)
 have x0:=Qpd.in6 _ (show a.getD m Je∈a by simp [Zv])
 have y0:=Qpc.in6 _ (show b.getD m Je∈b by simp [show m<b.length by omega])
 have Jg:Zb0 (a.getD m Je) (b.getD m Je)=true→∀ j,j<m+1→Zb0 (a.getD j Je) (b.getD j Je)=true:=fun h=>Vd Jl h;have Qs:Zb0 (a.getD m Je) (b.getD m Je)=false→R=false:=fun h=>by rw [←Zq];exact Bj Zv h
 obtain ⟨Q,hQ⟩:=exq ((∀ j,j<m+1→Zb0 (a.getD j Je) (b.getD j Je)=true));rw [hQ] at Jg;obtain ⟨x,hx⟩:=exq (a.getD m Je);obtain ⟨y,hy⟩:=exq (b.getD m Je);rw [hx] at Ql x0 Jg Qs;rw [hy] at Qp y0 Jg Qs;clear Jl;obtain ⟨an,ai,ad,sa⟩:=x;obtain ⟨bn,bi,bd,bs⟩:=y;obtain ⟨a1,a2,a3,a4,a5⟩:=x0;obtain ⟨b1,b2,b3,b4,b5⟩:=y0;simp only at a1 a2 a3 a4 a5 b1 b2 b3 b4 b5;unfold Zb0 at Jg Qs;simp only at Jg Qs;cases Qv:an==bn with
 | false =>
  have Qn:=Qs (by rw [Qv];rfl)
  clear Jg Qs;exact N6
 | true =>
 cases Q3:ai==bi with
 | false =>
  have Qn:=Qs (by rw [Qv,Q3];rfl)
  clear Jg Qs;exact N6
 | true =>
 by_cases h3:ad.length=bd.length
 case neg =>
  have Jh:((ad.length:Int) != (bd.length:Int))=true:=by rw [bne_iff_ne];omega
  have Qpg:(ad.length==bd.length)=false:=by rw [Za];exact h3
  have Qn:=Qs (by rw [Qv,Q3,Qpg];rfl)
  clear Jg Qs;exact N6
 have Jh:((ad.length:Int) != (bd.length:Int))=false:=by rw [h3,bne_self_eq_false]
 have Qpg:(ad.length==bd.length)=true:=by rw [Zj];exact h3
 rw [Qv,Q3,Qpg,Bool.true_and,Bool.true_and,Bool.true_and] at Jg Qs;have Kq:KiM:=⟨⟩;exact Jw):p:=h
theorem good_alike11:Qc Tryz.prog (83,Ib):=by
 obtain ⟨Kx,Kt,Kc,Kd,Kb,Ku,Kw,K,X4,V2,_⟩:=J7 Zx Zo [] false (Q1 good_Strings5 Lv.eq_def (Q1 good_Same5 Em.eq_def J5));have Ko:=Ib.eq_def;refine J9 K Tryz.func83 [.tmp 4] rfl 109 rfl (fun c hc Ji Zh=>?_);unfold Ib at Zh;obtain ⟨⟨a⟩,⟨b⟩,rfl,Qpd,Qpc⟩:=Qf Zh;simp only at Qpd Qpc;clear Zh;have Qtg:a.length≤9223372036854775807:=Qpd.len;have Jba:b.length≤9223372036854775807:=Qpc.len;obtain ⟨R,Qo⟩:=exq (Qkw a b);have Zq:=Qo;unfold Qkw at Zq;cases hc;refine W5 6 ?_;by_cases Is:a.length=b.length
 case neg =>
  have Qk:((a.length:Int) != (b.length:Int))=true:=by rw [bne_iff_ne];omega
  have hc:(a.length==b.length)=false:=by rw [Za];exact Is
  rw [hc,Bool.false_and] at Zq;subst Zq;exact dL
 have Qk:((a.length:Int) != (b.length:Int))=false:=by rw [Is,bne_self_eq_false]
 have hc:(a.length==b.length)=true:=by rw [Zj];exact Is
 rw [hc,Bool.true_and] at Zq;have Kq:KiL:=⟨⟩;exact Jw
noncomputable def Qnn (t u:List Node):Bool:=Zh2 true (Xa ar t 0) (Xa ar u 0)
noncomputable def Zg3 (t u:List Node):Bool:=if t.length=0∧u.length=0 then true else if t.length=0∨u.length=0 then false else Qnn t u
noncomputable def Qnm (x y:List (Sl Node)):Bool:=(List.range x.length).all fun i=>Zg3 (x.getD i ⟨[]⟩).l (y.getD i ⟨[]⟩).l
noncomputable def Iq (a b:List Mod6):Bool:=Qkw (Y7 a) (Y7 b)&&Qnm (De a) (De b)
theorem oB:∀ n,Qc Tryz.prog (85,Gv n)
 | 0=>X1 (Jv Tryz.func85 (by kernel_rfl) rfl) vY
 | n+1=>step_Below7 n (oB n)
noncomputable def fK:Con:=Gv 20000001
theorem Zgn:Qc Tryz.prog (85,fK):=oB _
theorem kA:fK=Jy (fun (a b:Sl Node)=>Cn a.l∧Cn b.l∧Ya a.l=true∧Ya b.l=true∧a.l.length<20000001) (fun a b=>Zh2 true (Xa ar a.l 0) (Xa ar b.l 0)):=rfl
def TyOk (t:List Node):Prop:=Cn t∧Ya t=true
structure BelP (p:List Mod6):Prop where
 bare:BareOk p
 imps:∀ m∈p,m.imps.length≤1000000
 sites:∀ m∈p,m.sites.length≤1000000
 ty:∀ t∈De p,t.l.length=0∨TyOk t.l
theorem Xs {α β:Type} (f:α→β) (l:List α):(l.mapIdx fun _=>f)=l.map f:=by
 induction l with
 | nil=>rfl
 | cons x l ih=>rw [List.mapIdx_cons,List.map_cons,ih]
theorem Qbo {p:List Mod6} (h:BelP p):InA (Y7 p):=by
 refine ⟨?_,fun m hm=>?_⟩
 ·unfold Y7;rw [List.length_mapIdx];have:=h.bare.len;show _≤_;omega
 ·unfold Y7 at hm;rw [Xs] at hm;obtain ⟨m',hm',rfl⟩:=List.mem_map.1 hm;have i1:=h.imps m' hm';have i2:=h.sites m' hm';have i3:=h.bare.defs m' hm';have hd:∀ d∈(Vn m').defs,∃ d'∈m'.defs,d=X2 d':=fun d hd=>by
   unfold Vn at hd;simp only [Xs] at hd;obtain ⟨d',hd',rfl⟩:=List.mem_map.1 hd;exact ⟨d',hd',rfl⟩
  refine ⟨by show m'.imps.length≤_;omega,by show (m'.defs.mapIdx fun _=>X2).length≤_;rw [List.length_mapIdx];omega,by show m'.sites.length≤_;omega,fun d hx=>?_,fun d hx=>?_⟩
  ·obtain ⟨d',_,rfl⟩:=hd d hx;show ([]:List Node).length≤_;simp
  ·obtain ⟨d',hd',rfl⟩:=hd d hx;have:=h.bare.e m' hm' d' hd';refine ⟨by show (d'.e.mapIdx fun _=>Vw).length≤_;rw [List.length_mapIdx];omega,fun q hq=>?_⟩
   unfold X2 at hq;simp only [Xs] at hq;obtain ⟨q',_,rfl⟩:=List.mem_map.1 hq;exact ⟨by show ([]:List Node).length≤_;simp,by show ([]:List Node).length≤_;simp⟩
theorem Zz6 (d:Def6):(Zz7 d).length=1+2*d.e.length:=by
 have hE:∀ e:List Part,(e.flatMap Qfe).length=2*e.length:=by
  intro e
  induction e with
  | nil=>rfl
  | cons p e ih=>simp only [List.flatMap_cons,Ze,ih,Qfe,Zi,List.length_nil];omega
 unfold Zz7;rw [Ze,hE];rfl
theorem Qia {a b:List Mod6} (h:Qkw (Y7 a) (Y7 b)=true):(De a).length=(De b).length:=by
 unfold Qkw Y7 at h;simp only [Xs,Zf,Zg,Zj,List.all_eq_true,List.mem_range] at h;obtain ⟨hl,hm⟩:=h;have key:∀ (a b:List Mod6),a.length=b.length→(∀ j,j<a.length→(Qi5 (a.getD j Je)).length=(Qi5 (b.getD j Je)).length)→(De a).length=(De b).length:=by
  intro a
  induction a with
  | nil=>intro b hb _;cases b with
   | nil=>rfl
   | cons y b=>simp at hb
  | cons x a ih =>
   intro b hb h;cases b with
   | nil=>simp at hb
   | cons y b =>
    have h0:=h 0 (by simp)
    have ih:=ih b (by simpa using hb) fun j hj=>by simpa using h (j+1) (by simpa using hj)
    unfold De at ih ⊢;simp only [List.flatMap_cons,Ze];simp only [List.getD_cons_zero] at h0;omega
 refine key a b hl fun j hj=>?_;have sM:j<b.length:=by omega
 have h1:=hm j hj;have e1:(a.map Vn).getD j Je=Vn (a.getD j Je):=by simp [hj]
 have e2:(b.map Vn).getD j Je=Vn (b.getD j Je):=by simp [sM]
 rw [e1,e2] at h1;obtain ⟨x,hx⟩:=exq (a.getD j Je);obtain ⟨y,hy⟩:=exq (b.getD j Je);rw [hx,hy] at h1 ⊢;unfold Zb0 Vn at h1;simp only [Xs,Zf,Zg,Zj,List.all_eq_true,List.mem_range] at h1;obtain ⟨_,_,fP,hd⟩:=h1;have key2:∀ (a b:List Def6),a.length=b.length→(∀ j,j<a.length→(a.getD j Q6).e.length=(b.getD j Q6).e.length)→(a.flatMap Zz7).length=(b.flatMap Zz7).length:=by
  intro a
  induction a with
  | nil=>intro b hb _;cases b with
   | nil=>rfl
   | cons y b=>simp at hb
  | cons x a ih =>
   intro b hb h;cases b with
   | nil=>simp at hb
   | cons y b =>
    have h0:=h 0 (by simp)
    have ih:=ih b (by simpa using hb) fun j hj=>by simpa using h (j+1) (by simpa using hj)
    simp only [List.flatMap_cons,Ze];simp only [List.getD_cons_zero] at h0;rw [Zz6,Zz6,h0,ih]
 unfold Qi5;refine key2 x.defs y.defs fP fun j hj=>?_;have sM:j<y.defs.length:=by omega
 have h2:=hd j hj;have e1:(x.defs.map X2).getD j Q6=X2 (x.defs.getD j Q6):=by simp [hj]
 have e2:(y.defs.map X2).getD j Q6=X2 (y.defs.getD j Q6):=by simp [sM]
 rw [e1,e2] at h2;unfold Zha X2 T5 at h2;simp only [Xs,Zg,Zj] at h2;have:=congrArg List.length h2.2;simpa using this
noncomputable def Io:Con:=Jy (fun (a b:Sl Mod6)=>BelP a.l∧BelP b.l) (fun a b=>Iq a.l b.l)
class KiQ:Prop
theorem KiQ.k (_:KiQ) (h:p:=by
 first|exact ⟨i+1,by exact Qt,by omega,Eq.mpr hQ h9,by omega⟩|skip):p:=h
class KiR:Prop
theorem KiR.k (_:KiR) (h:p:=by
 first|exact t3|exact u3|exact t4|exact u4|exact ⟨i+1,by exact Qt,by omega,Eq.mpr hQ h9,by omega⟩|skip):p:=h
class KiP:Prop
theorem KiP.k (_:KiP) (h:p:=by
 first|exact Qp7|exact Qt6|exact Qlk|exact Qmy|skip
 refine Zm [4,18,19,20,21,22,23,24,25,26,27,28,29,30,31,32,33,34,35,36,37,38,39,40,41,42,43,44,45,46,47,48,49,50,51,52,53,54,55,56,57,58,59,60,61,62,63] (fun i:Nat=>[(7,.d (.int .i64 i))]) (fun i:Nat=>[]) (fun i:Nat=>i≤X.length∧∀ j,j<i→Zg3 (X.getD j ⟨[]⟩).l (Y.getD j ⟨[]⟩).l=true) (fun i:Nat=>X.length-i) 0 ?_ ?_ ?_
 ·exact ⟨by omega,fun j hj=>absurd hj (Nat.not_lt_zero j)⟩
 ·exact Qt
 rintro i ⟨hi,Jl⟩;rcases Zn i X.length with ⟨Zv,Qv⟩|⟨Zv,Qv⟩
 rotate_left
 ·have Q3:R=true:=by rw [←Zq];exact Sj fun j hj=>Jl j (by omega)
  clear Jl;have Tx:=Kt;exact dL
 have Mx:i<Y.length:=by omega
 have Jh:=Zp (⟨[]⟩:Sl Node) Zv;have Jb:=Zp (⟨[]⟩:Sl Node) Mx;have t1:=Qt8 _ (show X.getD i ⟨[]⟩∈X by simp [Zv])
 have t2:=Qpe _ (show Y.getD i ⟨[]⟩∈Y by simp [Mx])
 have Jg:Zg3 (X.getD i ⟨[]⟩).l (Y.getD i ⟨[]⟩).l=true→∀ j,j<i+1→Zg3 (X.getD j ⟨[]⟩).l (Y.getD j ⟨[]⟩).l=true:=fun h=>Vd Jl h;have Qs:Zg3 (X.getD i ⟨[]⟩).l (Y.getD i ⟨[]⟩).l=false→R=false:=fun h=>by rw [←Zq];exact Bj Zv h
 obtain ⟨Q,hQ⟩:=exq ((∀ j,j<i+1→Zg3 (X.getD j ⟨[]⟩).l (Y.getD j ⟨[]⟩).l=true));rw [hQ] at Jg;obtain ⟨⟨t⟩,ht⟩:=exq (X.getD i ⟨[]⟩);obtain ⟨⟨u⟩,hu⟩:=exq (Y.getD i ⟨[]⟩);rw [ht] at Jh t1 Jg Qs;rw [hu] at Jb t2 Jg Qs;have Jh:el (X.map (enc:Sl Node→D)) i=.list 3 (t.map enc):=Jh;have Jb:el (Y.map (enc:Sl Node→D)) i=.list 3 (u.map enc):=Jb;unfold Zg3 at Jg Qs;simp only at Jg Qs t1 t2;clear Jl;by_cases Qmi:t.length=0
 ·have Z3:((t.length:Int)==0)=true:=by rw [Zj];omega
  by_cases Qmh:u.length=0
  ·have Z6:((u.length:Int)==0)=true:=by rw [Zj];omega
   have h9:=Jg (by rw [if_pos ⟨Qmi,Qmh⟩])
   clear Jg Qs;have Tx:=Kt;have Kq:KiQ:=⟨⟩;exact Jw
  ·have Z6:((u.length:Int)==0)=false:=by rw [Za];omega
   have Q3:=Qs (by rw [if_neg (fun h=>Qmh h.2),if_pos (.inl Qmi)])
   clear Jg Qs;have Tx:=Kt;exact N6
 have Z3:((t.length:Int)==0)=false:=by rw [Za];omega
 by_cases Qmh:u.length=0
 ·have Z6:((u.length:Int)==0)=true:=by rw [Zj];omega
  have Q3:=Qs (by rw [if_neg (fun h=>Qmi h.1),if_pos (.inr Qmh)])
  clear Jg Qs;have Tx:=Kt;exact N6
 have Z6:((u.length:Int)==0)=false:=by rw [Za];omega
 obtain ⟨t3,t4⟩:=t1.resolve_left Qmi;obtain ⟨u3,u4⟩:=t2.resolve_left Qmh;have t5:=t3.1;rw [if_neg (fun h=>Qmi h.1),if_neg (by omega)] at Jg Qs
 unfold Qnn at Jg Qs;cases Z7:Zh2 true (Xa ar t 0) (Xa ar u 0) with
 | true =>
  have h9:=Jg Z7;clear Jg Qs;have Tx:=Kt;have Qq:=@kA;have Kq:KiR:=⟨⟩;exact Jw
 | false =>
  have Q3:=Qs Z7;clear Jg Qs;have Tx:=Kt;have Qq:=@kA;exact N6):p:=h
theorem good_Below11:Qc Tryz.prog (37,Io):=by
 obtain ⟨Kx,Kt,Kc,Kd,Kb,Ku,Kw,K,X4,V2,Mo,Tx,_⟩:=J7 Zx Zo [] false (Q1 good_bare11 bU.eq_def (Q1 good_alike11 Ib.eq_def (Q1 good_types11 Cg.eq_def (Q1 Zgn fK.eq_def J5))));have Ko:=Io.eq_def;refine J9 K Tryz.func37 [.tmp 4] rfl 64 rfl (fun c hc Ji Zh=>?_);unfold Io at Zh;obtain ⟨⟨a⟩,⟨b⟩,rfl,hA,hB⟩:=Qf Zh;simp only at hA hB;clear Zh;have Qp7:=hA.bare;have Qt6:=hB.bare;have Qlk:=Qbo hA;have Qmy:=Qbo hB;have Qxn:=wD Qp7;have Qt8:=hA.ty;have Qpe:=hB.ty;have Qle:=Qia (a:=a) (b:=b);obtain ⟨R,Qn⟩:=exq (Iq a b);have Zq:=Qn;unfold Iq at Zq;obtain ⟨A,Qk⟩:=exq (Y7 a);obtain ⟨B,Qo⟩:=exq (Y7 b);rw [Qk] at Zq Qlk Qle;rw [Qo] at Zq Qmy Qle;cases hc;refine W5 4 ?_;cases Qi:Qkw A B with
 | false =>
  rw [Qi,Bool.false_and] at Zq;subst Zq;have Tx:=Kt;exact N6
 | true =>
 rw [Qi,Bool.true_and] at Zq;have Quy:=Qle Qi;obtain ⟨X,Ql⟩:=exq (De a);obtain ⟨Y,Qp⟩:=exq (De b);rw [Ql] at Zq Qxn Qt8 Quy;rw [Qp] at Zq Qpe Quy;unfold Qnm at Zq;clear Qle;have Tx:=Kt;have Kq:KiP:=⟨⟩;exact Jw
def Zec {α:Type} (p:α→α→Bool) (d:α) (a b:List α):Bool:=(a.length==b.length)&&(List.range a.length).all fun j=>p (a.getD j d) (b.getD j d)
def Ij:Con:=Jy (fun (x y:Part)=>Qe1 x∧Qe1 y) Mr
class KiS:Prop
theorem KiS.k (_:KiS) (h:p:=by
 unfold Mr Qbb;repeat' first|exact M7|with_reducible apply Zw|intro _
 all_goals first|with_reducible exact uL|(simp_all;done)|skip):p:=h
theorem good_SameA_1:Qc Tryz.prog (126,Ij):=by
 obtain ⟨Kx,Kt,Kc,Kd,Kb,Ku,Kw,K,X4,_⟩:=J7 Zx Zo [] false (Q1 Zyg iB.eq_def J5);have Ko:=Ij.eq_def;refine J9 K Tryz.func126 [.tmp 4] rfl 61 rfl (fun c hc Ji Zh=>?_);unfold Ij at Zh;obtain ⟨x,y,rfl,⟨h1,h2⟩,h3,h4⟩:=Qf Zh;cases hc;refine W5 3 ?_;have Kq:KiS:=⟨⟩;exact Qxr
def Lt:Con:=Um (fun (a b:Sl (Part)) (_:Fn0 126)=>(Lo a.l.length∧∀ x∈a.l,Qe1 x)∧(Lo b.l.length∧∀ x∈b.l,Qe1 x)) (fun a b _=>Zec Mr e0 a.l b.l)
class KiU:Prop
theorem KiU.k (_:KiU) (h:p:=by
 first|exact s1|exact s2|exact s1.1|exact s1.2|exact s2.1|exact s2.2|rfl|trivial|skip):p:=h
class KiV:Prop
theorem KiV.k (_:KiV) (h:p:=by
 first|exact s1|exact s2|exact s1.1|exact s1.2|exact s2.1|exact s2.2|exact ⟨k+1,by exact Qt,by omega,Eq.mpr hQ h9,by omega⟩|rfl|trivial|skip):p:=h
class KiT:Prop
theorem KiT.k (_:KiT) (h:p:=by
 refine Zm [6,7,8,9,18,19,20,21,22,23,24,25,26,27,28,29,30,31] (fun k:Nat=>[(17,.d (.int .i64 k))]) (fun k:Nat=>[]) (fun k:Nat=>k≤a.length∧∀ j,j<k→Mr (a.getD j e0) (b.getD j e0)=true) (fun k:Nat=>a.length-k) 0 ?_ ?_ ?_
 ·exact ⟨by omega,fun j hj=>absurd hj (Nat.not_lt_zero j)⟩
 ·exact Qt
 rintro k ⟨hk,Jl⟩;rcases Zn k a.length with ⟨Zv,Qi⟩|⟨Zv,Qi⟩
 rotate_left
 ·have Qn:R=true:=by rw [←Zq];exact Sj fun j hj=>Jl j (by omega)
  clear Jl;exact dL
 have Mx:k<b.length:=by omega
 have Ql:=Zp e0 Zv;have Qp:=Zp e0 Mx;have s1:=hA (a.getD k e0) (by simp [Zv])
 have s2:=hB (b.getD k e0) (by simp [Mx])
 have Jg:Mr (a.getD k e0) (b.getD k e0)=true→∀ j,j<k+1→Mr (a.getD j e0) (b.getD j e0)=true:=fun h=>Vd Jl h;have Qs:Mr (a.getD k e0) (b.getD k e0)=false→R=false:=fun h=>by rw [←Zq];exact Bj Zv h
 obtain ⟨Q,hQ⟩:=exq ((∀ j,j<k+1→Mr (a.getD j e0) (b.getD j e0)=true));rw [hQ] at Jg;obtain ⟨x,hx⟩:=exq (a.getD k e0);obtain ⟨y,hy⟩:=exq (b.getD k e0);rw [hx] at Ql s1 Jg Qs;rw [hy] at Qp s2 Jg Qs;clear Jl;cases Qv:Mr x y with
 | false =>
  have Qn:=Qs Qv;clear Jg Qs;have Kq:KiU:=⟨⟩;exact Jw
 | true =>
  have h9:=Jg Qv;clear Jg Qs;have Kq:KiV:=⟨⟩;exact Jw):p:=h
theorem good_equalParts:Qc Tryz.prog (125,Lt):=by
 obtain ⟨Kx,Kt,Kc,Kd,Kb,Ku,Kw,K,X4,_⟩:=J7 Zx Zo [] false (Q1 good_SameA_1 Ij.eq_def J5);have Ko:=Lt.eq_def;refine J9 K Tryz.func125 [.tmp 6] rfl 32 rfl (fun c hc Ji Zh=>?_);unfold Lt at Zh;obtain ⟨⟨a⟩,⟨b⟩,f,rfl,⟨ha,hA⟩,hb,hB⟩:=Vb Zh;simp only at ha hb hA hB;clear Zh;have ha:a.length≤9223372036854775807:=ha;have hb:b.length≤9223372036854775807:=hb;obtain ⟨R,Qo⟩:=exq (Zec Mr e0 a b);have Zq:=Qo;unfold Zec at Zq;by_cases Is:a.length=b.length
 case neg =>
  have Qk:((a.length:Int) != (b.length:Int))=true:=by rw [bne_iff_ne];omega
  have Zzy:(a.length==b.length)=false:=by rw [Za];exact Is
  rw [Zzy,Bool.false_and] at Zq;subst Zq;cases hc;refine W5 2 ?_;exact dL
 have Qk:((a.length:Int) != (b.length:Int))=false:=by rw [Is,bne_self_eq_false]
 have Zzy:(a.length==b.length)=true:=by rw [Zj];exact Is
 rw [Zzy,Bool.true_and] at Zq;cases hc;refine W5 2 ?_;have Kq:KiT:=⟨⟩;exact Jw
theorem Qea (a b:List Part):Zec Mr e0 a b=T5 a b:=by
 unfold Zec T5;rw [Bool.eq_iff_iff];simp only [Zg,Zj,List.all_eq_true,List.mem_range];constructor
 ·rintro ⟨hl,h⟩;refine List.ext_getElem (by simp [hl]) fun j h1 h2=>?_
  rw [Zf] at h1 h2;have:=aM.1 (h j h1);simpa [h1,h2] using this
 ·intro h;have hl:a.length=b.length:=by simpa using congrArg List.length h
  refine ⟨hl,fun j hj=>aM.2 ?_⟩;have sM:j<b.length:=by omega
  have h1:(a.map Hn).getD j e0=(b.map Hn).getD j e0:=by rw [h]
  simpa [hj,sM] using h1
def iD:Con:=Jy (fun (a b:Sl Part)=>Zmn a.l∧Zmn b.l) (fun a b=>T5 a.l b.l)
class KiW:Prop
theorem KiW.k (_:KiW) (h:p:=by
 first|exact Qjf|exact wX|exact Qo1 _ (by assumption)|exact aB _ (by assumption)|skip):p:=h
theorem good_SameA:Qc Tryz.prog (79,iD):=by
 obtain ⟨Kx,Kt,Kc,Kd,Kb,Ku,Kw,K,X4,_⟩:=J7 Zx Zo [] false (Q1 good_equalParts Lt.eq_def J5);have Ko:=iD.eq_def;refine J9 K Tryz.func79 [.tmp 4] rfl 8 rfl (fun c hc Ji Zh=>?_);unfold iD at Zh;obtain ⟨⟨a⟩,⟨b⟩,rfl,ha,hb⟩:=Qf Zh;simp only at ha hb;obtain ⟨Qjf,Qo1⟩:Zmn a:=ha;obtain ⟨wX,aB⟩:Zmn b:=hb;have Qk:=Qea a b;cases hc;have Kq:KiW:=⟨⟩;exact Jw
def A9:Con:=Jy (fun (a b:Sl (List UInt8))=>Lo a.l.length∧Lo b.l.length) (fun a b=>a.l==b.l)
class KiY:Prop
theorem KiY.k (_:KiY) (h:p:=by
 first|exact ⟨k+1,by exact Qt,by omega,h2,by omega⟩|skip):p:=h
class KiX:Prop
theorem KiX.k (_:KiX) (h:p:=by
 refine Zm [4,5,14,15,16,17,18,19,20,21,22,23,24,25] (fun k:Nat=>[(13,.d (.int .i64 k))]) (fun k:Nat=>[]) (fun k:Nat=>k≤a.length∧∀ j,j<k→a.getD j []=b.getD j []) (fun k:Nat=>a.length-k) 0 ?_ ?_ ?_
 ·exact ⟨by omega,fun j hj=>absurd hj (Nat.not_lt_zero j)⟩
 ·exact Qt
 rintro k ⟨hk,Jl⟩;rcases Zn k a.length with ⟨Zv,Qi⟩|⟨Zv,Qi⟩
 ·have Qn:=Zp ([]:List UInt8) Zv;have Ql:=Zp ([]:List UInt8) (show k<b.length by omega)
  have Jg:a.getD k []=b.getD k []→∀ j,j<k+1→a.getD j []=b.getD j []:=fun h=>Vd Jl h;have Qs:a.getD k []≠b.getD k []→(a==b)=false:=by
   intro h;rw [Za];intro e;exact h (by rw [e])
  obtain ⟨x,hx⟩:=exq (a.getD k []);obtain ⟨y,hy⟩:=exq (b.getD k []);rw [hx] at Qn Jg Qs;rw [hy] at Ql Jg Qs;cases Qp:(x==y) with
  | false =>
   have Qo:=Qs (by simpa using Qp)
   exact N6
  | true =>
   have h2:=Jg (by simpa using Qp)
   have Kq:KiY:=⟨⟩;exact Jw
 ·have Qo:(a==b)=true:=by
   rw [Zj];exact Fz [] Q5 fun j hj=>Jl j (by omega)
  clear Jl;exact dL):p:=h
theorem good_equalSt:Qc Tryz.prog (76,A9):=by
 obtain ⟨Kx,Kt,Kc,Kd,Kb,Ku,Kw,K,_⟩:=J7 Zx Zo [] false J5;have Ko:=A9.eq_def;refine J9 K Tryz.func76 [.tmp 4] rfl 26 rfl (fun c hc Ji Zh=>?_);unfold A9 at Zh;obtain ⟨⟨a⟩,⟨b⟩,rfl,ha,hb⟩:=Qf Zh;simp only at ha hb;by_cases Q5:a.length=b.length
 case neg =>
  have Qk:((a.length:Int) != (b.length:Int))=true:=by rw [bne_iff_ne];omega
  have Qo:(a==b)=false:=by rw [Za];intro e;exact Q5 (by rw [e])
  cases hc;exact dL
 have Qk:((a.length:Int) != (b.length:Int))=false:=by rw [Q5,bne_self_eq_false]
 cases hc;have Kq:KiX:=⟨⟩;exact Jw
def Qso (d:Def6):Prop:=Zmn d.e
def Lw:Con:=Jy (fun (x y:Def6)=>Qso x∧Qso y) Zha
theorem uR:Qc Tryz.prog (78,Lw):=by
 obtain ⟨Kx,Kt,Kc,Kd,Kb,Ku,Kw,K,X4,_⟩:=J7 Zx Zo [] false (Q1 good_SameA iD.eq_def J5);have Ko:=Lw.eq_def;refine J9 K Tryz.func78 [.tmp 4] rfl 17 rfl (fun c hc Ji Zh=>?_);unfold Lw at Zh;obtain ⟨⟨xn,xt,xe⟩,⟨yn,yt,ye⟩,rfl,h1,h2⟩:=Qf Zh;have h1:Zmn xe:=h1;have h2:Zmn ye:=h2;clear Zh;obtain ⟨R,Qo⟩:=exq (Zha ⟨xn,xt,xe⟩ ⟨yn,yt,ye⟩);have Qi:((xn==yn)&&T5 xe ye)=R:=Qo;cases hc;cases Qk:(xn==yn) with
 | false =>
  rw [Qk,Bool.false_and] at Qi;subst Qi;exact dL
 | true =>
  rw [Qk,Bool.true_and] at Qi;exact N6
def Tt:Con:=Um (fun (a b:Sl (Def6)) (_:Fn0 78)=>(Lo a.l.length∧∀ x∈a.l,Qso x)∧(Lo b.l.length∧∀ x∈b.l,Qso x)) (fun a b _=>Zec Zha Q6 a.l b.l)
class Kja:Prop
theorem Kja.k (_:Kja) (h:p:=by
 first|exact s1|exact s2|exact s1.1|exact s1.2|exact s2.1|exact s2.2|rfl|trivial|skip):p:=h
class Kjb:Prop
theorem Kjb.k (_:Kjb) (h:p:=by
 first|exact s1|exact s2|exact s1.1|exact s1.2|exact s2.1|exact s2.2|exact ⟨k+1,by exact Qt,by omega,Eq.mpr hQ h9,by omega⟩|rfl|trivial|skip):p:=h
class KiZ:Prop
theorem KiZ.k (_:KiZ) (h:p:=by
 refine Zm [6,7,8,9,18,19,20,21,22,23,24,25,26,27,28,29,30,31] (fun k:Nat=>[(17,.d (.int .i64 k))]) (fun k:Nat=>[]) (fun k:Nat=>k≤a.length∧∀ j,j<k→Zha (a.getD j Q6) (b.getD j Q6)=true) (fun k:Nat=>a.length-k) 0 ?_ ?_ ?_
 ·exact ⟨by omega,fun j hj=>absurd hj (Nat.not_lt_zero j)⟩
 ·exact Qt
 rintro k ⟨hk,Jl⟩;rcases Zn k a.length with ⟨Zv,Qi⟩|⟨Zv,Qi⟩
 rotate_left
 ·have Qn:R=true:=by rw [←Zq];exact Sj fun j hj=>Jl j (by omega)
  clear Jl;exact dL
 have Mx:k<b.length:=by omega
 have Ql:=Zp Q6 Zv;have Qp:=Zp Q6 Mx;have s1:=hA (a.getD k Q6) (by simp [Zv])
 have s2:=hB (b.getD k Q6) (by simp [Mx])
 have Jg:Zha (a.getD k Q6) (b.getD k Q6)=true→∀ j,j<k+1→Zha (a.getD j Q6) (b.getD j Q6)=true:=fun h=>Vd Jl h;have Qs:Zha (a.getD k Q6) (b.getD k Q6)=false→R=false:=fun h=>by rw [←Zq];exact Bj Zv h
 obtain ⟨Q,hQ⟩:=exq ((∀ j,j<k+1→Zha (a.getD j Q6) (b.getD j Q6)=true));rw [hQ] at Jg;obtain ⟨x,hx⟩:=exq (a.getD k Q6);obtain ⟨y,hy⟩:=exq (b.getD k Q6);rw [hx] at Ql s1 Jg Qs;rw [hy] at Qp s2 Jg Qs;clear Jl;obtain ⟨xn,xt,xe⟩:=x;obtain ⟨yn,yt,ye⟩:=y;cases Qv:Zha ⟨xn,xt,xe⟩ ⟨yn,yt,ye⟩ with
 | false =>
  have Qn:=Qs Qv;clear Jg Qs;have Kq:Kja:=⟨⟩;exact Jw
 | true =>
  have h9:=Jg Qv;clear Jg Qs;have Kq:Kjb:=⟨⟩;exact Jw):p:=h
theorem good_equalDefs:Qc Tryz.prog (77,Tt):=by
 obtain ⟨Kx,Kt,Kc,Kd,Kb,Ku,Kw,K,X4,_⟩:=J7 Zx Zo [] false (Q1 uR Lw.eq_def J5);have Ko:=Tt.eq_def;refine J9 K Tryz.func77 [.tmp 6] rfl 32 rfl (fun c hc Ji Zh=>?_);unfold Tt at Zh;obtain ⟨⟨a⟩,⟨b⟩,f,rfl,⟨ha,hA⟩,hb,hB⟩:=Vb Zh;simp only at ha hb hA hB;clear Zh;have ha:a.length≤9223372036854775807:=ha;have hb:b.length≤9223372036854775807:=hb;obtain ⟨R,Qo⟩:=exq (Zec Zha Q6 a b);have Zq:=Qo;unfold Zec at Zq;by_cases Is:a.length=b.length
 case neg =>
  have Qk:((a.length:Int) != (b.length:Int))=true:=by rw [bne_iff_ne];omega
  have Zzy:(a.length==b.length)=false:=by rw [Za];exact Is
  rw [Zzy,Bool.false_and] at Zq;subst Zq;cases hc;refine W5 2 ?_;exact dL
 have Qk:((a.length:Int) != (b.length:Int))=false:=by rw [Is,bne_self_eq_false]
 have Zzy:(a.length==b.length)=true:=by rw [Zj];exact Is
 rw [Zzy,Bool.true_and] at Zq;cases hc;refine W5 2 ?_;have Kq:KiZ:=⟨⟩;exact Jw
def Qsn (m:Mod6):Prop:=Lo m.imps.length∧Lo m.defs.length∧∀ d∈m.defs,Qso d
def D8:Con:=Jy (fun (x y:Mod6)=>Qsn x∧Qsn y) Zb0
class Kjc:Prop
theorem Kjc.k (_:Kjc) (h:p:=by
 first|exact a1|exact b1|exact a2|exact b2|exact a3 _ (by assumption)|exact b3 _ (by assumption)|rfl|trivial|skip):p:=h
theorem good_BelowA_2:Qc Tryz.prog (75,D8):=by
 obtain ⟨Kx,Kt,Kc,Kd,Kb,Ku,Kw,K,X4,V2,_⟩:=J7 Zx Zo [] false (Q1 good_equalSt A9.eq_def (Q1 good_equalDefs Tt.eq_def J5));have Ko:=D8.eq_def;refine J9 K Tryz.func75 [.tmp 4] rfl 24 rfl (fun c hc Ji Zh=>?_);unfold D8 at Zh;obtain ⟨⟨an,ai,ad,sa⟩,⟨bn,bi,bd,bs⟩,rfl,⟨a1,a2,a3⟩,b1,b2,b3⟩:=Qf Zh;simp only at a1 a2 a3 b1 b2 b3;clear Zh;obtain ⟨R,Qo⟩:=exq (Zb0 ⟨an,ai,ad,sa⟩ ⟨bn,bi,bd,bs⟩);have Qn:((an==bn)&&((ai==bi)&&Zec Zha Q6 ad bd))=R:=Qo;cases hc;cases Qk:(an==bn) with
 | false =>
  rw [Qk,Bool.false_and] at Qn;subst Qn;exact dL
 | true =>
 rw [Qk,Bool.true_and] at Qn;cases Qi:(ai==bi) with
 | false =>
  rw [Qi,Bool.false_and] at Qn;subst Qn;exact N6
 | true =>
  rw [Qi,Bool.true_and] at Qn;have Kq:Kjc:=⟨⟩;exact Jw
def Ts:Con:=Um (fun (a b:Sl (Mod6)) (_:Fn0 75)=>(Lo a.l.length∧∀ x∈a.l,Qsn x)∧(Lo b.l.length∧∀ x∈b.l,Qsn x)) (fun a b _=>Zec Zb0 Je a.l b.l)
class Kje:Prop
theorem Kje.k (_:Kje) (h:p:=by
 first|exact s1|exact s2|exact s1.1|exact s1.2|exact s2.1|exact s2.2|rfl|trivial|skip):p:=h
class Kjf:Prop
theorem Kjf.k (_:Kjf) (h:p:=by
 first|exact s1|exact s2|exact s1.1|exact s1.2|exact s2.1|exact s2.2|exact ⟨k+1,by exact Qt,by omega,Eq.mpr hQ h9,by omega⟩|rfl|trivial|skip):p:=h
class Kjd:Prop
theorem Kjd.k (_:Kjd) (h:p:=by
 refine Zm [6,7,8,9,18,19,20,21,22,23,24,25,26,27,28,29,30,31] (fun k:Nat=>[(17,.d (.int .i64 k))]) (fun k:Nat=>[]) (fun k:Nat=>k≤a.length∧∀ j,j<k→Zb0 (a.getD j Je) (b.getD j Je)=true) (fun k:Nat=>a.length-k) 0 ?_ ?_ ?_
 ·exact ⟨by omega,fun j hj=>absurd hj (Nat.not_lt_zero j)⟩
 ·exact Qt
 rintro k ⟨hk,Jl⟩;rcases Zn k a.length with ⟨Zv,Qn⟩|⟨Zv,Qn⟩
 rotate_left
 ·have Ql:R=true:=by rw [←Zq];exact Sj fun j hj=>Jl j (by omega)
  clear Jl;exact dL
 have Mx:k<b.length:=by omega
 have Qp:=Zp Je Zv;have Qv:=Zp Je Mx;have s1:=hA (a.getD k Je) (by simp [Zv])
 have s2:=hB (b.getD k Je) (by simp [Mx])
 have Jg:Zb0 (a.getD k Je) (b.getD k Je)=true→∀ j,j<k+1→Zb0 (a.getD j Je) (b.getD j Je)=true:=fun h=>Vd Jl h;have Qs:Zb0 (a.getD k Je) (b.getD k Je)=false→R=false:=fun h=>by rw [←Zq];exact Bj Zv h
 obtain ⟨Q,hQ⟩:=exq ((∀ j,j<k+1→Zb0 (a.getD j Je) (b.getD j Je)=true));rw [hQ] at Jg;obtain ⟨x,hx⟩:=exq (a.getD k Je);obtain ⟨y,hy⟩:=exq (b.getD k Je);rw [hx] at Qp s1 Jg Qs;rw [hy] at Qv s2 Jg Qs;clear Jl;obtain ⟨xn,xi,xd,xs⟩:=x;obtain ⟨yn,yi,yd,ys⟩:=y;cases Q3:Zb0 ⟨xn,xi,xd,xs⟩ ⟨yn,yi,yd,ys⟩ with
 | false =>
  have Ql:=Qs Q3;clear Jg Qs;have Kq:Kje:=⟨⟩;exact Jw
 | true =>
  have h9:=Jg Q3;clear Jg Qs;have Kq:Kjf:=⟨⟩;exact Jw):p:=h
theorem good_equalMods:Qc Tryz.prog (74,Ts):=by
 obtain ⟨Kx,Kt,Kc,Kd,Kb,Ku,Kw,K,X4,_⟩:=J7 Zx Zo [] false (Q1 good_BelowA_2 D8.eq_def J5);have Ko:=Ts.eq_def;refine J9 K Tryz.func74 [.tmp 6] rfl 32 rfl (fun c hc Ji Zh=>?_);unfold Ts at Zh;obtain ⟨⟨a⟩,⟨b⟩,f,rfl,⟨ha,hA⟩,hb,hB⟩:=Vb Zh;simp only at ha hb hA hB;clear Zh;have ha:a.length≤9223372036854775807:=ha;have hb:b.length≤9223372036854775807:=hb;obtain ⟨R,Qo⟩:=exq (Zec Zb0 Je a b);have Qi:Zec Zb0 ⟨[],[],[],[]⟩ a b=R:=Qo;have Zq:=Qo;unfold Zec at Zq;by_cases Is:a.length=b.length
 case neg =>
  have Qk:((a.length:Int) != (b.length:Int))=true:=by rw [bne_iff_ne];omega
  have Zzy:(a.length==b.length)=false:=by rw [Za];exact Is
  rw [Zzy,Bool.false_and] at Zq;subst Zq;cases hc;refine W5 2 ?_;exact dL
 have Qk:((a.length:Int) != (b.length:Int))=false:=by rw [Is,bne_self_eq_false]
 have Zzy:(a.length==b.length)=true:=by rw [Zj];exact Is
 rw [Zzy,Bool.true_and] at Zq;cases hc;refine W5 2 ?_;have Kq:Kjd:=⟨⟩;exact Jw
noncomputable def pU (t u:Sl Node):Bool:=if t.l.length=0∨u.l.length=0 then t.l.length==u.l.length else Zy7 t.l u.l
def Qpl (t:Sl Node):Prop:=t.l.length≤1000000000∧(t.l.length=0∨Qvu t.l)
noncomputable def D7:Con:=Jy (fun (x y:Sl Node)=>Qpl x∧Qpl y) pU
theorem Zbo:Qc Tryz.prog (81,D7):=by
 obtain ⟨Kx,Kt,Kc,Kd,Kb,Ku,Kw,K,X4,_⟩:=J7 Zx Zo [] false (Q1 good_BelowP cL.eq_def J5);have Ko:=D7.eq_def;refine J9 K Tryz.func81 [.tmp 4] rfl 21 rfl (fun c hc Ji Zh=>?_);unfold D7 at Zh;obtain ⟨⟨t⟩,⟨u⟩,rfl,⟨t1,t2⟩,u1,u2⟩:=Qf Zh;simp only at t1 t2 u1 u2;clear Zh;obtain ⟨R,Qi⟩:=exq (pU ⟨t⟩ ⟨u⟩);have Ql:=Qi;unfold pU at Ql;simp only at Ql;cases hc;by_cases Qmi:t.length=0
 ·have Qk:((t.length:Int)==0)=true:=by rw [Zj];omega
  rw [if_pos (.inl Qmi)] at Ql;have Qo:((t.length:Int)==(u.length:Int))=R:=by rw [←Ql,Bool.eq_iff_iff];simp only [Zj];omega
  exact dL
 have Qk:((t.length:Int)==0)=false:=by rw [Za];omega
 by_cases Qmh:u.length=0
 ·have Qn:((u.length:Int)==0)=true:=by rw [Zj];omega
  rw [if_pos (.inr Qmh)] at Ql;have Qo:((t.length:Int)==(u.length:Int))=R:=by rw [←Ql,Bool.eq_iff_iff];simp only [Zj];omega
  exact dL
 have Qn:((u.length:Int)==0)=false:=by rw [Za];omega
 rw [if_neg (by omega)] at Ql
 have t3:=t2.resolve_left Qmi;have u3:=u2.resolve_left Qmh;exact N6
noncomputable def D1:Con:=Um (fun (a b:Sl (Sl Node)) (_:Fn0 81)=>(Lo a.l.length∧∀ x∈a.l,Qpl x)∧(Lo b.l.length∧∀ x∈b.l,Qpl x)) (fun a b _=>Zec pU (⟨[]⟩:Sl Node) a.l b.l)
class Kjh:Prop
theorem Kjh.k (_:Kjh) (h:p:=by
 first|exact s1|exact s2|exact s1.1|exact s1.2|exact s2.1|exact s2.2|rfl|trivial|skip):p:=h
class Kji:Prop
theorem Kji.k (_:Kji) (h:p:=by
 first|exact s1|exact s2|exact s1.1|exact s1.2|exact s2.1|exact s2.2|exact ⟨k+1,by exact Qt,by omega,Eq.mpr hQ h9,by omega⟩|rfl|trivial|skip):p:=h
class Kjg:Prop
theorem Kjg.k (_:Kjg) (h:p:=by
 refine Zm [6,7,8,9,18,19,20,21,22,23,24,25,26,27,28,29,30,31] (fun k:Nat=>[(17,.d (.int .i64 k))]) (fun k:Nat=>[]) (fun k:Nat=>k≤a.length∧∀ j,j<k→pU (a.getD j (⟨[]⟩:Sl Node)) (b.getD j (⟨[]⟩:Sl Node))=true) (fun k:Nat=>a.length-k) 0 ?_ ?_ ?_
 ·exact ⟨by omega,fun j hj=>absurd hj (Nat.not_lt_zero j)⟩
 ·exact Qt
 rintro k ⟨hk,Jl⟩;rcases Zn k a.length with ⟨Zv,Qi⟩|⟨Zv,Qi⟩
 rotate_left
 ·have Qn:R=true:=by rw [←Zq];exact Sj fun j hj=>Jl j (by omega)
  clear Jl;exact dL
 have Mx:k<b.length:=by omega
 have Ql:=Zp (⟨[]⟩:Sl Node) Zv;have Qp:=Zp (⟨[]⟩:Sl Node) Mx;have s1:=hA (a.getD k (⟨[]⟩:Sl Node)) (by simp [Zv])
 have s2:=hB (b.getD k (⟨[]⟩:Sl Node)) (by simp [Mx])
 have Jg:pU (a.getD k (⟨[]⟩:Sl Node)) (b.getD k (⟨[]⟩:Sl Node))=true→∀ j,j<k+1→pU (a.getD j (⟨[]⟩:Sl Node)) (b.getD j (⟨[]⟩:Sl Node))=true:=fun h=>Vd Jl h;have Qs:pU (a.getD k (⟨[]⟩:Sl Node)) (b.getD k (⟨[]⟩:Sl Node))=false→R=false:=fun h=>by rw [←Zq];exact Bj Zv h
 obtain ⟨Q,hQ⟩:=exq ((∀ j,j<k+1→pU (a.getD j (⟨[]⟩:Sl Node)) (b.getD j (⟨[]⟩:Sl Node))=true));rw [hQ] at Jg;obtain ⟨x,hx⟩:=exq (a.getD k (⟨[]⟩:Sl Node));obtain ⟨y,hy⟩:=exq (b.getD k (⟨[]⟩:Sl Node));rw [hx] at Ql s1 Jg Qs;rw [hy] at Qp s2 Jg Qs;clear Jl;obtain ⟨t⟩:=x;obtain ⟨u⟩:=y;cases Qv:pU ⟨t⟩ ⟨u⟩ with
 | false =>
  have Qn:=Qs Qv;clear Jg Qs;have Q3:=@Zgw;have Kq:Kjh:=⟨⟩;exact Jw
 | true =>
  have h9:=Jg Qv;clear Jg Qs;have Q3:=@Zgw;have Kq:Kji:=⟨⟩;exact Jw):p:=h
theorem good_equalTys:Qc Tryz.prog (80,D1):=by
 obtain ⟨Kx,Kt,Kc,Kd,Kb,Ku,Kw,K,X4,_⟩:=J7 Zx Zo [] false (Q1 Zbo D7.eq_def J5);have Ko:=D1.eq_def;refine J9 K Tryz.func80 [.tmp 6] rfl 32 rfl (fun c hc Ji Zh=>?_);unfold D1 at Zh;obtain ⟨⟨a⟩,⟨b⟩,f,rfl,⟨ha,hA⟩,hb,hB⟩:=Vb Zh;simp only at ha hb hA hB;clear Zh;have ha:a.length≤9223372036854775807:=ha;have hb:b.length≤9223372036854775807:=hb;obtain ⟨R,Qo⟩:=exq (Zec pU (⟨[]⟩:Sl Node) a b);have Zq:=Qo;unfold Zec at Zq;by_cases Is:a.length=b.length
 case neg =>
  have Qk:((a.length:Int) != (b.length:Int))=true:=by rw [bne_iff_ne];omega
  have Zzy:(a.length==b.length)=false:=by rw [Za];exact Is
  rw [Zzy,Bool.false_and] at Zq;subst Zq;cases hc;refine W5 2 ?_;exact dL
 have Qk:((a.length:Int) != (b.length:Int))=false:=by rw [Is,bne_self_eq_false]
 have Zzy:(a.length==b.length)=true:=by rw [Zj];exact Is
 rw [Zzy,Bool.true_and] at Zq;cases hc;refine W5 2 ?_;have Kq:Kjg:=⟨⟩;exact Jw
end Go.Am.Ty
