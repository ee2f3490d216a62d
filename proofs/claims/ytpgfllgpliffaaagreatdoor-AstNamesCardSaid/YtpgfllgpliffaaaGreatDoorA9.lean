/- Contracts of functions that the law reaches, and plain laws. Conditions: those that each contract states. -/
import Derived.Test.YtpgfllgpliffaaaGreatDoorA8
set_option maxHeartbeats 8000000
set_option linter.unusedVariables false
set_option linter.unusedSimpArgs false
variable {p:Prop}
namespace Go.Am.Ty
open Go.Proofs Go.Rose Go.Rose.Rose Gr
def X9 (s:List UInt8) (p:Part):Prop:=p.bind≠s∧(p.kind=5→p.name≠s)
theorem eV {p:Part} {k:Nat} {b:List (List UInt8)} {s:List UInt8} (h:X9 s p) (hb:Uc b s=false):Uc (Kz p k b) s=false:=by
 have h1:Uc [p.bind] s=false:=by
  unfold Uc;simp [h.1]
 unfold Kz;rw [Uk];have h2:Uc (if p.kind=5 then [p.name] else []) s=false:=by
  split
  ·next h5 =>
   unfold Uc;simp [h.2 h5]
  ·rfl
 rw [h2,Bool.or_false];split
 ·rw [Uk,hb,h1];rfl
 ·exact hb
theorem jQ:∀ (x:Rose Part) (b:List (List UInt8)) (s:List UInt8),wf Wr x→(∀ p∈nds x,X9 s p)→Uc b s=false→(∃ p∈nds x,p.kind=1∧p.name=s)→s∈freeT x b:=by
 intro x
 induction x using Rose.rec (motive_2:=fun xs=>∀ (p:Part) (k:Nat) (b:List (List UInt8)) (s:List UInt8),wfs Wr xs→X9 s p→(∀ p∈ndss xs,X9 s p)→Uc b s=false→(∃ q∈ndss xs,q.kind=1∧q.name=s)→s∈freeTs p xs k b) with
 | mk p ks ih =>
  intro b s hw hu hb Zpz;obtain ⟨h1,h2⟩:=hw;rw [Jt] at hu Zpz;obtain ⟨q,hq,hk,hn⟩:=Zpz;rw [freeT];rcases Zm.1 hq with rfl|hq
  ·rw [if_pos ⟨hk,by rw [hn];exact hb⟩,hn]
   exact Qo.2 rfl
  ·have iO:¬ p.kind=1:=by
    intro iO;have hz:ks=[]:=by
     refine List.length_eq_zero_iff.1 (h1.trans ?_);unfold Wr Jk;rw [if_neg (by omega),if_neg (by omega),if_neg (by omega),if_neg (by omega),if_neg (by omega)]
     rfl
    subst hz;simp [ndss] at hq
   rw [if_neg (fun h=>iO h.1)];exact ih p 0 b s h2 (hu p (List.mem_cons_self ..)) (fun q hq=>hu q (List.mem_cons_of_mem _ hq)) hb ⟨q,hq,hk,hn⟩
 | nil =>
  rename_i p k b s hw hup hu hb Zpz;obtain ⟨q,hq,_⟩:=Zpz;simp [ndss] at hq
 | cons x xs ih1 ih2 =>
  rename_i p k b s hw hup hu hb Zpz;rw [freeTs,List.mem_append];obtain ⟨q,hq,hk,hn⟩:=Zpz;rw [ndss] at hu hq;rcases List.mem_append.1 hq with hq|hq
  ·exact .inl (ih1 _ s hw.1 (fun q hq=>hu q (List.mem_append_left _ hq)) (eV hup hb) ⟨q,hq,hk,hn⟩)
  ·exact .inr (ih2 p (k+1) b s hw.2 hup (fun q hq=>hu q (List.mem_append_right _ hq)) hb ⟨q,hq,hk,hn⟩)
theorem nW {t:List Part} (h:Jg t=true) {s:List UInt8} (hu:∀ p∈t,X9 s p):s∈J5 t↔∃ p∈t,p.kind=1∧p.name=s:=by
 obtain ⟨x,rfl,hx⟩:=X6 h;have e2:M1 Wr (nds x) 0=x:=Wq (Wx hx.wf);unfold J5;rw [e2,(Ug _).2];exact ⟨gP x [] s,jQ x [] s hx.wf hu rfl⟩
def gH (a:List UInt8) (p:Part):Bool:=(p.kind==1)&&(p.name==a)
def Dl (a b:List UInt8) (p:Part):Part:=cond (gH a p) ⟨p.kind,p.label,b,p.bind,p.many,p.num,p.t,p.u⟩ p
def Rd (a:List UInt8) (t:List Part) (i:Nat):Nat:=((t.take i).filter (gH a)).length
theorem Zak {a b:List UInt8} {p:Part}:(Dl a b p).bind=p.bind:=by unfold Dl;cases gH a p<;>rfl
theorem nN {a b:List UInt8} {p:Part}:(Dl a b p).kind=p.kind:=by unfold Dl;cases gH a p<;>rfl
theorem nM {a b s:List UInt8} {p:Part} (h:X9 s p):X9 s (Dl a b p):=by
 refine ⟨by rw [Zak];exact h.1,fun h5=>?_⟩
 rw [nN] at h5;have:gH a p=false:=by unfold gH;rw [h5];rfl
 unfold Dl;rw [this];exact h.2 h5
theorem Tv {a:List UInt8} {p:Part}:gH a p=true↔p.kind=1∧p.name=a:=by
 unfold gH;rw [Ze,Zi,Zi]
theorem aX {a:List UInt8} {t:List Part}:0<Rd a t t.length↔∃ p∈t,p.kind=1∧p.name=a:=by
 unfold Rd;rw [List.take_length,List.length_pos_iff_exists_mem];constructor
 ·rintro ⟨p,hp⟩;rw [List.mem_filter,Tv] at hp;exact ⟨p,hp.1,hp.2⟩
 ·rintro ⟨p,hp,h⟩;exact ⟨p,List.mem_filter.2 ⟨hp,Tv.2 h⟩⟩
structure NamesL (t x:List Part) (a b:List UInt8) (L M:List (List UInt8)) (c:Nat):Prop where
 was:Kr L a L.length=Jw 0 (c:Int)
 is_:0<c→Kr M b M.length=true
 same:Np t x=((c==0)||(a==b))
theorem oK {L:List (List UInt8)} {s:List UInt8}:Kr L s L.length=true↔s∈L:=by
 unfold Kr;rw [List.take_length,List.any_eq_true];constructor
 ·rintro ⟨u,hu,h⟩;rw [Zi] at h;rw [←h];exact hu
 ·exact fun h=>⟨s,h,by simp⟩
theorem lR {a b:List UInt8} {t:List Part}:Np t (t.map (Dl a b))=((Rd a t t.length==0)||(a==b)):=by
 unfold Np;rw [Bool.eq_iff_iff,Zi,Bool.or_eq_true,Zi,Zi,List.map_map];constructor
 ·intro h;rcases Nat.eq_zero_or_pos (Rd a t t.length) with h0|h0
  ·exact .inl h0
  ·right;obtain ⟨p,hp,hk,hn⟩:=aX.1 h0;have:=List.map_inj_left.1 h p hp;have h2:=congrArg Part.name this;have hi:gH a p=true:=Tv.2 ⟨hk,hn⟩;simp only [Function.comp,Vb,Dl,hi,cond_true] at h2;rw [←hn,h2]
 ·intro h;refine List.map_inj_left.2 fun p hp=>?_;simp only [Function.comp];cases hi:gH a p with
  | false=>unfold Dl;rw [hi];rfl
  | true =>
   rcases h with h|h
   ·exfalso;have:0<Rd a t t.length:=aX.2 ⟨p,hp,Tv.1 hi⟩;omega
   ·subst h;obtain ⟨_,hn⟩:=Tv.1 hi;unfold Dl;rw [hi,cond_true,←hn]
theorem vY {t:List Part} {a b:List UInt8} (ht:Jg t=true) (hx:Jg (t.map (Dl a b))=true) (ha:∀ p∈t,X9 a p) (hb:∀ p∈t,X9 b p):NamesL t (t.map (Dl a b)) a b (J5 t) (J5 (t.map (Dl a b))) (Rd a t t.length):=by
 refine ⟨?_,fun h0=>?_,lR⟩
 ·rw [Bool.eq_iff_iff,oK,nW ht ha,←aX,Xs];omega
 ·rw [oK,nW hx (fun p hp=>by
   obtain ⟨q,hq,rfl⟩:=List.mem_map.1 hp;exact nM (hb q hq))]
  obtain ⟨p,hp,h⟩:=aX.1 h0;refine ⟨Dl a b p,List.mem_map.2 ⟨p,hp,rfl⟩,by rw [nN];exact h.1,?_⟩
  unfold Dl;rw [Tv.2 h];rfl
open Enc (enc dec)
def fQ (a b:List UInt8) (t:List Part) (i:Nat):List Part:=(t.take i).map (Dl a b)++t.drop i
theorem Zbj {a b:List UInt8} {t:List Part} {i:Nat} (h:i≤t.length):(fQ a b t i).length=t.length:=by
 unfold fQ;rw [Zj,Qq,List.length_take,List.length_drop];omega
theorem lY {a b:List UInt8} {t:List Part}:fQ a b t 0=t:=by simp [fQ]
theorem yQ {a b:List UInt8} {t:List Part}:fQ a b t t.length=t.map (Dl a b):=by simp [fQ]
theorem R0 {a b:List UInt8} {t:List Part} {i:Nat} (h:i<t.length):fQ a b t i=(t.take i).map (Dl a b)++t.getD i e0::t.drop (i+1):=by
 unfold fQ;rw [List.drop_eq_getElem_cons h,show t.getD i e0=t[i] by simp [h]]
theorem lV {a b:List UInt8} {t:List Part} {i:Nat} (h:i<t.length):fQ a b t (i+1)=(t.take i).map (Dl a b)++Dl a b (t.getD i e0)::t.drop (i+1):=by
 unfold fQ;rw [List.take_succ_eq_append_getElem h,List.map_append,show t.getD i e0=t[i] by simp [h]]
 simp
theorem Znt {a b:List UInt8} {t:List Part} {i:Nat} (h:i<t.length):(fQ a b t i).getD i e0=t.getD i e0:=by
 rw [R0 h];have:((t.take i).map (Dl a b)).length=i:=by rw [Qq,List.length_take];omega
 rw [Zg,List.getElem?_append_right (by omega),this,Nat.sub_self]
 rfl
theorem Zbi {a b:List UInt8} {t:List Part} {i:Nat} (h:i<t.length):((fQ a b t i).map (enc:Part→D)).set i (enc (Dl a b (t.getD i e0)))=(fQ a b t (i+1)).map enc:=by
 rw [R0 h,lV h,List.map_append,List.map_append];have:(((t.take i).map (Dl a b)).map (enc:Part→D)).length=i:=by rw [Qq,Qq,List.length_take];omega
 rw [List.set_append_right _ _ (by omega),this,Nat.sub_self]
 rfl
theorem wR {a:List UInt8} {t:List Part} {i:Nat} (h:i<t.length):Rd a t (i+1)=Rd a t i+cond (gH a (t.getD i e0)) 1 0:=by
 unfold Rd;rw [List.take_succ_eq_append_getElem h,List.filter_append,Zj,show t.getD i e0=t[i] by simp [h]]
 cases hi:gH a t[i]<;>simp [List.filter_cons,hi]
theorem tC {a:List UInt8} {t:List Part} {i:Nat} (h:i≤t.length):Rd a t i≤i:=by
 unfold Rd;have:=List.length_filter_le (gH a) (t.take i);rw [List.length_take] at this;omega
def con_AstNames:Con:=kJ (fun (t:Sl Part) (a b:List UInt8)=>rI t.l∧a.length≤9223372036854775807∧b.length≤9223372036854775807) (fun _ _ _=>true)
class Kgc:Prop
theorem Kgc.k (_:Kgc) (h:p:=by
 clear Qu Qz Qs Q0 Q6 Q5 Ja Jq Q9 Je;repeat' first|exact Lz|with_reducible apply Z3|intro _
 all_goals first|contradiction|exact ⟨i+1,by (have En:=hx;have xN:=Qak;have yY:=Lg;exact J0),by omega,Eq.mpr hQ hu,by omega⟩|with_reducible exact Zre|(rw [Qn];omega)|omega|rfl|skip):p:=h
class Kgd:Prop
theorem Kgd.k (_:Kgd) (h:p:=by
 clear Qu Qz Qs Q0 Q6 Q5 Ja Jq;repeat' first|exact Lz|with_reducible apply Z3|intro _
 all_goals first|contradiction|exact ⟨i+1,by (have En:=hx;have xN:=Qak;have yY:=Lg;exact J0),by omega,Eq.mpr hQ hu,by omega⟩|with_reducible exact Zre|(rw [Qn];omega)|omega|rfl|skip):p:=h
class Kge:Prop
theorem Kge.k (_:Kge) (h:p:=by
 clear Qu Qz Qs Q0 Q6 Q5 Ja Jq Q9;repeat' first|exact Lz|with_reducible apply Z3|intro _
 all_goals first|contradiction|exact ⟨i+1,by (have En:=hx;have xN:=Qak;have yY:=Lg;exact J0),by omega,Eq.mpr hQ hu,by omega⟩|with_reducible exact Zre|(rw [Qn];omega)|omega|rfl|skip):p:=h
class Kgf:Prop
theorem Kgf.k (_:Kgf) (h:p:=by
 clear Qu Qz Qs Q0 Q6 Q5 Ja Jq Q9 Je Qe Qc Qg;repeat' first|exact Lz|with_reducible apply Z3|intro _
 all_goals first|contradiction|exact ⟨i+1,by (have En:=Zx9;have xN:=Lg;exact J0),by omega,Eq.mpr hQ hu,by omega⟩|with_reducible exact Zre|(rw [Qn];omega)|omega|rfl|skip):p:=h
class Kgh:Prop
theorem Kgh.k (_:Kgh) (h:p:=by
 clear Qu Qz;repeat' first|exact Lz|with_reducible apply Z3|intro _
 all_goals first|contradiction|exact ⟨n+1,by (have En:=N8;exact J0),by omega,by omega⟩|with_reducible exact Zre|(rw [Qn];omega)|omega|rfl|skip):p:=h
class Kgi:Prop
theorem Kgi.k (_:Kgi) (h:p:=by
 clear Qu Qz Qs Q0;repeat' first|exact Lz|with_reducible apply Z3|intro _
 all_goals first|contradiction|exact ⟨n+1,by (have En:=N8;exact J0),by omega,by omega⟩|with_reducible exact Zre|(rw [Qn];omega)|omega|rfl|skip):p:=h
class Kgk:Prop
theorem Kgk.k (_:Kgk) (h:p:=by
 clear Qu Qz;repeat' first|exact Lz|with_reducible apply Z3|intro _
 all_goals first|contradiction|exact ⟨n+1,by (have En:=N8;exact J0),by omega,by omega⟩|with_reducible exact Zre|(rw [Qn];omega)|omega|rfl|skip):p:=h
class Kgl:Prop
theorem Kgl.k (_:Kgl) (h:p:=by
 clear Qu Qz Qs Q0;repeat' first|exact Lz|with_reducible apply Z3|intro _
 all_goals first|contradiction|exact ⟨n+1,by (have En:=N8;exact J0),by omega,by omega⟩|with_reducible exact Zre|(rw [Qn];omega)|omega|rfl|skip):p:=h
class Kgm:Prop
theorem Kgm.k (_:Kgm) (h:p:=by
 clear Qu Qz Qs Q0;repeat' first|exact Lz|with_reducible apply Z3|intro _
 all_goals first|contradiction|exact i1|exact i2|exact Zxo|exact Ztu _|exact Ztu _ (by omega) (by omega)|with_reducible exact Zre|(rw [Qn];omega)|omega|rfl|skip):p:=h
class Kgn:Prop
theorem Kgn.k (_:Kgn) (h:p:=by
 clear Qu Qz Qs Q0 Q6 Q5 Ja Jq;repeat' first|exact Lz|with_reducible apply Z3|intro _
 all_goals first|contradiction|exact i1|exact i2|exact Zxo|exact Ztu _|exact Ztu _ (by omega) (by omega)|with_reducible exact Zre|(rw [Qn];omega)|omega|rfl|skip):p:=h
class Kgj:Prop
theorem Kgj.k (_:Kgj) (h:p:=by
 clear Qu Qz;repeat' first|exact Lz|with_reducible apply Z3|intro _
 all_goals first|contradiction|with_reducible exact Zre|(rw [Qn];omega)|omega|rfl|skip
 refine Z1 [132,133,134,135,136,137,138,139,140,141,142,143,144,145,146] (fun n:Nat=>[(13,.d (.bool (Kr M b n))),(15,.d (.int .i64 n))]) (fun n:Nat=>[]) (fun n:Nat=>n≤M.length) (fun n:Nat=>M.length-n) 0 ?_ ?_ ?_
 ·omega
 ·refine Zbk ?_;all_goals rfl
 rintro n hn;rcases Z5 n M.length with ⟨Rt,Qal⟩|⟨Rt,Qal⟩
 ·have q5:=Z9 ([]:List UInt8) Rt;have N8:=P3 (s:=b) Rt;obtain ⟨u,hu⟩:=exq (M.getD n []);rw [hu] at q5 N8;cases hf:Kr M b n with
  | true =>
   rw [hf,Bool.true_or] at N8;have Qu:=Qal;have Qz:=hf;have Kq:Kgk:=⟨⟩;exact uC
  | false =>
   rw [hf,Bool.false_or] at N8;obtain ⟨b2,Dq⟩:=exq ((u==b));rw [Dq] at N8;have Qu:=Qal;have Qz:=hf;have Qs:=q5;have Q0:=Dq;have Kq:Kgl:=⟨⟩;exact uC
 have Gk:n=M.length:=by omega
 subst Gk;rcases Nat.eq_zero_or_pos cn with Zc1|Zc1
 ·subst Zc1;have c1:Jw 0 ((0:Nat):Int)=false:=by rw [Jl];omega
  have c2:(((0:Nat):Int)==0)=true:=rfl;rw [c1] at w1;subst w1;have Oy:S=true:=by rw [iN];rfl
  subst Oy;have Qu:=Qal;have Qz:=hW;have Qs:=hS;have Q0:=Qau;have Kq:Kgm:=⟨⟩;exact uC
 ·have w2:=w2 Zc1;have c1:Jw 0 (cn:Int)=true:=by rw [Xs];omega
  have c2:((cn:Int)==0)=false:=by rw [Za];omega
  have c3:(cn==0)=false:=by rw [Za];omega
  rw [c1] at w1;subst w1;rw [c3,Bool.false_or] at iN;have Qu:=Qal;have Qz:=hW;have Qs:=hS;have Q0:=Qau;have Q6:=c1;have Q5:=c2;have Ja:=w2;have Jq:=iN;have Kq:Kgn:=⟨⟩;exact uC):p:=h
class Kgg:Prop
theorem Kgg.k (_:Kgg) (h:p:=by
 clear Qu Qz Qs Q0 Q6 Q5;repeat' first|exact Lz|with_reducible apply Z3|intro _
 all_goals first|contradiction|exact x6|exact Zpn|exact xL|exact Zbh|exact lZ|with_reducible exact Zre|(rw [Qn];omega)|omega|rfl|skip
 refine Z1 [117,118,119,120,121,122,123,124,125,126,127,128,129,130,131] (fun n:Nat=>[(12,.d (.bool (Kr L a n))),(14,.d (.int .i64 n))]) (fun n:Nat=>[]) (fun n:Nat=>n≤L.length) (fun n:Nat=>L.length-n) 0 ?_ ?_ ?_
 ·omega
 ·refine Zbk ?_;all_goals rfl
 rintro n hn;rcases Z5 n L.length with ⟨Rt,Ls⟩|⟨Rt,Ls⟩
 ·have q5:=Z9 ([]:List UInt8) Rt;have N8:=P3 (s:=a) Rt;obtain ⟨u,hu⟩:=exq (L.getD n []);rw [hu] at q5 N8;cases hf:Kr L a n with
  | true =>
   rw [hf,Bool.true_or] at N8;have Qu:=Ls;have Qz:=hf;have Kq:Kgh:=⟨⟩;exact uC
  | false =>
   rw [hf,Bool.false_or] at N8;obtain ⟨b2,Dq⟩:=exq ((u==a));rw [Dq] at N8;have Qu:=Ls;have Qz:=hf;have Qs:=q5;have Q0:=Dq;have Kq:Kgi:=⟨⟩;exact uC
 have Gk:n=L.length:=by omega
 subst Gk;obtain ⟨W,hW⟩:=exq (Kr L a L.length);rw [hW] at w1;have Qu:=Ls;have Qz:=hW;have Kq:Kgj:=⟨⟩;exact uC):p:=h
class Kgb:Prop
theorem Kgb.k (_:Kgb) (h:p:=by
 clear Qu Qz Qs Q0;repeat' first|exact Lz|with_reducible apply Z3|intro _
 all_goals first|contradiction|exact hA|exact a2|with_reducible exact Zre|(rw [Qn];omega)|omega|rfl|skip
 refine Z1 [6,38,39,40,41,42,43,44,45,46,47,48,49,50,51,52,53,54,55,56,57,58,59,60,61,62,63,64,65,66,67,68,69,70,71,72,73,74,75,76,77,78,79,80,81,82,83,84,85,86,87,88,89,90,91,92,93,94,95,96,97,98,99,100,101,102,103,104,105,106,107,108] (fun i:Nat=>[(8,.d (.int .i64 (Rd a t i))),(9,.d (.int .i64 i))]) (fun i:Nat=>[(35,.row 8 ((fQ a b t i).map enc) 0)]) (fun i:Nat=>i≤t.length∧∀ j,j<i→X9 a (t.getD j e0)∧X9 b (t.getD j e0)) (fun i:Nat=>t.length-i) 0 ?_ ?_ ?_
 ·exact ⟨Nat.zero_le _,fun j hj=>by omega⟩
 ·have En:=@lY;refine Zbk ?_;all_goals first|rfl|simp [lY]|skip
 rintro i ⟨hi,Zaz⟩;have Qao:=Zbj (a:=a) (b:=b) hi;rcases Z5 i t.length with ⟨Qd,Qam⟩|⟨Qd,Qam⟩
 ·have q1:=Z9 e0 Qd;have q2:=Z9 e0 (show i<(fQ a b t i).length by omega)
  rw [Znt Qd] at q2;have Aw:=Zbi (a:=a) (b:=b) Qd;have Lg:=wR (a:=a) Qd;have oS:=tC (a:=a) (show i≤t.length from hi);have Rr:X9 a (t.getD i e0)→X9 b (t.getD i e0)→∀ j,j<i+1→X9 a (t.getD j e0)∧X9 b (t.getD j e0):=fun g1 g2 j hj=>by
   rcases Nat.lt_or_ge j i with h|h
   ·exact Zaz j h
   ·have:j=i:=by omega
    subst this;exact ⟨g1,g2⟩
  have W3:Dl a b (t.getD i e0)=t.getD i e0→fQ a b t (i+1)=fQ a b t i:=fun e=>by rw [lV Qd,R0 Qd,e]
  obtain ⟨p,hp⟩:=exq (t.getD i e0);rw [hp] at q1 q2 Aw Lg W3;obtain ⟨Q,hQ⟩:=exq ((∀ j,j<i+1→X9 a (t.getD j e0)∧X9 b (t.getD j e0)));rw [hp,hQ] at Rr;clear Zaz;obtain ⟨X0,Qak⟩:=exq (fQ a b t i);rw [Qak] at Qao q2 Aw W3;have Qar:(X0.map (enc:Part→D)).length=t.length:=by rw [Qq,Qao]
  obtain ⟨cn,Zx5⟩:=exq (Rd a t i);rw [Zx5] at Lg oS;obtain ⟨pk,pl,pn,pb,pm,pq,pt,pu⟩:=p;cases oT:(pb==a) with
  | true =>
   have Qu:=Qam;have Qz:=q1;have Qs:=oT;have Q0:=Qak;have Q6:=Zx5;have Q5:=@List.getD_cons_zero.{0};exact Uy
  | false =>
  cases Dq:(pb==b) with
  | true =>
   have Qu:=Qam;have Qz:=q1;have Qs:=oT;have Q0:=Dq;have Q6:=Qak;have Q5:=Zx5;exact Uy
  | false =>
  have g1:=Za.1 oT;have g2:=Za.1 Dq;cases Qap:(pk==5) with
  | true =>
   have k5:=Zi.1 Qap;have aK:(pk==1)=false:=by rw [Za];omega
   cases Qan:(pn==a) with
   | true =>
    have Qu:=Qam;have Qz:=q1;have Qs:=oT;have Q0:=Dq;have Q6:=Qap;have Q5:=Qan;have Ja:=Qak;have Jq:=Zx5;exact Uy
   | false =>
   cases Qaq:(pn==b) with
   | true =>
    have Qu:=Qam;have Qz:=q1;have Qs:=oT;have Q0:=Dq;have Q6:=Qap;have Q5:=Qan;have Ja:=Qaq;have Jq:=Qak;have Q9:=Zx5;exact Uy
   | false =>
   have Qaj:gH a ⟨pk,pl,pn,pb,pm,pq,pt,pu⟩=false:=by unfold gH;rw [aK];rfl
   have hu:=Rr ⟨g1,fun _=>Za.1 Qan⟩ ⟨g2,fun _=>Za.1 Qaq⟩;have hx:=W3 (by unfold Dl;rw [Qaj];rfl)
   rw [Qaj,cond_false,Nat.add_zero] at Lg;have Qu:=Qam;have Qz:=q1;have Qs:=oT;have Q0:=Dq;have Q6:=Qap;have Q5:=aK;have Ja:=Qan;have Jq:=Qaq;have Q9:=Qak;have Je:=Zx5;have Kq:Kgc:=⟨⟩;exact uC
  | false =>
   have k5:=Za.1 Qap;have hu:=Rr ⟨g1,fun h=>absurd h k5⟩ ⟨g2,fun h=>absurd h k5⟩;cases Qaj:gH a ⟨pk,pl,pn,pb,pm,pq,pt,pu⟩ with
   | false =>
    have hx:=W3 (by unfold Dl;rw [Qaj];rfl)
    rw [Qaj,cond_false,Nat.add_zero] at Lg;unfold gH at Qaj;simp only at Qaj;cases aK:(pk==1) with
    | false =>
     have Qu:=Qam;have Qz:=q1;have Qs:=oT;have Q0:=Dq;have Q6:=Qap;have Q5:=aK;have Ja:=Qak;have Jq:=Zx5;have Kq:Kgd:=⟨⟩;exact uC
    | true =>
     rw [aK,Bool.true_and] at Qaj;have Qu:=Qam;have Qz:=q1;have Qs:=oT;have Q0:=Dq;have Q6:=Qap;have Q5:=aK;have Ja:=Qaj;have Jq:=Qak;have Q9:=Zx5;have Kq:Kge:=⟨⟩;exact uC
   | true =>
    have eQ:(X0.map (enc:Part→D)).set i (.agg [.int .i64 pk,.str pl,.str b,.str pb,.int .i64 pm,.int .i64 pq,.list 3 (pt.map enc),.list 3 (pu.map enc)])=(fQ a b t (i+1)).map enc:=by
     rw [←Aw];unfold Dl;rw [Qaj];rfl
    rw [Qaj,cond_true] at Lg;unfold gH at Qaj;simp only [Ze] at Qaj;obtain ⟨aK,Qan⟩:=Qaj;obtain ⟨X1,Zx9⟩:=exq (fQ a b t (i+1));rw [Zx9] at eQ;have Qu:=Qam;have Qz:=q1;have Qs:=q2;have Q0:=oT;have Q6:=Dq;have Q5:=Qap;have Ja:=aK;have Jq:=Qan;have Q9:=eQ;have Je:=Qar;have Qe:=Qak;have Qc:=Zx5;have Qg:=@List.getD_cons_zero.{0};have Kq:Kgf:=⟨⟩;exact uC
 have Zv0:i=t.length:=by omega
 subst Zv0;have hU:∀ p∈t,X9 a p∧X9 b p:=fun p hp=>by
  obtain ⟨j,hj,rfl⟩:=List.getElem_of_mem hp;have:=Zaz j hj;rwa [show t.getD j e0=t[j] by simp [hj]] at this
 clear Zaz;have Zno:=yQ (a:=a) (b:=b) (t:=t);have oS:=tC (a:=a) (Zk t.length);have iN:=lR (a:=a) (b:=b) (t:=t);have Zo4:=fun hx=>vY (a:=a) (b:=b) fb hx (fun p hp=>(hU p hp).1) (fun p hp=>(hU p hp).2);have Kk:∀ p∈t.map (Dl a b),oE p:=fun p hp=>by
  obtain ⟨q,hq,rfl⟩:=List.mem_map.1 hp;have hf:=ea.fits q hq;unfold Dl;cases gH a q with
  | false=>exact hf
  | true=>exact ⟨hf.1,hf.2.1,⟨hf.2.2.1.1,hf.2.2.1.2.1,hf.2.2.1.2.2.1,by show b.length≤_;omega,hf.2.2.1.2.2.2.2⟩,by show b.length≤_;omega⟩
 have lZ:∀ p∈t.map (Dl a b),p.name.length≤3000000:=fun p hp=>by
  obtain ⟨q,hq,rfl⟩:=List.mem_map.1 hp;have hf:=(Pm (ea.parts q hq)).name;unfold Dl;cases gH a q with
  | false=>show q.name.length≤_;omega
  | true=>show b.length≤_;omega
 have Zbh:∀ p∈t,p.name.length≤3000000:=fun p hp=>by
  have:=(Pm (ea.parts p hp)).name;omega
 rw [Zno] at Qao ⊢;clear hU Zno;obtain ⟨X,hX⟩:=exq (t.map (Dl a b));rw [hX] at Qao iN Zo4 Kk lZ ⊢;obtain ⟨cn,Zx5⟩:=exq (Rd a t t.length);rw [Zx5] at oS iN Zo4 ⊢;have Qar:(X.map (enc:Part→D)).length=t.length:=by rw [Qq,Qao]
 have x6:∀ p∈X,Zcq p:=fun p hp=>⟨(Kk p hp).2.2.1,(Kk p hp).2.2.2⟩;have i1:=ea.in5 (by omega)
 have i2:xP X:=⟨by omega,fun p hp=>⟨by have:=(Kk p hp).1.1;omega,by have:=(Kk p hp).2.1.1;omega⟩⟩
 cases fc:Jg X with
 | false =>
  have Qu:=Qam;have Qz:=fc;have Qs:=Qar;have Q0:=Qao;exact Uy
 | true =>
 obtain ⟨w1,w2,-⟩:=Zo4 fc;have Zpn:=Gy fb;have xL:=Gy fc;have Zt2:=Tx fb;have Zv6:=Tx fc;have oO:=N1 Zpn;have kO:=N1 xL;have Zxo:=Gl fc;have Ztu:=Hj fc;have Qau:M9 X 0=(t.length:Int):=by
  have h:=fc;unfold Jg at h;simp only [Ze,Zi] at h;rw [h.2.2.1.1,Qao]
 obtain ⟨L,hL⟩:=exq (J5 t);obtain ⟨M,hM⟩:=exq (J5 X);rw [hL] at w1 Zt2 oO;rw [hM] at w2 Zv6 kO;obtain ⟨S,hS⟩:=exq (Np t X);rw [hS] at iN;have Qu:=Qam;have Qz:=fc;have Qs:=Qar;have Q0:=Qao;have Q6:=Zt2;have Q5:=Zv6;have Kq:Kgg:=⟨⟩;exact uC):p:=h
set_option maxRecDepth 100000 in
theorem good_AstNames:Jc Tryz.prog (9,con_AstNames):=by
 obtain ⟨Kx,Kt,Kc,Kd,Kb,Ku,Kw,K,Y6,P7,aV,dF,oD,tN,_⟩:=W5 Qj Z0 [] false (Xa good_Few5 Zz5 (Xa good_Right5 Zc6 (Xa good_alive05 xM (Xa good_FreeA Gj.eq_def (Xa good_SameA Na.eq_def (Xa good_EndA Zz6 W4))))));have Ko:=con_AstNames.eq_def;refine Yv K Tryz.func9 [.tmp 6] rfl 181 rfl (fun c hc Jj Zo=>?_);unfold con_AstNames at Zo;obtain ⟨⟨t⟩,a,b,rfl,⟨ha,hA⟩,Zx8,Zc2⟩:=Te Zo;simp only at ha hA;clear Zo;cases fa:cF t 100 with
 | false =>
  cases hc;refine Kn 11 ?_;have Qu:=fa;exact Uy
 | true =>
 have ea:FewE t 100:=T5 fa;have a2:=ea.fit6;have a4:=ea.len;cases fb:Jg t with
 | false =>
  cases hc;refine Kn 11 ?_;have Qu:=fa;have Qz:=fb;exact Uy
 | true =>
 rcases Xy 100 a.length with ⟨h0,Qas⟩|⟨h0,Qas⟩
 ·have hz:True:=trivial;cases hc;refine Kn 11 ?_;have Qu:=fa;have Qz:=fb;have Qs:=Qas;exact Uy
 rcases Xy 100 b.length with ⟨h1,Qat⟩|⟨h1,Qat⟩
 ·have hz:True:=trivial;cases hc;refine Kn 11 ?_;have Qu:=fa;have Qz:=fb;have Qs:=Qas;have Q0:=Qat;exact Uy
 cases hc;refine Kn 11 ?_;have Qu:=fa;have Qz:=fb;have Qs:=Qas;have Q0:=Qat;have Kq:Kgb:=⟨⟩;exact uC
end Go.Am.Ty
