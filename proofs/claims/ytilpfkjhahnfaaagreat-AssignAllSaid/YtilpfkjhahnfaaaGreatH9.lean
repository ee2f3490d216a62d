/- Contracts of functions that the law reaches, and plain laws. Conditions: those that each contract states. -/
import Derived.Test.YtilpfkjhahnfaaaGreatH8
set_option maxHeartbeats 4000000
set_option linter.unusedVariables false
set_option linter.unusedSimpArgs false
variable {p:Prop}
set_option maxRecDepth 100000
namespace Go.Am.Ty
open Go.Proofs
open Enc (enc dec)
def pQ {A B C E R S:Type} [Enc A] [Enc B] [Enc C] [Enc E] [Enc R] [Enc S] (p:A→B→C→E→Prop) (f:A→B→C→E→R×S):Con:=⟨[false,false,false,false],[false,false],fun c=>match c with
 | [.d x,.d y,.d z,.d w]=>V9 A x∧V9 B y∧V9 C z∧V9 E w∧p (dec x) (dec y) (dec z) (dec w)
 | _=>False,fun c=>match c with
 | [.d x,.d y,.d z,.d w]=>.tup [.d (enc (f (dec x) (dec y) (dec z) (dec w)).1),.d (enc (f (dec x) (dec y) (dec z) (dec w)).2)]
 | _=>.d .nilp⟩
theorem Zzm {A B C E R S:Type} [Enc A] [Enc B] [Enc C] [Enc E] [Enc R] [Enc S] {p:A→B→C→E→Prop} {f:A→B→C→E→R×S} {c:List CV} (h:(pQ p f).pre c):∃ a b d e,c=[.d (enc a),.d (enc b),.d (enc d),.d (enc e)]∧p a b d e:=by
 unfold pQ at h;simp only at h;split at h
 ·next x y z w=>exact ⟨dec x,dec y,dec z,dec w,by rw [←h.1,←h.2.1,←h.2.2.1,←h.2.2.2.1],h.2.2.2.2⟩
 ·exact h.elim
def W9 (l:List Tok) (s:St6) (k:Int) (had:List (List UInt8)):List UInt8×St6 :=
 if (Jk l s k).2.e≠0 then Jk l s k
 else if in6 had (Jk l s k).1=true then ((Jk l s k).1,⟨s.at_,s.sites,7⟩)
 else if 50≤had.length then ((Jk l s k).1,⟨s.at_,s.sites,3⟩)
 else Jk l s k
def D4:Con:=pQ (fun (l:Sl Tok) (s:St6) (_:Int) (had:Sl (List UInt8))=>(l.l.length≤1000000∧0≤s.at_∧s.at_≤2000000)∧had.l.length≤1000000) (fun l s k had=>W9 l.l s k had.l)
theorem nN:Qa Tryz.prog (253,D4):=by
 obtain ⟨Kx,Kt,Kc,Kd,Kb,Ku,Kw,K,X9,Uv,Po,_⟩:=Xe Zv Zn [] false (Q0 Us N7 (Q0 good_in6 cJ.eq_def (Q0 Kk Sv Xd)));have Ko:=D4.eq_def;refine Xj K Tryz.func253 [.tmp 8,.cell 9 137] rfl 38 rfl (fun c hc cvs hpre=>?_);unfold D4 at hpre;obtain ⟨⟨l⟩,⟨i,ss,e⟩,kd,⟨had⟩,rfl,⟨hl,hs0,hs1⟩,hh⟩:=Zzm hpre;simp only at hl hs0 hs1 hh;clear hpre;obtain ⟨⟨Rx,⟨Ra,Rs,Re⟩⟩,Z9⟩:=exq (W9 l ⟨i,ss,e⟩ kd had);have hR2:=Z9;unfold W9 at hR2;have hcz:=Kn l ⟨i,ss,e⟩ kd;obtain ⟨⟨x,q⟩,Qb⟩:=exq (Jk l ⟨i,ss,e⟩ kd);rw [Qb] at hR2 hcz;obtain ⟨qa,qs,qe⟩:=q;simp only at hR2;have he0:qe=0→e=0:=fun h=>by
  rcases hcz with ⟨h1,h2⟩|⟨h1,_⟩|⟨h1,_⟩|⟨h1,_⟩
  ·simp only [Ze,St6.mk.injEq] at h2;rw [←h2.2.2.2];exact h
  ·exact h1
  ·exact h1
  ·exact h1
 clear hcz;cases hc;refine Y4 2 ?_;by_cases hq:qe=0
 case neg =>
  rw [if_pos hq] at hR2;have Qf:(qe != 0)=true:=bne_iff_ne.2 hq;simp only [Ze,St6.mk.injEq] at hR2;obtain ⟨rfl,rfl,rfl,rfl⟩:=hR2;have Q6:=@pQ.eq_def;have Je:=@Qr;have Q4:=@Ja;have Zu:=@Jb;exact Ln
 have Qf:(qe != 0)=false:=by rw [hq];rfl
 have he:=he0 hq;subst he;rw [if_neg (by simpa using hq)] at hR2
 have Qc:J0 ⟨i,ss,0⟩ 7=⟨i,ss,7⟩:=rfl;have Qn:J0 ⟨i,ss,0⟩ 3=⟨i,ss,3⟩:=rfl;cases Qe:in6 had x with
 | true =>
  rw [Qe,if_pos rfl] at hR2;simp only [Ze,St6.mk.injEq] at hR2;obtain ⟨rfl,rfl,rfl,rfl⟩:=hR2;have Q6:=@pQ.eq_def;have Je:=@Qr;have Q4:=@Ja;have Zu:=@Jb;exact Ln
 | false =>
  rw [Qe,if_neg (by simp)] at hR2
  by_cases h50:50≤had.length
  ·rw [if_pos h50] at hR2;have Qh:Xf 50 (had.length:Int)=true:=by rw [Qx];omega
   simp only [Ze,St6.mk.injEq] at hR2;obtain ⟨rfl,rfl,rfl,rfl⟩:=hR2;have Q6:=@pQ.eq_def;have Je:=@Qr;have Q4:=@Ja;have Zu:=@Jb;exact Ln
  ·rw [if_neg h50] at hR2;have Qh:Xf 50 (had.length:Int)=false:=by rw [←Bool.not_eq_true,Qx];omega
   simp only [Ze,St6.mk.injEq] at hR2;obtain ⟨rfl,rfl,rfl,rfl⟩:=hR2;have Q6:=@pQ.eq_def;have Je:=@Qr;have Q4:=@Ja;have Zu:=@Jb;exact Ln
def Qfq (t:Tok):Bool :=
 if t.kind=1∨t.kind=3∨t.kind=4 then true
 else if t.kind=6 then (t.text==[116,114,117,101])||(t.text==[102,97,108,115,101])
 else if t.kind=5 then (t.text==[40])||((t.text==[123])||(t.text==[91]))
 else false
def N4 (l:List Tok) (s:St6):Bool:=if s.e≠0∨(l.length:Int)≤s.at_ then false else Qfq (tk l s.at_)
def Td:Con:=Xc (fun (l:Sl Tok) (s:St6)=>l.l.length≤1000000∧0≤s.at_) (fun l s=>N4 l.l s)
structure KeV:Prop
theorem KeV.k (_:KeV) (h:p:=by
 repeat' first|exact Z8|with_reducible apply Zb|intro _
 all_goals first|with_reducible exact Jd|omega|(rw [←hR2];clear hR2 Qf K Qe ht;simp_all;done)|(symm;rw [←hR2];clear hR2 Qf K Qe ht;simp_all;done)|(rename_i h1 h2;rw [←hR2,if_neg (by omega),if_neg (by omega),if_pos (by assumption),Za.2 h1,Za.2 h2];rfl)|trivial|skip):p:=h
theorem good_begins6:Qa Tryz.prog (261,Td):=by
 obtain ⟨Kx,Kt,Kc,Kd,Kb,Ku,Kw,K,_⟩:=Xe Zv Zn [] false Xd;have Ko:=Td.eq_def;refine Xj K Tryz.func261 [.tmp 4] rfl 52 rfl (fun c hc cvs hpre=>?_);unfold Td at hpre;obtain ⟨⟨l⟩,⟨i,ss,e⟩,rfl,hl,hs0⟩:=Ql hpre;simp only at hl hs0;clear hpre;obtain ⟨i,rfl⟩:∃ n:Nat,i=n:=⟨i.toNat,by omega⟩
 obtain ⟨R,Qf⟩:=exq (N4 l ⟨i,ss,e⟩);have hR2:=Qf;unfold N4 at hR2;simp only [Gm] at hR2;cases hc;refine Y4 3 ?_;by_cases he:e=0
 case neg =>
  rw [if_pos (.inl he)] at hR2;have Qb:(e != 0)=true:=bne_iff_ne.2 he;subst hR2;have Qc:=@Qr;have Qh:=@Ja;have Qn:=@Jb;exact Zur
 have Qb:(e != 0)=false:=by rw [he];rfl
 by_cases hlt:(l.length:Int)≤(i:Int)
 ·rw [if_pos (.inr hlt)] at hR2;have Z9:Xf (l.length:Int) (i:Int)=true:=by rw [Qx];exact hlt
  subst hR2;have Qc:=@Qr;have Qh:=@Ja;have Qn:=@Jb;exact Zur
 rw [if_neg (by simp only [he];simp;omega)] at hR2
 have Z9:Xf (l.length:Int) (i:Int)=false:=by rw [←Bool.not_eq_true,Qx];exact hlt
 have Qe:=Zr Ue (show i<l.length by omega)
 obtain ⟨t,ht⟩:=exq (l.getD i Ue);rw [ht] at Qe hR2;unfold Qfq at hR2;have Qc:=@Qr;have Qh:=@Ja;have Qn:=@Jb;have Kq:KeV:=⟨⟩;exact Zln
def Ad (b:Int):List (List UInt8):=if b=0 then [[124,124]] else if b=1 then [[38,38]] else if b=2 then [[60],[61,61]] else if b=3 then [[43],[45],[43,43]] else [[42],[47]]
def A6:Con:=J7 (fun (_:Int)=>True) (fun b=>Sl.mk (Ad b))
structure KeW:Prop
theorem KeW.k (_:KeW) (h:p:=by
 repeat' first|exact Z8|with_reducible apply Zb|intro _
 all_goals first|with_reducible exact Jd|(rw [←hR2];simp_all;done)|(rw [←hR2];simp_all;rfl)|(rw [←hR2,if_pos (by assumption)];rfl)|(rw [←hR2,if_neg (by assumption),if_pos (by assumption)];rfl)|(rw [←hR2,if_neg (by assumption),if_neg (by assumption),if_pos (by assumption)];rfl)|(rw [←hR2,if_neg (by assumption),if_neg (by assumption),if_neg (by assumption),if_pos (by assumption)];rfl)|(rw [←hR2,if_neg (by assumption),if_neg (by assumption),if_neg (by assumption),if_neg (by assumption)];rfl)|skip):p:=h
theorem good_signs6:Qa Tryz.prog (255,A6):=by
 obtain ⟨Kx,Kt,Kc,Kd,Kb,Ku,Kw,K,_⟩:=Xe Zv Zn [] false Xd;have Ko:=A6.eq_def;refine Xj K Tryz.func255 [.tmp 2] rfl 17 rfl (fun c hc cvs hpre=>?_);unfold A6 at hpre;obtain ⟨b,rfl,-⟩:=Q2 hpre;clear hpre;obtain ⟨R,Qb⟩:=exq (Ad b);have hR2:=Qb;unfold Ad at hR2;cases hc;have Kq:KeW:=⟨⟩;exact Zln
def Qa6:List UInt8→Int→Int
 | [],n=>n
 | c::r,n=>Qa6 r (10*n+((c.toNat:Int)-48))
def gE (s:List UInt8):Int:=Qa6 s 0
theorem Qde {c:UInt8} (h:Wm c=true):48≤c.toNat∧c.toNat≤57:=by
 unfold Wm Xx at h;simp only [Zg,decide_eq_true_eq,UInt8.le_iff_toNat_le] at h;exact h
def E3:Con:=J7 (fun (s:List UInt8)=>Qd2 s) (fun s=>gE s)
structure KeY:Prop
theorem KeY.k (_:KeY) (h:p:=by
 repeat' first|exact Z8|with_reducible apply Zb|intro _
 all_goals first|with_reducible exact Jd|omega|(rw [Za2];omega)|(rw [Xr];omega)|exact ⟨(k+1,10*n+((d.toNat:Int)-48)),by exact Qw,by simp only;omega,by simp only;omega,hb,h4,by simp only;omega⟩|skip):p:=h
structure KeX:Prop
theorem KeX.k (_:KeX) (h:p:=by
 repeat' first|exact Z8|with_reducible apply Zb|intro _
 refine Zm [5,6,7,8,9,10,11,12,13,14,15,16,17,18] (fun p:Nat×Int=>[(3,.d (.int .i64 p.2)),(4,.d (.int .i64 p.1))]) (fun p:Nat×Int=>[]) (fun p:Nat×Int=>p.1≤s.length∧0≤p.2∧p.2<10 ^ p.1∧Qa6 (s.drop p.1) p.2=R) (fun p:Nat×Int=>s.length-p.1) (0,0) ?_ ?_ ?_
 ·exact ⟨by simp,by simp,by simp,hR2⟩
 ·exact Qw
 rintro ⟨k,n⟩ ⟨h1,h2,h3,h4⟩;simp only at h1 h2 h3 h4;rcases Zo k s.length with ⟨hlt,Qb⟩|⟨hlt,Qb⟩
 ·rw [L3 hlt,Qa6] at h4;have hc48:=Qde (hf (s.getD k 0) (by simp [hlt]))
  obtain ⟨d,Qf⟩:=exq (s.getD k 0);rw [Qf] at h4 hc48;have hp:(10:Int) ^ (k+1)=10*10 ^ k:=by rw [Int.pow_succ];omega
  have hp2:(10:Int) ^ (k+1)≤1000000000000000000:=by
   have Qc:(10:Nat) ^ (k+1)≤10 ^ 18:=Nat.pow_le_pow_right (by omega) (by omega)
   have h6:((10 ^ (k+1):Nat):Int)≤((10 ^ 18:Nat):Int):=by exact_mod_cast Qc
   simpa using h6
  have hb:10*n+((d.toNat:Int)-48)<10 ^ (k+1):=by rw [hp];omega
  have hn10:10*n≤1000000000000000000:=by omega
  have Kq:KeY:=⟨⟩;exact Zln
 ·have hke:s.drop k=[]:=List.drop_eq_nil_of_le hlt;rw [hke] at h4;have Qc:n=R:=h4;exact Zur):p:=h
theorem good_number6:Qa Tryz.prog (270,E3):=by
 obtain ⟨Kx,Kt,Kc,Kd,Kb,Ku,Kw,K,_⟩:=Xe Zv Zn [] false Xd;have Ko:=E3.eq_def;refine Xj K Tryz.func270 [.tmp 2] rfl 20 rfl (fun c hc cvs hpre=>?_);unfold E3 at hpre;obtain ⟨s,rfl,hs,hf⟩:=Q2 hpre;clear hpre;obtain ⟨R,Qe⟩:=exq (gE s);have hR2:=Qe;unfold gE at hR2;have Z9:((48:UInt8).toNat:Int)=48:=rfl;cases hc;have Kq:KeX:=⟨⟩;exact Zln
def uY {A B C R S T:Type} [Enc A] [Enc B] [Enc C] [Enc R] [Enc S] [Enc T] (p:A→B→C→Prop) (f:A→B→C→R×S×T):Con:=⟨[false,false,false],[false,false,false],fun c=>match c with
 | [.d x,.d y,.d z]=>V9 A x∧V9 B y∧V9 C z∧p (dec x) (dec y) (dec z)
 | _=>False,fun c=>match c with
 | [.d x,.d y,.d z]=>.tup [.d (enc (f (dec x) (dec y) (dec z)).1),.d (enc (f (dec x) (dec y) (dec z)).2.1),.d (enc (f (dec x) (dec y) (dec z)).2.2)]
 | _=>.d .nilp⟩
theorem Zwn {A B C R S T:Type} [Enc A] [Enc B] [Enc C] [Enc R] [Enc S] [Enc T] {p:A→B→C→Prop} {f:A→B→C→R×S×T} {c:List CV} (h:(uY p f).pre c):∃ a b d,c=[.d (enc a),.d (enc b),.d (enc d)]∧p a b d:=by
 unfold uY at h;simp only at h;split at h
 ·next x y z=>exact ⟨dec x,dec y,dec z,by rw [←h.1,←h.2.1,←h.2.2.1],h.2.2.2⟩
 ·exact h.elim
def Pa (l:List Tok) (s:St6) (v:Int):List UInt8×List Node×St6:=((Jk l s 1).1,(Uy l (Jk l s 1).2 v).1,(Uy l (Jk l s 1).2 v).2)
theorem Zvh {l:List Tok} {s:St6} (h:St6Ok l s) (k:Int):St6Ok l (Jk l s k).2∧((Jk l s k).2.e=0→s.e=0∧(Jk l s k).2.at_=s.at_+1∧(Jk l s k).2.sites=s.sites):=by
 rcases Kn l s k with ⟨h1,h2⟩|⟨h1,_,h2⟩|⟨h1,_,_,h2⟩|⟨h1,h3,_,h2⟩
 ·rw [h2];exact ⟨h,fun e=>absurd e h1⟩
 ·rw [h2];exact ⟨⟨h.len,h.lo,h.hi,h.sites,h.txt,h.fig⟩,fun e=>absurd e (by show ¬ (2:Int)=0;decide)⟩
 ·rw [h2];exact ⟨⟨h.len,h.lo,h.hi,h.sites,h.txt,h.fig⟩,fun e=>absurd e (by show ¬ (2:Int)=0;decide)⟩
 ·rw [h2];have:=h.lo;exact ⟨⟨h.len,by show 0≤s.at_+1;omega,by show s.at_+1≤_;omega,h.sites,h.txt,h.fig⟩,fun _=>⟨h1,rfl,rfl⟩⟩
def L9:Con:=uY (fun (l:Sl Tok) (s:St6) (v:Int)=>St6Ok l.l s∧(s.e=0→1≤v∧v≤100)) (fun l s v=>(((Pa l.l s v).1,⟨(Pa l.l s v).2.1⟩,(Pa l.l s v).2.2):List UInt8×Sl Node×St6))
theorem aY:Qa Tryz.prog (250,L9):=by
 obtain ⟨Kx,Kt,Kc,Kd,Kb,Ku,Kw,K,X9,Uv,_⟩:=Xe Zv Zn [] false (Q0 Us N7 (Q0 Ey M7.eq_def Xd));have Ko:=L9.eq_def;refine Xj K Tryz.func250 [.tmp 6,.tmp 7,.cell 8 137] rfl 27 rfl (fun c hc cvs hpre=>?_);unfold L9 at hpre;obtain ⟨⟨l⟩,⟨i,ss,e⟩,v,rfl,hS,hv⟩:=Zwn hpre;simp only at hS hv;clear hpre;have hlen:=hS.len;have hlo:=hS.lo;have hhi:=hS.hi;simp only at hlo hhi;obtain ⟨⟨Rx,Rt,⟨Ra,Rs,Re⟩⟩,Z9⟩:=exq (Pa l ⟨i,ss,e⟩ v);have hR2:=Z9;unfold Pa at hR2;obtain ⟨hok,hgo⟩:=Zvh hS 1;obtain ⟨⟨x,⟨qa,qs,qe⟩⟩,Qb⟩:=exq (Jk l ⟨i,ss,e⟩ 1);rw [Qb] at hR2 hok hgo;simp only at hR2 hok hgo;have hvv:qe=0→1≤qa∧1≤v∧v≤100:=fun h=>by
  obtain ⟨g1,g2,_⟩:=hgo h;have:=hv g1;omega
 obtain ⟨⟨t,⟨ma,ms,me⟩⟩,Qf⟩:=exq (Uy l ⟨qa,qs,qe⟩ v);rw [Qf] at hR2;simp only [Ze,St6.mk.injEq] at hR2;obtain ⟨rfl,rfl,rfl,rfl,rfl⟩:=hR2;cases hc;have Qe:=@uY.eq_def;have Qc:=@Qr;have Qh:=@Ja;have Qn:=@Jb;exact Ln
abbrev Qb9:=St6→List Part×St6
section
variable (ex:Qb9) (l:List Tok) (v:Int)
def Zv5 (s:St6):List Part×St6 :=
 let b:=Pa l (Qq l s 5 [40]) v
 let r:=ex (Qq l (Qq l b.2.2 5 [41]) 5 [45,62])
 (Wr ⟨2,[],[],b.1,0,0,b.2.1,[]⟩ [⟨r.1⟩],r.2)
def Zvw (s:St6):List Part×St6 :=
 let b:=Pa l s v
 let a:=ex (Qq l b.2.2 5 [61])
 let c:=ex (Qq l a.2 6 [105,110])
 (Wr ⟨4,[],[],b.1,0,0,b.2.1,[]⟩ [⟨a.1⟩,⟨c.1⟩],c.2)
def Zuv (s:St6):List Part×St6 :=
 let f:=Jk l s 1
 let b:=Pa l (Qq l f.2 5 [40]) v
 let u:=Uy l (Qq l b.2.2 5 [41]) v
 let a:=ex (Qq l u.2 5 [61])
 let c:=ex (Qq l a.2 6 [105,110])
 (Wr ⟨5,[],f.1,b.1,0,0,b.2.1,u.1⟩ [⟨a.1⟩,⟨c.1⟩],c.2)
def yS (s:St6):List Part×St6 :=
 let a:=ex s
 let b:=ex (Qq l a.2 6 [116,104,101,110])
 let c:=ex (Qq l b.2 6 [101,108,115,101])
 (Wr ⟨6,[],[],[],0,0,[],[]⟩ [⟨a.1⟩,⟨b.1⟩,⟨c.1⟩],c.2)
def K5 (s:St6) (had:List (List UInt8)):List UInt8×List UInt8×(List Part×St6) :=
 let tag:=W9 l s 2 had
 let x:=Jk l tag.2 1
 (tag.1,x.1,ex (Qq l x.2 5 [45,62]))
def mF:Nat→St6→List (List UInt8)→List Part→List Part×St6
 | 0,s,_,_=>([],s)
 | f+1,s,had,body =>
  let b:=K5 ex l s had
  if b.2.2.2.e≠0 then ([],b.2.2.2)
  else if Rh l b.2.2.2 5 [124]=false then (⟨7,[],[],[],(had.length:Int)+1,0,[],[]⟩::(body++Wr ⟨8,b.1,[],b.2.1,0,0,[],[]⟩ [⟨b.2.2.1⟩]),Qq l b.2.2.2 6 [101,110,100])
  else mF f (Xu b.2.2.2) (had++[b.1]) (body++Wr ⟨8,b.1,[],b.2.1,0,0,[],[]⟩ [⟨b.2.2.1⟩])
def uV (s:St6):List Part×St6 :=
 let a:=ex s
 mF ex l 51 (Qq l a.2 6 [111,102]) [] a.1
def Zay (x:List UInt8):List Part→List Part
 | []=>[]
 | p::r=>⟨p.kind,x,p.name,p.bind,p.many,p.num,p.t,p.u⟩::r
def kU:Nat→St6→List (List UInt8)→List Part→List Part×St6
 | 0,s,_,_=>([],s)
 | f+1,s,had,body =>
  let x:=W9 l s 1 had
  let r:=ex (Qq l x.2 5 [61])
  if r.2.e≠0 then ([],r.2)
  else if Rh l r.2 5 [44]=false then (⟨10,[],[],[],(had.length:Int)+1,0,[],[]⟩::(body++Zay x.1 r.1),Qq l r.2 5 [125])
  else kU f (Xu r.2) (had++[x.1]) (body++Zay x.1 r.1)
def wN (s:St6):List Part×St6 :=
 if Rh l s 5 [125]=true then ([⟨10,[],[],[],0,0,[],[]⟩],Xu s)
 else kU ex l 51 s [] []
def bB (s:St6):List Part×St6 :=
 let x:=Jk l s 2
 let r:=ex (Qq l x.2 5 [61])
 let t:=Uy l r.2 v
 (Wr ⟨12,[],x.1,[],0,0,t.1,[]⟩ [⟨r.1⟩],Qq l t.2 5 [93])
def lV (s:St6):List Part×St6 :=
 if Rh l s 5 [41]=true then ([⟨0,[],[],[],0,0,[⟨4,[],0⟩],[]⟩],Xu s)
 else
  let r:=ex s
  if Rh l r.2 5 [58]=true then
   let t:=Dc l (Xu r.2) v
   (Wr ⟨13,[],[],[],0,0,t.1,[]⟩ [⟨r.1⟩],Qq l t.2 5 [41])
  else (r.1,Qq l r.2 5 [41])
def uM (s:St6):List Part×St6 :=
 if s.e≠0∨N4 l s=false then ([],J0 s 2)
 else
  let t:=tk l s.at_
  if t.kind=3 then ([⟨0,[],[],[],0,gE t.text,[⟨1,[],0⟩],[]⟩],Xu s)
  else if t.kind=4 then ([⟨0,[],t.text,[],0,0,[⟨3,[],0⟩],[]⟩],Xu s)
  else if t.kind=6 then ([⟨0,[],[],[],0,(if t.text=[116,114,117,101] then 1 else 0),[⟨2,[],0⟩],[]⟩],Xu s)
  else if t.kind=1 then
   (if Rh l (Xu s) 5 [33]=false then ([⟨1,[],t.text,[],0,0,[],[]⟩],Xu s)
    else ([⟨1,[],t.text++[33]++(Jk l (Xu (Xu s)) 1).1,[],0,0,[],[]⟩],(Jk l (Xu (Xu s)) 1).2))
  else if t.text=[40] then lV ex l v (Xu s)
  else if t.text=[123] then wN ex l (Xu s)
  else bB ex l v (Xu s)
def gV:Nat→List Part×St6→List Part×St6
 | 0,r=>r
 | f+1,r=>if Rh l r.2 5 [46]=false then r else
  let x:=Jk l (Xu r.2) 1
  gV f (Wr ⟨11,[],x.1,[],0,0,[],[]⟩ [⟨r.1⟩],x.2)
def nZ (s:St6):List Part×St6:=gV l (l.length+1) (uM ex l v s)
def Pz:Nat→List Part×St6→List Part×St6
 | 0,r=>r
 | f+1,r=>if N4 l r.2=false then r else
  let x:=nZ ex l v r.2
  Pz f (Wr ⟨3,[],[],[],0,0,[],[]⟩ [⟨r.1⟩,⟨x.1⟩],x.2)
def F4 (s:St6):List Part×St6:=Pz ex l v (l.length+1) (nZ ex l v s)
def Ej (b:Int) (s:St6):Bool:=(s.e==0)&&(X4 s.at_ l.length&&((tk l s.at_).kind==5&&in6 (Ad b) (tk l s.at_).text))
def Zas (b:Int) (sub:Qb9):Nat→List Part×St6→List Part×St6
 | 0,r=>r
 | f+1,r=>if Ej l b r.2=false then r else
  let x:=sub (Xu r.2)
  Zas b sub f (Wr ⟨9,[],(tk l r.2.at_).text,[],0,0,[],[]⟩ [⟨r.1⟩,⟨x.1⟩],x.2)
def vD:Nat→Qb9
 | 0=>F4 ex l v
 | m+1=>fun s=>Zas l (4-(m:Int)) (vD m) (l.length+1) (vD m s)
def Zon (s:St6):List Part×St6 :=
 if s.e≠0 then ([],s)
 else if s.at_<l.length∧(tk l s.at_).kind=6 then
  (if (tk l s.at_).text=[102,117,110] then Zv5 ex l v (Xu s)
   else if (tk l s.at_).text=[108,101,116] then Zvw ex l v (Xu s)
   else if (tk l s.at_).text=[114,101,99] then Zuv ex l v (Xu s)
   else if (tk l s.at_).text=[105,102] then yS ex l (Xu s)
   else if (tk l s.at_).text=[99,97,115,101] then uV ex l (Xu s)
   else vD ex l v 5 s)
 else vD ex l v 5 s
end
def Jy (l:List Tok):Nat→Qb9
 | 0=>fun s=>([],J0 s 4)
 | d+1=>Zon (Jy l d) l (100-(d:Int))
def zO (t:Tok):Prop:=t.text.length≤1000000∧(t.kind=3→Qd2 t.text)
theorem Qa3 {s:List UInt8} (hs:s.length≤100000) {i:Nat} (hi:i<s.length) (h:(gB s i).2=true):zO (gB s i).1:=by
 unfold gB at h ⊢;have hw:=fI (s.drop i);rw [List.length_drop] at hw;have hpl:(U8 s i).length=U4 (s.drop i):=by unfold U8;rw [List.length_drop,List.length_take];omega
 split at h
 ·rename_i a;rw [if_pos a];have hU:=Zac (s:=s.drop i) (by simpa using h)
  rw [List.length_drop] at hU;exact ⟨by show (I9 (s.drop i)).1.length≤_;omega,fun e=>absurd e (by show ¬ (4:Int)=3;decide)⟩
 rename_i a;rw [if_neg a];split at h
 ·rename_i a;rw [if_pos a];exact ⟨by show (U8 s i).length≤_;omega,fun e=>absurd e (by show ¬ (2:Int)=3;decide)⟩
 rename_i a;rw [if_neg a];split at h
 ·rename_i a;rw [if_pos a];exact ⟨by show (U8 s i).length≤_;omega,fun e=>absurd e (by show ¬ (6:Int)=3;decide)⟩
 rename_i a;rw [if_neg a];split at h
 ·rename_i a;rw [if_pos a];exact ⟨by show (U8 s i).length≤_;omega,fun e=>absurd e (by show ¬ (1:Int)=3;decide)⟩
 rename_i a;rw [if_neg a];split at h
 ·rename_i a;rw [if_pos a];split at h
  ·rename_i b;rw [if_pos b];simp only [Qx] at h;exact ⟨by show (U8 s i).length≤_;omega,fun _=>⟨by show (U8 s i).length≤18;omega,fun c hc=>List.all_eq_true.1 b c hc⟩⟩
  ·cases h
 ·rename_i a;rw [if_neg a];have:=qA (s:=s) (i:=i);exact ⟨by show (Tv s i).length≤_;omega,fun e=>absurd e (by show ¬ (5:Int)=3;decide)⟩
theorem kI {s:List UInt8} (hs:s.length≤100000):∀ (f i:Nat) (out:List Tok),(∀ t∈out,zO t)→i≤s.length→out.length≤i→(∀ t∈(Fh f s i out).1,zO t)∧(Fh f s i out).1.length≤s.length+1∧((Fh f s i out).2.2=0→1≤(Fh f s i out).1.length)
 | 0,i,out,_,_,_=>⟨fun t ht=>(by cases ht),by simp [Fh],fun h=>absurd h (by show ¬ (2:Int)=0;decide)⟩
 | f+1,i,out,h,hi,hl=>by
  rw [Fh];split
  ·refine ⟨fun t ht=>?_,by simp only [Zf,Zi,List.length_nil];omega,fun _=>by simp⟩
   rcases List.mem_append.1 ht with ht|ht
   ·exact h t ht
   ·rw [Zp] at ht;subst ht;exact ⟨by simp,fun e=>absurd e (by show ¬ (0:Int)=3;decide)⟩
  ·rename_i hlt;split
   ·exact ⟨fun t ht=>(by cases ht),by simp,fun h=>absurd h (by show ¬ (2:Int)=0;decide)⟩
   ·rename_i hok;have hok':(gB s i).2=true:=by simpa using hok
    obtain ⟨n,hn,hn1,hn2⟩:=Zs1 (show i<s.length by omega) hok'
    have hb:=aM (s:=s) (i:=n) hn2;have hto:=Qa3 hs (show i<s.length by omega) hok'
    rw [hn,Zj];refine kI hs f _ _ (fun t ht=>?_) hb.2 (by simp only [Zf,Zi,List.length_nil];omega)
    rcases List.mem_append.1 ht with ht|ht
    ·exact h t ht
    ·rw [Zp] at ht;subst ht;exact hto
theorem Zl1 (s:List UInt8):(∀ t∈(Pr s).1,zO t)∧(Pr s).1.length≤100001∧((Pr s).2.2=0→1≤(Pr s).1.length):=by
 unfold Pr;split
 ·exact ⟨fun t ht=>(by cases ht),by simp,fun h=>absurd h (by show ¬ (3:Int)=0;decide)⟩
 ·rename_i h;have hb:=aM (s:=s) (i:=0) (by omega)
  obtain ⟨h1,h2,h3⟩:=kI (s:=s) (by omega) (s.length+1) (I6 s 0) [] (fun t ht=>by cases ht) hb.2 (by simp)
  exact ⟨h1,by omega,h3⟩
structure Adv (l:List Tok) (m q:Int) (s r:St6):Prop where
 err:s.e≠0→r=s
 lo:0≤r.at_
 hi:r.at_≤l.length
 mono:r.e=0→s.at_≤r.at_
 room:s.e=0→(r.sites.length:Int)≤s.sites.length+(l.length-s.at_)+q
 gain:r.e=0→s.sites.length≤r.sites.length∧(r.sites.length:Int)-s.sites.length+m≤r.at_-s.at_
structure Pos (l:List Tok) (s:St6):Prop where
 lo:0≤s.at_
 hi:s.at_≤l.length
theorem Adv.pos {l:List Tok} {m q:Int} {s r:St6} (h:Adv l m q s r):Pos l r:=⟨h.lo,h.hi⟩
theorem Adv.ok0 {l:List Tok} {m q:Int} {s r:St6} (h:Adv l m q s r) (he:r.e=0):s.e=0:=Classical.byContradiction fun hn=>by
 have:=h.err hn;rw [this] at he;exact hn he
theorem Adv.refl {l:List Tok} {s:St6} (h:Pos l s):Adv l 0 0 s s:=⟨fun _=>rfl,h.lo,h.hi,fun _=>Int.le_refl _,fun _=>by have:=h.hi;omega,fun _=>⟨Zq _,by omega⟩⟩
theorem Adv.trans {l:List Tok} {m1 q1 m2 q2 m q:Int} {a b c:St6} (h1:Adv l m1 q1 a b) (h2:Adv l m2 q2 b c) (hm:m≤m1+m2) (hq1:q1≤q) (hq2:q2-m1≤q):Adv l m q a c:=by
 refine ⟨fun he=>?_,h2.lo,h2.hi,fun he=>?_,fun he=>?_,fun he=>?_⟩
 ·have e1:=h1.err he;subst e1;exact h2.err he
 ·have:=h1.mono (h2.ok0 he);have:=h2.mono he;omega
 ·have hr:=h1.room he;by_cases hb:b.e=0
  ·have h3:=h2.room hb;have h4:=(h1.gain hb).2;omega
  ·have:=h2.err hb;rw [this];omega
 ·obtain ⟨g1,g2⟩:=h1.gain (h2.ok0 he);obtain ⟨g3,g4⟩:=h2.gain he;exact ⟨by omega,by omega⟩
theorem Adv.weak {l:List Tok} {m1 q1 m q:Int} {a b:St6} (h:Adv l m1 q1 a b) (hm:m≤m1) (hq:q1≤q):Adv l m q a b :=
 ⟨h.err,h.lo,h.hi,h.mono,fun he=>by have:=h.room he;omega,fun he=>by obtain ⟨g1,g2⟩:=h.gain he;exact ⟨g1,by omega⟩⟩
theorem Du {l:List Tok} {s:St6} {k:Int} {x:List UInt8} (h:Rh l s k x=true):s.e=0∧s.at_<l.length:=by
 unfold Rh at h;simp only [Zg,Zk,Jf] at h;exact ⟨h.1,h.2.1⟩
theorem Pm {l:List Tok} {s:St6} (h:Pos l s) (k:Int) (x:List UInt8):Adv l 1 0 s (Qq l s k x):=by
 have h0:=h.lo;have h1:=h.hi;rcases Ap l s k x with ⟨e,h2⟩|⟨e,_,h2⟩|⟨e,hi,h2⟩
 ·rw [h2];exact ⟨fun _=>rfl,h0,h1,fun he=>absurd he e,fun he=>absurd he e,fun he=>absurd he e⟩
 ·rw [h2];exact ⟨fun he=>absurd e he,h0,h1,fun he=>absurd he (by show ¬ (2:Int)=0;decide),fun _=>by show (s.sites.length:Int)≤_;omega,fun he=>absurd he (by show ¬ (2:Int)=0;decide)⟩
 ·have:=(Du hi).2;rw [h2];exact ⟨fun he=>absurd e he,by show 0≤s.at_+1;omega,by show s.at_+1≤_;omega,fun _=>by show s.at_≤s.at_+1;omega,fun _=>by show (s.sites.length:Int)≤_;omega,fun _=>⟨Zq _,by show (s.sites.length:Int)-s.sites.length+1≤s.at_+1-s.at_;omega⟩⟩
theorem Zbp {l:List Tok} {s:St6} (h:Pos l s) (hl:s.at_<l.length):Adv l 1 0 s (Xu s)∨s.e≠0:=by
 by_cases he:s.e=0
 ·left;have h0:=h.lo;exact ⟨fun hn=>absurd he hn,by show 0≤s.at_+1;omega,by show s.at_+1≤_;omega,fun _=>by show s.at_≤s.at_+1;omega,fun _=>by show (s.sites.length:Int)≤_;omega,fun _=>⟨Zq _,by show (s.sites.length:Int)-s.sites.length+1≤s.at_+1-s.at_;omega⟩⟩
 ·exact .inr he
theorem Si {l:List Tok} {s:St6} (h:Pos l s) (k:Int):Adv l 1 0 s (Jk l s k).2:=by
 have h0:=h.lo;have h1:=h.hi;rcases Kn l s k with ⟨e,h2⟩|⟨e,_,h2⟩|⟨e,_,_,h2⟩|⟨e,hi,_,h2⟩
 ·rw [h2];exact ⟨fun _=>rfl,h0,h1,fun he=>absurd he e,fun he=>absurd he e,fun he=>absurd he e⟩
 ·rw [h2];exact ⟨fun he=>absurd e he,h0,h1,fun he=>absurd he (by show ¬ (2:Int)=0;decide),fun _=>by show (s.sites.length:Int)≤_;omega,fun he=>absurd he (by show ¬ (2:Int)=0;decide)⟩
 ·rw [h2];exact ⟨fun he=>absurd e he,h0,h1,fun he=>absurd he (by show ¬ (2:Int)=0;decide),fun _=>by show (s.sites.length:Int)≤_;omega,fun he=>absurd he (by show ¬ (2:Int)=0;decide)⟩
 ·rw [h2];exact ⟨fun he=>absurd e he,by show 0≤s.at_+1;omega,by show s.at_+1≤_;omega,fun _=>by show s.at_≤s.at_+1;omega,fun _=>by show (s.sites.length:Int)≤_;omega,fun _=>⟨Zq _,by show (s.sites.length:Int)-s.sites.length+1≤s.at_+1-s.at_;omega⟩⟩
theorem mI {l:List Tok} {s:St6} (h:Pos l s) (k:Int) (had:List (List UInt8)):Adv l 1 0 s (W9 l s k had).2:=by
 have hN:=Si h k;have h0:=h.lo;have h1:=h.hi;unfold W9;split
 ·exact hN
 rename_i he;have hse:=hN.ok0 (by simpa using he)
 split
 ·exact ⟨fun hn=>absurd hse hn,h0,h1,fun he=>absurd he (by show ¬ (7:Int)=0;decide),fun _=>by show (s.sites.length:Int)≤_;omega,fun he=>absurd he (by show ¬ (7:Int)=0;decide)⟩
 split
 ·exact ⟨fun hn=>absurd hse hn,h0,h1,fun he=>absurd he (by show ¬ (3:Int)=0;decide),fun _=>by show (s.sites.length:Int)≤_;omega,fun he=>absurd he (by show ¬ (3:Int)=0;decide)⟩
 ·exact hN
structure Toks (l:List Tok):Prop where
 len:l.length≤100000
 ok:∀ t∈l,zO t
theorem Toks.long {l:List Tok} (h:Toks l):∀ t∈l,t.text.length≤9223372036854775807:=fun t ht=>Nat.le_trans (h.ok t ht).1 (by omega)
structure Noted (l:List Tok) (m q:Int) (s:St6) (r:List Node×St6):Prop where
 adv:Adv l m q s r.2
 nil:s.e≠0→r.1=[]
 len:r.1.length≤100001
 named:Wu r.1
 ok:r.2.e=0→r.1≠[]∧Xz r.1=true
 cnt:r.2.e=0→∀ z,Jw (Yh z) r.1=if (s.sites.length:Int)+1≤z∧z<(r.2.sites.length:Int)+1 then 1 else 0
theorem O1 {l:List Tok} (hT:Toks l) {s:St6} (h:Pos l s) {v:Int} (hv:s.e=0→1≤v∧v≤100):Noted l 0 0 s (Dc l s v):=by
 have h0:=h.lo;have h1:=h.hi;have hl:=hT.len;unfold Dc;by_cases he:s.e=0
 case neg =>
  rw [if_pos he];exact ⟨⟨fun _=>rfl,h0,h1,fun e=>absurd e he,fun e=>absurd e he,fun e=>absurd e he⟩,fun _=>rfl,by simp,Qt,fun e=>absurd e he,fun e=>absurd e he⟩
 rw [if_neg (by simpa using he)]
 obtain ⟨v1,v2⟩:=hv he;obtain ⟨f1,f2,f3⟩:=nQ hl hT.long h0 h1 (site:=(s.sites.length:Int)+1) (by omega) v1 v2
 obtain ⟨⟨t,a,qs,bad,re⟩,hr⟩:=exq (Vu l s.at_ ((s.sites.length:Int)+1) v);rw [hr] at f1 f2 f3 ⊢;simp only at f1 f2 f3 ⊢;by_cases hre:re=0
 case neg =>
  rw [if_pos hre];exact ⟨⟨fun e=>absurd he e,f1,f2,fun e=>absurd e hre,fun _=>by show (s.sites.length:Int)≤_;omega,fun e=>absurd e hre⟩,fun e=>absurd he e,by simp,Qt,fun e=>absurd e hre,fun e=>absurd e hre⟩
 rw [if_neg (by simpa using hre)]
 obtain ⟨g1,g2,g3,g4,g5,g6,g7⟩:=f3 hre;have hcat:((s.sites++qs).length:Int)=s.sites.length+qs.length:=by simp
 refine ⟨⟨fun e=>absurd he e,by show 0≤a;omega,g2,fun _=>by show s.at_≤a;omega,fun _=>by show ((s.sites++qs).length:Int)≤_;omega,fun _=>⟨by simp,by show ((s.sites++qs).length:Int)-s.sites.length+0≤a-s.at_;omega⟩⟩,fun e=>absurd he e,by show t.length≤_;omega,g5,fun _=>⟨fun e=>?_,g4⟩,fun _ z=>?_⟩
 ·have:=qM g4;simp only at e;rw [e] at this;simp at this
 ·show Jw (Yh z) t=if (s.sites.length:Int)+1≤z∧z<((s.sites++qs).length:Int)+1 then 1 else 0
  rw [g7,hcat];by_cases hz:(s.sites.length:Int)+1≤z∧z<(s.sites.length:Int)+1+qs.length
  ·rw [if_pos hz,if_pos (by omega)]
  ·rw [if_neg hz,if_neg (by omega)]
theorem Na {l:List Tok} (hT:Toks l) {s:St6} (h:Pos l s) {v:Int} (hv:s.e=0→1≤v∧v≤100):Noted l (-1) 1 s (Uy l s v):=by
 have h0:=h.lo;have h1:=h.hi;unfold Uy;by_cases he:s.e=0
 case neg =>
  rw [if_pos he];exact ⟨⟨fun _=>rfl,h0,h1,fun e=>absurd e he,fun e=>absurd e he,fun e=>absurd e he⟩,fun _=>rfl,by simp,Qt,fun e=>absurd e he,fun e=>absurd e he⟩
 rw [if_neg (by simpa using he)]
 cases hi:Rh l s 5 [58] with
 | true =>
  rw [if_pos rfl];have hlt:=(Du hi).2;rcases Zbp h hlt with hA|hA
  ·have hN:=O1 hT hA.pos (v:=v) (fun _=>hv he);exact ⟨hA.trans hN.adv (by omega) (by omega) (by omega),fun e=>absurd he e,hN.len,hN.named,hN.ok,fun e z=>hN.cnt e z⟩
  ·exact absurd he hA
 | false =>
  rw [if_neg (by simp)]
  have hcat:∀ x:Site,((s.sites++[x]).length:Int)=s.sites.length+1:=fun x=>by simp
  refine ⟨⟨fun e=>absurd he e,h0,h1,fun _=>Int.le_refl _,fun _=>by show ((s.sites++[_]).length:Int)≤_;rw [hcat];omega,fun _=>⟨by simp,by show ((s.sites++[_]).length:Int)-s.sites.length+-1≤s.at_-s.at_;rw [hcat];omega⟩⟩,fun e=>absurd he e,by simp,C1,fun _=>⟨by simp,?_⟩,fun _ z=>?_⟩
  ·have:∀ n:Nat,Xz [⟨0,[],(n:Int)+1⟩]=true:=by
    intro n;refine wO (x:=Go.Rose.Rose.mk ⟨0,[],(n:Int)+1⟩ []) ⟨⟨rfl,trivial⟩,fun m hm=>?_,by show Go.Rose.Rose.depth _≤100;unfold Go.Rose.Rose.depth;simp [Go.Rose.Rose.depths],by rfl,rfl,by show ¬ (0:Int)=9;decide,by simp [Go.Rose.Rose.nds,Go.Rose.Rose.ndss]⟩
    simp [Go.Rose.Rose.nds,Go.Rose.Rose.ndss] at hm;subst hm;unfold Uq;rw [if_pos (.inl rfl)];simp only [decide_eq_true_eq];omega
   exact this _
  ·show Jw (Yh z) [⟨0,[],(s.sites.length:Int)+1⟩]=if (s.sites.length:Int)+1≤z∧z<((s.sites++[_]).length:Int)+1 then 1 else 0
   rw [hcat];unfold Jw Yh;simp only [List.map_cons,List.map_nil,List.sum_cons,List.sum_nil,true_and,Nat.add_zero];by_cases hq:(s.sites.length:Int)+1=z
   ·rw [if_pos hq,if_pos (by omega)]
   ·rw [if_neg hq,if_neg (by omega)]
theorem Da {l:List Tok} (hT:Toks l) {s:St6} (h:Pos l s) {v:Int} (hv:s.e=0→1≤v∧v≤100):Noted l 0 0 s (Pa l s v).2:=by
 have hA:=Si h 1;have hN:=Na hT hA.pos (v:=v) (fun e=>hv (hA.ok0 e));unfold Pa;refine ⟨hA.trans hN.adv (by omega) (by omega) (by omega),fun e=>?_,hN.len,hN.named,hN.ok,fun e z=>?_⟩
 ·refine hN.nil ?_;rw [hA.err e];exact e
 ·have e1:=hN.adv.ok0 e;have hs:(Jk l s 1).2.sites=s.sites:=by
   rcases Kn l s 1 with ⟨_,h2⟩|⟨_,_,h2⟩|⟨_,_,_,h2⟩|⟨_,_,_,h2⟩<;>rw [h2]
  have:=hN.cnt e z;rw [hs] at this;exact this
def J9 (z:Int) (p:Part):Nat:=Jw (Yh z) p.t+Jw (Yh z) p.u
def X5 (z:Int) (e:List Part):Nat:=(e.map (J9 z)).sum
theorem Fl (z:Int) (a b:List Part):X5 z (a++b)=X5 z a+X5 z b:=by unfold X5;rw [List.map_append,List.sum_append]
theorem Em (z:Int) (p:Part) (b:List Part):X5 z (p::b)=J9 z p+X5 z b:=by unfold X5;rw [List.map_cons,List.sum_cons]
def Rz (p:Part):Prop:=(p.t.length≤100001∧Wu p.t)∧(p.u.length≤100001∧Wu p.u)∧p.label.length≤1000000∧p.name.length≤3000000∧p.bind.length≤1000000
def Qgp (s r:St6) (e:List Part):Prop:=∀ z,X5 z e=if (s.sites.length:Int)+1≤z∧z<(r.sites.length:Int)+1 then 1 else 0
structure Reads (l:List Tok) (s:St6) (r:List Part×St6):Prop where
 adv:Adv l 1 0 s r.2
 nil:s.e≠0→r.1=[]
 len:(r.1.length:Int)≤2*(l.length-s.at_)+1
 ok:r.2.e=0→r.1≠[]∧(r.1.length:Int)≤2*(r.2.at_-s.at_)-1
 cnt:r.2.e=0→Qgp s r.2 r.1
 fit:∀ p∈r.1,Rz p
structure Tk6 (l:List Tok) (s r:St6):Prop where
 adv:Adv l 1 0 s r
 same:r.e=0→r.sites=s.sites
theorem Xi {l:List Tok} {s:St6} (h:Pos l s) (k:Int) (x:List UInt8):Tk6 l s (Qq l s k x):=⟨Pm h k x,fun he=>by
 rcases Ap l s k x with ⟨_,h2⟩|⟨_,_,h2⟩|⟨_,_,h2⟩<;>rw [h2]⟩
theorem Ps {l:List Tok} {s:St6} (h:Pos l s) (k:Int):Tk6 l s (Jk l s k).2:=⟨Si h k,fun he=>by
 rcases Kn l s k with ⟨_,h2⟩|⟨_,_,h2⟩|⟨_,_,_,h2⟩|⟨_,_,_,h2⟩<;>rw [h2]⟩
theorem Zl2 {l:List Tok} {s:St6} (h:Pos l s) (k:Int) (had:List (List UInt8)):Tk6 l s (W9 l s k had).2:=⟨mI h k had,fun he=>by
 have hN:=(Ps h k).same;unfold W9 at he ⊢;split
 ·rename_i a;exact absurd (by rw [if_pos a] at he;exact he) a
 rename_i a;split
 ·rfl
 split
 ·rfl
 ·exact hN (by simpa using a)⟩
theorem W7 {l:List Tok} (hT:Toks l) (s:St6) (k:Int):(Jk l s k).1.length≤1000000:=by
 have ht:(tk l s.at_).text.length≤1000000:=by
  unfold tk;rw [Zd];cases hk:l[s.at_.toNat]? with
  | none=>simp [Ue]
  | some x=>exact (hT.ok x (List.mem_of_getElem? hk)).1
 rcases Kn l s k with ⟨_,h2⟩|⟨_,_,h2⟩|⟨_,_,_,h2⟩|⟨_,_,_,h2⟩<;>rw [h2]
 ·simp
 ·simp
 ·simp
 ·exact ht
theorem gS {l:List Tok} (hT:Toks l) (s:St6) (k:Int) (had:List (List UInt8)):(W9 l s k had).1.length≤1000000:=by
 have:=W7 hT s k;unfold W9;repeat' split
 all_goals exact this
theorem Iu {l:List Tok} (hT:Toks l) (s:St6) (v:Int):(Pa l s v).1.length≤1000000:=W7 hT s 1
structure Sq (l:List Tok) (m:Int) (s r:St6) (n:Int) (w:Int→Nat):Prop where
 adv:Adv l m 0 s r
 ok:r.e=0→n≤2*(r.at_-s.at_)
 all:n≤2*(l.length-s.at_)+1
 cnt:r.e=0→∀ z,w z=if (s.sites.length:Int)+1≤z∧z<(r.sites.length:Int)+1 then 1 else 0
theorem Sq.refl {l:List Tok} {s:St6} (h:Pos l s):Sq l 0 s s 0 (fun _=>0) :=
 ⟨Adv.refl h,fun _=>by omega,by have:=h.hi;omega,fun _ z=>by rw [if_neg (by omega)]⟩
theorem Sq.tok {l:List Tok} {m:Int} {s r q:St6} {n:Int} {w:Int→Nat} (h:Sq l m s r n w) (hm:0≤m) (hq:Tk6 l r q):Sq l (m+1) s q n w:=by
 refine ⟨h.adv.trans hq.adv (Int.le_refl _) (Int.le_refl _) (by omega),fun he=>?_,h.all,fun he z=>?_⟩
 ·have h1:=h.ok (hq.adv.ok0 he);have h2:=hq.adv.mono he;omega
 ·have:=h.cnt (hq.adv.ok0 he) z;rw [hq.same he];exact this
theorem Sq.note {l:List Tok} {m m2 q2:Int} {s r:St6} {n:Int} {w:Int→Nat} {t:List Node×St6} (h:Sq l m s r n w) (hq:Noted l m2 q2 r t) (hm:q2≤m) (h2:0≤m+m2):Sq l (m+m2) s t.2 n (fun z=>w z+Jw (Yh z) t.1):=by
 refine ⟨h.adv.trans hq.adv (Int.le_refl _) (Int.le_refl _) (by omega),fun he=>?_,h.all,fun he z=>?_⟩
 ·have h1:=h.ok (hq.adv.ok0 he);have h2:=hq.adv.mono he;omega
 ·have e1:=h.cnt (hq.adv.ok0 he) z;have e2:=hq.cnt he z;have g1:=(h.adv.gain (hq.adv.ok0 he)).1;have g2:=(hq.adv.gain he).1;rw [e1,e2];exact aI (by omega) (by omega)
theorem Sq.read {l:List Tok} {m:Int} {s r:St6} {n:Int} {w:Int→Nat} {t:List Part×St6} (h:Sq l m s r n w) (hm:0≤m) (hq:Reads l r t):Sq l (m+1) s t.2 (n+t.1.length) (fun z=>w z+X5 z t.1):=by
 refine ⟨h.adv.trans hq.adv (Int.le_refl _) (Int.le_refl _) (by omega),fun he=>?_,?_,fun he z=>?_⟩
 ·have h1:=h.ok (hq.adv.ok0 he);have h2:=(hq.ok he).2;omega
 ·by_cases hr:r.e=0
  ·have h1:=h.ok hr;have h2:=hq.len;omega
  ·have h1:=hq.nil hr;rw [h1];have:=h.all;simp only [List.length_nil];omega
 ·have e1:=h.cnt (hq.adv.ok0 he) z;have e2:=hq.cnt he z;have g1:=(h.adv.gain (hq.adv.ok0 he)).1;have g2:=(hq.adv.gain he).1;rw [e1,e2];exact aI (by omega) (by omega)
structure Reads0 (l:List Tok) (s:St6) (r:List Part×St6):Prop where
 adv:Adv l 0 0 s r.2
 len:(r.1.length:Int)≤2*(l.length-s.at_)+3
 ok:r.2.e=0→r.1≠[]∧(r.1.length:Int)≤2*(r.2.at_-s.at_)+1
 cnt:r.2.e=0→Qgp s r.2 r.1
 fit:∀ p∈r.1,Rz p
theorem Sq.done {l:List Tok} {m:Int} {s r:St6} {n:Int} {w:Int→Nat} (h:Sq l m s r n w) (hm:0≤m) {e:List Part} (he:e≠[]) (hn:(e.length:Int)=n+1) (hw:∀ z,X5 z e=w z) (hf:∀ p∈e,Rz p):Reads0 l s (e,r):=by
 refine ⟨h.adv.weak hm (Int.le_refl _),?_,fun h0=>⟨he,?_⟩,fun h0 z=>?_,hf⟩
 ·have:=h.all;show (e.length:Int)≤_;omega
 ·have:=h.ok h0;show (e.length:Int)≤2*(r.at_-s.at_)+1;omega
 ·rw [hw];exact h.cnt h0 z
theorem Reads0.behind {l:List Tok} {s:St6} (hP:Pos l s) (he:s.e=0) (hl:s.at_<l.length) {r:List Part×St6} (h:Reads0 l (Xu s) r):Reads l s r:=by
 rcases Zbp hP hl with hA|hA
 ·have e1:(Xu s).at_=s.at_+1:=rfl;refine ⟨hA.trans h.adv (by omega) (by omega) (by omega),fun hn=>absurd he hn,?_,fun h0=>?_,fun h0 z=>?_,h.fit⟩
  ·have:=h.len;rw [e1] at this;omega
  ·obtain ⟨g1,g2⟩:=h.ok h0;rw [e1] at g2;exact ⟨g1,by omega⟩
  ·exact h.cnt h0 z
 ·exact absurd he hA
section
variable {ex:Qb9} {l:List Tok} {v:Int}
theorem Nj {k m n:Int} {a b c:List UInt8} {t u:List Node} (h1:t.length≤100001) (h2:Wu t) (h3:u.length≤100001) (h4:Wu u) (h5:a.length≤1000000) (h6:b.length≤3000000) (h7:c.length≤1000000):Rz ⟨k,a,b,c,m,n,t,u⟩:=⟨⟨h1,h2⟩,⟨h3,h4⟩,h5,h6,h7⟩
theorem Up (z:Int) (p:Part) (es:List (Sl Part)):X5 z (Wr p es)=J9 z p+((es.map fun x=>X5 z x.l).sum):=by
 unfold Wr;rw [Em]
 congr 1
 unfold Lf
 induction es with
 | nil=>rfl
 | cons x es ih=>rw [List.flatMap_cons,Fl,ih];rfl
theorem Nb (p:Part) (es:List (Sl Part)):(Wr p es).length=1+((es.map fun x=>x.l.length).sum):=by
 unfold Wr Lf;rw [Zi,List.length_flatMap];omega
theorem P0 {p:Part} {es:List (Sl Part)} (hp:Rz p) (h:∀ x∈es,∀ q∈x.l,Rz q):∀ q∈Wr p es,Rz q:=by
 intro q hq;unfold Wr Lf at hq;rcases Zs.1 hq with rfl|hq
 ·exact hp
 ·obtain ⟨x,hx,hqx⟩:=List.mem_flatMap.1 hq;exact h x hx q hqx
theorem Zuy (hT:Toks l) (hex:∀ s,Pos l s→Reads l s (ex s)) (h1:1≤v) (h2:v≤100) {s:St6} (h:Pos l s):Reads0 l s (Zv5 ex l v s):=by
 have q1:=(Sq.refl h).tok (by omega) (Xi h 5 [40])
 have hb:=Da hT q1.adv.pos (v:=v) fun _=>⟨h1,h2⟩;have q2:=q1.note hb (by omega) (by omega)
 have q3:=q2.tok (by omega) (Xi q2.adv.pos 5 [41])
 have q4:=q3.tok (by omega) (Xi q3.adv.pos 5 [45,62])
 have hr:=hex _ q4.adv.pos;have q5:=q4.read (by omega) hr
 unfold Zv5;refine q5.done (by omega) (by unfold Wr;simp) ?_ (fun z=>?_) (P0 (Nj hb.len hb.named (by simp) Qt (by simp) (by simp) (Iu hT _ _)) fun x hx q hq=>?_)
 ·rw [Nb];simp;omega
 ·rw [Up];unfold J9 Jw;simp
 ·simp only [Zp] at hx;subst hx;exact hr.fit q hq
theorem Zux (hT:Toks l) (hex:∀ s,Pos l s→Reads l s (ex s)) (h1:1≤v) (h2:v≤100) {s:St6} (h:Pos l s):Reads0 l s (Zvw ex l v s):=by
 have hb:=Da hT h (v:=v) fun _=>⟨h1,h2⟩;have q2:=(Sq.refl h).note hb (by omega) (by omega)
 have q3:=q2.tok (by omega) (Xi q2.adv.pos 5 [61])
 have hr:=hex _ q3.adv.pos;have q4:=q3.read (by omega) hr
 have q5:=q4.tok (by omega) (Xi q4.adv.pos 6 [105,110])
 have hr2:=hex _ q5.adv.pos;have q6:=q5.read (by omega) hr2
 unfold Zvw;refine q6.done (by omega) (by unfold Wr;simp) ?_ (fun z=>?_) (P0 (Nj hb.len hb.named (by simp) Qt (by simp) (by simp) (Iu hT _ _)) fun x hx q hq=>?_)
 ·rw [Nb];simp;omega
 ·rw [Up];unfold J9 Jw;simp;omega
 ·simp only [Zs,Pc,or_false] at hx;rcases hx with rfl|rfl
  ·exact hr.fit q hq
  ·exact hr2.fit q hq
theorem Zuw (hT:Toks l) (hex:∀ s,Pos l s→Reads l s (ex s)) (h1:1≤v) (h2:v≤100) {s:St6} (h:Pos l s):Reads0 l s (Zuv ex l v s):=by
 have q0:=(Sq.refl h).tok (by omega) (Ps h 1)
 have q1:=q0.tok (by omega) (Xi q0.adv.pos 5 [40])
 have hb:=Da hT q1.adv.pos (v:=v) fun _=>⟨h1,h2⟩;have q2:=q1.note hb (by omega) (by omega)
 have q3:=q2.tok (by omega) (Xi q2.adv.pos 5 [41])
 have hu:=Na hT q3.adv.pos (v:=v) fun _=>⟨h1,h2⟩;have q4:=q3.note hu (by omega) (by omega)
 have q5:=q4.tok (by omega) (Xi q4.adv.pos 5 [61])
 have hr:=hex _ q5.adv.pos;have q6:=q5.read (by omega) hr
 have q7:=q6.tok (by omega) (Xi q6.adv.pos 6 [105,110])
 have hr2:=hex _ q7.adv.pos;have q8:=q7.read (by omega) hr2
 unfold Zuv;refine q8.done (by omega) (by unfold Wr;simp) ?_ (fun z=>?_) (P0 (Nj hb.len hb.named hu.len hu.named (by simp) (by have:=W7 hT s 1;omega) (Iu hT _ _)) fun x hx q hq=>?_)
 ·rw [Nb];simp;omega
 ·rw [Up];unfold J9;simp;omega
 ·simp only [Zs,Pc,or_false] at hx;rcases hx with rfl|rfl
  ·exact hr.fit q hq
  ·exact hr2.fit q hq
theorem Zqc (hex:∀ s,Pos l s→Reads l s (ex s)) {s:St6} (h:Pos l s):Reads0 l s (yS ex l s):=by
 have hr:=hex _ h;have q1:=(Sq.refl h).read (by omega) hr
 have q2:=q1.tok (by omega) (Xi q1.adv.pos 6 [116,104,101,110])
 have hr2:=hex _ q2.adv.pos;have q3:=q2.read (by omega) hr2
 have q4:=q3.tok (by omega) (Xi q3.adv.pos 6 [101,108,115,101])
 have hr3:=hex _ q4.adv.pos;have q5:=q4.read (by omega) hr3
 unfold yS;refine q5.done (by omega) (by unfold Wr;simp) ?_ (fun z=>?_) (P0 (Nj (by simp) Qt (by simp) Qt (by simp) (by simp) (by simp)) fun x hx q hq=>?_)
 ·rw [Nb];simp;omega
 ·rw [Up];unfold J9 Jw;simp;omega
 ·simp only [Zs,Pc,or_false] at hx;rcases hx with rfl|rfl|rfl
  ·exact hr.fit q hq
  ·exact hr2.fit q hq
  ·exact hr3.fit q hq
end
theorem kL {l:List Tok} {s:St6} (h:Pos l s) (he:s.e=0) (hl:s.at_<l.length):Tk6 l s (Xu s):=by
 rcases Zbp h hl with hA|hA
 ·exact ⟨hA,fun _=>rfl⟩
 ·exact absurd he hA
theorem dK {l:List Tok} {s:St6} (h:Pos l s) {k:Int} {x:List UInt8} (hi:Rh l s k x=true):Tk6 l s (Xu s):=kL h (Du hi).1 (Du hi).2
theorem Sq.bump {l:List Tok} {m:Int} {s r q:St6} {n:Int} {w:Int→Nat} (h:Sq l m s r n w) (hm:0≤m) (hr:r.e=0) (hq:Tk6 l r q):Sq l (m+1) s q (n+1) w:=by
 have h2:=h.tok hm hq;refine ⟨h2.adv,fun he=>?_,?_,h2.cnt⟩
 ·have h1:=h.ok hr;have h3:=(hq.adv.gain he).2;have h4:=(hq.adv.gain he).1;omega
 ·have h1:=h.ok hr;have h3:=h.adv.hi;omega
theorem Sq.fin {l:List Tok} {m:Int} {s r:St6} {n:Int} {w:Int→Nat} (h:Sq l m s r n w) (hm:1≤m) (h0:s.e=0) {e:List Part} (he:e≠[]) (h1:r.e=0→(e.length:Int)≤2*(r.at_-s.at_)-1) (h2:(e.length:Int)≤2*(l.length-s.at_)+1) (hw:∀ z,X5 z e=w z) (hf:∀ p∈e,Rz p):Reads l s (e,r):=by
 refine ⟨h.adv.weak hm (Int.le_refl _),fun hn=>absurd h0 hn,h2,fun hr=>⟨he,h1 hr⟩,fun hr z=>?_,hf⟩;rw [hw];exact h.cnt hr z
theorem S0 {l:List Tok} {s:St6} (h:Pos l s) {e:Int} (he:e≠0):Reads l s ([],J0 s e):=by
 have e0:(J0 s e).e≠0:=by
  unfold J0;split
  ·exact he
  ·assumption
 have e1:(J0 s e).at_=s.at_:=by unfold J0;split<;>rfl
 have e2:(J0 s e).sites=s.sites:=by unfold J0;split<;>rfl
 have h0:=h.lo;have h1:=h.hi;refine ⟨⟨fun hn=>?_,by rw [e1];exact h0,by rw [e1];exact h1,fun hr=>absurd hr e0,fun _=>by rw [e2];omega,fun hr=>absurd hr e0⟩,fun _=>rfl,?_,fun hr=>absurd hr e0,fun hr=>absurd hr e0,fun p hp=>by cases hp⟩
 ·unfold J0;rw [if_neg hn]
 ·simp only [List.length_nil];omega
theorem Zuz {l:List Tok} {s:St6} (h:Pos l s) (he:s.e≠0):Reads l s ([],s):=by
 have:=S0 h (e:=1) (by decide)
 unfold J0 at this;rwa [if_neg he] at this
theorem Sq.bad {l:List Tok} {m:Int} {s r:St6} {n:Int} {w:Int→Nat} (h:Sq l m s r n w) (hm:0≤m) (hP:Pos l s) (hr:r.e≠0):Reads0 l s ([],r):=by
 refine ⟨h.adv.weak hm (Int.le_refl _),?_,fun h0=>absurd h0 hr,fun h0=>absurd h0 hr,fun p hp=>by cases hp⟩
 have:=hP.hi;simp only [List.length_nil];omega
section
variable {ex:Qb9} {l:List Tok} {v:Int}
theorem Zak (hT:Toks l) (hex:∀ s,Pos l s→Reads l s (ex s)) (h1:1≤v) (h2:v≤100) {s:St6} (h:Pos l s):Reads0 l s (bB ex l v s):=by
 have q1:=(Sq.refl h).tok (by omega) (Ps h 2)
 have q2:=q1.tok (by omega) (Xi q1.adv.pos 5 [61])
 have hr:=hex _ q2.adv.pos;have q3:=q2.read (by omega) hr
 have hu:=Na hT q3.adv.pos (v:=v) fun _=>⟨h1,h2⟩;have q4:=q3.note hu (by omega) (by omega)
 have q5:=q4.tok (by omega) (Xi q4.adv.pos 5 [93])
 unfold bB;refine q5.done (by omega) (by unfold Wr;simp) ?_ (fun z=>?_) (P0 (Nj hu.len hu.named (by simp) Qt (by simp) (by have:=W7 hT s 2;omega) (by simp)) fun x hx q hq=>?_)
 ·rw [Nb];simp;omega
 ·rw [Up];unfold J9;rw [show Jw (Yh z) ([]:List Node)=0 from rfl];simp;omega
 ·simp only [Zp] at hx;subst hx;exact hr.fit q hq
theorem Sq.leaf {l:List Tok} {m:Int} {s r:St6} (h:Sq l m s r 0 fun _=>0) (hm:0≤m) {p:Part} (hp:∀ z,J9 z p=0) (hf:Rz p):Reads0 l s ([p],r):=by
 refine h.done hm (by simp) (by simp) (fun z=>?_) (fun q hq=>?_)
 ·rw [Em,hp];rfl
 ·rw [Zp.1 hq];exact hf
theorem Zmm (hT:Toks l) (hex:∀ s,Pos l s→Reads l s (ex s)) (h1:1≤v) (h2:v≤100) {s:St6} (h:Pos l s):Reads0 l s (lV ex l v s):=by
 unfold lV;split
 ·rename_i hi;refine ((Sq.refl h).tok (by omega) (dK h hi)).leaf (by omega) (fun z=>by rfl) (Nj (by simp) (fun n hn=>?_) (by simp) Qt (by simp) (by simp) (by simp))
  rw [Zp.1 hn];simp
 ·have hr:=hex _ h;have q1:=(Sq.refl h).read (by omega) hr
  dsimp only
  split
  ·rename_i hi;have q2:=q1.tok (by omega) (dK q1.adv.pos hi)
   have hu:=O1 hT q2.adv.pos (v:=v) fun _=>⟨h1,h2⟩;have q4:=q2.note hu (by omega) (by omega)
   have q5:=q4.tok (by omega) (Xi q4.adv.pos 5 [41])
   refine q5.done (by omega) (by unfold Wr;simp) ?_ (fun z=>?_) (P0 (Nj hu.len hu.named (by simp) Qt (by simp) (by simp) (by simp)) fun x hx q hq=>?_)
   ·rw [Nb];simp;omega
   ·rw [Up];unfold J9;rw [show Jw (Yh z) ([]:List Node)=0 from rfl];simp;omega
   ·simp only [Zp] at hx;subst hx;exact hr.fit q hq
  ·have q2:=q1.tok (by omega) (Xi q1.adv.pos 5 [41])
   refine ⟨q2.adv.weak (by omega) (Int.le_refl _),by have:=hr.len;show ((ex s).1.length:Int)≤_;omega,fun h0=>?_,fun h0 z=>?_,hr.fit⟩
   ·have g:=hr.ok ((Xi q1.adv.pos 5 [41]).adv.ok0 h0);have:=(Xi q1.adv.pos 5 [41]).adv.mono h0;exact ⟨g.1,by have:=g.2;show ((ex s).1.length:Int)≤2*((Qq l (ex s).2 5 [41]).at_-s.at_)+1;omega⟩
   ·have:=q2.cnt h0 z;simp only [Nat.zero_add] at this;exact this
end
theorem Es {l:List Tok} {s:St6} {k:Int} {had:List (List UInt8)} (h:(W9 l s k had).2.e=0):had.length<50:=by
 rcases Nat.lt_or_ge had.length 50 with h1|h1
 ·exact h1
 ·exfalso;unfold W9 at h;by_cases ha:(Jk l s k).2.e=0
  ·rw [if_neg (by simpa using ha)] at h
   by_cases hb:in6 had (Jk l s k).1=true
   ·rw [if_pos hb] at h;exact absurd h (by show ¬ (7:Int)=0;decide)
   ·rw [if_neg hb,if_pos h1] at h;exact absurd h (by show ¬ (3:Int)=0;decide)
  ·rw [if_pos ha] at h;exact ha h
section
variable {ex:Qb9} {l:List Tok} {v:Int}
theorem kZ (hT:Toks l) (hex:∀ s,Pos l s→Reads l s (ex s)) {s0:St6} (hP:Pos l s0):∀ (f:Nat) (s:St6) (had:List (List UInt8)) (body:List Part) (m:Int) (w:Int→Nat),Sq l m s0 s body.length w→0≤m→(∀ z,X5 z body=w z)→(∀ p∈body,Rz p)→had.length≤50→had.length+f=51→Reads0 l s0 (mF ex l f s had body)
 | 0,s,had,body,m,w,_,_,_,_,h1,h2=>by omega
 | f+1,s,had,body,m,w,hq,hm,hw,hf,h1,h2=>by
  have t1:=Zl2 hq.adv.pos 2 had;have q1:=hq.tok hm t1;have t2:=Ps q1.adv.pos 1;have q2:=q1.tok (by omega) t2
  have t3:=Xi q2.adv.pos 5 [45,62];have hr:=hex _ t3.adv.pos;rw [mF];split
  ·rename_i he;exact ((q2.tok (by omega) t3).read (by omega) hr).bad (by omega) hP he
  rename_i he;have he:(K5 ex l s had).2.2.2.e=0:=by simpa using he
  have he2:=t3.adv.ok0 (hr.adv.ok0 he);have he1:=t2.adv.ok0 he2;have q3:=q2.bump (by omega) he2 t3
  have q4:=q3.read (by omega) hr
  have hlab:=gS hT s 2 had;have hnam:=W7 hT (W9 l s 2 had).2 1;have hfit:∀ p∈body++Wr ⟨8,(K5 ex l s had).1,[],(K5 ex l s had).2.1,0,0,[],[]⟩ [⟨(K5 ex l s had).2.2.1⟩],Rz p:=by
   intro p hp;rcases List.mem_append.1 hp with hp|hp
   ·exact hf p hp
   ·refine P0 (Nj (by simp) Qt (by simp) Qt hlab (by simp) hnam) (fun x hx q hq=>?_) p hp
    simp only [Zp] at hx;subst hx;exact hr.fit q hq
  have hlen:(((body++Wr ⟨8,(K5 ex l s had).1,[],(K5 ex l s had).2.1,0,0,[],[]⟩ [⟨(K5 ex l s had).2.2.1⟩]).length:Nat):Int)=body.length+1+(ex (Qq l (Jk l (W9 l s 2 had).2 1).2 5 [45,62])).1.length:=by
   rw [Zf,Nb];unfold K5;simp;omega
  have hwt:∀ z,X5 z (body++Wr ⟨8,(K5 ex l s had).1,[],(K5 ex l s had).2.1,0,0,[],[]⟩ [⟨(K5 ex l s had).2.2.1⟩])=w z+X5 z (ex (Qq l (Jk l (W9 l s 2 had).2 1).2 5 [45,62])).1:=fun z=>by
   rw [Fl,Up,hw];unfold K5 J9;rw [show Jw (Yh z) ([]:List Node)=0 from rfl];simp
  rw [←hlen] at q4;split
  ·have q5:=q4.tok (by omega) (Xi q4.adv.pos 6 [101,110,100])
   refine q5.done (by omega) (by simp) ?_ (fun z=>?_) (fun p hp=>?_)
   ·simp only [Zi];omega
   ·rw [Em,hwt];unfold J9;rw [show Jw (Yh z) ([]:List Node)=0 from rfl];simp
   ·rcases Zs.1 hp with rfl|hp
    ·exact Nj (by simp) Qt (by simp) Qt (by simp) (by simp) (by simp)
    ·exact hfit p hp
  ·rename_i hi;have hi:Rh l (K5 ex l s had).2.2.2 5 [124]=true:=by simpa using hi
   have q5:=q4.tok (by omega) (dK q4.adv.pos hi)
   have hh:=Es he1;exact kZ hT hex hP f _ _ _ _ _ q5 (by omega) hwt hfit (by simp;omega) (by simp;omega)
theorem Zmn (hT:Toks l) (hex:∀ s,Pos l s→Reads l s (ex s)) {s:St6} (h:Pos l s):Reads0 l s (uV ex l s):=by
 have hr:=hex _ h;have q1:=(Sq.refl h).read (by omega) hr
 have q2:=q1.tok (by omega) (Xi q1.adv.pos 6 [111,102])
 rw [show (0:Int)+(ex s).1.length=(ex s).1.length by omega] at q2
 exact kZ hT hex h 51 _ [] _ _ _ q2 (by omega) (fun z=>by simp) hr.fit (by simp) (by simp)
theorem Qbg (x:List UInt8) (e:List Part):(Zay x e).length=e.length:=by cases e<;>rfl
theorem Qfm (x:List UInt8) (z:Int) (e:List Part):X5 z (Zay x e)=X5 z e:=by cases e<;>rfl
theorem Qbh {x:List UInt8} (hx:x.length≤1000000) {e:List Part} (h:∀ p∈e,Rz p):∀ p∈Zay x e,Rz p:=by
 cases e with
 | nil=>intro p hp;cases hp
 | cons q e =>
  intro p hp;rcases Zs.1 hp with rfl|hp
  ·have:=h q (List.mem_cons_self ..);exact ⟨this.1,this.2.1,hx,this.2.2.2.1,this.2.2.2.2⟩
  ·exact h p (List.mem_cons_of_mem _ hp)
theorem mS (hT:Toks l) (hex:∀ s,Pos l s→Reads l s (ex s)) {s0:St6} (hP:Pos l s0):∀ (f:Nat) (s:St6) (had:List (List UInt8)) (body:List Part) (m:Int) (w:Int→Nat),Sq l m s0 s body.length w→0≤m→(∀ z,X5 z body=w z)→(∀ p∈body,Rz p)→had.length≤50→had.length+f=51→Reads0 l s0 (kU ex l f s had body)
 | 0,s,had,body,m,w,_,_,_,_,h1,h2=>by omega
 | f+1,s,had,body,m,w,hq,hm,hw,hf,h1,h2=>by
  have t1:=Zl2 hq.adv.pos 1 had;have q1:=hq.tok hm t1;have t3:=Xi q1.adv.pos 5 [61];have q3:=q1.tok (by omega) t3
  have hr:=hex _ t3.adv.pos;have q4:=q3.read (by omega) hr
  rw [kU];split
  ·rename_i he;exact q4.bad (by omega) hP he
  rename_i he;have he:(ex (Qq l (W9 l s 1 had).2 5 [61])).2.e=0:=by simpa using he
  have he1:=t3.adv.ok0 (hr.adv.ok0 he);have hlab:=gS hT s 1 had;have hfit:∀ p∈body++Zay (W9 l s 1 had).1 (ex (Qq l (W9 l s 1 had).2 5 [61])).1,Rz p:=by
   intro p hp;rcases List.mem_append.1 hp with hp|hp
   ·exact hf p hp
   ·exact Qbh hlab hr.fit p hp
  have hlen:(((body++Zay (W9 l s 1 had).1 (ex (Qq l (W9 l s 1 had).2 5 [61])).1).length:Nat):Int)=body.length+(ex (Qq l (W9 l s 1 had).2 5 [61])).1.length:=by
   rw [Zf,Qbg];omega
  have hwt:∀ z,X5 z (body++Zay (W9 l s 1 had).1 (ex (Qq l (W9 l s 1 had).2 5 [61])).1)=w z+X5 z (ex (Qq l (W9 l s 1 had).2 5 [61])).1:=fun z=>by
   rw [Fl,Qfm,hw]
  rw [←hlen] at q4;split
  ·have q5:=q4.tok (by omega) (Xi q4.adv.pos 5 [125])
   refine q5.done (by omega) (by simp) ?_ (fun z=>?_) (fun p hp=>?_)
   ·simp only [Zi];omega
   ·rw [Em,hwt];unfold J9;rw [show Jw (Yh z) ([]:List Node)=0 from rfl];simp
   ·rcases Zs.1 hp with rfl|hp
    ·exact Nj (by simp) Qt (by simp) Qt (by simp) (by simp) (by simp)
    ·exact hfit p hp
  ·rename_i hi;have hi:Rh l (ex (Qq l (W9 l s 1 had).2 5 [61])).2 5 [44]=true:=by simpa using hi
   have q5:=q4.tok (by omega) (dK q4.adv.pos hi)
   have hh:=Es he1;exact mS hT hex hP f _ _ _ _ _ q5 (by omega) hwt hfit (by simp;omega) (by simp;omega)
theorem Zqa (hT:Toks l) (hex:∀ s,Pos l s→Reads l s (ex s)) {s:St6} (h:Pos l s):Reads0 l s (wN ex l s):=by
 unfold wN;split
 ·rename_i hi;exact ((Sq.refl h).tok (by omega) (dK h hi)).leaf (by omega) (fun z=>by rfl) (Nj (by simp) Qt (by simp) Qt (by simp) (by simp) (by simp))
 ·exact mS hT hex h 51 _ [] _ _ _ (Sq.refl h) (by omega) (fun z=>rfl) (fun p hp=>by cases hp) (by simp) (by simp)
end
theorem Iw {l:List Tok} {s:St6} (h:N4 l s=true):s.e=0∧s.at_<l.length:=by
 unfold N4 at h;split at h
 ·cases h
 ·rename_i a;by_cases he:s.e=0
  ·refine ⟨he,?_⟩;by_cases hl:s.at_<l.length
   ·exact hl
   ·exact absurd (.inr (by omega)) a
  ·exact absurd (.inl he) a
theorem Zp4 {l:List Tok} {b:Int} {s:St6} (h:Ej l b s=true):s.e=0∧s.at_<l.length:=by
 unfold Ej at h;simp only [Zg,Zk,Jf] at h;exact ⟨h.1,h.2.1⟩
theorem R6 {l:List Tok} (hT:Toks l) (i:Int):(tk l i).text.length≤1000000:=by
 unfold tk;rw [Zd];cases hk:l[i.toNat]? with
 | none=>simp [Ue]
 | some x=>exact (hT.ok x (List.mem_of_getElem? hk)).1
section
variable {ex:Qb9} {l:List Tok} {v:Int}
theorem Ak {s:St6} (h:Pos l s) (he:s.e=0) (hl:s.at_<l.length) {p:Part} (hp:∀ z,J9 z p=0) (hf:Rz p):Reads l s ([p],Xu s) :=
 Reads0.behind h he hl ((Sq.refl (kL h he hl).adv.pos).leaf (by omega) hp hf)
theorem sS {k m n i:Int} {c:List UInt8} (h:c.length≤3000000):Rz ⟨k,[],c,[],m,n,[⟨i,[],0⟩],[]⟩ :=
 Nj (by simp) (fun x hx=>by rw [Zp.1 hx];simp) (by simp) Qt (by simp) h (by simp)
theorem qO (hT:Toks l) (hex:∀ s,Pos l s→Reads l s (ex s)) (h1:1≤v) (h2:v≤100) {s:St6} (h:Pos l s):Reads l s (uM ex l v s):=by
 unfold uM;by_cases hb:s.e≠0∨N4 l s=false
 ·rw [if_pos hb];exact S0 h (by decide)
 rw [if_neg hb];have hb:N4 l s=true:=by
  cases hx:N4 l s
  ·exact absurd (.inr hx) hb
  ·rfl
 obtain ⟨he,hl⟩:=Iw hb;have hP:=(kL h he hl).adv.pos;have ht:=R6 hT s.at_
 dsimp only
 split
 ·exact Ak h he hl (fun z=>by rfl) (sS (by simp))
 split
 ·exact Ak h he hl (fun z=>by rfl) (sS (by omega))
 split
 ·exact Ak h he hl (fun z=>by rfl) (sS (by simp))
 split
 ·split
  ·exact Ak h he hl (fun z=>by rfl) (Nj (by simp) Qt (by simp) Qt (by simp) (by omega) (by simp))
  ·rename_i hi;have hi:Rh l (Xu s) 5 [33]=true:=by simpa using hi
   have q1:=(Sq.refl hP).tok (by omega) (dK hP hi)
   have q2:=q1.tok (by omega) (Ps q1.adv.pos 1)
   have hn:=W7 hT (Xu (Xu s)) 1;exact Reads0.behind h he hl (q2.leaf (by omega) (fun z=>by rfl) (Nj (by simp) Qt (by simp) Qt (by simp) (by simp;omega) (by simp)))
 split
 ·exact Reads0.behind h he hl (Zmm hT hex h1 h2 hP)
 split
 ·exact Reads0.behind h he hl (Zqa hT hex hP)
 ·exact Reads0.behind h he hl (Zak hT hex h1 h2 hP)
theorem O0 (hT:Toks l) {s:St6}:∀ (f:Nat) (r:List Part×St6),Pos l s→Reads l s r→Reads l s (gV l f r)
 | 0,r,_,h=>h
 | f+1,r,hP,h=>by
  rw [gV];split
  ·exact h
  rename_i hi;have hi:Rh l r.2 5 [46]=true:=by simpa using hi
  have he:=(Du hi).1;have hs:=h.adv.ok0 he;have q1:=(Sq.refl hP).read (by omega) h
  have t2:=dK q1.adv.pos hi;have q2:=q1.tok (by omega) t2
  have t3:=Ps q2.adv.pos 1;have q3:=q2.tok (by omega) t3
  have hn:=W7 hT (Xu r.2) 1;have hk:=(h.ok he).2;have hm:=h.adv.hi;have hl:=(Du hi).2;have ha:(Xu r.2).at_=r.2.at_+1:=rfl;refine O0 hT f _ hP (q3.fin (by omega) hs (by unfold Wr;simp) (fun h0=>?_) ?_ (fun z=>?_) (P0 (Nj (by simp) Qt (by simp) Qt (by simp) (by omega) (by simp)) fun x hx q hq=>?_))
  ·have:=t3.adv.mono h0;rw [Nb];simp;omega
  ·rw [Nb];simp;omega
  ·rw [Up];unfold J9;rw [show Jw (Yh z) ([]:List Node)=0 from rfl];simp
  ·simp only [Zp] at hx;subst hx;exact h.fit q hq
theorem Aj (hT:Toks l) (hex:∀ s,Pos l s→Reads l s (ex s)) (h1:1≤v) (h2:v≤100) {s:St6} (h:Pos l s):Reads l s (nZ ex l v s) :=
 O0 hT _ _ h (qO hT hex h1 h2 h)
theorem wS {s a:St6} {r x:List Part×St6} (hP:Pos l s) (h:Reads l s r) (hs:s.e=0) (he:r.2.e=0) (hx:Reads l a x) {m:Int} (q:Sq l m s a r.1.length fun z=>X5 z r.1) (hm:0≤m) (ha:r.2.at_≤a.at_) (ha2:a.at_≤l.length) {p:Part} (hp:∀ z,J9 z p=0) (hf:Rz p):Reads l s (Wr p [⟨r.1⟩,⟨x.1⟩],x.2):=by
 have q2:=q.read hm hx;have hk:=(h.ok he).2;have hn:=hx.len;refine q2.fin (by omega) hs (by unfold Wr;simp) (fun h0=>?_) ?_ (fun z=>?_) (P0 hf fun y hy t ht=>?_)
 ·have:=(hx.ok h0).2;rw [Nb];simp;omega
 ·rw [Nb];simp;omega
 ·rw [Up,hp];simp
 ·simp only [Zs,Pc,or_false] at hy;rcases hy with rfl|rfl
  ·exact h.fit t ht
  ·exact hx.fit t ht
theorem Dl (hT:Toks l) (hex:∀ s,Pos l s→Reads l s (ex s)) (h1:1≤v) (h2:v≤100) {s:St6}:∀ (f:Nat) (r:List Part×St6),Pos l s→Reads l s r→Reads l s (Pz ex l v f r)
 | 0,r,_,h=>h
 | f+1,r,hP,h=>by
  rw [Pz];split
  ·exact h
  rename_i hi;obtain ⟨he,hl⟩:=Iw (by simpa using hi:N4 l r.2=true)
  have hs:=h.adv.ok0 he;have q1:=(Sq.refl hP).read (by omega) h
  simp only [Int.zero_add,Nat.zero_add] at q1;exact Dl hT hex h1 h2 f _ hP (wS hP h hs he (Aj hT hex h1 h2 q1.adv.pos) q1 (by omega) (Int.le_refl _) (by omega) (fun z=>by rfl) (Nj (by simp) Qt (by simp) Qt (by simp) (by simp) (by simp)))
theorem vC (hT:Toks l) (hex:∀ s,Pos l s→Reads l s (ex s)) (h1:1≤v) (h2:v≤100) {s:St6} (h:Pos l s):Reads l s (F4 ex l v s) :=
 Dl hT hex h1 h2 _ _ h (Aj hT hex h1 h2 h)
theorem eM (hT:Toks l) {b:Int} {sub:Qb9} (hsub:∀ s,Pos l s→Reads l s (sub s)) {s:St6}:∀ (f:Nat) (r:List Part×St6),Pos l s→Reads l s r→Reads l s (Zas l b sub f r)
 | 0,r,_,h=>h
 | f+1,r,hP,h=>by
  rw [Zas];split
  ·exact h
  rename_i hi;obtain ⟨he,hl⟩:=Zp4 (by simpa using hi:Ej l b r.2=true)
  have hs:=h.adv.ok0 he;have q1:=(Sq.refl hP).read (by omega) h
  simp only [Int.zero_add,Nat.zero_add] at q1;have t2:=kL q1.adv.pos he hl;have q2:=q1.tok (by omega) t2
  have ha:(Xu r.2).at_=r.2.at_+1:=rfl;have hn:=R6 hT r.2.at_;exact eM hT hsub f _ hP (wS hP h hs he (hsub _ q2.adv.pos) q2 (by omega) (by omega) (by omega) (fun z=>by rfl) (Nj (by simp) Qt (by simp) Qt (by simp) (by omega) (by simp)))
theorem Fy (hT:Toks l) (hex:∀ s,Pos l s→Reads l s (ex s)) (h1:1≤v) (h2:v≤100):∀ (m:Nat) (s:St6),Pos l s→Reads l s (vD ex l v m s)
 | 0,s,h=>vC hT hex h1 h2 h
 | m+1,s,h=>eM hT (Fy hT hex h1 h2 m) _ _ h (Fy hT hex h1 h2 m s h)
theorem Zqb (hT:Toks l) (hex:∀ s,Pos l s→Reads l s (ex s)) (h1:1≤v) (h2:v≤100) {s:St6} (h:Pos l s):Reads l s (Zon ex l v s):=by
 unfold Zon;by_cases he:s.e=0
 ·rw [if_neg (by simpa using he)]
  split
  ·rename_i hk;have hP:=(kL h he hk.1).adv.pos;split
   ·exact Reads0.behind h he hk.1 (Zuy hT hex h1 h2 hP)
   split
   ·exact Reads0.behind h he hk.1 (Zux hT hex h1 h2 hP)
   split
   ·exact Reads0.behind h he hk.1 (Zuw hT hex h1 h2 hP)
   split
   ·exact Reads0.behind h he hk.1 (Zqc hex hP)
   split
   ·exact Reads0.behind h he hk.1 (Zmn hT hex hP)
   ·exact Fy hT hex h1 h2 5 s h
  ·exact Fy hT hex h1 h2 5 s h
 ·rw [if_pos he];exact Zuz h he
end
theorem Jj {l:List Tok} (hT:Toks l):∀ (d:Nat),d≤100→∀ (s:St6),Pos l s→Reads l s (Jy l d s)
 | 0,_,s,h=>S0 h (by decide)
 | d+1,hd,s,h=>Zqb hT (Jj hT d (by omega)) (by omega) (by omega) h
structure St6In (l:List Tok) (s:St6):Prop where
 toks:Toks l
 pos:Pos l s
 all:s.sites.length≤850000
 ok:s.e=0→(s.sites.length:Int)≤700000+s.at_
theorem St6In.go {l:List Tok} {s r:St6} (h:St6In l s) {m q:Int} (hA:Adv l m q s r) (hm:0≤m) (hq:q≤1):St6In l r:=by
 have hl:=h.toks.len;refine ⟨h.toks,hA.pos,?_,fun he=>?_⟩
 ·by_cases he:s.e=0
  ·have:=hA.room he;have:=h.ok he;omega
  ·rw [hA.err he];exact h.all
 ·have hs:=hA.ok0 he;have:=h.ok hs;have:=(hA.gain he).2;omega
theorem St6In.ok6 {l:List Tok} {s:St6} (h:St6In l s):St6Ok l s :=
 ⟨h.toks.len,h.pos.lo,h.pos.hi,by have:=h.all;omega,fun t ht=>(h.toks.ok t ht).1,fun t ht=>(h.toks.ok t ht).2⟩
theorem St6In.nums {l:List Tok} {s:St6} (h:St6In l s):l.length≤1000000∧0≤s.at_∧s.at_≤2000000:=by
 have h1:=h.toks.len;have h2:=h.pos.lo;have h3:=h.pos.hi;exact ⟨by omega,h2,by omega⟩
theorem St6In.needs {l:List Tok} {s:St6} (h:St6In l s) (k:Int) (x:List UInt8):St6In l (Qq l s k x):=h.go (Pm h.pos k x) (by omega) (by omega)
theorem St6In.named {l:List Tok} {s:St6} (h:St6In l s) (k:Int):St6In l (Jk l s k).2:=h.go (Si h.pos k) (by omega) (by omega)
theorem St6In.label {l:List Tok} {s:St6} (h:St6In l s) (k:Int) (had:List (List UInt8)):St6In l (W9 l s k had).2:=h.go (mI h.pos k had) (by omega) (by omega)
theorem St6In.expr {l:List Tok} {s:St6} (h:St6In l s) {d:Nat} (hd:d≤100):St6In l (Jy l d s).2:=h.go (Jj h.toks d hd s h.pos).adv (by omega) (by omega)
theorem St6In.adv {l:List Tok} {s:St6} (h:St6In l s) (he:s.e=0) (hl:s.at_<l.length):St6In l (Xu s):=h.go (kL h.pos he hl).adv (by omega) (by omega)
theorem St6In.is {l:List Tok} {s:St6} (h:St6In l s) {k:Int} {x:List UInt8} (hi:Rh l s k x=true):St6In l (Xu s):=h.adv (Du hi).1 (Du hi).2
theorem J6 {l:List Tok} {s:St6} {r:List Part×St6} (h:St6In l s) (hR:Reads l s r):r.1.length≤300000:=by
 have h1:=hR.len;have h2:=h.toks.len;have h3:=h.pos.lo;omega
def Xp (n:Nat):Con:=Yk (fun (l:Sl Tok) (s:St6) (v:Int)=>St6In l.l s∧1≤v∧v≤101∧20*(101-v)+12<n) (fun l s v=>Jy l.l (101-v).toNat s)
theorem Yi:type_of% @Xp.eq_def:=@Xp.eq_def
def D7 (n:Nat):Con:=Yk (fun (l:Sl Tok) (s:St6) (v:Int)=>St6In l.l s∧1≤v∧v≤100∧20*(101-v)+5<n) (fun l s v=>Zv5 (Jy l.l (100-v).toNat) l.l v s)
def D3 (n:Nat):Con:=Yk (fun (l:Sl Tok) (s:St6) (v:Int)=>St6In l.l s∧1≤v∧v≤100∧20*(101-v)+5<n) (fun l s v=>Zvw (Jy l.l (100-v).toNat) l.l v s)
def Dz (n:Nat):Con:=Yk (fun (l:Sl Tok) (s:St6) (v:Int)=>St6In l.l s∧1≤v∧v≤100∧20*(101-v)+5<n) (fun l s v=>Zuv (Jy l.l (100-v).toNat) l.l v s)
def L8 (n:Nat):Con:=Yk (fun (l:Sl Tok) (s:St6) (v:Int)=>St6In l.l s∧1≤v∧v≤100∧20*(101-v)+5<n) (fun l s v=>yS (Jy l.l (100-v).toNat) l.l s)
def M8 (n:Nat):Con:=Yk (fun (l:Sl Tok) (s:St6) (v:Int)=>St6In l.l s∧1≤v∧v≤100∧20*(101-v)+5<n) (fun l s v=>uV (Jy l.l (100-v).toNat) l.l s)
def K2 (n:Nat):Con:=Yk (fun (l:Sl Tok) (s:St6) (v:Int)=>St6In l.l s∧1≤v∧v≤100∧20*(101-v)+5<n) (fun l s v=>F4 (Jy l.l (100-v).toNat) l.l v s)
def L6 (n:Nat):Con:=Yk (fun (l:Sl Tok) (s:St6) (v:Int)=>St6In l.l s∧1≤v∧v≤100∧20*(101-v)+4<n) (fun l s v=>nZ (Jy l.l (100-v).toNat) l.l v s)
def Sa (n:Nat):Con:=Yk (fun (l:Sl Tok) (s:St6) (v:Int)=>St6In l.l s∧1≤v∧v≤100∧20*(101-v)+3<n) (fun l s v=>uM (Jy l.l (100-v).toNat) l.l v s)
def M6 (n:Nat):Con:=Yk (fun (l:Sl Tok) (s:St6) (v:Int)=>St6In l.l s∧2≤v∧v≤101∧20*(101-v)+13<n) (fun l s v=>lV (Jy l.l (101-v).toNat) l.l (v-1) s)
def L4 (n:Nat):Con:=Yk (fun (l:Sl Tok) (s:St6) (v:Int)=>St6In l.l s∧2≤v∧v≤101∧20*(101-v)+13<n) (fun l s v=>wN (Jy l.l (101-v).toNat) l.l s)
def Np (n:Nat):Con:=Yk (fun (l:Sl Tok) (s:St6) (v:Int)=>St6In l.l s∧2≤v∧v≤101∧20*(101-v)+13<n) (fun l s v=>bB (Jy l.l (101-v).toNat) l.l (v-1) s)
def Tc (n:Nat):Con:=Zox (fun (l:Sl Tok) (s:St6) (v b:Int)=>St6In l.l s∧1≤v∧v≤100∧0≤b∧b≤5∧20*(101-v)+(11-b)<n) (fun l s v b=>vD (Jy l.l (100-v).toNat) l.l v (5-b).toNat s)
structure IH6 (n:Nat):Prop where
 expr:Qa Tryz.prog (186,Xp n)
 fun_:Qa Tryz.prog (225,D7 n)
 let_:Qa Tryz.prog (226,D3 n)
 rec_:Qa Tryz.prog (227,Dz n)
 cond:Qa Tryz.prog (228,L8 n)
 cases:Qa Tryz.prog (229,M8 n)
 operand:Qa Tryz.prog (254,K2 n)
 part:Qa Tryz.prog (260,L6 n)
 atom:Qa Tryz.prog (266,Sa n)
 paren:Qa Tryz.prog (271,M6 n)
 rows:Qa Tryz.prog (272,L4 n)
 inject:Qa Tryz.prog (273,Np n)
 ops:Qa Tryz.prog (230,Tc n)
theorem tT:∀ c,¬ (Xp 0).pre c:=by
 intro c h;unfold Xp at h;obtain ⟨_,_,_,_,_,_,_,h⟩:=J5 h;omega
theorem wQ:∀ c,¬ (D7 0).pre c:=by
 intro c h;unfold D7 at h;obtain ⟨_,_,_,_,_,_,_,h⟩:=J5 h;omega
theorem vU:∀ c,¬ (D3 0).pre c:=by
 intro c h;unfold D3 at h;obtain ⟨_,_,_,_,_,_,_,h⟩:=J5 h;omega
theorem vR:∀ c,¬ (Dz 0).pre c:=by
 intro c h;unfold Dz at h;obtain ⟨_,_,_,_,_,_,_,h⟩:=J5 h;omega
theorem tU:∀ c,¬ (L8 0).pre c:=by
 intro c h;unfold L8 at h;obtain ⟨_,_,_,_,_,_,_,h⟩:=J5 h;omega
theorem oU:∀ c,¬ (M8 0).pre c:=by
 intro c h;unfold M8 at h;obtain ⟨_,_,_,_,_,_,_,h⟩:=J5 h;omega
theorem jF:∀ c,¬ (K2 0).pre c:=by
 intro c h;unfold K2 at h;obtain ⟨_,_,_,_,_,_,_,h⟩:=J5 h;omega
theorem tO:∀ c,¬ (L6 0).pre c:=by
 intro c h;unfold L6 at h;obtain ⟨_,_,_,_,_,_,_,h⟩:=J5 h;omega
theorem uQ:∀ c,¬ (Sa 0).pre c:=by
 intro c h;unfold Sa at h;obtain ⟨_,_,_,_,_,_,_,h⟩:=J5 h;omega
theorem oT:∀ c,¬ (M6 0).pre c:=by
 intro c h;unfold M6 at h;obtain ⟨_,_,_,_,_,_,_,h⟩:=J5 h;omega
theorem tM:∀ c,¬ (L4 0).pre c:=by
 intro c h;unfold L4 at h;obtain ⟨_,_,_,_,_,_,_,h⟩:=J5 h;omega
theorem mD:∀ c,¬ (Np 0).pre c:=by
 intro c h;unfold Np at h;obtain ⟨_,_,_,_,_,_,_,h⟩:=J5 h;omega
theorem vT:∀ c,¬ (Tc 0).pre c:=by
 intro c h;unfold Tc at h;obtain ⟨_,_,_,_,_,_,_,_,_,_,h⟩:=Zow h;omega
theorem Vg {a:Int} {b c d:List UInt8} {e f:Int} {g:List Node}:V9 Part (.agg [.int .i64 a,.str b,.str c,.str d,.int .i64 e,.int .i64 f,.list 3 (g.map enc),.list 3 []])=True:=eq_true (Xq (Part.mk a b c d e f g []))
theorem Vj {a:Int} {b c d:List UInt8} {e f:Int} {g:List Node}:(dec (.agg [.int .i64 a,.str b,.str c,.str d,.int .i64 e,.int .i64 f,.list 3 (g.map enc),.list 3 []]):Part)=⟨a,b,c,d,e,f,g,[]⟩:=Enc.dec_enc (Part.mk a b c d e f g [])
theorem Vy {a:Int} {b c d:List UInt8} {e f:Int}:V9 Part (.agg [.int .i64 a,.str b,.str c,.str d,.int .i64 e,.int .i64 f,.list 3 [],.list 3 []])=True:=eq_true (Xq (Part.mk a b c d e f [] []))
theorem V0 {a:Int} {b c d:List UInt8} {e f:Int}:(dec (.agg [.int .i64 a,.str b,.str c,.str d,.int .i64 e,.int .i64 f,.list 3 [],.list 3 []]):Part)=⟨a,b,c,d,e,f,[],[]⟩:=Enc.dec_enc (Part.mk a b c d e f [] [])
theorem Vx {a:Int} {b c d:List UInt8} {e f:Int} {g:List Node}:V9 Part (.agg [.int .i64 a,.str b,.str c,.str d,.int .i64 e,.int .i64 f,enc (Sl.mk g),.list 3 []])=True:=Vg
theorem Vz {a:Int} {b c d:List UInt8} {e f:Int} {g:List Node}:(dec (.agg [.int .i64 a,.str b,.str c,.str d,.int .i64 e,.int .i64 f,enc (Sl.mk g),.list 3 []]):Part)=⟨a,b,c,d,e,f,g,[]⟩:=Vj
theorem Yx {a:Int} {b c d:List UInt8} {e f:Int} {g h:List Node}:V9 Part (.agg [.int .i64 a,.str b,.str c,.str d,.int .i64 e,.int .i64 f,enc (Sl.mk g),enc (Sl.mk h)])=True:=Qm
theorem Yz {a:Int} {b c d:List UInt8} {e f:Int} {g h:List Node}:(dec (.agg [.int .i64 a,.str b,.str c,.str d,.int .i64 e,.int .i64 f,enc (Sl.mk g),enc (Sl.mk h)]):Part)=⟨a,b,c,d,e,f,g,h⟩:=Qo
theorem Zpz (n:Nat) (ih:IH6 n):Qa Tryz.prog (225,(D7 (n+1))):=by
 obtain ⟨Kx,Kt,Kc,Kd,Kb,Ku,Kw,K,X9,Uv,Po,Cx,_⟩:=Xe Zv Zn [] false (Q0 Ky Pp (Q0 aY L9.eq_def (Q0 good_made6 Ht (Q0 ih.expr (Yi n) Xd))));have Ko:=(D7.eq_def (n+1));refine Xj K Tryz.func225 [.tmp 6,.cell 7 137] rfl 43 rfl (fun c hc cvs hpre=>?_);unfold D7 at hpre;obtain ⟨⟨l⟩,s,v,rfl,hS,hv1,hv2,hn⟩:=J5 hpre;simp only at hS;clear hpre;obtain ⟨d,hd⟩:∃ d:Nat,v=100-d:=⟨(100-v).toNat,by omega⟩
 subst hd;have Qb:(100-(100-(d:Int))).toNat=d:=by omega
 have Qf:(101-(100-(d:Int)+1)).toNat=d:=by omega
 have hd4:d≤100:=by omega
 have hT:=hS.toks;obtain ⟨R,Je⟩:=exq (Zv5 (Jy l d) l (100-(d:Int)) s);have hR2:=Je;unfold Zv5 at hR2;have k1:=hS.needs 5 [40];have hb:=Da hT k1.pos (v:=100-(d:Int)) fun _=>⟨hv1,hv2⟩;have k2:=k1.go hb.adv (by omega) (by omega)
 have k3:=k2.needs 5 [41];have k4:=k3.needs 5 [45,62];have hx:=J6 k4 (Jj hT d hd4 _ k4.pos);have k5:=k4.expr hd4;obtain ⟨⟨i1,ss1,e1⟩,Z9⟩:=exq (Qq l s 5 [40]);rw [Z9] at hR2 k1 k2 k3 k4 hx k5;obtain ⟨⟨x,t,⟨i2,ss2,e2⟩⟩,Qe⟩:=exq (Pa l ⟨i1,ss1,e1⟩ (100-(d:Int)));rw [Qe] at hR2 k2 k3 k4 hx k5;simp only at hR2 k2 k3 k4 hx k5;obtain ⟨⟨i3,ss3,e3⟩,Qc⟩:=exq (Qq l ⟨i2,ss2,e2⟩ 5 [41]);rw [Qc] at hR2 k3 k4 hx k5;obtain ⟨⟨i4,ss4,e4⟩,Qh⟩:=exq (Qq l ⟨i3,ss3,e3⟩ 5 [45,62]);rw [Qh] at hR2 k4 hx k5;obtain ⟨⟨E,⟨i5,ss5,e5⟩⟩,Qn⟩:=exq (Jy l d ⟨i4,ss4,e4⟩);rw [Qn] at hR2 hx k5;simp only at hR2 hx k5;obtain ⟨M,Q6⟩:=exq (Wr ⟨2,[],[],x,0,0,t,[]⟩ [⟨E⟩]);rw [Q6] at hR2;obtain ⟨i0,ss0,e0⟩:=s;have o0:=hS.nums;have o2:=k2.nums;have o3:=k3.nums;have o1:=k1.ok6;simp only at o0 o2 o3;have hmk:∀ y∈([⟨E⟩]:List (Sl Part)),y.l.length≤1000000:=by
  intro y hy;rw [Zp.1 hy];show E.length≤_;omega
 subst hR2;cases hc;refine Y4 2 ?_;have Q4:=@Yk.eq_def;have Zu:=@Lh.eq_def;have Zx:=@uY.eq_def;have Zw:=@Vx;have Zz:=@Vz;have Zy:=@Yx;have Qd:=@Yz;have Z1:=@Vg;have Z0:=@Vj;have Qi:=@Vy;have Qk:=@V0;have Qs:=@Qr;have Q8:=@Ja;have Q5:=@Jb;exact Ln
theorem Zpy (n:Nat) (ih:IH6 n):Qa Tryz.prog (226,(D3 (n+1))):=by
 obtain ⟨Kx,Kt,Kc,Kd,Kb,Ku,Kw,K,X9,Uv,Po,Cx,Oj,_⟩:=Xe Zv Zn [] false (Q0 Ky Pp (Q0 bD D5.eq_def (Q0 aY L9.eq_def (Q0 good_made6 Ht (Q0 ih.expr (Yi n) Xd)))));have Ko:=(D3.eq_def (n+1));refine Xj K Tryz.func226 [.tmp 6,.cell 7 137] rfl 50 rfl (fun c hc cvs hpre=>?_);unfold D3 at hpre;obtain ⟨⟨l⟩,s,v,rfl,hS,hv1,hv2,hn⟩:=J5 hpre;simp only at hS;clear hpre;obtain ⟨d,hd⟩:∃ d:Nat,v=100-d:=⟨(100-v).toNat,by omega⟩
 subst hd;have Qb:(100-(100-(d:Int))).toNat=d:=by omega
 have Qf:(101-(100-(d:Int)+1)).toNat=d:=by omega
 have hd4:d≤100:=by omega
 have hT:=hS.toks;obtain ⟨R,Je⟩:=exq (Zvw (Jy l d) l (100-(d:Int)) s);have hR2:=Je;unfold Zvw at hR2;have hb:=Da hT hS.pos (v:=100-(d:Int)) fun _=>⟨hv1,hv2⟩;have k2:=hS.go hb.adv (by omega) (by omega)
 have k3:=k2.needs 5 [61];have hx:=J6 k3 (Jj hT d hd4 _ k3.pos);have k4:=k3.expr hd4;have k5:=k4.needs 6 [105,110];have hx2:=J6 k5 (Jj hT d hd4 _ k5.pos);have k6:=k5.expr hd4;obtain ⟨⟨x,t,⟨i2,ss2,e2⟩⟩,Z9⟩:=exq (Pa l s (100-(d:Int)));rw [Z9] at hR2 k2 k3 hx k4 k5 hx2 k6;simp only at hR2 k2 k3 hx k4 k5 hx2 k6;obtain ⟨⟨i3,ss3,e3⟩,Qe⟩:=exq (Qq l ⟨i2,ss2,e2⟩ 5 [61]);rw [Qe] at hR2 k3 hx k4 k5 hx2 k6;obtain ⟨⟨A,⟨i4,ss4,e4⟩⟩,Qc⟩:=exq (Jy l d ⟨i3,ss3,e3⟩);rw [Qc] at hR2 hx k4 k5 hx2 k6;simp only at hR2 hx k4 k5 hx2 k6;obtain ⟨⟨i5,ss5,e5⟩,Qh⟩:=exq (Qq l ⟨i4,ss4,e4⟩ 6 [105,110]);rw [Qh] at hR2 k5 hx2 k6;obtain ⟨⟨B,⟨i6,ss6,e6⟩⟩,Qn⟩:=exq (Jy l d ⟨i5,ss5,e5⟩);rw [Qn] at hR2 hx2 k6;simp only at hR2 hx2 k6;obtain ⟨M,Q6⟩:=exq (Wr ⟨4,[],[],x,0,0,t,[]⟩ [⟨A⟩,⟨B⟩]);rw [Q6] at hR2;obtain ⟨i0,ss0,e0⟩:=s;have o0:=hS.ok6;have o2:=k2.nums;have o4:=k4.nums;simp only at o2 o4;have ha1:A.length≤1000000:=by omega
 have hb1:B.length≤1000000:=by omega
 subst hR2;cases hc;refine Y4 3 ?_;have Q4:=@Yk.eq_def;have Zu:=@Lh.eq_def;have Zx:=@uY.eq_def;have Zw:=@Vx;have Zz:=@Vz;have Zy:=@Yx;have Qd:=@Yz;have Z1:=@Vg;have Z0:=@Vj;have Qi:=@Vy;have Qk:=@V0;have Qs:=@Qr;have Q8:=@Ja;have Q5:=@Jb;exact Ln
theorem Zl6 (n:Nat) (ih:IH6 n):Qa Tryz.prog (228,(L8 (n+1))):=by
 obtain ⟨Kx,Kt,Kc,Kd,Kb,Ku,Kw,K,X9,Uv,Po,_⟩:=Xe Zv Zn [] false (Q0 bD D5.eq_def (Q0 good_made6 Ht (Q0 ih.expr (Yi n) Xd)));have Ko:=(L8.eq_def (n+1));refine Xj K Tryz.func228 [.tmp 6,.cell 7 137] rfl 48 rfl (fun c hc cvs hpre=>?_);unfold L8 at hpre;obtain ⟨⟨l⟩,s,v,rfl,hS,hv1,hv2,hn⟩:=J5 hpre;simp only at hS;clear hpre;obtain ⟨d,hd⟩:∃ d:Nat,v=100-d:=⟨(100-v).toNat,by omega⟩
 subst hd;have Qb:(100-(100-(d:Int))).toNat=d:=by omega
 have Qf:(101-(100-(d:Int)+1)).toNat=d:=by omega
 have hd4:d≤100:=by omega
 have hT:=hS.toks;obtain ⟨R,Je⟩:=exq (yS (Jy l d) l s);have hR2:=Je;unfold yS at hR2;have hx:=J6 hS (Jj hT d hd4 _ hS.pos);have k2:=hS.expr hd4;have k3:=k2.needs 6 [116,104,101,110];have hx2:=J6 k3 (Jj hT d hd4 _ k3.pos);have k4:=k3.expr hd4;have k5:=k4.needs 6 [101,108,115,101];have hx3:=J6 k5 (Jj hT d hd4 _ k5.pos);have k6:=k5.expr hd4;obtain ⟨⟨A,⟨i2,ss2,e2⟩⟩,Z9⟩:=exq (Jy l d s);rw [Z9] at hR2 hx k2 k3 hx2 k4 k5 hx3 k6;simp only at hR2 hx k2 k3 hx2 k4 k5 hx3 k6;obtain ⟨⟨i3,ss3,e3⟩,Qe⟩:=exq (Qq l ⟨i2,ss2,e2⟩ 6 [116,104,101,110]);rw [Qe] at hR2 k3 hx2 k4 k5 hx3 k6;obtain ⟨⟨B,⟨i4,ss4,e4⟩⟩,Qc⟩:=exq (Jy l d ⟨i3,ss3,e3⟩);rw [Qc] at hR2 hx2 k4 k5 hx3 k6;simp only at hR2 hx2 k4 k5 hx3 k6;obtain ⟨⟨i5,ss5,e5⟩,Qh⟩:=exq (Qq l ⟨i4,ss4,e4⟩ 6 [101,108,115,101]);rw [Qh] at hR2 k5 hx3 k6;obtain ⟨⟨D_1,⟨i6,ss6,e6⟩⟩,Qn⟩:=exq (Jy l d ⟨i5,ss5,e5⟩);rw [Qn] at hR2 hx3 k6;simp only at hR2 hx3 k6;obtain ⟨M,Q6⟩:=exq (Wr ⟨6,[],[],[],0,0,[],[]⟩ [⟨A⟩,⟨B⟩,⟨D_1⟩]);rw [Q6] at hR2;obtain ⟨i0,ss0,e0⟩:=s;have o2:=k2.nums;have o4:=k4.nums;simp only at o2 o4;have ha1:A.length≤1000000:=by omega
 have hb1:B.length≤1000000:=by omega
 have hc1:D_1.length≤1000000:=by omega
 subst hR2;cases hc;refine Y4 3 ?_;have Q4:=@Yk.eq_def;have Zu:=@Lh.eq_def;have Zx:=@Vx;have Zw:=@Vz;have Zz:=@Yx;have Zy:=@Yz;have Qd:=@Vg;have Z1:=@Vj;have Z0:=@Vy;have Qi:=@V0;have Qk:=@Qr;have Qs:=@Ja;have Q8:=@Jb;exact Ln
theorem Zvd {l:List Tok} {s:St6} (h:Pos l s) (k:Int) (x:List UInt8):(Qq l s k x).e=0→1≤(Qq l s k x).at_:=fun he=>by
 have h1:=(Pm h k x).gain he;have h2:=h.lo;omega
theorem Zpx (n:Nat) (ih:IH6 n):Qa Tryz.prog (227,(Dz (n+1))):=by
 obtain ⟨Kx,Kt,Kc,Kd,Kb,Ku,Kw,K,X9,Uv,Po,Cx,Oj,kK,oB,_⟩:=Xe Zv Zn [] false (Q0 Us N7 (Q0 Ky Pp (Q0 bD D5.eq_def (Q0 aY L9.eq_def (Q0 Ey M7.eq_def (Q0 good_made6 Ht (Q0 ih.expr (Yi n) Xd)))))));have Ko:=(Dz.eq_def (n+1));refine Xj K Tryz.func227 [.tmp 6,.cell 7 137] rfl 73 rfl (fun c hc cvs hpre=>?_);unfold Dz at hpre;obtain ⟨⟨l⟩,s,v,rfl,hS,hv1,hv2,hn⟩:=J5 hpre;simp only at hS;clear hpre;obtain ⟨d,hd⟩:∃ d:Nat,v=100-d:=⟨(100-v).toNat,by omega⟩
 subst hd;have Qb:(100-(100-(d:Int))).toNat=d:=by omega
 have Qf:(101-(100-(d:Int)+1)).toNat=d:=by omega
 have hd4:d≤100:=by omega
 have hT:=hS.toks;obtain ⟨R,Zw⟩:=exq (Zuv (Jy l d) l (100-(d:Int)) s);have hR2:=Zw;unfold Zuv at hR2;have m1:=hS.named 1;have m2:=m1.needs 5 [40];have hb:=Da hT m2.pos (v:=100-(d:Int)) fun _=>⟨hv1,hv2⟩;have m3:=m2.go hb.adv (by omega) (by omega)
 have m4:=m3.needs 5 [41];have hat:=Zvd m3.pos 5 [41];have hu:=Na hT m4.pos (v:=100-(d:Int)) fun _=>⟨hv1,hv2⟩;have m5:St6In l (Uy l (Qq l (Pa l (Qq l (Jk l s 1).2 5 [40]) (100-(d:Int))).2.2 5 [41]) (100-(d:Int))).2 :=
  m3.go ((Pm m3.pos 5 [41]).trans hu.adv (m:=0) (q:=0) (by omega) (by omega) (by omega)) (by omega) (by omega)
 have k3:=m5.needs 5 [61];have hx:=J6 k3 (Jj hT d hd4 _ k3.pos);have k4:=k3.expr hd4;have k5:=k4.needs 6 [105,110];have hx2:=J6 k5 (Jj hT d hd4 _ k5.pos);have k6:=k5.expr hd4;obtain ⟨⟨f,⟨a1,as1,ae1⟩⟩,Z9⟩:=exq (Jk l s 1);rw [Z9] at hR2 m1 m2 m3 m4 hat m5 k3 hx k4 k5 hx2 k6;simp only at hR2 m1 m2 m3 m4 hat m5 k3 hx k4 k5 hx2 k6;obtain ⟨⟨a2,as2,ae2⟩,Qe⟩:=exq (Qq l ⟨a1,as1,ae1⟩ 5 [40]);rw [Qe] at hR2 m2 m3 m4 hat m5 k3 hx k4 k5 hx2 k6;obtain ⟨⟨x,t,⟨a3,as3,ae3⟩⟩,Qc⟩:=exq (Pa l ⟨a2,as2,ae2⟩ (100-(d:Int)));rw [Qc] at hR2 m3 m4 hat m5 k3 hx k4 k5 hx2 k6;simp only at hR2 m3 m4 hat m5 k3 hx k4 k5 hx2 k6;obtain ⟨⟨a4,as4,ae4⟩,Qh⟩:=exq (Qq l ⟨a3,as3,ae3⟩ 5 [41]);rw [Qh] at hR2 m4 hat m5 k3 hx k4 k5 hx2 k6;simp only at hat;obtain ⟨⟨u,⟨i2,ss2,e2⟩⟩,Qn⟩:=exq (Uy l ⟨a4,as4,ae4⟩ (100-(d:Int)));rw [Qn] at hR2 m5 k3 hx k4 k5 hx2 k6;simp only at hR2 m5 k3 hx k4 k5 hx2 k6;obtain ⟨⟨i3,ss3,e3⟩,Q6⟩:=exq (Qq l ⟨i2,ss2,e2⟩ 5 [61]);rw [Q6] at hR2 k3 hx k4 k5 hx2 k6;obtain ⟨⟨A,⟨i4,ss4,e4⟩⟩,Je⟩:=exq (Jy l d ⟨i3,ss3,e3⟩);rw [Je] at hR2 hx k4 k5 hx2 k6;simp only at hR2 hx k4 k5 hx2 k6;obtain ⟨⟨i5,ss5,e5⟩,Q4⟩:=exq (Qq l ⟨i4,ss4,e4⟩ 6 [105,110]);rw [Q4] at hR2 k5 hx2 k6;obtain ⟨⟨B,⟨i6,ss6,e6⟩⟩,Zu⟩:=exq (Jy l d ⟨i5,ss5,e5⟩);rw [Zu] at hR2 hx2 k6;simp only at hR2 hx2 k6;obtain ⟨M,Zx⟩:=exq (Wr ⟨5,[],f,x,0,0,t,u⟩ [⟨A⟩,⟨B⟩]);rw [Zx] at hR2;obtain ⟨i0,ss0,e0⟩:=s;have o0:=hS.nums;have o1:=m1.nums;have o2:=m2.ok6;have o3:=m3.nums;have o4:=m4.ok6;have o5:=m5.nums;have o6:=k4.nums;simp only at o0 o1 o3 o5 o6;have hat2:ae4=0→1≤a4∧1≤100-(d:Int)∧100-(d:Int)≤100:=fun h=>⟨hat h,hv1,hv2⟩;have ha1:A.length≤1000000:=by omega
 have hb1:B.length≤1000000:=by omega
 clear hb hu;subst hR2;cases hc;refine Y4 4 ?_;have Zz:=@Yk.eq_def;have Zy:=@Lh.eq_def;have Qd:=@uY.eq_def;have Z1:=@Vx;have Z0:=@Vz;have Qi:=@Yx;have Qk:=@Yz;have Qs:=@Vg;have Q8:=@Vj;have Q5:=@Vy;have Qy:=@V0;have Jh:=@Qr;have Jg:=@Ja;have Wb:=@Jb;exact Ln
theorem Zzf {l:List Tok} {s:St6} (h:St6In l s) {d:Nat} (hd:d≤100):(Jy l d s).2.e=0→1≤(Jy l d s).2.at_:=fun he=>by
 have h1:=(Jj h.toks d hd s h.pos).adv.gain he;have h2:=h.pos.lo;omega
theorem vA (n:Nat) (ih:IH6 n):Qa Tryz.prog (273,(Np (n+1))):=by
 obtain ⟨Kx,Kt,Kc,Kd,Kb,Ku,Kw,K,X9,Uv,Po,Cx,Oj,_⟩:=Xe Zv Zn [] false (Q0 Us N7 (Q0 Ky Pp (Q0 Ey M7.eq_def (Q0 good_made6 Ht (Q0 ih.expr (Yi n) Xd)))));have Ko:=(Np.eq_def (n+1));refine Xj K Tryz.func273 [.tmp 6,.cell 7 137] rfl 47 rfl (fun c hc cvs hpre=>?_);unfold Np at hpre;obtain ⟨⟨l⟩,s,v,rfl,hS,hv1,hv2,hn⟩:=J5 hpre;simp only at hS;clear hpre;obtain ⟨d,hd⟩:∃ d:Nat,v=101-d:=⟨(101-v).toNat,by omega⟩
 subst hd;have Qb:(101-(101-(d:Int))).toNat=d:=by omega
 have hd4:d≤100:=by omega
 have hT:=hS.toks;obtain ⟨R,Q6⟩:=exq (bB (Jy l d) l (101-(d:Int)-1) s);have hR2:=Q6;unfold bB at hR2;have m1:=hS.named 2;have m2:=m1.needs 5 [61];have hx:=J6 m2 (Jj hT d hd4 _ m2.pos);have hq:=(Jj hT d hd4 _ m2.pos).adv;have m3:=m2.expr hd4;have hat:=Zzf m2 hd4;have hu:=Na hT m3.pos (v:=101-(d:Int)-1) fun _=>⟨by omega,by omega⟩
 have m4:=m2.go (hq.trans hu.adv (m:=0) (q:=0) (by omega) (by omega) (by omega)) (by omega) (by omega)
 obtain ⟨⟨f,⟨a1,as1,ae1⟩⟩,Qf⟩:=exq (Jk l s 2);rw [Qf] at hR2 m1 m2 hx m3 hat m4;simp only at hR2 m1 m2 hx m3 hat m4;obtain ⟨⟨a2,as2,ae2⟩,Z9⟩:=exq (Qq l ⟨a1,as1,ae1⟩ 5 [61]);rw [Z9] at hR2 m2 hx m3 hat m4;obtain ⟨⟨A,⟨a3,as3,ae3⟩⟩,Qe⟩:=exq (Jy l d ⟨a2,as2,ae2⟩);rw [Qe] at hR2 hx m3 hat m4;simp only at hR2 hx m3 hat m4;obtain ⟨⟨u,⟨i2,ss2,e2⟩⟩,Qc⟩:=exq (Uy l ⟨a3,as3,ae3⟩ (101-(d:Int)-1));rw [Qc] at hR2 m4;simp only at hR2 m4;obtain ⟨⟨i3,ss3,e3⟩,Qh⟩:=exq (Qq l ⟨i2,ss2,e2⟩ 5 [93]);rw [Qh] at hR2;obtain ⟨M,Qn⟩:=exq (Wr ⟨12,[],f,[],0,0,u,[]⟩ [⟨A⟩]);rw [Qn] at hR2;obtain ⟨i0,ss0,e0⟩:=s;have o0:=hS.nums;have o1:=m1.nums;have o3:=m3.ok6;have o5:=m4.nums;simp only at o0 o1 o5;have hat2:ae3=0→1≤a3∧1≤101-(d:Int)-1∧101-(d:Int)-1≤100:=fun h=>⟨hat h,by omega,by omega⟩
 have ha1:A.length≤1000000:=by omega
 clear hu hq;subst hR2;cases hc;refine Y4 2 ?_;have Je:=@Yk.eq_def;have Q4:=@Lh.eq_def;have Zu:=@Vx;have Zx:=@Vz;have Zw:=@Yx;have Zz:=@Yz;have Zy:=@Vg;have Qd:=@Vj;have Z1:=@Vy;have Z0:=@V0;have Qi:=@Qr;have Qk:=@Ja;have Qs:=@Jb;exact Ln
theorem Zae (n:Nat) (ih:IH6 n):Qa Tryz.prog (271,(M6 (n+1))):=by
 obtain ⟨Kx,Kt,Kc,Kd,Kb,Ku,Kw,K,X9,Uv,Po,Cx,Oj,_⟩:=Xe Zv Zn [] false (Q0 S7 dY (Q0 Ky Pp (Q0 good_typed6 Dy.eq_def (Q0 good_made6 Ht (Q0 ih.expr (Yi n) Xd)))));have Ko:=(M6.eq_def (n+1));refine Xj K Tryz.func271 [.tmp 6,.cell 7 137] rfl 58 rfl (fun c hc cvs hpre=>?_);unfold M6 at hpre;obtain ⟨⟨l⟩,s,v,rfl,hS,hv1,hv2,hn⟩:=J5 hpre;simp only at hS;clear hpre;obtain ⟨d,hd⟩:∃ d:Nat,v=101-d:=⟨(101-v).toNat,by omega⟩
 subst hd;have Qb:(101-(101-(d:Int))).toNat=d:=by omega
 have hd4:d≤100:=by omega
 have hT:=hS.toks;obtain ⟨R,Z9⟩:=exq (lV (Jy l d) l (101-(d:Int)-1) s);have hR2:=Z9;unfold lV at hR2;have hx:=J6 hS (Jj hT d hd4 _ hS.pos);have m3:=hS.expr hd4;obtain ⟨⟨A,⟨a3,as3,ae3⟩⟩,Qc⟩:=exq (Jy l d s);rw [Qc] at hR2 hx m3;simp only at hR2 hx m3;obtain ⟨i0,ss0,e0⟩:=s;have o0:=hS.nums;have o3:=m3.nums;simp only at o0 o3;have ha1:A.length≤1000000:=by omega
 cases hc;refine Y4 3 ?_;cases Qf:Rh l ⟨i0,ss0,e0⟩ 5 [41] with
 | true =>
  rw [Qf,if_pos rfl] at hR2;have hadv:Xu ⟨i0,ss0,e0⟩=⟨i0+1,ss0,e0⟩:=rfl;rw [hadv] at hR2;subst hR2;have Je:=@Yk.eq_def;have Q4:=@Lh.eq_def;have Zu:=@Vx;have Zx:=@Vz;have Zw:=@Yx;have Zz:=@Yz;have Zy:=@Vg;have Qd:=@Vj;have Z1:=@Vy;have Z0:=@V0;have Qi:=@Qr;have Qk:=@Ja;have Qs:=@Jb;exact Ln
 | false =>
  rw [Qf,if_neg (by simp)] at hR2
  cases Qe:Rh l ⟨a3,as3,ae3⟩ 5 [58] with
  | true =>
   rw [Qe,if_pos rfl] at hR2;have hadv:Xu ⟨a3,as3,ae3⟩=⟨a3+1,as3,ae3⟩:=rfl;have m4:=m3.is Qe;rw [hadv] at hR2 m4;have hu:=(O1 hT m4.pos (v:=101-(d:Int)-1) fun _=>⟨by omega,by omega⟩).adv
   have m5:=m4.go hu (by omega) (by omega)
   obtain ⟨⟨u,⟨i2,ss2,e2⟩⟩,Qh⟩:=exq (Dc l ⟨a3+1,as3,ae3⟩ (101-(d:Int)-1));rw [Qh] at hR2 m5;simp only at hR2 m5;obtain ⟨⟨i3,ss3,e3⟩,Qn⟩:=exq (Qq l ⟨i2,ss2,e2⟩ 5 [41]);rw [Qn] at hR2;obtain ⟨M,Q6⟩:=exq (Wr ⟨13,[],[],[],0,0,u,[]⟩ [⟨A⟩]);rw [Q6] at hR2;have o4:=m4.ok6;have o5:=m5.nums;simp only at o5;have hat2:ae3=0→1≤101-(d:Int)-1∧101-(d:Int)-1≤100:=fun h=>⟨by omega,by omega⟩
   clear hu;subst hR2;have Je:=@Yk.eq_def;have Q4:=@Lh.eq_def;have Zu:=@Vx;have Zx:=@Vz;have Zw:=@Yx;have Zz:=@Yz;have Zy:=@Vg;have Qd:=@Vj;have Z1:=@Vy;have Z0:=@V0;have Qi:=@Qr;have Qk:=@Ja;have Qs:=@Jb;exact Ln
  | false =>
   rw [Qe,if_neg (by simp)] at hR2
   obtain ⟨⟨i3,ss3,e3⟩,Qn⟩:=exq (Qq l ⟨a3,as3,ae3⟩ 5 [41]);rw [Qn] at hR2;subst hR2;have Je:=@Yk.eq_def;have Q4:=@Lh.eq_def;have Zu:=@Vx;have Zx:=@Vz;have Zw:=@Yx;have Zz:=@Yz;have Zy:=@Vg;have Qd:=@Vj;have Z1:=@Vy;have Z0:=@V0;have Qi:=@Qr;have Qk:=@Ja;have Qs:=@Jb;exact Ln
theorem Zl7 (n:Nat) (ih:IH6 n):Qa Tryz.prog (266,(Sa (n+1))):=by
 obtain ⟨Kx,Kt,Kc,Kd,Kb,Ku,Kw,K,X9,Uv,Po,Cx,Oj,kK,oB,Zbx,_⟩:=Xe Zv Zn [] false (Q0 Kk Sv (Q0 good_begins6 Td.eq_def (Q0 S7 dY (Q0 Us N7 (Q0 good_number6 E3.eq_def (Q0 ih.paren (M6.eq_def n) (Q0 ih.rows (L4.eq_def n) (Q0 ih.inject (Np.eq_def n) Xd))))))));have Ko:=(Sa.eq_def (n+1));refine Xj K Tryz.func266 [.tmp 6,.cell 7 137] rfl 126 rfl (fun c hc cvs hpre=>?_);unfold Sa at hpre;obtain ⟨⟨l⟩,⟨i,ss,e⟩,v,rfl,hS,hv1,hv2,hn⟩:=J5 hpre;simp only at hS;clear hpre;obtain ⟨d,hd⟩:∃ d:Nat,v=100-d:=⟨(100-v).toNat,by omega⟩
 subst hd;have Qb:(100-(100-(d:Int))).toNat=d:=by omega
 have Zy:(101-(100-(d:Int)+1)).toNat=d:=by omega
 have Qd:100-(d:Int)+1-1=100-d:=by omega
 have hd4:d≤100:=by omega
 have hT:=hS.toks;have o0:=hS.nums;simp only at o0;obtain ⟨i,rfl⟩:∃ n:Nat,i=n:=⟨i.toNat,by omega⟩
 obtain ⟨R,Qe⟩:=exq (uM (Jy l d) l (100-(d:Int)) ⟨i,ss,e⟩);have Z0:=Qe;unfold uM at Z0;simp only [Gm] at Z0;cases hc;refine Y4 7 ?_;obtain ⟨⟨Wa,Ws,We⟩,Z9⟩:=exq (J0 ⟨(i:Int),ss,e⟩ 2);by_cases he:e=0
 case neg =>
  rw [if_pos (.inl he),Z9] at Z0;have Qf:(e != 0)=true:=bne_iff_ne.2 he;subst Z0;have Qk:=@Yk.eq_def;have Qs:=@Qr;have Q8:=@Ja;have Q5:=@Jb;exact Zur
 subst he;have Qf:((0:Int) != 0)=false:=rfl;cases Qc:N4 l ⟨i,ss,0⟩ with
 | false =>
  rw [if_pos (.inr Qc),Z9] at Z0;subst Z0;have Qk:=@Yk.eq_def;have Qs:=@Qr;have Q8:=@Ja;have Q5:=@Jb;exact Ln
 | true =>
  rw [if_neg (by rw [Qc];simp)] at Z0
  have hlt:=(Iw Qc).2;simp only at hlt;have Qh:=Zr Ue (show i<l.length by omega)
  have htk:=hT.ok (l.getD i Ue) (by simp [show i<l.length by omega])
  obtain ⟨t,ht⟩:=exq (l.getD i Ue);rw [ht] at Qh htk Z0;unfold zO at htk;have hadv:Xu ⟨(i:Int),ss,0⟩=⟨(i:Int)+1,ss,0⟩:=rfl;rw [hadv] at Z0;have m1:=hS.adv rfl hlt;rw [hadv] at m1;have o1:=m1.nums;simp only at o1;have hle:Xf (l.length:Int) (i:Int)=false:=by rw [←Bool.not_eq_true,Qx];omega
  by_cases h3:t.kind=3
  ·rw [if_pos h3] at Z0;have Qn:(t.kind==3)=true:=by rw [Zk];exact h3
   have hf:=htk.2 h3;obtain ⟨N,Q6⟩:=exq (gE t.text);rw [Q6] at Z0;subst Z0;have Qk:=@Yk.eq_def;have Qs:=@Qr;have Q8:=@Ja;have Q5:=@Jb;exact Ln
  rw [if_neg h3] at Z0;have Qn:(t.kind==3)=false:=by rw [Za];exact h3
  by_cases h4:t.kind=4
  ·rw [if_pos h4] at Z0;have Je:(t.kind==4)=true:=by rw [Zk];exact h4
   subst Z0;have Qk:=@Yk.eq_def;have Qs:=@Qr;have Q8:=@Ja;have Q5:=@Jb;exact Ln
  rw [if_neg h4] at Z0;have Je:(t.kind==4)=false:=by rw [Za];exact h4
  by_cases h6:t.kind=6
  ·rw [if_pos h6] at Z0;have Q4:(t.kind==6)=true:=by rw [Zk];exact h6
   by_cases htr:t.text=[116,114,117,101]
   ·rw [if_pos htr] at Z0;have Zu:(t.text==[116,114,117,101])=true:=by rw [Zk];exact htr
    subst Z0;have Qk:=@Yk.eq_def;have Qs:=@Qr;have Q8:=@Ja;have Q5:=@Jb;exact Ln
   ·rw [if_neg htr] at Z0;have Zu:(t.text==[116,114,117,101])=false:=by rw [Za];exact htr
    subst Z0;have Qk:=@Yk.eq_def;have Qs:=@Qr;have Q8:=@Ja;have Q5:=@Jb;exact Ln
  rw [if_neg h6] at Z0;have Q4:(t.kind==6)=false:=by rw [Za];exact h6
  by_cases h1:t.kind=1
  ·rw [if_pos h1] at Z0;have Zx:(t.kind==1)=true:=by rw [Zk];exact h1
   cases Zw:Rh l ⟨(i:Int)+1,ss,0⟩ 5 [33] with
   | false =>
    rw [Zw,if_pos rfl] at Z0;subst Z0;have Qk:=@Yk.eq_def;have Qs:=@Qr;have Q8:=@Ja;have Q5:=@Jb;exact Ln
   | true =>
    rw [Zw,if_neg (by simp)] at Z0
    have hadv2:Xu ⟨(i:Int)+1,ss,0⟩=⟨(i:Int)+1+1,ss,0⟩:=rfl;rw [hadv2] at Z0;have m2:=m1.is Zw;rw [hadv2] at m2;have o2:=m2.nums;simp only at o2;have hxl:=W7 hT ⟨(i:Int)+1+1,ss,0⟩ 1;obtain ⟨⟨x,⟨i2,ss2,e2⟩⟩,Zz⟩:=exq (Jk l ⟨(i:Int)+1+1,ss,0⟩ 1);rw [Zz] at Z0 hxl;simp only at Z0 hxl;have htl:=htk.1;subst Z0;have Qk:=@Yk.eq_def;have Qs:=@Qr;have Q8:=@Ja;have Q5:=@Jb;exact Ln
  rw [if_neg h1] at Z0;have Zx:(t.kind==1)=false:=by rw [Za];exact h1
  by_cases h40:t.text=[40]
  ·rw [if_pos h40] at Z0;have Z1:(t.text==[40])=true:=by rw [Zk];exact h40
   obtain ⟨A,⟨i2,ss2,e2⟩⟩:=R;have Qk:=@Yk.eq_def;have Qs:=@Qr;have Q8:=@Ja;have Q5:=@Jb;exact Ln
  rw [if_neg h40] at Z0;have Z1:(t.text==[40])=false:=by rw [Za];exact h40
  by_cases h123:t.text=[123]
  ·rw [if_pos h123] at Z0;have Qi:(t.text==[123])=true:=by rw [Zk];exact h123
   obtain ⟨A,⟨i2,ss2,e2⟩⟩:=R;have Qk:=@Yk.eq_def;have Qs:=@Qr;have Q8:=@Ja;have Q5:=@Jb;exact Ln
  rw [if_neg h123] at Z0;have Qi:(t.text==[123])=false:=by rw [Za];exact h123
  obtain ⟨A,⟨i2,ss2,e2⟩⟩:=R;have Qk:=@Yk.eq_def;have Qs:=@Qr;have Q8:=@Ja;have Q5:=@Jb;exact Ln
theorem Qg7 {p:Prop} (h:p:=by (sym=>simp [Kt,Kc,Kd,Kb,Ku,Kw,Ko,X9,Uv,Po,Cx,Oj,kK,oB,Zbx,Zlp,Zlo,Ok,Qb,Qf,Z9,Qe,Qc,Qh,Qn,Q6,Je,Q4,Zu,Zx,Zw,Zz,Zy,Qd,Z1,Z0,Qi,Qk,Qs,Q8,Q5,Qy,Jh,Jg,Wb,Wn,Wx,W0,Wz,Gb,Ga,H3,H2,Hq,Hp,M4,M3,Nm,M0,Mz,Nz,My,Mx,Mw,D.setCell.eq_1,Zw7,Zox.eq_def,pQ.eq_def,Ju,Jt,Wq,Ub,Wp,Xm,Lh.eq_def,Js,Yk.eq_def,J2,Yi,K0,Z7,Qo,V0,Vz,Yz,Vj,Yt,Jb,Yf,J1,Kf,Vi,Ye,Z2,Qg,Yc,Qr,Jo,Z6,Kv,Yb,Z5,Qm,Vy,Vx,Yx,Vg,Yr,Ja,Ya,Xb,Xt,Uz,Z4,Qp,eC,Nu,Sx,qJ,Pv,W5,Zll,Zlk,Zlj,Zli,Zlh,Zlg,Zlf,Zle,Zld,Zlc,Zlb,Zla,Zk9,Zk8,Zk7,Zk6,Zk5,Zk4,Zk3,Zk2,Zk1,Zk0,Zkz,Zky,Zkx,Zkw,Zkv,Zku,Zkt,Zks,Zkr,Zkq,Zkp,Zko,Zkn,Zkm,Zkl,Zkk,Zkj,Zki,Zkh,Zkg,Zkf,Zke,Zkd,Zkc,Zkb,Zka,Zj9,Zj8,Zj7,Zj6,Zj5,Zj4,Zj3,Zj2,Zj1,Zj0,Zjz,Zjy,Zjx,Zjw,Zjv,Zju,Zjt,Zjs,Zjr,Zjq,Zjp,Zjo,Zjn,Zjm,Zjl,Zjk,Zjj,Zji,Zjh,Zjg,Zjf,Zje,Zjd,Zjc,Zjb,Zja,Zi9,Zi8,Zi7,Zi6,Zi5,Zi4,Zi3,Zi2,Zi1,Zi0,Ziz,Ziy,Zix,Ziw,Ziv,Ziu,Zit,Zis,Zir,Ziq,Zip,Zio,Zin,Zim,Zil,Zik,Zij,Zii,Zih,Zig,Zif,Zie,Zid,Zic,Zib,Zia,Zh9,Zh8,Zh7,Zh6,Zh5,Zh4,Zh3,Zh2,Zh1,Zh0,Zhz,Zhy,Zhx,Zhw,Zhv,Zhu,Zht,Zhs,Zhr,Zhq,Zhp,Zho,Zhn,Zhm,Zhl,Zhk,Zhj,Zhi,Zhh,Zhg,Zhf,Zhe,Zhd,Zhc,Zhb,Zha,Zg9,Zg8,Zg7,Zg6,Zg5,Zg4,Zg3,Zg2,Zg1,Zg0,Zgz,Zgy,Zgx,Zgw,Zgv,Zgu,Zgt,Zgs,Zgr,Zgq,Zgp,Zgo,Zgn,Zgm,Zgl,Zgk,Zgj,Zgi,Zgh,Zgg,Zgf,Zge,Zgd,Zgc,Zgb,Zga,Zf9,Zf8,Zf7,Zf6,Zf5,Zf4,Zf3,Zf2,Zf1,Zf0,Zfz,Zfy,Zfx,Zfw,Zfv,Zfu,Zft,Zfs,Zfr,Zfq,Zfp,Zfo,Zfn,Zfm,Zfl,Zfk,Zfj,Zfi,Zfh,Zfg,Zff,Zfe,Zfd,Zfc,Zfb,Zfa,Ze9,Ze8,Ze7,Ze6,Ze5,Ze4,Ze3,Ze2,Ze1,Ze0,Zez,Zey,Zex,Zew,Zev,Zeu,Zet,Zes,Zer,Zeq,Zep,Zeo,Zen,Zem,Zel,Zek,Zej,Zei,Zeh,Zeg,Zef,Zee,Zed,Zec,Zeb,Zea,Zd9,Zd8,Zd7,Zd6,Zd5,Zd4,Zd3,Zd2,Zd1,Zd0,Zdz,Zdy,Zdx,Zdw,Zdv,Zdu,Zdt,Zds,Zdr,Zdq,Zdp,Zdo,Zdn,Zdm,Zdl,Zdk,Zdj,Zdi,Zdh,Zdg,Zdf,Zde,Zdd,Zdc,Zdb,Zda,Zc9,Zc8,Zc7,Zc6,Zc5,Zc4,Zc3,Zc2,Zc1,Zc0,Zcz,Zcy,Zcx,Zcw,Zcv,Zcu,Zct,Zcs,Zcr,Zcq,Zcp,Zco,Zcn,Zcm,Zcl,Zck,Zcj,Zci,Zch,Zcg,Zcf,Zce,Zcd,Zcc,Zcb,Zca,Zb9,Zb8,Zb7,Zb6,Zb5,Zb4,Zb3,Zb2,Zb1,Zb0,Zbz,Zby,Of,Oe,Od,Oc,Ob,Oa,Le,Ld,Lb,La,B9,B8,B7,B6,B5,B4,B3,B1,B0,Bz,Bx,Bw,Bv,Bu,Bt,Bs,Br,Bq,Bp,Bo,Bn,Bm,Bl,Hn,Hm,Hl,Hk,Hj,Hi,Hh,Hg,Hf,He,Hd,Hc,Hb,Ha,G9,G8,G7,G6,G5,G4,G3,Gz,Gy,Gx,Gw,Gv,Gu,Gt,Gq,Gp,Gn])):p:=h
theorem Mi {p:Prop} (h:p:=by
 (sym=>simp [Kt,Kc,Kd,Kb,Ku,Kw,Ko,X9,Uv,Po,Cx,Oj,kK,oB,Zbx,Zlp,Zlo,Ok,Qb,Qf,Z9,Qe,Qc,Qh,Qn,Q6,Je,Q4,Zu,Zx,Zw,Zz,Zy,Qd,Z1,Z0,Qi,Qk,Qs,Q8,Q5,Qy,Jh,Jg,Wb,Wn,Wx,W0,Wz,Gb,Ga,H3,H2,Hq,Hp,M4,M3,Nm,M0,Mz,Nz,My,Mx,Mw,D.setCell.eq_1,Zw7,Zox.eq_def,pQ.eq_def,Ju,Jt,Wq,Ub,Wp,Xm,Lh.eq_def,Js,Yk.eq_def,J2,Yi,K0,Z7,Qo,V0,Vz,Yz,Vj,Yt,Jb,Yf,J1,Kf,Vi,Ye,Z2,Qg,Yc,Qr,Jo,Z6,Kv,Yb,Z5,Qm,Vy,Vx,Yx,Vg,Yr,Ja,Ya,Xb,Xt,Uz,Z4,Qp,eC,Nu,Sx,qJ,Pv,W5,Zll,Zlk,Zlj,Zli,Zlh,Zlg,Zlf,Zle,Zld,Zlc,Zlb,Zla,Zk9,Zk8,Zk7,Zk6,Zk5,Zk4,Zk3,Zk2,Zk1,Zk0,Zkz,Zky,Zkx,Zkw,Zkv,Zku,Zkt,Zks,Zkr,Zkq,Zkp,Zko,Zkn,Zkm,Zkl,Zkk,Zkj,Zki,Zkh,Zkg,Zkf,Zke,Zkd,Zkc,Zkb,Zka,Zj9,Zj8,Zj7,Zj6,Zj5,Zj4,Zj3,Zj2,Zj1,Zj0,Zjz,Zjy,Zjx,Zjw,Zjv,Zju,Zjt,Zjs,Zjr,Zjq,Zjp,Zjo,Zjn,Zjm,Zjl,Zjk,Zjj,Zji,Zjh,Zjg,Zjf,Zje,Zjd,Zjc,Zjb,Zja,Zi9,Zi8,Zi7,Zi6,Zi5,Zi4,Zi3,Zi2,Zi1,Zi0,Ziz,Ziy,Zix,Ziw,Ziv,Ziu,Zit,Zis,Zir,Ziq,Zip,Zio,Zin,Zim,Zil,Zik,Zij,Zii,Zih,Zig,Zif,Zie,Zid,Zic,Zib,Zia,Zh9,Zh8,Zh7,Zh6,Zh5,Zh4,Zh3,Zh2,Zh1,Zh0,Zhz,Zhy,Zhx,Zhw,Zhv,Zhu,Zht,Zhs,Zhr,Zhq,Zhp,Zho,Zhn,Zhm,Zhl,Zhk,Zhj,Zhi,Zhh,Zhg,Zhf,Zhe,Zhd,Zhc,Zhb,Zha,Zg9,Zg8,Zg7,Zg6,Zg5,Zg4,Zg3,Zg2,Zg1,Zg0,Zgz,Zgy,Zgx,Zgw,Zgv,Zgu,Zgt,Zgs,Zgr,Zgq,Zgp,Zgo,Zgn,Zgm,Zgl,Zgk,Zgj,Zgi,Zgh,Zgg,Zgf,Zge,Zgd,Zgc,Zgb,Zga,Zf9,Zf8,Zf7,Zf6,Zf5,Zf4,Zf3,Zf2,Zf1,Zf0,Zfz,Zfy,Zfx,Zfw,Zfv,Zfu,Zft,Zfs,Zfr,Zfq,Zfp,Zfo,Zfn,Zfm,Zfl,Zfk,Zfj,Zfi,Zfh,Zfg,Zff,Zfe,Zfd,Zfc,Zfb,Zfa,Ze9,Ze8,Ze7,Ze6,Ze5,Ze4,Ze3,Ze2,Ze1,Ze0,Zez,Zey,Zex,Zew,Zev,Zeu,Zet,Zes,Zer,Zeq,Zep,Zeo,Zen,Zem,Zel,Zek,Zej,Zei,Zeh,Zeg,Zef,Zee,Zed,Zec,Zeb,Zea,Zd9,Zd8,Zd7,Zd6,Zd5,Zd4,Zd3,Zd2,Zd1,Zd0,Zdz,Zdy,Zdx,Zdw,Zdv,Zdu,Zdt,Zds,Zdr,Zdq,Zdp,Zdo,Zdn,Zdm,Zdl,Zdk,Zdj,Zdi,Zdh,Zdg,Zdf,Zde,Zdd,Zdc,Zdb,Zda,Zc9,Zc8,Zc7,Zc6,Zc5,Zc4,Zc3,Zc2,Zc1,Zc0,Zcz,Zcy,Zcx,Zcw,Zcv,Zcu,Zct,Zcs,Zcr,Zcq,Zcp,Zco,Zcn,Zcm,Zcl,Zck,Zcj,Zci,Zch,Zcg,Zcf,Zce,Zcd,Zcc,Zcb,Zca,Zb9,Zb8,Zb7,Zb6,Zb5,Zb4,Zb3,Zb2,Zb1,Zb0,Zbz,Zby,Of,Oe,Od,Oc,Ob,Oa,Le,Ld,Lb,La,B9,B8,B7,B6,B5,B4,B3,B1,B0,Bz,Bx,Bw,Bv,Bu,Bt,Bs,Br,Bq,Bp,Bo,Bn,Bm,Bl,Hn,Hm,Hl,Hk,Hj,Hi,Hh,Hg,Hf,He,Hd,Hc,Hb,Ha,G9,G8,G7,G6,G5,G4,G3,Gz,Gy,Gx,Gw,Gv,Gu,Gt,Gq,Gp,Gn];tactic =>
   try simp only [I4] at *
   try simp only [Zw8] at *
   try simp (maxSteps:=4000000) only [Qb,Qf,Z9,Qe,Qc,Qh,Qn,Q6,Je,Q4,Zu,Zx,Zw,Zz,Zy,Qd,Z1,Z0,Qi,Qk,Qs,Q8,Q5,Qy,Jh,Jg,Wb,Wn,Wx,W0,Wz,Gb,Ga,H3,H2,Hq,Hp,M4,M3,Nm,M0,Mz,Nz,My,Mx,Mw,D.setCell.eq_1,Zw7,Zox.eq_def,pQ.eq_def,Ju,Jt,Wq,Ub,Wp,Xm,Lh.eq_def,Js,Yk.eq_def,J2,Yi,K0,Z7,Qo,V0,Vz,Yz,Vj,Yt,Jb,Yf,J1,Kf,Vi,Ye,Z2,Qg,Yc,Qr,Jo,Z6,Kv,Yb,Z5,Qm,Vy,Vx,Yx,Vg,Yr,Ja,Ya,Xb,Xt,Uz,Z4,Qp,eC,Nu,Sx,qJ,Pv,W5,oC]
   first|done|exact Kq.k)):p:=h
theorem Ol {p:Prop} (h:p:=by
 first|(sym=>simp [Kt,Kc,Kd,Kb,Ku,Kw,Ko,X9,Uv,Po,Cx,Oj,kK,oB,Zbx,Zlp,Zlo,Ok,Qb,Qf,Z9,Qe,Qc,Qh,Qn,Q6,Je,Q4,Zu,Zx,Zw,Zz,Zy,Qd,Z1,Z0,Qi,Qk,Qs,Q8,Q5,Qy,Jh,Jg,Wb,Wn,Wx,W0,Wz,Gb,Ga,H3,H2,Hq,Hp,M4,M3,Nm,M0,Mz,Nz,My,Mx,Mw,D.setCell.eq_1,Zw7,Zox.eq_def,pQ.eq_def,Ju,Jt,Wq,Ub,Wp,Xm,Lh.eq_def,Js,Yk.eq_def,J2,Yi,K0,Z7,Qo,V0,Vz,Yz,Vj,Yt,Jb,Yf,J1,Kf,Vi,Ye,Z2,Qg,Yc,Qr,Jo,Z6,Kv,Yb,Z5,Qm,Vy,Vx,Yx,Vg,Yr,Ja,Ya,Xb,Xt,Uz,Z4,Qp,eC,Nu,Sx,qJ,Pv,W5,Zll,Zlk,Zlj,Zli,Zlh,Zlg,Zlf,Zle,Zld,Zlc,Zlb,Zla,Zk9,Zk8,Zk7,Zk6,Zk5,Zk4,Zk3,Zk2,Zk1,Zk0,Zkz,Zky,Zkx,Zkw,Zkv,Zku,Zkt,Zks,Zkr,Zkq,Zkp,Zko,Zkn,Zkm,Zkl,Zkk,Zkj,Zki,Zkh,Zkg,Zkf,Zke,Zkd,Zkc,Zkb,Zka,Zj9,Zj8,Zj7,Zj6,Zj5,Zj4,Zj3,Zj2,Zj1,Zj0,Zjz,Zjy,Zjx,Zjw,Zjv,Zju,Zjt,Zjs,Zjr,Zjq,Zjp,Zjo,Zjn,Zjm,Zjl,Zjk,Zjj,Zji,Zjh,Zjg,Zjf,Zje,Zjd,Zjc,Zjb,Zja,Zi9,Zi8,Zi7,Zi6,Zi5,Zi4,Zi3,Zi2,Zi1,Zi0,Ziz,Ziy,Zix,Ziw,Ziv,Ziu,Zit,Zis,Zir,Ziq,Zip,Zio,Zin,Zim,Zil,Zik,Zij,Zii,Zih,Zig,Zif,Zie,Zid,Zic,Zib,Zia,Zh9,Zh8,Zh7,Zh6,Zh5,Zh4,Zh3,Zh2,Zh1,Zh0,Zhz,Zhy,Zhx,Zhw,Zhv,Zhu,Zht,Zhs,Zhr,Zhq,Zhp,Zho,Zhn,Zhm,Zhl,Zhk,Zhj,Zhi,Zhh,Zhg,Zhf,Zhe,Zhd,Zhc,Zhb,Zha,Zg9,Zg8,Zg7,Zg6,Zg5,Zg4,Zg3,Zg2,Zg1,Zg0,Zgz,Zgy,Zgx,Zgw,Zgv,Zgu,Zgt,Zgs,Zgr,Zgq,Zgp,Zgo,Zgn,Zgm,Zgl,Zgk,Zgj,Zgi,Zgh,Zgg,Zgf,Zge,Zgd,Zgc,Zgb,Zga,Zf9,Zf8,Zf7,Zf6,Zf5,Zf4,Zf3,Zf2,Zf1,Zf0,Zfz,Zfy,Zfx,Zfw,Zfv,Zfu,Zft,Zfs,Zfr,Zfq,Zfp,Zfo,Zfn,Zfm,Zfl,Zfk,Zfj,Zfi,Zfh,Zfg,Zff,Zfe,Zfd,Zfc,Zfb,Zfa,Ze9,Ze8,Ze7,Ze6,Ze5,Ze4,Ze3,Ze2,Ze1,Ze0,Zez,Zey,Zex,Zew,Zev,Zeu,Zet,Zes,Zer,Zeq,Zep,Zeo,Zen,Zem,Zel,Zek,Zej,Zei,Zeh,Zeg,Zef,Zee,Zed,Zec,Zeb,Zea,Zd9,Zd8,Zd7,Zd6,Zd5,Zd4,Zd3,Zd2,Zd1,Zd0,Zdz,Zdy,Zdx,Zdw,Zdv,Zdu,Zdt,Zds,Zdr,Zdq,Zdp,Zdo,Zdn,Zdm,Zdl,Zdk,Zdj,Zdi,Zdh,Zdg,Zdf,Zde,Zdd,Zdc,Zdb,Zda,Zc9,Zc8,Zc7,Zc6,Zc5,Zc4,Zc3,Zc2,Zc1,Zc0,Zcz,Zcy,Zcx,Zcw,Zcv,Zcu,Zct,Zcs,Zcr,Zcq,Zcp,Zco,Zcn,Zcm,Zcl,Zck,Zcj,Zci,Zch,Zcg,Zcf,Zce,Zcd,Zcc,Zcb,Zca,Zb9,Zb8,Zb7,Zb6,Zb5,Zb4,Zb3,Zb2,Zb1,Zb0,Zbz,Zby,Of,Oe,Od,Oc,Ob,Oa,Le,Ld,Lb,La,B9,B8,B7,B6,B5,B4,B3,B1,B0,Bz,Bx,Bw,Bv,Bu,Bt,Bs,Br,Bq,Bp,Bo,Bn,Bm,Bl,Hn,Hm,Hl,Hk,Hj,Hi,Hh,Hg,Hf,He,Hd,Hc,Hb,Ha,G9,G8,G7,G6,G5,G4,G3,Gz,Gy,Gx,Gw,Gv,Gu,Gt,Gq,Gp,Gn];tactic =>
   try simp only [I4] at *
   try simp only [Zw8] at *
   try simp (maxSteps:=4000000) only [Qb,Qf,Z9,Qe,Qc,Qh,Qn,Q6,Je,Q4,Zu,Zx,Zw,Zz,Zy,Qd,Z1,Z0,Qi,Qk,Qs,Q8,Q5,Qy,Jh,Jg,Wb,Wn,Wx,W0,Wz,Gb,Ga,H3,H2,Hq,Hp,M4,M3,Nm,M0,Mz,Nz,My,Mx,Mw,D.setCell.eq_1,Zw7,Zox.eq_def,pQ.eq_def,Ju,Jt,Wq,Ub,Wp,Xm,Lh.eq_def,Js,Yk.eq_def,J2,Yi,K0,Z7,Qo,V0,Vz,Yz,Vj,Yt,Jb,Yf,J1,Kf,Vi,Ye,Z2,Qg,Yc,Qr,Jo,Z6,Kv,Yb,Z5,Qm,Vy,Vx,Yx,Vg,Yr,Ja,Ya,Xb,Xt,Uz,Z4,Qp,eC,Nu,Sx,qJ,Pv,W5,oC]
   repeat' first|with_reducible assumption|with_reducible apply Zb|intro _|omega|(rw [Xr];omega)
   all_goals first|with_reducible exact Jd|omega|rfl|trivial|exact Or.inr trivial|assumption|contradiction|exact Qw)|exact Qg7):p:=h
structure Kfa:Prop
theorem Kfa.k (_:Kfa) (h:p:=by
 repeat' first|exact Z8|with_reducible apply Zb|intro _
 all_goals first|with_reducible exact Jd|omega|rfl|trivial|exact ⟨(f,M,j2,us2,g2),by exact Qg4,hpL,hstep1,by omega,fun h=>by have h1:=hj2 h;have h2:=hf2 hlt.1;show (l.length:Int)+1≤(f:Int)+j2;omega,by omega⟩|skip):p:=h
structure KeZ:Prop
theorem KeZ.k (_:KeZ) (h:p:=by
 repeat' first|exact Z8|with_reducible apply Zb|intro _
 refine aR 8 15 35 [9,10,18,19,20,21,22,23,24,25,26,27,28,29,30,31,32,33,34,35,36] (fun p:Nat×List Part×Int×List Site×Int=>[(11,.dead),(15,.dead),(16,.dead),(8,.sl 15 (p.2.1.map (enc:Part→D)).length)]) (fun p:Nat×List Part×Int×List Site×Int=>[(4,.box true [.d (.int .i64 p.2.2.1),.d (.list 3 (p.2.2.2.1.map enc)),.d (.int .i64 p.2.2.2.2)]),(15,.row 8 (p.2.1.map enc) 0)]) (fun p:Nat×List Part×Int×List Site×Int=>gV l p.1 (p.2.1,⟨p.2.2.1,p.2.2.2.1,p.2.2.2.2⟩)=R∧Q (p.2.1,⟨p.2.2.1,p.2.2.2.1,p.2.2.2.2⟩)∧1≤p.1∧(p.2.2.2.2=0→(l.length:Int)+1≤p.1+p.2.2.1)) (fun p:Nat×List Part×Int×List Site×Int=>p.1) (l.length+1,A,i,ss,e) ?_ ?_ ?_
 ·exact ⟨hR2,hA,by omega,fun h=>by have h0:=hmono hA;show (l.length:Int)+1≤((l.length+1:Nat):Int)+i;simp only at h0;omega⟩
 ·exact Qw
 rintro ⟨f,B,j,us,g⟩ ⟨hpL,hB,hf1,hf2⟩;simp only at hpL hB hf1 hf2;obtain ⟨f,rfl⟩:∃ k,f=k+1:=⟨f-1,by omega⟩
 rw [gV] at hpL;have m1:=hgo hB;have b1:=hshort hB;have o1:=m1.nums;simp only at o1;have hstep1:=hstep _ hB;cases Z9:Rh l ⟨j,us,g⟩ 5 [46] with
 | false =>
  rw [if_pos Z9] at hpL;subst hpL;exact Ol
 | true =>
  rw [if_neg (by rw [Z9];simp)] at hpL
  rw [gV,if_neg (by rw [Z9];simp),gV] at hstep1
  have hlt:=Du Z9;simp only at hlt;have hadv:Xu ⟨j,us,g⟩=⟨j+1,us,g⟩:=rfl;rw [hadv] at hpL hstep1;have m2:=m1.is Z9;rw [hadv] at m2;have o2:=m2.nums;simp only at o2;obtain ⟨⟨x,⟨j2,us2,g2⟩⟩,Qc⟩:=exq (Jk l ⟨j+1,us,g⟩ 1);have hNa:=Si m2.pos 1;rw [Qc] at hpL hstep1 hNa;simp only at hpL hstep1;have hj2:g2=0→j+1≤j2:=hNa.mono;obtain ⟨M,Qh⟩:=exq (Wr ⟨11,[],x,[],0,0,[],[]⟩ [⟨B⟩]);rw [Qh] at hpL hstep1;have ha1:B.length≤1000000:=by omega
  have Kq:Kfa:=⟨⟩;exact Mi):p:=h
theorem stepi_part6 (n:Nat) (ih:IH6 n):Qa Tryz.prog (260,(L6 (n+1))):=by
 obtain ⟨Kx,Kt,Kc,Kd,Kb,Ku,Kw,K,X9,Uv,Po,Cx,_⟩:=Xe Zv Zn [] false (Q0 S7 dY (Q0 Us N7 (Q0 good_made6 Ht (Q0 ih.atom (Sa.eq_def n) Xd))));have Ko:=(L6.eq_def (n+1));refine Xj K Tryz.func260 [.tmp 6,.cell 7 137] rfl 39 rfl (fun c hc cvs hpre=>?_);unfold L6 at hpre;obtain ⟨⟨l⟩,s,v,rfl,hS,hv1,hv2,hn⟩:=J5 hpre;simp only at hS;clear hpre;obtain ⟨d,hd⟩:∃ d:Nat,v=100-d:=⟨(100-v).toNat,by omega⟩
 subst hd;have Qb:(100-(100-(d:Int))).toNat=d:=by omega
 have hd4:d≤100:=by omega
 have hT:=hS.toks;obtain ⟨R,Qe⟩:=exq (nZ (Jy l d) l (100-(d:Int)) s);have hR2:=Qe;unfold nZ at hR2;have hA:=qO hT (Jj hT d hd4) hv1 hv2 hS.pos;obtain ⟨⟨A,⟨i,ss,e⟩⟩,Qf⟩:=exq (uM (Jy l d) l (100-(d:Int)) s);rw [Qf] at hR2 hA;obtain ⟨s0,hs0⟩:=exq (s);rw [hs0] at hS hA Qe Qf;subst hs0;have hP:=hS.pos;have hgo:∀ {B:List Part} {r:St6},Reads l s (B,r)→St6In l r:=fun h=>hS.go h.adv (by omega) (by omega)
 have hshort:∀ {B:List Part} {r:St6},Reads l s (B,r)→B.length≤300000:=fun h=>J6 hS h;obtain ⟨Q,hQ⟩:∃ Q:List Part×St6→Prop,(fun r=>Reads l s r)=Q:=⟨_,rfl⟩;have hQe:∀ r,Reads l s r=Q r:=fun r=>congrFun hQ r;rw [hQe] at hA;simp only [hQe] at hgo hshort;have hstep:∀ r,Q r→Q (gV l 1 r):=fun r h=>by rw [←hQe] at h ⊢;exact O0 hT 1 r hP h
 have hmono:∀ {B:List Part} {r:St6},Q (B,r)→0≤r.at_:=fun h=>by rw [←hQe] at h;exact h.adv.lo
 obtain ⟨i0,ss0,e0⟩:=s;cases hc;refine Y4 2 ?_;have Kq:KeZ:=⟨⟩;exact Mi
structure Kfc:Prop
theorem Kfc.k (_:Kfc) (h:p:=by
 repeat' first|exact Z8|with_reducible apply Zb|intro _
 all_goals first|with_reducible exact Jd|omega|rfl|trivial|exact m1|exact ⟨(f,M,j2,us2,g2),by exact Qg4,hpL,hstep1,by omega,fun h=>by have h1:=hj2 h;have h2:=hf2 hlt.1;show (l.length:Int)+1≤(f:Int)+j2;omega,by omega⟩|skip):p:=h
structure Kfb:Prop
theorem Kfb.k (_:Kfb) (h:p:=by
 repeat' first|exact Z8|with_reducible apply Zb|intro _
 refine aR 8 15 32 [9,10,18,19,20,21,22,23,24,25,26,27,28,29,30,31,32,33] (fun p:Nat×List Part×Int×List Site×Int=>[(11,.dead),(15,.dead),(16,.dead),(8,.sl 15 (p.2.1.map (enc:Part→D)).length)]) (fun p:Nat×List Part×Int×List Site×Int=>[(4,.box true [.d (.int .i64 p.2.2.1),.d (.list 3 (p.2.2.2.1.map enc)),.d (.int .i64 p.2.2.2.2)]),(15,.row 8 (p.2.1.map enc) 0)]) (fun p:Nat×List Part×Int×List Site×Int=>Pz (Jy l d) l (100-(d:Int)) p.1 (p.2.1,⟨p.2.2.1,p.2.2.2.1,p.2.2.2.2⟩)=R∧Q (p.2.1,⟨p.2.2.1,p.2.2.2.1,p.2.2.2.2⟩)∧1≤p.1∧(p.2.2.2.2=0→(l.length:Int)+1≤p.1+p.2.2.1)) (fun p:Nat×List Part×Int×List Site×Int=>p.1) (l.length+1,A,i,ss,e) ?_ ?_ ?_
 ·exact ⟨hR2,hA,by omega,fun h=>by have h0:=hmono hA;show (l.length:Int)+1≤((l.length+1:Nat):Int)+i;simp only at h0;omega⟩
 ·exact Qw
 rintro ⟨f,B,j,us,g⟩ ⟨hpL,hB,hf1,hf2⟩;simp only at hpL hB hf1 hf2;obtain ⟨f,rfl⟩:∃ k,f=k+1:=⟨f-1,by omega⟩
 rw [Pz] at hpL;have m1:=hgo hB;have b1:=hshort hB;have o1:=m1.nums;simp only at o1;have hstep1:=hstep _ hB;cases Z9:N4 l ⟨j,us,g⟩ with
 | false =>
  rw [if_pos Z9] at hpL;subst hpL;exact Ol
 | true =>
  rw [if_neg (by rw [Z9];simp)] at hpL
  rw [Pz,if_neg (by rw [Z9];simp),Pz] at hstep1
  have hlt:=Iw Z9;simp only at hlt;have hx:=hsub _ m1.pos;obtain ⟨⟨B2,⟨j2,us2,g2⟩⟩,Qc⟩:=exq (nZ (Jy l d) l (100-(d:Int)) ⟨j,us,g⟩);rw [Qc] at hpL hstep1 hx;simp only at hpL hstep1;have hj2:g2=0→j+1≤j2:=fun h=>by have h1:=(hx.adv.gain h).2;have h2:=(hx.adv.gain h).1;simp only at h1 h2;omega
  have ha2:B2.length≤1000000:=by have h1:=J6 m1 hx;simp only at h1;omega
  obtain ⟨M,Qh⟩:=exq (Wr ⟨3,[],[],[],0,0,[],[]⟩ [⟨B⟩,⟨B2⟩]);rw [Qh] at hpL hstep1;have ha1:B.length≤1000000:=by omega
  clear hx;have Kq:Kfc:=⟨⟩;exact Mi):p:=h
theorem stepi_operand6 (n:Nat) (ih:IH6 n):Qa Tryz.prog (254,(K2 (n+1))):=by
 obtain ⟨Kx,Kt,Kc,Kd,Kb,Ku,Kw,K,X9,Uv,Po,_⟩:=Xe Zv Zn [] false (Q0 good_begins6 Td.eq_def (Q0 good_made6 Ht (Q0 ih.part (L6.eq_def n) Xd)));have Ko:=(K2.eq_def (n+1));refine Xj K Tryz.func254 [.tmp 6,.cell 7 137] rfl 36 rfl (fun c hc cvs hpre=>?_);unfold K2 at hpre;obtain ⟨⟨l⟩,s,v,rfl,hS,hv1,hv2,hn⟩:=J5 hpre;simp only at hS;clear hpre;obtain ⟨d,hd⟩:∃ d:Nat,v=100-d:=⟨(100-v).toNat,by omega⟩
 subst hd;have Qb:(100-(100-(d:Int))).toNat=d:=by omega
 have hd4:d≤100:=by omega
 have hT:=hS.toks;obtain ⟨R,Qe⟩:=exq (F4 (Jy l d) l (100-(d:Int)) s);have hR2:=Qe;unfold F4 at hR2;have hA:=Aj hT (Jj hT d hd4) hv1 hv2 hS.pos;have hsub:=fun r (h:Pos l r)=>Aj hT (Jj hT d hd4) hv1 hv2 h;obtain ⟨⟨A,⟨i,ss,e⟩⟩,Qf⟩:=exq (nZ (Jy l d) l (100-(d:Int)) s);rw [Qf] at hR2 hA;obtain ⟨s0,hs0⟩:=exq (s);rw [hs0] at hS hA Qe Qf;subst hs0;have hP:=hS.pos;have hgo:∀ {B:List Part} {r:St6},Reads l s (B,r)→St6In l r:=fun h=>hS.go h.adv (by omega) (by omega)
 have hshort:∀ {B:List Part} {r:St6},Reads l s (B,r)→B.length≤300000:=fun h=>J6 hS h;obtain ⟨Q,hQ⟩:∃ Q:List Part×St6→Prop,(fun r=>Reads l s r)=Q:=⟨_,rfl⟩;have hQe:∀ r,Reads l s r=Q r:=fun r=>congrFun hQ r;rw [hQe] at hA;simp only [hQe] at hgo hshort;have hstep:∀ r,Q r→Q (Pz (Jy l d) l (100-(d:Int)) 1 r):=fun r h=>by rw [←hQe] at h ⊢;exact Dl hT (Jj hT d hd4) hv1 hv2 1 r hP h
 have hmono:∀ {B:List Part} {r:St6},Q (B,r)→0≤r.at_:=fun h=>by rw [←hQe] at h;exact h.adv.lo
 obtain ⟨i0,ss0,e0⟩:=s;cases hc;refine Y4 2 ?_;have Kq:Kfb:=⟨⟩;exact Mi
theorem kN {l:List Tok} {b:Int} {j:Nat} {us:List Site}:Ej l b ⟨(j:Int),us,0⟩=(X4 (j:Int) (l.length:Int)&&((l.getD j Ue).kind==5&&in6 (Ad b) (l.getD j Ue).text)):=by
 unfold Ej;simp only [Gm];rfl
structure Kfe:Prop
theorem Kfe.k (_:Kfe) (h:p:=by
 repeat' first|exact Z8|with_reducible apply Zb|intro _
 all_goals first|with_reducible exact Jd|omega|exact m2|rfl|trivial|exact ⟨(f,M,j2,us2,g2),by exact Qg4,hpL,hstep1,by omega,fun h=>by have h1:=hj2 h;have h2:=hf2;show (l.length:Int)+1≤(f:Int)+j2;omega,by omega⟩|skip):p:=h
structure Kfd:Prop
theorem Kfd.k (_:Kfd) (h:p:=by
 repeat' first|exact Z8|with_reducible apply Zb|intro _
 all_goals first|exact hS|skip
 refine aR 10 28 85 [11,12,13,31,32,33,34,35,36,37,38,39,40,41,42,43,44,45,46,47,48,49,50,51,52,53,54,55,56,57,58,59,60,61,62,63,64,65,66,67,68,69,70,71,72,73,74,75,76,77,78,79,80,81,82,83,84,85,86] (fun p:Nat×List Part×Int×List Site×Int=>[(22,.dead),(28,.dead),(29,.dead),(10,.sl 28 (p.2.1.map (enc:Part→D)).length)]) (fun p:Nat×List Part×Int×List Site×Int=>[(5,.box true [.d (.int .i64 p.2.2.1),.d (.list 3 (p.2.2.2.1.map enc)),.d (.int .i64 p.2.2.2.2)]),(28,.row 8 (p.2.1.map enc) 0)]) (fun p:Nat×List Part×Int×List Site×Int=>Zas l (4-(m:Int)) sub p.1 (p.2.1,⟨p.2.2.1,p.2.2.2.1,p.2.2.2.2⟩)=R∧Q (p.2.1,⟨p.2.2.1,p.2.2.2.1,p.2.2.2.2⟩)∧1≤p.1∧(p.2.2.2.2=0→(l.length:Int)+1≤p.1+p.2.2.1)) (fun p:Nat×List Part×Int×List Site×Int=>p.1) (l.length+1,A,i,ss,e) ?_ ?_ ?_
 ·exact ⟨Qc,hA,by omega,fun h=>by have h0:=hmono hA;show (l.length:Int)+1≤((l.length+1:Nat):Int)+i;simp only at h0;omega⟩
 ·exact Qw
 rintro ⟨f,B,j,us,g⟩ ⟨hpL,hB,hf1,hf2⟩;simp only at hpL hB hf1 hf2;obtain ⟨f,rfl⟩:∃ k,f=k+1:=⟨f-1,by omega⟩
 rw [Zas] at hpL;have m1:=hgo hB;have b1:=hshort hB;have o1:=m1.nums;simp only at o1;obtain ⟨j,rfl⟩:∃ n:Nat,j=n:=⟨j.toNat,by omega⟩
 have hstep1:=hstep _ hB;have hexit:Ej l (4-(m:Int)) ⟨j,us,g⟩=false→(B,(⟨j,us,g⟩:St6))=R:=fun h=>by rw [if_pos h] at hpL;exact hpL
 by_cases hg:g=0
 case neg =>
  have Zu:(g==0)=false:=by rw [Za];exact hg
  have hR3:=hexit (by unfold Ej;simp only [Zu,Bool.false_and])
  subst hR3;exact Ol
 subst hg;have hf2:=hf2 rfl;have Zu:((0:Int)==0)=true:=rfl;rw [kN] at hexit;rcases Zo j l.length with ⟨hlt,Zx⟩|⟨hlt,Zx⟩
 rotate_left
 ·have hR3:=hexit (by rw [Zx,Bool.false_and])
  subst hR3;exact Ol
 have Zz:=Zr Ue hlt;rw [kN] at hpL;have hop:=R6 hT (j:Int);rw [Zas,kN] at hstep1;simp only [Gm] at hpL hstep1 hop;obtain ⟨t,ht⟩:=exq (l.getD j Ue);rw [ht] at Zz hexit hpL hop hstep1;cases Zw:t.kind==5 with
 | false =>
  have hR3:=hexit (by rw [Zx,Zw];rfl)
  subst hR3;exact Ol
 | true =>
  have hsl:(Ad (4-(m:Int))).length≤1000000:=by
   unfold Ad;repeat' split
   all_goals simp
  cases Zy:in6 (Ad (4-(m:Int))) t.text with
  | false =>
   have hR3:=hexit (by rw [Zx,Zw,Zy];rfl)
   subst hR3;exact Ol
  | true =>
   have hsg:(X4 (j:Int) (l.length:Int)&&(t.kind==5&&in6 (Ad (4-(m:Int))) t.text))=true:=by rw [Zx,Zw,Zy];rfl
   rw [if_neg (by rw [hsg];simp)] at hpL
   rw [if_neg (by rw [hsg];simp),Zas] at hstep1
   have hadv:Xu ⟨(j:Int),us,0⟩=⟨(j:Int)+1,us,0⟩:=rfl;rw [hadv] at hpL hstep1;have m2:=m1.adv rfl (by show (j:Int)<l.length;omega)
   rw [hadv] at m2;have hx:=hsub _ m2.pos;obtain ⟨⟨B2,⟨j2,us2,g2⟩⟩,Qd⟩:=exq (sub ⟨(j:Int)+1,us,0⟩);rw [Qd] at hpL hstep1 hx;simp only at hpL hstep1;have hj2:g2=0→(j:Int)+1≤j2:=fun h=>by have h1:=(hx.adv.gain h).2;have h2:=(hx.adv.gain h).1;simp only at h1 h2;omega
   have ha2:B2.length≤1000000:=by have h1:=J6 m2 hx;simp only at h1;omega
   obtain ⟨M,Z1⟩:=exq (Wr ⟨9,[],t.text,[],0,0,[],[]⟩ [⟨B⟩,⟨B2⟩]);rw [Z1] at hpL hstep1;have ha1:B.length≤1000000:=by omega
   clear hx;have Kq:Kfe:=⟨⟩;exact Mi):p:=h
theorem stepi_ops6 (n:Nat) (ih:IH6 n):Qa Tryz.prog (230,(Tc (n+1))):=by
 obtain ⟨Kx,Kt,Kc,Kd,Kb,Ku,Kw,K,X9,Uv,Po,Cx,Oj,_⟩:=Xe Zv Zn [] false (Q0 ih.operand (K2.eq_def n) (Q0 ih.ops (Tc.eq_def n) (Q0 good_signs6 A6.eq_def (Q0 good_in6 cJ.eq_def (Q0 good_made6 Ht Xd)))));have Ko:=(Tc.eq_def (n+1));refine Xj K Tryz.func230 [.tmp 8,.cell 9 137] rfl 89 rfl (fun c hc cvs hpre=>?_);unfold Tc at hpre;obtain ⟨⟨l⟩,s,v,b,rfl,hS,hv1,hv2,hb1,hb2,hn⟩:=Zow hpre;simp only at hS;clear hpre;obtain ⟨d,hd⟩:∃ d:Nat,v=100-d:=⟨(100-v).toNat,by omega⟩
 subst hd;have Qb:(100-(100-(d:Int))).toNat=d:=by omega
 have hd4:d≤100:=by omega
 have hT:=hS.toks;by_cases hb5:b=5
 ·subst hb5;have Z9:((5:Int)==5)=true:=rfl;have Qf:((5:Int)-5).toNat=0:=rfl;obtain ⟨⟨A,⟨i,ss,e⟩⟩,Qe⟩:=exq (F4 (Jy l d) l (100-(d:Int)) s);have Qc:vD (Jy l d) l (100-(d:Int)) 0 s=(A,⟨i,ss,e⟩):=by rw [←Qe];rfl
  obtain ⟨i0,ss0,e0⟩:=s;cases hc;refine Y4 5 ?_;exact Ol
 have Q6:(b==5)=false:=by rw [Za];exact hb5
 obtain ⟨m,hm⟩:∃ m:Nat,b=4-m:=⟨(4-b).toNat,by omega⟩
 subst hm;have Qh:(5-(4-(m:Int))).toNat=m+1:=by omega
 have Qn:(5-(4-(m:Int)+1)).toNat=m:=by omega
 obtain ⟨R,Qe⟩:=exq (vD (Jy l d) l (100-(d:Int)) (m+1) s);have Qc:=Qe;rw [vD] at Qc;have hsub:=fun r (h:Pos l r)=>Fy hT (Jj hT d hd4) hv1 hv2 m r h;have hA:=hsub s hS.pos;obtain ⟨sub,Je⟩:=exq (vD (Jy l d) l (100-(d:Int)) m);rw [Je] at Qc hA hsub;simp only at Qc;obtain ⟨⟨A,⟨i,ss,e⟩⟩,Q4⟩:=exq (sub s);rw [Q4] at Qc hA;have hP:=hS.pos;have hgo:∀ {B:List Part} {r:St6},Reads l s (B,r)→St6In l r:=fun h=>hS.go h.adv (by omega) (by omega)
 have hshort:∀ {B:List Part} {r:St6},Reads l s (B,r)→B.length≤300000:=fun h=>J6 hS h;obtain ⟨Q,hQ⟩:∃ Q:List Part×St6→Prop,(fun r=>Reads l s r)=Q:=⟨_,rfl⟩;have hQe:∀ r,Reads l s r=Q r:=fun r=>congrFun hQ r;rw [hQe] at hA;simp only [hQe] at hgo hshort;have hstep:∀ r,Q r→Q (Zas l (4-(m:Int)) sub 1 r):=fun r h=>by rw [←hQe] at h ⊢;exact eM hT hsub 1 r hP h
 have hmono:∀ {B:List Part} {r:St6},Q (B,r)→0≤r.at_:=fun h=>by rw [←hQe] at h;exact h.adv.lo
 obtain ⟨i0,ss0,e0⟩:=s;cases hc;refine Y4 5 ?_;have Kq:Kfd:=⟨⟩;exact Mi
theorem Zv0 {x:List UInt8} {a:Part} {A:List Part}:Zay x (a::A)=⟨a.kind,x,a.name,a.bind,a.many,a.num,a.t,a.u⟩::A:=rfl
structure Kfg:Prop
theorem Kfg.k (_:Kfg) (h:p:=by
 repeat' first|exact Z8|with_reducible apply Zb|intro _
 all_goals first|with_reducible exact Jd|omega|exact m2|rfl|(simp [Qg];done)|trivial|skip):p:=h
structure Kfh:Prop
theorem Kfh.k (_:Kfh) (h:p:=by
 repeat' first|exact Z8|with_reducible apply Zb|intro _
 all_goals first|with_reducible exact Jd|omega|exact m2|rfl|trivial|exact ⟨(f,j3+1,us3,0,had++[x],body++⟨a.kind,x,a.name,a.bind,a.many,a.num,a.t,a.u⟩::A),by (have Km:=@Qg;exact Qw),hL,by simp;omega,by simp;omega,by simp;omega,m4,by omega⟩|skip):p:=h
structure Kff:Prop
theorem Kff.k (_:Kff) (h:p:=by
 repeat' first|exact Z8|with_reducible apply Zb|intro _
 refine Zm [6,10,11,12,13,27,28,29,30,31,32,33,34,35,36,37,38,39,40,41,42,43,44,45,46,47,48,49,50,51,52,53,54,55,56,57,58,59,60,61,62,63,64,65,66,67,68,69,70,71,72,73,74,75,76,77,78] (fun p:Nat×Int×List Site×Int×List (List UInt8)×List Part=>[(8,.sl 25 (enc (⟨10,[],[],[],(p.2.2.2.2.1.length:Int),0,[],[]⟩:Part)::p.2.2.2.2.2.map (enc:Part→D)).length),(9,.sl 26 (p.2.2.2.2.1.map (enc:List UInt8→D)).length)]) (fun p:Nat×Int×List Site×Int×List (List UInt8)×List Part=>[(4,.box true [.d (.int .i64 p.2.1),.d (.list 3 (p.2.2.1.map enc)),.d (.int .i64 p.2.2.2.1)]),(25,.row 8 (enc (⟨10,[],[],[],(p.2.2.2.2.1.length:Int),0,[],[]⟩:Part)::p.2.2.2.2.2.map (enc:Part→D)) 0),(26,.row 1 (p.2.2.2.2.1.map enc) (p.2.2.2.2.1.length-1))]) (fun p:Nat×Int×List Site×Int×List (List UInt8)×List Part=>kU (Jy l d) l p.1 ⟨p.2.1,p.2.2.1,p.2.2.2.1⟩ p.2.2.2.2.1 p.2.2.2.2.2=R∧p.1+p.2.2.2.2.1.length=51∧p.2.2.2.2.1.length≤50∧p.2.2.2.2.2.length≤300000*p.2.2.2.2.1.length∧St6In l ⟨p.2.1,p.2.2.1,p.2.2.2.1⟩) (fun p:Nat×Int×List Site×Int×List (List UInt8)×List Part=>p.1) (51,i0,ss0,e0,[],[]) ?_ ?_ ?_
 ·exact ⟨hR2,by simp,by simp,by simp,hS⟩
 ·have Km:=@Qg;exact Qw
 rintro ⟨f,j,us,g,had,body⟩ ⟨hL,hf,hh,hbd,m0⟩;simp only at hL hf hh hbd m0;obtain ⟨f,rfl⟩:∃ k,f=k+1:=⟨f-1,by omega⟩
 rw [kU] at hL;have k0:=m0.nums;simp only at k0;have m1:=m0.label 1 had;have hroom:=Es (l:=l) (s:=⟨j,us,g⟩) (k:=1) (had:=had);have m2:=m1.needs 5 [61];have hx:=J6 m2 (Jj hT d hd4 _ m2.pos);have hrd:=Jj hT d hd4 _ m2.pos;have m3:=m2.expr hd4;have hq:=(mI m0.pos 1 had);have hq2:=(Pm m1.pos 5 [61]);obtain ⟨⟨x,⟨j1,us1,g1⟩⟩,Qe⟩:=exq (W9 l ⟨j,us,g⟩ 1 had);rw [Qe] at hL m1 hroom m2 hx hrd m3 hq hq2;simp only at hL m1 hroom m2 hx hrd m3 hq hq2;obtain ⟨⟨j2,us2,g2⟩,Qc⟩:=exq (Qq l ⟨j1,us1,g1⟩ 5 [61]);rw [Qc] at hL m2 hx hrd m3 hq2;obtain ⟨⟨A,⟨j3,us3,g3⟩⟩,Qh⟩:=exq (Jy l d ⟨j2,us2,g2⟩);rw [Qh] at hL hx hrd m3;simp only at hL hx hrd m3;have k1:=m1.nums;have k2:=m2.nums;have k3:=m3.nums;simp only at k1 k2 k3;by_cases hg:g3=0
 case neg =>
  rw [if_pos hg] at hL;have Qn:(g3 != 0)=true:=bne_iff_ne.2 hg;subst hL;clear hq hq2 hrd;exact Ol
 subst hg;rw [if_neg (by simp)] at hL
 have Qn:((0:Int) != 0)=false:=rfl;have hg1:g1=0:=hq2.ok0 (hrd.adv.ok0 rfl);have hroom:=hroom hg1;have hne:=(hrd.ok rfl).1;clear hq hq2 hrd;simp only at hne;obtain ⟨a,A,rfl⟩:∃ a B,A=a::B:=by
  cases A with
  | nil=>exact absurd rfl hne
  | cons a B=>exact ⟨a,B,rfl⟩
 clear hne;rw [Zv0] at hL;simp only [Zi] at hx;cases Je:Rh l ⟨j3,us3,0⟩ 5 [44] with
 | false =>
  rw [if_pos Je] at hL;obtain ⟨⟨j4,us4,g4⟩,Q6⟩:=exq (Qq l ⟨j3,us3,0⟩ 5 [125]);rw [Q6] at hL;subst hL;have Kq:Kfg:=⟨⟩;exact Mi
 | true =>
  rw [if_neg (by rw [Je];simp)] at hL
  have hadv:Xu ⟨j3,us3,0⟩=⟨j3+1,us3,0⟩:=rfl;rw [hadv] at hL;have m4:=m3.is Je;rw [hadv] at m4;have Kq:Kfh:=⟨⟩;exact Mi):p:=h
theorem stepi_rows6 (n:Nat) (ih:IH6 n):Qa Tryz.prog (272,(L4 (n+1))):=by
 obtain ⟨Kx,Kt,Kc,Kd,Kb,Ku,Kw,K,X9,Uv,Po,Cx,_⟩:=Xe Zv Zn [] false (Q0 S7 dY (Q0 nN D4.eq_def (Q0 Ky Pp (Q0 ih.expr (Yi n) Xd))));have Ko:=(L4.eq_def (n+1));refine Xj K Tryz.func272 [.tmp 6,.cell 7 137] rfl 79 rfl (fun c hc cvs hpre=>?_);unfold L4 at hpre;obtain ⟨⟨l⟩,s,v,rfl,hS,hv1,hv2,hn⟩:=J5 hpre;simp only at hS;clear hpre;obtain ⟨d,hd⟩:∃ d:Nat,v=101-d:=⟨(101-v).toNat,by omega⟩
 subst hd;have Qb:(101-(101-(d:Int))).toNat=d:=by omega
 have hd4:d≤100:=by omega
 have hT:=hS.toks;have o0:=hS.nums;obtain ⟨R,Z9⟩:=exq (wN (Jy l d) l s);have hR2:=Z9;unfold wN at hR2;obtain ⟨i0,ss0,e0⟩:=s;simp only at o0;cases hc;refine Y4 4 ?_;cases Qf:Rh l ⟨i0,ss0,e0⟩ 5 [125] with
 | true =>
  rw [Qf,if_pos rfl] at hR2;have hadv:Xu ⟨i0,ss0,e0⟩=⟨i0+1,ss0,e0⟩:=rfl;rw [hadv] at hR2;subst hR2;exact Ol
 | false =>
  rw [Qf,if_neg (by simp)] at hR2
  have Kq:Kff:=⟨⟩;exact Mi
theorem xE {p:Part} {A:List Part}:Wr p [⟨A⟩]=p::A:=by simp [Wr,Lf]
structure Kfj:Prop
theorem Kfj.k (_:Kfj) (h:p:=by
 repeat' first|exact Z8|with_reducible apply Zb|intro _
 all_goals first|with_reducible exact Jd|omega|exact m2|rfl|(simp [Qg];done)|trivial|skip):p:=h
structure Kfk:Prop
theorem Kfk.k (_:Kfk) (h:p:=by
 repeat' first|exact Z8|with_reducible apply Zb|intro _
 all_goals first|with_reducible exact Jd|omega|exact m2|rfl|trivial|exact ⟨(f,j3+1,us3,0,had++[x],body++⟨8,x,[],y,0,0,[],[]⟩::A),by (have Km:=@Qg;exact Qw),hL,by simp;omega,by simp;omega,by simp;omega,m4,by omega⟩|skip):p:=h
structure Kfi:Prop
theorem Kfi.k (_:Kfi) (h:p:=by
 repeat' first|exact Z8|with_reducible apply Zb|intro _
 all_goals first|exact hS|skip
 refine Zm [6,11,12,13,14,31,32,33,34,35,36,37,38,39,40,41,42,43,44,45,46,47,48,49,50,51,52,53,54,55,56,57,58,59,60,61,62,63,64,65,66,67,68,69,70,71,72,73,74,75,76,77,78,79,80,81,82,83,84,85,86,87,88,89,90] (fun p:Nat×Int×List Site×Int×List (List UInt8)×List Part=>[(9,.sl 29 (enc (⟨7,[],[],[],(p.2.2.2.2.1.length:Int),0,[],[]⟩:Part)::p.2.2.2.2.2.map (enc:Part→D)).length),(10,.sl 30 (p.2.2.2.2.1.map (enc:List UInt8→D)).length)]) (fun p:Nat×Int×List Site×Int×List (List UInt8)×List Part=>[(4,.box true [.d (.int .i64 p.2.1),.d (.list 3 (p.2.2.1.map enc)),.d (.int .i64 p.2.2.2.1)]),(29,.row 8 (enc (⟨7,[],[],[],(p.2.2.2.2.1.length:Int),0,[],[]⟩:Part)::p.2.2.2.2.2.map (enc:Part→D)) 0),(30,.row 1 (p.2.2.2.2.1.map enc) (p.2.2.2.2.1.length-1))]) (fun p:Nat×Int×List Site×Int×List (List UInt8)×List Part=>mF (Jy l d) l p.1 ⟨p.2.1,p.2.2.1,p.2.2.2.1⟩ p.2.2.2.2.1 p.2.2.2.2.2=R∧p.1+p.2.2.2.2.1.length=51∧p.2.2.2.2.1.length≤50∧p.2.2.2.2.2.length≤300001*(p.2.2.2.2.1.length+1)∧St6In l ⟨p.2.1,p.2.2.1,p.2.2.2.1⟩) (fun p:Nat×Int×List Site×Int×List (List UInt8)×List Part=>p.1) (51,i2,ss2,e2,[],C0) ?_ ?_ ?_
 ·exact ⟨hR2,by simp,by simp,by simp;omega,n2⟩
 ·have Km:=@Qg;exact Qw
 rintro ⟨f,j,us,g,had,body⟩ ⟨hL,hf,hh,hbd,m0⟩;simp only at hL hf hh hbd m0;obtain ⟨f,rfl⟩:∃ k,f=k+1:=⟨f-1,by omega⟩
 rw [mF] at hL;unfold K5 at hL;have k0:=m0.nums;simp only at k0;have m1:=m0.label 2 had;have hroom:=Es (l:=l) (s:=⟨j,us,g⟩) (k:=2) (had:=had);have m1b:=m1.named 1;have m2:=m1b.needs 5 [45,62];have hx:=J6 m2 (Jj hT d hd4 _ m2.pos);have hrd:=Jj hT d hd4 _ m2.pos;have m3:=m2.expr hd4;have hqb:=(Si m1.pos 1);have hq2:=(Pm m1b.pos 5 [45,62]);obtain ⟨⟨x,⟨j1,us1,g1⟩⟩,Qh⟩:=exq (W9 l ⟨j,us,g⟩ 2 had);rw [Qh] at hL m1 hroom m1b m2 hx hrd m3 hqb hq2;simp only at hL m1 hroom m1b m2 hx hrd m3 hqb hq2;obtain ⟨⟨y,⟨j1b,us1b,g1b⟩⟩,Qn⟩:=exq (Jk l ⟨j1,us1,g1⟩ 1);rw [Qn] at hL m1b m2 hx hrd m3 hqb hq2;simp only at hL m1b m2 hx hrd m3 hqb hq2;obtain ⟨⟨j2,us2,g2⟩,Q6⟩:=exq (Qq l ⟨j1b,us1b,g1b⟩ 5 [45,62]);rw [Q6] at hL m2 hx hrd m3 hq2;obtain ⟨⟨A,⟨j3,us3,g3⟩⟩,Je⟩:=exq (Jy l d ⟨j2,us2,g2⟩);rw [Je] at hL hx hrd m3;simp only at hL hx hrd m3;have k1:=m1.nums;have k1b:=m1b.nums;have k2:=m2.nums;have k3:=m3.nums;simp only at k1 k1b k2 k3;by_cases hg:g3=0
 case neg =>
  rw [if_pos hg] at hL;have Q4:(g3 != 0)=true:=bne_iff_ne.2 hg;subst hL;clear hqb hq2 hrd;exact Ol
 subst hg;rw [if_neg (by simp)] at hL
 have Q4:((0:Int) != 0)=false:=rfl;have hg1:g1=0:=hqb.ok0 (hq2.ok0 (hrd.adv.ok0 rfl));have hroom:=hroom hg1;clear hqb hq2 hrd;have Zz:=xE (p:=⟨8,x,[],y,0,0,[],[]⟩) (A:=A);rw [Zz] at hL;have ha1:A.length≤1000000:=by omega
 cases Zw:Rh l ⟨j3,us3,0⟩ 5 [124] with
 | false =>
  rw [if_pos Zw] at hL;obtain ⟨⟨j4,us4,g4⟩,Zx⟩:=exq (Qq l ⟨j3,us3,0⟩ 6 [101,110,100]);rw [Zx] at hL;subst hL;have Kq:Kfj:=⟨⟩;exact Mi
 | true =>
  rw [if_neg (by rw [Zw];simp)] at hL
  have hadv:Xu ⟨j3,us3,0⟩=⟨j3+1,us3,0⟩:=rfl;rw [hadv] at hL;have m4:=m3.is Zw;rw [hadv] at m4;have Kq:Kfk:=⟨⟩;exact Mi):p:=h
theorem stepi_cases6 (n:Nat) (ih:IH6 n):Qa Tryz.prog (229,(M8 (n+1))):=by
 obtain ⟨Kx,Kt,Kc,Kd,Kb,Ku,Kw,K,X9,Uv,Po,Cx,Oj,kK,oB,_⟩:=Xe Zv Zn [] false (Q0 S7 dY (Q0 nN D4.eq_def (Q0 Us N7 (Q0 Ky Pp (Q0 bD D5.eq_def (Q0 good_made6 Ht (Q0 ih.expr (Yi n) Xd)))))));have Ko:=(M8.eq_def (n+1));refine Xj K Tryz.func229 [.tmp 6,.cell 7 137] rfl 91 rfl (fun c hc cvs hpre=>?_);unfold M8 at hpre;obtain ⟨⟨l⟩,s,v,rfl,hS,hv1,hv2,hn⟩:=J5 hpre;simp only at hS;clear hpre;obtain ⟨d,hd⟩:∃ d:Nat,v=100-d:=⟨(100-v).toNat,by omega⟩
 subst hd;have Qb:(100-(100-(d:Int))).toNat=d:=by omega
 have Qf:(101-(100-(d:Int)+1)).toNat=d:=by omega
 have hd4:d≤100:=by omega
 have hT:=hS.toks;have o0:=hS.nums;obtain ⟨R,Zu⟩:=exq (uV (Jy l d) l s);have hR2:=Zu;unfold uV at hR2;have hx0:=J6 hS (Jj hT d hd4 _ hS.pos);have n1:=hS.expr hd4;have n2:=n1.needs 6 [111,102];obtain ⟨⟨C0,⟨i1,ss1,e1⟩⟩,Z9⟩:=exq (Jy l d s);rw [Z9] at hR2 hx0 n1 n2;simp only at hR2 hx0 n1 n2;obtain ⟨⟨i2,ss2,e2⟩,Qe⟩:=exq (Qq l ⟨i1,ss1,e1⟩ 6 [111,102]);rw [Qe] at hR2 n2;have o1:=n1.nums;simp only at o1;have hc0:C0.length≤1000000:=by omega
 have Qc:=xE (p:=⟨7,[],[],[],0,0,[],[]⟩) (A:=C0);obtain ⟨i0,ss0,e0⟩:=s;simp only at o0;cases hc;refine Y4 5 ?_;have Kq:Kfi:=⟨⟩;exact Mi
theorem Zl5 (n:Nat) (ih:IH6 n):Qa Tryz.prog (186,(Xp (n+1))):=by
 obtain ⟨Kx,Kt,Kc,Kd,Kb,Ku,Kw,K,X9,Uv,Po,Cx,Oj,kK,oB,_⟩:=Xe Zv Zn [] false (Q0 Kk Sv (Q0 ih.fun_ (D7.eq_def n) (Q0 ih.let_ (D3.eq_def n) (Q0 ih.rec_ (Dz.eq_def n) (Q0 ih.cond (L8.eq_def n) (Q0 ih.cases (M8.eq_def n) (Q0 ih.ops (Tc.eq_def n) Xd)))))));have Ko:=(Yi (n+1));refine Xj K Tryz.func186 [.tmp 6,.cell 7 137] rfl 95 rfl (fun c hc cvs hpre=>?_);unfold Xp at hpre;obtain ⟨⟨l⟩,⟨i,ss,e⟩,v,rfl,hS,hv1,hv2,hn⟩:=J5 hpre;simp only at hS;clear hpre;have hT:=hS.toks;have o0:=hS.nums;simp only at o0;obtain ⟨i,rfl⟩:∃ n:Nat,i=n:=⟨i.toNat,by omega⟩
 cases hc;refine Y4 5 ?_;obtain ⟨d,hd⟩:∃ d:Nat,v=101-d:=⟨(101-v).toNat,by omega⟩
 subst hd;have Qb:(101-(101-(d:Int))).toNat=d:=by omega
 have hd4:d≤100:=by omega
 by_cases he:e=0
 case neg =>
  have Qf:(e==0)=false:=by rw [Za];exact he
  have Z9:(e != 0)=true:=bne_iff_ne.2 he;have Qe:Jy l d ⟨i,ss,e⟩=([],⟨i,ss,e⟩):=by
   cases d with
   | zero =>
    show (([]:List Part),J0 ⟨(i:Int),ss,e⟩ 4)=_;unfold J0;rw [if_neg (by simpa using he)]
   | succ d=>rw [Jy,Zon,if_pos (by simpa using he)]
  exact Ol
 subst he;have Qf:((0:Int)==0)=true:=rfl;have Z9:((0:Int) != 0)=false:=rfl;cases d with
 | zero =>
  have Qc:X4 100 (101-((0:Nat):Int))=true:=by rw [Jf];omega
  have Qe:Jy l 0 ⟨i,ss,0⟩=([],⟨i,ss,4⟩):=rfl;have Qh:J0 ⟨(i:Int),ss,0⟩ 4=⟨i,ss,4⟩:=rfl;exact Ol
 | succ d =>
  have Qc:X4 100 (101-((d+1:Nat):Int))=false:=by rw [←Bool.not_eq_true,Jf];omega
  have Qn:(100-(101-((d+1:Nat):Int))).toNat=d:=by omega
  have hd5:101-((d+1:Nat):Int)=100-d:=by omega
  obtain ⟨⟨A,⟨i2,ss2,e2⟩⟩,Qe⟩:=exq (Jy l (d+1) ⟨(i:Int),ss,0⟩);have Q4:=Qe;rw [Jy,Zon,if_neg (by simp)] at Q4
  simp only [Gm] at Q4;have Je:Int.toNat 5=5:=rfl;rcases Zo i l.length with ⟨hlt,Q6⟩|⟨hlt,Q6⟩
  rotate_left
  ·rw [if_neg (by omega)] at Q4
   rw [hd5] at Qb Qn Qc;rw [hd5];exact Ol
  have Zu:=Zr Ue hlt;have hadv:Xu ⟨(i:Int),ss,0⟩=⟨(i:Int)+1,ss,0⟩:=rfl;have m1:=hS.adv rfl (by show (i:Int)<l.length;omega)
  rw [hadv] at m1 Q4;obtain ⟨t,ht⟩:=exq (l.getD i Ue);rw [ht] at Zu Q4;rw [hd5] at Qb Qn Qc;rw [hd5];by_cases h6:t.kind=6
  case neg =>
   rw [if_neg (fun h=>h6 h.2)] at Q4;have Zx:(t.kind==6)=false:=by rw [Za];exact h6
   exact Ol
  rw [if_pos ⟨by omega,h6⟩] at Q4
  have Zx:(t.kind==6)=true:=by rw [Zk];exact h6
  by_cases hx0:t.text=[102,117,110]
  ·rw [if_pos hx0] at Q4;have Zw:(t.text==[102,117,110])=true:=by rw [Zk];exact hx0
   exact Ol
  rw [if_neg hx0] at Q4;have Zw:(t.text==[102,117,110])=false:=by rw [Za];exact hx0
  by_cases hx1:t.text=[108,101,116]
  ·rw [if_pos hx1] at Q4;have Zz:(t.text==[108,101,116])=true:=by rw [Zk];exact hx1
   exact Ol
  rw [if_neg hx1] at Q4;have Zz:(t.text==[108,101,116])=false:=by rw [Za];exact hx1
  by_cases hx2:t.text=[114,101,99]
  ·rw [if_pos hx2] at Q4;have Zy:(t.text==[114,101,99])=true:=by rw [Zk];exact hx2
   exact Ol
  rw [if_neg hx2] at Q4;have Zy:(t.text==[114,101,99])=false:=by rw [Za];exact hx2
  by_cases hx3:t.text=[105,102]
  ·rw [if_pos hx3] at Q4;have Qd:(t.text==[105,102])=true:=by rw [Zk];exact hx3
   exact Ol
  rw [if_neg hx3] at Q4;have Qd:(t.text==[105,102])=false:=by rw [Za];exact hx3
  by_cases hx4:t.text=[99,97,115,101]
  ·rw [if_pos hx4] at Q4;have Z1:(t.text==[99,97,115,101])=true:=by rw [Zk];exact hx4
   exact Ol
  rw [if_neg hx4] at Q4;have Z1:(t.text==[99,97,115,101])=false:=by rw [Za];exact hx4
  exact Ol
theorem Ztg:∀ n,IH6 n
 | 0=>IH6.mk
  (X2 (Jp Tryz.func186 (by kernel_rfl) rfl) tT)
  (X2 (Jp Tryz.func225 (by kernel_rfl) rfl) wQ)
  (X2 (Jp Tryz.func226 (by kernel_rfl) rfl) vU)
  (X2 (Jp Tryz.func227 (by kernel_rfl) rfl) vR)
  (X2 (Jp Tryz.func228 (by kernel_rfl) rfl) tU)
  (X2 (Jp Tryz.func229 (by kernel_rfl) rfl) oU)
  (X2 (Jp Tryz.func254 (by kernel_rfl) rfl) jF)
  (X2 (Jp Tryz.func260 (by kernel_rfl) rfl) tO)
  (X2 (Jp Tryz.func266 (by kernel_rfl) rfl) uQ)
  (X2 (Jp Tryz.func271 (by kernel_rfl) rfl) oT)
  (X2 (Jp Tryz.func272 (by kernel_rfl) rfl) tM)
  (X2 (Jp Tryz.func273 (by kernel_rfl) rfl) mD)
  (X2 (Jp Tryz.func230 (by kernel_rfl) rfl) vT)
 | n+1=>IH6.mk (Zl5 n (Ztg n)) (Zpz n (Ztg n)) (Zpy n (Ztg n)) (Zpx n (Ztg n)) (Zl6 n (Ztg n)) (stepi_cases6 n (Ztg n)) (stepi_operand6 n (Ztg n)) (stepi_part6 n (Ztg n)) (Zl7 n (Ztg n)) (Zae n (Ztg n)) (stepi_rows6 n (Ztg n)) (vA n (Ztg n)) (stepi_ops6 n (Ztg n))
def fD:Con:=Xp 3000
theorem Zbg:fD=Xp 3000:=rfl
theorem Zn3:Qa Tryz.prog (186,fD):=(Ztg 3000).expr
structure Def6 where
 name:List UInt8
 t:List Node
 e:List Part
 deriving DecidableEq
instance encDef6:Enc Def6:=⟨fun a=>.agg [.str a.name,.list 3 (a.t.map enc),.list 8 (a.e.map enc)],fun x=>match x with
 | .agg [a,b,c]=>⟨a.s,b.l.map dec,c.l.map dec⟩
 | _=>⟨[],[],[]⟩,fun a=>by
  have h1:∀ l:List Node,(l.map (enc:Node→D)).map dec=l:=fun l=>Jq;have h2:∀ l:List Part,(l.map (enc:Part→D)).map dec=l:=fun l=>Jq;cases a;simp [D.l,D.s,h1,h2]⟩
instance szDef6:Sz Def6:=⟨3⟩
theorem T1:Sz.sz Def6=3:=rfl
theorem X3 {a:List UInt8} {b:List Node} {c:List Part}:(enc (Def6.mk a b c):D)=.agg [.str a,.list 3 (b.map enc),.list 8 (c.map enc)]:=rfl
theorem jY {a:Def6}:(enc a:D)=.agg [.str a.name,.list 3 (a.t.map enc),.list 8 (a.e.map enc)]:=rfl
theorem Va {a:List UInt8} {b:List Node} {c:List Part}:(dec (.agg [.str a,.list 3 (b.map enc),.list 8 (c.map enc)]):Def6)=⟨a,b,c⟩:=Enc.dec_enc (Def6.mk a b c)
theorem Y8 {a:List UInt8} {b:List Node} {c:List Part}:V9 Def6 (.agg [.str a,.list 3 (b.map enc),.list 8 (c.map enc)])=True:=eq_true (Xq (Def6.mk a b c))
structure Mod6 where
 name:List UInt8
 imps:List (List UInt8)
 defs:List Def6
 sites:List Site
 deriving DecidableEq
instance encMod6:Enc Mod6:=⟨fun a=>.agg [.str a.name,.list 1 (a.imps.map enc),.list 3 (a.defs.map enc),.list 3 (a.sites.map enc)],fun x=>match x with
 | .agg [a,b,c,d]=>⟨a.s,b.l.map dec,c.l.map dec,d.l.map dec⟩
 | _=>⟨[],[],[],[]⟩,fun a=>by
  have h0:∀ l:List (List UInt8),(l.map (enc:List UInt8→D)).map dec=l:=fun l=>Jq;have h1:∀ l:List Def6,(l.map (enc:Def6→D)).map dec=l:=fun l=>Jq;have h2:∀ l:List Site,(l.map (enc:Site→D)).map dec=l:=fun l=>Jq;cases a;simp [D.l,D.s,h0,h1,h2]⟩
instance szMod6:Sz Mod6:=⟨4⟩
theorem Ee:Sz.sz Mod6=4:=rfl
theorem Ji {a:List UInt8} {b:List (List UInt8)} {c:List Def6} {d:List Site}:(enc (Mod6.mk a b c d):D)=.agg [.str a,.list 1 (b.map enc),.list 3 (c.map enc),.list 3 (d.map enc)]:=rfl
theorem Zoo {a:Mod6}:(enc a:D)=.agg [.str a.name,.list 1 (a.imps.map enc),.list 3 (a.defs.map enc),.list 3 (a.sites.map enc)]:=rfl
theorem Q9 {a:List UInt8} {b:List (List UInt8)} {c:List Def6} {d:List Site}:(dec (.agg [.str a,.list 1 (b.map enc),.list 3 (c.map enc),.list 3 (d.map enc)]):Mod6)=⟨a,b,c,d⟩:=Enc.dec_enc (Mod6.mk a b c d)
theorem Q7 {a:List UInt8} {b:List (List UInt8)} {c:List Def6} {d:List Site}:V9 Mod6 (.agg [.str a,.list 1 (b.map enc),.list 3 (c.map enc),.list 3 (d.map enc)])=True:=eq_true (Xq (Mod6.mk a b c d))
def J3:Def6:=⟨[],[],[]⟩
def Jx:Mod6:=⟨[],[],[],[]⟩
def Zy7 (had:List Def6) (x:List UInt8):Bool:=had.any fun d=>d.name==x
def oP (l:List Tok) (s:St6) (had:List Def6):Def6×St6 :=
 let x:=Jk l s 1
 if x.2.e=0∧Zy7 had x.1=true then (J3,J0 s 7)
 else
  let t:=Uy l x.2 1
  let r:=Jy l 100 (Qq l t.2 5 [61])
  (⟨x.1,t.1,r.1⟩,Qq l r.2 5 [59])
def jL:Con:=Y1 (fun (l:Sl Tok) (s:St6) (had:Sl Def6)=>St6In l.l s∧had.l.length≤1000) (fun l s had=>oP l.l s had.l)
structure Kfm:Prop
theorem Kfm.k (_:Kfm) (h:p:=by
 repeat' first|exact Z8|with_reducible apply Zb|intro _
 all_goals first|with_reducible exact Jd|omega|exact ⟨k+1,by exact Qw,by omega,fun h=>absurd h he,by omega⟩|skip):p:=h
structure Kfn:Prop
theorem Kfn.k (_:Kfn) (h:p:=by
 repeat' first|exact Z8|with_reducible apply Zb|intro _
 all_goals first|with_reducible exact Jd|omega|exact ⟨k+1,by exact Qw,by omega,(by first|exact hst2|exact fun _=>hst2|exact fun m hm=>Za.1 (hst2 m hm)),by omega⟩|skip):p:=h
structure Kfl:Prop
theorem Kfl.k (_:Kfl) (h:p:=by
 repeat' first|exact Z8|with_reducible apply Zb|intro _
 refine Zm [19,20,21,22,23,24,25,26,27,28,29,30,31,32,33,34,35,36,37,38,39] (fun k:Nat=>[(10,.d (.int .i64 k))]) (fun k:Nat=>[]) (fun k:Nat=>k≤had.length∧(e1=0→∀ m,m<k→((had.getD m J3).name==x)=false)) (fun k:Nat=>had.length-k) 0 ?_ ?_ ?_
 ·exact ⟨by omega,fun _ m hm=>absurd hm (Nat.not_lt_zero m)⟩
 ·exact Qw
 rintro k ⟨hk,hno⟩;rcases Zo k had.length with ⟨hlt,Qf⟩|⟨hlt,Qf⟩
 ·have Qe:=Zr J3 hlt;have hst:((had.getD k J3).name==x)=false→∀ m,m<k+1→e1=0→((had.getD m J3).name==x)=false:=fun h m hm he=>by
   by_cases e:m=k
   ·subst e;exact h
   ·exact hno he m (by omega)
  have hit:e1=0→((had.getD k J3).name==x)=true→Zy7 had x=true:=fun _ h=>by
   unfold Zy7;rw [List.any_eq_true];refine ⟨had.getD k J3,by simp [hlt],h⟩
  obtain ⟨y,hy⟩:=exq (had.getD k J3);rw [hy] at Qe hst hit;by_cases he:e1=0
  case neg =>
   have Z9:(e1==0)=false:=by rw [Za];exact he
   have Zw:=@T1;have Kq:Kfm:=⟨⟩;exact Mi
  subst he;have Z9:((0:Int)==0)=true:=rfl;cases Qc:(y.name==x) with
  | true =>
   rw [if_pos ⟨rfl,hit rfl Qc⟩] at hR2;subst hR2;have Zw:=@T1;have Zz:=@jY;exact Ol
  | false =>
   have hst2:∀ m,m<k+1→((had.getD m J3).name==x)=false:=fun m hm=>hst Qc m hm rfl;clear hst;have Zw:=@T1;have Zz:=@jY;have Kq:Kfn:=⟨⟩;exact Mi
 ·have hke:k=had.length:=by omega
  have hno2:¬ (e1=0∧Zy7 had x=true):=fun h=>by
   unfold Zy7 at h;rw [List.any_eq_true] at h;obtain ⟨he,y,hy,hyx⟩:=h;obtain ⟨m,hm,rfl⟩:=List.getElem_of_mem hy;have:=hno he m (by omega)
   rw [Zd,Zh hm,Option.getD_some,hyx] at this;exact Bool.noConfusion this
  rw [if_neg hno2] at hR2;clear hno;obtain ⟨⟨u,⟨i2,ss2,e2⟩⟩,Q6⟩:=exq (Uy l ⟨i1,ss1,e1⟩ 1);rw [Q6] at hR2 m2 hu;simp only at hR2 m2;have m3:=m2.needs 5 [61];obtain ⟨⟨i3,ss3,e3⟩,Je⟩:=exq (Qq l ⟨i2,ss2,e2⟩ 5 [61]);rw [Je] at hR2 m3;have m4:=m3.expr (d:=100) (by omega)
  obtain ⟨⟨A,⟨i4,ss4,e4⟩⟩,Q4⟩:=exq (Jy l 100 ⟨i3,ss3,e3⟩);rw [Q4] at hR2 m4;simp only at hR2 m4;obtain ⟨⟨i5,ss5,e5⟩,Zu⟩:=exq (Qq l ⟨i4,ss4,e4⟩ 5 [59]);rw [Zu] at hR2;have o2:=m2.nums;have o4:=m4.nums;simp only at o2 o4;have Zx:Int.toNat 100=100:=rfl;clear hu;subst hR2;have Zw:=@T1;have Zz:=@Zbg;exact Ol):p:=h
theorem good_def6:Qa Tryz.prog (149,jL):=by
 obtain ⟨Kx,Kt,Kc,Kd,Kb,Ku,Kw,K,X9,Uv,Po,Cx,Oj,_⟩:=Xe Zv Zn [] false (Q0 Us N7 (Q0 Kk Sv (Q0 Ey M7.eq_def (Q0 Ky Pp (Q0 Zn3 fD.eq_def Xd)))));have Ko:=jL.eq_def;refine Xj K Tryz.func149 [.cell 6 49,.cell 7 137] rfl 62 rfl (fun c hc cvs hpre=>?_);unfold jL at hpre;obtain ⟨⟨l⟩,s,⟨had⟩,rfl,hS,hh⟩:=N3 hpre;simp only at hS hh;clear hpre;have hT:=hS.toks;have o0:=hS.nums;obtain ⟨R,Qn⟩:=exq (oP l s had);have hR2:=Qn;unfold oP at hR2;have m1:=hS.named 1;have hat:=Si hS.pos 1;obtain ⟨⟨x,⟨i1,ss1,e1⟩⟩,Qb⟩:=exq (Jk l s 1);rw [Qb] at hR2 m1 hat;simp only at hR2 m1 hat;have hgain:e1=0→1≤i1:=fun h=>by have Qb:=(hat.gain h).2;have Q6:=(hat.gain h).1;have:=hS.pos.lo;simp only at Qb Q6;omega
 have o1:=m1.nums;simp only at o1;obtain ⟨⟨Wa,Ws,We⟩,Qh⟩:=exq (J0 s 7);rw [Qh] at hR2;have hu:=Na hT m1.pos (v:=1) fun _=>⟨by omega,by omega⟩
 have m2:=hS.go (hat.trans hu.adv (m:=0) (q:=0) (by omega) (by omega) (by omega)) (by omega) (by omega)
 have m1o:=m1.ok6;clear hat;obtain ⟨i0,ss0,e0⟩:=s;simp only at o0;cases hc;refine Y4 3 ?_;have Kq:Kfl:=⟨⟩;exact Mi
def Tt (z:Int) (d:Def6):Nat:=Jw (Yh z) d.t+X5 z d.e
def E0 (z:Int) (l:List Def6):Nat:=(l.map (Tt z)).sum
structure FitD (d:Def6):Prop where
 name:d.name.length≤1000000
 t:d.t.length≤100001
 named:Wu d.t
 e:d.e.length≤300000
 fit:∀ p∈d.e,Rz p
structure Defd (l:List Tok) (s:St6) (r:Def6×St6):Prop where
 adv:Adv l 1 0 s r.2
 cnt:r.2.e=0→∀ z,Tt z r.1=if (s.sites.length:Int)+1≤z∧z<(r.2.sites.length:Int)+1 then 1 else 0
 fit:FitD r.1
 ok:r.2.e=0→r.1.t≠[]∧Xz r.1.t=true∧r.1.e≠[]
theorem C4 {s:St6} {e:Int} (he:e≠0):(J0 s e).e≠0:=by
 unfold J0;split
 ·exact he
 ·assumption
theorem wT {l:List Tok} (hT:Toks l) {s:St6} (h:Pos l s) (had:List Def6):Defd l s (oP l s had):=by
 unfold oP;simp only;split
 ·have hw:=S0 h (e:=7) (by decide)
  have he:(J0 s 7).e≠0:=C4 (by decide)
  exact ⟨hw.adv,fun h0=>absurd h0 he,⟨by simp [J3],by simp [J3],Qt,by simp [J3],fun p hp=>(by cases hp)⟩,fun h0=>absurd h0 he⟩
 ·have q1:=(Sq.refl h).tok (by omega) (Ps h 1)
  have hx:=W7 hT s 1;have hu:=Na hT q1.adv.pos (v:=1) fun _=>⟨by omega,by omega⟩
  have q2:=q1.note hu (by omega) (by omega)
  have q3:=q2.tok (by omega) (Xi q2.adv.pos 5 [61])
  have hr:=Jj hT 100 (by omega) _ q3.adv.pos
  have q4:=q3.read (by omega) hr
  have q5:=q4.tok (by omega) (Xi q4.adv.pos 5 [59])
  have hl:(Jy l 100 (Qq l (Uy l (Jk l s 1).2 1).2 5 [61])).1.length≤300000:=by
   have h1:=hr.len;have h2:=hT.len;have h3:=q3.adv.lo;omega
  have back:(Qq l (Jy l 100 (Qq l (Uy l (Jk l s 1).2 1).2 5 [61])).2 5 [59]).e=0→(Jy l 100 (Qq l (Uy l (Jk l s 1).2 1).2 5 [61])).2.e=0:=fun h0=>(Pm q4.adv.pos 5 [59]).ok0 h0;refine ⟨q5.adv.weak (by omega) (Int.le_refl _),fun h0 z=>?_,⟨hx,hu.len,hu.named,hl,hr.fit⟩,fun h0=>?_⟩
  ·have:=q5.cnt h0 z;unfold Tt;simp only;omega
  ·have h1:=back h0;have h2:=(Pm q2.adv.pos 5 [61]).ok0 (hr.adv.ok0 h1);exact ⟨(hu.ok h2).1,(hu.ok h2).2,(hr.ok h1).1⟩
def Znv (l:List Tok):Nat→St6→List (List UInt8)→Bool×List (List UInt8)×St6
 | 0,s,imps=>(true,imps,s)
 | f+1,s,imps =>
  if Rh l s 6 [105,109,112,111,114,116]=false then (false,imps,s)
  else if (Jk l (Xu s) 1).2.e=0∧in6 imps (Jk l (Xu s) 1).1=true then (true,imps,J0 (Xu s) 7)
  else Znv l f (Qq l (Jk l (Xu s) 1).2 5 [59]) (imps++[(Jk l (Xu s) 1).1])
def vP (l:List Tok):Nat→St6→List Def6→List Int→Bool×List Def6×List Int×St6
 | 0,s,defs,pl=>(true,defs,[],s)
 | f+1,s,defs,pl =>
  if Rh l s 6 [100,101,102]=false then (false,defs,pl,s)
  else if defs.length=200 then (true,defs,[],J0 s 3)
  else vP l f (oP l (Xu s) defs).2 (defs++[(oP l (Xu s) defs).1]) (pl++[s.at_])
def nD (l:List Tok) (s:St6):St6:=if s.e=0∧((l.length:Int)≤s.at_∨(tk l s.at_).kind≠0) then J0 s 2 else s
def Y2 (l:List Tok) (name:List UInt8):Mod6×St6×List Int :=
 let a:=Znv l (l.length+1) ⟨0,[],0⟩ []
 if a.1=true then (⟨name,a.2.1,[],[]⟩,a.2.2,[])
 else
  let b:=vP l 201 a.2.2 [] []
  if b.1=true then (⟨name,a.2.1,b.2.1,[]⟩,b.2.2.2,[])
  else (⟨name,a.2.1,b.2.1,(nD l b.2.2.2).sites⟩,nD l b.2.2.2,b.2.2.1)
theorem Cy (s:St6) (e:Int):(J0 s e).at_=s.at_∧(J0 s e).sites=s.sites:=by
 unfold J0;split<;>exact ⟨rfl,rfl⟩
theorem Ao (l:List Tok) (s:St6) (k:Int) (x:List UInt8):(Qq l s k x).sites=s.sites:=by
 unfold Qq;split
 ·rfl
 split
 ·exact (Cy s 2).2
 ·rfl
theorem Ar (l:List Tok) (s:St6) (k:Int):(Jk l s k).2.sites=s.sites:=by
 unfold Jk;split
 ·rfl
 split
 ·exact (Cy s 2).2
 ·rfl
structure Imps (l:List Tok) (r:Bool×List (List UInt8)×St6):Prop where
 pos:Pos l r.2.2
 stop:r.1=true→r.2.2.e≠0
 sites:r.2.2.sites=[]
 short:∀ x∈r.2.1,x.length≤1000000
 len:r.2.1.length≤l.length+1
theorem Ztf {l:List Tok} (hT:Toks l):∀ (f:Nat) (s:St6) (imps:List (List UInt8)),Pos l s→s.sites=[]→(s.e=0→(l.length:Int)+1≤f+s.at_)→imps.length+f≤l.length+1→(∀ x∈imps,x.length≤1000000)→Imps l (Znv l f s imps)
 | 0,s,imps,hP,hs,h0,hf,hi=>⟨hP,fun _ he=>by have:=h0 he;have:=hP.hi;omega,hs,hi,by show imps.length≤_;omega⟩
 | f+1,s,imps,hP,hs,h0,hf,hi=>by
  rw [Znv];split
  ·exact ⟨hP,fun h=>by simp at h,hs,hi,by show imps.length≤_;omega⟩
  rename_i his;have his:Rh l s 6 [105,109,112,111,114,116]=true:=by simpa using his
  have q1:=(Sq.refl hP).tok (by omega) (dK hP his)
  split
  ·refine ⟨?_,fun _=>C4 (by decide),?_,hi,by show imps.length≤_;omega⟩
   ·show Pos l (J0 (Xu s) 7);obtain ⟨e1,e2⟩:=Cy (Xu s) 7;exact ⟨by rw [e1];exact q1.adv.lo,by rw [e1];exact q1.adv.hi⟩
   ·show (J0 (Xu s) 7).sites=[];rw [(Cy (Xu s) 7).2];exact hs
  ·have q2:=q1.tok (by omega) (Ps q1.adv.pos 1)
   have q3:=q2.tok (by omega) (Xi q2.adv.pos 5 [59])
   refine Ztf hT f _ _ q3.adv.pos ?_ (fun he=>?_) (by simp only [Zf,Zi,List.length_nil];omega) (fun x hx=>?_)
   ·rw [Ao,Ar];exact hs
   ·have h1:=h0 (q3.adv.ok0 he);have h2:=(q3.adv.gain he).2;have h3:=(q3.adv.gain he).1;omega
   ·rcases List.mem_append.1 hx with hx|hx
    ·exact hi x hx
    ·rw [Zp] at hx;subst hx;exact W7 hT _ _
theorem Qbo {l:List Tok} (hT:Toks l) {s:St6} (hP:Pos l s) (hs:s.sites=[]):St6In l s:=⟨hT,hP,by rw [hs];simp,fun _=>by rw [hs];have:=hP.lo;simp;omega⟩
structure Defs (l:List Tok) (s0:St6) (r:Bool×List Def6×List Int×St6):Prop where
 adv:Adv l 0 0 s0 r.2.2.2
 stop:r.1=true→r.2.2.2.e≠0
 cnt:r.2.2.2.e=0→∀ z,E0 z r.2.1=if (s0.sites.length:Int)+1≤z∧z<(r.2.2.2.sites.length:Int)+1 then 1 else 0
 fit:∀ d∈r.2.1,FitD d
 ok:r.2.2.2.e=0→∀ d∈r.2.1,d.t≠[]∧Xz d.t=true∧d.e≠[]
 len:r.2.1.length≤200
 pl:r.1=false→r.2.2.1.length=r.2.1.length∧∀ x∈r.2.2.1,0≤x∧x<l.length
theorem Ztu {l:List Tok} (hT:Toks l) {s0:St6}:∀ (f:Nat) (s:St6) (defs:List Def6) (pl:List Int),Defs l s0 (false,defs,pl,s)→defs.length+f=201→Defs l s0 (vP l f s defs pl)
 | 0,s,defs,pl,h,hf=>by have:=h.len;simp only at this;omega
 | f+1,s,defs,pl,h,hf=>by
  rw [vP];split
  ·exact h
  rename_i his;have his:Rh l s 6 [100,101,102]=true:=by simpa using his
  have hlt:=Du his;have hP:=h.adv.pos;have hadv:=h.adv;have hcnt:=h.cnt;have hok:=h.ok;have hlen:=h.len;have hpl:=h.pl rfl;simp only at hP hadv hcnt hok hlen hpl;split
  ·have hw:=S0 hP (e:=3) (by decide)
   exact ⟨hadv.trans hw.adv (by omega) (by omega) (by omega),fun _=>C4 (by decide),fun he=>absurd he (C4 (by decide)),h.fit,fun he=>absurd he (C4 (by decide)),h.len,fun h=>by simp at h⟩
  rename_i h200;have t1:=(dK hP his).adv;have hd:=wT hT t1.pos defs;have a2:=t1.trans hd.adv (m:=0) (q:=0) (by omega) (by omega) (by omega)
  refine Ztu hT f _ _ _ ⟨hadv.trans a2 (by omega) (by omega) (by omega),fun h=>by simp at h,fun he z=>?_,fun d hx=>?_,fun he d hx=>?_,?_,fun _=>⟨?_,fun x hx=>?_⟩⟩ ?_
  ·have e1:=hcnt hlt.1 z;have e2:=hd.cnt he z;have g1:=(hadv.gain hlt.1).1;have g2:=(hd.adv.gain he).1;have hss:(Xu s).sites=s.sites:=rfl;rw [hss] at e2 g2;show E0 z (defs++[_])=_;unfold E0 at e1 ⊢;rw [List.map_append,List.sum_append];simp only [List.map_cons,List.map_nil,List.sum_cons,List.sum_nil,Nat.add_zero];rw [e1,e2];exact aI (by omega) (by omega)
  ·rcases List.mem_append.1 hx with hx|hx
   ·exact h.fit d hx
   ·rw [Zp] at hx;subst hx;exact hd.fit
  ·rcases List.mem_append.1 hx with hx|hx
   ·exact hok hlt.1 d hx
   ·rw [Zp] at hx;subst hx;exact hd.ok he
  ·show (defs++[_]).length≤200;simp only [Zf,Zi,List.length_nil];omega
  ·show (pl++[_]).length=(defs++[_]).length;simp only [Zf,Zi,List.length_nil];omega
  ·rcases List.mem_append.1 hx with hx|hx
   ·exact hpl.2 x hx
   ·rw [Zp] at hx;subst hx;exact ⟨hP.lo,hlt.2⟩
  ·simp only [Zf,Zi,List.length_nil];omega
theorem nC (l:List Tok) (s:St6):(nD l s).at_=s.at_∧(nD l s).sites=s.sites∧((nD l s).e=0→nD l s=s):=by
 unfold nD;split
 ·obtain ⟨h1,h2⟩:=Cy s 2;exact ⟨h1,h2,fun h=>absurd h (C4 (by decide))⟩
 ·exact ⟨rfl,rfl,fun _=>rfl⟩
structure Modd (l:List Tok) (name:List UInt8) (m:Mod6):Prop where
 name:m.name=name
 short:∀ x∈m.imps,x.length≤1000000
 ilen:m.imps.length≤l.length+1
 dlen:m.defs.length≤200
 fit:∀ d∈m.defs,FitD d
 ok:∀ d∈m.defs,d.t≠[]∧Xz d.t=true∧d.e≠[]
 slen:m.sites.length≤l.length
 cnt:∀ z,E0 z m.defs=if 1≤z∧z<(m.sites.length:Int)+1 then 1 else 0
theorem rG {l:List Tok} (hT:Toks l) (name:List UInt8):Pos l (Y2 l name).2.1∧(Y2 l name).1.defs.length≤200∧(∀ d∈(Y2 l name).1.defs,FitD d) ∧
  ((Y2 l name).2.1.e=0→Modd l name (Y2 l name).1∧(Y2 l name).2.2.length=(Y2 l name).1.defs.length∧∀ x∈(Y2 l name).2.2,0≤x∧x<l.length):=by
 have hI:=Ztf hT (l.length+1) ⟨0,[],0⟩ [] ⟨by simp,by simp⟩ rfl (fun _=>by simp) (by simp) (fun x hx=>by cases hx)
 unfold Y2;simp only;obtain ⟨a,ha⟩:=exq (Znv l (l.length+1) ⟨0,[],0⟩ []);rw [ha] at hI ⊢;split
 ·rename_i h1;exact ⟨hI.pos,by simp,fun d hd=>(by cases hd),fun he=>absurd he (hI.stop h1)⟩
 have hD:=Ztu hT (s0:=a.2.2) 201 a.2.2 [] [] ⟨(Adv.refl hI.pos).weak (by omega) (by omega),fun h=>by simp at h,fun _ z=>(by show 0=if (a.2.2.sites.length:Int)+1≤z∧z<(a.2.2.sites.length:Int)+1 then 1 else 0;rw [if_neg (by omega)]),fun d hd=>(by cases hd),fun _ d hd=>(by cases hd),by simp,fun _=>⟨rfl,fun x hx=>(by cases hx)⟩⟩ (by simp)
 obtain ⟨b,hb⟩:=exq (vP l 201 a.2.2 [] []);rw [hb] at hD ⊢;split
 ·rename_i h1;exact ⟨hD.adv.pos,hD.len,hD.fit,fun he=>absurd he (hD.stop h1)⟩
 rename_i h1;have h1:b.1=false:=by simpa using h1
 obtain ⟨k1,k2,k3⟩:=nC l b.2.2.2;refine ⟨⟨by rw [k1];exact hD.adv.lo,by rw [k1];exact hD.adv.hi⟩,hD.len,hD.fit,fun he=>?_⟩
 have hke:=k3 he;simp only at he;rw [hke] at he ⊢;have hc:=hD.cnt he;have hs:=hI.sites;have hroom:=hD.adv.room (hD.adv.ok0 he);have hlo:=hI.pos.lo;refine ⟨⟨rfl,hI.short,hI.len,hD.len,hD.fit,hD.ok he,?_,fun z=>?_⟩,(hD.pl h1).1,(hD.pl h1).2⟩
 ·show b.2.2.2.sites.length≤l.length;rw [hs] at hroom;simp only [List.length_nil] at hroom;omega
 ·have:=hc z;rw [hs] at this;simpa using this
end Go.Am.Ty
