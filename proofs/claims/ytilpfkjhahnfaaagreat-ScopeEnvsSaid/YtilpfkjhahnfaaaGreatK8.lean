/- Contracts of functions that the law reaches, and plain laws. Conditions: those that each contract states. -/
import Derived.Test.YtilpfkjhahnfaaaGreatK7
set_option maxHeartbeats 4000000
set_option linter.unusedVariables false
set_option linter.unusedSimpArgs false
set_option maxRecDepth 100000
namespace Go.Am.Ty
open Go.Proofs
open Enc (enc dec)
def eO {A B C E R S:Type} [Enc A] [Enc B] [Enc C] [Enc E] [Enc R] [Enc S] (p:A→B→C→E→Prop) (f:A→B→C→E→R×S):Con:=⟨[false,false,false,false],[false,false],fun c=>match c with
 | [.d x,.d y,.d z,.d w]=>Up A x∧Up B y∧Up C z∧Up E w∧p (dec x) (dec y) (dec z) (dec w)
 | _=>False,fun c=>match c with
 | [.d x,.d y,.d z,.d w]=>.tup [.d (enc (f (dec x) (dec y) (dec z) (dec w)).1),.d (enc (f (dec x) (dec y) (dec z) (dec w)).2)]
 | _=>.d .nilp⟩
theorem Zlt {A B C E R S:Type} [Enc A] [Enc B] [Enc C] [Enc E] [Enc R] [Enc S] {p:A→B→C→E→Prop} {f:A→B→C→E→R×S} {c:List CV} (h:(eO p f).pre c):∃ a b d e,c=[.d (enc a),.d (enc b),.d (enc d),.d (enc e)]∧p a b d e:=by
 unfold eO at h;simp only at h;split at h
 ·next x y z w=>exact ⟨dec x,dec y,dec z,dec w,by rw [←h.1,←h.2.1,←h.2.2.1,←h.2.2.2.1],h.2.2.2.2⟩
 ·exact h.elim
def X4 (l:List Tok) (s:St6) (k:Int) (had:List (List UInt8)):List UInt8×St6 :=
 if (Q7 l s k).2.e≠0 then Q7 l s k
 else if Zke had (Q7 l s k).1=true then ((Q7 l s k).1,⟨s.at_,s.sites,7⟩)
 else if 50≤had.length then ((Q7 l s k).1,⟨s.at_,s.sites,3⟩)
 else Q7 l s k
def Lw:Con:=eO (fun (l:Sl Tok) (s:St6) (_:Int) (had:Sl (List UInt8))=>(l.l.length≤1000000∧0≤s.at_∧s.at_≤2000000)∧had.l.length≤1000000) (fun l s k had=>X4 l.l s k had.l)
theorem dO:Qr Tryz.prog (253,Lw):=by
 obtain ⟨Kx,Kt,Kc,Kd,Kb,Ku,Kw,K,Yj,Kv,P4,_⟩:=Wi Z3 Zn [] false (Ja Y5 Ha (Ja good_in6 Rh.eq_def (Ja Uq Pa Wg)));have Ko:=Lw.eq_def;refine Wh K Tryz.func253 [.tmp 8,.cell 9 137] rfl 38 rfl (fun c hc cvs hpre=>?_);unfold Lw at hpre;obtain ⟨⟨l⟩,⟨i,ss,e⟩,kd,⟨had⟩,rfl,⟨hl,hs0,hs1⟩,hh⟩:=Zlt hpre;simp only at hl hs0 hs1 hh;clear hpre;obtain ⟨⟨Rx,⟨Ra,Rs,Re⟩⟩,Z2⟩:=exq (X4 l ⟨i,ss,e⟩ kd had);have hR2:=Z2;unfold X4 at hR2;have hcz:=Uw l ⟨i,ss,e⟩ kd;obtain ⟨⟨x,q⟩,Qh⟩:=exq (Q7 l ⟨i,ss,e⟩ kd);rw [Qh] at hR2 hcz;obtain ⟨qa,qs,qe⟩:=q;simp only at hR2;have he0:qe=0→e=0:=fun h=>by
  rcases hcz with ⟨h1,h2⟩|⟨h1,_⟩|⟨h1,_⟩|⟨h1,_⟩
  ·simp only [Zb,St6.mk.injEq] at h2;rw [←h2.2.2.2];exact h
  ·exact h1
  ·exact h1
  ·exact h1
 clear hcz;cases hc;refine Ys 2 ?_;by_cases hq:qe=0
 case neg =>
  rw [if_pos hq] at hR2;have Qi:(qe != 0)=true:=bne_iff_ne.2 hq;simp only [Zb,St6.mk.injEq] at hR2;obtain ⟨rfl,rfl,rfl,rfl⟩:=hR2;have Q0:=@eO.eq_def;have Q2:=@Qx;have Qz:=@Jd;have Zv:=@Je;exact L9
 have Qi:(qe != 0)=false:=by rw [hq];rfl
 have he:=he0 hq;subst he;rw [if_neg (by simpa using hq)] at hR2
 have Z5:Jp ⟨i,ss,0⟩ 7=⟨i,ss,7⟩:=rfl;have Qu:Jp ⟨i,ss,0⟩ 3=⟨i,ss,3⟩:=rfl;cases Qd:Zke had x with
 | true =>
  rw [Qd,if_pos rfl] at hR2;simp only [Zb,St6.mk.injEq] at hR2;obtain ⟨rfl,rfl,rfl,rfl⟩:=hR2;have Q0:=@eO.eq_def;have Q2:=@Qx;have Qz:=@Jd;have Zv:=@Je;exact L9
 | false =>
  rw [Qd,if_neg (by simp)] at hR2
  by_cases h50:50≤had.length
  ·rw [if_pos h50] at hR2;have Z9:Xu 50 (had.length:Int)=true:=by rw [Qp];omega
   simp only [Zb,St6.mk.injEq] at hR2;obtain ⟨rfl,rfl,rfl,rfl⟩:=hR2;have Q0:=@eO.eq_def;have Q2:=@Qx;have Qz:=@Jd;have Zv:=@Je;exact L9
  ·rw [if_neg h50] at hR2;have Z9:Xu 50 (had.length:Int)=false:=by rw [←Bool.not_eq_true,Qp];omega
   simp only [Zb,St6.mk.injEq] at hR2;obtain ⟨rfl,rfl,rfl,rfl⟩:=hR2;have Q0:=@eO.eq_def;have Q2:=@Qx;have Qz:=@Jd;have Zv:=@Je;exact L9
def Zqi (t:Tok):Bool :=
 if t.kind=1∨t.kind=3∨t.kind=4 then true
 else if t.kind=6 then (t.text==[116,114,117,101])||(t.text==[102,97,108,115,101])
 else if t.kind=5 then (t.text==[40])||((t.text==[123])||(t.text==[91]))
 else false
def G7 (l:List Tok) (s:St6):Bool:=if s.e≠0∨(l.length:Int)≤s.at_ then false else Zqi (tk l s.at_)
def Pv:Con:=Wc (fun (l:Sl Tok) (s:St6)=>l.l.length≤1000000∧0≤s.at_) (fun l s=>G7 l.l s)
structure w524k:Prop
theorem w524k.k (_:w524k) {p:Prop} (h:p:=by
 repeat' first|exact Qg|with_reducible apply And.intro|intro _
 all_goals first|with_reducible exact Jf|omega|(rw [←hR2];clear hR2 Qi K Qd ht;simp_all;done)|(symm;rw [←hR2];clear hR2 Qi K Qd ht;simp_all;done)|(rename_i h1 h2;rw [←hR2,if_neg (by omega),if_neg (by omega),if_pos (by assumption),beq_eq_false_iff_ne.2 h1,beq_eq_false_iff_ne.2 h2];rfl)|trivial|skip):p:=h
theorem good_begins6:Qr Tryz.prog (261,Pv):=by
 obtain ⟨Kx,Kt,Kc,Kd,Kb,Ku,Kw,K,_⟩:=Wi Z3 Zn [] false Wg;have Ko:=Pv.eq_def;refine Wh K Tryz.func261 [.tmp 4] rfl 52 rfl (fun c hc cvs hpre=>?_);unfold Pv at hpre;obtain ⟨⟨l⟩,⟨i,ss,e⟩,rfl,hl,hs0⟩:=Jr hpre;simp only at hl hs0;clear hpre;obtain ⟨i,rfl⟩:∃ n:Nat,i=n:=⟨i.toNat,by omega⟩
 obtain ⟨R,Qi⟩:=exq (G7 l ⟨i,ss,e⟩);have hR2:=Qi;unfold G7 at hR2;simp only [Kh] at hR2;cases hc;refine Ys 3 ?_;by_cases he:e=0
 case neg =>
  rw [if_pos (.inl he)] at hR2;have Qh:(e != 0)=true:=bne_iff_ne.2 he;subst hR2;have Z5:=@Qx;have Z9:=@Jd;have Qu:=@Je;exact Zko
 have Qh:(e != 0)=false:=by rw [he];rfl
 by_cases hlt:(l.length:Int)≤(i:Int)
 ·rw [if_pos (.inr hlt)] at hR2;have Z2:Xu (l.length:Int) (i:Int)=true:=by rw [Qp];exact hlt
  subst hR2;have Z5:=@Qx;have Z9:=@Jd;have Qu:=@Je;exact Zko
 rw [if_neg (by simp only [he];simp;omega)] at hR2
 have Z2:Xu (l.length:Int) (i:Int)=false:=by rw [←Bool.not_eq_true,Qp];exact hlt
 have Qd:=Zo Yy (show i<l.length by omega)
 obtain ⟨t,ht⟩:=exq (l.getD i Yy);rw [ht] at Qd hR2;unfold Zqi at hR2;have Z5:=@Qx;have Z9:=@Jd;have Qu:=@Je;have Kq:w524k:=⟨⟩;exact eY
def Cn (b:Int):List (List UInt8):=if b=0 then [[124,124]] else if b=1 then [[38,38]] else if b=2 then [[60],[61,61]] else if b=3 then [[43],[45],[43,43]] else [[42],[47]]
def Db:Con:=Xy (fun (_:Int)=>True) (fun b=>Sl.mk (Cn b))
structure w525k:Prop
theorem w525k.k (_:w525k) {p:Prop} (h:p:=by
 repeat' first|exact Qg|with_reducible apply And.intro|intro _
 all_goals first|with_reducible exact Jf|(rw [←hR2];simp_all;done)|(rw [←hR2];simp_all;rfl)|(rw [←hR2,if_pos (by assumption)];rfl)|(rw [←hR2,if_neg (by assumption),if_pos (by assumption)];rfl)|(rw [←hR2,if_neg (by assumption),if_neg (by assumption),if_pos (by assumption)];rfl)|(rw [←hR2,if_neg (by assumption),if_neg (by assumption),if_neg (by assumption),if_pos (by assumption)];rfl)|(rw [←hR2,if_neg (by assumption),if_neg (by assumption),if_neg (by assumption),if_neg (by assumption)];rfl)|skip):p:=h
theorem good_signs6:Qr Tryz.prog (255,Db):=by
 obtain ⟨Kx,Kt,Kc,Kd,Kb,Ku,Kw,K,_⟩:=Wi Z3 Zn [] false Wg;have Ko:=Db.eq_def;refine Wh K Tryz.func255 [.tmp 2] rfl 17 rfl (fun c hc cvs hpre=>?_);unfold Db at hpre;obtain ⟨b,rfl,-⟩:=J4 hpre;clear hpre;obtain ⟨R,Qh⟩:=exq (Cn b);have hR2:=Qh;unfold Cn at hR2;cases hc;have Kq:w525k:=⟨⟩;exact eY
def Zmy:List UInt8→Int→Int
 | [],n=>n
 | c::r,n=>Zmy r (10*n+((c.toNat:Int)-48))
def Oe (s:List UInt8):Int:=Zmy s 0
theorem Zog {c:UInt8} (h:Xo c=true):48≤c.toNat∧c.toNat≤57:=by
 unfold Xo Xs at h;simp only [Zg,decide_eq_true_eq,UInt8.le_iff_toNat_le] at h;exact h
def Sw:Con:=Xy (fun (s:List UInt8)=>Zov s) (fun s=>Oe s)
structure w527k:Prop
theorem w527k.k (_:w527k) {p:Prop} (h:p:=by
 repeat' first|exact Qg|with_reducible apply And.intro|intro _
 all_goals first|with_reducible exact Jf|omega|(rw [Zbf];omega)|(rw [Xb];omega)|exact ⟨(k+1,10*n+((d.toNat:Int)-48)),by exact Qy,by simp only;omega,by simp only;omega,hb,h4,by simp only;omega⟩|skip):p:=h
structure w526k:Prop
theorem w526k.k (_:w526k) {p:Prop} (h:p:=by
 repeat' first|exact Qg|with_reducible apply And.intro|intro _
 refine Zh [5,6,7,8,9,10,11,12,13,14,15,16,17,18] (fun p:Nat×Int=>[(3,.d (.int .i64 p.2)),(4,.d (.int .i64 p.1))]) (fun p:Nat×Int=>[]) (fun p:Nat×Int=>p.1≤s.length∧0≤p.2∧p.2<10 ^ p.1∧Zmy (s.drop p.1) p.2=R) (fun p:Nat×Int=>s.length-p.1) (0,0) ?_ ?_ ?_
 ·exact ⟨by simp,by simp,by simp,hR2⟩
 ·exact Qy
 rintro ⟨k,n⟩ ⟨h1,h2,h3,h4⟩;simp only at h1 h2 h3 h4;rcases Zl k s.length with ⟨hlt,Qh⟩|⟨hlt,Qh⟩
 ·rw [Mq hlt,Zmy] at h4;have hc48:=Zog (hf (s.getD k 0) (by simp [hlt]))
  obtain ⟨d,Qi⟩:=exq (s.getD k 0);rw [Qi] at h4 hc48;have hp:(10:Int) ^ (k+1)=10*10 ^ k:=by rw [Int.pow_succ];omega
  have hp2:(10:Int) ^ (k+1)≤1000000000000000000:=by
   have Z5:(10:Nat) ^ (k+1)≤10 ^ 18:=Nat.pow_le_pow_right (by omega) (by omega)
   have h6:((10 ^ (k+1):Nat):Int)≤((10 ^ 18:Nat):Int):=by exact_mod_cast Z5
   simpa using h6
  have hb:10*n+((d.toNat:Int)-48)<10 ^ (k+1):=by rw [hp];omega
  have hn10:10*n≤1000000000000000000:=by omega
  have Kq:w527k:=⟨⟩;exact eY
 ·have hke:s.drop k=[]:=List.drop_eq_nil_of_le hlt;rw [hke] at h4;have Z5:n=R:=h4;exact Zko):p:=h
theorem good_number6:Qr Tryz.prog (270,Sw):=by
 obtain ⟨Kx,Kt,Kc,Kd,Kb,Ku,Kw,K,_⟩:=Wi Z3 Zn [] false Wg;have Ko:=Sw.eq_def;refine Wh K Tryz.func270 [.tmp 2] rfl 20 rfl (fun c hc cvs hpre=>?_);unfold Sw at hpre;obtain ⟨s,rfl,hs,hf⟩:=J4 hpre;clear hpre;obtain ⟨R,Qd⟩:=exq (Oe s);have hR2:=Qd;unfold Oe at hR2;have Z2:((48:UInt8).toNat:Int)=48:=rfl;cases hc;have Kq:w526k:=⟨⟩;exact eY
def Fh {A B C R S T:Type} [Enc A] [Enc B] [Enc C] [Enc R] [Enc S] [Enc T] (p:A→B→C→Prop) (f:A→B→C→R×S×T):Con:=⟨[false,false,false],[false,false,false],fun c=>match c with
 | [.d x,.d y,.d z]=>Up A x∧Up B y∧Up C z∧p (dec x) (dec y) (dec z)
 | _=>False,fun c=>match c with
 | [.d x,.d y,.d z]=>.tup [.d (enc (f (dec x) (dec y) (dec z)).1),.d (enc (f (dec x) (dec y) (dec z)).2.1),.d (enc (f (dec x) (dec y) (dec z)).2.2)]
 | _=>.d .nilp⟩
theorem Zj2 {A B C R S T:Type} [Enc A] [Enc B] [Enc C] [Enc R] [Enc S] [Enc T] {p:A→B→C→Prop} {f:A→B→C→R×S×T} {c:List CV} (h:(Fh p f).pre c):∃ a b d,c=[.d (enc a),.d (enc b),.d (enc d)]∧p a b d:=by
 unfold Fh at h;simp only at h;split at h
 ·next x y z=>exact ⟨dec x,dec y,dec z,by rw [←h.1,←h.2.1,←h.2.2.1],h.2.2.2⟩
 ·exact h.elim
def Nr (l:List Tok) (s:St6) (v:Int):List UInt8×List Node×St6:=((Q7 l s 1).1,(Uv l (Q7 l s 1).2 v).1,(Uv l (Q7 l s 1).2 v).2)
theorem Zi7 {l:List Tok} {s:St6} (h:St6Ok l s) (k:Int):St6Ok l (Q7 l s k).2∧((Q7 l s k).2.e=0→s.e=0∧(Q7 l s k).2.at_=s.at_+1∧(Q7 l s k).2.sites=s.sites):=by
 rcases Uw l s k with ⟨h1,h2⟩|⟨h1,_,h2⟩|⟨h1,_,_,h2⟩|⟨h1,h3,_,h2⟩
 ·rw [h2];exact ⟨h,fun e=>absurd e h1⟩
 ·rw [h2];exact ⟨⟨h.len,h.lo,h.hi,h.sites,h.txt,h.fig⟩,fun e=>absurd e (by show ¬ (2:Int)=0;decide)⟩
 ·rw [h2];exact ⟨⟨h.len,h.lo,h.hi,h.sites,h.txt,h.fig⟩,fun e=>absurd e (by show ¬ (2:Int)=0;decide)⟩
 ·rw [h2];have:=h.lo;exact ⟨⟨h.len,by show 0≤s.at_+1;omega,by show s.at_+1≤_;omega,h.sites,h.txt,h.fig⟩,fun _=>⟨h1,rfl,rfl⟩⟩
def Mw:Con:=Fh (fun (l:Sl Tok) (s:St6) (v:Int)=>St6Ok l.l s∧(s.e=0→1≤v∧v≤100)) (fun l s v=>(((Nr l.l s v).1,⟨(Nr l.l s v).2.1⟩,(Nr l.l s v).2.2):List UInt8×Sl Node×St6))
theorem E1:Qr Tryz.prog (250,Mw):=by
 obtain ⟨Kx,Kt,Kc,Kd,Kb,Ku,Kw,K,Yj,Kv,_⟩:=Wi Z3 Zn [] false (Ja Y5 Ha (Ja St Np.eq_def Wg));have Ko:=Mw.eq_def;refine Wh K Tryz.func250 [.tmp 6,.tmp 7,.cell 8 137] rfl 27 rfl (fun c hc cvs hpre=>?_);unfold Mw at hpre;obtain ⟨⟨l⟩,⟨i,ss,e⟩,v,rfl,hS,hv⟩:=Zj2 hpre;simp only at hS hv;clear hpre;have hlen:=hS.len;have hlo:=hS.lo;have hhi:=hS.hi;simp only at hlo hhi;obtain ⟨⟨Rx,Rt,⟨Ra,Rs,Re⟩⟩,Z2⟩:=exq (Nr l ⟨i,ss,e⟩ v);have hR2:=Z2;unfold Nr at hR2;obtain ⟨hok,hgo⟩:=Zi7 hS 1;obtain ⟨⟨x,⟨qa,qs,qe⟩⟩,Qh⟩:=exq (Q7 l ⟨i,ss,e⟩ 1);rw [Qh] at hR2 hok hgo;simp only at hR2 hok hgo;have hvv:qe=0→1≤qa∧1≤v∧v≤100:=fun h=>by
  obtain ⟨g1,g2,_⟩:=hgo h;have:=hv g1;omega
 obtain ⟨⟨t,⟨ma,ms,me⟩⟩,Qi⟩:=exq (Uv l ⟨qa,qs,qe⟩ v);rw [Qi] at hR2;simp only [Zb,St6.mk.injEq] at hR2;obtain ⟨rfl,rfl,rfl,rfl,rfl⟩:=hR2;cases hc;have Qd:=@Fh.eq_def;have Z5:=@Qx;have Z9:=@Jd;have Qu:=@Je;exact L9
abbrev Zni:=St6→List Part×St6
section
variable (ex:Zni) (l:List Tok) (v:Int)
def Zjn (s:St6):List Part×St6 :=
 let b:=Nr l (Qb l s 5 [40]) v
 let r:=ex (Qb l (Qb l b.2.2 5 [41]) 5 [45,62])
 (Xr ⟨2,[],[],b.1,0,0,b.2.1,[]⟩ [⟨r.1⟩],r.2)
def Zjh (s:St6):List Part×St6 :=
 let b:=Nr l s v
 let a:=ex (Qb l b.2.2 5 [61])
 let c:=ex (Qb l a.2 6 [105,110])
 (Xr ⟨4,[],[],b.1,0,0,b.2.1,[]⟩ [⟨a.1⟩,⟨c.1⟩],c.2)
def Zit (s:St6):List Part×St6 :=
 let f:=Q7 l s 1
 let b:=Nr l (Qb l f.2 5 [40]) v
 let u:=Uv l (Qb l b.2.2 5 [41]) v
 let a:=ex (Qb l u.2 5 [61])
 let c:=ex (Qb l a.2 6 [105,110])
 (Xr ⟨5,[],f.1,b.1,0,0,b.2.1,u.1⟩ [⟨a.1⟩,⟨c.1⟩],c.2)
def zU (s:St6):List Part×St6 :=
 let a:=ex s
 let b:=ex (Qb l a.2 6 [116,104,101,110])
 let c:=ex (Qb l b.2 6 [101,108,115,101])
 (Xr ⟨6,[],[],[],0,0,[],[]⟩ [⟨a.1⟩,⟨b.1⟩,⟨c.1⟩],c.2)
def U6 (s:St6) (had:List (List UInt8)):List UInt8×List UInt8×(List Part×St6) :=
 let tag:=X4 l s 2 had
 let x:=Q7 l tag.2 1
 (tag.1,x.1,ex (Qb l x.2 5 [45,62]))
def cL:Nat→St6→List (List UInt8)→List Part→List Part×St6
 | 0,s,_,_=>([],s)
 | f+1,s,had,body =>
  let b:=U6 ex l s had
  if b.2.2.2.e≠0 then ([],b.2.2.2)
  else if T0 l b.2.2.2 5 [124]=false then (⟨7,[],[],[],(had.length:Int)+1,0,[],[]⟩::(body++Xr ⟨8,b.1,[],b.2.1,0,0,[],[]⟩ [⟨b.2.2.1⟩]),Qb l b.2.2.2 6 [101,110,100])
  else cL f (Xh b.2.2.2) (had++[b.1]) (body++Xr ⟨8,b.1,[],b.2.1,0,0,[],[]⟩ [⟨b.2.2.1⟩])
def iS (s:St6):List Part×St6 :=
 let a:=ex s
 cL ex l 51 (Qb l a.2 6 [111,102]) [] a.1
def Zbd (x:List UInt8):List Part→List Part
 | []=>[]
 | p::r=>⟨p.kind,x,p.name,p.bind,p.many,p.num,p.t,p.u⟩::r
def bP:Nat→St6→List (List UInt8)→List Part→List Part×St6
 | 0,s,_,_=>([],s)
 | f+1,s,had,body =>
  let x:=X4 l s 1 had
  let r:=ex (Qb l x.2 5 [61])
  if r.2.e≠0 then ([],r.2)
  else if T0 l r.2 5 [44]=false then (⟨10,[],[],[],(had.length:Int)+1,0,[],[]⟩::(body++Zbd x.1 r.1),Qb l r.2 5 [125])
  else bP f (Xh r.2) (had++[x.1]) (body++Zbd x.1 r.1)
def yY (s:St6):List Part×St6 :=
 if T0 l s 5 [125]=true then ([⟨10,[],[],[],0,0,[],[]⟩],Xh s)
 else bP ex l 51 s [] []
def Fx (s:St6):List Part×St6 :=
 let x:=Q7 l s 2
 let r:=ex (Qb l x.2 5 [61])
 let t:=Uv l r.2 v
 (Xr ⟨12,[],x.1,[],0,0,t.1,[]⟩ [⟨r.1⟩],Qb l t.2 5 [93])
def bT (s:St6):List Part×St6 :=
 if T0 l s 5 [41]=true then ([⟨0,[],[],[],0,0,[⟨4,[],0⟩],[]⟩],Xh s)
 else
  let r:=ex s
  if T0 l r.2 5 [58]=true then
   let t:=Cf l (Xh r.2) v
   (Xr ⟨13,[],[],[],0,0,t.1,[]⟩ [⟨r.1⟩],Qb l t.2 5 [41])
  else (r.1,Qb l r.2 5 [41])
def jY (s:St6):List Part×St6 :=
 if s.e≠0∨G7 l s=false then ([],Jp s 2)
 else
  let t:=tk l s.at_
  if t.kind=3 then ([⟨0,[],[],[],0,Oe t.text,[⟨1,[],0⟩],[]⟩],Xh s)
  else if t.kind=4 then ([⟨0,[],t.text,[],0,0,[⟨3,[],0⟩],[]⟩],Xh s)
  else if t.kind=6 then ([⟨0,[],[],[],0,(if t.text=[116,114,117,101] then 1 else 0),[⟨2,[],0⟩],[]⟩],Xh s)
  else if t.kind=1 then
   (if T0 l (Xh s) 5 [33]=false then ([⟨1,[],t.text,[],0,0,[],[]⟩],Xh s)
    else ([⟨1,[],t.text++[33]++(Q7 l (Xh (Xh s)) 1).1,[],0,0,[],[]⟩],(Q7 l (Xh (Xh s)) 1).2))
  else if t.text=[40] then bT ex l v (Xh s)
  else if t.text=[123] then yY ex l (Xh s)
  else Fx ex l v (Xh s)
def I8:Nat→List Part×St6→List Part×St6
 | 0,r=>r
 | f+1,r=>if T0 l r.2 5 [46]=false then r else
  let x:=Q7 l (Xh r.2) 1
  I8 f (Xr ⟨11,[],x.1,[],0,0,[],[]⟩ [⟨r.1⟩],x.2)
def dB (s:St6):List Part×St6:=I8 l (l.length+1) (jY ex l v s)
def N7:Nat→List Part×St6→List Part×St6
 | 0,r=>r
 | f+1,r=>if G7 l r.2=false then r else
  let x:=dB ex l v r.2
  N7 f (Xr ⟨3,[],[],[],0,0,[],[]⟩ [⟨r.1⟩,⟨x.1⟩],x.2)
def Tu (s:St6):List Part×St6:=N7 ex l v (l.length+1) (dB ex l v s)
def Sc (b:Int) (s:St6):Bool:=(s.e==0)&&(Yr s.at_ l.length&&((tk l s.at_).kind==5&&Zke (Cn b) (tk l s.at_).text))
def Za7 (b:Int) (sub:Zni):Nat→List Part×St6→List Part×St6
 | 0,r=>r
 | f+1,r=>if Sc l b r.2=false then r else
  let x:=sub (Xh r.2)
  Za7 b sub f (Xr ⟨9,[],(tk l r.2.at_).text,[],0,0,[],[]⟩ [⟨r.1⟩,⟨x.1⟩],x.2)
def xY:Nat→Zni
 | 0=>Tu ex l v
 | m+1=>fun s=>Za7 l (4-(m:Int)) (xY m) (l.length+1) (xY m s)
def Zed (s:St6):List Part×St6 :=
 if s.e≠0 then ([],s)
 else if s.at_<l.length∧(tk l s.at_).kind=6 then
  (if (tk l s.at_).text=[102,117,110] then Zjn ex l v (Xh s)
   else if (tk l s.at_).text=[108,101,116] then Zjh ex l v (Xh s)
   else if (tk l s.at_).text=[114,101,99] then Zit ex l v (Xh s)
   else if (tk l s.at_).text=[105,102] then zU ex l (Xh s)
   else if (tk l s.at_).text=[99,97,115,101] then iS ex l (Xh s)
   else xY ex l v 5 s)
 else xY ex l v 5 s
end
def Jm (l:List Tok):Nat→Zni
 | 0=>fun s=>([],Jp s 4)
 | d+1=>Zed (Jm l d) l (100-(d:Int))
def Zam (t:Tok):Prop:=t.text.length≤1000000∧(t.kind=3→Zov t.text)
theorem Zmx {s:List UInt8} (hs:s.length≤100000) {i:Nat} (hi:i<s.length) (h:(Oc s i).2=true):Zam (Oc s i).1:=by
 unfold Oc at h ⊢;have hw:=Iu (s.drop i);rw [List.length_drop] at hw;have hpl:(Ue s i).length=Ua (s.drop i):=by unfold Ue;rw [List.length_drop,List.length_take];omega
 split at h
 ·rename_i a;rw [if_pos a];have hU:=Zas (s:=s.drop i) (by simpa using h)
  rw [List.length_drop] at hU;exact ⟨by show (D9 (s.drop i)).1.length≤_;omega,fun e=>absurd e (by show ¬ (4:Int)=3;decide)⟩
 rename_i a;rw [if_neg a];split at h
 ·rename_i a;rw [if_pos a];exact ⟨by show (Ue s i).length≤_;omega,fun e=>absurd e (by show ¬ (2:Int)=3;decide)⟩
 rename_i a;rw [if_neg a];split at h
 ·rename_i a;rw [if_pos a];exact ⟨by show (Ue s i).length≤_;omega,fun e=>absurd e (by show ¬ (6:Int)=3;decide)⟩
 rename_i a;rw [if_neg a];split at h
 ·rename_i a;rw [if_pos a];exact ⟨by show (Ue s i).length≤_;omega,fun e=>absurd e (by show ¬ (1:Int)=3;decide)⟩
 rename_i a;rw [if_neg a];split at h
 ·rename_i a;rw [if_pos a];split at h
  ·rename_i b;rw [if_pos b];simp only [Qp] at h;exact ⟨by show (Ue s i).length≤_;omega,fun _=>⟨by show (Ue s i).length≤18;omega,fun c hc=>List.all_eq_true.1 b c hc⟩⟩
  ·cases h
 ·rename_i a;rw [if_neg a];have:=fI (s:=s) (i:=i);exact ⟨by show (Ba s i).length≤_;omega,fun e=>absurd e (by show ¬ (5:Int)=3;decide)⟩
theorem bF {s:List UInt8} (hs:s.length≤100000):∀ (f i:Nat) (out:List Tok),(∀ t∈out,Zam t)→i≤s.length→out.length≤i→(∀ t∈(S3 f s i out).1,Zam t)∧(S3 f s i out).1.length≤s.length+1∧((S3 f s i out).2.2=0→1≤(S3 f s i out).1.length)
 | 0,i,out,_,_,_=>⟨fun t ht=>(by cases ht),by simp [S3],fun h=>absurd h (by show ¬ (2:Int)=0;decide)⟩
 | f+1,i,out,h,hi,hl=>by
  rw [S3];split
  ·refine ⟨fun t ht=>?_,by simp only [Zj,Zi,List.length_nil];omega,fun _=>by simp⟩
   rcases List.mem_append.1 ht with ht|ht
   ·exact h t ht
   ·rw [Zr] at ht;subst ht;exact ⟨by simp,fun e=>absurd e (by show ¬ (0:Int)=3;decide)⟩
  ·rename_i hlt;split
   ·exact ⟨fun t ht=>(by cases ht),by simp,fun h=>absurd h (by show ¬ (2:Int)=0;decide)⟩
   ·rename_i hok;have hok':(Oc s i).2=true:=by simpa using hok
    obtain ⟨n,hn,hn1,hn2⟩:=Zhd (show i<s.length by omega) hok'
    have hb:=Fi (s:=s) (i:=n) hn2;have hto:=Zmx hs (show i<s.length by omega) hok'
    rw [hn,Ze];refine bF hs f _ _ (fun t ht=>?_) hb.2 (by simp only [Zj,Zi,List.length_nil];omega)
    rcases List.mem_append.1 ht with ht|ht
    ·exact h t ht
    ·rw [Zr] at ht;subst ht;exact hto
theorem Zcg (s:List UInt8):(∀ t∈(N5 s).1,Zam t)∧(N5 s).1.length≤100001∧((N5 s).2.2=0→1≤(N5 s).1.length):=by
 unfold N5;split
 ·exact ⟨fun t ht=>(by cases ht),by simp,fun h=>absurd h (by show ¬ (3:Int)=0;decide)⟩
 ·rename_i h;have hb:=Fi (s:=s) (i:=0) (by omega)
  obtain ⟨h1,h2,h3⟩:=bF (s:=s) (by omega) (s.length+1) (D8 s 0) [] (fun t ht=>by cases ht) hb.2 (by simp)
  exact ⟨h1,by omega,h3⟩
structure Adv (l:List Tok) (m q:Int) (s r:St6):Prop where
 err:s.e≠0→r=s
 lo:0≤r.at_
 hi:r.at_≤l.length
 mono:r.e=0→s.at_≤r.at_
 room:s.e=0→(r.sites.length:Int)≤s.sites.length+(l.length-s.at_)+q
 gain:r.e=0→s.sites.length≤r.sites.length∧(r.sites.length:Int)-s.sites.length+m≤r.at_-s.at_
structure Pos (l:List Tok) (s:St6):Prop where
 lo:0≤s.at_
 hi:s.at_≤l.length
theorem Adv.pos {l:List Tok} {m q:Int} {s r:St6} (h:Adv l m q s r):Pos l r:=⟨h.lo,h.hi⟩
theorem Adv.ok0 {l:List Tok} {m q:Int} {s r:St6} (h:Adv l m q s r) (he:r.e=0):s.e=0:=Classical.byContradiction fun hn=>by
 have:=h.err hn;rw [this] at he;exact hn he
theorem Adv.refl {l:List Tok} {s:St6} (h:Pos l s):Adv l 0 0 s s:=⟨fun _=>rfl,h.lo,h.hi,fun _=>Int.le_refl _,fun _=>by have:=h.hi;omega,fun _=>⟨Zm _,by omega⟩⟩
theorem Adv.trans {l:List Tok} {m1 q1 m2 q2 m q:Int} {a b c:St6} (h1:Adv l m1 q1 a b) (h2:Adv l m2 q2 b c) (hm:m≤m1+m2) (hq1:q1≤q) (hq2:q2-m1≤q):Adv l m q a c:=by
 refine ⟨fun he=>?_,h2.lo,h2.hi,fun he=>?_,fun he=>?_,fun he=>?_⟩
 ·have e1:=h1.err he;subst e1;exact h2.err he
 ·have:=h1.mono (h2.ok0 he);have:=h2.mono he;omega
 ·have hr:=h1.room he;by_cases hb:b.e=0
  ·have h3:=h2.room hb;have h4:=(h1.gain hb).2;omega
  ·have:=h2.err hb;rw [this];omega
 ·obtain ⟨g1,g2⟩:=h1.gain (h2.ok0 he);obtain ⟨g3,g4⟩:=h2.gain he;exact ⟨by omega,by omega⟩
theorem Adv.weak {l:List Tok} {m1 q1 m q:Int} {a b:St6} (h:Adv l m1 q1 a b) (hm:m≤m1) (hq:q1≤q):Adv l m q a b :=
 ⟨h.err,h.lo,h.hi,h.mono,fun he=>by have:=h.room he;omega,fun he=>by obtain ⟨g1,g2⟩:=h.gain he;exact ⟨g1,by omega⟩⟩
theorem Lk {l:List Tok} {s:St6} {k:Int} {x:List UInt8} (h:T0 l s k x=true):s.e=0∧s.at_<l.length:=by
 unfold T0 at h;simp only [Zg,Zp,Jw] at h;exact ⟨h.1,h.2.1⟩
theorem N0 {l:List Tok} {s:St6} (h:Pos l s) (k:Int) (x:List UInt8):Adv l 1 0 s (Qb l s k x):=by
 have h0:=h.lo;have h1:=h.hi;rcases Cx l s k x with ⟨e,h2⟩|⟨e,_,h2⟩|⟨e,hi,h2⟩
 ·rw [h2];exact ⟨fun _=>rfl,h0,h1,fun he=>absurd he e,fun he=>absurd he e,fun he=>absurd he e⟩
 ·rw [h2];exact ⟨fun he=>absurd e he,h0,h1,fun he=>absurd he (by show ¬ (2:Int)=0;decide),fun _=>by show (s.sites.length:Int)≤_;omega,fun he=>absurd he (by show ¬ (2:Int)=0;decide)⟩
 ·have:=(Lk hi).2;rw [h2];exact ⟨fun he=>absurd e he,by show 0≤s.at_+1;omega,by show s.at_+1≤_;omega,fun _=>by show s.at_≤s.at_+1;omega,fun _=>by show (s.sites.length:Int)≤_;omega,fun _=>⟨Zm _,by show (s.sites.length:Int)-s.sites.length+1≤s.at_+1-s.at_;omega⟩⟩
theorem Zby {l:List Tok} {s:St6} (h:Pos l s) (hl:s.at_<l.length):Adv l 1 0 s (Xh s)∨s.e≠0:=by
 by_cases he:s.e=0
 ·left;have h0:=h.lo;exact ⟨fun hn=>absurd he hn,by show 0≤s.at_+1;omega,by show s.at_+1≤_;omega,fun _=>by show s.at_≤s.at_+1;omega,fun _=>by show (s.sites.length:Int)≤_;omega,fun _=>⟨Zm _,by show (s.sites.length:Int)-s.sites.length+1≤s.at_+1-s.at_;omega⟩⟩
 ·exact .inr he
theorem M1 {l:List Tok} {s:St6} (h:Pos l s) (k:Int):Adv l 1 0 s (Q7 l s k).2:=by
 have h0:=h.lo;have h1:=h.hi;rcases Uw l s k with ⟨e,h2⟩|⟨e,_,h2⟩|⟨e,_,_,h2⟩|⟨e,hi,_,h2⟩
 ·rw [h2];exact ⟨fun _=>rfl,h0,h1,fun he=>absurd he e,fun he=>absurd he e,fun he=>absurd he e⟩
 ·rw [h2];exact ⟨fun he=>absurd e he,h0,h1,fun he=>absurd he (by show ¬ (2:Int)=0;decide),fun _=>by show (s.sites.length:Int)≤_;omega,fun he=>absurd he (by show ¬ (2:Int)=0;decide)⟩
 ·rw [h2];exact ⟨fun he=>absurd e he,h0,h1,fun he=>absurd he (by show ¬ (2:Int)=0;decide),fun _=>by show (s.sites.length:Int)≤_;omega,fun he=>absurd he (by show ¬ (2:Int)=0;decide)⟩
 ·rw [h2];exact ⟨fun he=>absurd e he,by show 0≤s.at_+1;omega,by show s.at_+1≤_;omega,fun _=>by show s.at_≤s.at_+1;omega,fun _=>by show (s.sites.length:Int)≤_;omega,fun _=>⟨Zm _,by show (s.sites.length:Int)-s.sites.length+1≤s.at_+1-s.at_;omega⟩⟩
theorem cO {l:List Tok} {s:St6} (h:Pos l s) (k:Int) (had:List (List UInt8)):Adv l 1 0 s (X4 l s k had).2:=by
 have hN:=M1 h k;have h0:=h.lo;have h1:=h.hi;unfold X4;split
 ·exact hN
 rename_i he;have hse:=hN.ok0 (by simpa using he)
 split
 ·exact ⟨fun hn=>absurd hse hn,h0,h1,fun he=>absurd he (by show ¬ (7:Int)=0;decide),fun _=>by show (s.sites.length:Int)≤_;omega,fun he=>absurd he (by show ¬ (7:Int)=0;decide)⟩
 split
 ·exact ⟨fun hn=>absurd hse hn,h0,h1,fun he=>absurd he (by show ¬ (3:Int)=0;decide),fun _=>by show (s.sites.length:Int)≤_;omega,fun he=>absurd he (by show ¬ (3:Int)=0;decide)⟩
 ·exact hN
structure Toks (l:List Tok):Prop where
 len:l.length≤100000
 ok:∀ t∈l,Zam t
theorem Toks.long {l:List Tok} (h:Toks l):∀ t∈l,t.text.length≤9223372036854775807:=fun t ht=>Nat.le_trans (h.ok t ht).1 (by omega)
structure Noted (l:List Tok) (m q:Int) (s:St6) (r:List Node×St6):Prop where
 adv:Adv l m q s r.2
 nil:s.e≠0→r.1=[]
 len:r.1.length≤100001
 named:Wz r.1
 ok:r.2.e=0→r.1≠[]∧W0 r.1=true
 cnt:r.2.e=0→∀ z,J3 (G3 z) r.1=if (s.sites.length:Int)+1≤z∧z<(r.2.sites.length:Int)+1 then 1 else 0
theorem Ep {l:List Tok} (hT:Toks l) {s:St6} (h:Pos l s) {v:Int} (hv:s.e=0→1≤v∧v≤100):Noted l 0 0 s (Cf l s v):=by
 have h0:=h.lo;have h1:=h.hi;have hl:=hT.len;unfold Cf;by_cases he:s.e=0
 case neg =>
  rw [if_pos he];exact ⟨⟨fun _=>rfl,h0,h1,fun e=>absurd e he,fun e=>absurd e he,fun e=>absurd e he⟩,fun _=>rfl,by simp,Qc,fun e=>absurd e he,fun e=>absurd e he⟩
 rw [if_neg (by simpa using he)]
 obtain ⟨v1,v2⟩:=hv he;obtain ⟨f1,f2,f3⟩:=dA hl hT.long h0 h1 (site:=(s.sites.length:Int)+1) (by omega) v1 v2
 obtain ⟨⟨t,a,qs,bad,re⟩,hr⟩:=exq (Yu l s.at_ ((s.sites.length:Int)+1) v);rw [hr] at f1 f2 f3 ⊢;simp only at f1 f2 f3 ⊢;by_cases hre:re=0
 case neg =>
  rw [if_pos hre];exact ⟨⟨fun e=>absurd he e,f1,f2,fun e=>absurd e hre,fun _=>by show (s.sites.length:Int)≤_;omega,fun e=>absurd e hre⟩,fun e=>absurd he e,by simp,Qc,fun e=>absurd e hre,fun e=>absurd e hre⟩
 rw [if_neg (by simpa using hre)]
 obtain ⟨g1,g2,g3,g4,g5,g6,g7⟩:=f3 hre;have hcat:((s.sites++qs).length:Int)=s.sites.length+qs.length:=by simp
 refine ⟨⟨fun e=>absurd he e,by show 0≤a;omega,g2,fun _=>by show s.at_≤a;omega,fun _=>by show ((s.sites++qs).length:Int)≤_;omega,fun _=>⟨by simp,by show ((s.sites++qs).length:Int)-s.sites.length+0≤a-s.at_;omega⟩⟩,fun e=>absurd he e,by show t.length≤_;omega,g5,fun _=>⟨fun e=>?_,g4⟩,fun _ z=>?_⟩
 ·have:=Zfq g4;simp only at e;rw [e] at this;simp at this
 ·show J3 (G3 z) t=if (s.sites.length:Int)+1≤z∧z<((s.sites++qs).length:Int)+1 then 1 else 0
  rw [g7,hcat];by_cases hz:(s.sites.length:Int)+1≤z∧z<(s.sites.length:Int)+1+qs.length
  ·rw [if_pos hz,if_pos (by omega)]
  ·rw [if_neg hz,if_neg (by omega)]
theorem K3 {l:List Tok} (hT:Toks l) {s:St6} (h:Pos l s) {v:Int} (hv:s.e=0→1≤v∧v≤100):Noted l (-1) 1 s (Uv l s v):=by
 have h0:=h.lo;have h1:=h.hi;unfold Uv;by_cases he:s.e=0
 case neg =>
  rw [if_pos he];exact ⟨⟨fun _=>rfl,h0,h1,fun e=>absurd e he,fun e=>absurd e he,fun e=>absurd e he⟩,fun _=>rfl,by simp,Qc,fun e=>absurd e he,fun e=>absurd e he⟩
 rw [if_neg (by simpa using he)]
 cases hi:T0 l s 5 [58] with
 | true =>
  rw [if_pos rfl];have hlt:=(Lk hi).2;rcases Zby h hlt with hA|hA
  ·have hN:=Ep hT hA.pos (v:=v) (fun _=>hv he);exact ⟨hA.trans hN.adv (by omega) (by omega) (by omega),fun e=>absurd he e,hN.len,hN.named,hN.ok,fun e z=>hN.cnt e z⟩
  ·exact absurd he hA
 | false =>
  rw [if_neg (by simp)]
  have hcat:∀ x:Site,((s.sites++[x]).length:Int)=s.sites.length+1:=fun x=>by simp
  refine ⟨⟨fun e=>absurd he e,h0,h1,fun _=>Int.le_refl _,fun _=>by show ((s.sites++[_]).length:Int)≤_;rw [hcat];omega,fun _=>⟨by simp,by show ((s.sites++[_]).length:Int)-s.sites.length+-1≤s.at_-s.at_;rw [hcat];omega⟩⟩,fun e=>absurd he e,by simp,Bz,fun _=>⟨by simp,?_⟩,fun _ z=>?_⟩
  ·have:∀ n:Nat,W0 [⟨0,[],(n:Int)+1⟩]=true:=by
    intro n;refine Zis (x:=Go.Rose.Rose.mk ⟨0,[],(n:Int)+1⟩ []) ⟨⟨rfl,trivial⟩,fun m hm=>?_,by show Go.Rose.Rose.depth _≤100;unfold Go.Rose.Rose.depth;simp [Go.Rose.Rose.depths],by rfl,rfl,by show ¬ (0:Int)=9;decide,by simp [Go.Rose.Rose.nds,Go.Rose.Rose.ndss]⟩
    simp [Go.Rose.Rose.nds,Go.Rose.Rose.ndss] at hm;subst hm;unfold Sg;rw [if_pos (.inl rfl)];simp only [decide_eq_true_eq];omega
   exact this _
  ·show J3 (G3 z) [⟨0,[],(s.sites.length:Int)+1⟩]=if (s.sites.length:Int)+1≤z∧z<((s.sites++[_]).length:Int)+1 then 1 else 0
   rw [hcat];unfold J3 G3;simp only [List.map_cons,List.map_nil,List.sum_cons,List.sum_nil,true_and,Nat.add_zero];by_cases hq:(s.sites.length:Int)+1=z
   ·rw [if_pos hq,if_pos (by omega)]
   ·rw [if_neg hq,if_neg (by omega)]
theorem B5 {l:List Tok} (hT:Toks l) {s:St6} (h:Pos l s) {v:Int} (hv:s.e=0→1≤v∧v≤100):Noted l 0 0 s (Nr l s v).2:=by
 have hA:=M1 h 1;have hN:=K3 hT hA.pos (v:=v) (fun e=>hv (hA.ok0 e));unfold Nr;refine ⟨hA.trans hN.adv (by omega) (by omega) (by omega),fun e=>?_,hN.len,hN.named,hN.ok,fun e z=>?_⟩
 ·refine hN.nil ?_;rw [hA.err e];exact e
 ·have e1:=hN.adv.ok0 e;have hs:(Q7 l s 1).2.sites=s.sites:=by
   rcases Uw l s 1 with ⟨_,h2⟩|⟨_,_,h2⟩|⟨_,_,_,h2⟩|⟨_,_,_,h2⟩<;>rw [h2]
  have:=hN.cnt e z;rw [hs] at this;exact this
def Uu (z:Int) (p:Part):Nat:=J3 (G3 z) p.t+J3 (G3 z) p.u
def W1 (z:Int) (e:List Part):Nat:=(e.map (Uu z)).sum
theorem Tf (z:Int) (a b:List Part):W1 z (a++b)=W1 z a+W1 z b:=by unfold W1;rw [List.map_append,List.sum_append]
theorem Sf (z:Int) (p:Part) (b:List Part):W1 z (p::b)=Uu z p+W1 z b:=by unfold W1;rw [List.map_cons,List.sum_cons]
def Tm (p:Part):Prop:=(p.t.length≤100001∧Wz p.t)∧(p.u.length≤100001∧Wz p.u)∧p.label.length≤1000000∧p.name.length≤3000000∧p.bind.length≤1000000
def Zqq (s r:St6) (e:List Part):Prop:=∀ z,W1 z e=if (s.sites.length:Int)+1≤z∧z<(r.sites.length:Int)+1 then 1 else 0
structure Reads (l:List Tok) (s:St6) (r:List Part×St6):Prop where
 adv:Adv l 1 0 s r.2
 nil:s.e≠0→r.1=[]
 len:(r.1.length:Int)≤2*(l.length-s.at_)+1
 ok:r.2.e=0→r.1≠[]∧(r.1.length:Int)≤2*(r.2.at_-s.at_)-1
 cnt:r.2.e=0→Zqq s r.2 r.1
 fit:∀ p∈r.1,Tm p
structure Tk6 (l:List Tok) (s r:St6):Prop where
 adv:Adv l 1 0 s r
 same:r.e=0→r.sites=s.sites
theorem J2 {l:List Tok} {s:St6} (h:Pos l s) (k:Int) (x:List UInt8):Tk6 l s (Qb l s k x):=⟨N0 h k x,fun he=>by
 rcases Cx l s k x with ⟨_,h2⟩|⟨_,_,h2⟩|⟨_,_,h2⟩<;>rw [h2]⟩
theorem N6 {l:List Tok} {s:St6} (h:Pos l s) (k:Int):Tk6 l s (Q7 l s k).2:=⟨M1 h k,fun he=>by
 rcases Uw l s k with ⟨_,h2⟩|⟨_,_,h2⟩|⟨_,_,_,h2⟩|⟨_,_,_,h2⟩<;>rw [h2]⟩
theorem Zch {l:List Tok} {s:St6} (h:Pos l s) (k:Int) (had:List (List UInt8)):Tk6 l s (X4 l s k had).2:=⟨cO h k had,fun he=>by
 have hN:=(N6 h k).same;unfold X4 at he ⊢;split
 ·rename_i a;exact absurd (by rw [if_pos a] at he;exact he) a
 rename_i a;split
 ·rfl
 split
 ·rfl
 ·exact hN (by simpa using a)⟩
theorem X2 {l:List Tok} (hT:Toks l) (s:St6) (k:Int):(Q7 l s k).1.length≤1000000:=by
 have ht:(tk l s.at_).text.length≤1000000:=by
  unfold tk;rw [Zc];cases hk:l[s.at_.toNat]? with
  | none=>simp [Yy]
  | some x=>exact (hT.ok x (List.mem_of_getElem? hk)).1
 rcases Uw l s k with ⟨_,h2⟩|⟨_,_,h2⟩|⟨_,_,_,h2⟩|⟨_,_,_,h2⟩<;>rw [h2]
 ·simp
 ·simp
 ·simp
 ·exact ht
theorem On {l:List Tok} (hT:Toks l) (s:St6) (k:Int) (had:List (List UInt8)):(X4 l s k had).1.length≤1000000:=by
 have:=X2 hT s k;unfold X4;repeat' split
 all_goals exact this
theorem Dx {l:List Tok} (hT:Toks l) (s:St6) (v:Int):(Nr l s v).1.length≤1000000:=X2 hT s 1
structure Sq (l:List Tok) (m:Int) (s r:St6) (n:Int) (w:Int→Nat):Prop where
 adv:Adv l m 0 s r
 ok:r.e=0→n≤2*(r.at_-s.at_)
 all:n≤2*(l.length-s.at_)+1
 cnt:r.e=0→∀ z,w z=if (s.sites.length:Int)+1≤z∧z<(r.sites.length:Int)+1 then 1 else 0
theorem Sq.refl {l:List Tok} {s:St6} (h:Pos l s):Sq l 0 s s 0 (fun _=>0) :=
 ⟨Adv.refl h,fun _=>by omega,by have:=h.hi;omega,fun _ z=>by rw [if_neg (by omega)]⟩
theorem Sq.tok {l:List Tok} {m:Int} {s r q:St6} {n:Int} {w:Int→Nat} (h:Sq l m s r n w) (hm:0≤m) (hq:Tk6 l r q):Sq l (m+1) s q n w:=by
 refine ⟨h.adv.trans hq.adv (Int.le_refl _) (Int.le_refl _) (by omega),fun he=>?_,h.all,fun he z=>?_⟩
 ·have h1:=h.ok (hq.adv.ok0 he);have h2:=hq.adv.mono he;omega
 ·have:=h.cnt (hq.adv.ok0 he) z;rw [hq.same he];exact this
theorem Sq.note {l:List Tok} {m m2 q2:Int} {s r:St6} {n:Int} {w:Int→Nat} {t:List Node×St6} (h:Sq l m s r n w) (hq:Noted l m2 q2 r t) (hm:q2≤m) (h2:0≤m+m2):Sq l (m+m2) s t.2 n (fun z=>w z+J3 (G3 z) t.1):=by
 refine ⟨h.adv.trans hq.adv (Int.le_refl _) (Int.le_refl _) (by omega),fun he=>?_,h.all,fun he z=>?_⟩
 ·have h1:=h.ok (hq.adv.ok0 he);have h2:=hq.adv.mono he;omega
 ·have e1:=h.cnt (hq.adv.ok0 he) z;have e2:=hq.cnt he z;have g1:=(h.adv.gain (hq.adv.ok0 he)).1;have g2:=(hq.adv.gain he).1;rw [e1,e2];exact Fg (by omega) (by omega)
theorem Sq.read {l:List Tok} {m:Int} {s r:St6} {n:Int} {w:Int→Nat} {t:List Part×St6} (h:Sq l m s r n w) (hm:0≤m) (hq:Reads l r t):Sq l (m+1) s t.2 (n+t.1.length) (fun z=>w z+W1 z t.1):=by
 refine ⟨h.adv.trans hq.adv (Int.le_refl _) (Int.le_refl _) (by omega),fun he=>?_,?_,fun he z=>?_⟩
 ·have h1:=h.ok (hq.adv.ok0 he);have h2:=(hq.ok he).2;omega
 ·by_cases hr:r.e=0
  ·have h1:=h.ok hr;have h2:=hq.len;omega
  ·have h1:=hq.nil hr;rw [h1];have:=h.all;simp only [List.length_nil];omega
 ·have e1:=h.cnt (hq.adv.ok0 he) z;have e2:=hq.cnt he z;have g1:=(h.adv.gain (hq.adv.ok0 he)).1;have g2:=(hq.adv.gain he).1;rw [e1,e2];exact Fg (by omega) (by omega)
structure Reads0 (l:List Tok) (s:St6) (r:List Part×St6):Prop where
 adv:Adv l 0 0 s r.2
 len:(r.1.length:Int)≤2*(l.length-s.at_)+3
 ok:r.2.e=0→r.1≠[]∧(r.1.length:Int)≤2*(r.2.at_-s.at_)+1
 cnt:r.2.e=0→Zqq s r.2 r.1
 fit:∀ p∈r.1,Tm p
theorem Sq.done {l:List Tok} {m:Int} {s r:St6} {n:Int} {w:Int→Nat} (h:Sq l m s r n w) (hm:0≤m) {e:List Part} (he:e≠[]) (hn:(e.length:Int)=n+1) (hw:∀ z,W1 z e=w z) (hf:∀ p∈e,Tm p):Reads0 l s (e,r):=by
 refine ⟨h.adv.weak hm (Int.le_refl _),?_,fun h0=>⟨he,?_⟩,fun h0 z=>?_,hf⟩
 ·have:=h.all;show (e.length:Int)≤_;omega
 ·have:=h.ok h0;show (e.length:Int)≤2*(r.at_-s.at_)+1;omega
 ·rw [hw];exact h.cnt h0 z
theorem Reads0.behind {l:List Tok} {s:St6} (hP:Pos l s) (he:s.e=0) (hl:s.at_<l.length) {r:List Part×St6} (h:Reads0 l (Xh s) r):Reads l s r:=by
 rcases Zby hP hl with hA|hA
 ·have e1:(Xh s).at_=s.at_+1:=rfl;refine ⟨hA.trans h.adv (by omega) (by omega) (by omega),fun hn=>absurd he hn,?_,fun h0=>?_,fun h0 z=>?_,h.fit⟩
  ·have:=h.len;rw [e1] at this;omega
  ·obtain ⟨g1,g2⟩:=h.ok h0;rw [e1] at g2;exact ⟨g1,by omega⟩
  ·exact h.cnt h0 z
 ·exact absurd he hA
section
variable {ex:Zni} {l:List Tok} {v:Int}
theorem Gb {k m n:Int} {a b c:List UInt8} {t u:List Node} (h1:t.length≤100001) (h2:Wz t) (h3:u.length≤100001) (h4:Wz u) (h5:a.length≤1000000) (h6:b.length≤3000000) (h7:c.length≤1000000):Tm ⟨k,a,b,c,m,n,t,u⟩:=⟨⟨h1,h2⟩,⟨h3,h4⟩,h5,h6,h7⟩
theorem Y3 (z:Int) (p:Part) (es:List (Sl Part)):W1 z (Xr p es)=Uu z p+((es.map fun x=>W1 z x.l).sum):=by
 unfold Xr;rw [Sf]
 congr 1
 unfold Mi
 induction es with
 | nil=>rfl
 | cons x es ih=>rw [List.flatMap_cons,Tf,ih];rfl
theorem K4 (p:Part) (es:List (Sl Part)):(Xr p es).length=1+((es.map fun x=>x.l.length).sum):=by
 unfold Xr Mi;rw [Zi,List.length_flatMap];omega
theorem N8 {p:Part} {es:List (Sl Part)} (hp:Tm p) (h:∀ x∈es,∀ q∈x.l,Tm q):∀ q∈Xr p es,Tm q:=by
 intro q hq;unfold Xr Mi at hq;rcases List.mem_cons.1 hq with rfl|hq
 ·exact hp
 ·obtain ⟨x,hx,hqx⟩:=List.mem_flatMap.1 hq;exact h x hx q hqx
theorem Ziw (hT:Toks l) (hex:∀ s,Pos l s→Reads l s (ex s)) (h1:1≤v) (h2:v≤100) {s:St6} (h:Pos l s):Reads0 l s (Zjn ex l v s):=by
 have q1:=(Sq.refl h).tok (by omega) (J2 h 5 [40])
 have hb:=B5 hT q1.adv.pos (v:=v) fun _=>⟨h1,h2⟩;have q2:=q1.note hb (by omega) (by omega)
 have q3:=q2.tok (by omega) (J2 q2.adv.pos 5 [41])
 have q4:=q3.tok (by omega) (J2 q3.adv.pos 5 [45,62])
 have hr:=hex _ q4.adv.pos;have q5:=q4.read (by omega) hr
 unfold Zjn;refine q5.done (by omega) (by unfold Xr;simp) ?_ (fun z=>?_) (N8 (Gb hb.len hb.named (by simp) Qc (by simp) (by simp) (Dx hT _ _)) fun x hx q hq=>?_)
 ·rw [K4];simp;omega
 ·rw [Y3];unfold Uu J3;simp
 ·simp only [Zr] at hx;subst hx;exact hr.fit q hq
theorem Ziv (hT:Toks l) (hex:∀ s,Pos l s→Reads l s (ex s)) (h1:1≤v) (h2:v≤100) {s:St6} (h:Pos l s):Reads0 l s (Zjh ex l v s):=by
 have hb:=B5 hT h (v:=v) fun _=>⟨h1,h2⟩;have q2:=(Sq.refl h).note hb (by omega) (by omega)
 have q3:=q2.tok (by omega) (J2 q2.adv.pos 5 [61])
 have hr:=hex _ q3.adv.pos;have q4:=q3.read (by omega) hr
 have q5:=q4.tok (by omega) (J2 q4.adv.pos 6 [105,110])
 have hr2:=hex _ q5.adv.pos;have q6:=q5.read (by omega) hr2
 unfold Zjh;refine q6.done (by omega) (by unfold Xr;simp) ?_ (fun z=>?_) (N8 (Gb hb.len hb.named (by simp) Qc (by simp) (by simp) (Dx hT _ _)) fun x hx q hq=>?_)
 ·rw [K4];simp;omega
 ·rw [Y3];unfold Uu J3;simp;omega
 ·simp only [Xn,Ns,or_false] at hx;rcases hx with rfl|rfl
  ·exact hr.fit q hq
  ·exact hr2.fit q hq
theorem Ziu (hT:Toks l) (hex:∀ s,Pos l s→Reads l s (ex s)) (h1:1≤v) (h2:v≤100) {s:St6} (h:Pos l s):Reads0 l s (Zit ex l v s):=by
 have q0:=(Sq.refl h).tok (by omega) (N6 h 1)
 have q1:=q0.tok (by omega) (J2 q0.adv.pos 5 [40])
 have hb:=B5 hT q1.adv.pos (v:=v) fun _=>⟨h1,h2⟩;have q2:=q1.note hb (by omega) (by omega)
 have q3:=q2.tok (by omega) (J2 q2.adv.pos 5 [41])
 have hu:=K3 hT q3.adv.pos (v:=v) fun _=>⟨h1,h2⟩;have q4:=q3.note hu (by omega) (by omega)
 have q5:=q4.tok (by omega) (J2 q4.adv.pos 5 [61])
 have hr:=hex _ q5.adv.pos;have q6:=q5.read (by omega) hr
 have q7:=q6.tok (by omega) (J2 q6.adv.pos 6 [105,110])
 have hr2:=hex _ q7.adv.pos;have q8:=q7.read (by omega) hr2
 unfold Zit;refine q8.done (by omega) (by unfold Xr;simp) ?_ (fun z=>?_) (N8 (Gb hb.len hb.named hu.len hu.named (by simp) (by have:=X2 hT s 1;omega) (Dx hT _ _)) fun x hx q hq=>?_)
 ·rw [K4];simp;omega
 ·rw [Y3];unfold Uu;simp;omega
 ·simp only [Xn,Ns,or_false] at hx;rcases hx with rfl|rfl
  ·exact hr.fit q hq
  ·exact hr2.fit q hq
theorem Zfu (hex:∀ s,Pos l s→Reads l s (ex s)) {s:St6} (h:Pos l s):Reads0 l s (zU ex l s):=by
 have hr:=hex _ h;have q1:=(Sq.refl h).read (by omega) hr
 have q2:=q1.tok (by omega) (J2 q1.adv.pos 6 [116,104,101,110])
 have hr2:=hex _ q2.adv.pos;have q3:=q2.read (by omega) hr2
 have q4:=q3.tok (by omega) (J2 q3.adv.pos 6 [101,108,115,101])
 have hr3:=hex _ q4.adv.pos;have q5:=q4.read (by omega) hr3
 unfold zU;refine q5.done (by omega) (by unfold Xr;simp) ?_ (fun z=>?_) (N8 (Gb (by simp) Qc (by simp) Qc (by simp) (by simp) (by simp)) fun x hx q hq=>?_)
 ·rw [K4];simp;omega
 ·rw [Y3];unfold Uu J3;simp;omega
 ·simp only [Xn,Ns,or_false] at hx;rcases hx with rfl|rfl|rfl
  ·exact hr.fit q hq
  ·exact hr2.fit q hq
  ·exact hr3.fit q hq
end
theorem bG {l:List Tok} {s:St6} (h:Pos l s) (he:s.e=0) (hl:s.at_<l.length):Tk6 l s (Xh s):=by
 rcases Zby h hl with hA|hA
 ·exact ⟨hA,fun _=>rfl⟩
 ·exact absurd he hA
theorem Ae {l:List Tok} {s:St6} (h:Pos l s) {k:Int} {x:List UInt8} (hi:T0 l s k x=true):Tk6 l s (Xh s):=bG h (Lk hi).1 (Lk hi).2
theorem Sq.bump {l:List Tok} {m:Int} {s r q:St6} {n:Int} {w:Int→Nat} (h:Sq l m s r n w) (hm:0≤m) (hr:r.e=0) (hq:Tk6 l r q):Sq l (m+1) s q (n+1) w:=by
 have h2:=h.tok hm hq;refine ⟨h2.adv,fun he=>?_,?_,h2.cnt⟩
 ·have h1:=h.ok hr;have h3:=(hq.adv.gain he).2;have h4:=(hq.adv.gain he).1;omega
 ·have h1:=h.ok hr;have h3:=h.adv.hi;omega
theorem Sq.fin {l:List Tok} {m:Int} {s r:St6} {n:Int} {w:Int→Nat} (h:Sq l m s r n w) (hm:1≤m) (h0:s.e=0) {e:List Part} (he:e≠[]) (h1:r.e=0→(e.length:Int)≤2*(r.at_-s.at_)-1) (h2:(e.length:Int)≤2*(l.length-s.at_)+1) (hw:∀ z,W1 z e=w z) (hf:∀ p∈e,Tm p):Reads l s (e,r):=by
 refine ⟨h.adv.weak hm (Int.le_refl _),fun hn=>absurd h0 hn,h2,fun hr=>⟨he,h1 hr⟩,fun hr z=>?_,hf⟩;rw [hw];exact h.cnt hr z
theorem Pd {l:List Tok} {s:St6} (h:Pos l s) {e:Int} (he:e≠0):Reads l s ([],Jp s e):=by
 have e0:(Jp s e).e≠0:=by
  unfold Jp;split
  ·exact he
  ·assumption
 have e1:(Jp s e).at_=s.at_:=by unfold Jp;split<;>rfl
 have e2:(Jp s e).sites=s.sites:=by unfold Jp;split<;>rfl
 have h0:=h.lo;have h1:=h.hi;refine ⟨⟨fun hn=>?_,by rw [e1];exact h0,by rw [e1];exact h1,fun hr=>absurd hr e0,fun _=>by rw [e2];omega,fun hr=>absurd hr e0⟩,fun _=>rfl,?_,fun hr=>absurd hr e0,fun hr=>absurd hr e0,fun p hp=>by cases hp⟩
 ·unfold Jp;rw [if_neg hn]
 ·simp only [List.length_nil];omega
theorem Zix {l:List Tok} {s:St6} (h:Pos l s) (he:s.e≠0):Reads l s ([],s):=by
 have:=Pd h (e:=1) (by decide)
 unfold Jp at this;rwa [if_neg he] at this
theorem Sq.bad {l:List Tok} {m:Int} {s r:St6} {n:Int} {w:Int→Nat} (h:Sq l m s r n w) (hm:0≤m) (hP:Pos l s) (hr:r.e≠0):Reads0 l s ([],r):=by
 refine ⟨h.adv.weak hm (Int.le_refl _),?_,fun h0=>absurd h0 hr,fun h0=>absurd h0 hr,fun p hp=>by cases hp⟩
 have:=hP.hi;simp only [List.length_nil];omega
section
variable {ex:Zni} {l:List Tok} {v:Int}
theorem Za4 (hT:Toks l) (hex:∀ s,Pos l s→Reads l s (ex s)) (h1:1≤v) (h2:v≤100) {s:St6} (h:Pos l s):Reads0 l s (Fx ex l v s):=by
 have q1:=(Sq.refl h).tok (by omega) (N6 h 2)
 have q2:=q1.tok (by omega) (J2 q1.adv.pos 5 [61])
 have hr:=hex _ q2.adv.pos;have q3:=q2.read (by omega) hr
 have hu:=K3 hT q3.adv.pos (v:=v) fun _=>⟨h1,h2⟩;have q4:=q3.note hu (by omega) (by omega)
 have q5:=q4.tok (by omega) (J2 q4.adv.pos 5 [93])
 unfold Fx;refine q5.done (by omega) (by unfold Xr;simp) ?_ (fun z=>?_) (N8 (Gb hu.len hu.named (by simp) Qc (by simp) (by have:=X2 hT s 2;omega) (by simp)) fun x hx q hq=>?_)
 ·rw [K4];simp;omega
 ·rw [Y3];unfold Uu;rw [show J3 (G3 z) ([]:List Node)=0 from rfl];simp;omega
 ·simp only [Zr] at hx;subst hx;exact hr.fit q hq
theorem Sq.leaf {l:List Tok} {m:Int} {s r:St6} (h:Sq l m s r 0 fun _=>0) (hm:0≤m) {p:Part} (hp:∀ z,Uu z p=0) (hf:Tm p):Reads0 l s ([p],r):=by
 refine h.done hm (by simp) (by simp) (fun z=>?_) (fun q hq=>?_)
 ·rw [Sf,hp];rfl
 ·rw [List.mem_singleton.1 hq];exact hf
theorem Zcy (hT:Toks l) (hex:∀ s,Pos l s→Reads l s (ex s)) (h1:1≤v) (h2:v≤100) {s:St6} (h:Pos l s):Reads0 l s (bT ex l v s):=by
 unfold bT;split
 ·rename_i hi;refine ((Sq.refl h).tok (by omega) (Ae h hi)).leaf (by omega) (fun z=>by rfl) (Gb (by simp) (fun n hn=>?_) (by simp) Qc (by simp) (by simp) (by simp))
  rw [List.mem_singleton.1 hn];simp
 ·have hr:=hex _ h;have q1:=(Sq.refl h).read (by omega) hr
  dsimp only
  split
  ·rename_i hi;have q2:=q1.tok (by omega) (Ae q1.adv.pos hi)
   have hu:=Ep hT q2.adv.pos (v:=v) fun _=>⟨h1,h2⟩;have q4:=q2.note hu (by omega) (by omega)
   have q5:=q4.tok (by omega) (J2 q4.adv.pos 5 [41])
   refine q5.done (by omega) (by unfold Xr;simp) ?_ (fun z=>?_) (N8 (Gb hu.len hu.named (by simp) Qc (by simp) (by simp) (by simp)) fun x hx q hq=>?_)
   ·rw [K4];simp;omega
   ·rw [Y3];unfold Uu;rw [show J3 (G3 z) ([]:List Node)=0 from rfl];simp;omega
   ·simp only [Zr] at hx;subst hx;exact hr.fit q hq
  ·have q2:=q1.tok (by omega) (J2 q1.adv.pos 5 [41])
   refine ⟨q2.adv.weak (by omega) (Int.le_refl _),by have:=hr.len;show ((ex s).1.length:Int)≤_;omega,fun h0=>?_,fun h0 z=>?_,hr.fit⟩
   ·have g:=hr.ok ((J2 q1.adv.pos 5 [41]).adv.ok0 h0);have:=(J2 q1.adv.pos 5 [41]).adv.mono h0;exact ⟨g.1,by have:=g.2;show ((ex s).1.length:Int)≤2*((Qb l (ex s).2 5 [41]).at_-s.at_)+1;omega⟩
   ·have:=q2.cnt h0 z;simp only [Nat.zero_add] at this;exact this
end
theorem Sk {l:List Tok} {s:St6} {k:Int} {had:List (List UInt8)} (h:(X4 l s k had).2.e=0):had.length<50:=by
 rcases Nat.lt_or_ge had.length 50 with h1|h1
 ·exact h1
 ·exfalso;unfold X4 at h;by_cases ha:(Q7 l s k).2.e=0
  ·rw [if_neg (by simpa using ha)] at h
   by_cases hb:Zke had (Q7 l s k).1=true
   ·rw [if_pos hb] at h;exact absurd h (by show ¬ (7:Int)=0;decide)
   ·rw [if_neg hb,if_pos h1] at h;exact absurd h (by show ¬ (3:Int)=0;decide)
  ·rw [if_pos ha] at h;exact ha h
section
variable {ex:Zni} {l:List Tok} {v:Int}
theorem bQ (hT:Toks l) (hex:∀ s,Pos l s→Reads l s (ex s)) {s0:St6} (hP:Pos l s0):∀ (f:Nat) (s:St6) (had:List (List UInt8)) (body:List Part) (m:Int) (w:Int→Nat),Sq l m s0 s body.length w→0≤m→(∀ z,W1 z body=w z)→(∀ p∈body,Tm p)→had.length≤50→had.length+f=51→Reads0 l s0 (cL ex l f s had body)
 | 0,s,had,body,m,w,_,_,_,_,h1,h2=>by omega
 | f+1,s,had,body,m,w,hq,hm,hw,hf,h1,h2=>by
  have t1:=Zch hq.adv.pos 2 had;have q1:=hq.tok hm t1;have t2:=N6 q1.adv.pos 1;have q2:=q1.tok (by omega) t2
  have t3:=J2 q2.adv.pos 5 [45,62];have hr:=hex _ t3.adv.pos;rw [cL];split
  ·rename_i he;exact ((q2.tok (by omega) t3).read (by omega) hr).bad (by omega) hP he
  rename_i he;have he:(U6 ex l s had).2.2.2.e=0:=by simpa using he
  have he2:=t3.adv.ok0 (hr.adv.ok0 he);have he1:=t2.adv.ok0 he2;have q3:=q2.bump (by omega) he2 t3
  have q4:=q3.read (by omega) hr
  have hlab:=On hT s 2 had;have hnam:=X2 hT (X4 l s 2 had).2 1;have hfit:∀ p∈body++Xr ⟨8,(U6 ex l s had).1,[],(U6 ex l s had).2.1,0,0,[],[]⟩ [⟨(U6 ex l s had).2.2.1⟩],Tm p:=by
   intro p hp;rcases List.mem_append.1 hp with hp|hp
   ·exact hf p hp
   ·refine N8 (Gb (by simp) Qc (by simp) Qc hlab (by simp) hnam) (fun x hx q hq=>?_) p hp
    simp only [Zr] at hx;subst hx;exact hr.fit q hq
  have hlen:(((body++Xr ⟨8,(U6 ex l s had).1,[],(U6 ex l s had).2.1,0,0,[],[]⟩ [⟨(U6 ex l s had).2.2.1⟩]).length:Nat):Int)=body.length+1+(ex (Qb l (Q7 l (X4 l s 2 had).2 1).2 5 [45,62])).1.length:=by
   rw [Zj,K4];unfold U6;simp;omega
  have hwt:∀ z,W1 z (body++Xr ⟨8,(U6 ex l s had).1,[],(U6 ex l s had).2.1,0,0,[],[]⟩ [⟨(U6 ex l s had).2.2.1⟩])=w z+W1 z (ex (Qb l (Q7 l (X4 l s 2 had).2 1).2 5 [45,62])).1:=fun z=>by
   rw [Tf,Y3,hw];unfold U6 Uu;rw [show J3 (G3 z) ([]:List Node)=0 from rfl];simp
  rw [←hlen] at q4;split
  ·have q5:=q4.tok (by omega) (J2 q4.adv.pos 6 [101,110,100])
   refine q5.done (by omega) (by simp) ?_ (fun z=>?_) (fun p hp=>?_)
   ·simp only [Zi];omega
   ·rw [Sf,hwt];unfold Uu;rw [show J3 (G3 z) ([]:List Node)=0 from rfl];simp
   ·rcases List.mem_cons.1 hp with rfl|hp
    ·exact Gb (by simp) Qc (by simp) Qc (by simp) (by simp) (by simp)
    ·exact hfit p hp
  ·rename_i hi;have hi:T0 l (U6 ex l s had).2.2.2 5 [124]=true:=by simpa using hi
   have q5:=q4.tok (by omega) (Ae q4.adv.pos hi)
   have hh:=Sk he1;exact bQ hT hex hP f _ _ _ _ _ q5 (by omega) hwt hfit (by simp;omega) (by simp;omega)
theorem Zcz (hT:Toks l) (hex:∀ s,Pos l s→Reads l s (ex s)) {s:St6} (h:Pos l s):Reads0 l s (iS ex l s):=by
 have hr:=hex _ h;have q1:=(Sq.refl h).read (by omega) hr
 have q2:=q1.tok (by omega) (J2 q1.adv.pos 6 [111,102])
 rw [show (0:Int)+(ex s).1.length=(ex s).1.length by omega] at q2
 exact bQ hT hex h 51 _ [] _ _ _ q2 (by omega) (fun z=>by simp) hr.fit (by simp) (by simp)
theorem Zm6 (x:List UInt8) (e:List Part):(Zbd x e).length=e.length:=by cases e<;>rfl
theorem Zqf (x:List UInt8) (z:Int) (e:List Part):W1 z (Zbd x e)=W1 z e:=by cases e<;>rfl
theorem Zm7 {x:List UInt8} (hx:x.length≤1000000) {e:List Part} (h:∀ p∈e,Tm p):∀ p∈Zbd x e,Tm p:=by
 cases e with
 | nil=>intro p hp;cases hp
 | cons q e =>
  intro p hp;rcases List.mem_cons.1 hp with rfl|hp
  ·have:=h q (List.mem_cons_self ..);exact ⟨this.1,this.2.1,hx,this.2.2.2.1,this.2.2.2.2⟩
  ·exact h p (List.mem_cons_of_mem _ hp)
theorem dW (hT:Toks l) (hex:∀ s,Pos l s→Reads l s (ex s)) {s0:St6} (hP:Pos l s0):∀ (f:Nat) (s:St6) (had:List (List UInt8)) (body:List Part) (m:Int) (w:Int→Nat),Sq l m s0 s body.length w→0≤m→(∀ z,W1 z body=w z)→(∀ p∈body,Tm p)→had.length≤50→had.length+f=51→Reads0 l s0 (bP ex l f s had body)
 | 0,s,had,body,m,w,_,_,_,_,h1,h2=>by omega
 | f+1,s,had,body,m,w,hq,hm,hw,hf,h1,h2=>by
  have t1:=Zch hq.adv.pos 1 had;have q1:=hq.tok hm t1;have t3:=J2 q1.adv.pos 5 [61];have q3:=q1.tok (by omega) t3
  have hr:=hex _ t3.adv.pos;have q4:=q3.read (by omega) hr
  rw [bP];split
  ·rename_i he;exact q4.bad (by omega) hP he
  rename_i he;have he:(ex (Qb l (X4 l s 1 had).2 5 [61])).2.e=0:=by simpa using he
  have he1:=t3.adv.ok0 (hr.adv.ok0 he);have hlab:=On hT s 1 had;have hfit:∀ p∈body++Zbd (X4 l s 1 had).1 (ex (Qb l (X4 l s 1 had).2 5 [61])).1,Tm p:=by
   intro p hp;rcases List.mem_append.1 hp with hp|hp
   ·exact hf p hp
   ·exact Zm7 hlab hr.fit p hp
  have hlen:(((body++Zbd (X4 l s 1 had).1 (ex (Qb l (X4 l s 1 had).2 5 [61])).1).length:Nat):Int)=body.length+(ex (Qb l (X4 l s 1 had).2 5 [61])).1.length:=by
   rw [Zj,Zm6];omega
  have hwt:∀ z,W1 z (body++Zbd (X4 l s 1 had).1 (ex (Qb l (X4 l s 1 had).2 5 [61])).1)=w z+W1 z (ex (Qb l (X4 l s 1 had).2 5 [61])).1:=fun z=>by
   rw [Tf,Zqf,hw]
  rw [←hlen] at q4;split
  ·have q5:=q4.tok (by omega) (J2 q4.adv.pos 5 [125])
   refine q5.done (by omega) (by simp) ?_ (fun z=>?_) (fun p hp=>?_)
   ·simp only [Zi];omega
   ·rw [Sf,hwt];unfold Uu;rw [show J3 (G3 z) ([]:List Node)=0 from rfl];simp
   ·rcases List.mem_cons.1 hp with rfl|hp
    ·exact Gb (by simp) Qc (by simp) Qc (by simp) (by simp) (by simp)
    ·exact hfit p hp
  ·rename_i hi;have hi:T0 l (ex (Qb l (X4 l s 1 had).2 5 [61])).2 5 [44]=true:=by simpa using hi
   have q5:=q4.tok (by omega) (Ae q4.adv.pos hi)
   have hh:=Sk he1;exact dW hT hex hP f _ _ _ _ _ q5 (by omega) hwt hfit (by simp;omega) (by simp;omega)
theorem Zfs (hT:Toks l) (hex:∀ s,Pos l s→Reads l s (ex s)) {s:St6} (h:Pos l s):Reads0 l s (yY ex l s):=by
 unfold yY;split
 ·rename_i hi;exact ((Sq.refl h).tok (by omega) (Ae h hi)).leaf (by omega) (fun z=>by rfl) (Gb (by simp) Qc (by simp) Qc (by simp) (by simp) (by simp))
 ·exact dW hT hex h 51 _ [] _ _ _ (Sq.refl h) (by omega) (fun z=>rfl) (fun p hp=>by cases hp) (by simp) (by simp)
end
theorem Dy {l:List Tok} {s:St6} (h:G7 l s=true):s.e=0∧s.at_<l.length:=by
 unfold G7 at h;split at h
 ·cases h
 ·rename_i a;by_cases he:s.e=0
  ·refine ⟨he,?_⟩;by_cases hl:s.at_<l.length
   ·exact hl
   ·exact absurd (.inr (by omega)) a
  ·exact absurd (.inl he) a
theorem Zfl {l:List Tok} {b:Int} {s:St6} (h:Sc l b s=true):s.e=0∧s.at_<l.length:=by
 unfold Sc at h;simp only [Zg,Zp,Jw] at h;exact ⟨h.1,h.2.1⟩
theorem Cg {l:List Tok} (hT:Toks l) (i:Int):(tk l i).text.length≤1000000:=by
 unfold tk;rw [Zc];cases hk:l[i.toNat]? with
 | none=>simp [Yy]
 | some x=>exact (hT.ok x (List.mem_of_getElem? hk)).1
section
variable {ex:Zni} {l:List Tok} {v:Int}
theorem Ct {s:St6} (h:Pos l s) (he:s.e=0) (hl:s.at_<l.length) {p:Part} (hp:∀ z,Uu z p=0) (hf:Tm p):Reads l s ([p],Xh s) :=
 Reads0.behind h he hl ((Sq.refl (bG h he hl).adv.pos).leaf (by omega) hp hf)
theorem iY {k m n i:Int} {c:List UInt8} (h:c.length≤3000000):Tm ⟨k,[],c,[],m,n,[⟨i,[],0⟩],[]⟩ :=
 Gb (by simp) (fun x hx=>by rw [List.mem_singleton.1 hx];simp) (by simp) Qc (by simp) h (by simp)
theorem fT (hT:Toks l) (hex:∀ s,Pos l s→Reads l s (ex s)) (h1:1≤v) (h2:v≤100) {s:St6} (h:Pos l s):Reads l s (jY ex l v s):=by
 unfold jY;by_cases hb:s.e≠0∨G7 l s=false
 ·rw [if_pos hb];exact Pd h (by decide)
 rw [if_neg hb];have hb:G7 l s=true:=by
  cases hx:G7 l s
  ·exact absurd (.inr hx) hb
  ·rfl
 obtain ⟨he,hl⟩:=Dy hb;have hP:=(bG h he hl).adv.pos;have ht:=Cg hT s.at_
 dsimp only
 split
 ·exact Ct h he hl (fun z=>by rfl) (iY (by simp))
 split
 ·exact Ct h he hl (fun z=>by rfl) (iY (by omega))
 split
 ·exact Ct h he hl (fun z=>by rfl) (iY (by simp))
 split
 ·split
  ·exact Ct h he hl (fun z=>by rfl) (Gb (by simp) Qc (by simp) Qc (by simp) (by omega) (by simp))
  ·rename_i hi;have hi:T0 l (Xh s) 5 [33]=true:=by simpa using hi
   have q1:=(Sq.refl hP).tok (by omega) (Ae hP hi)
   have q2:=q1.tok (by omega) (N6 q1.adv.pos 1)
   have hn:=X2 hT (Xh (Xh s)) 1;exact Reads0.behind h he hl (q2.leaf (by omega) (fun z=>by rfl) (Gb (by simp) Qc (by simp) Qc (by simp) (by simp;omega) (by simp)))
 split
 ·exact Reads0.behind h he hl (Zcy hT hex h1 h2 hP)
 split
 ·exact Reads0.behind h he hl (Zfs hT hex hP)
 ·exact Reads0.behind h he hl (Za4 hT hex h1 h2 hP)
theorem En (hT:Toks l) {s:St6}:∀ (f:Nat) (r:List Part×St6),Pos l s→Reads l s r→Reads l s (I8 l f r)
 | 0,r,_,h=>h
 | f+1,r,hP,h=>by
  rw [I8];split
  ·exact h
  rename_i hi;have hi:T0 l r.2 5 [46]=true:=by simpa using hi
  have he:=(Lk hi).1;have hs:=h.adv.ok0 he;have q1:=(Sq.refl hP).read (by omega) h
  have t2:=Ae q1.adv.pos hi;have q2:=q1.tok (by omega) t2
  have t3:=N6 q2.adv.pos 1;have q3:=q2.tok (by omega) t3
  have hn:=X2 hT (Xh r.2) 1;have hk:=(h.ok he).2;have hm:=h.adv.hi;have hl:=(Lk hi).2;have ha:(Xh r.2).at_=r.2.at_+1:=rfl;refine En hT f _ hP (q3.fin (by omega) hs (by unfold Xr;simp) (fun h0=>?_) ?_ (fun z=>?_) (N8 (Gb (by simp) Qc (by simp) Qc (by simp) (by omega) (by simp)) fun x hx q hq=>?_))
  ·have:=t3.adv.mono h0;rw [K4];simp;omega
  ·rw [K4];simp;omega
  ·rw [Y3];unfold Uu;rw [show J3 (G3 z) ([]:List Node)=0 from rfl];simp
  ·simp only [Zr] at hx;subst hx;exact h.fit q hq
theorem Cs (hT:Toks l) (hex:∀ s,Pos l s→Reads l s (ex s)) (h1:1≤v) (h2:v≤100) {s:St6} (h:Pos l s):Reads l s (dB ex l v s) :=
 En hT _ _ h (fT hT hex h1 h2 h)
theorem yW {s a:St6} {r x:List Part×St6} (hP:Pos l s) (h:Reads l s r) (hs:s.e=0) (he:r.2.e=0) (hx:Reads l a x) {m:Int} (q:Sq l m s a r.1.length fun z=>W1 z r.1) (hm:0≤m) (ha:r.2.at_≤a.at_) (ha2:a.at_≤l.length) {p:Part} (hp:∀ z,Uu z p=0) (hf:Tm p):Reads l s (Xr p [⟨r.1⟩,⟨x.1⟩],x.2):=by
 have q2:=q.read hm hx;have hk:=(h.ok he).2;have hn:=hx.len;refine q2.fin (by omega) hs (by unfold Xr;simp) (fun h0=>?_) ?_ (fun z=>?_) (N8 hf fun y hy t ht=>?_)
 ·have:=(hx.ok h0).2;rw [K4];simp;omega
 ·rw [K4];simp;omega
 ·rw [Y3,hp];simp
 ·simp only [Xn,Ns,or_false] at hy;rcases hy with rfl|rfl
  ·exact h.fit t ht
  ·exact hx.fit t ht
theorem Le (hT:Toks l) (hex:∀ s,Pos l s→Reads l s (ex s)) (h1:1≤v) (h2:v≤100) {s:St6}:∀ (f:Nat) (r:List Part×St6),Pos l s→Reads l s r→Reads l s (N7 ex l v f r)
 | 0,r,_,h=>h
 | f+1,r,hP,h=>by
  rw [N7];split
  ·exact h
  rename_i hi;obtain ⟨he,hl⟩:=Dy (by simpa using hi:G7 l r.2=true)
  have hs:=h.adv.ok0 he;have q1:=(Sq.refl hP).read (by omega) h
  simp only [Int.zero_add,Nat.zero_add] at q1;exact Le hT hex h1 h2 f _ hP (yW hP h hs he (Cs hT hex h1 h2 q1.adv.pos) q1 (by omega) (Int.le_refl _) (by omega) (fun z=>by rfl) (Gb (by simp) Qc (by simp) Qc (by simp) (by simp) (by simp)))
theorem xJ (hT:Toks l) (hex:∀ s,Pos l s→Reads l s (ex s)) (h1:1≤v) (h2:v≤100) {s:St6} (h:Pos l s):Reads l s (Tu ex l v s) :=
 Le hT hex h1 h2 _ _ h (Cs hT hex h1 h2 h)
theorem A7 (hT:Toks l) {b:Int} {sub:Zni} (hsub:∀ s,Pos l s→Reads l s (sub s)) {s:St6}:∀ (f:Nat) (r:List Part×St6),Pos l s→Reads l s r→Reads l s (Za7 l b sub f r)
 | 0,r,_,h=>h
 | f+1,r,hP,h=>by
  rw [Za7];split
  ·exact h
  rename_i hi;obtain ⟨he,hl⟩:=Zfl (by simpa using hi:Sc l b r.2=true)
  have hs:=h.adv.ok0 he;have q1:=(Sq.refl hP).read (by omega) h
  simp only [Int.zero_add,Nat.zero_add] at q1;have t2:=bG q1.adv.pos he hl;have q2:=q1.tok (by omega) t2
  have ha:(Xh r.2).at_=r.2.at_+1:=rfl;have hn:=Cg hT r.2.at_;exact A7 hT hsub f _ hP (yW hP h hs he (hsub _ q2.adv.pos) q2 (by omega) (by omega) (by omega) (fun z=>by rfl) (Gb (by simp) Qc (by simp) Qc (by simp) (by omega) (by simp)))
theorem To (hT:Toks l) (hex:∀ s,Pos l s→Reads l s (ex s)) (h1:1≤v) (h2:v≤100):∀ (m:Nat) (s:St6),Pos l s→Reads l s (xY ex l v m s)
 | 0,s,h=>xJ hT hex h1 h2 h
 | m+1,s,h=>A7 hT (To hT hex h1 h2 m) _ _ h (To hT hex h1 h2 m s h)
theorem Zft (hT:Toks l) (hex:∀ s,Pos l s→Reads l s (ex s)) (h1:1≤v) (h2:v≤100) {s:St6} (h:Pos l s):Reads l s (Zed ex l v s):=by
 unfold Zed;by_cases he:s.e=0
 ·rw [if_neg (by simpa using he)]
  split
  ·rename_i hk;have hP:=(bG h he hk.1).adv.pos;split
   ·exact Reads0.behind h he hk.1 (Ziw hT hex h1 h2 hP)
   split
   ·exact Reads0.behind h he hk.1 (Ziv hT hex h1 h2 hP)
   split
   ·exact Reads0.behind h he hk.1 (Ziu hT hex h1 h2 hP)
   split
   ·exact Reads0.behind h he hk.1 (Zfu hex hP)
   split
   ·exact Reads0.behind h he hk.1 (Zcz hT hex hP)
   ·exact To hT hex h1 h2 5 s h
  ·exact To hT hex h1 h2 5 s h
 ·rw [if_pos he];exact Zix h he
end
theorem Q5 {l:List Tok} (hT:Toks l):∀ (d:Nat),d≤100→∀ (s:St6),Pos l s→Reads l s (Jm l d s)
 | 0,_,s,h=>Pd h (by decide)
 | d+1,hd,s,h=>Zft hT (Q5 hT d (by omega)) (by omega) (by omega) h
structure St6In (l:List Tok) (s:St6):Prop where
 toks:Toks l
 pos:Pos l s
 all:s.sites.length≤850000
 ok:s.e=0→(s.sites.length:Int)≤700000+s.at_
theorem St6In.go {l:List Tok} {s r:St6} (h:St6In l s) {m q:Int} (hA:Adv l m q s r) (hm:0≤m) (hq:q≤1):St6In l r:=by
 have hl:=h.toks.len;refine ⟨h.toks,hA.pos,?_,fun he=>?_⟩
 ·by_cases he:s.e=0
  ·have:=hA.room he;have:=h.ok he;omega
  ·rw [hA.err he];exact h.all
 ·have hs:=hA.ok0 he;have:=h.ok hs;have:=(hA.gain he).2;omega
theorem St6In.ok6 {l:List Tok} {s:St6} (h:St6In l s):St6Ok l s :=
 ⟨h.toks.len,h.pos.lo,h.pos.hi,by have:=h.all;omega,fun t ht=>(h.toks.ok t ht).1,fun t ht=>(h.toks.ok t ht).2⟩
theorem St6In.nums {l:List Tok} {s:St6} (h:St6In l s):l.length≤1000000∧0≤s.at_∧s.at_≤2000000:=by
 have h1:=h.toks.len;have h2:=h.pos.lo;have h3:=h.pos.hi;exact ⟨by omega,h2,by omega⟩
theorem St6In.needs {l:List Tok} {s:St6} (h:St6In l s) (k:Int) (x:List UInt8):St6In l (Qb l s k x):=h.go (N0 h.pos k x) (by omega) (by omega)
theorem St6In.named {l:List Tok} {s:St6} (h:St6In l s) (k:Int):St6In l (Q7 l s k).2:=h.go (M1 h.pos k) (by omega) (by omega)
theorem St6In.label {l:List Tok} {s:St6} (h:St6In l s) (k:Int) (had:List (List UInt8)):St6In l (X4 l s k had).2:=h.go (cO h.pos k had) (by omega) (by omega)
theorem St6In.expr {l:List Tok} {s:St6} (h:St6In l s) {d:Nat} (hd:d≤100):St6In l (Jm l d s).2:=h.go (Q5 h.toks d hd s h.pos).adv (by omega) (by omega)
theorem St6In.adv {l:List Tok} {s:St6} (h:St6In l s) (he:s.e=0) (hl:s.at_<l.length):St6In l (Xh s):=h.go (bG h.pos he hl).adv (by omega) (by omega)
theorem St6In.is {l:List Tok} {s:St6} (h:St6In l s) {k:Int} {x:List UInt8} (hi:T0 l s k x=true):St6In l (Xh s):=h.adv (Lk hi).1 (Lk hi).2
theorem Jy {l:List Tok} {s:St6} {r:List Part×St6} (h:St6In l s) (hR:Reads l s r):r.1.length≤300000:=by
 have h1:=hR.len;have h2:=h.toks.len;have h3:=h.pos.lo;omega
def Xc (n:Nat):Con:=Hd (fun (l:Sl Tok) (s:St6) (v:Int)=>St6In l.l s∧1≤v∧v≤101∧20*(101-v)+12<n) (fun l s v=>Jm l.l (101-v).toNat s)
theorem Wd:type_of% @Xc.eq_def:=@Xc.eq_def
def Ly (n:Nat):Con:=Hd (fun (l:Sl Tok) (s:St6) (v:Int)=>St6In l.l s∧1≤v∧v≤100∧20*(101-v)+5<n) (fun l s v=>Zjn (Jm l.l (100-v).toNat) l.l v s)
def Lv (n:Nat):Con:=Hd (fun (l:Sl Tok) (s:St6) (v:Int)=>St6In l.l s∧1≤v∧v≤100∧20*(101-v)+5<n) (fun l s v=>Zjh (Jm l.l (100-v).toNat) l.l v s)
def Ls (n:Nat):Con:=Hd (fun (l:Sl Tok) (s:St6) (v:Int)=>St6In l.l s∧1≤v∧v≤100∧20*(101-v)+5<n) (fun l s v=>Zit (Jm l.l (100-v).toNat) l.l v s)
def Mv (n:Nat):Con:=Hd (fun (l:Sl Tok) (s:St6) (v:Int)=>St6In l.l s∧1≤v∧v≤100∧20*(101-v)+5<n) (fun l s v=>zU (Jm l.l (100-v).toNat) l.l s)
def Nq (n:Nat):Con:=Hd (fun (l:Sl Tok) (s:St6) (v:Int)=>St6In l.l s∧1≤v∧v≤100∧20*(101-v)+5<n) (fun l s v=>iS (Jm l.l (100-v).toNat) l.l s)
def U4 (n:Nat):Con:=Hd (fun (l:Sl Tok) (s:St6) (v:Int)=>St6In l.l s∧1≤v∧v≤100∧20*(101-v)+5<n) (fun l s v=>Tu (Jm l.l (100-v).toNat) l.l v s)
def Mt (n:Nat):Con:=Hd (fun (l:Sl Tok) (s:St6) (v:Int)=>St6In l.l s∧1≤v∧v≤100∧20*(101-v)+4<n) (fun l s v=>dB (Jm l.l (100-v).toNat) l.l v s)
def Mx (n:Nat):Con:=Hd (fun (l:Sl Tok) (s:St6) (v:Int)=>St6In l.l s∧1≤v∧v≤100∧20*(101-v)+3<n) (fun l s v=>jY (Jm l.l (100-v).toNat) l.l v s)
def Nn (n:Nat):Con:=Hd (fun (l:Sl Tok) (s:St6) (v:Int)=>St6In l.l s∧2≤v∧v≤101∧20*(101-v)+13<n) (fun l s v=>bT (Jm l.l (101-v).toNat) l.l (v-1) s)
def Mr (n:Nat):Con:=Hd (fun (l:Sl Tok) (s:St6) (v:Int)=>St6In l.l s∧2≤v∧v≤101∧20*(101-v)+13<n) (fun l s v=>yY (Jm l.l (101-v).toNat) l.l s)
def Gj (n:Nat):Con:=Hd (fun (l:Sl Tok) (s:St6) (v:Int)=>St6In l.l s∧2≤v∧v≤101∧20*(101-v)+13<n) (fun l s v=>Fx (Jm l.l (101-v).toNat) l.l (v-1) s)
def Pu (n:Nat):Con:=Zeo (fun (l:Sl Tok) (s:St6) (v b:Int)=>St6In l.l s∧1≤v∧v≤100∧0≤b∧b≤5∧20*(101-v)+(11-b)<n) (fun l s v b=>xY (Jm l.l (100-v).toNat) l.l v (5-b).toNat s)
structure IH6 (n:Nat):Prop where
 expr:Qr Tryz.prog (186,Xc n)
 fun_:Qr Tryz.prog (225,Ly n)
 let_:Qr Tryz.prog (226,Lv n)
 rec_:Qr Tryz.prog (227,Ls n)
 cond:Qr Tryz.prog (228,Mv n)
 cases:Qr Tryz.prog (229,Nq n)
 operand:Qr Tryz.prog (254,U4 n)
 part:Qr Tryz.prog (260,Mt n)
 atom:Qr Tryz.prog (266,Mx n)
 paren:Qr Tryz.prog (271,Nn n)
 rows:Qr Tryz.prog (272,Mr n)
 inject:Qr Tryz.prog (273,Gj n)
 ops:Qr Tryz.prog (230,Pu n)
theorem iL:∀ c,¬ (Xc 0).pre c:=by
 intro c h;unfold Xc at h;obtain ⟨_,_,_,_,_,_,_,h⟩:=Jv h;omega
theorem xI:∀ c,¬ (Ly 0).pre c:=by
 intro c h;unfold Ly at h;obtain ⟨_,_,_,_,_,_,_,h⟩:=Jv h;omega
theorem xH:∀ c,¬ (Lv 0).pre c:=by
 intro c h;unfold Lv at h;obtain ⟨_,_,_,_,_,_,_,h⟩:=Jv h;omega
theorem xF:∀ c,¬ (Ls 0).pre c:=by
 intro c h;unfold Ls at h;obtain ⟨_,_,_,_,_,_,_,h⟩:=Jv h;omega
theorem iM:∀ c,¬ (Mv 0).pre c:=by
 intro c h;unfold Mv at h;obtain ⟨_,_,_,_,_,_,_,h⟩:=Jv h;omega
theorem eN:∀ c,¬ (Nq 0).pre c:=by
 intro c h;unfold Nq at h;obtain ⟨_,_,_,_,_,_,_,h⟩:=Jv h;omega
theorem aF:∀ c,¬ (U4 0).pre c:=by
 intro c h;unfold U4 at h;obtain ⟨_,_,_,_,_,_,_,h⟩:=Jv h;omega
theorem iI:∀ c,¬ (Mt 0).pre c:=by
 intro c h;unfold Mt at h;obtain ⟨_,_,_,_,_,_,_,h⟩:=Jv h;omega
theorem iN:∀ c,¬ (Mx 0).pre c:=by
 intro c h;unfold Mx at h;obtain ⟨_,_,_,_,_,_,_,h⟩:=Jv h;omega
theorem eM:∀ c,¬ (Nn 0).pre c:=by
 intro c h;unfold Nn at h;obtain ⟨_,_,_,_,_,_,_,h⟩:=Jv h;omega
theorem iG:∀ c,¬ (Mr 0).pre c:=by
 intro c h;unfold Mr at h;obtain ⟨_,_,_,_,_,_,_,h⟩:=Jv h;omega
theorem cH:∀ c,¬ (Gj 0).pre c:=by
 intro c h;unfold Gj at h;obtain ⟨_,_,_,_,_,_,_,h⟩:=Jv h;omega
theorem xG:∀ c,¬ (Pu 0).pre c:=by
 intro c h;unfold Pu at h;obtain ⟨_,_,_,_,_,_,_,_,_,_,h⟩:=Zen h;omega
theorem Gx {a:Int} {b c d:List UInt8} {e f:Int} {g:List Node}:Up Part (.agg [.int .i64 a,.str b,.str c,.str d,.int .i64 e,.int .i64 f,.list 3 (g.map enc),.list 3 []])=True:=eq_true (Yc (Part.mk a b c d e f g []))
theorem G5 {a:Int} {b c d:List UInt8} {e f:Int} {g:List Node}:(dec (.agg [.int .i64 a,.str b,.str c,.str d,.int .i64 e,.int .i64 f,.list 3 (g.map enc),.list 3 []]):Part)=⟨a,b,c,d,e,f,g,[]⟩:=Enc.dec_enc (Part.mk a b c d e f g [])
theorem Nx {a:Int} {b c d:List UInt8} {e f:Int}:Up Part (.agg [.int .i64 a,.str b,.str c,.str d,.int .i64 e,.int .i64 f,.list 3 [],.list 3 []])=True:=eq_true (Yc (Part.mk a b c d e f [] []))
theorem Nz {a:Int} {b c d:List UInt8} {e f:Int}:(dec (.agg [.int .i64 a,.str b,.str c,.str d,.int .i64 e,.int .i64 f,.list 3 [],.list 3 []]):Part)=⟨a,b,c,d,e,f,[],[]⟩:=Enc.dec_enc (Part.mk a b c d e f [] [])
theorem Nw {a:Int} {b c d:List UInt8} {e f:Int} {g:List Node}:Up Part (.agg [.int .i64 a,.str b,.str c,.str d,.int .i64 e,.int .i64 f,enc (Sl.mk g),.list 3 []])=True:=Gx
theorem Ny {a:Int} {b c d:List UInt8} {e f:Int} {g:List Node}:(dec (.agg [.int .i64 a,.str b,.str c,.str d,.int .i64 e,.int .i64 f,enc (Sl.mk g),.list 3 []]):Part)=⟨a,b,c,d,e,f,g,[]⟩:=G5
theorem K7 {a:Int} {b c d:List UInt8} {e f:Int} {g h:List Node}:Up Part (.agg [.int .i64 a,.str b,.str c,.str d,.int .i64 e,.int .i64 f,enc (Sl.mk g),enc (Sl.mk h)])=True:=Z6
theorem Gi {a:Int} {b c d:List UInt8} {e f:Int} {g h:List Node}:(dec (.agg [.int .i64 a,.str b,.str c,.str d,.int .i64 e,.int .i64 f,enc (Sl.mk g),enc (Sl.mk h)]):Part)=⟨a,b,c,d,e,f,g,h⟩:=Z7
theorem Zfj (n:Nat) (ih:IH6 n):Qr Tryz.prog (225,(Ly (n+1))):=by
 obtain ⟨Kx,Kt,Kc,Kd,Kb,Ku,Kw,K,Yj,Kv,P4,B6,_⟩:=Wi Z3 Zn [] false (Ja Uz N3 (Ja E1 Mw.eq_def (Ja good_made6 Kj (Ja ih.expr (Wd n) Wg))));have Ko:=(Ly.eq_def (n+1));refine Wh K Tryz.func225 [.tmp 6,.cell 7 137] rfl 43 rfl (fun c hc cvs hpre=>?_);unfold Ly at hpre;obtain ⟨⟨l⟩,s,v,rfl,hS,hv1,hv2,hn⟩:=Jv hpre;simp only at hS;clear hpre;obtain ⟨d,hd⟩:∃ d:Nat,v=100-d:=⟨(100-v).toNat,by omega⟩
 subst hd;have Qh:(100-(100-(d:Int))).toNat=d:=by omega
 have Qi:(101-(100-(d:Int)+1)).toNat=d:=by omega
 have hd4:d≤100:=by omega
 have hT:=hS.toks;obtain ⟨R,Q2⟩:=exq (Zjn (Jm l d) l (100-(d:Int)) s);have hR2:=Q2;unfold Zjn at hR2;have k1:=hS.needs 5 [40];have hb:=B5 hT k1.pos (v:=100-(d:Int)) fun _=>⟨hv1,hv2⟩;have k2:=k1.go hb.adv (by omega) (by omega)
 have k3:=k2.needs 5 [41];have k4:=k3.needs 5 [45,62];have hx:=Jy k4 (Q5 hT d hd4 _ k4.pos);have k5:=k4.expr hd4;obtain ⟨⟨i1,ss1,e1⟩,Z2⟩:=exq (Qb l s 5 [40]);rw [Z2] at hR2 k1 k2 k3 k4 hx k5;obtain ⟨⟨x,t,⟨i2,ss2,e2⟩⟩,Qd⟩:=exq (Nr l ⟨i1,ss1,e1⟩ (100-(d:Int)));rw [Qd] at hR2 k2 k3 k4 hx k5;simp only at hR2 k2 k3 k4 hx k5;obtain ⟨⟨i3,ss3,e3⟩,Z5⟩:=exq (Qb l ⟨i2,ss2,e2⟩ 5 [41]);rw [Z5] at hR2 k3 k4 hx k5;obtain ⟨⟨i4,ss4,e4⟩,Z9⟩:=exq (Qb l ⟨i3,ss3,e3⟩ 5 [45,62]);rw [Z9] at hR2 k4 hx k5;obtain ⟨⟨E,⟨i5,ss5,e5⟩⟩,Qu⟩:=exq (Jm l d ⟨i4,ss4,e4⟩);rw [Qu] at hR2 hx k5;simp only at hR2 hx k5;obtain ⟨M,Q0⟩:=exq (Xr ⟨2,[],[],x,0,0,t,[]⟩ [⟨E⟩]);rw [Q0] at hR2;obtain ⟨i0,ss0,e0⟩:=s;have o0:=hS.nums;have o2:=k2.nums;have o3:=k3.nums;have o1:=k1.ok6;simp only at o0 o2 o3;have hmk:∀ y∈([⟨E⟩]:List (Sl Part)),y.l.length≤1000000:=by
  intro y hy;rw [List.mem_singleton.1 hy];show E.length≤_;omega
 subst hR2;cases hc;refine Ys 2 ?_;have Qz:=@Hd.eq_def;have Zv:=@T8.eq_def;have Zx:=@Fh.eq_def;have Zu:=@Nw;have Zy:=@Ny;have Zz:=@K7;have Z4:=@Gi;have Zs:=@Gx;have Zt:=@G5;have Z8:=@Nx;have Qt:=@Nz;have Qw:=@Qx;have Qv:=@Jd;have Qj:=@Je;exact L9
theorem Zfi (n:Nat) (ih:IH6 n):Qr Tryz.prog (226,(Lv (n+1))):=by
 obtain ⟨Kx,Kt,Kc,Kd,Kb,Ku,Kw,K,Yj,Kv,P4,B6,D2,_⟩:=Wi Z3 Zn [] false (Ja Uz N3 (Ja Fz Lx.eq_def (Ja E1 Mw.eq_def (Ja good_made6 Kj (Ja ih.expr (Wd n) Wg)))));have Ko:=(Lv.eq_def (n+1));refine Wh K Tryz.func226 [.tmp 6,.cell 7 137] rfl 50 rfl (fun c hc cvs hpre=>?_);unfold Lv at hpre;obtain ⟨⟨l⟩,s,v,rfl,hS,hv1,hv2,hn⟩:=Jv hpre;simp only at hS;clear hpre;obtain ⟨d,hd⟩:∃ d:Nat,v=100-d:=⟨(100-v).toNat,by omega⟩
 subst hd;have Qh:(100-(100-(d:Int))).toNat=d:=by omega
 have Qi:(101-(100-(d:Int)+1)).toNat=d:=by omega
 have hd4:d≤100:=by omega
 have hT:=hS.toks;obtain ⟨R,Q2⟩:=exq (Zjh (Jm l d) l (100-(d:Int)) s);have hR2:=Q2;unfold Zjh at hR2;have hb:=B5 hT hS.pos (v:=100-(d:Int)) fun _=>⟨hv1,hv2⟩;have k2:=hS.go hb.adv (by omega) (by omega)
 have k3:=k2.needs 5 [61];have hx:=Jy k3 (Q5 hT d hd4 _ k3.pos);have k4:=k3.expr hd4;have k5:=k4.needs 6 [105,110];have hx2:=Jy k5 (Q5 hT d hd4 _ k5.pos);have k6:=k5.expr hd4;obtain ⟨⟨x,t,⟨i2,ss2,e2⟩⟩,Z2⟩:=exq (Nr l s (100-(d:Int)));rw [Z2] at hR2 k2 k3 hx k4 k5 hx2 k6;simp only at hR2 k2 k3 hx k4 k5 hx2 k6;obtain ⟨⟨i3,ss3,e3⟩,Qd⟩:=exq (Qb l ⟨i2,ss2,e2⟩ 5 [61]);rw [Qd] at hR2 k3 hx k4 k5 hx2 k6;obtain ⟨⟨A,⟨i4,ss4,e4⟩⟩,Z5⟩:=exq (Jm l d ⟨i3,ss3,e3⟩);rw [Z5] at hR2 hx k4 k5 hx2 k6;simp only at hR2 hx k4 k5 hx2 k6;obtain ⟨⟨i5,ss5,e5⟩,Z9⟩:=exq (Qb l ⟨i4,ss4,e4⟩ 6 [105,110]);rw [Z9] at hR2 k5 hx2 k6;obtain ⟨⟨B,⟨i6,ss6,e6⟩⟩,Qu⟩:=exq (Jm l d ⟨i5,ss5,e5⟩);rw [Qu] at hR2 hx2 k6;simp only at hR2 hx2 k6;obtain ⟨M,Q0⟩:=exq (Xr ⟨4,[],[],x,0,0,t,[]⟩ [⟨A⟩,⟨B⟩]);rw [Q0] at hR2;obtain ⟨i0,ss0,e0⟩:=s;have o0:=hS.ok6;have o2:=k2.nums;have o4:=k4.nums;simp only at o2 o4;have ha1:A.length≤1000000:=by omega
 have hb1:B.length≤1000000:=by omega
 subst hR2;cases hc;refine Ys 3 ?_;have Qz:=@Hd.eq_def;have Zv:=@T8.eq_def;have Zx:=@Fh.eq_def;have Zu:=@Nw;have Zy:=@Ny;have Zz:=@K7;have Z4:=@Gi;have Zs:=@Gx;have Zt:=@G5;have Z8:=@Nx;have Qt:=@Nz;have Qw:=@Qx;have Qv:=@Jd;have Qj:=@Je;exact L9
theorem Zcl (n:Nat) (ih:IH6 n):Qr Tryz.prog (228,(Mv (n+1))):=by
 obtain ⟨Kx,Kt,Kc,Kd,Kb,Ku,Kw,K,Yj,Kv,P4,_⟩:=Wi Z3 Zn [] false (Ja Fz Lx.eq_def (Ja good_made6 Kj (Ja ih.expr (Wd n) Wg)));have Ko:=(Mv.eq_def (n+1));refine Wh K Tryz.func228 [.tmp 6,.cell 7 137] rfl 48 rfl (fun c hc cvs hpre=>?_);unfold Mv at hpre;obtain ⟨⟨l⟩,s,v,rfl,hS,hv1,hv2,hn⟩:=Jv hpre;simp only at hS;clear hpre;obtain ⟨d,hd⟩:∃ d:Nat,v=100-d:=⟨(100-v).toNat,by omega⟩
 subst hd;have Qh:(100-(100-(d:Int))).toNat=d:=by omega
 have Qi:(101-(100-(d:Int)+1)).toNat=d:=by omega
 have hd4:d≤100:=by omega
 have hT:=hS.toks;obtain ⟨R,Q2⟩:=exq (zU (Jm l d) l s);have hR2:=Q2;unfold zU at hR2;have hx:=Jy hS (Q5 hT d hd4 _ hS.pos);have k2:=hS.expr hd4;have k3:=k2.needs 6 [116,104,101,110];have hx2:=Jy k3 (Q5 hT d hd4 _ k3.pos);have k4:=k3.expr hd4;have k5:=k4.needs 6 [101,108,115,101];have hx3:=Jy k5 (Q5 hT d hd4 _ k5.pos);have k6:=k5.expr hd4;obtain ⟨⟨A,⟨i2,ss2,e2⟩⟩,Z2⟩:=exq (Jm l d s);rw [Z2] at hR2 hx k2 k3 hx2 k4 k5 hx3 k6;simp only at hR2 hx k2 k3 hx2 k4 k5 hx3 k6;obtain ⟨⟨i3,ss3,e3⟩,Qd⟩:=exq (Qb l ⟨i2,ss2,e2⟩ 6 [116,104,101,110]);rw [Qd] at hR2 k3 hx2 k4 k5 hx3 k6;obtain ⟨⟨B,⟨i4,ss4,e4⟩⟩,Z5⟩:=exq (Jm l d ⟨i3,ss3,e3⟩);rw [Z5] at hR2 hx2 k4 k5 hx3 k6;simp only at hR2 hx2 k4 k5 hx3 k6;obtain ⟨⟨i5,ss5,e5⟩,Z9⟩:=exq (Qb l ⟨i4,ss4,e4⟩ 6 [101,108,115,101]);rw [Z9] at hR2 k5 hx3 k6;obtain ⟨⟨D_1,⟨i6,ss6,e6⟩⟩,Qu⟩:=exq (Jm l d ⟨i5,ss5,e5⟩);rw [Qu] at hR2 hx3 k6;simp only at hR2 hx3 k6;obtain ⟨M,Q0⟩:=exq (Xr ⟨6,[],[],[],0,0,[],[]⟩ [⟨A⟩,⟨B⟩,⟨D_1⟩]);rw [Q0] at hR2;obtain ⟨i0,ss0,e0⟩:=s;have o2:=k2.nums;have o4:=k4.nums;simp only at o2 o4;have ha1:A.length≤1000000:=by omega
 have hb1:B.length≤1000000:=by omega
 have hc1:D_1.length≤1000000:=by omega
 subst hR2;cases hc;refine Ys 3 ?_;have Qz:=@Hd.eq_def;have Zv:=@T8.eq_def;have Zx:=@Nw;have Zu:=@Ny;have Zy:=@K7;have Zz:=@Gi;have Z4:=@Gx;have Zs:=@G5;have Zt:=@Nx;have Z8:=@Nz;have Qt:=@Qx;have Qw:=@Jd;have Qv:=@Je;exact L9
theorem Zi4 {l:List Tok} {s:St6} (h:Pos l s) (k:Int) (x:List UInt8):(Qb l s k x).e=0→1≤(Qb l s k x).at_:=fun he=>by
 have h1:=(N0 h k x).gain he;have h2:=h.lo;omega
theorem Zsa {p:Prop} (h:p:=by (sym=>simp [Kt,Kc,Kd,Kb,Ku,Kw,Ko,Yj,Kv,P4,B6,D2,It,bD,jC,jH,jG,Qh,Qi,Z2,Qd,Z5,Z9,Qu,Q0,Q2,Qz,Zv,Zx,Zu,Zy,Zz,Z4,Zs,Zt,Z8,Qt,Qw,Qv,Qj,Qq,Q6,Q9,Wb,Xp,X8,X7,X6,V7,V6,V5,Ul,Uk,Uj,D.setCell.eq_1,Jo,Fh.eq_def,Zkd,Zeo.eq_def,eO.eq_def,Q1,Jh,Jt,Xg,Xq,J8,T8.eq_def,J7,Hd.eq_def,Js,Wd,Qn,Z7,Nz,Ny,Gi,G5,Je,Yf,Jg,Qf,Z0,Yn,Qx,Jk,Qm,Jn,Kr,Ql,Z6,Nx,Nw,K7,Gx,Jd,Yd,Jj,Jc,X3,Qk,Qa,Bf,Mh,Ay,Be,W9,Xe,wU,wT,wS,wR,wP,wO,wN,wM,wL,wI,wH,wG,wF,wE,wD,wC,wB,wA,wK,wW,wV,wY,wJ,wX,wZ,wQ,vU,vT,vS,vR,vP,vO,vN,vM,vL,vI,vH,vG,vF,vE,vD,vC,vB,vA,vK,vW,vV,vY,vJ,vX,vZ,vQ,uU,uT,uS,uR,uP,uO,uN,uM,uL,uI,uH,uG,uF,uE,uD,uC,uB,uA,uK,uW,uV,uY,uJ,uX,uZ,uQ,tU,tT,tS,tR,tP,tO,tN,tM,tL,tI,tH,tG,tF,tE,tD,tC,tB,tA,tK,tW,tV,tY,tJ,tX,tZ,tQ,sU,sT,sS,sR,sP,sO,sN,sM,sL,sI,sH,sG,sF,sE,sD,sC,sB,sA,sK,sW,sV,sY,sJ,sX,sZ,sQ,rU,rT,rS,rR,rP,rO,rN,rM,rL,rI,rH,rG,rF,rE,rD,rC,rB,rA,rK,rW,rV,rY,rJ,rX,rZ,rQ,qU,qT,qS,qR,qP,qO,qN,qM,qL,qI,qH,qG,qF,qE,qD,qC,qB,qA,qK,qW,qV,qY,qJ,qX,qZ,qQ,pU,pT,pS,pR,pP,pO,pN,pM,pL,pI,pH,pG,pF,pE,pD,pC,pB,pA,pK,pW,pV,pY,pJ,pX,pZ,pQ,oU,oT,oS,oR,oP,oO,oN,oM,oL,oI,oH,oG,oF,oE,oD,oC,oB,oA,oK,oW,oV,oY,oJ,oX,oZ,oQ,nU,nT,nS,nR,nP,nO,nN,nM,nL,nI,nH,nG,nF,nE,nD,nC,nB,nA,nK,nW,nV,nY,nJ,nX,nZ,nQ,mU,mT,mS,mR,mP,mO,mN,mM,mL,mI,mH,mG,mF,mE,mD,mC,mB,mA,mK,mW,mV,mY,mJ,mX,mZ,mQ,lU,lT,lS,lR,lP,lO,lN,lM,lL,lI,lH,lG,lF,lE,lD,lC,lB,lA,lK,lW,lV,lY,lJ,lX,lZ,lQ,kU,kT,kS,kR,kP,kO,kN,kM,kL,kI,kH,kG,kF,kE,kD,kC,kB,kA,kK,kW,kV,kY,kJ,kX,kZ,kQ,jU,jT,jS,jR,jP,jO,jN,jM,jL,jI,S9,S8,S7,S6,S5,S4,H6,H5,H4,H3,H2,H1,H0,Hz,Hy,Hx,Hw,Hv,Hu,Ht,Hs,Hr,Hq,Hp,Ho,Hn,Hm,Hl,Hk,Hj,Hi,Hh,Hg,V2,V1,V0,Vz,Vy,Vx,Vw,Vv,Vu,Vt,Vs,Vr,Vq,Vp,Vo,Vn,Vm,Vl,Vk,Vj,Vi,Vh,Vg,Vf,Ve,Vd,Vc,Vb,Va,Y9,Y8])):p:=h
theorem dZ {p:Prop} (h:p:=by
 (sym=>simp [Kt,Kc,Kd,Kb,Ku,Kw,Ko,Yj,Kv,P4,B6,D2,It,bD,jC,jH,jG,Qh,Qi,Z2,Qd,Z5,Z9,Qu,Q0,Q2,Qz,Zv,Zx,Zu,Zy,Zz,Z4,Zs,Zt,Z8,Qt,Qw,Qv,Qj,Qq,Q6,Q9,Wb,Xp,X8,X7,X6,V7,V6,V5,Ul,Uk,Uj,D.setCell.eq_1,Jo,Fh.eq_def,Zkd,Zeo.eq_def,eO.eq_def,Q1,Jh,Jt,Xg,Xq,J8,T8.eq_def,J7,Hd.eq_def,Js,Wd,Qn,Z7,Nz,Ny,Gi,G5,Je,Yf,Jg,Qf,Z0,Yn,Qx,Jk,Qm,Jn,Kr,Ql,Z6,Nx,Nw,K7,Gx,Jd,Yd,Jj,Jc,X3,Qk,Qa,Bf,Mh,Ay,Be,W9,Xe,wU,wT,wS,wR,wP,wO,wN,wM,wL,wI,wH,wG,wF,wE,wD,wC,wB,wA,wK,wW,wV,wY,wJ,wX,wZ,wQ,vU,vT,vS,vR,vP,vO,vN,vM,vL,vI,vH,vG,vF,vE,vD,vC,vB,vA,vK,vW,vV,vY,vJ,vX,vZ,vQ,uU,uT,uS,uR,uP,uO,uN,uM,uL,uI,uH,uG,uF,uE,uD,uC,uB,uA,uK,uW,uV,uY,uJ,uX,uZ,uQ,tU,tT,tS,tR,tP,tO,tN,tM,tL,tI,tH,tG,tF,tE,tD,tC,tB,tA,tK,tW,tV,tY,tJ,tX,tZ,tQ,sU,sT,sS,sR,sP,sO,sN,sM,sL,sI,sH,sG,sF,sE,sD,sC,sB,sA,sK,sW,sV,sY,sJ,sX,sZ,sQ,rU,rT,rS,rR,rP,rO,rN,rM,rL,rI,rH,rG,rF,rE,rD,rC,rB,rA,rK,rW,rV,rY,rJ,rX,rZ,rQ,qU,qT,qS,qR,qP,qO,qN,qM,qL,qI,qH,qG,qF,qE,qD,qC,qB,qA,qK,qW,qV,qY,qJ,qX,qZ,qQ,pU,pT,pS,pR,pP,pO,pN,pM,pL,pI,pH,pG,pF,pE,pD,pC,pB,pA,pK,pW,pV,pY,pJ,pX,pZ,pQ,oU,oT,oS,oR,oP,oO,oN,oM,oL,oI,oH,oG,oF,oE,oD,oC,oB,oA,oK,oW,oV,oY,oJ,oX,oZ,oQ,nU,nT,nS,nR,nP,nO,nN,nM,nL,nI,nH,nG,nF,nE,nD,nC,nB,nA,nK,nW,nV,nY,nJ,nX,nZ,nQ,mU,mT,mS,mR,mP,mO,mN,mM,mL,mI,mH,mG,mF,mE,mD,mC,mB,mA,mK,mW,mV,mY,mJ,mX,mZ,mQ,lU,lT,lS,lR,lP,lO,lN,lM,lL,lI,lH,lG,lF,lE,lD,lC,lB,lA,lK,lW,lV,lY,lJ,lX,lZ,lQ,kU,kT,kS,kR,kP,kO,kN,kM,kL,kI,kH,kG,kF,kE,kD,kC,kB,kA,kK,kW,kV,kY,kJ,kX,kZ,kQ,jU,jT,jS,jR,jP,jO,jN,jM,jL,jI,S9,S8,S7,S6,S5,S4,H6,H5,H4,H3,H2,H1,H0,Hz,Hy,Hx,Hw,Hv,Hu,Ht,Hs,Hr,Hq,Hp,Ho,Hn,Hm,Hl,Hk,Hj,Hi,Hh,Hg,V2,V1,V0,Vz,Vy,Vx,Vw,Vv,Vu,Vt,Vs,Vr,Vq,Vp,Vo,Vn,Vm,Vl,Vk,Vj,Vi,Vh,Vg,Vf,Ve,Vd,Vc,Vb,Va,Y9,Y8];tactic =>
   try simp only [Sh] at *
   try simp only [Zhf] at *
   try simp (maxSteps:=4000000) only [Qh,Qi,Z2,Qd,Z5,Z9,Qu,Q0,Q2,Qz,Zv,Zx,Zu,Zy,Zz,Z4,Zs,Zt,Z8,Qt,Qw,Qv,Qj,Qq,Q6,Q9,Wb,Xp,X8,X7,X6,V7,V6,V5,Ul,Uk,Uj,D.setCell.eq_1,Jo,Fh.eq_def,Zkd,Zeo.eq_def,eO.eq_def,Q1,Jh,Jt,Xg,Xq,J8,T8.eq_def,J7,Hd.eq_def,Js,Wd,Qn,Z7,Nz,Ny,Gi,G5,Je,Yf,Jg,Qf,Z0,Yn,Qx,Jk,Qm,Jn,Kr,Ql,Z6,Nx,Nw,K7,Gx,Jd,Yd,Jj,Jc,X3,Qk,Qa,Bf,Mh,Ay,Be,W9,Xe,Ix]
   first|done|exact Kq.k)):p:=h
theorem Ea {p:Prop} (h:p:=by
 (sym=>simp [Kt,Kc,Kd,Kb,Ku,Kw,Ko,Yj,Kv,P4,B6,D2,It,bD,jC,jH,jG,Qh,Qi,Z2,Qd,Z5,Z9,Qu,Q0,Q2,Qz,Zv,Zx,Zu,Zy,Zz,Z4,Zs,Zt,Z8,Qt,Qw,Qv,Qj,Qq,Q6,Q9,Wb,Xp,X8,X7,X6,V7,V6,V5,Ul,Uk,Uj,D.setCell.eq_1,Jo,Fh.eq_def,Zkd,Zeo.eq_def,eO.eq_def,Q1,Jh,Jt,Xg,Xq,J8,T8.eq_def,J7,Hd.eq_def,Js,Wd,Qn,Z7,Nz,Ny,Gi,G5,Je,Yf,Jg,Qf,Z0,Yn,Qx,Jk,Qm,Jn,Kr,Ql,Z6,Nx,Nw,K7,Gx,Jd,Yd,Jj,Jc,X3,Qk,Qa,Bf,Mh,Ay,Be,W9,Xe,wU,wT,wS,wR,wP,wO,wN,wM,wL,wI,wH,wG,wF,wE,wD,wC,wB,wA,wK,wW,wV,wY,wJ,wX,wZ,wQ,vU,vT,vS,vR,vP,vO,vN,vM,vL,vI,vH,vG,vF,vE,vD,vC,vB,vA,vK,vW,vV,vY,vJ,vX,vZ,vQ,uU,uT,uS,uR,uP,uO,uN,uM,uL,uI,uH,uG,uF,uE,uD,uC,uB,uA,uK,uW,uV,uY,uJ,uX,uZ,uQ,tU,tT,tS,tR,tP,tO,tN,tM,tL,tI,tH,tG,tF,tE,tD,tC,tB,tA,tK,tW,tV,tY,tJ,tX,tZ,tQ,sU,sT,sS,sR,sP,sO,sN,sM,sL,sI,sH,sG,sF,sE,sD,sC,sB,sA,sK,sW,sV,sY,sJ,sX,sZ,sQ,rU,rT,rS,rR,rP,rO,rN,rM,rL,rI,rH,rG,rF,rE,rD,rC,rB,rA,rK,rW,rV,rY,rJ,rX,rZ,rQ,qU,qT,qS,qR,qP,qO,qN,qM,qL,qI,qH,qG,qF,qE,qD,qC,qB,qA,qK,qW,qV,qY,qJ,qX,qZ,qQ,pU,pT,pS,pR,pP,pO,pN,pM,pL,pI,pH,pG,pF,pE,pD,pC,pB,pA,pK,pW,pV,pY,pJ,pX,pZ,pQ,oU,oT,oS,oR,oP,oO,oN,oM,oL,oI,oH,oG,oF,oE,oD,oC,oB,oA,oK,oW,oV,oY,oJ,oX,oZ,oQ,nU,nT,nS,nR,nP,nO,nN,nM,nL,nI,nH,nG,nF,nE,nD,nC,nB,nA,nK,nW,nV,nY,nJ,nX,nZ,nQ,mU,mT,mS,mR,mP,mO,mN,mM,mL,mI,mH,mG,mF,mE,mD,mC,mB,mA,mK,mW,mV,mY,mJ,mX,mZ,mQ,lU,lT,lS,lR,lP,lO,lN,lM,lL,lI,lH,lG,lF,lE,lD,lC,lB,lA,lK,lW,lV,lY,lJ,lX,lZ,lQ,kU,kT,kS,kR,kP,kO,kN,kM,kL,kI,kH,kG,kF,kE,kD,kC,kB,kA,kK,kW,kV,kY,kJ,kX,kZ,kQ,jU,jT,jS,jR,jP,jO,jN,jM,jL,jI,S9,S8,S7,S6,S5,S4,H6,H5,H4,H3,H2,H1,H0,Hz,Hy,Hx,Hw,Hv,Hu,Ht,Hs,Hr,Hq,Hp,Ho,Hn,Hm,Hl,Hk,Hj,Hi,Hh,Hg,V2,V1,V0,Vz,Vy,Vx,Vw,Vv,Vu,Vt,Vs,Vr,Vq,Vp,Vo,Vn,Vm,Vl,Vk,Vj,Vi,Vh,Vg,Vf,Ve,Vd,Vc,Vb,Va,Y9,Y8];tactic =>
   try simp only [Sh] at *
   try simp only [Zhf] at *
   try simp (maxSteps:=4000000) only [Qh,Qi,Z2,Qd,Z5,Z9,Qu,Q0,Q2,Qz,Zv,Zx,Zu,Zy,Zz,Z4,Zs,Zt,Z8,Qt,Qw,Qv,Qj,Qq,Q6,Q9,Wb,Xp,X8,X7,X6,V7,V6,V5,Ul,Uk,Uj,D.setCell.eq_1,Jo,Fh.eq_def,Zkd,Zeo.eq_def,eO.eq_def,Q1,Jh,Jt,Xg,Xq,J8,T8.eq_def,J7,Hd.eq_def,Js,Wd,Qn,Z7,Nz,Ny,Gi,G5,Je,Yf,Jg,Qf,Z0,Yn,Qx,Jk,Qm,Jn,Kr,Ql,Z6,Nx,Nw,K7,Gx,Jd,Yd,Jj,Jc,X3,Qk,Qa,Bf,Mh,Ay,Be,W9,Xe,Ix]
   repeat' first|with_reducible assumption|with_reducible apply And.intro|intro _|omega|(rw [Xb];omega)
   all_goals first|with_reducible exact Jf|omega|rfl|trivial|exact Or.inr trivial|assumption|contradiction|exact Qy)):p:=h
theorem Zfh (n:Nat) (ih:IH6 n):Qr Tryz.prog (227,(Ls (n+1))):=by
 obtain ⟨Kx,Kt,Kc,Kd,Kb,Ku,Kw,K,Yj,Kv,P4,B6,D2,It,bD,_⟩:=Wi Z3 Zn [] false (Ja Y5 Ha (Ja Uz N3 (Ja Fz Lx.eq_def (Ja E1 Mw.eq_def (Ja St Np.eq_def (Ja good_made6 Kj (Ja ih.expr (Wd n) Wg)))))));have Ko:=(Ls.eq_def (n+1));refine Wh K Tryz.func227 [.tmp 6,.cell 7 137] rfl 73 rfl (fun c hc cvs hpre=>?_);unfold Ls at hpre;obtain ⟨⟨l⟩,s,v,rfl,hS,hv1,hv2,hn⟩:=Jv hpre;simp only at hS;clear hpre;obtain ⟨d,hd⟩:∃ d:Nat,v=100-d:=⟨(100-v).toNat,by omega⟩
 subst hd;have Qh:(100-(100-(d:Int))).toNat=d:=by omega
 have Qi:(101-(100-(d:Int)+1)).toNat=d:=by omega
 have hd4:d≤100:=by omega
 have hT:=hS.toks;obtain ⟨R,Zu⟩:=exq (Zit (Jm l d) l (100-(d:Int)) s);have hR2:=Zu;unfold Zit at hR2;have m1:=hS.named 1;have m2:=m1.needs 5 [40];have hb:=B5 hT m2.pos (v:=100-(d:Int)) fun _=>⟨hv1,hv2⟩;have m3:=m2.go hb.adv (by omega) (by omega)
 have m4:=m3.needs 5 [41];have hat:=Zi4 m3.pos 5 [41];have hu:=K3 hT m4.pos (v:=100-(d:Int)) fun _=>⟨hv1,hv2⟩;have m5:St6In l (Uv l (Qb l (Nr l (Qb l (Q7 l s 1).2 5 [40]) (100-(d:Int))).2.2 5 [41]) (100-(d:Int))).2 :=
  m3.go ((N0 m3.pos 5 [41]).trans hu.adv (m:=0) (q:=0) (by omega) (by omega) (by omega)) (by omega) (by omega)
 have k3:=m5.needs 5 [61];have hx:=Jy k3 (Q5 hT d hd4 _ k3.pos);have k4:=k3.expr hd4;have k5:=k4.needs 6 [105,110];have hx2:=Jy k5 (Q5 hT d hd4 _ k5.pos);have k6:=k5.expr hd4;obtain ⟨⟨f,⟨a1,as1,ae1⟩⟩,Z2⟩:=exq (Q7 l s 1);rw [Z2] at hR2 m1 m2 m3 m4 hat m5 k3 hx k4 k5 hx2 k6;simp only at hR2 m1 m2 m3 m4 hat m5 k3 hx k4 k5 hx2 k6;obtain ⟨⟨a2,as2,ae2⟩,Qd⟩:=exq (Qb l ⟨a1,as1,ae1⟩ 5 [40]);rw [Qd] at hR2 m2 m3 m4 hat m5 k3 hx k4 k5 hx2 k6;obtain ⟨⟨x,t,⟨a3,as3,ae3⟩⟩,Z5⟩:=exq (Nr l ⟨a2,as2,ae2⟩ (100-(d:Int)));rw [Z5] at hR2 m3 m4 hat m5 k3 hx k4 k5 hx2 k6;simp only at hR2 m3 m4 hat m5 k3 hx k4 k5 hx2 k6;obtain ⟨⟨a4,as4,ae4⟩,Z9⟩:=exq (Qb l ⟨a3,as3,ae3⟩ 5 [41]);rw [Z9] at hR2 m4 hat m5 k3 hx k4 k5 hx2 k6;simp only at hat;obtain ⟨⟨u,⟨i2,ss2,e2⟩⟩,Qu⟩:=exq (Uv l ⟨a4,as4,ae4⟩ (100-(d:Int)));rw [Qu] at hR2 m5 k3 hx k4 k5 hx2 k6;simp only at hR2 m5 k3 hx k4 k5 hx2 k6;obtain ⟨⟨i3,ss3,e3⟩,Q0⟩:=exq (Qb l ⟨i2,ss2,e2⟩ 5 [61]);rw [Q0] at hR2 k3 hx k4 k5 hx2 k6;obtain ⟨⟨A,⟨i4,ss4,e4⟩⟩,Q2⟩:=exq (Jm l d ⟨i3,ss3,e3⟩);rw [Q2] at hR2 hx k4 k5 hx2 k6;simp only at hR2 hx k4 k5 hx2 k6;obtain ⟨⟨i5,ss5,e5⟩,Qz⟩:=exq (Qb l ⟨i4,ss4,e4⟩ 6 [105,110]);rw [Qz] at hR2 k5 hx2 k6;obtain ⟨⟨B,⟨i6,ss6,e6⟩⟩,Zv⟩:=exq (Jm l d ⟨i5,ss5,e5⟩);rw [Zv] at hR2 hx2 k6;simp only at hR2 hx2 k6;obtain ⟨M,Zx⟩:=exq (Xr ⟨5,[],f,x,0,0,t,u⟩ [⟨A⟩,⟨B⟩]);rw [Zx] at hR2;obtain ⟨i0,ss0,e0⟩:=s;have o0:=hS.nums;have o1:=m1.nums;have o2:=m2.ok6;have o3:=m3.nums;have o4:=m4.ok6;have o5:=m5.nums;have o6:=k4.nums;simp only at o0 o1 o3 o5 o6;have hat2:ae4=0→1≤a4∧1≤100-(d:Int)∧100-(d:Int)≤100:=fun h=>⟨hat h,hv1,hv2⟩;have ha1:A.length≤1000000:=by omega
 have hb1:B.length≤1000000:=by omega
 clear hb hu;subst hR2;cases hc;refine Ys 4 ?_;exact Ea
theorem Zlj {l:List Tok} {s:St6} (h:St6In l s) {d:Nat} (hd:d≤100):(Jm l d s).2.e=0→1≤(Jm l d s).2.at_:=fun he=>by
 have h1:=(Q5 h.toks d hd s h.pos).adv.gain he;have h2:=h.pos.lo;omega
theorem xQ (n:Nat) (ih:IH6 n):Qr Tryz.prog (273,(Gj (n+1))):=by
 obtain ⟨Kx,Kt,Kc,Kd,Kb,Ku,Kw,K,Yj,Kv,P4,B6,D2,_⟩:=Wi Z3 Zn [] false (Ja Y5 Ha (Ja Uz N3 (Ja St Np.eq_def (Ja good_made6 Kj (Ja ih.expr (Wd n) Wg)))));have Ko:=(Gj.eq_def (n+1));refine Wh K Tryz.func273 [.tmp 6,.cell 7 137] rfl 47 rfl (fun c hc cvs hpre=>?_);unfold Gj at hpre;obtain ⟨⟨l⟩,s,v,rfl,hS,hv1,hv2,hn⟩:=Jv hpre;simp only at hS;clear hpre;obtain ⟨d,hd⟩:∃ d:Nat,v=101-d:=⟨(101-v).toNat,by omega⟩
 subst hd;have Qh:(101-(101-(d:Int))).toNat=d:=by omega
 have hd4:d≤100:=by omega
 have hT:=hS.toks;obtain ⟨R,Q0⟩:=exq (Fx (Jm l d) l (101-(d:Int)-1) s);have hR2:=Q0;unfold Fx at hR2;have m1:=hS.named 2;have m2:=m1.needs 5 [61];have hx:=Jy m2 (Q5 hT d hd4 _ m2.pos);have hq:=(Q5 hT d hd4 _ m2.pos).adv;have m3:=m2.expr hd4;have hat:=Zlj m2 hd4;have hu:=K3 hT m3.pos (v:=101-(d:Int)-1) fun _=>⟨by omega,by omega⟩
 have m4:=m2.go (hq.trans hu.adv (m:=0) (q:=0) (by omega) (by omega) (by omega)) (by omega) (by omega)
 obtain ⟨⟨f,⟨a1,as1,ae1⟩⟩,Qi⟩:=exq (Q7 l s 2);rw [Qi] at hR2 m1 m2 hx m3 hat m4;simp only at hR2 m1 m2 hx m3 hat m4;obtain ⟨⟨a2,as2,ae2⟩,Z2⟩:=exq (Qb l ⟨a1,as1,ae1⟩ 5 [61]);rw [Z2] at hR2 m2 hx m3 hat m4;obtain ⟨⟨A,⟨a3,as3,ae3⟩⟩,Qd⟩:=exq (Jm l d ⟨a2,as2,ae2⟩);rw [Qd] at hR2 hx m3 hat m4;simp only at hR2 hx m3 hat m4;obtain ⟨⟨u,⟨i2,ss2,e2⟩⟩,Z5⟩:=exq (Uv l ⟨a3,as3,ae3⟩ (101-(d:Int)-1));rw [Z5] at hR2 m4;simp only at hR2 m4;obtain ⟨⟨i3,ss3,e3⟩,Z9⟩:=exq (Qb l ⟨i2,ss2,e2⟩ 5 [93]);rw [Z9] at hR2;obtain ⟨M,Qu⟩:=exq (Xr ⟨12,[],f,[],0,0,u,[]⟩ [⟨A⟩]);rw [Qu] at hR2;obtain ⟨i0,ss0,e0⟩:=s;have o0:=hS.nums;have o1:=m1.nums;have o3:=m3.ok6;have o5:=m4.nums;simp only at o0 o1 o5;have hat2:ae3=0→1≤a3∧1≤101-(d:Int)-1∧101-(d:Int)-1≤100:=fun h=>⟨hat h,by omega,by omega⟩
 have ha1:A.length≤1000000:=by omega
 clear hu hq;subst hR2;cases hc;refine Ys 2 ?_;exact Ea
theorem Zaw (n:Nat) (ih:IH6 n):Qr Tryz.prog (271,(Nn (n+1))):=by
 obtain ⟨Kx,Kt,Kc,Kd,Kb,Ku,Kw,K,Yj,Kv,P4,B6,D2,_⟩:=Wi Z3 Zn [] false (Ja Pn Ac (Ja Uz N3 (Ja good_typed6 Lr.eq_def (Ja good_made6 Kj (Ja ih.expr (Wd n) Wg)))));have Ko:=(Nn.eq_def (n+1));refine Wh K Tryz.func271 [.tmp 6,.cell 7 137] rfl 58 rfl (fun c hc cvs hpre=>?_);unfold Nn at hpre;obtain ⟨⟨l⟩,s,v,rfl,hS,hv1,hv2,hn⟩:=Jv hpre;simp only at hS;clear hpre;obtain ⟨d,hd⟩:∃ d:Nat,v=101-d:=⟨(101-v).toNat,by omega⟩
 subst hd;have Qh:(101-(101-(d:Int))).toNat=d:=by omega
 have hd4:d≤100:=by omega
 have hT:=hS.toks;obtain ⟨R,Z2⟩:=exq (bT (Jm l d) l (101-(d:Int)-1) s);have hR2:=Z2;unfold bT at hR2;have hx:=Jy hS (Q5 hT d hd4 _ hS.pos);have m3:=hS.expr hd4;obtain ⟨⟨A,⟨a3,as3,ae3⟩⟩,Z5⟩:=exq (Jm l d s);rw [Z5] at hR2 hx m3;simp only at hR2 hx m3;obtain ⟨i0,ss0,e0⟩:=s;have o0:=hS.nums;have o3:=m3.nums;simp only at o0 o3;have ha1:A.length≤1000000:=by omega
 cases hc;refine Ys 3 ?_;cases Qi:T0 l ⟨i0,ss0,e0⟩ 5 [41] with
 | true =>
  rw [Qi,if_pos rfl] at hR2;have hadv:Xh ⟨i0,ss0,e0⟩=⟨i0+1,ss0,e0⟩:=rfl;rw [hadv] at hR2;subst hR2;exact Ea
 | false =>
  rw [Qi,if_neg (by simp)] at hR2
  cases Qd:T0 l ⟨a3,as3,ae3⟩ 5 [58] with
  | true =>
   rw [Qd,if_pos rfl] at hR2;have hadv:Xh ⟨a3,as3,ae3⟩=⟨a3+1,as3,ae3⟩:=rfl;have m4:=m3.is Qd;rw [hadv] at hR2 m4;have hu:=(Ep hT m4.pos (v:=101-(d:Int)-1) fun _=>⟨by omega,by omega⟩).adv
   have m5:=m4.go hu (by omega) (by omega)
   obtain ⟨⟨u,⟨i2,ss2,e2⟩⟩,Z9⟩:=exq (Cf l ⟨a3+1,as3,ae3⟩ (101-(d:Int)-1));rw [Z9] at hR2 m5;simp only at hR2 m5;obtain ⟨⟨i3,ss3,e3⟩,Qu⟩:=exq (Qb l ⟨i2,ss2,e2⟩ 5 [41]);rw [Qu] at hR2;obtain ⟨M,Q0⟩:=exq (Xr ⟨13,[],[],[],0,0,u,[]⟩ [⟨A⟩]);rw [Q0] at hR2;have o4:=m4.ok6;have o5:=m5.nums;simp only at o5;have hat2:ae3=0→1≤101-(d:Int)-1∧101-(d:Int)-1≤100:=fun h=>⟨by omega,by omega⟩
   clear hu;subst hR2;exact Ea
  | false =>
   rw [Qd,if_neg (by simp)] at hR2
   obtain ⟨⟨i3,ss3,e3⟩,Qu⟩:=exq (Qb l ⟨a3,as3,ae3⟩ 5 [41]);rw [Qu] at hR2;subst hR2;exact Ea
theorem Zcm (n:Nat) (ih:IH6 n):Qr Tryz.prog (266,(Mx (n+1))):=by
 obtain ⟨Kx,Kt,Kc,Kd,Kb,Ku,Kw,K,Yj,Kv,P4,B6,D2,It,bD,jC,_⟩:=Wi Z3 Zn [] false (Ja Uq Pa (Ja good_begins6 Pv.eq_def (Ja Pn Ac (Ja Y5 Ha (Ja good_number6 Sw.eq_def (Ja ih.paren (Nn.eq_def n) (Ja ih.rows (Mr.eq_def n) (Ja ih.inject (Gj.eq_def n) Wg))))))));have Ko:=(Mx.eq_def (n+1));refine Wh K Tryz.func266 [.tmp 6,.cell 7 137] rfl 126 rfl (fun c hc cvs hpre=>?_);unfold Mx at hpre;obtain ⟨⟨l⟩,⟨i,ss,e⟩,v,rfl,hS,hv1,hv2,hn⟩:=Jv hpre;simp only at hS;clear hpre;obtain ⟨d,hd⟩:∃ d:Nat,v=100-d:=⟨(100-v).toNat,by omega⟩
 subst hd;have Qh:(100-(100-(d:Int))).toNat=d:=by omega
 have Zz:(101-(100-(d:Int)+1)).toNat=d:=by omega
 have Z4:100-(d:Int)+1-1=100-d:=by omega
 have hd4:d≤100:=by omega
 have hT:=hS.toks;have o0:=hS.nums;simp only at o0;obtain ⟨i,rfl⟩:∃ n:Nat,i=n:=⟨i.toNat,by omega⟩
 obtain ⟨R,Qd⟩:=exq (jY (Jm l d) l (100-(d:Int)) ⟨i,ss,e⟩);have Zt:=Qd;unfold jY at Zt;simp only [Kh] at Zt;cases hc;refine Ys 7 ?_;obtain ⟨⟨Wa,Ws,We⟩,Z2⟩:=exq (Jp ⟨(i:Int),ss,e⟩ 2);by_cases he:e=0
 case neg =>
  rw [if_pos (.inl he),Z2] at Zt;have Qi:(e != 0)=true:=bne_iff_ne.2 he;subst Zt;exact Zsa
 subst he;have Qi:((0:Int) != 0)=false:=rfl;cases Z5:G7 l ⟨i,ss,0⟩ with
 | false =>
  rw [if_pos (.inr Z5),Z2] at Zt;subst Zt;exact Ea
 | true =>
  rw [if_neg (by rw [Z5];simp)] at Zt
  have hlt:=(Dy Z5).2;simp only at hlt;have Z9:=Zo Yy (show i<l.length by omega)
  have htk:=hT.ok (l.getD i Yy) (by simp [show i<l.length by omega])
  obtain ⟨t,ht⟩:=exq (l.getD i Yy);rw [ht] at Z9 htk Zt;unfold Zam at htk;have hadv:Xh ⟨(i:Int),ss,0⟩=⟨(i:Int)+1,ss,0⟩:=rfl;rw [hadv] at Zt;have m1:=hS.adv rfl hlt;rw [hadv] at m1;have o1:=m1.nums;simp only at o1;have hle:Xu (l.length:Int) (i:Int)=false:=by rw [←Bool.not_eq_true,Qp];omega
  by_cases h3:t.kind=3
  ·rw [if_pos h3] at Zt;have Qu:(t.kind==3)=true:=by rw [Zp];exact h3
   have hf:=htk.2 h3;obtain ⟨N,Q0⟩:=exq (Oe t.text);rw [Q0] at Zt;subst Zt;exact Ea
  rw [if_neg h3] at Zt;have Qu:(t.kind==3)=false:=by rw [Zf];exact h3
  by_cases h4:t.kind=4
  ·rw [if_pos h4] at Zt;have Q2:(t.kind==4)=true:=by rw [Zp];exact h4
   subst Zt;exact Ea
  rw [if_neg h4] at Zt;have Q2:(t.kind==4)=false:=by rw [Zf];exact h4
  by_cases h6:t.kind=6
  ·rw [if_pos h6] at Zt;have Qz:(t.kind==6)=true:=by rw [Zp];exact h6
   by_cases htr:t.text=[116,114,117,101]
   ·rw [if_pos htr] at Zt;have Zv:(t.text==[116,114,117,101])=true:=by rw [Zp];exact htr
    subst Zt;exact Ea
   ·rw [if_neg htr] at Zt;have Zv:(t.text==[116,114,117,101])=false:=by rw [Zf];exact htr
    subst Zt;exact Ea
  rw [if_neg h6] at Zt;have Qz:(t.kind==6)=false:=by rw [Zf];exact h6
  by_cases h1:t.kind=1
  ·rw [if_pos h1] at Zt;have Zx:(t.kind==1)=true:=by rw [Zp];exact h1
   cases Zu:T0 l ⟨(i:Int)+1,ss,0⟩ 5 [33] with
   | false =>
    rw [Zu,if_pos rfl] at Zt;subst Zt;exact Ea
   | true =>
    rw [Zu,if_neg (by simp)] at Zt
    have hadv2:Xh ⟨(i:Int)+1,ss,0⟩=⟨(i:Int)+1+1,ss,0⟩:=rfl;rw [hadv2] at Zt;have m2:=m1.is Zu;rw [hadv2] at m2;have o2:=m2.nums;simp only at o2;have hxl:=X2 hT ⟨(i:Int)+1+1,ss,0⟩ 1;obtain ⟨⟨x,⟨i2,ss2,e2⟩⟩,Zy⟩:=exq (Q7 l ⟨(i:Int)+1+1,ss,0⟩ 1);rw [Zy] at Zt hxl;simp only at Zt hxl;have htl:=htk.1;subst Zt;exact Ea
  rw [if_neg h1] at Zt;have Zx:(t.kind==1)=false:=by rw [Zf];exact h1
  by_cases h40:t.text=[40]
  ·rw [if_pos h40] at Zt;have Zs:(t.text==[40])=true:=by rw [Zp];exact h40
   obtain ⟨A,⟨i2,ss2,e2⟩⟩:=R;exact Ea
  rw [if_neg h40] at Zt;have Zs:(t.text==[40])=false:=by rw [Zf];exact h40
  by_cases h123:t.text=[123]
  ·rw [if_pos h123] at Zt;have Z8:(t.text==[123])=true:=by rw [Zp];exact h123
   obtain ⟨A,⟨i2,ss2,e2⟩⟩:=R;exact Ea
  rw [if_neg h123] at Zt;have Z8:(t.text==[123])=false:=by rw [Zf];exact h123
  obtain ⟨A,⟨i2,ss2,e2⟩⟩:=R;exact Ea
structure w529k:Prop
theorem w529k.k (_:w529k) {p:Prop} (h:p:=by
 repeat' first|exact Qg|with_reducible apply And.intro|intro _
 all_goals first|with_reducible exact Jf|omega|rfl|trivial|exact ⟨(f,M,j2,us2,g2),by exact Zq5,hpL,hstep1,by omega,fun h=>by have h1:=hj2 h;have h2:=hf2 hlt.1;show (l.length:Int)+1≤(f:Int)+j2;omega,by omega⟩|skip):p:=h
structure w528k:Prop
theorem w528k.k (_:w528k) {p:Prop} (h:p:=by
 repeat' first|exact Qg|with_reducible apply And.intro|intro _
 refine Fl 8 15 35 [9,10,18,19,20,21,22,23,24,25,26,27,28,29,30,31,32,33,34,35,36] (fun p:Nat×List Part×Int×List Site×Int=>[(11,.dead),(15,.dead),(16,.dead),(8,.sl 15 (p.2.1.map (enc:Part→D)).length)]) (fun p:Nat×List Part×Int×List Site×Int=>[(4,.box true [.d (.int .i64 p.2.2.1),.d (.list 3 (p.2.2.2.1.map enc)),.d (.int .i64 p.2.2.2.2)]),(15,.row 8 (p.2.1.map enc) 0)]) (fun p:Nat×List Part×Int×List Site×Int=>I8 l p.1 (p.2.1,⟨p.2.2.1,p.2.2.2.1,p.2.2.2.2⟩)=R∧Q (p.2.1,⟨p.2.2.1,p.2.2.2.1,p.2.2.2.2⟩)∧1≤p.1∧(p.2.2.2.2=0→(l.length:Int)+1≤p.1+p.2.2.1)) (fun p:Nat×List Part×Int×List Site×Int=>p.1) (l.length+1,A,i,ss,e) ?_ ?_ ?_
 ·exact ⟨hR2,hA,by omega,fun h=>by have h0:=hmono hA;show (l.length:Int)+1≤((l.length+1:Nat):Int)+i;simp only at h0;omega⟩
 ·exact Qy
 rintro ⟨f,B,j,us,g⟩ ⟨hpL,hB,hf1,hf2⟩;simp only at hpL hB hf1 hf2;obtain ⟨f,rfl⟩:∃ k,f=k+1:=⟨f-1,by omega⟩
 rw [I8] at hpL;have m1:=hgo hB;have b1:=hshort hB;have o1:=m1.nums;simp only at o1;have hstep1:=hstep _ hB;cases Z2:T0 l ⟨j,us,g⟩ 5 [46] with
 | false =>
  rw [if_pos Z2] at hpL;subst hpL;exact Ea
 | true =>
  rw [if_neg (by rw [Z2];simp)] at hpL
  rw [I8,if_neg (by rw [Z2];simp),I8] at hstep1
  have hlt:=Lk Z2;simp only at hlt;have hadv:Xh ⟨j,us,g⟩=⟨j+1,us,g⟩:=rfl;rw [hadv] at hpL hstep1;have m2:=m1.is Z2;rw [hadv] at m2;have o2:=m2.nums;simp only at o2;obtain ⟨⟨x,⟨j2,us2,g2⟩⟩,Z5⟩:=exq (Q7 l ⟨j+1,us,g⟩ 1);have hNa:=M1 m2.pos 1;rw [Z5] at hpL hstep1 hNa;simp only at hpL hstep1;have hj2:g2=0→j+1≤j2:=hNa.mono;obtain ⟨M,Z9⟩:=exq (Xr ⟨11,[],x,[],0,0,[],[]⟩ [⟨B⟩]);rw [Z9] at hpL hstep1;have ha1:B.length≤1000000:=by omega
  have Kq:w529k:=⟨⟩;exact dZ):p:=h
theorem stepi_part6 (n:Nat) (ih:IH6 n):Qr Tryz.prog (260,(Mt (n+1))):=by
 obtain ⟨Kx,Kt,Kc,Kd,Kb,Ku,Kw,K,Yj,Kv,P4,B6,_⟩:=Wi Z3 Zn [] false (Ja Pn Ac (Ja Y5 Ha (Ja good_made6 Kj (Ja ih.atom (Mx.eq_def n) Wg))));have Ko:=(Mt.eq_def (n+1));refine Wh K Tryz.func260 [.tmp 6,.cell 7 137] rfl 39 rfl (fun c hc cvs hpre=>?_);unfold Mt at hpre;obtain ⟨⟨l⟩,s,v,rfl,hS,hv1,hv2,hn⟩:=Jv hpre;simp only at hS;clear hpre;obtain ⟨d,hd⟩:∃ d:Nat,v=100-d:=⟨(100-v).toNat,by omega⟩
 subst hd;have Qh:(100-(100-(d:Int))).toNat=d:=by omega
 have hd4:d≤100:=by omega
 have hT:=hS.toks;obtain ⟨R,Qd⟩:=exq (dB (Jm l d) l (100-(d:Int)) s);have hR2:=Qd;unfold dB at hR2;have hA:=fT hT (Q5 hT d hd4) hv1 hv2 hS.pos;obtain ⟨⟨A,⟨i,ss,e⟩⟩,Qi⟩:=exq (jY (Jm l d) l (100-(d:Int)) s);rw [Qi] at hR2 hA;obtain ⟨s0,hs0⟩:=exq (s);rw [hs0] at hS hA Qd Qi;subst hs0;have hP:=hS.pos;have hgo:∀ {B:List Part} {r:St6},Reads l s (B,r)→St6In l r:=fun h=>hS.go h.adv (by omega) (by omega)
 have hshort:∀ {B:List Part} {r:St6},Reads l s (B,r)→B.length≤300000:=fun h=>Jy hS h;obtain ⟨Q,hQ⟩:∃ Q:List Part×St6→Prop,(fun r=>Reads l s r)=Q:=⟨_,rfl⟩;have hQe:∀ r,Reads l s r=Q r:=fun r=>congrFun hQ r;rw [hQe] at hA;simp only [hQe] at hgo hshort;have hstep:∀ r,Q r→Q (I8 l 1 r):=fun r h=>by rw [←hQe] at h ⊢;exact En hT 1 r hP h
 have hmono:∀ {B:List Part} {r:St6},Q (B,r)→0≤r.at_:=fun h=>by rw [←hQe] at h;exact h.adv.lo
 obtain ⟨i0,ss0,e0⟩:=s;cases hc;refine Ys 2 ?_;have Kq:w528k:=⟨⟩;exact dZ
structure w531k:Prop
theorem w531k.k (_:w531k) {p:Prop} (h:p:=by
 repeat' first|exact Qg|with_reducible apply And.intro|intro _
 all_goals first|with_reducible exact Jf|omega|rfl|trivial|exact m1|exact ⟨(f,M,j2,us2,g2),by exact Zq5,hpL,hstep1,by omega,fun h=>by have h1:=hj2 h;have h2:=hf2 hlt.1;show (l.length:Int)+1≤(f:Int)+j2;omega,by omega⟩|skip):p:=h
structure w530k:Prop
theorem w530k.k (_:w530k) {p:Prop} (h:p:=by
 repeat' first|exact Qg|with_reducible apply And.intro|intro _
 refine Fl 8 15 32 [9,10,18,19,20,21,22,23,24,25,26,27,28,29,30,31,32,33] (fun p:Nat×List Part×Int×List Site×Int=>[(11,.dead),(15,.dead),(16,.dead),(8,.sl 15 (p.2.1.map (enc:Part→D)).length)]) (fun p:Nat×List Part×Int×List Site×Int=>[(4,.box true [.d (.int .i64 p.2.2.1),.d (.list 3 (p.2.2.2.1.map enc)),.d (.int .i64 p.2.2.2.2)]),(15,.row 8 (p.2.1.map enc) 0)]) (fun p:Nat×List Part×Int×List Site×Int=>N7 (Jm l d) l (100-(d:Int)) p.1 (p.2.1,⟨p.2.2.1,p.2.2.2.1,p.2.2.2.2⟩)=R∧Q (p.2.1,⟨p.2.2.1,p.2.2.2.1,p.2.2.2.2⟩)∧1≤p.1∧(p.2.2.2.2=0→(l.length:Int)+1≤p.1+p.2.2.1)) (fun p:Nat×List Part×Int×List Site×Int=>p.1) (l.length+1,A,i,ss,e) ?_ ?_ ?_
 ·exact ⟨hR2,hA,by omega,fun h=>by have h0:=hmono hA;show (l.length:Int)+1≤((l.length+1:Nat):Int)+i;simp only at h0;omega⟩
 ·exact Qy
 rintro ⟨f,B,j,us,g⟩ ⟨hpL,hB,hf1,hf2⟩;simp only at hpL hB hf1 hf2;obtain ⟨f,rfl⟩:∃ k,f=k+1:=⟨f-1,by omega⟩
 rw [N7] at hpL;have m1:=hgo hB;have b1:=hshort hB;have o1:=m1.nums;simp only at o1;have hstep1:=hstep _ hB;cases Z2:G7 l ⟨j,us,g⟩ with
 | false =>
  rw [if_pos Z2] at hpL;subst hpL;exact Ea
 | true =>
  rw [if_neg (by rw [Z2];simp)] at hpL
  rw [N7,if_neg (by rw [Z2];simp),N7] at hstep1
  have hlt:=Dy Z2;simp only at hlt;have hx:=hsub _ m1.pos;obtain ⟨⟨B2,⟨j2,us2,g2⟩⟩,Z5⟩:=exq (dB (Jm l d) l (100-(d:Int)) ⟨j,us,g⟩);rw [Z5] at hpL hstep1 hx;simp only at hpL hstep1;have hj2:g2=0→j+1≤j2:=fun h=>by have h1:=(hx.adv.gain h).2;have h2:=(hx.adv.gain h).1;simp only at h1 h2;omega
  have ha2:B2.length≤1000000:=by have h1:=Jy m1 hx;simp only at h1;omega
  obtain ⟨M,Z9⟩:=exq (Xr ⟨3,[],[],[],0,0,[],[]⟩ [⟨B⟩,⟨B2⟩]);rw [Z9] at hpL hstep1;have ha1:B.length≤1000000:=by omega
  clear hx;have Kq:w531k:=⟨⟩;exact dZ):p:=h
theorem stepi_operand6 (n:Nat) (ih:IH6 n):Qr Tryz.prog (254,(U4 (n+1))):=by
 obtain ⟨Kx,Kt,Kc,Kd,Kb,Ku,Kw,K,Yj,Kv,P4,_⟩:=Wi Z3 Zn [] false (Ja good_begins6 Pv.eq_def (Ja good_made6 Kj (Ja ih.part (Mt.eq_def n) Wg)));have Ko:=(U4.eq_def (n+1));refine Wh K Tryz.func254 [.tmp 6,.cell 7 137] rfl 36 rfl (fun c hc cvs hpre=>?_);unfold U4 at hpre;obtain ⟨⟨l⟩,s,v,rfl,hS,hv1,hv2,hn⟩:=Jv hpre;simp only at hS;clear hpre;obtain ⟨d,hd⟩:∃ d:Nat,v=100-d:=⟨(100-v).toNat,by omega⟩
 subst hd;have Qh:(100-(100-(d:Int))).toNat=d:=by omega
 have hd4:d≤100:=by omega
 have hT:=hS.toks;obtain ⟨R,Qd⟩:=exq (Tu (Jm l d) l (100-(d:Int)) s);have hR2:=Qd;unfold Tu at hR2;have hA:=Cs hT (Q5 hT d hd4) hv1 hv2 hS.pos;have hsub:=fun r (h:Pos l r)=>Cs hT (Q5 hT d hd4) hv1 hv2 h;obtain ⟨⟨A,⟨i,ss,e⟩⟩,Qi⟩:=exq (dB (Jm l d) l (100-(d:Int)) s);rw [Qi] at hR2 hA;obtain ⟨s0,hs0⟩:=exq (s);rw [hs0] at hS hA Qd Qi;subst hs0;have hP:=hS.pos;have hgo:∀ {B:List Part} {r:St6},Reads l s (B,r)→St6In l r:=fun h=>hS.go h.adv (by omega) (by omega)
 have hshort:∀ {B:List Part} {r:St6},Reads l s (B,r)→B.length≤300000:=fun h=>Jy hS h;obtain ⟨Q,hQ⟩:∃ Q:List Part×St6→Prop,(fun r=>Reads l s r)=Q:=⟨_,rfl⟩;have hQe:∀ r,Reads l s r=Q r:=fun r=>congrFun hQ r;rw [hQe] at hA;simp only [hQe] at hgo hshort;have hstep:∀ r,Q r→Q (N7 (Jm l d) l (100-(d:Int)) 1 r):=fun r h=>by rw [←hQe] at h ⊢;exact Le hT (Q5 hT d hd4) hv1 hv2 1 r hP h
 have hmono:∀ {B:List Part} {r:St6},Q (B,r)→0≤r.at_:=fun h=>by rw [←hQe] at h;exact h.adv.lo
 obtain ⟨i0,ss0,e0⟩:=s;cases hc;refine Ys 2 ?_;have Kq:w530k:=⟨⟩;exact dZ
theorem bI {l:List Tok} {b:Int} {j:Nat} {us:List Site}:Sc l b ⟨(j:Int),us,0⟩=(Yr (j:Int) (l.length:Int)&&((l.getD j Yy).kind==5&&Zke (Cn b) (l.getD j Yy).text)):=by
 unfold Sc;simp only [Kh];rfl
structure w533k:Prop
theorem w533k.k (_:w533k) {p:Prop} (h:p:=by
 repeat' first|exact Qg|with_reducible apply And.intro|intro _
 all_goals first|with_reducible exact Jf|omega|exact m2|rfl|trivial|exact ⟨(f,M,j2,us2,g2),by exact Zq5,hpL,hstep1,by omega,fun h=>by have h1:=hj2 h;have h2:=hf2;show (l.length:Int)+1≤(f:Int)+j2;omega,by omega⟩|skip):p:=h
structure w532k:Prop
theorem w532k.k (_:w532k) {p:Prop} (h:p:=by
 repeat' first|exact Qg|with_reducible apply And.intro|intro _
 all_goals first|exact hS|skip
 refine Fl 10 28 85 [11,12,13,31,32,33,34,35,36,37,38,39,40,41,42,43,44,45,46,47,48,49,50,51,52,53,54,55,56,57,58,59,60,61,62,63,64,65,66,67,68,69,70,71,72,73,74,75,76,77,78,79,80,81,82,83,84,85,86] (fun p:Nat×List Part×Int×List Site×Int=>[(22,.dead),(28,.dead),(29,.dead),(10,.sl 28 (p.2.1.map (enc:Part→D)).length)]) (fun p:Nat×List Part×Int×List Site×Int=>[(5,.box true [.d (.int .i64 p.2.2.1),.d (.list 3 (p.2.2.2.1.map enc)),.d (.int .i64 p.2.2.2.2)]),(28,.row 8 (p.2.1.map enc) 0)]) (fun p:Nat×List Part×Int×List Site×Int=>Za7 l (4-(m:Int)) sub p.1 (p.2.1,⟨p.2.2.1,p.2.2.2.1,p.2.2.2.2⟩)=R∧Q (p.2.1,⟨p.2.2.1,p.2.2.2.1,p.2.2.2.2⟩)∧1≤p.1∧(p.2.2.2.2=0→(l.length:Int)+1≤p.1+p.2.2.1)) (fun p:Nat×List Part×Int×List Site×Int=>p.1) (l.length+1,A,i,ss,e) ?_ ?_ ?_
 ·exact ⟨Z5,hA,by omega,fun h=>by have h0:=hmono hA;show (l.length:Int)+1≤((l.length+1:Nat):Int)+i;simp only at h0;omega⟩
 ·exact Qy
 rintro ⟨f,B,j,us,g⟩ ⟨hpL,hB,hf1,hf2⟩;simp only at hpL hB hf1 hf2;obtain ⟨f,rfl⟩:∃ k,f=k+1:=⟨f-1,by omega⟩
 rw [Za7] at hpL;have m1:=hgo hB;have b1:=hshort hB;have o1:=m1.nums;simp only at o1;obtain ⟨j,rfl⟩:∃ n:Nat,j=n:=⟨j.toNat,by omega⟩
 have hstep1:=hstep _ hB;have hexit:Sc l (4-(m:Int)) ⟨j,us,g⟩=false→(B,(⟨j,us,g⟩:St6))=R:=fun h=>by rw [if_pos h] at hpL;exact hpL
 by_cases hg:g=0
 case neg =>
  have Zv:(g==0)=false:=by rw [Zf];exact hg
  have hR3:=hexit (by unfold Sc;simp only [Zv,Bool.false_and])
  subst hR3;exact Ea
 subst hg;have hf2:=hf2 rfl;have Zv:((0:Int)==0)=true:=rfl;rw [bI] at hexit;rcases Zl j l.length with ⟨hlt,Zx⟩|⟨hlt,Zx⟩
 rotate_left
 ·have hR3:=hexit (by rw [Zx,Bool.false_and])
  subst hR3;exact Ea
 have Zy:=Zo Yy hlt;rw [bI] at hpL;have hop:=Cg hT (j:Int);rw [Za7,bI] at hstep1;simp only [Kh] at hpL hstep1 hop;obtain ⟨t,ht⟩:=exq (l.getD j Yy);rw [ht] at Zy hexit hpL hop hstep1;cases Zu:t.kind==5 with
 | false =>
  have hR3:=hexit (by rw [Zx,Zu];rfl)
  subst hR3;exact Ea
 | true =>
  have hsl:(Cn (4-(m:Int))).length≤1000000:=by
   unfold Cn;repeat' split
   all_goals simp
  cases Zz:Zke (Cn (4-(m:Int))) t.text with
  | false =>
   have hR3:=hexit (by rw [Zx,Zu,Zz];rfl)
   subst hR3;exact Ea
  | true =>
   have hsg:(Yr (j:Int) (l.length:Int)&&(t.kind==5&&Zke (Cn (4-(m:Int))) t.text))=true:=by rw [Zx,Zu,Zz];rfl
   rw [if_neg (by rw [hsg];simp)] at hpL
   rw [if_neg (by rw [hsg];simp),Za7] at hstep1
   have hadv:Xh ⟨(j:Int),us,0⟩=⟨(j:Int)+1,us,0⟩:=rfl;rw [hadv] at hpL hstep1;have m2:=m1.adv rfl (by show (j:Int)<l.length;omega)
   rw [hadv] at m2;have hx:=hsub _ m2.pos;obtain ⟨⟨B2,⟨j2,us2,g2⟩⟩,Z4⟩:=exq (sub ⟨(j:Int)+1,us,0⟩);rw [Z4] at hpL hstep1 hx;simp only at hpL hstep1;have hj2:g2=0→(j:Int)+1≤j2:=fun h=>by have h1:=(hx.adv.gain h).2;have h2:=(hx.adv.gain h).1;simp only at h1 h2;omega
   have ha2:B2.length≤1000000:=by have h1:=Jy m2 hx;simp only at h1;omega
   obtain ⟨M,Zs⟩:=exq (Xr ⟨9,[],t.text,[],0,0,[],[]⟩ [⟨B⟩,⟨B2⟩]);rw [Zs] at hpL hstep1;have ha1:B.length≤1000000:=by omega
   clear hx;have Kq:w533k:=⟨⟩;exact dZ):p:=h
theorem stepi_ops6 (n:Nat) (ih:IH6 n):Qr Tryz.prog (230,(Pu (n+1))):=by
 obtain ⟨Kx,Kt,Kc,Kd,Kb,Ku,Kw,K,Yj,Kv,P4,B6,D2,_⟩:=Wi Z3 Zn [] false (Ja ih.operand (U4.eq_def n) (Ja ih.ops (Pu.eq_def n) (Ja good_signs6 Db.eq_def (Ja good_in6 Rh.eq_def (Ja good_made6 Kj Wg)))));have Ko:=(Pu.eq_def (n+1));refine Wh K Tryz.func230 [.tmp 8,.cell 9 137] rfl 89 rfl (fun c hc cvs hpre=>?_);unfold Pu at hpre;obtain ⟨⟨l⟩,s,v,b,rfl,hS,hv1,hv2,hb1,hb2,hn⟩:=Zen hpre;simp only at hS;clear hpre;obtain ⟨d,hd⟩:∃ d:Nat,v=100-d:=⟨(100-v).toNat,by omega⟩
 subst hd;have Qh:(100-(100-(d:Int))).toNat=d:=by omega
 have hd4:d≤100:=by omega
 have hT:=hS.toks;by_cases hb5:b=5
 ·subst hb5;have Z2:((5:Int)==5)=true:=rfl;have Qi:((5:Int)-5).toNat=0:=rfl;obtain ⟨⟨A,⟨i,ss,e⟩⟩,Qd⟩:=exq (Tu (Jm l d) l (100-(d:Int)) s);have Z5:xY (Jm l d) l (100-(d:Int)) 0 s=(A,⟨i,ss,e⟩):=by rw [←Qd];rfl
  obtain ⟨i0,ss0,e0⟩:=s;cases hc;refine Ys 5 ?_;exact Ea
 have Q0:(b==5)=false:=by rw [Zf];exact hb5
 obtain ⟨m,hm⟩:∃ m:Nat,b=4-m:=⟨(4-b).toNat,by omega⟩
 subst hm;have Z9:(5-(4-(m:Int))).toNat=m+1:=by omega
 have Qu:(5-(4-(m:Int)+1)).toNat=m:=by omega
 obtain ⟨R,Qd⟩:=exq (xY (Jm l d) l (100-(d:Int)) (m+1) s);have Z5:=Qd;rw [xY] at Z5;have hsub:=fun r (h:Pos l r)=>To hT (Q5 hT d hd4) hv1 hv2 m r h;have hA:=hsub s hS.pos;obtain ⟨sub,Q2⟩:=exq (xY (Jm l d) l (100-(d:Int)) m);rw [Q2] at Z5 hA hsub;simp only at Z5;obtain ⟨⟨A,⟨i,ss,e⟩⟩,Qz⟩:=exq (sub s);rw [Qz] at Z5 hA;have hP:=hS.pos;have hgo:∀ {B:List Part} {r:St6},Reads l s (B,r)→St6In l r:=fun h=>hS.go h.adv (by omega) (by omega)
 have hshort:∀ {B:List Part} {r:St6},Reads l s (B,r)→B.length≤300000:=fun h=>Jy hS h;obtain ⟨Q,hQ⟩:∃ Q:List Part×St6→Prop,(fun r=>Reads l s r)=Q:=⟨_,rfl⟩;have hQe:∀ r,Reads l s r=Q r:=fun r=>congrFun hQ r;rw [hQe] at hA;simp only [hQe] at hgo hshort;have hstep:∀ r,Q r→Q (Za7 l (4-(m:Int)) sub 1 r):=fun r h=>by rw [←hQe] at h ⊢;exact A7 hT hsub 1 r hP h
 have hmono:∀ {B:List Part} {r:St6},Q (B,r)→0≤r.at_:=fun h=>by rw [←hQe] at h;exact h.adv.lo
 obtain ⟨i0,ss0,e0⟩:=s;cases hc;refine Ys 5 ?_;have Kq:w532k:=⟨⟩;exact dZ
theorem Zjk {x:List UInt8} {a:Part} {A:List Part}:Zbd x (a::A)=⟨a.kind,x,a.name,a.bind,a.many,a.num,a.t,a.u⟩::A:=rfl
structure w535k:Prop
theorem w535k.k (_:w535k) {p:Prop} (h:p:=by
 repeat' first|exact Qg|with_reducible apply And.intro|intro _
 all_goals first|with_reducible exact Jf|omega|exact m2|rfl|(simp [Z0];done)|trivial|skip):p:=h
structure w536k:Prop
theorem w536k.k (_:w536k) {p:Prop} (h:p:=by
 repeat' first|exact Qg|with_reducible apply And.intro|intro _
 all_goals first|with_reducible exact Jf|omega|exact m2|rfl|trivial|exact ⟨(f,j3+1,us3,0,had++[x],body++⟨a.kind,x,a.name,a.bind,a.many,a.num,a.t,a.u⟩::A),by (have Ks:=@Z0;exact Qy),hL,by simp;omega,by simp;omega,by simp;omega,m4,by omega⟩|skip):p:=h
structure w534k:Prop
theorem w534k.k (_:w534k) {p:Prop} (h:p:=by
 repeat' first|exact Qg|with_reducible apply And.intro|intro _
 refine Zh [6,10,11,12,13,27,28,29,30,31,32,33,34,35,36,37,38,39,40,41,42,43,44,45,46,47,48,49,50,51,52,53,54,55,56,57,58,59,60,61,62,63,64,65,66,67,68,69,70,71,72,73,74,75,76,77,78] (fun p:Nat×Int×List Site×Int×List (List UInt8)×List Part=>[(8,.sl 25 (enc (⟨10,[],[],[],(p.2.2.2.2.1.length:Int),0,[],[]⟩:Part)::p.2.2.2.2.2.map (enc:Part→D)).length),(9,.sl 26 (p.2.2.2.2.1.map (enc:List UInt8→D)).length)]) (fun p:Nat×Int×List Site×Int×List (List UInt8)×List Part=>[(4,.box true [.d (.int .i64 p.2.1),.d (.list 3 (p.2.2.1.map enc)),.d (.int .i64 p.2.2.2.1)]),(25,.row 8 (enc (⟨10,[],[],[],(p.2.2.2.2.1.length:Int),0,[],[]⟩:Part)::p.2.2.2.2.2.map (enc:Part→D)) 0),(26,.row 1 (p.2.2.2.2.1.map enc) (p.2.2.2.2.1.length-1))]) (fun p:Nat×Int×List Site×Int×List (List UInt8)×List Part=>bP (Jm l d) l p.1 ⟨p.2.1,p.2.2.1,p.2.2.2.1⟩ p.2.2.2.2.1 p.2.2.2.2.2=R∧p.1+p.2.2.2.2.1.length=51∧p.2.2.2.2.1.length≤50∧p.2.2.2.2.2.length≤300000*p.2.2.2.2.1.length∧St6In l ⟨p.2.1,p.2.2.1,p.2.2.2.1⟩) (fun p:Nat×Int×List Site×Int×List (List UInt8)×List Part=>p.1) (51,i0,ss0,e0,[],[]) ?_ ?_ ?_
 ·exact ⟨hR2,by simp,by simp,by simp,hS⟩
 ·have Ks:=@Z0;exact Qy
 rintro ⟨f,j,us,g,had,body⟩ ⟨hL,hf,hh,hbd,m0⟩;simp only at hL hf hh hbd m0;obtain ⟨f,rfl⟩:∃ k,f=k+1:=⟨f-1,by omega⟩
 rw [bP] at hL;have k0:=m0.nums;simp only at k0;have m1:=m0.label 1 had;have hroom:=Sk (l:=l) (s:=⟨j,us,g⟩) (k:=1) (had:=had);have m2:=m1.needs 5 [61];have hx:=Jy m2 (Q5 hT d hd4 _ m2.pos);have hrd:=Q5 hT d hd4 _ m2.pos;have m3:=m2.expr hd4;have hq:=(cO m0.pos 1 had);have hq2:=(N0 m1.pos 5 [61]);obtain ⟨⟨x,⟨j1,us1,g1⟩⟩,Qd⟩:=exq (X4 l ⟨j,us,g⟩ 1 had);rw [Qd] at hL m1 hroom m2 hx hrd m3 hq hq2;simp only at hL m1 hroom m2 hx hrd m3 hq hq2;obtain ⟨⟨j2,us2,g2⟩,Z5⟩:=exq (Qb l ⟨j1,us1,g1⟩ 5 [61]);rw [Z5] at hL m2 hx hrd m3 hq2;obtain ⟨⟨A,⟨j3,us3,g3⟩⟩,Z9⟩:=exq (Jm l d ⟨j2,us2,g2⟩);rw [Z9] at hL hx hrd m3;simp only at hL hx hrd m3;have k1:=m1.nums;have k2:=m2.nums;have k3:=m3.nums;simp only at k1 k2 k3;by_cases hg:g3=0
 case neg =>
  rw [if_pos hg] at hL;have Qu:(g3 != 0)=true:=bne_iff_ne.2 hg;subst hL;clear hq hq2 hrd;exact Ea
 subst hg;rw [if_neg (by simp)] at hL
 have Qu:((0:Int) != 0)=false:=rfl;have hg1:g1=0:=hq2.ok0 (hrd.adv.ok0 rfl);have hroom:=hroom hg1;have hne:=(hrd.ok rfl).1;clear hq hq2 hrd;simp only at hne;obtain ⟨a,A,rfl⟩:∃ a B,A=a::B:=by
  cases A with
  | nil=>exact absurd rfl hne
  | cons a B=>exact ⟨a,B,rfl⟩
 clear hne;rw [Zjk] at hL;simp only [Zi] at hx;cases Q2:T0 l ⟨j3,us3,0⟩ 5 [44] with
 | false =>
  rw [if_pos Q2] at hL;obtain ⟨⟨j4,us4,g4⟩,Q0⟩:=exq (Qb l ⟨j3,us3,0⟩ 5 [125]);rw [Q0] at hL;subst hL;have Kq:w535k:=⟨⟩;exact dZ
 | true =>
  rw [if_neg (by rw [Q2];simp)] at hL
  have hadv:Xh ⟨j3,us3,0⟩=⟨j3+1,us3,0⟩:=rfl;rw [hadv] at hL;have m4:=m3.is Q2;rw [hadv] at m4;have Kq:w536k:=⟨⟩;exact dZ):p:=h
theorem stepi_rows6 (n:Nat) (ih:IH6 n):Qr Tryz.prog (272,(Mr (n+1))):=by
 obtain ⟨Kx,Kt,Kc,Kd,Kb,Ku,Kw,K,Yj,Kv,P4,B6,_⟩:=Wi Z3 Zn [] false (Ja Pn Ac (Ja dO Lw.eq_def (Ja Uz N3 (Ja ih.expr (Wd n) Wg))));have Ko:=(Mr.eq_def (n+1));refine Wh K Tryz.func272 [.tmp 6,.cell 7 137] rfl 79 rfl (fun c hc cvs hpre=>?_);unfold Mr at hpre;obtain ⟨⟨l⟩,s,v,rfl,hS,hv1,hv2,hn⟩:=Jv hpre;simp only at hS;clear hpre;obtain ⟨d,hd⟩:∃ d:Nat,v=101-d:=⟨(101-v).toNat,by omega⟩
 subst hd;have Qh:(101-(101-(d:Int))).toNat=d:=by omega
 have hd4:d≤100:=by omega
 have hT:=hS.toks;have o0:=hS.nums;obtain ⟨R,Z2⟩:=exq (yY (Jm l d) l s);have hR2:=Z2;unfold yY at hR2;obtain ⟨i0,ss0,e0⟩:=s;simp only at o0;cases hc;refine Ys 4 ?_;cases Qi:T0 l ⟨i0,ss0,e0⟩ 5 [125] with
 | true =>
  rw [Qi,if_pos rfl] at hR2;have hadv:Xh ⟨i0,ss0,e0⟩=⟨i0+1,ss0,e0⟩:=rfl;rw [hadv] at hR2;subst hR2;exact Ea
 | false =>
  rw [Qi,if_neg (by simp)] at hR2
  have Kq:w534k:=⟨⟩;exact dZ
theorem yS {p:Part} {A:List Part}:Xr p [⟨A⟩]=p::A:=by simp [Xr,Mi]
structure w538k:Prop
theorem w538k.k (_:w538k) {p:Prop} (h:p:=by
 repeat' first|exact Qg|with_reducible apply And.intro|intro _
 all_goals first|with_reducible exact Jf|omega|exact m2|rfl|(simp [Z0];done)|trivial|skip):p:=h
structure w539k:Prop
theorem w539k.k (_:w539k) {p:Prop} (h:p:=by
 repeat' first|exact Qg|with_reducible apply And.intro|intro _
 all_goals first|with_reducible exact Jf|omega|exact m2|rfl|trivial|exact ⟨(f,j3+1,us3,0,had++[x],body++⟨8,x,[],y,0,0,[],[]⟩::A),by (have Ks:=@Z0;exact Qy),hL,by simp;omega,by simp;omega,by simp;omega,m4,by omega⟩|skip):p:=h
structure w537k:Prop
theorem w537k.k (_:w537k) {p:Prop} (h:p:=by
 repeat' first|exact Qg|with_reducible apply And.intro|intro _
 all_goals first|exact hS|skip
 refine Zh [6,11,12,13,14,31,32,33,34,35,36,37,38,39,40,41,42,43,44,45,46,47,48,49,50,51,52,53,54,55,56,57,58,59,60,61,62,63,64,65,66,67,68,69,70,71,72,73,74,75,76,77,78,79,80,81,82,83,84,85,86,87,88,89,90] (fun p:Nat×Int×List Site×Int×List (List UInt8)×List Part=>[(9,.sl 29 (enc (⟨7,[],[],[],(p.2.2.2.2.1.length:Int),0,[],[]⟩:Part)::p.2.2.2.2.2.map (enc:Part→D)).length),(10,.sl 30 (p.2.2.2.2.1.map (enc:List UInt8→D)).length)]) (fun p:Nat×Int×List Site×Int×List (List UInt8)×List Part=>[(4,.box true [.d (.int .i64 p.2.1),.d (.list 3 (p.2.2.1.map enc)),.d (.int .i64 p.2.2.2.1)]),(29,.row 8 (enc (⟨7,[],[],[],(p.2.2.2.2.1.length:Int),0,[],[]⟩:Part)::p.2.2.2.2.2.map (enc:Part→D)) 0),(30,.row 1 (p.2.2.2.2.1.map enc) (p.2.2.2.2.1.length-1))]) (fun p:Nat×Int×List Site×Int×List (List UInt8)×List Part=>cL (Jm l d) l p.1 ⟨p.2.1,p.2.2.1,p.2.2.2.1⟩ p.2.2.2.2.1 p.2.2.2.2.2=R∧p.1+p.2.2.2.2.1.length=51∧p.2.2.2.2.1.length≤50∧p.2.2.2.2.2.length≤300001*(p.2.2.2.2.1.length+1)∧St6In l ⟨p.2.1,p.2.2.1,p.2.2.2.1⟩) (fun p:Nat×Int×List Site×Int×List (List UInt8)×List Part=>p.1) (51,i2,ss2,e2,[],C0) ?_ ?_ ?_
 ·exact ⟨hR2,by simp,by simp,by simp;omega,n2⟩
 ·have Ks:=@Z0;exact Qy
 rintro ⟨f,j,us,g,had,body⟩ ⟨hL,hf,hh,hbd,m0⟩;simp only at hL hf hh hbd m0;obtain ⟨f,rfl⟩:∃ k,f=k+1:=⟨f-1,by omega⟩
 rw [cL] at hL;unfold U6 at hL;have k0:=m0.nums;simp only at k0;have m1:=m0.label 2 had;have hroom:=Sk (l:=l) (s:=⟨j,us,g⟩) (k:=2) (had:=had);have m1b:=m1.named 1;have m2:=m1b.needs 5 [45,62];have hx:=Jy m2 (Q5 hT d hd4 _ m2.pos);have hrd:=Q5 hT d hd4 _ m2.pos;have m3:=m2.expr hd4;have hqb:=(M1 m1.pos 1);have hq2:=(N0 m1b.pos 5 [45,62]);obtain ⟨⟨x,⟨j1,us1,g1⟩⟩,Z9⟩:=exq (X4 l ⟨j,us,g⟩ 2 had);rw [Z9] at hL m1 hroom m1b m2 hx hrd m3 hqb hq2;simp only at hL m1 hroom m1b m2 hx hrd m3 hqb hq2;obtain ⟨⟨y,⟨j1b,us1b,g1b⟩⟩,Qu⟩:=exq (Q7 l ⟨j1,us1,g1⟩ 1);rw [Qu] at hL m1b m2 hx hrd m3 hqb hq2;simp only at hL m1b m2 hx hrd m3 hqb hq2;obtain ⟨⟨j2,us2,g2⟩,Q0⟩:=exq (Qb l ⟨j1b,us1b,g1b⟩ 5 [45,62]);rw [Q0] at hL m2 hx hrd m3 hq2;obtain ⟨⟨A,⟨j3,us3,g3⟩⟩,Q2⟩:=exq (Jm l d ⟨j2,us2,g2⟩);rw [Q2] at hL hx hrd m3;simp only at hL hx hrd m3;have k1:=m1.nums;have k1b:=m1b.nums;have k2:=m2.nums;have k3:=m3.nums;simp only at k1 k1b k2 k3;by_cases hg:g3=0
 case neg =>
  rw [if_pos hg] at hL;have Qz:(g3 != 0)=true:=bne_iff_ne.2 hg;subst hL;clear hqb hq2 hrd;exact Ea
 subst hg;rw [if_neg (by simp)] at hL
 have Qz:((0:Int) != 0)=false:=rfl;have hg1:g1=0:=hqb.ok0 (hq2.ok0 (hrd.adv.ok0 rfl));have hroom:=hroom hg1;clear hqb hq2 hrd;have Zy:=yS (p:=⟨8,x,[],y,0,0,[],[]⟩) (A:=A);rw [Zy] at hL;have ha1:A.length≤1000000:=by omega
 cases Zu:T0 l ⟨j3,us3,0⟩ 5 [124] with
 | false =>
  rw [if_pos Zu] at hL;obtain ⟨⟨j4,us4,g4⟩,Zx⟩:=exq (Qb l ⟨j3,us3,0⟩ 6 [101,110,100]);rw [Zx] at hL;subst hL;have Kq:w538k:=⟨⟩;exact dZ
 | true =>
  rw [if_neg (by rw [Zu];simp)] at hL
  have hadv:Xh ⟨j3,us3,0⟩=⟨j3+1,us3,0⟩:=rfl;rw [hadv] at hL;have m4:=m3.is Zu;rw [hadv] at m4;have Kq:w539k:=⟨⟩;exact dZ):p:=h
theorem stepi_cases6 (n:Nat) (ih:IH6 n):Qr Tryz.prog (229,(Nq (n+1))):=by
 obtain ⟨Kx,Kt,Kc,Kd,Kb,Ku,Kw,K,Yj,Kv,P4,B6,D2,It,bD,_⟩:=Wi Z3 Zn [] false (Ja Pn Ac (Ja dO Lw.eq_def (Ja Y5 Ha (Ja Uz N3 (Ja Fz Lx.eq_def (Ja good_made6 Kj (Ja ih.expr (Wd n) Wg)))))));have Ko:=(Nq.eq_def (n+1));refine Wh K Tryz.func229 [.tmp 6,.cell 7 137] rfl 91 rfl (fun c hc cvs hpre=>?_);unfold Nq at hpre;obtain ⟨⟨l⟩,s,v,rfl,hS,hv1,hv2,hn⟩:=Jv hpre;simp only at hS;clear hpre;obtain ⟨d,hd⟩:∃ d:Nat,v=100-d:=⟨(100-v).toNat,by omega⟩
 subst hd;have Qh:(100-(100-(d:Int))).toNat=d:=by omega
 have Qi:(101-(100-(d:Int)+1)).toNat=d:=by omega
 have hd4:d≤100:=by omega
 have hT:=hS.toks;have o0:=hS.nums;obtain ⟨R,Zv⟩:=exq (iS (Jm l d) l s);have hR2:=Zv;unfold iS at hR2;have hx0:=Jy hS (Q5 hT d hd4 _ hS.pos);have n1:=hS.expr hd4;have n2:=n1.needs 6 [111,102];obtain ⟨⟨C0,⟨i1,ss1,e1⟩⟩,Z2⟩:=exq (Jm l d s);rw [Z2] at hR2 hx0 n1 n2;simp only at hR2 hx0 n1 n2;obtain ⟨⟨i2,ss2,e2⟩,Qd⟩:=exq (Qb l ⟨i1,ss1,e1⟩ 6 [111,102]);rw [Qd] at hR2 n2;have o1:=n1.nums;simp only at o1;have hc0:C0.length≤1000000:=by omega
 have Z5:=yS (p:=⟨7,[],[],[],0,0,[],[]⟩) (A:=C0);obtain ⟨i0,ss0,e0⟩:=s;simp only at o0;cases hc;refine Ys 5 ?_;have Kq:w537k:=⟨⟩;exact dZ
theorem Zck (n:Nat) (ih:IH6 n):Qr Tryz.prog (186,(Xc (n+1))):=by
 obtain ⟨Kx,Kt,Kc,Kd,Kb,Ku,Kw,K,Yj,Kv,P4,B6,D2,It,bD,_⟩:=Wi Z3 Zn [] false (Ja Uq Pa (Ja ih.fun_ (Ly.eq_def n) (Ja ih.let_ (Lv.eq_def n) (Ja ih.rec_ (Ls.eq_def n) (Ja ih.cond (Mv.eq_def n) (Ja ih.cases (Nq.eq_def n) (Ja ih.ops (Pu.eq_def n) Wg)))))));have Ko:=(Wd (n+1));refine Wh K Tryz.func186 [.tmp 6,.cell 7 137] rfl 95 rfl (fun c hc cvs hpre=>?_);unfold Xc at hpre;obtain ⟨⟨l⟩,⟨i,ss,e⟩,v,rfl,hS,hv1,hv2,hn⟩:=Jv hpre;simp only at hS;clear hpre;have hT:=hS.toks;have o0:=hS.nums;simp only at o0;obtain ⟨i,rfl⟩:∃ n:Nat,i=n:=⟨i.toNat,by omega⟩
 cases hc;refine Ys 5 ?_;obtain ⟨d,hd⟩:∃ d:Nat,v=101-d:=⟨(101-v).toNat,by omega⟩
 subst hd;have Qh:(101-(101-(d:Int))).toNat=d:=by omega
 have hd4:d≤100:=by omega
 by_cases he:e=0
 case neg =>
  have Qi:(e==0)=false:=by rw [Zf];exact he
  have Z2:(e != 0)=true:=bne_iff_ne.2 he;have Qd:Jm l d ⟨i,ss,e⟩=([],⟨i,ss,e⟩):=by
   cases d with
   | zero =>
    show (([]:List Part),Jp ⟨(i:Int),ss,e⟩ 4)=_;unfold Jp;rw [if_neg (by simpa using he)]
   | succ d=>rw [Jm,Zed,if_pos (by simpa using he)]
  exact Ea
 subst he;have Qi:((0:Int)==0)=true:=rfl;have Z2:((0:Int) != 0)=false:=rfl;cases d with
 | zero =>
  have Z5:Yr 100 (101-((0:Nat):Int))=true:=by rw [Jw];omega
  have Qd:Jm l 0 ⟨i,ss,0⟩=([],⟨i,ss,4⟩):=rfl;have Z9:Jp ⟨(i:Int),ss,0⟩ 4=⟨i,ss,4⟩:=rfl;exact Ea
 | succ d =>
  have Z5:Yr 100 (101-((d+1:Nat):Int))=false:=by rw [←Bool.not_eq_true,Jw];omega
  have Qu:(100-(101-((d+1:Nat):Int))).toNat=d:=by omega
  have hd5:101-((d+1:Nat):Int)=100-d:=by omega
  obtain ⟨⟨A,⟨i2,ss2,e2⟩⟩,Qd⟩:=exq (Jm l (d+1) ⟨(i:Int),ss,0⟩);have Qz:=Qd;rw [Jm,Zed,if_neg (by simp)] at Qz
  simp only [Kh] at Qz;have Q2:Int.toNat 5=5:=rfl;rcases Zl i l.length with ⟨hlt,Q0⟩|⟨hlt,Q0⟩
  rotate_left
  ·rw [if_neg (by omega)] at Qz
   rw [hd5] at Qh Qu Z5;rw [hd5];exact Ea
  have Zv:=Zo Yy hlt;have hadv:Xh ⟨(i:Int),ss,0⟩=⟨(i:Int)+1,ss,0⟩:=rfl;have m1:=hS.adv rfl (by show (i:Int)<l.length;omega)
  rw [hadv] at m1 Qz;obtain ⟨t,ht⟩:=exq (l.getD i Yy);rw [ht] at Zv Qz;rw [hd5] at Qh Qu Z5;rw [hd5];by_cases h6:t.kind=6
  case neg =>
   rw [if_neg (fun h=>h6 h.2)] at Qz;have Zx:(t.kind==6)=false:=by rw [Zf];exact h6
   exact Ea
  rw [if_pos ⟨by omega,h6⟩] at Qz
  have Zx:(t.kind==6)=true:=by rw [Zp];exact h6
  by_cases hx0:t.text=[102,117,110]
  ·rw [if_pos hx0] at Qz;have Zu:(t.text==[102,117,110])=true:=by rw [Zp];exact hx0
   exact Ea
  rw [if_neg hx0] at Qz;have Zu:(t.text==[102,117,110])=false:=by rw [Zf];exact hx0
  by_cases hx1:t.text=[108,101,116]
  ·rw [if_pos hx1] at Qz;have Zy:(t.text==[108,101,116])=true:=by rw [Zp];exact hx1
   exact Ea
  rw [if_neg hx1] at Qz;have Zy:(t.text==[108,101,116])=false:=by rw [Zf];exact hx1
  by_cases hx2:t.text=[114,101,99]
  ·rw [if_pos hx2] at Qz;have Zz:(t.text==[114,101,99])=true:=by rw [Zp];exact hx2
   exact Ea
  rw [if_neg hx2] at Qz;have Zz:(t.text==[114,101,99])=false:=by rw [Zf];exact hx2
  by_cases hx3:t.text=[105,102]
  ·rw [if_pos hx3] at Qz;have Z4:(t.text==[105,102])=true:=by rw [Zp];exact hx3
   exact Ea
  rw [if_neg hx3] at Qz;have Z4:(t.text==[105,102])=false:=by rw [Zf];exact hx3
  by_cases hx4:t.text=[99,97,115,101]
  ·rw [if_pos hx4] at Qz;have Zs:(t.text==[99,97,115,101])=true:=by rw [Zp];exact hx4
   exact Ea
  rw [if_neg hx4] at Qz;have Zs:(t.text==[99,97,115,101])=false:=by rw [Zf];exact hx4
  exact Ea
theorem Zhr:∀ n,IH6 n
 | 0=>IH6.mk
  (X9 (Xk Tryz.func186 (by kernel_rfl) rfl) iL)
  (X9 (Xk Tryz.func225 (by kernel_rfl) rfl) xI)
  (X9 (Xk Tryz.func226 (by kernel_rfl) rfl) xH)
  (X9 (Xk Tryz.func227 (by kernel_rfl) rfl) xF)
  (X9 (Xk Tryz.func228 (by kernel_rfl) rfl) iM)
  (X9 (Xk Tryz.func229 (by kernel_rfl) rfl) eN)
  (X9 (Xk Tryz.func254 (by kernel_rfl) rfl) aF)
  (X9 (Xk Tryz.func260 (by kernel_rfl) rfl) iI)
  (X9 (Xk Tryz.func266 (by kernel_rfl) rfl) iN)
  (X9 (Xk Tryz.func271 (by kernel_rfl) rfl) eM)
  (X9 (Xk Tryz.func272 (by kernel_rfl) rfl) iG)
  (X9 (Xk Tryz.func273 (by kernel_rfl) rfl) cH)
  (X9 (Xk Tryz.func230 (by kernel_rfl) rfl) xG)
 | n+1=>IH6.mk (Zck n (Zhr n)) (Zfj n (Zhr n)) (Zfi n (Zhr n)) (Zfh n (Zhr n)) (Zcl n (Zhr n)) (stepi_cases6 n (Zhr n)) (stepi_operand6 n (Zhr n)) (stepi_part6 n (Zhr n)) (Zcm n (Zhr n)) (Zaw n (Zhr n)) (stepi_rows6 n (Zhr n)) (xQ n (Zhr n)) (stepi_ops6 n (Zhr n))
def Iq:Con:=Xc 3000
theorem Zbq:Iq=Xc 3000:=rfl
theorem Zd1:Qr Tryz.prog (186,Iq):=(Zhr 3000).expr
structure Def6 where
 name:List UInt8
 t:List Node
 e:List Part
 deriving DecidableEq
instance encDef6:Enc Def6:=⟨fun a=>.agg [.str a.name,.list 3 (a.t.map enc),.list 8 (a.e.map enc)],fun x=>match x with
 | .agg [a,b,c]=>⟨a.s,b.l.map dec,c.l.map dec⟩
 | _=>⟨[],[],[]⟩,fun a=>by
  have h1:∀ l:List Node,(l.map (enc:Node→D)).map dec=l:=fun l=>Jz;have h2:∀ l:List Part,(l.map (enc:Part→D)).map dec=l:=fun l=>Jz;cases a;simp [D.l,D.s,h1,h2]⟩
instance szDef6:Sz Def6:=⟨3⟩
theorem P7:Sz.sz Def6=3:=rfl
theorem J1 {a:List UInt8} {b:List Node} {c:List Part}:(enc (Def6.mk a b c):D)=.agg [.str a,.list 3 (b.map enc),.list 8 (c.map enc)]:=rfl
theorem W6 {a:Def6}:(enc a:D)=.agg [.str a.name,.list 3 (a.t.map enc),.list 8 (a.e.map enc)]:=rfl
theorem W8 {a:List UInt8} {b:List Node} {c:List Part}:(dec (.agg [.str a,.list 3 (b.map enc),.list 8 (c.map enc)]):Def6)=⟨a,b,c⟩:=Enc.dec_enc (Def6.mk a b c)
theorem W5 {a:List UInt8} {b:List Node} {c:List Part}:Up Def6 (.agg [.str a,.list 3 (b.map enc),.list 8 (c.map enc)])=True:=eq_true (Yc (Def6.mk a b c))
structure Mod6 where
 name:List UInt8
 imps:List (List UInt8)
 defs:List Def6
 sites:List Site
 deriving DecidableEq
instance encMod6:Enc Mod6:=⟨fun a=>.agg [.str a.name,.list 1 (a.imps.map enc),.list 3 (a.defs.map enc),.list 3 (a.sites.map enc)],fun x=>match x with
 | .agg [a,b,c,d]=>⟨a.s,b.l.map dec,c.l.map dec,d.l.map dec⟩
 | _=>⟨[],[],[],[]⟩,fun a=>by
  have h0:∀ l:List (List UInt8),(l.map (enc:List UInt8→D)).map dec=l:=fun l=>Jz;have h1:∀ l:List Def6,(l.map (enc:Def6→D)).map dec=l:=fun l=>Jz;have h2:∀ l:List Site,(l.map (enc:Site→D)).map dec=l:=fun l=>Jz;cases a;simp [D.l,D.s,h0,h1,h2]⟩
instance szMod6:Sz Mod6:=⟨4⟩
theorem Ta:Sz.sz Mod6=4:=rfl
theorem Q4 {a:List UInt8} {b:List (List UInt8)} {c:List Def6} {d:List Site}:(enc (Mod6.mk a b c d):D)=.agg [.str a,.list 1 (b.map enc),.list 3 (c.map enc),.list 3 (d.map enc)]:=rfl
theorem Yo {a:Mod6}:(enc a:D)=.agg [.str a.name,.list 1 (a.imps.map enc),.list 3 (a.defs.map enc),.list 3 (a.sites.map enc)]:=rfl
theorem W7 {a:List UInt8} {b:List (List UInt8)} {c:List Def6} {d:List Site}:(dec (.agg [.str a,.list 1 (b.map enc),.list 3 (c.map enc),.list 3 (d.map enc)]):Mod6)=⟨a,b,c,d⟩:=Enc.dec_enc (Mod6.mk a b c d)
theorem W4 {a:List UInt8} {b:List (List UInt8)} {c:List Def6} {d:List Site}:Up Mod6 (.agg [.str a,.list 1 (b.map enc),.list 3 (c.map enc),.list 3 (d.map enc)])=True:=eq_true (Yc (Mod6.mk a b c d))
def Jq:Def6:=⟨[],[],[]⟩
def Jl:Mod6:=⟨[],[],[],[]⟩
def Zlb (had:List Def6) (x:List UInt8):Bool:=had.any fun d=>d.name==x
def xE (l:List Tok) (s:St6) (had:List Def6):Def6×St6 :=
 let x:=Q7 l s 1
 if x.2.e=0∧Zlb had x.1=true then (Jq,Jp s 7)
 else
  let t:=Uv l x.2 1
  let r:=Jm l 100 (Qb l t.2 5 [61])
  (⟨x.1,t.1,r.1⟩,Qb l r.2 5 [59])
def aH:Con:=Wq (fun (l:Sl Tok) (s:St6) (had:Sl Def6)=>St6In l.l s∧had.l.length≤1000) (fun l s had=>xE l.l s had.l)
structure w541k:Prop
theorem w541k.k (_:w541k) {p:Prop} (h:p:=by
 repeat' first|exact Qg|with_reducible apply And.intro|intro _
 all_goals first|with_reducible exact Jf|omega|exact ⟨k+1,by exact Qy,by omega,fun h=>absurd h he,by omega⟩|skip):p:=h
structure w542k:Prop
theorem w542k.k (_:w542k) {p:Prop} (h:p:=by
 repeat' first|exact Qg|with_reducible apply And.intro|intro _
 all_goals first|with_reducible exact Jf|omega|exact ⟨k+1,by exact Qy,by omega,(by first|exact hst2|exact fun _=>hst2|exact fun m hm=>beq_eq_false_iff_ne.1 (hst2 m hm)),by omega⟩|skip):p:=h
structure w540k:Prop
theorem w540k.k (_:w540k) {p:Prop} (h:p:=by
 repeat' first|exact Qg|with_reducible apply And.intro|intro _
 refine Zh [19,20,21,22,23,24,25,26,27,28,29,30,31,32,33,34,35,36,37,38,39] (fun k:Nat=>[(10,.d (.int .i64 k))]) (fun k:Nat=>[]) (fun k:Nat=>k≤had.length∧(e1=0→∀ m,m<k→((had.getD m Jq).name==x)=false)) (fun k:Nat=>had.length-k) 0 ?_ ?_ ?_
 ·exact ⟨by omega,fun _ m hm=>absurd hm (Nat.not_lt_zero m)⟩
 ·exact Qy
 rintro k ⟨hk,hno⟩;rcases Zl k had.length with ⟨hlt,Qi⟩|⟨hlt,Qi⟩
 ·have Qd:=Zo Jq hlt;have hst:((had.getD k Jq).name==x)=false→∀ m,m<k+1→e1=0→((had.getD m Jq).name==x)=false:=fun h m hm he=>by
   by_cases e:m=k
   ·subst e;exact h
   ·exact hno he m (by omega)
  have hit:e1=0→((had.getD k Jq).name==x)=true→Zlb had x=true:=fun _ h=>by
   unfold Zlb;rw [List.any_eq_true];refine ⟨had.getD k Jq,by simp [hlt],h⟩
  obtain ⟨y,hy⟩:=exq (had.getD k Jq);rw [hy] at Qd hst hit;by_cases he:e1=0
  case neg =>
   have Z2:(e1==0)=false:=by rw [Zf];exact he
   have Zu:=@P7;have Kq:w541k:=⟨⟩;exact dZ
  subst he;have Z2:((0:Int)==0)=true:=rfl;cases Z5:(y.name==x) with
  | true =>
   rw [if_pos ⟨rfl,hit rfl Z5⟩] at hR2;subst hR2;have Zu:=@P7;have Zy:=@W6;exact Ea
  | false =>
   have hst2:∀ m,m<k+1→((had.getD m Jq).name==x)=false:=fun m hm=>hst Z5 m hm rfl;clear hst;have Zu:=@P7;have Zy:=@W6;have Kq:w542k:=⟨⟩;exact dZ
 ·have hke:k=had.length:=by omega
  have hno2:¬ (e1=0∧Zlb had x=true):=fun h=>by
   unfold Zlb at h;rw [List.any_eq_true] at h;obtain ⟨he,y,hy,hyx⟩:=h;obtain ⟨m,hm,rfl⟩:=List.getElem_of_mem hy;have:=hno he m (by omega)
   rw [Zc,Zd hm,Option.getD_some,hyx] at this;exact Bool.noConfusion this
  rw [if_neg hno2] at hR2;clear hno;obtain ⟨⟨u,⟨i2,ss2,e2⟩⟩,Q0⟩:=exq (Uv l ⟨i1,ss1,e1⟩ 1);rw [Q0] at hR2 m2 hu;simp only at hR2 m2;have m3:=m2.needs 5 [61];obtain ⟨⟨i3,ss3,e3⟩,Q2⟩:=exq (Qb l ⟨i2,ss2,e2⟩ 5 [61]);rw [Q2] at hR2 m3;have m4:=m3.expr (d:=100) (by omega)
  obtain ⟨⟨A,⟨i4,ss4,e4⟩⟩,Qz⟩:=exq (Jm l 100 ⟨i3,ss3,e3⟩);rw [Qz] at hR2 m4;simp only at hR2 m4;obtain ⟨⟨i5,ss5,e5⟩,Zv⟩:=exq (Qb l ⟨i4,ss4,e4⟩ 5 [59]);rw [Zv] at hR2;have o2:=m2.nums;have o4:=m4.nums;simp only at o2 o4;have Zx:Int.toNat 100=100:=rfl;clear hu;subst hR2;have Zu:=@P7;have Zy:=@Zbq;exact Ea):p:=h
theorem good_def6:Qr Tryz.prog (149,aH):=by
 obtain ⟨Kx,Kt,Kc,Kd,Kb,Ku,Kw,K,Yj,Kv,P4,B6,D2,_⟩:=Wi Z3 Zn [] false (Ja Y5 Ha (Ja Uq Pa (Ja St Np.eq_def (Ja Uz N3 (Ja Zd1 Iq.eq_def Wg)))));have Ko:=aH.eq_def;refine Wh K Tryz.func149 [.cell 6 49,.cell 7 137] rfl 62 rfl (fun c hc cvs hpre=>?_);unfold aH at hpre;obtain ⟨⟨l⟩,s,⟨had⟩,rfl,hS,hh⟩:=G6 hpre;simp only at hS hh;clear hpre;have hT:=hS.toks;have o0:=hS.nums;obtain ⟨R,Qu⟩:=exq (xE l s had);have hR2:=Qu;unfold xE at hR2;have m1:=hS.named 1;have hat:=M1 hS.pos 1;obtain ⟨⟨x,⟨i1,ss1,e1⟩⟩,Qh⟩:=exq (Q7 l s 1);rw [Qh] at hR2 m1 hat;simp only at hR2 m1 hat;have hgain:e1=0→1≤i1:=fun h=>by have Qh:=(hat.gain h).2;have Q0:=(hat.gain h).1;have:=hS.pos.lo;simp only at Qh Q0;omega
 have o1:=m1.nums;simp only at o1;obtain ⟨⟨Wa,Ws,We⟩,Z9⟩:=exq (Jp s 7);rw [Z9] at hR2;have hu:=K3 hT m1.pos (v:=1) fun _=>⟨by omega,by omega⟩
 have m2:=hS.go (hat.trans hu.adv (m:=0) (q:=0) (by omega) (by omega) (by omega)) (by omega) (by omega)
 have m1o:=m1.ok6;clear hat;obtain ⟨i0,ss0,e0⟩:=s;simp only at o0;cases hc;refine Ys 3 ?_;have Kq:w540k:=⟨⟩;exact dZ
def Zjy (z:Int) (d:Def6):Nat:=J3 (G3 z) d.t+W1 z d.e
def zS (z:Int) (l:List Def6):Nat:=(l.map (Zjy z)).sum
structure FitD (d:Def6):Prop where
 name:d.name.length≤1000000
 t:d.t.length≤100001
 named:Wz d.t
 e:d.e.length≤300000
 fit:∀ p∈d.e,Tm p
structure Defd (l:List Tok) (s:St6) (r:Def6×St6):Prop where
 adv:Adv l 1 0 s r.2
 cnt:r.2.e=0→∀ z,Zjy z r.1=if (s.sites.length:Int)+1≤z∧z<(r.2.sites.length:Int)+1 then 1 else 0
 fit:FitD r.1
 ok:r.2.e=0→r.1.t≠[]∧W0 r.1.t=true∧r.1.e≠[]
theorem B0 {s:St6} {e:Int} (he:e≠0):(Jp s e).e≠0:=by
 unfold Jp;split
 ·exact he
 ·assumption
theorem yK {l:List Tok} (hT:Toks l) {s:St6} (h:Pos l s) (had:List Def6):Defd l s (xE l s had):=by
 unfold xE;simp only;split
 ·have hw:=Pd h (e:=7) (by decide)
  have he:(Jp s 7).e≠0:=B0 (by decide)
  exact ⟨hw.adv,fun h0=>absurd h0 he,⟨by simp [Jq],by simp [Jq],Qc,by simp [Jq],fun p hp=>(by cases hp)⟩,fun h0=>absurd h0 he⟩
 ·have q1:=(Sq.refl h).tok (by omega) (N6 h 1)
  have hx:=X2 hT s 1;have hu:=K3 hT q1.adv.pos (v:=1) fun _=>⟨by omega,by omega⟩
  have q2:=q1.note hu (by omega) (by omega)
  have q3:=q2.tok (by omega) (J2 q2.adv.pos 5 [61])
  have hr:=Q5 hT 100 (by omega) _ q3.adv.pos
  have q4:=q3.read (by omega) hr
  have q5:=q4.tok (by omega) (J2 q4.adv.pos 5 [59])
  have hl:(Jm l 100 (Qb l (Uv l (Q7 l s 1).2 1).2 5 [61])).1.length≤300000:=by
   have h1:=hr.len;have h2:=hT.len;have h3:=q3.adv.lo;omega
  have back:(Qb l (Jm l 100 (Qb l (Uv l (Q7 l s 1).2 1).2 5 [61])).2 5 [59]).e=0→(Jm l 100 (Qb l (Uv l (Q7 l s 1).2 1).2 5 [61])).2.e=0:=fun h0=>(N0 q4.adv.pos 5 [59]).ok0 h0;refine ⟨q5.adv.weak (by omega) (Int.le_refl _),fun h0 z=>?_,⟨hx,hu.len,hu.named,hl,hr.fit⟩,fun h0=>?_⟩
  ·have:=q5.cnt h0 z;unfold Zjy;simp only;omega
  ·have h1:=back h0;have h2:=(N0 q2.adv.pos 5 [61]).ok0 (hr.adv.ok0 h1);exact ⟨(hu.ok h2).1,(hu.ok h2).2,(hr.ok h1).1⟩
def Zdx (l:List Tok):Nat→St6→List (List UInt8)→Bool×List (List UInt8)×St6
 | 0,s,imps=>(true,imps,s)
 | f+1,s,imps =>
  if T0 l s 6 [105,109,112,111,114,116]=false then (false,imps,s)
  else if (Q7 l (Xh s) 1).2.e=0∧Zke imps (Q7 l (Xh s) 1).1=true then (true,imps,Jp (Xh s) 7)
  else Zdx l f (Qb l (Q7 l (Xh s) 1).2 5 [59]) (imps++[(Q7 l (Xh s) 1).1])
def Zeh (l:List Tok):Nat→St6→List Def6→List Int→Bool×List Def6×List Int×St6
 | 0,s,defs,pl=>(true,defs,[],s)
 | f+1,s,defs,pl =>
  if T0 l s 6 [100,101,102]=false then (false,defs,pl,s)
  else if defs.length=200 then (true,defs,[],Jp s 3)
  else Zeh l f (xE l (Xh s) defs).2 (defs++[(xE l (Xh s) defs).1]) (pl++[s.at_])
def dG (l:List Tok) (s:St6):St6:=if s.e=0∧((l.length:Int)≤s.at_∨(tk l s.at_).kind≠0) then Jp s 2 else s
def Yb (l:List Tok) (name:List UInt8):Mod6×St6×List Int :=
 let a:=Zdx l (l.length+1) ⟨0,[],0⟩ []
 if a.1=true then (⟨name,a.2.1,[],[]⟩,a.2.2,[])
 else
  let b:=Zeh l 201 a.2.2 [] []
  if b.1=true then (⟨name,a.2.1,b.2.1,[]⟩,b.2.2.2,[])
  else (⟨name,a.2.1,b.2.1,(dG l b.2.2.2).sites⟩,dG l b.2.2.2,b.2.2.1)
theorem Bw (s:St6) (e:Int):(Jp s e).at_=s.at_∧(Jp s e).sites=s.sites:=by
 unfold Jp;split<;>exact ⟨rfl,rfl⟩
theorem Cw (l:List Tok) (s:St6) (k:Int) (x:List UInt8):(Qb l s k x).sites=s.sites:=by
 unfold Qb;split
 ·rfl
 split
 ·exact (Bw s 2).2
 ·rfl
theorem Cy (l:List Tok) (s:St6) (k:Int):(Q7 l s k).2.sites=s.sites:=by
 unfold Q7;split
 ·rfl
 split
 ·exact (Bw s 2).2
 ·rfl
structure Imps (l:List Tok) (r:Bool×List (List UInt8)×St6):Prop where
 pos:Pos l r.2.2
 stop:r.1=true→r.2.2.e≠0
 sites:r.2.2.sites=[]
 short:∀ x∈r.2.1,x.length≤1000000
 len:r.2.1.length≤l.length+1
theorem Zhq {l:List Tok} (hT:Toks l):∀ (f:Nat) (s:St6) (imps:List (List UInt8)),Pos l s→s.sites=[]→(s.e=0→(l.length:Int)+1≤f+s.at_)→imps.length+f≤l.length+1→(∀ x∈imps,x.length≤1000000)→Imps l (Zdx l f s imps)
 | 0,s,imps,hP,hs,h0,hf,hi=>⟨hP,fun _ he=>by have:=h0 he;have:=hP.hi;omega,hs,hi,by show imps.length≤_;omega⟩
 | f+1,s,imps,hP,hs,h0,hf,hi=>by
  rw [Zdx];split
  ·exact ⟨hP,fun h=>by simp at h,hs,hi,by show imps.length≤_;omega⟩
  rename_i his;have his:T0 l s 6 [105,109,112,111,114,116]=true:=by simpa using his
  have q1:=(Sq.refl hP).tok (by omega) (Ae hP his)
  split
  ·refine ⟨?_,fun _=>B0 (by decide),?_,hi,by show imps.length≤_;omega⟩
   ·show Pos l (Jp (Xh s) 7);obtain ⟨e1,e2⟩:=Bw (Xh s) 7;exact ⟨by rw [e1];exact q1.adv.lo,by rw [e1];exact q1.adv.hi⟩
   ·show (Jp (Xh s) 7).sites=[];rw [(Bw (Xh s) 7).2];exact hs
  ·have q2:=q1.tok (by omega) (N6 q1.adv.pos 1)
   have q3:=q2.tok (by omega) (J2 q2.adv.pos 5 [59])
   refine Zhq hT f _ _ q3.adv.pos ?_ (fun he=>?_) (by simp only [Zj,Zi,List.length_nil];omega) (fun x hx=>?_)
   ·rw [Cw,Cy];exact hs
   ·have h1:=h0 (q3.adv.ok0 he);have h2:=(q3.adv.gain he).2;have h3:=(q3.adv.gain he).1;omega
   ·rcases List.mem_append.1 hx with hx|hx
    ·exact hi x hx
    ·rw [Zr] at hx;subst hx;exact X2 hT _ _
theorem Zm9 {l:List Tok} (hT:Toks l) {s:St6} (hP:Pos l s) (hs:s.sites=[]):St6In l s:=⟨hT,hP,by rw [hs];simp,fun _=>by rw [hs];have:=hP.lo;simp;omega⟩
structure Defs (l:List Tok) (s0:St6) (r:Bool×List Def6×List Int×St6):Prop where
 adv:Adv l 0 0 s0 r.2.2.2
 stop:r.1=true→r.2.2.2.e≠0
 cnt:r.2.2.2.e=0→∀ z,zS z r.2.1=if (s0.sites.length:Int)+1≤z∧z<(r.2.2.2.sites.length:Int)+1 then 1 else 0
 fit:∀ d∈r.2.1,FitD d
 ok:r.2.2.2.e=0→∀ d∈r.2.1,d.t≠[]∧W0 d.t=true∧d.e≠[]
 len:r.2.1.length≤200
 pl:r.1=false→r.2.2.1.length=r.2.1.length∧∀ x∈r.2.2.1,0≤x∧x<l.length
theorem Zh1 {l:List Tok} (hT:Toks l) {s0:St6}:∀ (f:Nat) (s:St6) (defs:List Def6) (pl:List Int),Defs l s0 (false,defs,pl,s)→defs.length+f=201→Defs l s0 (Zeh l f s defs pl)
 | 0,s,defs,pl,h,hf=>by have:=h.len;simp only at this;omega
 | f+1,s,defs,pl,h,hf=>by
  rw [Zeh];split
  ·exact h
  rename_i his;have his:T0 l s 6 [100,101,102]=true:=by simpa using his
  have hlt:=Lk his;have hP:=h.adv.pos;have hadv:=h.adv;have hcnt:=h.cnt;have hok:=h.ok;have hlen:=h.len;have hpl:=h.pl rfl;simp only at hP hadv hcnt hok hlen hpl;split
  ·have hw:=Pd hP (e:=3) (by decide)
   exact ⟨hadv.trans hw.adv (by omega) (by omega) (by omega),fun _=>B0 (by decide),fun he=>absurd he (B0 (by decide)),h.fit,fun he=>absurd he (B0 (by decide)),h.len,fun h=>by simp at h⟩
  rename_i h200;have t1:=(Ae hP his).adv;have hd:=yK hT t1.pos defs;have a2:=t1.trans hd.adv (m:=0) (q:=0) (by omega) (by omega) (by omega)
  refine Zh1 hT f _ _ _ ⟨hadv.trans a2 (by omega) (by omega) (by omega),fun h=>by simp at h,fun he z=>?_,fun d hx=>?_,fun he d hx=>?_,?_,fun _=>⟨?_,fun x hx=>?_⟩⟩ ?_
  ·have e1:=hcnt hlt.1 z;have e2:=hd.cnt he z;have g1:=(hadv.gain hlt.1).1;have g2:=(hd.adv.gain he).1;have hss:(Xh s).sites=s.sites:=rfl;rw [hss] at e2 g2;show zS z (defs++[_])=_;unfold zS at e1 ⊢;rw [List.map_append,List.sum_append];simp only [List.map_cons,List.map_nil,List.sum_cons,List.sum_nil,Nat.add_zero];rw [e1,e2];exact Fg (by omega) (by omega)
  ·rcases List.mem_append.1 hx with hx|hx
   ·exact h.fit d hx
   ·rw [Zr] at hx;subst hx;exact hd.fit
  ·rcases List.mem_append.1 hx with hx|hx
   ·exact hok hlt.1 d hx
   ·rw [Zr] at hx;subst hx;exact hd.ok he
  ·show (defs++[_]).length≤200;simp only [Zj,Zi,List.length_nil];omega
  ·show (pl++[_]).length=(defs++[_]).length;simp only [Zj,Zi,List.length_nil];omega
  ·rcases List.mem_append.1 hx with hx|hx
   ·exact hpl.2 x hx
   ·rw [Zr] at hx;subst hx;exact ⟨hP.lo,hlt.2⟩
  ·simp only [Zj,Zi,List.length_nil];omega
theorem dF (l:List Tok) (s:St6):(dG l s).at_=s.at_∧(dG l s).sites=s.sites∧((dG l s).e=0→dG l s=s):=by
 unfold dG;split
 ·obtain ⟨h1,h2⟩:=Bw s 2;exact ⟨h1,h2,fun h=>absurd h (B0 (by decide))⟩
 ·exact ⟨rfl,rfl,fun _=>rfl⟩
structure Modd (l:List Tok) (name:List UInt8) (m:Mod6):Prop where
 name:m.name=name
 short:∀ x∈m.imps,x.length≤1000000
 ilen:m.imps.length≤l.length+1
 dlen:m.defs.length≤200
 fit:∀ d∈m.defs,FitD d
 ok:∀ d∈m.defs,d.t≠[]∧W0 d.t=true∧d.e≠[]
 slen:m.sites.length≤l.length
 cnt:∀ z,zS z m.defs=if 1≤z∧z<(m.sites.length:Int)+1 then 1 else 0
theorem gB {l:List Tok} (hT:Toks l) (name:List UInt8):Pos l (Yb l name).2.1∧(Yb l name).1.defs.length≤200∧(∀ d∈(Yb l name).1.defs,FitD d) ∧
  ((Yb l name).2.1.e=0→Modd l name (Yb l name).1∧(Yb l name).2.2.length=(Yb l name).1.defs.length∧∀ x∈(Yb l name).2.2,0≤x∧x<l.length):=by
 have hI:=Zhq hT (l.length+1) ⟨0,[],0⟩ [] ⟨by simp,by simp⟩ rfl (fun _=>by simp) (by simp) (fun x hx=>by cases hx)
 unfold Yb;simp only;obtain ⟨a,ha⟩:=exq (Zdx l (l.length+1) ⟨0,[],0⟩ []);rw [ha] at hI ⊢;split
 ·rename_i h1;exact ⟨hI.pos,by simp,fun d hd=>(by cases hd),fun he=>absurd he (hI.stop h1)⟩
 have hD:=Zh1 hT (s0:=a.2.2) 201 a.2.2 [] [] ⟨(Adv.refl hI.pos).weak (by omega) (by omega),fun h=>by simp at h,fun _ z=>(by show 0=if (a.2.2.sites.length:Int)+1≤z∧z<(a.2.2.sites.length:Int)+1 then 1 else 0;rw [if_neg (by omega)]),fun d hd=>(by cases hd),fun _ d hd=>(by cases hd),by simp,fun _=>⟨rfl,fun x hx=>(by cases hx)⟩⟩ (by simp)
 obtain ⟨b,hb⟩:=exq (Zeh l 201 a.2.2 [] []);rw [hb] at hD ⊢;split
 ·rename_i h1;exact ⟨hD.adv.pos,hD.len,hD.fit,fun he=>absurd he (hD.stop h1)⟩
 rename_i h1;have h1:b.1=false:=by simpa using h1
 obtain ⟨k1,k2,k3⟩:=dF l b.2.2.2;refine ⟨⟨by rw [k1];exact hD.adv.lo,by rw [k1];exact hD.adv.hi⟩,hD.len,hD.fit,fun he=>?_⟩
 have hke:=k3 he;simp only at he;rw [hke] at he ⊢;have hc:=hD.cnt he;have hs:=hI.sites;have hroom:=hD.adv.room (hD.adv.ok0 he);have hlo:=hI.pos.lo;refine ⟨⟨rfl,hI.short,hI.len,hD.len,hD.fit,hD.ok he,?_,fun z=>?_⟩,(hD.pl h1).1,(hD.pl h1).2⟩
 ·show b.2.2.2.sites.length≤l.length;rw [hs] at hroom;simp only [List.length_nil] at hroom;omega
 ·have:=hc z;rw [hs] at this;simpa using this
end Go.Am.Ty
