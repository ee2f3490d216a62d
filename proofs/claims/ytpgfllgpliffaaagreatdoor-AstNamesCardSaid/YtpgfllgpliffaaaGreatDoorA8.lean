/- Contracts of functions that the law reaches, and plain laws. Conditions: those that each contract states. -/
import Derived.Test.YtpgfllgpliffaaaGreatDoorA7
import Derived.Shelf.Strings.Search1
set_option maxHeartbeats 8000000
set_option linter.unusedVariables false
set_option linter.unusedSimpArgs false
variable {p:Prop}
set_option maxRecDepth 100000
namespace Go.Am.Ty
open Go.Proofs Go.Rose Go.Rose.Rose
open Enc (enc dec)
def gL (o:List (List UInt8)) (x:List UInt8):Bool:=match o.getLast? with
 | none=>true
 | some y=>Op.bytesLess y x
def Lk (o:List (List UInt8)) (s:List UInt8×Bool) (x:List UInt8):List UInt8×Bool:=if (gL o x&&(!s.2||Op.bytesLess x s.1))=true then (x,true) else s
def Lq (o l:List (List UInt8)):List UInt8×Bool:=l.foldl (Lk o) ([],false)
def lP (l:List (List UInt8)):Nat→List (List UInt8)→List (List UInt8)
 | 0,o=>o
 | f+1,o=>if (Lq o l).2=true then lP l f (o++[(Lq o l).1]) else o
def C4 (l:List (List UInt8)):List (List UInt8):=lP l (l.length+1) []
theorem Zb8 (x:List UInt8):gL [] x=true:=rfl
theorem Fn (o:List (List UInt8)) (y x:List UInt8):gL (o++[y]) x=Op.bytesLess y x:=by
 unfold gL;rw [List.getLast?_append];rfl
theorem B9 (o:List (List UInt8)):∀ (l:List (List UInt8)) (s:List UInt8×Bool),(s.2=true→gL o s.1=true) →
  ((l.foldl (Lk o) s).2=true→((l.foldl (Lk o) s).1∈l∨s=l.foldl (Lk o) s)∧gL o (l.foldl (Lk o) s).1=true∧∀ y∈l,gL o y=true→Op.bytesLess y (l.foldl (Lk o) s).1=false) ∧
  (s.2=true→(l.foldl (Lk o) s).2=true∧Op.bytesLess s.1 (l.foldl (Lk o) s).1=false) ∧
  ((l.foldl (Lk o) s).2=false→∀ y∈l,gL o y=false)
 | [],s,h=>⟨fun h2=>⟨.inr rfl,h h2,fun y hy=>by cases hy⟩,fun h2=>⟨h2,Nu _⟩,fun _ y hy=>by cases hy⟩
 | x::l,s,h=>by
  have Uf:Lk o s x=if (gL o x&&(!s.2||Op.bytesLess x s.1))=true then (x,true) else s:=rfl
  rw [List.foldl_cons];by_cases hc:(gL o x&&(!s.2||Op.bytesLess x s.1))=true
  ·rw [if_pos hc] at Uf;rw [Uf];rw [Ze] at hc;obtain ⟨i1,i2,i3⟩:=B9 o l (x,true) (fun _=>hc.1);obtain ⟨j1,j2⟩:=i2 rfl;simp only at j2;refine ⟨fun h2=>?_,fun h2=>⟨j1,?_⟩,fun h2=>by rw [j1] at h2;cases h2⟩
   ·obtain ⟨k1,k2,k3⟩:=i1 h2;refine ⟨.inl ?_,k2,fun y hy hg=>?_⟩
    ·rcases k1 with k1|k1
     ·exact List.mem_cons_of_mem _ k1
     ·rw [←k1];exact List.mem_cons_self
    ·rcases Zm.1 hy with rfl|hy
     ·exact j2
     ·exact k3 y hy hg
   ·have h3:Op.bytesLess x s.1=true:=by
     have:=hc.2;rw [h2] at this;simpa using this
    cases hb:Op.bytesLess s.1 (l.foldl (Lk o) (x,true)).1 with
    | false=>rfl
    | true =>
     have:=Ps h3 hb;rw [j2] at this;cases this
  ·rw [if_neg hc] at Uf;rw [Uf];obtain ⟨i1,i2,i3⟩:=B9 o l s h;have hx:∀ (hg:gL o x=true),s.2=true∧Op.bytesLess x s.1=false:=by
    intro hg;rw [hg,Bool.true_and] at hc;simpa using hc
   refine ⟨fun h2=>?_,i2,fun h2 y hy=>?_⟩
   ·obtain ⟨k1,k2,k3⟩:=i1 h2;refine ⟨?_,k2,fun y hy hg=>?_⟩
    ·rcases k1 with k1|k1
     ·exact .inl (List.mem_cons_of_mem _ k1)
     ·exact .inr k1
    ·rcases Zm.1 hy with rfl|hy
     ·obtain ⟨g1,g2⟩:=hx hg;obtain ⟨g3,g4⟩:=i2 g1;cases hb:Op.bytesLess y (l.foldl (Lk o) s).1 with
      | false=>rfl
      | true =>
       by_cases he:s.1=y
       ·rw [he] at g4;rw [hb] at g4;cases g4
       ·have:=Ps (Ag he g2) hb;rw [g4] at this;cases this
     ·exact k3 y hy hg
   ·rcases Zm.1 hy with rfl|hy
    ·cases hg:gL o y with
     | false=>rfl
     | true =>
      have:=(i2 (hx hg).1).1;rw [h2] at this;cases this
    ·exact i3 h2 y hy
theorem dV {o l:List (List UInt8)} (h:(Lq o l).2=true):(Lq o l).1∈l∧gL o (Lq o l).1=true∧∀ y∈l,gL o y=true→Op.bytesLess y (Lq o l).1=false:=by
 obtain ⟨h1,h2,h3⟩:=(B9 o l ([],false) (fun h=>by cases h)).1 h
 refine ⟨?_,h2,h3⟩;rcases h1 with h1|h1
 ·exact h1
 ·exfalso;have:(Lq o l).2=false:=(congrArg Prod.snd h1).symm;rw [h] at this;cases this
theorem rB {o l:List (List UInt8)} (h:(Lq o l).2=false):∀ y∈l,gL o y=false:=(B9 o l ([],false) (fun h=>by cases h)).2.2 h
def Zcg (o l:List (List UInt8)):Nat:=(l.filter (gL o)).length
theorem hI {p q:List UInt8→Bool}:∀ {l:List (List UInt8)} {b:List UInt8},(∀ x,p x=true→q x=true)→b∈l→q b=true→p b=false→(l.filter p).length<(l.filter q).length
 | [],b,_,h,_,_=>by cases h
 | x::l,b,hpq,hb,h1,h2=>by
  have Pj:(l.filter p).length≤(l.filter q).length:=by
   clear hb
   induction l with
   | nil=>simp
   | cons y l ih =>
    rw [List.filter_cons,List.filter_cons];cases hp:p y with
    | true=>rw [hpq y hp];simpa using ih
    | false =>
     cases q y with
     | true=>simp only [if_true,Zf];simp only [Zl,if_false];omega
     | false=>simpa using ih
  rw [List.filter_cons,List.filter_cons];rcases Zm.1 hb with rfl|hb
  ·rw [h1,h2];simp only [Zl,if_false,if_true,Zf];omega
  ·have ih:=hI (l:=l) hpq hb h1 h2;cases hp:p x with
   | true=>rw [hpq x hp];simpa using ih
   | false =>
    cases q x with
    | true=>simp only [Zl,if_false,if_true,Zf];omega
    | false=>simpa using ih
theorem Zce {o l:List (List UInt8)} (h:(Lq o l).2=true):Zcg (o++[(Lq o l).1]) l<Zcg o l:=by
 obtain ⟨h1,h2,h3⟩:=dV h;refine hI (fun x hx=>?_) h1 h2 ?_
 ·rw [Fn] at hx;unfold gL at h2 ⊢;cases ho:o.getLast? with
  | none=>rfl
  | some y =>
   rw [ho] at h2;exact Ps h2 hx
 ·rw [Fn];exact Nu _
theorem Zcf {o l:List (List UInt8)}:Zcg o l≤l.length:=List.length_filter_le _ _
noncomputable def J5 (t:List Part):List (List UInt8):=C4 (freeT (M1 Wr t 0) [])
def iI (t:List Part):Prop:=P5 t∧∃ x,At Wr t 0 x∧(nds x).length≤10000
open Go.Proofs Go.Rose Go.Rose.Rose Gr
noncomputable def Dh (t:List Part):List (List UInt8):=Sm (partT (M1 Wr t 0) [] [])
theorem mX {c:Nat}:∀ (x:Rose Part) (b S:List (List UInt8)),(∀ p∈nds x,p.name.length≤c)→(∀ s∈S,s.length≤c)→∀ s∈partT x b S,s.length≤c:=by
 intro x
 induction x using Rose.rec (motive_2:=fun xs=>∀ (p:Part) (k:Nat) (b S:List (List UInt8)),(∀ q∈ndss xs,q.name.length≤c)→(∀ s∈S,s.length≤c)→∀ s∈partTs p xs k b S,s.length≤c) with
 | mk p ks ih =>
  intro b S hn hS s hs;rw [Jt] at hn;rw [partT] at hs;split at hs
  ·split at hs
   ·exact hS s hs
   ·unfold Us at hs;cases hg:Yy p.name S with
    | true=>rw [hg,cond_true] at hs;exact hS s hs
    | false =>
     rw [hg,cond_false] at hs;rcases List.mem_append.1 hs with hs|hs
     ·exact hS s hs
     ·rw [Qo] at hs;subst hs;exact hn p (List.mem_cons_self ..)
  ·exact ih p 0 b S (fun q hq=>hn q (List.mem_cons_of_mem _ hq)) hS s hs
 | nil=>rename_i p k b S hn hS s hs;exact hS s hs
 | cons x xs ih1 ih2 =>
  rename_i p k b S hn hS s hs;rw [partTs] at hs;rw [ndss] at hn;exact ih2 p (k+1) b _ (fun q hq=>hn q (List.mem_append_right _ hq)) (ih1 _ S (fun q hq=>hn q (List.mem_append_left _ hq)) hS) s hs
noncomputable def Xl:BCon:=Zv 10001
theorem Ot:Wm Tryz.prog (44,Xl):=Ln _
noncomputable def Gj:Con:=Xd (fun (t:Sl Part)=>iI t.l∧∀ p∈t.l,p.name.length≤3000000) (fun t=>Sl.mk (Dh t.l))
class KeA:Prop
theorem KeA.k (_:KeA) (h:p:=by
 cases H with
 | false =>
  have Qu:Xl.post ⟨t,0,none,[]⟩=pN t j V:=pX;refine Z6 (bc:=Xl) ⟨t,0,none,[]⟩ [1,5,4,3,7,6,8] Yr rfl (by simp) (by rw [Qu];rfl) ?_ ?_ ?_
  ·show Zh _ _ (pN t 0 []) _;rw [Hr];simp [Zh,lk,J7,rnA,rnAs,rk,Cx];rfl
  ·show Zy (List.drop (pN t 0 []).length _) _;rw [Hr];simp [Zy,lk]
  have Q6:=@Hr;have Q5:=@sI;have Ja:=@tW;have Jq:=@tX;have Q9:=@sL;have Je:=@tK;exact Uy
 | true =>
  have Qu:Xl.post ⟨t,0,none,[]⟩=pB t j [] V:=pX;refine Z6 (bc:=Xl) ⟨t,0,none,[]⟩ [1,5,4,3,7,6,8,60000] Yr rfl (by simp) (by rw [Qu];rfl) ?_ ?_ ?_
  ·show Zh _ _ (pN t 0 []) _;rw [Hr];simp [Zh,lk,J7,rnA,rnAs,rk,Cx];rfl
  ·show Zy (List.drop (pN t 0 []).length _) _;rw [Hr];simp [Zy,lk]
  have Q6:=@X7;have Q5:=@sI;have Ja:=@tW;have Jq:=@tX;have Q9:=@sL;have Je:=@tK;exact Uy):p:=h
theorem good_FreeA:Jc Tryz.prog (24,Gj):=by
 obtain ⟨Kx,Kt,Kc,Kd,Kb,Ku,Kw,K,Y6,P7,aV,_⟩:=W5 Qj Z0 [] false (Xa qO iK.eq_def (Xa jT My.eq_def (kW Ot Xl.eq_def W4)));have Ko:=Gj.eq_def;refine Yv K Tryz.func24 [.tmp 2] rfl 16 rfl (fun c hc Jj Zo=>?_);unfold Gj at Zo;obtain ⟨⟨t⟩,rfl,⟨hT,x,hx,hn⟩,lZ⟩:=Qp Zo;simp only at hT hx lZ;clear Zo;have Zcs:M1 Wr t 0=x:=Wq hx;obtain ⟨R,Qs⟩:=exq (Dh t);have Q0:=Qs;unfold Dh at Q0;rw [Zcs] at Q0;have tT:=partT_len x [] [];obtain ⟨hw,r,hr⟩:=id hx;have Ztt:=mX (c:=3000000) x [] [] (fun p hp=>lZ p (by rw [List.drop_zero] at hr;rw [hr];exact List.mem_append_left _ hp)) (fun s hs=>by cases hs)
 obtain ⟨V,hV⟩:=exq (partT x [] []);rw [hV] at Q0 tT Ztt;obtain ⟨j,hj⟩:=exq (0+(nds x).length);obtain ⟨H,hH⟩:=exq (hasB x);have pX:Xl.post ⟨t,0,none,[]⟩=pP t j none H V:=Yt (n:=10001) (o:=none) hx hj hH hV;have Yr:Xl.ok ⟨t,0,none,[]⟩:=⟨hT,x,hx,by omega,by show 0+0+_≤_;omega,by show 0+_≤_;omega⟩
 have Qz:Xl.res ⟨t,0,none,[]⟩=.tup []:=rfl;simp only [List.length_nil] at tT;have rM:V.length≤1000000:=by omega
 cases hc;have Kq:KeA:=⟨⟩;exact Qw
def kU (l:List (List UInt8)):Prop:=l.Pairwise fun a b=>Op.bytesLess a b=true
theorem zZ {o:List (List UInt8)} {b:List UInt8} (h:kU o) (hg:gL o b=true):kU (o++[b]):=by
 unfold kU;rw [List.pairwise_append];refine ⟨h,by simp,fun a ha c hc=>?_⟩
 rw [Qo] at hc;subst hc;rcases List.eq_nil_or_concat o with rfl|⟨o',z,rfl⟩
 ·cases ha
 ·rw [List.concat_eq_append] at ha h hg;rw [Fn] at hg;rcases List.mem_append.1 ha with ha|ha
  ·unfold kU at h;rw [List.pairwise_append] at h;exact Ps (h.2.2 a ha z (by simp)) hg
  ·rw [Qo] at ha;rw [ha];exact hg
theorem qX:∀ {a b:List (List UInt8)},kU a→kU b→(∀ s,s∈a↔s∈b)→a=b
 | [],[],_,_,_=>rfl
 | [],y::b,_,_,h=>by have:=(h y).2 (by simp);cases this
 | x::a,[],_,_,h=>by have:=(h x).1 (by simp);cases this
 | x::a,y::b,ha,hb,h=>by
  unfold kU at ha hb;rw [List.pairwise_cons] at ha hb;have Zsk:x=y:=by
   rcases Zm.1 ((h x).1 (by simp)) with e|h1
   ·exact e
   ·rcases Zm.1 ((h y).2 (by simp)) with e|h2
    ·exact e.symm
    ·have h3:=Ps (ha.1 y h2) (hb.1 x h1);rw [Nu] at h3;cases h3
  subst Zsk;rw [qX (a:=a) (b:=b) ha.2 hb.2 fun s=>?_];constructor
  ·intro hs;rcases Zm.1 ((h s).1 (List.mem_cons_of_mem _ hs)) with e|h1
   ·subst e;have:=ha.1 s hs;rw [Nu] at this;cases this
   ·exact h1
  ·intro hs;rcases Zm.1 ((h s).2 (List.mem_cons_of_mem _ hs)) with e|h1
   ·subst e;have:=hb.1 s hs;rw [Nu] at this;cases this
   ·exact h1
theorem fW {l:List (List UInt8)}:∀ (f:Nat) (o:List (List UInt8)),Zcg o l<f→kU o→(∀ s∈o,s∈l)→(∀ y∈l,gL o y=false→y∈o)→kU (lP l f o)∧∀ s,s∈lP l f o↔s∈l
 | 0,o,h,_,_,_=>by omega
 | f+1,o,hf,h1,h2,h3=>by
  rw [lP];split
  ·rename_i hb;obtain ⟨b1,b2,b3⟩:=dV hb;have hc:=Zce hb;refine fW f _ (by omega) (zZ h1 b2) (fun s hs=>?_) (fun y hy hg=>?_)
   ·rcases List.mem_append.1 hs with hs|hs
    ·exact h2 s hs
    ·rw [Qo] at hs;rw [hs];exact b1
   ·rw [Fn] at hg;cases N9:gL o y with
    | false=>exact List.mem_append_left _ (h3 y hy N9)
    | true =>
     have h4:=b3 y hy N9;refine List.mem_append_right _ ?_;rw [Qo];refine Classical.byContradiction fun Gk=>?_;have h5:=Ag Gk hg;rw [h4] at h5;cases h5
  ·rename_i hb;have hb:(Lq o l).2=false:=by simpa using hb
   exact ⟨h1,fun s=>⟨h2 s,fun hs=>h3 s hs (rB hb s hs)⟩⟩
theorem Ug (l:List (List UInt8)):kU (C4 l)∧∀ s,s∈C4 l↔s∈l:=by
 unfold C4;have:=Zcf (o:=[]) (l:=l);exact fW _ _ (by omega) List.Pairwise.nil (fun s hs=>by cases hs) (fun y _ hg=>by rw [Zb8] at hg;cases hg)
theorem pE {l:List (List UInt8)} (hn:l.Nodup):kU (Sm l)∧∀ s,s∈Sm l↔s∈l:=by
 have hp:=List.mergeSort_perm l fun x y=>decide (x≤y);have hs:(Sm l).Pairwise fun x y=>decide (x≤y)=true:=by
  refine List.pairwise_mergeSort (fun a b c h1 h2=>?_) (fun a b=>?_) l
  ·rw [decide_eq_true_eq] at *;exact List.le_trans h1 h2
  ·rw [Bool.or_eq_true,decide_eq_true_eq,decide_eq_true_eq];exact List.le_total a b
 have Ek:(Sm l).Nodup:=hp.nodup_iff.2 hn;refine ⟨?_,fun s=>hp.mem_iff⟩;unfold kU;refine List.Pairwise.imp₂ (fun a b h1 h2=>?_) hs Ek;rw [decide_eq_true_eq] at h1;refine Ag h2 ?_;rw [bytesLess_eq,decide_eq_false_iff_not];exact fun h=>(List.not_lt.2 h1) h
theorem Mp {b:List (List UInt8)} {x s:List UInt8}:Uc (b++[x]) s=(Uc b s||x==s):=by
 unfold Uc;rw [List.any_append,List.any_cons,List.any_nil,Bool.or_false]
theorem vV {p:Part} {k:Nat} {b b':List (List UInt8)} (h:∀ s,Uc b s=Uc b' s) (s:List UInt8):Uc (Su p k b) s=Uc (Kz p k b') s:=by
 unfold Su Kz;by_cases h2:p.kind=2∨p.kind=8∨(p.kind=4∧k=1)
 ·have h5:¬ p.kind=5:=by omega
  rw [if_pos h2,if_pos (by omega),if_neg h5,List.append_nil,Mp,Mp,h]
 ·rw [if_neg h2];by_cases h5:p.kind=5
  ·rw [if_pos h5,if_pos h5];by_cases hk:k=0
   ·rw [if_pos hk,if_pos (by omega),show b++[p.name,p.bind]=(b++[p.name])++[p.bind] by simp,Mp,Mp,Mp,Mp,h]
    cases Uc b' s<;>cases (p.name==s)<;>cases (p.bind==s)<;>rfl
   ·rw [if_neg hk,if_neg (by omega),Mp,Mp,h]
  ·rw [if_neg h5,if_neg h5,if_neg (by omega),List.append_nil,h]
theorem fP {x s:List UInt8} {S:List (List UInt8)}:s∈Us x S↔s∈S∨s=x:=by
 unfold Us;cases hg:Yy x S with
 | true =>
  rw [cond_true];refine ⟨.inl,fun h=>h.elim id fun e=>?_⟩;subst e;clear h
  induction S with
  | nil=>cases hg
  | cons y S ih =>
   simp only [Yy,Bool.or_eq_true,Zi] at hg;rcases hg with rfl|hg
   ·exact List.mem_cons_self ..
   ·exact List.mem_cons_of_mem _ (ih hg)
 | false=>rw [cond_false,List.mem_append,Qo]
theorem yP:∀ (x:Rose Part) (b b' S:List (List UInt8)),wf Wr x→(∀ s,Uc b s=Uc b' s)→∀ s,s∈partT x b S↔s∈S∨s∈freeT x b':=by
 intro x
 induction x using Rose.rec (motive_2:=fun xs=>∀ (p:Part) (k:Nat) (b b' S:List (List UInt8)),wfs Wr xs→(∀ s,Uc b s=Uc b' s)→∀ s,s∈partTs p xs k b S↔s∈S∨s∈freeTs p xs k b') with
 | mk p ks ih =>
  intro b b' S hw hb s;obtain ⟨h1,h2⟩:=hw;rw [partT,freeT];by_cases hk:p.kind=1
  ·have hz:ks=[]:=by
    refine List.length_eq_zero_iff.1 (h1.trans ?_);unfold Wr Jk;rw [if_neg (by omega),if_neg (by omega),if_neg (by omega),if_neg (by omega),if_neg (by omega)]
    rfl
   subst hz;rw [if_pos hk,hb];cases Em:Uc b' p.name with
   | true =>
    rw [if_pos rfl,if_neg (by rintro ⟨_,h⟩;cases h),freeTs]
    simp
   | false =>
    rw [if_neg (by simp),if_pos ⟨hk,rfl⟩,fP,Qo]
  ·rw [if_neg hk,if_neg (fun h=>hk h.1)];exact ih p 0 b b' S h2 hb s
 | nil =>
  rename_i p k b b' S hw hb s;rw [partTs,freeTs];simp
 | cons x xs ih1 ih2 =>
  rename_i p k b b' S hw hb s;rw [partTs,freeTs,ih2 p (k+1) b b' _ hw.2 hb s,ih1 _ (Kz p k b') S hw.1 (vV hb) s,List.mem_append,or_assoc]
theorem pR:∀ (x:Rose Part) (b S:List (List UInt8)),S.Nodup→(partT x b S).Nodup:=by
 intro x
 induction x using Rose.rec (motive_2:=fun xs=>∀ (p:Part) (k:Nat) (b S:List (List UInt8)),S.Nodup→(partTs p xs k b S).Nodup) with
 | mk p ks ih =>
  intro b S hS;rw [partT];split
  ·split
   ·exact hS
   ·unfold Us;cases hg:Yy p.name S with
    | true=>exact hS
    | false =>
     rw [cond_false,List.nodup_append];refine ⟨hS,by simp,fun a ha c hc e=>?_⟩
     rw [Qo] at hc;rw [e,hc] at ha;have:p.name∈Us p.name S:=fP.2 (.inr rfl);clear this;have hx:∀ {S:List (List UInt8)},p.name∈S→Yy p.name S=true:=by
      intro S hm
      induction S with
      | nil=>cases hm
      | cons y S ih =>
       simp only [Yy,Bool.or_eq_true,Zi];rcases Zm.1 hm with h|h
       ·exact .inl h
       ·exact .inr (ih h)
     rw [hx ha] at hg;cases hg
  ·exact ih p 0 b S hS
 | nil=>rename_i p k b S hS;exact hS
 | cons x xs ih1 ih2 =>
  rename_i p k b S hS;rw [partTs];exact ih2 p (k+1) b _ (ih1 _ S hS)
theorem vT {t:List Part} {x:Rose Part} (hx:At Wr t 0 x):Dh t=J5 t:=by
 unfold Dh J5;rw [Wq hx];obtain ⟨a1,a2⟩:=pE (pR x [] [] List.nodup_nil);obtain ⟨b1,b2⟩:=Ug (freeT x []);refine qX a1 b1 fun s=>?_;rw [a2,b2,yP x [] [] [] hx.1 (fun _=>rfl)];simp
abbrev Lo (n:Nat):Prop:=n≤9223372036854775807
theorem uP {n:Nat} {p:Nat→Bool} (h:∀ j,j<n→p j=true):(List.range n).all p=true:=by
 rw [List.all_eq_true];exact fun x hx=>h x (List.mem_range.1 hx)
theorem pH {n k:Nat} {p:Nat→Bool} (hk:k<n) (h:p k=false):(List.range n).all p=false:=by
 rw [List.all_eq_false];exact ⟨k,List.mem_range.2 hk,by simp [h]⟩
def Zrj {α:Type} (p:α→α→Bool) (d:α) (a b:List α):Bool:=(a.length==b.length)&&(List.range a.length).all fun j=>p (a.getD j d) (b.getD j d)
def Mz:Con:=Vy (fun (x y:Part)=>eN x∧eN y) V0
class KeB:Prop
theorem KeB.k (_:KeB) (h:p:=by
 unfold V0 sT;repeat' first|exact Lz|with_reducible apply Z3|intro _
 all_goals first|with_reducible exact Zre|(simp_all;done)|skip):p:=h
theorem good_SameA_1:Jc Tryz.prog (36,Mz):=by
 obtain ⟨Kx,Kt,Kc,Kd,Kb,Ku,Kw,K,Y6,_⟩:=W5 Qj Z0 [] false (Xa qN Cg.eq_def W4);have Ko:=Mz.eq_def;refine Yv K Tryz.func36 [.tmp 4] rfl 61 rfl (fun c hc Jj Zo=>?_);unfold Mz at Zo;obtain ⟨x,y,rfl,⟨h1,h2⟩,h3,h4⟩:=Jd Zo;cases hc;refine Kn 3 ?_;have Kq:KeB:=⟨⟩;exact uC
def Ke:Con:=kJ (fun (a b:Sl (Part)) (_:Fn0 36)=>(Lo a.l.length∧∀ x∈a.l,eN x)∧(Lo b.l.length∧∀ x∈b.l,eN x)) (fun a b _=>Zrj V0 e0 a.l b.l)
class KeD:Prop
theorem KeD.k (_:KeD) (h:p:=by
 first|exact s1|exact s2|exact s1.1|exact s1.2|exact s2.1|exact s2.2|rfl|trivial|skip):p:=h
class KeE:Prop
theorem KeE.k (_:KeE) (h:p:=by
 first|exact s1|exact s2|exact s1.1|exact s1.2|exact s2.1|exact s2.2|exact ⟨k+1,by exact J0,by omega,Eq.mpr hQ h9,by omega⟩|rfl|trivial|skip):p:=h
class KeC:Prop
theorem KeC.k (_:KeC) (h:p:=by
 refine Z1 [6,7,8,9,18,19,20,21,22,23,24,25,26,27,28,29,30,31] (fun k:Nat=>[(17,.d (.int .i64 k))]) (fun k:Nat=>[]) (fun k:Nat=>k≤a.length∧∀ j,j<k→V0 (a.getD j e0) (b.getD j e0)=true) (fun k:Nat=>a.length-k) 0 ?_ ?_ ?_
 ·exact ⟨by omega,fun j hj=>absurd hj (Nat.not_lt_zero j)⟩
 ·exact J0
 rintro k ⟨hk,Yx⟩;rcases Z5 k a.length with ⟨Qd,Qs⟩|⟨Qd,Qs⟩
 rotate_left
 ·have Q0:R=true:=by rw [←Ql];exact uP fun j hj=>Yx j (by omega)
  clear Yx;exact fK
 have Oz:k<b.length:=by omega
 have Q6:=Z9 e0 Qd;have Q5:=Z9 e0 Oz;have s1:=hA (a.getD k e0) (by simp [Qd])
 have s2:=hB (b.getD k e0) (by simp [Oz])
 have Uf:V0 (a.getD k e0) (b.getD k e0)=true→∀ j,j<k+1→V0 (a.getD j e0) (b.getD j e0)=true:=fun h=>Nh Yx h;have Xm:V0 (a.getD k e0) (b.getD k e0)=false→R=false:=fun h=>by rw [←Ql];exact pH Qd h
 obtain ⟨Q,hQ⟩:=exq ((∀ j,j<k+1→V0 (a.getD j e0) (b.getD j e0)=true));rw [hQ] at Uf;obtain ⟨x,hx⟩:=exq (a.getD k e0);obtain ⟨y,hy⟩:=exq (b.getD k e0);rw [hx] at Q6 s1 Uf Xm;rw [hy] at Q5 s2 Uf Xm;clear Yx;cases Ja:V0 x y with
 | false =>
  have Q0:=Xm Ja;clear Uf Xm;have Kq:KeD:=⟨⟩;exact Qw
 | true =>
  have h9:=Uf Ja;clear Uf Xm;have Kq:KeE:=⟨⟩;exact Qw):p:=h
theorem good_equalParts:Jc Tryz.prog (35,Ke):=by
 obtain ⟨Kx,Kt,Kc,Kd,Kb,Ku,Kw,K,Y6,_⟩:=W5 Qj Z0 [] false (Xa good_SameA_1 Mz.eq_def W4);have Ko:=Ke.eq_def;refine Yv K Tryz.func35 [.tmp 6] rfl 32 rfl (fun c hc Jj Zo=>?_);unfold Ke at Zo;obtain ⟨⟨a⟩,⟨b⟩,f,rfl,⟨ha,hA⟩,hb,hB⟩:=Te Zo;simp only at ha hb hA hB;clear Zo;have ha:a.length≤9223372036854775807:=ha;have hb:b.length≤9223372036854775807:=hb;obtain ⟨R,Qz⟩:=exq (Zrj V0 e0 a b);have Ql:=Qz;unfold Zrj at Ql;by_cases oM:a.length=b.length
 case neg =>
  have Qu:((a.length:Int) != (b.length:Int))=true:=by rw [bne_iff_ne];omega
  have Zs6:(a.length==b.length)=false:=by rw [Za];exact oM
  rw [Zs6,Bool.false_and] at Ql;subst Ql;cases hc;refine Kn 2 ?_;exact fK
 have Qu:((a.length:Int) != (b.length:Int))=false:=by rw [oM,bne_self_eq_false]
 have Zs6:(a.length==b.length)=true:=by rw [Zi];exact oM
 rw [Zs6,Bool.true_and] at Ql;cases hc;refine Kn 2 ?_;have Kq:KeC:=⟨⟩;exact Qw
theorem wA (a b:List Part):Zrj V0 e0 a b=Np a b:=by
 unfold Zrj Np;rw [Bool.eq_iff_iff];simp only [Ze,Zi,List.all_eq_true,List.mem_range];constructor
 ·rintro ⟨hl,h⟩;refine List.ext_getElem (by simp [hl]) fun j h1 h2=>?_
  rw [Qq] at h1 h2;have:=Be.1 (h j h1);simpa [h1,h2] using this
 ·intro h;have hl:a.length=b.length:=by simpa using congrArg List.length h
  refine ⟨hl,fun j hj=>Be.2 ?_⟩;have uX:j<b.length:=by omega
  have h1:(a.map Vb).getD j e0=(b.map Vb).getD j e0:=by rw [h]
  simpa [hj,uX] using h1
def Na:Con:=Vy (fun (a b:Sl Part)=>xP a.l∧xP b.l) (fun a b=>Np a.l b.l)
class KeF:Prop
theorem KeF.k (_:KeF) (h:p:=by
 first|exact Zzr|exact oT|exact Zzq _ (by assumption)|exact Dq _ (by assumption)|skip):p:=h
theorem good_SameA:Jc Tryz.prog (14,Na):=by
 obtain ⟨Kx,Kt,Kc,Kd,Kb,Ku,Kw,K,Y6,_⟩:=W5 Qj Z0 [] false (Xa good_equalParts Ke.eq_def W4);have Ko:=Na.eq_def;refine Yv K Tryz.func14 [.tmp 4] rfl 8 rfl (fun c hc Jj Zo=>?_);unfold Na at Zo;obtain ⟨⟨a⟩,⟨b⟩,rfl,ha,hb⟩:=Jd Zo;simp only at ha hb;obtain ⟨Zzr,Zzq⟩:xP a:=ha;obtain ⟨oT,Dq⟩:xP b:=hb;have Qu:=wA a b;cases hc;have Kq:KeF:=⟨⟩;exact Qw
open Go.Proofs Go.Shelf Go.RowKit
def Zrc:Ren:=⟨fun x=>if x=217 then 167 else if x=266 then 175 else x,fun x=>x,fun x=>x⟩
theorem Zuj:Lays.n217 Tryz.prog Zrc:=⟨by kernel_rfl,by show Tryz.prog.funcs[167]?=_;rw [Tryz.func167];kernel_rfl,by show Tryz.prog.funcs[175]?=_;rw [Tryz.func175];kernel_rfl,Tryz.underlying3,Tryz.isAgg3,Tryz.sizeOf3,Tryz.zeroValue3,Tryz.underlying5,Tryz.isAgg5,Tryz.sizeOf5,Tryz.zeroValue5,Tryz.underlying9,Tryz.isAgg9,Tryz.sizeOf9,Tryz.zeroValue9⟩
theorem Zun {F:Fix} {c:UInt8} {v:Value} (h:R F (enc c) v):v=.int .u8 c.toNat:=h
theorem Zuo {F:Fix} {s:List UInt8} {v:Value} (h:R F (enc s) v):v=Go.Proofs.encStr s:=h
def iA:Con:=Vy (fun (_:List UInt8) (_:UInt8)=>True) (fun s c=>Lib.indexByte s c)
theorem qP:Jc Tryz.prog (167,iA):=by
 refine ⟨Xc Tryz.func167 (by kernel_rfl) rfl,?_⟩
 intro m w Jj vs Zo kR Ek Yl;obtain ⟨s,c,rfl,-⟩:=Jd (id Zo:(Vy (fun (_:List UInt8) (_:UInt8)=>True) (fun s c=>Lib.indexByte s c)).pre Jj);simp only [Wn,eP] at kR;obtain ⟨v,r,rfl,hv,v2,r2,rfl,Zu1,rfl⟩:=kR;obtain rfl:=Zuo hv;obtain rfl:=Zun Zu1;refine Calls.mono (Any.stringslite_IndexByte Zuj ⟨s.toArray⟩ c.toNat w) ?_;rintro e w' ⟨rfl,rfl⟩;have hb:=Below.refl w'.heap.size w';have Zzk:(((c.toNat:Int)).toNat).toUInt8=c:=by simp
 refine ⟨_,m,rfl,⟨hb.os,hb.tape,hb.output,hb.size,fun k hk _=>hb.block k hk⟩,fun b hb _=>rfl,Yl,?_⟩;show oC _ _ _ (.d (enc (Lib.indexByte (dec (enc s):List UInt8) (dec (enc c):UInt8)))) _;rw [Enc.dec_enc,Enc.dec_enc];refine yL ?_;rw [Zzk];rfl
def Cm:Con:=Vy (fun (_:List UInt8) (p:List UInt8)=>p=[33]) (fun s _=>Lib.indexByte s 33)
theorem Qai:Jc Tryz.prog (157,Cm):=by
 obtain ⟨Kx,Kt,Kc,Kd,Kb,Ku,Kw,K,Y6,_⟩:=W5 Qj Z0 [] false (Xa qP iA.eq_def W4);have Ko:=Cm.eq_def;refine Yv K Tryz.func157 [.tmp 4] rfl 143 rfl (fun c hc Jj Zo=>?_);unfold Cm at Zo;obtain ⟨s,p,rfl,rfl⟩:=Jd Zo;cases hc;refine Kn 8 ?_;cases Qz:(([33]:List UInt8)==s) with
 | true =>
  have hs:s=[33]:=(Zi.1 Qz).symm;subst hs;have Qu:Lib.indexByte [33] 33=0:=by rw [Lib.indexByte];rfl
  exact Uy
 | false =>
  exact fK
def B8 {A B R S T:Type} [Enc A] [Enc B] [Enc R] [Enc S] [Enc T] (p:A→B→Prop) (f:A→B→R×S×T):Con:=⟨[false,false],[false,false,false],fun c=>match c with
 | [.d x,.d y]=>Tu A x∧Tu B y∧p (dec x) (dec y)
 | _=>False,fun c=>match c with
 | [.d x,.d y]=>.tup [.d (enc (f (dec x) (dec y)).1),.d (enc (f (dec x) (dec y)).2.1),.d (enc (f (dec x) (dec y)).2.2)]
 | _=>.d .nilp⟩
theorem cP {A B R S T:Type} [Enc A] [Enc B] [Enc R] [Enc S] [Enc T] {p:A→B→Prop} {f:A→B→R×S×T} {c:List CV} (h:(B8 p f).pre c):∃ a b,c=[.d (enc a),.d (enc b)]∧p a b:=by
 unfold B8 at h;simp only at h;split at h
 ·next x y=>exact ⟨dec x,dec y,by rw [←h.1,←h.2.1],h.2.2⟩
 ·exact h.elim
theorem sM:∀ {s:List UInt8},Lib.indexByte s 33=(match Ta s with
  | some k=>(k:Int)
  | none=>-1)
 | []=>rfl
 | c::s=>by
  rw [Lib.indexByte,Ta];by_cases hc:c=33
  ·rw [if_pos (Zi.2 hc),if_pos hc];rfl
  ·rw [if_neg (by rw [Zi];exact hc),if_neg hc,sM (s:=s)]
   cases Ta s with
   | none=>rfl
   | some k =>
    have:(((k:Nat):Int)==-1)=false:=by rw [Za];omega
    simp only [this];rfl
theorem tA:∀ {s:List UInt8} {k:Nat},Ta s=some k→k<s.length
 | [],k,h=>by simp [Ta] at h
 | c::s,k,h=>by
  rw [Ta] at h;split at h
  ·injection h with h
   subst h;simp
  ·rw [Option.map_eq_some_iff] at h;obtain ⟨j,hj,rfl⟩:=h;have:=tA hj;simp only [Zf];omega
def iJ (s:List UInt8):List UInt8×List UInt8×Bool:=match Ta s with
 | some k=>(s.take k,s.drop (k+1),true)
 | none=>(s,[],false)
def Cn:Con:=B8 (fun (s p:List UInt8)=>p=[33]∧s.length≤9223372036854775806) (fun s _=>iJ s)
theorem qR:Jc Tryz.prog (133,Cn):=by
 obtain ⟨Kx,Kt,Kc,Kd,Kb,Ku,Kw,K,Y6,_⟩:=W5 Qj Z0 [] false (Xa Qai Cm.eq_def W4);have Ko:=Cn.eq_def;refine Yv K Tryz.func133 [.tmp 4,.tmp 5,.tmp 6] rfl 23 rfl (fun c hc Jj Zo=>?_);unfold Cn at Zo;obtain ⟨s,p,rfl,rfl,hs⟩:=cP Zo;obtain ⟨R,Qu⟩:=exq (iJ s);have Ql:=Qu;unfold iJ at Ql;have Qz:=sM (s:=s);cases hc;cases hq:Ta s with
 | none =>
  rw [hq] at Ql Qz;simp only at Ql Qz;subst Ql;have Q0:=@B8.eq_def;exact Uy
 | some k =>
  rw [hq] at Ql Qz;simp only at Ql Qz;subst Ql;have hk:=tA hq;have Qs:Ju 0 (k:Int)=true:=by rw [Pt];omega
  have Q0:=@B8.eq_def;exact Uy
def Rc:Con:=B8 (fun (s p:List UInt8)=>p=[33]∧s.length≤9223372036854775806) (fun s _=>iJ s)
class KeG:Prop
theorem KeG.k (_:KeG) (h:p:=by
 first|exact Xi ([33]:List UInt8)|rfl|skip):p:=h
theorem good_CutS:Jc Tryz.prog (98,Rc):=by
 obtain ⟨Kx,Kt,Kc,Kd,Kb,Ku,Kw,K,Y6,_⟩:=W5 Qj Z0 [] false (Xa qR Cn.eq_def W4);have Ko:=Rc.eq_def;refine Yv K Tryz.func98 [.tmp 4,.tmp 5,.tmp 6] rfl 13 rfl (fun c hc Jj Zo=>?_);unfold Rc at Zo;obtain ⟨s,p,rfl,rfl,hs⟩:=cP Zo;obtain ⟨R,Qu⟩:=exq (iJ s);obtain ⟨R1,R2,R3⟩:=R;cases hc;have Qz:=@B8.eq_def;have Kq:KeG:=⟨⟩;exact Qw
def Mx:Con:=Xd (fun (s:List UInt8)=>s.length≤9223372036854775806) (fun s=>St s)
class KeH:Prop
theorem KeH.k (_:KeH) (h:p:=by
 first|rfl|exact Xi ([33]:List UInt8)|skip):p:=h
class KeI:Prop
theorem KeI.k (_:KeI) (h:p:=by
 first|rfl|exact Xi ([33]:List UInt8)|(symm;rw [←Qs];simp_all;done)|skip):p:=h
theorem good_isNameA:Jc Tryz.prog (77,Mx):=by
 obtain ⟨Kx,Kt,Kc,Kd,Kb,Ku,Kw,K,Y6,P7,_⟩:=W5 Qj Z0 [] false (Xa good_CutS Rc.eq_def (Xa Ht Vk.eq_def W4));have Ko:=Mx.eq_def;refine Yv K Tryz.func77 [.tmp 2] rfl 21 rfl (fun c hc Jj Zo=>?_);unfold Mx at Zo;obtain ⟨s,rfl,hs⟩:=Qp Zo;obtain ⟨R,Qz⟩:=exq (St s);have Qs:=Qz;unfold St at Qs;have Qu:iJ s=match Ta s with
  | some k=>(s.take k,s.drop (k+1),true)
  | none=>(s,[],false):=rfl
 cases hc;cases hq:Ta s with
 | none =>
  rw [hq] at Qs Qu;simp only at Qs Qu;have Q0:=@B8.eq_def;have Kq:KeH:=⟨⟩;exact Qw
 | some k =>
  rw [hq] at Qs Qu;simp only at Qs Qu;have Q0:=@B8.eq_def;have Kq:KeI:=⟨⟩;exact Qw
def Hy:Con:=Xd (fun (t:Sl Node)=>t.l.length≤1000000∧P6 t.l) (fun t=>U4 t.l)
class KeJ:Prop
theorem KeJ.k (_:KeJ) (h:p:=by
 first|(unfold U4;simp_all;done)|skip):p:=h
theorem good_isPlainA:Jc Tryz.prog (78,Hy):=by
 obtain ⟨Kx,Kt,Kc,Kd,Kb,Ku,Kw,K,Y6,P7,_⟩:=W5 Qj Z0 [] false (Xa good_RightT B2.eq_def (Xa nJ B6.eq_def W4));have Ko:=Hy.eq_def;refine Yv K Tryz.func78 [.tmp 2] rfl 9 rfl (fun c hc Jj Zo=>?_);unfold Hy at Zo;obtain ⟨⟨t⟩,rfl,ht,hN⟩:=Qp Zo;simp only at ht hN;have Qu:=pG t;cases hc;have Kq:KeJ:=⟨⟩;exact Qw
def Mu:Con:=Xd (fun (_:List UInt8)=>True) (fun s=>J4 s)
theorem jS:Jc Tryz.prog (75,Mu):=by
 obtain ⟨Kx,Kt,Kc,Kd,Kb,Ku,Kw,K,Y6,_⟩:=W5 Qj Z0 [] false (Xa Ht Vk.eq_def W4);have Ko:=Mu.eq_def;refine Yv K Tryz.func75 [.tmp 2] rfl 5 rfl (fun c hc Jj Zo=>?_);unfold Mu at Zo;obtain ⟨s,rfl,-⟩:=Qp Zo;cases hc;exact fK
def M6 (p x:Part) (k:Nat):Bool:=cond ((p.kind==7)&&Jw 0 k) ((x.kind==8)&&K1 x.label) (cond (x.kind==8) false (cond (p.kind==10) (J4 x.label) (x.label==[])))
def H0:Con:=kJ (fun (_:Part) (_:Part) (k:Int)=>0≤k∧k≤1000000) (fun p x k=>M6 p x k.toNat)
class KeK:Prop
theorem KeK.k (_:KeK) (h:p:=by
 first|(rw [←Ql];clear Ql Qu;simp [*,Jw];done)|(rw [←Ql];clear Ql Qu;simp [*,Jw];omega)|(rw [←Ql];clear Ql Qu;rw [Bool.eq_iff_iff];simp [*,Jw];done)|(rw [←Ql];clear Ql Qu;rw [Bool.eq_iff_iff];simp [*,Jw];omega)|(rw [←Ql];clear Ql Qu;simp [*,Jw])|skip):p:=h
theorem good_isLabelA:Jc Tryz.prog (31,H0):=by
 obtain ⟨Kx,Kt,Kc,Kd,Kb,Ku,Kw,K,Y6,P7,_⟩:=W5 Qj Z0 [] false (Xa S4 Gg.eq_def (Xa Ht Vk.eq_def W4));have Ko:=H0.eq_def;refine Yv K Tryz.func31 [.tmp 6] rfl 41 rfl (fun c hc Jj Zo=>?_);unfold H0 at Zo;obtain ⟨p,x,k,rfl,hk,eT⟩:=Te Zo;obtain ⟨k,rfl⟩:∃ n:Nat,k=n:=⟨k.toNat,by omega⟩
 obtain ⟨R,Qu⟩:=exq (M6 p x k);have Ql:=Qu;unfold M6 at Ql;have Qz:((k:Int)).toNat=k:=rfl;clear Zo;cases hc;refine Kn 2 ?_;have Kq:KeK:=⟨⟩;exact Qw
theorem Zrh {s:List UInt8}:Uc Ad s=yR s:=rfl
def Cf:Con:=Xd (fun (_:List UInt8)=>True) (fun s=>yR s)
class KeL:Prop
theorem KeL.k (_:KeL) (h:p:=by
 repeat' first|exact Lz|with_reducible apply Z3|intro _
 ·cases l with
  | nil=>trivial
  | cons x l=>exact ⟨rfl,of_eq_true dA⟩
 subst oM;refine Z6 (bc:=J9) (some Ad,s) [3] (by show Ad.length≤1000000000;omega) rfl (by simp) rfl ?_ ?_ ?_
 ·show Zh _ _ [Obj.row 1 (Ad.map (enc:List UInt8→D)) 0] _;simp [Zh,lk,J7,rnA,rnAs,rk]
 ·exact trivial
 have Qz:=Bw (o:=(some Ad)) (v:=s);rw [show U6 (some Ad)=Ad from rfl,Ql] at Qz;have Q0:=@Ee;exact fK):p:=h
theorem good_isOpA:Jc Tryz.prog (79,Cf):=by
 obtain ⟨Kx,Kt,Kc,Kd,Kb,Ku,Kw,K,Y6,_⟩:=W5 Qj Z0 [] false (kW goodb_containsSt J9.eq_def W4);have Ko:=Cf.eq_def;refine Yv K Tryz.func79 [.tmp 2] rfl 6 rfl (fun c hc Jj Zo=>?_);unfold Cf at Zo;obtain ⟨s,rfl,-⟩:=Qp Zo;obtain ⟨R,Qs⟩:=exq (yR s);have hl:Ad.length=9:=rfl;have Qu:=sV;obtain ⟨l,oM⟩:=exq (Ad);have Ql:Uc l s=R:=by rw [←oM,Zrh,Qs]
 rw [oM] at hl Qu;have Zy7:(l.length:Int)=9:=by rw [hl];rfl
 cases hc;have Kq:KeL:=⟨⟩;exact uC
theorem mI {p:Part} {n:Node}:mL p n=true↔(p.t.length=1∧(n.name=[]∧n.n=0)∧0≤p.num∧p.num≤999999999999999999∧((n.kind=1∧p.name=[])∨(n.kind=2∧p.name=[]∧p.num<2)∨(n.kind=3∧p.num=0)∨(n.kind=4∧p.name=[]∧p.num=0))):=by
 unfold mL;split
 ·next h =>
  constructor
  ·intro h2;cases h2
  ·rintro ⟨h1,⟨h2,h3⟩,h4,h5,-⟩;exfalso;rcases h with h|h|h|h|h
   ·exact h h1
   ·exact h h2
   ·exact h h3
   ·omega
   ·omega
 ·next h =>
  have h1:p.t.length=1:=Classical.byContradiction fun x=>h (.inl x);have h2:n.name=[]:=Classical.byContradiction fun x=>h (.inr (.inl x));have h3:n.n=0:=Classical.byContradiction fun x=>h (.inr (.inr (.inl x)));have h4:0≤p.num:=Classical.byContradiction fun x=>h (.inr (.inr (.inr (.inl (by omega)))))
  have h5:p.num≤999999999999999999:=Classical.byContradiction fun x=>h (.inr (.inr (.inr (.inr (by omega)))))
  have hg:(p.t.length=1∧(n.name=[]∧n.n=0)∧0≤p.num∧p.num≤999999999999999999):=⟨h1,⟨h2,h3⟩,h4,h5⟩;repeat' split
  all_goals simp [*,Jw]
  all_goals try omega
def B0:Con:=Xd (fun (p:Part)=>oF p) (fun p=>Vc p)
class KeM:Prop
theorem KeM.k (_:KeM) (h:p:=by
 first|(rw [←Ql,Bool.eq_iff_iff,mI];clear Ql Qs;simp_all [Ju];done)|(rw [←Ql,Bool.eq_iff_iff,mI];clear Ql Qs;simp_all [Ju];omega)|skip):p:=h
theorem good_isLitA:Jc Tryz.prog (76,B0):=by
 obtain ⟨Kx,Kt,Kc,Kd,Kb,Ku,Kw,K,_⟩:=W5 Qj Z0 [] false W4;have Ko:=B0.eq_def;refine Yv K Tryz.func76 [.tmp 2] rfl 76 rfl (fun c hc Jj Zo=>?_);unfold B0 at Zo;obtain ⟨p,rfl,hF⟩:=Qp Zo;clear Zo;obtain ⟨R,Qs⟩:=exq (Vc p);have Ql:=Qs;unfold Vc at Ql;cases hc;refine Kn 4 ?_;by_cases h1:p.t.length=1
 ·have Qu:((p.t.length:Int) != 1)=false:=by rw [bne_eq_false_iff_eq];omega
  have Qz:=Z9 n0 (show 0<p.t.length by omega)
  obtain ⟨x,hx⟩:=exq (p.t.getD 0 n0);rw [hx] at Qz Ql;clear hx;have Kq:KeM:=⟨⟩;exact Qw
 ·have Qu:((p.t.length:Int) != 1)=true:=by rw [bne_iff_ne];omega
  unfold mL at Ql;rw [if_pos (.inl h1)] at Ql;subst Ql;exact Uy
def Yh (p:Part) (w tg b t u li na op:Bool):Part×Bool :=
 if p.kind=0 then (⟨p.kind,p.label,p.name,[],0,p.num,p.t,[]⟩,li)
 else if p.kind=1 then (⟨p.kind,p.label,p.name,[],0,0,[],[]⟩,na)
 else if p.kind=2 then (⟨p.kind,p.label,[],p.bind,0,0,p.t,[]⟩,b&&t)
 else if p.kind=3 then (⟨p.kind,p.label,[],[],0,0,[],[]⟩,true)
 else if p.kind=4 then (⟨p.kind,p.label,[],p.bind,0,0,p.t,[]⟩,b&&t)
 else if p.kind=5 then (⟨p.kind,p.label,p.name,p.bind,0,0,p.t,p.u⟩,w&&(b&&(t&&u)))
 else if p.kind=6 then (⟨p.kind,p.label,[],[],0,0,[],[]⟩,true)
 else if p.kind=7 then (⟨p.kind,p.label,[],[],p.many,0,[],[]⟩,Jw 0 p.many&&Ju p.many 50)
 else if p.kind=8 then (⟨p.kind,p.label,[],p.bind,0,0,[],[]⟩,b)
 else if p.kind=9 then (⟨p.kind,p.label,p.name,[],0,0,[],[]⟩,op)
 else if p.kind=10 then (⟨p.kind,p.label,[],[],p.many,0,[],[]⟩,Ju 0 p.many&&Ju p.many 50)
 else if p.kind=11 then (⟨p.kind,p.label,p.name,[],0,0,[],[]⟩,w)
 else if p.kind=12 then (⟨p.kind,p.label,p.name,[],0,0,p.t,[]⟩,tg&&t)
 else if p.kind=13 then (⟨p.kind,p.label,[],[],0,0,p.t,[]⟩,t)
 else if p.kind=14 then (⟨p.kind,p.label,[],[],0,p.num,p.t,p.u⟩,Ju 0 p.num&&(t&&u))
 else (⟨p.kind,p.label,[],[],0,0,[],[]⟩,false)
def Es (p:Part):Part×Bool:=Yh p (J4 p.name) (K1 p.name) (J4 p.bind) (U4 p.t) (U4 p.u) (Vc p) (St p.name) (yR p.name)
def oE (p:Part):Prop:=(p.t.length≤1000000∧P6 p.t)∧(p.u.length≤1000000∧P6 p.u)∧oF p∧p.name.length≤9223372036854775806
def T9:Con:=Dk (fun (p:Part)=>oE p) (fun p=>Es p)
class KeN:Prop
theorem KeN.k (_:KeN) (h:p:=by
 first|rfl|(simp_all [Jw,Ju];done)|(simp_all [Jw,Ju];omega)|skip):p:=h
class KeO:Prop
theorem KeO.k (_:KeO) (h:p:=by
 first|rfl|(simp_all [Jw,Ju];done)|(simp_all [Jw,Ju];omega)|skip):p:=h
class KeP:Prop
theorem KeP.k (_:KeP) (h:p:=by
 first|rfl|(simp_all [Jw,Ju];done)|(simp_all [Jw,Ju];omega)|skip):p:=h
class KeQ:Prop
theorem KeQ.k (_:KeQ) (h:p:=by
 first|rfl|(simp_all [Jw,Ju];done)|(simp_all [Jw,Ju];omega)|skip):p:=h
class KeR:Prop
theorem KeR.k (_:KeR) (h:p:=by
 first|rfl|(simp_all [Jw,Ju];done)|(simp_all [Jw,Ju];omega)|skip):p:=h
class KeS:Prop
theorem KeS.k (_:KeS) (h:p:=by
 first|rfl|(simp_all [Jw,Ju];done)|(simp_all [Jw,Ju];omega)|skip):p:=h
class KeT:Prop
theorem KeT.k (_:KeT) (h:p:=by
 first|rfl|(simp_all [Jw,Ju];done)|(simp_all [Jw,Ju];omega)|skip):p:=h
class KeU:Prop
theorem KeU.k (_:KeU) (h:p:=by
 first|rfl|(simp_all [Jw,Ju];done)|(simp_all [Jw,Ju];omega)|skip):p:=h
class KeV:Prop
theorem KeV.k (_:KeV) (h:p:=by
 first|rfl|(simp_all [Jw,Ju];done)|(simp_all [Jw,Ju];omega)|skip):p:=h
class KeW:Prop
theorem KeW.k (_:KeW) (h:p:=by
 first|rfl|(simp_all [Jw,Ju];done)|(simp_all [Jw,Ju];omega)|skip):p:=h
class KeX:Prop
theorem KeX.k (_:KeX) (h:p:=by
 first|rfl|(simp_all [Jw,Ju];done)|(simp_all [Jw,Ju];omega)|skip):p:=h
class KeY:Prop
theorem KeY.k (_:KeY) (h:p:=by
 first|rfl|(simp_all [Jw,Ju];done)|(simp_all [Jw,Ju];omega)|skip):p:=h
class KeZ:Prop
theorem KeZ.k (_:KeZ) (h:p:=by
 first|rfl|(simp_all [Jw,Ju];done)|(simp_all [Jw,Ju];omega)|skip):p:=h
class Kfa:Prop
theorem Kfa.k (_:Kfa) (h:p:=by
 first|rfl|(simp_all [Jw,Ju];done)|(simp_all [Jw,Ju];omega)|skip):p:=h
class Kfb:Prop
theorem Kfb.k (_:Kfb) (h:p:=by
 first|rfl|(simp_all [Jw,Ju];done)|(simp_all [Jw,Ju];omega)|skip):p:=h
class Kfc:Prop
theorem Kfc.k (_:Kfc) (h:p:=by
 first|rfl|(simp_all [Jw,Ju];done)|(simp_all [Jw,Ju];omega)|skip):p:=h
theorem good_usedA:Jc Tryz.prog (51,T9):=by
 obtain ⟨Kx,Kt,Kc,Kd,Kb,Ku,Kw,K,Y6,P7,aV,dF,oD,tN,_⟩:=W5 Qj Z0 [] false (Xa good_isLitA B0.eq_def (Xa good_isNameA Mx.eq_def (Xa jS Mu.eq_def (Xa good_isPlainA Hy.eq_def (Xa good_isOpA Cf.eq_def (Xa S4 Gg.eq_def W4))))));have Ko:=T9.eq_def;refine Yv K Tryz.func51 [.cell 2 39,.tmp 3] rfl 192 rfl (fun c hc Jj Zo=>?_);unfold T9 at Zo;obtain ⟨p,rfl,⟨f1,f2⟩,⟨f3,f4⟩,hF,hn⟩:=wL Zo;clear Zo;obtain ⟨R,Q9⟩:=exq (Es p);have Ql:=Q9;unfold Es at Ql;obtain ⟨w,Qu⟩:=exq (J4 p.name);obtain ⟨tg,Qz⟩:=exq (K1 p.name);obtain ⟨b,Qs⟩:=exq (J4 p.bind);obtain ⟨t,Q0⟩:=exq (U4 p.t);obtain ⟨u,Q6⟩:=exq (U4 p.u);obtain ⟨li,Q5⟩:=exq (Vc p);obtain ⟨na,Ja⟩:=exq (St p.name);obtain ⟨op,Jq⟩:=exq (yR p.name);rw [Qu,Qz,Qs,Q0,Q6,Q5,Ja,Jq] at Ql;cases hc;refine Kn 12 ?_;by_cases hc:p.kind=0
 ·have Je:(p.kind==0)=true:=Zi.2 hc;have Qe:(p.kind==1)=false:=Za.2 (by omega)
  have Qc:(p.kind==2)=false:=Za.2 (by omega)
  have Qg:(p.kind==3)=false:=Za.2 (by omega)
  have Qi:(p.kind==4)=false:=Za.2 (by omega)
  have Qh:(p.kind==5)=false:=Za.2 (by omega)
  have Qa:(p.kind==6)=false:=Za.2 (by omega)
  have Z2:(p.kind==7)=false:=Za.2 (by omega)
  have Z7:(p.kind==8)=false:=Za.2 (by omega)
  have Qk:(p.kind==9)=false:=Za.2 (by omega)
  have Qm:(p.kind==10)=false:=Za.2 (by omega)
  have Qr:(p.kind==11)=false:=Za.2 (by omega)
  have Q1:(p.kind==12)=false:=Za.2 (by omega)
  have Q3:(p.kind==13)=false:=Za.2 (by omega)
  have Qx:(p.kind==14)=false:=Za.2 (by omega)
  have L5:R=(⟨p.kind,p.label,p.name,[],0,p.num,p.t,[]⟩,li):=by
   rw [←Ql];unfold Yh;simp [hc]
  clear Ql;subst L5;have Kq:KeN:=⟨⟩;exact Qw
 have c0:=hc;clear hc;by_cases hc:p.kind=1
 ·have Je:(p.kind==0)=false:=Za.2 (by omega)
  have Qe:(p.kind==1)=true:=Zi.2 hc;have Qc:(p.kind==2)=false:=Za.2 (by omega)
  have Qg:(p.kind==3)=false:=Za.2 (by omega)
  have Qi:(p.kind==4)=false:=Za.2 (by omega)
  have Qh:(p.kind==5)=false:=Za.2 (by omega)
  have Qa:(p.kind==6)=false:=Za.2 (by omega)
  have Z2:(p.kind==7)=false:=Za.2 (by omega)
  have Z7:(p.kind==8)=false:=Za.2 (by omega)
  have Qk:(p.kind==9)=false:=Za.2 (by omega)
  have Qm:(p.kind==10)=false:=Za.2 (by omega)
  have Qr:(p.kind==11)=false:=Za.2 (by omega)
  have Q1:(p.kind==12)=false:=Za.2 (by omega)
  have Q3:(p.kind==13)=false:=Za.2 (by omega)
  have Qx:(p.kind==14)=false:=Za.2 (by omega)
  have L5:R=(⟨p.kind,p.label,p.name,[],0,0,[],[]⟩,na):=by
   rw [←Ql];unfold Yh;simp [hc]
  clear Ql;subst L5;have Kq:KeO:=⟨⟩;exact Qw
 have c1:=hc;clear hc;by_cases hc:p.kind=2
 ·have Je:(p.kind==0)=false:=Za.2 (by omega)
  have Qe:(p.kind==1)=false:=Za.2 (by omega)
  have Qc:(p.kind==2)=true:=Zi.2 hc;have Qg:(p.kind==3)=false:=Za.2 (by omega)
  have Qi:(p.kind==4)=false:=Za.2 (by omega)
  have Qh:(p.kind==5)=false:=Za.2 (by omega)
  have Qa:(p.kind==6)=false:=Za.2 (by omega)
  have Z2:(p.kind==7)=false:=Za.2 (by omega)
  have Z7:(p.kind==8)=false:=Za.2 (by omega)
  have Qk:(p.kind==9)=false:=Za.2 (by omega)
  have Qm:(p.kind==10)=false:=Za.2 (by omega)
  have Qr:(p.kind==11)=false:=Za.2 (by omega)
  have Q1:(p.kind==12)=false:=Za.2 (by omega)
  have Q3:(p.kind==13)=false:=Za.2 (by omega)
  have Qx:(p.kind==14)=false:=Za.2 (by omega)
  have L5:R=(⟨p.kind,p.label,[],p.bind,0,0,p.t,[]⟩,b&&t):=by
   rw [←Ql];unfold Yh;simp [hc]
  clear Ql;subst L5;have Kq:KeP:=⟨⟩;exact Qw
 have c2:=hc;clear hc;by_cases hc:p.kind=3
 ·have Je:(p.kind==0)=false:=Za.2 (by omega)
  have Qe:(p.kind==1)=false:=Za.2 (by omega)
  have Qc:(p.kind==2)=false:=Za.2 (by omega)
  have Qg:(p.kind==3)=true:=Zi.2 hc;have Qi:(p.kind==4)=false:=Za.2 (by omega)
  have Qh:(p.kind==5)=false:=Za.2 (by omega)
  have Qa:(p.kind==6)=false:=Za.2 (by omega)
  have Z2:(p.kind==7)=false:=Za.2 (by omega)
  have Z7:(p.kind==8)=false:=Za.2 (by omega)
  have Qk:(p.kind==9)=false:=Za.2 (by omega)
  have Qm:(p.kind==10)=false:=Za.2 (by omega)
  have Qr:(p.kind==11)=false:=Za.2 (by omega)
  have Q1:(p.kind==12)=false:=Za.2 (by omega)
  have Q3:(p.kind==13)=false:=Za.2 (by omega)
  have Qx:(p.kind==14)=false:=Za.2 (by omega)
  have L5:R=(⟨p.kind,p.label,[],[],0,0,[],[]⟩,true):=by
   rw [←Ql];unfold Yh;simp [hc]
  clear Ql;subst L5;have Kq:KeQ:=⟨⟩;exact Qw
 have c3:=hc;clear hc;by_cases hc:p.kind=4
 ·have Je:(p.kind==0)=false:=Za.2 (by omega)
  have Qe:(p.kind==1)=false:=Za.2 (by omega)
  have Qc:(p.kind==2)=false:=Za.2 (by omega)
  have Qg:(p.kind==3)=false:=Za.2 (by omega)
  have Qi:(p.kind==4)=true:=Zi.2 hc;have Qh:(p.kind==5)=false:=Za.2 (by omega)
  have Qa:(p.kind==6)=false:=Za.2 (by omega)
  have Z2:(p.kind==7)=false:=Za.2 (by omega)
  have Z7:(p.kind==8)=false:=Za.2 (by omega)
  have Qk:(p.kind==9)=false:=Za.2 (by omega)
  have Qm:(p.kind==10)=false:=Za.2 (by omega)
  have Qr:(p.kind==11)=false:=Za.2 (by omega)
  have Q1:(p.kind==12)=false:=Za.2 (by omega)
  have Q3:(p.kind==13)=false:=Za.2 (by omega)
  have Qx:(p.kind==14)=false:=Za.2 (by omega)
  have L5:R=(⟨p.kind,p.label,[],p.bind,0,0,p.t,[]⟩,b&&t):=by
   rw [←Ql];unfold Yh;simp [hc]
  clear Ql;subst L5;have Kq:KeR:=⟨⟩;exact Qw
 have c4:=hc;clear hc;by_cases hc:p.kind=5
 ·have Je:(p.kind==0)=false:=Za.2 (by omega)
  have Qe:(p.kind==1)=false:=Za.2 (by omega)
  have Qc:(p.kind==2)=false:=Za.2 (by omega)
  have Qg:(p.kind==3)=false:=Za.2 (by omega)
  have Qi:(p.kind==4)=false:=Za.2 (by omega)
  have Qh:(p.kind==5)=true:=Zi.2 hc;have Qa:(p.kind==6)=false:=Za.2 (by omega)
  have Z2:(p.kind==7)=false:=Za.2 (by omega)
  have Z7:(p.kind==8)=false:=Za.2 (by omega)
  have Qk:(p.kind==9)=false:=Za.2 (by omega)
  have Qm:(p.kind==10)=false:=Za.2 (by omega)
  have Qr:(p.kind==11)=false:=Za.2 (by omega)
  have Q1:(p.kind==12)=false:=Za.2 (by omega)
  have Q3:(p.kind==13)=false:=Za.2 (by omega)
  have Qx:(p.kind==14)=false:=Za.2 (by omega)
  have L5:R=(⟨p.kind,p.label,p.name,p.bind,0,0,p.t,p.u⟩,w&&(b&&(t&&u))):=by
   rw [←Ql];unfold Yh;simp [hc]
  clear Ql;subst L5;have Kq:KeS:=⟨⟩;exact Qw
 have c5:=hc;clear hc;by_cases hc:p.kind=6
 ·have Je:(p.kind==0)=false:=Za.2 (by omega)
  have Qe:(p.kind==1)=false:=Za.2 (by omega)
  have Qc:(p.kind==2)=false:=Za.2 (by omega)
  have Qg:(p.kind==3)=false:=Za.2 (by omega)
  have Qi:(p.kind==4)=false:=Za.2 (by omega)
  have Qh:(p.kind==5)=false:=Za.2 (by omega)
  have Qa:(p.kind==6)=true:=Zi.2 hc;have Z2:(p.kind==7)=false:=Za.2 (by omega)
  have Z7:(p.kind==8)=false:=Za.2 (by omega)
  have Qk:(p.kind==9)=false:=Za.2 (by omega)
  have Qm:(p.kind==10)=false:=Za.2 (by omega)
  have Qr:(p.kind==11)=false:=Za.2 (by omega)
  have Q1:(p.kind==12)=false:=Za.2 (by omega)
  have Q3:(p.kind==13)=false:=Za.2 (by omega)
  have Qx:(p.kind==14)=false:=Za.2 (by omega)
  have L5:R=(⟨p.kind,p.label,[],[],0,0,[],[]⟩,true):=by
   rw [←Ql];unfold Yh;simp [hc]
  clear Ql;subst L5;have Kq:KeT:=⟨⟩;exact Qw
 have c6:=hc;clear hc;by_cases hc:p.kind=7
 ·have Je:(p.kind==0)=false:=Za.2 (by omega)
  have Qe:(p.kind==1)=false:=Za.2 (by omega)
  have Qc:(p.kind==2)=false:=Za.2 (by omega)
  have Qg:(p.kind==3)=false:=Za.2 (by omega)
  have Qi:(p.kind==4)=false:=Za.2 (by omega)
  have Qh:(p.kind==5)=false:=Za.2 (by omega)
  have Qa:(p.kind==6)=false:=Za.2 (by omega)
  have Z2:(p.kind==7)=true:=Zi.2 hc;have Z7:(p.kind==8)=false:=Za.2 (by omega)
  have Qk:(p.kind==9)=false:=Za.2 (by omega)
  have Qm:(p.kind==10)=false:=Za.2 (by omega)
  have Qr:(p.kind==11)=false:=Za.2 (by omega)
  have Q1:(p.kind==12)=false:=Za.2 (by omega)
  have Q3:(p.kind==13)=false:=Za.2 (by omega)
  have Qx:(p.kind==14)=false:=Za.2 (by omega)
  have L5:R=(⟨p.kind,p.label,[],[],p.many,0,[],[]⟩,Jw 0 p.many&&Ju p.many 50):=by
   rw [←Ql];unfold Yh;simp [hc]
  clear Ql;subst L5;have Kq:KeU:=⟨⟩;exact Qw
 have c7:=hc;clear hc;by_cases hc:p.kind=8
 ·have Je:(p.kind==0)=false:=Za.2 (by omega)
  have Qe:(p.kind==1)=false:=Za.2 (by omega)
  have Qc:(p.kind==2)=false:=Za.2 (by omega)
  have Qg:(p.kind==3)=false:=Za.2 (by omega)
  have Qi:(p.kind==4)=false:=Za.2 (by omega)
  have Qh:(p.kind==5)=false:=Za.2 (by omega)
  have Qa:(p.kind==6)=false:=Za.2 (by omega)
  have Z2:(p.kind==7)=false:=Za.2 (by omega)
  have Z7:(p.kind==8)=true:=Zi.2 hc;have Qk:(p.kind==9)=false:=Za.2 (by omega)
  have Qm:(p.kind==10)=false:=Za.2 (by omega)
  have Qr:(p.kind==11)=false:=Za.2 (by omega)
  have Q1:(p.kind==12)=false:=Za.2 (by omega)
  have Q3:(p.kind==13)=false:=Za.2 (by omega)
  have Qx:(p.kind==14)=false:=Za.2 (by omega)
  have L5:R=(⟨p.kind,p.label,[],p.bind,0,0,[],[]⟩,b):=by
   rw [←Ql];unfold Yh;simp [hc]
  clear Ql;subst L5;have Kq:KeV:=⟨⟩;exact Qw
 have c8:=hc;clear hc;by_cases hc:p.kind=9
 ·have Je:(p.kind==0)=false:=Za.2 (by omega)
  have Qe:(p.kind==1)=false:=Za.2 (by omega)
  have Qc:(p.kind==2)=false:=Za.2 (by omega)
  have Qg:(p.kind==3)=false:=Za.2 (by omega)
  have Qi:(p.kind==4)=false:=Za.2 (by omega)
  have Qh:(p.kind==5)=false:=Za.2 (by omega)
  have Qa:(p.kind==6)=false:=Za.2 (by omega)
  have Z2:(p.kind==7)=false:=Za.2 (by omega)
  have Z7:(p.kind==8)=false:=Za.2 (by omega)
  have Qk:(p.kind==9)=true:=Zi.2 hc;have Qm:(p.kind==10)=false:=Za.2 (by omega)
  have Qr:(p.kind==11)=false:=Za.2 (by omega)
  have Q1:(p.kind==12)=false:=Za.2 (by omega)
  have Q3:(p.kind==13)=false:=Za.2 (by omega)
  have Qx:(p.kind==14)=false:=Za.2 (by omega)
  have L5:R=(⟨p.kind,p.label,p.name,[],0,0,[],[]⟩,op):=by
   rw [←Ql];unfold Yh;simp [hc]
  clear Ql;subst L5;have Kq:KeW:=⟨⟩;exact Qw
 have c9:=hc;clear hc;by_cases hc:p.kind=10
 ·have Je:(p.kind==0)=false:=Za.2 (by omega)
  have Qe:(p.kind==1)=false:=Za.2 (by omega)
  have Qc:(p.kind==2)=false:=Za.2 (by omega)
  have Qg:(p.kind==3)=false:=Za.2 (by omega)
  have Qi:(p.kind==4)=false:=Za.2 (by omega)
  have Qh:(p.kind==5)=false:=Za.2 (by omega)
  have Qa:(p.kind==6)=false:=Za.2 (by omega)
  have Z2:(p.kind==7)=false:=Za.2 (by omega)
  have Z7:(p.kind==8)=false:=Za.2 (by omega)
  have Qk:(p.kind==9)=false:=Za.2 (by omega)
  have Qm:(p.kind==10)=true:=Zi.2 hc;have Qr:(p.kind==11)=false:=Za.2 (by omega)
  have Q1:(p.kind==12)=false:=Za.2 (by omega)
  have Q3:(p.kind==13)=false:=Za.2 (by omega)
  have Qx:(p.kind==14)=false:=Za.2 (by omega)
  have L5:R=(⟨p.kind,p.label,[],[],p.many,0,[],[]⟩,Ju 0 p.many&&Ju p.many 50):=by
   rw [←Ql];unfold Yh;simp [hc]
  clear Ql;subst L5;have Kq:KeX:=⟨⟩;exact Qw
 have c10:=hc;clear hc;by_cases hc:p.kind=11
 ·have Je:(p.kind==0)=false:=Za.2 (by omega)
  have Qe:(p.kind==1)=false:=Za.2 (by omega)
  have Qc:(p.kind==2)=false:=Za.2 (by omega)
  have Qg:(p.kind==3)=false:=Za.2 (by omega)
  have Qi:(p.kind==4)=false:=Za.2 (by omega)
  have Qh:(p.kind==5)=false:=Za.2 (by omega)
  have Qa:(p.kind==6)=false:=Za.2 (by omega)
  have Z2:(p.kind==7)=false:=Za.2 (by omega)
  have Z7:(p.kind==8)=false:=Za.2 (by omega)
  have Qk:(p.kind==9)=false:=Za.2 (by omega)
  have Qm:(p.kind==10)=false:=Za.2 (by omega)
  have Qr:(p.kind==11)=true:=Zi.2 hc;have Q1:(p.kind==12)=false:=Za.2 (by omega)
  have Q3:(p.kind==13)=false:=Za.2 (by omega)
  have Qx:(p.kind==14)=false:=Za.2 (by omega)
  have L5:R=(⟨p.kind,p.label,p.name,[],0,0,[],[]⟩,w):=by
   rw [←Ql];unfold Yh;simp [hc]
  clear Ql;subst L5;have Kq:KeY:=⟨⟩;exact Qw
 have c11:=hc;clear hc;by_cases hc:p.kind=12
 ·have Je:(p.kind==0)=false:=Za.2 (by omega)
  have Qe:(p.kind==1)=false:=Za.2 (by omega)
  have Qc:(p.kind==2)=false:=Za.2 (by omega)
  have Qg:(p.kind==3)=false:=Za.2 (by omega)
  have Qi:(p.kind==4)=false:=Za.2 (by omega)
  have Qh:(p.kind==5)=false:=Za.2 (by omega)
  have Qa:(p.kind==6)=false:=Za.2 (by omega)
  have Z2:(p.kind==7)=false:=Za.2 (by omega)
  have Z7:(p.kind==8)=false:=Za.2 (by omega)
  have Qk:(p.kind==9)=false:=Za.2 (by omega)
  have Qm:(p.kind==10)=false:=Za.2 (by omega)
  have Qr:(p.kind==11)=false:=Za.2 (by omega)
  have Q1:(p.kind==12)=true:=Zi.2 hc;have Q3:(p.kind==13)=false:=Za.2 (by omega)
  have Qx:(p.kind==14)=false:=Za.2 (by omega)
  have L5:R=(⟨p.kind,p.label,p.name,[],0,0,p.t,[]⟩,tg&&t):=by
   rw [←Ql];unfold Yh;simp [hc]
  clear Ql;subst L5;have Kq:KeZ:=⟨⟩;exact Qw
 have c12:=hc;clear hc;by_cases hc:p.kind=13
 ·have Je:(p.kind==0)=false:=Za.2 (by omega)
  have Qe:(p.kind==1)=false:=Za.2 (by omega)
  have Qc:(p.kind==2)=false:=Za.2 (by omega)
  have Qg:(p.kind==3)=false:=Za.2 (by omega)
  have Qi:(p.kind==4)=false:=Za.2 (by omega)
  have Qh:(p.kind==5)=false:=Za.2 (by omega)
  have Qa:(p.kind==6)=false:=Za.2 (by omega)
  have Z2:(p.kind==7)=false:=Za.2 (by omega)
  have Z7:(p.kind==8)=false:=Za.2 (by omega)
  have Qk:(p.kind==9)=false:=Za.2 (by omega)
  have Qm:(p.kind==10)=false:=Za.2 (by omega)
  have Qr:(p.kind==11)=false:=Za.2 (by omega)
  have Q1:(p.kind==12)=false:=Za.2 (by omega)
  have Q3:(p.kind==13)=true:=Zi.2 hc;have Qx:(p.kind==14)=false:=Za.2 (by omega)
  have L5:R=(⟨p.kind,p.label,[],[],0,0,p.t,[]⟩,t):=by
   rw [←Ql];unfold Yh;simp [hc]
  clear Ql;subst L5;have Kq:Kfa:=⟨⟩;exact Qw
 have c13:=hc;clear hc;by_cases hc:p.kind=14
 ·have Je:(p.kind==0)=false:=Za.2 (by omega)
  have Qe:(p.kind==1)=false:=Za.2 (by omega)
  have Qc:(p.kind==2)=false:=Za.2 (by omega)
  have Qg:(p.kind==3)=false:=Za.2 (by omega)
  have Qi:(p.kind==4)=false:=Za.2 (by omega)
  have Qh:(p.kind==5)=false:=Za.2 (by omega)
  have Qa:(p.kind==6)=false:=Za.2 (by omega)
  have Z2:(p.kind==7)=false:=Za.2 (by omega)
  have Z7:(p.kind==8)=false:=Za.2 (by omega)
  have Qk:(p.kind==9)=false:=Za.2 (by omega)
  have Qm:(p.kind==10)=false:=Za.2 (by omega)
  have Qr:(p.kind==11)=false:=Za.2 (by omega)
  have Q1:(p.kind==12)=false:=Za.2 (by omega)
  have Q3:(p.kind==13)=false:=Za.2 (by omega)
  have Qx:(p.kind==14)=true:=Zi.2 hc;have L5:R=(⟨p.kind,p.label,[],[],0,p.num,p.t,p.u⟩,Ju 0 p.num&&(t&&u)):=by
   rw [←Ql];unfold Yh;simp [hc]
  clear Ql;subst L5;have Kq:Kfb:=⟨⟩;exact Qw
 have c14:=hc;clear hc;have Je:(p.kind==0)=false:=Za.2 (by omega)
 have Qe:(p.kind==1)=false:=Za.2 (by omega)
 have Qc:(p.kind==2)=false:=Za.2 (by omega)
 have Qg:(p.kind==3)=false:=Za.2 (by omega)
 have Qi:(p.kind==4)=false:=Za.2 (by omega)
 have Qh:(p.kind==5)=false:=Za.2 (by omega)
 have Qa:(p.kind==6)=false:=Za.2 (by omega)
 have Z2:(p.kind==7)=false:=Za.2 (by omega)
 have Z7:(p.kind==8)=false:=Za.2 (by omega)
 have Qk:(p.kind==9)=false:=Za.2 (by omega)
 have Qm:(p.kind==10)=false:=Za.2 (by omega)
 have Qr:(p.kind==11)=false:=Za.2 (by omega)
 have Q1:(p.kind==12)=false:=Za.2 (by omega)
 have Q3:(p.kind==13)=false:=Za.2 (by omega)
 have Qx:(p.kind==14)=false:=Za.2 (by omega)
 have L5:R=(⟨p.kind,p.label,[],[],0,0,[],[]⟩,false):=by
  rw [←Ql];unfold Yh;rw [if_neg c0,if_neg c1,if_neg c2,if_neg c3,if_neg c4,if_neg c5,if_neg c6,if_neg c7,if_neg c8,if_neg c9,if_neg c10,if_neg c11,if_neg c12,if_neg c13,if_neg c14]
 clear Ql;subst L5;have Kq:Kfc:=⟨⟩;exact Qw
def Fg (p:Part):Bool:=(Es p).2&&Np [(Es p).1] [p]
theorem Zbm {c:Prop} [Decidable c] {a b:Part×Bool} (ha:eN a.1) (hb:eN b.1):eN (if c then a else b).1:=by split<;>assumption
theorem uY {p:Part} (h:oE p):eN (Es p).1:=by
 obtain ⟨⟨h1,-⟩,⟨h2,-⟩,-⟩:=h;unfold Es Yh;repeat' refine Zbm ?_ ?_
 all_goals exact ⟨by first|exact Nat.zero_le _|exact (show p.t.length≤_ from by omega),by first|exact Nat.zero_le _|exact (show p.u.length≤_ from by omega)⟩
def Mv:Con:=Xd (fun (p:Part)=>oE p) (fun p=>Fg p)
class Kfd:Prop
theorem Kfd.k (_:Kfd) (h:p:=by
 first|exact i1|exact i2|exact hF|(rw [←Ql];simp_all;done)|skip):p:=h
theorem good_isPartA:Jc Tryz.prog (29,Mv):=by
 obtain ⟨Kx,Kt,Kc,Kd,Kb,Ku,Kw,K,Y6,P7,_⟩:=W5 Qj Z0 [] false (Xa good_usedA T9.eq_def (Xa good_SameA Na.eq_def W4));have Ko:=Mv.eq_def;refine Yv K Tryz.func29 [.tmp 2] rfl 18 rfl (fun c hc Jj Zo=>?_);unfold Mv at Zo;obtain ⟨p,rfl,hF⟩:=Qp Zo;clear Zo;obtain ⟨R,Qs⟩:=exq (Fg p);have Ql:=Qs;unfold Fg at Ql;have h2:=uY hF;have h3:eN p:=⟨by have:=hF.1.1;omega,by have:=hF.2.1.1;omega⟩
 obtain ⟨W,Qu⟩:=exq (Es p);obtain ⟨u,ok⟩:=W;rw [Qu] at Ql h2;simp only at Ql h2;obtain ⟨S,Qz⟩:=exq (Np [u] [p]);rw [Qz] at Ql;cases hc;have i1:xP [u]:=⟨by simp,fun n hn=>by rw [Qo] at hn;subst hn;exact h2⟩
 have i2:xP [p]:=⟨by simp,fun n hn=>by rw [Qo] at hn;subst hn;exact h3⟩
 have Kq:Kfd:=⟨⟩;exact Qw
theorem uM {x y:Part}:Np [x] [y]=true↔Vb x=Vb y:=by
 unfold Np;rw [Zi];simp
theorem vX {x y:Part}:Vb x=Vb y↔x.kind=y.kind∧x.label=y.label∧x.name=y.name∧x.bind=y.bind∧x.many=y.many∧x.num=y.num∧x.t.map Uj=y.t.map Uj∧x.u.map Uj=y.u.map Uj:=by
 unfold Vb;rw [Part.mk.injEq]
theorem Jo {l:List Node}:([]:List Node).map Uj=l.map Uj↔l=[]:=by
 cases l<;>simp
theorem Wg {α:Type} {l:List α}:((l.length:Int)==0)=true↔l=[]:=by
 rw [Zi];cases l with
 | nil=>simp
 | cons x l=>simp only [Zf,reduceCtorEq,iff_false];omega
theorem uS (p:Part):Fg p=V5 p:=by
 unfold Fg V5 Es;obtain ⟨w,hw⟩:=exq (J4 p.name);obtain ⟨tg,Zsm⟩:=exq (K1 p.name);obtain ⟨b,hb⟩:=exq (J4 p.bind);obtain ⟨t,ht⟩:=exq (U4 p.t);obtain ⟨u,hu⟩:=exq (U4 p.u);obtain ⟨li,Zx0⟩:=exq (Vc p);obtain ⟨na,lX⟩:=exq (St p.name);obtain ⟨op,Qv⟩:=exq (yR p.name);rw [hw,Zsm,hb,ht,hu,Zx0,lX,Qv];clear hw Zsm hb ht hu Zx0 lX Qv;rw [Bool.eq_iff_iff,Ze,uM,vX];obtain ⟨k,label,name,bind,many,num,pt,pu⟩:=p;unfold Yh Jr;simp only;by_cases h0:k=0
 ·subst h0;simp [Jo,Wg,Jw,Ju];try grind
 by_cases h1:k=1
 ·subst h1;simp [Jo,Wg,Jw,Ju];try grind
 by_cases h2:k=2
 ·subst h2;simp [Jo,Wg,Jw,Ju];try grind
 by_cases h3:k=3
 ·subst h3;simp [Jo,Wg,Jw,Ju];try grind
 by_cases h4:k=4
 ·subst h4;simp [Jo,Wg,Jw,Ju];try grind
 by_cases h5:k=5
 ·subst h5;simp [Jo,Wg,Jw,Ju];try grind
 by_cases h6:k=6
 ·subst h6;simp [Jo,Wg,Jw,Ju];try grind
 by_cases h7:k=7
 ·subst h7;simp [Jo,Wg,Jw,Ju];try grind
 by_cases h8:k=8
 ·subst h8;simp [Jo,Wg,Jw,Ju];try grind
 by_cases h9:k=9
 ·subst h9;simp [Jo,Wg,Jw,Ju];try grind
 by_cases Ztg:k=10
 ·subst Ztg;simp [Jo,Wg,Jw,Ju];try grind
 by_cases Zz4:k=11
 ·subst Zz4;simp [Jo,Wg,Jw,Ju];try grind
 by_cases Zz3:k=12
 ·subst Zz3;simp [Jo,Wg,Jw,Ju];try grind
 by_cases Zz2:k=13
 ·subst Zz2;simp [Jo,Wg,Jw,Ju];try grind
 by_cases Zz1:k=14
 ·subst Zz1;simp [Jo,Wg,Jw,Ju];try grind
 simp [*]
theorem nV {x:List UInt8}:∀ {S:List (List UInt8)},Zaa x false S (Cx S)=Yy x S
 | []=>rfl
 | y::S=>by
  show cond (x==y) true (Zaa x false S (Cx S))=((x==y)||Yy x S);rw [nV];cases x==y<;>rfl
theorem sA {x:List UInt8} {z:Bool}:∀ {ks:List (List UInt8)} {vs:List Bool},Oo (.str x) (.bool z) (ks.map enc) (vs.map enc)=.bool (Zaa x z ks vs)
 | [],vs=>by cases vs<;>rfl
 | k::ks,[]=>rfl
 | k::ks,v::vs=>by
  show cond (D.eqb (.str x) (.str k)) (D.bool v) (Oo (.str x) (.bool z) (ks.map enc) (vs.map enc))=_;rw [sA,Znd,Zaa];cases x==k<;>rfl
theorem bH {x:List UInt8} {S:List (List UInt8)}:Oo (.str x) (.bool false) (S.map enc) ((Cx S).map enc)=.bool (Yy x S):=by rw [sA,nV]
def jM (x:List UInt8) (hd:List (List UInt8)):List (List UInt8):=cond (x==[]) hd (Us x hd)
def Pv (t:List Part) (tr:Nat→Bool×Nat) (p:Part):Nat→Nat→List (List UInt8)→Nat→Bool×Nat
 | 0,_,_,at_=>(true,at_)
 | m+1,k,hd,at_=>cond (Ju (t.length:Int) at_) (false,at_)
   (cond (M6 p (t.getD at_ e0) k)
    (cond (Yy (t.getD at_ e0).label hd) (false,at_)
     (cond (tr at_).1 (Pv t tr p m (k+1) (jM (t.getD at_ e0).label hd) (tr at_).2) (false,(tr at_).2)))
    (false,at_))
def W8 (t:List Part):Nat→Nat→Bool×Nat
 | 0,at_=>(false,at_)
 | f+1,at_=>cond (Ju (t.length:Int) at_) (false,at_)
   (cond (V5 (t.getD at_ e0)) (Pv t (W8 t f) (t.getD at_ e0) (Jk (t.getD at_ e0)).toNat 0 [] (at_+1)) (false,at_))
structure EX where
 t:List Part
 i:Nat
 f:Nat
 d:Int
def Wz (t:List Part) (i:Nat):List Obj:=[.box false [.d (.int .i64 i)],.box false [.d (.list 8 (t.map enc))],.box false [.clo 28 [.ref 90000 0,.ref 90001 0,.ref 90002 0]]]
theorem Xk {t:List Part} {i:Nat}:Wz t i=[.box false [.d (.int .i64 i)],.box false [.d (.list 8 (t.map enc))],.box false [.clo 28 [.ref 90000 0,.ref 90001 0,.ref 90002 0]]]:=rfl
def iM (t:List Part):Prop:=∀ p∈t,oE p
def Xz (n:Nat):BCon where
 X:=EX
 ok x:=x.t.length≤1000000∧iM x.t∧x.f≤100∧x.d=101-x.f∧x.f<n
 args x:=[.d (.int .i64 x.d),.ref 90000 0,.ref 90001 0,.ref 90002 0]
 objs x:=Wz x.t x.i
 res x:=.bool (W8 x.t x.f x.i).1
 post x:=Wz x.t (W8 x.t x.f x.i).2
theorem Ow:∀ x,¬ (Xz 0).ok x:=by
 rintro x ⟨_,_,_,_,h⟩;omega
theorem pK {n:Nat} {t:List Part} {i f:Nat} {d:Int}:(Xz n).post ⟨t,i,f,d⟩=Wz t (W8 t f i).2:=rfl
theorem uK {n:Nat} {t:List Part} {i f:Nat} {d:Int}:(Xz n).res ⟨t,i,f,d⟩=.bool (W8 t f i).1:=rfl
theorem Gv:Rk 3 [90000,90001,90002]:=by
 intro j hj
 match j,hj with
 | 0,_=>rfl
 | 1,_=>rfl
 | 2,_=>rfl
class Kfe:Prop
theorem Kfe.k (_:Kfe) (h:p:=by
 refine ⟨[90000,90001,90002],by simp,rfl,Gv,?_⟩
 simp [Zh,lk,J7,rnA,rnAs,rk]):p:=h
class Kff:Prop
theorem Kff.k (_:Kff) (h:p:=by
 refine ⟨[90000,90001,90002],by simp,rfl,Gv,?_⟩
 simp [Zh,lk,J7,rnA,rnAs,rk]):p:=h
class Kfg:Prop
theorem Kfg.k (_:Kfg) (h:p:=by
 refine ⟨[90000,90001,90002],by simp,rfl,Gv,?_⟩
 simp [Zh,lk,J7,rnA,rnAs,rk]):p:=h
class Kfh:Prop
theorem Kfh.k (_:Kfh) (h:p:=by
 first|exact Zve|skip
 refine ⟨[90000,90001,90002],by simp,rfl,Gv,?_⟩
 simp [Zh,lk,J7,rnA,rnAs,rk]):p:=h
class Kfj:Prop
theorem Kfj.k (_:Kfj) (h:p:=by
 refine ⟨[90000,90001,90002],by simp,rfl,Gv,?_⟩
 simp [Zh,lk,J7,rnA,rnAs,rk]):p:=h
class Kfk:Prop
theorem Kfk.k (_:Kfk) (h:p:=by
 refine ⟨[90000,90001,90002],by simp,rfl,Gv,?_⟩
 simp [Zh,lk,J7,rnA,rnAs,rk]):p:=h
class Kfl:Prop
theorem Kfl.k (_:Kfl) (h:p:=by
 refine ⟨[90000,90001,90002],by simp,rfl,Gv,?_⟩
 simp [Zh,lk,J7,rnA,rnAs,rk]):p:=h
class Kfn:Prop
theorem Kfn.k (_:Kfn) (h:p:=by
 refine ⟨[90000,90001,90002],by simp,rfl,Gv,?_⟩
 simp [Zh,lk,J7,rnA,rnAs,rk]):p:=h
class Kfo:Prop
theorem Kfo.k (_:Kfo) (h:p:=by
 refine ⟨(k+1,Hd,w2),by exact J0,by simp only;omega,by simp only;omega,?_,by simp only;omega⟩
 simp only;rw [show M-(k+1)=m by omega]
 exact hR):p:=h
class Kfm:Prop
theorem Kfm.k (_:Kfm) (h:p:=by
 refine Z6 (bc:=Xz n) ⟨t,j,f,d+1⟩ [90000,90001,90002] ⟨ht,hN,by simp only;omega,by simp only;omega,by simp only;omega⟩ rfl (by simp) (by rw [Qg];rfl) ?_ ?_ ?_
 ·show Zh _ _ (Wz t j) _;rw [Xk];simp [Zh,lk,J7,rnA,rnAs,rk]
 ·show Zy (List.drop (Wz t j).length _) _;rw [Xk];simp [Zy,lk]
 cases w1 with
 | false =>
  rw [cond_false] at hR;injection hR with Ej Le
  subst Ej;subst Le;have Z2:=@Xk;have Kq:Kfn:=⟨⟩;exact Qw
 | true =>
  rw [cond_true] at hR;have Z2:=@Xk;have Kq:Kfo:=⟨⟩;exact Qw):p:=h
class Kfq:Prop
theorem Kfq.k (_:Kfq) (h:p:=by
 refine ⟨[90000,90001,90002],by simp,rfl,Gv,?_⟩
 simp [Zh,lk,J7,rnA,rnAs,rk]):p:=h
class Kfr:Prop
theorem Kfr.k (_:Kfr) (h:p:=by
 refine ⟨(k+1,Y,w2),by exact J0,by simp only;omega,by simp only;omega,?_,by simp only;omega⟩
 simp only;rw [show M-(k+1)=m by omega]
 exact hR):p:=h
class Kfp:Prop
theorem Kfp.k (_:Kfp) (h:p:=by
 refine Z6 (bc:=Xz n) ⟨t,j,f,d+1⟩ [90000,90001,90002] ⟨ht,hN,by simp only;omega,by simp only;omega,by simp only;omega⟩ rfl (by simp) (by rw [Qg];rfl) ?_ ?_ ?_
 ·show Zh _ _ (Wz t j) _;rw [Xk];simp [Zh,lk,J7,rnA,rnAs,rk]
 ·show Zy (List.drop (Wz t j).length _) _;rw [Xk];simp [Zy,lk]
 cases w1 with
 | false =>
  rw [cond_false] at hR;injection hR with Ej Le
  subst Ej;subst Le;have Z2:=@Xk;have Kq:Kfq:=⟨⟩;exact Qw
 | true =>
  rw [cond_true] at hR;have Z2:=@Xk;have Kq:Kfr:=⟨⟩;exact Qw):p:=h
class Kfs:Prop
theorem Kfs.k (_:Kfs) (h:p:=by
 refine ⟨[90000,90001,90002],by simp,rfl,Gv,?_⟩
 simp [Zh,lk,J7,rnA,rnAs,rk]):p:=h
class Kfi:Prop
theorem Kfi.k (_:Kfi) (h:p:=by
 first|rfl|exact Zve|exact u3|skip
 refine Z1 [5,8,35,36,37,38,39,40,41,42,43,44,45,46,47,48,49,50,51,52,53,54,55,56,57,58,59,60,61,62,63,64,65,66,67,68,69,70,71,72,73,74,75,76,77] (fun q:Nat×List (List UInt8)×Nat=>[(34,.d (.int .i64 q.1))]) (fun q:Nat×List (List UInt8)×Nat=>[(90000,.box false [.d (.int .i64 q.2.2)]),(29,.mp (q.2.1.map enc) ((Cx q.2.1).map enc) false)]) (fun q:Nat×List (List UInt8)×Nat=>q.1≤M∧q.2.1.length≤q.1∧Pv t (W8 t f) p (M-q.1) q.1 q.2.1 q.2.2=(r1,r2)) (fun q:Nat×List (List UInt8)×Nat=>M-q.1) (0,[],i+1) ?_ ?_ ?_
 ·exact ⟨Nat.zero_le _,Zk _,hr⟩
 ·refine Zbk ?_;all_goals rfl
 rintro ⟨k,Hd,j⟩ ⟨hk,Zzh,hR⟩;simp only at hk Zzh hR;rcases Z5 k M with ⟨Qd,Q5⟩|⟨Qd,Q5⟩
 ·obtain ⟨m,hm⟩:∃ m,M-k=m+1:=⟨M-k-1,by omega⟩
  rw [hm,Pv] at hR;rcases Vv t.length j with ⟨Zo3,Ja⟩|⟨Zo3,Ja⟩
  ·rw [Ja,cond_true] at hR;injection hR with Ej Le
   subst Ej;subst Le;have Kq:Kfj:=⟨⟩;exact Qw
  rw [Ja,cond_false] at hR;have Cw:j<t.length:=by omega
  have Jq:=Z9 e0 Cw;obtain ⟨x,hx⟩:=exq (t.getD j e0);rw [hx] at Jq hR;have Je:((k:Int)).toNat=k:=rfl;cases Q9:M6 p x k with
  | false =>
   rw [Q9,cond_false] at hR;injection hR with Ej Le
   subst Ej;subst Le;have Kq:Kfk:=⟨⟩;exact Qw
  | true =>
   rw [Q9,cond_true] at hR;cases Qe:Yy x.label Hd with
   | true =>
    rw [Qe,cond_true] at hR;injection hR with Ej Le
    subst Ej;subst Le;have Z2:=@bH;have Z7:=@H9;have Kq:Kfl:=⟨⟩;exact Qw
   | false =>
    rw [Qe,cond_false] at hR;obtain ⟨w,hw⟩:=exq (W8 t f j);rw [hw] at hR;obtain ⟨w1,w2⟩:=w;simp only at hR;have Qg:(Xz n).post ⟨t,j,f,d+1⟩=Wz t w2:=by rw [pK,hw]
    have Qi:(Xz n).res ⟨t,j,f,d+1⟩=.bool w1:=by rw [uK,hw]
    cases Qc:(x.label==[]) with
    | true =>
     have Zv2:jM x.label Hd=Hd:=by unfold jM;rw [Qc];rfl
     rw [Zv2] at hR;have Z2:=@bH;have Z7:=@H9;have Kq:Kfm:=⟨⟩;exact Qw
    | false =>
     have Zv2:jM x.label Hd=Us x.label Hd:=by unfold jM;rw [Qc];rfl
     rw [Zv2] at hR;have Zv3:=gM (x:=x.label) (S:=Hd);obtain ⟨Y,hY⟩:=exq (Us x.label Hd);rw [hY] at hR Zv3;have Qh:Ml (.str x.label) (.bool true) (Hd.map enc) ((Cx Hd).map enc)=(Cx Y).map enc:=by rw [E6,Tw,hY]
     have Qa:=bG hY;have Z2:=@bH;have Z7:=@H9;have Kq:Kfp:=⟨⟩;exact Qw
 ·have hz:M-k=0:=by omega
  rw [hz,Pv] at hR;injection hR with Ej Le
  subst Ej;subst Le;have Kq:Kfs:=⟨⟩;exact Qw):p:=h
theorem stepb_treeE (n:Nat) (ih:Wm Tryz.prog (28,Xz n)):Wm Tryz.prog (28,(Xz (n+1))):=by
 obtain ⟨Kx,Kt,Kc,Kd,Kb,Ku,Kw,K,Y6,P7,aV,dF,_⟩:=W5 Qj Z0 [] false (Xa Bs Gb.eq_def (Xa good_isPartA Mv.eq_def (Xa good_isLabelA H0.eq_def (kW ih (Xz.eq_def n) W4))));refine jU K Tryz.func28 [.tmp 5] rfl 78 rfl (fun c hc x Xr=>?_);obtain ⟨t,i,f,d⟩:=x;obtain ⟨ht,hN,hf,hd,hn⟩:=Xr;simp only at ht hN hf hd hn;refine ⟨?_,?_,?_,?_,?_⟩
 ·show Xg [.d (.int .i64 d),.ref 90000 0,.ref 90001 0,.ref 90002 0] (Wz t i);rw [Xk];simp [Xg,Jm,Obj.tied,Zx,keptAll,AV.kept,Zq,Jn,lk]
 ·show Zx (Wz t i);rw [Xk];simp [Zx]
 ·show Xg [] (Wz t (W8 t f i).2);rw [Xk];simp [Xg,Jm,Obj.tied,Zx,keptAll,AV.kept,Zq,Jn,lk]
 ·show (Wz t i).length≤(Wz t (W8 t f i).2).length;rw [Xk,Xk];simp
 show V4 Kx c (V9 _ _ (Wz t i).length (.bool (W8 t f i).1) (Wz t (W8 t f i).2)) ⟨[.d (.int .i64 d),.ref 90000 0,.ref 90001 0,.ref 90002 0]++Yp 74,Zq (Wz t i)⟩;rw [Xk,Xk];cases hc;refine Kn 4 ?_;cases f with
 | zero =>
  have h0:W8 t 0 i=(false,i):=rfl;rw [h0];have Qz:Jw 100 d=true:=by rw [Xs];omega
  rcases Vv t.length i with ⟨Pj,Qu⟩|⟨Pj,Qu⟩
  ·have Kq:Kfe:=⟨⟩;exact Qw
  ·have Kq:Kff:=⟨⟩;exact Qw
 | succ f =>
  have Qz:Jw 100 d=false:=by rw [Jl];omega
  have Hf:W8 t (f+1) i=cond (Ju (t.length:Int) i) (false,i)
   (cond (V5 (t.getD i e0)) (Pv t (W8 t f) (t.getD i e0) (Jk (t.getD i e0)).toNat 0 [] (i+1)) (false,i)):=rfl
  rcases Vv t.length i with ⟨Pj,Qu⟩|⟨Pj,Qu⟩
  ·rw [Qu,cond_true] at Hf;rw [Hf];have Kq:Kfg:=⟨⟩;exact Qw
  rw [Qu,cond_false] at Hf;have L4:i<t.length:=by omega
  have Qs:=Z9 e0 L4;have Zve:=hN (t.getD i e0) (by simp [L4])
  obtain ⟨p,hp⟩:=exq (t.getD i e0);rw [hp] at Qs Hf Zve;have Q0:=uS p;cases Ls:V5 p with
  | false =>
   rw [Ls] at Q0;rw [Ls,cond_false] at Hf;rw [Hf];have Kq:Kfh:=⟨⟩;exact Qw
  | true =>
   rw [Ls] at Q0;obtain ⟨u1,u2,u3⟩:=R5 Ls;rw [Ls,cond_true] at Hf;rw [Hf];obtain ⟨M,Q6⟩:∃ M:Nat,Jk p=M:=⟨(Jk p).toNat,by omega⟩
   have Zzt:M≤60:=by omega
   rw [Q6,Zn];obtain ⟨r,hr⟩:=exq (Pv t (W8 t f) p M 0 [] (i+1));rw [hr];obtain ⟨r1,r2⟩:=r;simp only;have Hg:Cx []=[]:=rfl;have Kq:Kfi:=⟨⟩;exact Qw
theorem Fp:∀ n,Wm Tryz.prog (28,Xz n)
 | 0=>Br (Xc Tryz.func28 (by kernel_rfl) rfl) Ow
 | n+1=>stepb_treeE n (Fp n)
theorem Zae {t:List Part} (h:0<t.length):el (t.map (enc:Part→D)) 0=enc (t.getD 0 e0):=Z9 e0 h
def Vo:BCon:=Xz 101
theorem jO:Wm Tryz.prog (28,Vo):=Fp _
theorem lC {t:List Part} {i f:Nat} {d:Int}:Vo.post ⟨t,i,f,d⟩=Wz t (W8 t f i).2:=rfl
theorem pA {t:List Part} {i f:Nat} {d:Int}:Vo.res ⟨t,i,f,d⟩=.bool (W8 t f i).1:=rfl
def Hk (t:List Part):Bool:=!Ji t&&((W8 t 100 0).1&&((W8 t 100 0).2:Int)==(t.length:Int))
def Uo:Con:=Xd (fun (t:Sl Part)=>t.l.length≤1000000∧iM t.l) (fun t=>Hk t.l)
class Kft:Prop
theorem Kft.k (_:Kft) (h:p:=by
 refine Z6 (bc:=Vo) ⟨t,0,100,1⟩ [3,1,4] ⟨ht,hN,by simp only;omega,by simp only;omega,by simp only;omega⟩ rfl (by simp) (by rw [Ja];rfl) ?_ ?_ ?_
 ·show Zh _ _ (Wz t 0) _;rw [Xk];simp [Zh,lk,J7,rnA,rnAs,rk];rfl
 ·show Zy (List.drop (Wz t 0).length _) _;rw [Xk];simp [Zy,lk]
 cases w1 with
 | false =>
  have Qz:Hk t=false:=by rw [hR];rfl
  have Q9:=@Xk;exact fK
 | true =>
  have Qz:Hk t=((w2:Int)==(t.length:Int)):=by rw [hR];rfl
  have Q9:=@Xk;exact fK):p:=h
theorem good_RightE:Jc Tryz.prog (12,Uo):=by
 obtain ⟨Kx,Kt,Kc,Kd,Kb,Ku,Kw,K,Y6,_⟩:=W5 Qj Z0 [] false (kW jO Vo.eq_def W4);have Ko:=Uo.eq_def;refine Yv K Tryz.func12 [.tmp 2] rfl 36 rfl (fun c hc Jj Zo=>?_);unfold Uo at Zo;obtain ⟨⟨t⟩,rfl,ht,hN⟩:=Qp Zo;simp only at ht hN;obtain ⟨w,hw⟩:=exq (W8 t 100 0);obtain ⟨w1,w2⟩:=w;have hR:Hk t=(!Ji t&&(w1&&(w2:Int)==(t.length:Int))):=by unfold Hk;rw [hw]
 cases hc;refine Kn 2 ?_;by_cases h0:t.length=0
 ·have hb:Ji t=true:=by unfold Ji;simp [h0]
  have Qz:Hk t=false:=by rw [hR,hb];rfl
  have Qu:((t.length:Int)==0)=true:=by rw [Zi];omega
  exact fK
 have Qu:((t.length:Int)==0)=false:=by rw [Za];omega
 have Zcw:(t.length==0)=false:=by rw [Za];exact h0
 have Ax:0<t.length:=by omega
 have Q0:=Zae Ax;rcases Xy 10000 t.length with ⟨hl,Qs⟩|⟨hl,Qs⟩
 ·have hb:Ji t=true:=by unfold Ji;rw [Qs];simp
  have Qz:Hk t=false:=by rw [hR,hb];rfl
  exact fK
 cases Q6:((t.getD 0 e0).label==[]) with
 | false =>
  have hb:Ji t=true:=by unfold Ji;rw [Q6];simp
  have Qz:Hk t=false:=by rw [hR,hb];rfl
  exact Uy
 | true =>
  cases Q5:((t.getD 0 e0).kind==8) with
  | true =>
   have hb:Ji t=true:=by unfold Ji;rw [Q5];simp
   have Qz:Hk t=false:=by rw [hR,hb];rfl
   exact Uy
  | false =>
   have hb:Ji t=false:=by unfold Ji;rw [Zcw,Qs,Q6,Q5];rfl
   rw [hb,Bool.not_false,Bool.true_and] at hR;have Ja:Vo.post ⟨t,0,100,1⟩=Wz t w2:=by rw [lC,hw]
   have Jq:Vo.res ⟨t,0,100,1⟩=.bool w1:=by rw [pA,hw]
   have Kq:Kft:=⟨⟩;exact Qw
def Rp (l:List Part):Prop:=∀ n∈l,V5 n=true
mutual
theorem shal5_tree:∀ (x:Rose Part) (l:List Part) (rs:List Int),wf Wr x→Ll (nds x++l) rs=(N5 rs.length (depth x)&&Ll l (Mc 0 rs))
 | mk n ks,l,rs,hw=>by
  have hm:=Gz n;rw [Jt,List.cons_append,Ll,hm,←hw.1];cases ks with
  | nil =>
   have hd:depth (mk n [])=1:=by simp [depth,depths]
   rw [hd];simp only [ndss,List.nil_append,List.length_nil];by_cases h:100≤rs.length
   ·rw [if_pos h,Hl (by omega)];rfl
   ·rw [if_neg h,Pa (by omega)];rfl
  | cons y ys =>
   have hd:depth (mk n (y::ys))=1+depths (y::ys):=by rw [depth]
   rw [hd,H8 (by simp only [Zf];omega),shal5_forest (y::ys) l rs (by simp) hw.2]
   by_cases h:100≤rs.length
   ·rw [if_pos h,Hl (by omega)];rfl
   ·rw [if_neg h]
theorem shal5_forest:∀ (xs:List (Rose Part)) (l:List Part) (rs:List Int),xs≠[]→wfs Wr xs→Ll (ndss xs++l) ((xs.length:Int)::rs)=(N5 rs.length (1+depths xs)&&Ll l (Mc 0 rs))
 | [],_,_,h,_=>absurd rfl h
 | x::ts,l,rs,_,hw=>by
  have h0:=shal5_tree x;cases ts with
  | nil =>
   simp only [ndss,List.append_nil];have hd:depths [x]=depth x:=by simp [depths]
   rw [h0 l _ hw.1,hd];simp only [Zf,List.length_nil];rw [tV (r:=rs.length+1) (d:=depth x) (r':=rs.length) (d':=1+depth x) (by omega)]
   rfl
  | cons y ts =>
   have h2:=shal5_forest (y::ts) l rs (by simp) hw.2
   rw [ndss,List.append_assoc,h0 _ _ hw.1];have e:Mc 0 ((((x::y::ts).length:Nat):Int)::rs)=(((y::ts).length:Nat):Int)::rs:=by
    rw [Mc,if_pos rfl,show (((x::y::ts).length:Nat):Int)-1=(((y::ts).length:Nat):Int) by simp only [Zf];omega,H8 (by simp only [Zf];omega)]
   have hd:depths (x::y::ts)=max (depth x) (depths (y::ts)):=by rw [depths]
   rw [e,h2,hd];simp only [Zf];by_cases h1:rs.length+1+depth x≤100
   ·rw [Pa h1,Bool.true_and];by_cases h2:rs.length+(1+depths (y::ts))≤100
    ·rw [Pa h2,Pa (r:=rs.length) (d:=1+max (depth x) (depths (y::ts))) (by omega)]
    ·rw [Hl h2,Hl (r:=rs.length) (d:=1+max (depth x) (depths (y::ts))) (by omega)]
   ·rw [Hl h1,Hl (r:=rs.length) (d:=1+max (depth x) (depths (y::ts))) (by omega)]
    rfl
end
theorem C5 {x:Rose Part} (hw:wf Wr x):Nm (nds x)=N5 0 (depth x):=by
 have:=shal5_tree x [] [] hw;simp only [List.append_nil,List.length_nil] at this;unfold Nm;rw [this,Ll];simp
def bT (ks:List (Rose Part)) (q:Nat):Part:=(ks.getD q (mk e0 [])).root
def wF (ks:List (Rose Part)) (s:List UInt8) (k:Nat):Bool:=(List.range k).any fun j=>!(s==[])&&((bT ks j).label==s)
def mR (p:Part) (ks:List (Rose Part)):Bool:=(List.range ks.length).all fun k=>gW p (bT ks k) ((p.kind==7)&&Jw 0 (k:Int))&&!wF ks (bT ks k).label k
mutual
def labT5:Rose Part→Bool
 | mk n ks=>mR n ks&&labTs5 ks
def labTs5:List (Rose Part)→Bool
 | []=>true
 | x::xs=>labT5 x&&labTs5 xs
end
theorem dK {t:List Part}:∀ {xs:List (Rose Part)} {i j:Nat},Rx Wr t i xs→∀ h:j<xs.length,At Wr t (i+(ndss (xs.take j)).length) xs[j]
 | [],_,_,_,h=>by simp at h
 | x::xs,i,0,ha,_=>by simpa [ndss] using ha.head.1
 | x::xs,i,j+1,ha,h=>by
  have:=dK ha.head.2 (j:=j) (by simpa using h)
  simpa [ndss,Nat.add_assoc] using this
theorem Zb3 {t:List Part} {i:Nat} {x:Rose Part} (h:At Wr t i x):Fa t i=mR x.root x.kids:=by
 have hk:=h.kids;have hl:=h.lt;have hm:=Gz (t.getD i e0);have hr:=h.root e0;unfold Fa;rw [Ff h,G5,hr];rw [hr] at hm;rw [hm,hk.2];rw [show ((Wr x.root:Int)==(Wr x.root:Int))=true by simp,Bool.true_and]
 unfold mR;rw [hk.2];apply Bool.eq_iff_iff.2;simp only [List.all_eq_true,List.mem_range];have key:∀ k,k<x.kids.length→Q8 t (W7 (i+1) x.kids) k=bT x.kids k:=by
  intro k hk';unfold Q8 bT;rw [Nx hk',Zn];have:=(dK hk.1 hk').root e0;rw [this];simp [hk']
 have kd:∀ (s:List UInt8) (k:Nat),k≤x.kids.length→((List.range k).any fun j=>!(s==[])&&((Q8 t (W7 (i+1) x.kids) j).label==s))=wF x.kids s k:=by
  intro s k hk';unfold wF;rw [Bool.eq_iff_iff];simp only [List.any_eq_true,List.mem_range];constructor
  ·rintro ⟨j,hj,g⟩;rw [key j (by omega)] at g
   exact ⟨j,hj,g⟩
  ·rintro ⟨j,hj,g⟩;exact ⟨j,hj,by rw [key j (by omega)];exact g⟩
 have e:∀ k,k<Wr x.root→Bl t x.root (W7 (i+1) x.kids) k=(gW x.root (bT x.kids k) ((x.root.kind==7)&&Jw 0 (k:Int))&&!wF x.kids (bT x.kids k).label k):=by
  intro k hk';unfold Bl rZ;rw [key k (by omega),kd _ k (by omega)]
 constructor
 ·intro g k hk';rw [←e k hk'];exact g k hk'
 ·intro g k hk';rw [e k hk'];exact g k hk'
mutual
theorem labT5_at {t:List Part}:∀ {x:Rose Part} {i:Nat},At Wr t i x→(labT5 x=true↔∀ j,i≤j→j<i+(nds x).length→Fa t j=true)
 | mk n ks,i,h=>by
  have h1:=Zb3 h;have hk:Rx Wr t (i+1) ks:=h.kids.1;rw [labT5,Ze,labTs5_at hk,Jt,Zf];simp only [root,kids] at h1 ⊢;constructor
  ·rintro ⟨g1,g2⟩ j Az uX;by_cases Yd:j=i
   ·subst Yd;rw [h1];exact g1
   ·exact g2 j (by omega) (by omega)
  ·intro g;exact ⟨by rw [←h1];exact g i (Zk _) (by omega),fun j Az uX=>g j (by omega) (by omega)⟩
theorem labTs5_at {t:List Part}:∀ {xs:List (Rose Part)} {i:Nat},Rx Wr t i xs→(labTs5 xs=true↔∀ j,i≤j→j<i+(ndss xs).length→Fa t j=true)
 | [],i,_=>by simp only [labTs5,ndss,List.length_nil,true_iff];intro j h1 h2;omega
 | x::xs,i,h=>by
  rw [labTs5,Ze,labT5_at h.head.1,labTs5_at h.head.2];simp only [ndss,Zj];constructor
  ·rintro ⟨g1,g2⟩ j Az uX;rcases Nat.lt_or_ge j (i+(nds x).length) with Qd|Nd
   ·exact g1 j Az Qd
   ·exact g2 j Nd (by omega)
  ·intro g;exact ⟨fun j Az uX=>g j Az (by omega),fun j Az uX=>g j (by omega) (by omega)⟩
end
structure RP (x:Rose Part):Prop where
 wf:wf Wr x
 uses:Rp (nds x)
 depth:depth x≤100
 lab:labT5 x=true
 label:x.root.label=[]
 kind:x.root.kind≠8
 len:(nds x).length≤10000
theorem Aa {x:Rose Part} (h:RP x):Jg (nds x)=true:=by
 have ha:=Wx h.wf;have hp:=Bi x;have hr:=ha.root e0;unfold Jg;have h1:Ji (nds x)=false:=by
  unfold Ji;rw [hr,h.label];have e1:((nds x).length==0)=false:=by rw [Za];omega
  have e2:Jw 10000 ((nds x).length:Int)=false:=by rw [Jl];have:=h.len;omega
  have e3:(x.root.kind==8)=false:=by rw [Za];exact h.kind
  rw [e1,e2,e3];rfl
 have h2:(nds x).all V5=true:=List.all_eq_true.2 h.uses;have h3:M9 (nds x) 0=((nds x).length:Int):=by have:=Bt ha;simpa using this
 have h4:Nm (nds x)=true:=by rw [C5 h.wf];exact Pa (by have:=h.depth;omega)
 have h5:((List.range (nds x).length).all fun i=>Fa (nds x) i)=true:=U3 fun j hj=>(labT5_at ha).1 h.lab j (Nat.zero_le _) (by omega)
 rw [h1,h2,h3,h4,h5];simp
theorem X6 {t:List Part} (h:Jg t=true):∃ x,t=nds x∧RP x:=by
 obtain ⟨x,Zcs,hx⟩:=aE h;unfold Jg at h;simp only [Ze,Bool.not_eq_true',Zi] at h;obtain ⟨h1,h2,⟨h3,h4⟩,h5⟩:=h;unfold Ji at h1;simp only [Bool.or_eq_false_iff,Za,Bool.not_eq_false',Zi,Jl] at h1;obtain ⟨⟨⟨g1,g2⟩,g3⟩,g4⟩:=h1;have hn:Rp t:=List.all_eq_true.1 h2;have hl:∀ i,i<t.length→Fa t i=true:=fun i hi=>List.all_eq_true.1 h5 i (List.mem_range.2 hi);obtain ⟨hw,r,hr⟩:=id hx;have Th:=hx.root e0;subst Zcs;refine ⟨x,rfl,⟨hw,hn,?_,(labT5_at hx).2 fun j _ hj=>hl j (by omega),by rw [←Th];exact g3,by rw [←Th];exact g4,by omega⟩⟩
 rw [C5 hw] at h4;have:=of_decide_eq_true h4;omega
theorem bN {p x:Part} {k:Nat}:gW p x ((p.kind==7)&&Jw 0 (k:Int))=M6 p x k:=by
 unfold gW M6;cases hb:((p.kind==7)&&Jw 0 (k:Int)) with
 | true =>
  rw [Ze,Zi] at hb;have Ztg:(p.kind==10)=false:=by rw [Za];omega
  rw [Ztg];cases (x.kind==8)<;>cases K1 x.label<;>rfl
 | false =>
  cases (x.kind==8)<;>cases (p.kind==10)<;>cases J4 x.label<;>cases (x.label==[])<;>rfl
def vR:List (Rose Part)→List (List UInt8)→List (List UInt8)
 | [],hd=>hd
 | x::xs,hd=>vR xs (jM x.root.label hd)
theorem vS {s l:List UInt8} {hd:List (List UInt8)}:Yy s (jM l hd)=(Yy s hd||(!(s==[])&&(l==s))):=by
 unfold jM;cases hl:(l==[]) with
 | true =>
  have hl:=Zi.1 hl;subst hl;rw [cond_true];cases hs:(s==[]) with
  | true=>simp
  | false =>
   have:(([]:List UInt8)==s)=false:=by rw [Za] at hs ⊢;exact fun h=>hs h.symm
   rw [this];simp
 | false =>
  rw [cond_false,zU];have hl:=Za.1 hl;by_cases hs:s=l
  ·subst hs;have h1:(s==[])=false:=Za.2 hl;simp [h1]
  ·have h1:(s==l)=false:=Za.2 hs;have h2:(l==s)=false:=Za.2 fun h=>hs h.symm;simp [h1,h2]
theorem gO {s:List UInt8}:∀ {xs:List (Rose Part)} {hd:List (List UInt8)},Yy s (vR xs hd)=(Yy s hd||(!(s==[])&&xs.any fun x=>x.root.label==s))
 | [],hd=>by simp [vR]
 | x::xs,hd=>by
  rw [vR,gO,vS,List.any_cons];cases Yy s hd<;>cases (s==[])<;>cases (x.root.label==s)<;>rfl
theorem nG {ks:List (Rose Part)} {s:List UInt8} {k:Nat} (hk:k≤ks.length):wF ks s k=Yy s (vR (ks.take k) []):=by
 rw [gO,show Yy s []=false from rfl,Bool.false_or];unfold wF;rw [Bool.eq_iff_iff];simp only [List.any_eq_true,List.mem_range,Ze];constructor
 ·rintro ⟨j,hj,h1,h2⟩;refine ⟨h1,ks[j],?_,?_⟩
  ·rw [List.mem_take_iff_getElem];exact ⟨j,by omega,rfl⟩
  ·unfold bT at h2;simpa [show j<ks.length by omega] using h2
 ·rintro ⟨h1,x,hx,h2⟩;rw [List.mem_take_iff_getElem] at hx;obtain ⟨j,hj,rfl⟩:=hx;refine ⟨j,by omega,h1,?_⟩
  unfold bT;simpa [show j<ks.length by omega] using h2
def Zon (p:Part) (k:Nat) (hd:List (List UInt8)) (ks:List (Rose Part)):Prop:=∀ q,q<ks.length→M6 p (bT ks q) (k+q)=true∧Yy (bT ks q).label (vR (ks.take q) hd)=false
theorem sF {p:Part} {ks:List (Rose Part)}:mR p ks=true↔Zon p 0 [] ks:=by
 unfold mR Zon;rw [List.all_eq_true];constructor
 ·intro h q hq;have:=h q (List.mem_range.2 hq);rw [bN,nG (by omega),Ze,Bool.not_eq_true'] at this
  rw [Nat.zero_add];exact this
 ·intro h q hq;have hq:=List.mem_range.1 hq;have:=h q hq;rw [Nat.zero_add] at this;rw [bN,nG (by omega),Ze,Bool.not_eq_true']
  exact this
theorem mY {p:Part} {k:Nat} {hd:List (List UInt8)} {x:Rose Part} {xs:List (Rose Part)}:Zon p k hd (x::xs)↔(M6 p x.root k=true∧Yy x.root.label hd=false)∧Zon p (k+1) (jM x.root.label hd) xs:=by
 unfold Zon;constructor
 ·intro h;refine ⟨h 0 (by simp),fun q hq=>?_⟩
  have:=h (q+1) (by simp only [Zf];omega)
  rw [show k+(q+1)=k+1+q by omega] at this
  exact this
 ·rintro ⟨h1,h2⟩ q hq;cases q with
  | zero=>exact h1
  | succ q =>
   have:=h2 q (by simp only [Zf] at hq;omega)
   rw [show k+(q+1)=k+1+q by omega]
   exact this
theorem sW {t:List Part} {i:Nat} (h:i<t.length):Ju (t.length:Int) (i:Int)=false:=by rw [Vu];omega
mutual
theorem treeP_ok {t:List Part} (hN:Rp t):∀ {x:Rose Part} {i f:Nat},At Wr t i x→depth x≤f→labT5 x=true→W8 t f i=(true,i+(nds x).length)
 | mk n ks,i,f,h,hd,hl=>by
  cases f with
  | zero=>rw [depth] at hd;omega
  | succ f =>
   have Qd:=h.lt;have Th:t.getD i e0=n:=h.root e0;obtain ⟨Pk,eS⟩:=h.kids;simp only [kids,root] at Pk eS;rw [depth] at hd;rw [labT5,Ze] at hl;have Ls:V5 n=true:=by rw [←Th];exact hN _ (by simp [Qd])
   rw [W8,sW Qd,cond_false,Th,Ls,cond_true,show (Jk n).toNat=ks.length from eS.symm];rw [kidsE_ok hN Pk (by omega) hl.2 (sF.1 hl.1),Jt,Zf]
   congr 1
   omega
theorem kidsE_ok {t:List Part} (hN:Rp t):∀ {ks:List (Rose Part)} {p:Part} {k:Nat} {hd:List (List UInt8)} {j f:Nat},Rx Wr t j ks→depths ks≤f→labTs5 ks=true→Zon p k hd ks →
  Pv t (W8 t f) p ks.length k hd j=(true,j+(ndss ks).length)
 | [],p,k,hd,j,f,_,_,_,_=>by rw [List.length_nil,Pv];simp [ndss]
 | x::xs,p,k,hd,j,f,h,hdp,hl,hb=>by
  obtain ⟨hx,dG⟩:=h.head;have hj:=hx.lt;rw [depths] at hdp;rw [labTs5,Ze] at hl;rw [mY] at hb;obtain ⟨⟨oT,Dq⟩,Zzn⟩:=hb;rw [Zf,Pv,sW hj,cond_false,hx.root e0,oT,cond_true,Dq,cond_false,treeP_ok hN hx (by omega) hl.1]
  simp only [cond_true];rw [kidsE_ok hN dG (by omega) hl.2 Zzn,ndss,Zj]
  congr 1
  omega
end
theorem xW {t:List Part} {j:Nat} {x:Rose Part} {xs:List (Rose Part)} (hx:At Wr t j x) (dG:Rx Wr t (j+(nds x).length) xs):Rx Wr t j (x::xs):=by
 obtain ⟨h1,r,h2⟩:=hx;obtain ⟨g1,s,g2⟩:=dG;refine ⟨⟨h1,g1⟩,s,?_⟩;rw [←List.drop_drop,h2,List.drop_left'] at g2
 ·rw [h2,g2,ndss,List.append_assoc]
 ·rfl
theorem rD {t:List Part} {i:Nat} {ks:List (Rose Part)} (hi:i<t.length) (hk:ks.length=Wr (t.getD i e0)) (h:Rx Wr t (i+1) ks):At Wr t i (mk (t.getD i e0) ks):=by
 obtain ⟨g1,s,g2⟩:=h;refine ⟨⟨hk,g1⟩,s,?_⟩;rw [List.drop_eq_getElem_cons hi,g2,Jt];simp [hi]
theorem bS {t:List Part} {p:Part} {f:Nat} {tr:Nat→Bool×Nat} (Hg:∀ i j,tr i=(true,j)→∃ x,At Wr t i x∧j=i+(nds x).length∧depth x≤f∧labT5 x=true∧Rp (nds x)):∀ {m k:Nat} {hd:List (List UInt8)} {j e:Nat},Pv t tr p m k hd j=(true,e)→j≤t.length →
  ∃ ks:List (Rose Part),ks.length=m∧Rx Wr t j ks∧e=j+(ndss ks).length∧depths ks≤f∧labTs5 ks=true∧Rp (ndss ks)∧Zon p k hd ks
 | 0,k,hd,j,e,h,hj=>by
  rw [Pv] at h;injection h with _ h
  exact ⟨[],rfl,⟨trivial,t.drop j,by simp [ndss]⟩,by simp [ndss,h],by simp [depths],rfl,fun n hn=>by simp [ndss] at hn,fun q hq=>by simp at hq⟩
 | m+1,k,hd,j,e,h,hj=>by
  rw [Pv] at h;cases hl:Ju (t.length:Int) (j:Int) with
  | true=>rw [hl,cond_true] at h;cases h
  | false =>
   rw [hl,cond_false] at h;cases hb:M6 p (t.getD j e0) k with
   | false=>rw [hb,cond_false] at h;cases h
   | true =>
    rw [hb,cond_true] at h;cases hg:Yy (t.getD j e0).label hd with
    | true=>rw [hg,cond_true] at h;cases h
    | false =>
     rw [hg,cond_false] at h;obtain ⟨w,hw⟩:=exq (tr j);obtain ⟨w1,w2⟩:=w;rw [hw] at h;simp only at h;cases w1 with
     | false=>rw [cond_false] at h;cases h
     | true =>
      rw [cond_true] at h;obtain ⟨x,hx,rfl,Zv8,Zvs,hn⟩:=Hg j w2 hw;obtain ⟨ks,e1,e2,e3,e4,e5,e6,e7⟩:=bS Hg h hx.le;have Cz:=hx.root e0;refine ⟨x::ks,by simp [e1],xW hx e2,?_,?_,?_,?_,?_⟩
      ·rw [e3,ndss,Zj];omega
      ·rw [depths];omega
      ·rw [labTs5,Zvs,e5];rfl
      ·intro n hm;rw [ndss,List.mem_append] at hm;rcases hm with hm|hm
       ·exact hn n hm
       ·exact e6 n hm
      ·rw [Cz] at hb hg e7;exact mY.2 ⟨⟨hb,hg⟩,e7⟩
theorem aG {t:List Part}:∀ {f i j:Nat},W8 t f i=(true,j)→∃ x,At Wr t i x∧j=i+(nds x).length∧depth x≤f∧labT5 x=true∧Rp (nds x)
 | 0,i,j,h=>by rw [W8] at h;cases h
 | f+1,i,j,h=>by
  rw [W8] at h;cases hl:Ju (t.length:Int) (i:Int) with
  | true=>rw [hl,cond_true] at h;cases h
  | false =>
   rw [hl,cond_false] at h;rw [Vu] at hl;have hi:i<t.length:=by omega
   cases Ls:V5 (t.getD i e0) with
   | false=>rw [Ls,cond_false] at h;cases h
   | true =>
    rw [Ls,cond_true] at h;obtain ⟨ks,e1,e2,e3,e4,e5,e6,e7⟩:=bS (f:=f) (fun i j h=>aG h) h (by omega)
    refine ⟨mk (t.getD i e0) ks,rD hi e1 e2,?_,?_,?_,?_⟩
    ·rw [e3,Jt,Zf];omega
    ·rw [depth];omega
    ·rw [labT5,Ze];exact ⟨sF.2 e7,e5⟩
    ·intro n hm;rw [Jt] at hm;rcases Zm.1 hm with rfl|hm
     ·exact Ls
     ·exact e6 n hm
theorem Mi (t:List Part):Hk t=Jg t:=by
 rw [Bool.eq_iff_iff];unfold Hk;constructor
 ·intro h;rw [Ze,Ze,Zi,Bool.not_eq_true'] at h;obtain ⟨h1,h2,h3⟩:=h;obtain ⟨x,hx,e,hd,hl,hn⟩:=aG (t:=t) (f:=100) (i:=0) (j:=(W8 t 100 0).2) (by rw [←h2])
  unfold Ji at h1;simp only [Bool.or_eq_false_iff,Za,Bool.not_eq_false',Zi,Jl] at h1;obtain ⟨⟨⟨g1,g2⟩,g3⟩,g4⟩:=h1;have Cz:=hx.root e0;have ht:t=nds x:=by
   obtain ⟨_,r,h5⟩:=hx;rw [List.drop_zero] at h5;have h6:=congrArg List.length h5;rw [Zj] at h6;have:r=[]:=List.length_eq_zero_iff.1 (by omega)
   rw [h5,this,List.append_nil]
  rw [ht];exact Aa ⟨hx.1,hn,hd,hl,by rw [←Cz];exact g3,by rw [←Cz];exact g4,by rw [←ht];omega⟩
 ·intro h;obtain ⟨x,rfl,hx⟩:=X6 h;have ha:=Wx hx.wf;rw [treeP_ok hx.uses ha hx.depth hx.lab];have hh:Ji (nds x)=false:=by
   unfold Jg at h;rw [Ze,Bool.not_eq_true'] at h;exact h.1
  rw [hh];simp
theorem zW:([.agg [.int .i64 2,.str [],.str [],.str [120],.int .i64 0,.int .i64 0,.list 3 [.agg [.int .i64 0,.str [],.int .i64 0]],.list 3 []],.agg [.int .i64 9,.str [],.str [43],.str [],.int .i64 0,.int .i64 0,.list 3 [],.list 3 []],.agg [.int .i64 1,.str [],.str [120],.str [],.int .i64 0,.int .i64 0,.list 3 [],.list 3 []],.agg [.int .i64 1,.str [],.str [121],.str [],.int .i64 0,.int .i64 0,.list 3 [],.list 3 []]]:List D)=Wf.map enc:=rfl
theorem Zb0:wf Wr K0:=E7.1
theorem vB:Rp (nds K0):=by
 rw [Nv];intro p hp;simp only [Wf,Zm,Wp,or_false] at hp;rcases hp with rfl|rfl|rfl|rfl<;>decide +kernel
theorem qW:Hk Wf=true:=by
 rw [Mi,←Nv];refine Aa ⟨Zb0,vB,?_,?_,rfl,by decide,?_⟩
 ·simp [K0,depth,depths]
 ·decide +kernel
 ·rw [Nv];decide
theorem zV:M9 Wf 2=3:=by decide +kernel
theorem vE:(Ve Wf 1).length=2:=by decide +kernel
theorem qA:Dh Wf=[[121]]:=by
 unfold Dh;rw [Wq E7];have:partT K0 [] []=[[121]]:=by simp [K0,partT,partTs,Su,Ur,Uc,Us,Yy]
 rw [this];simp [Sm]
theorem gJ:P5 Wf:=⟨by decide,by
 intro p hp;simp only [Wf,Zm,Wp,or_false] at hp;rcases hp with rfl|rfl|rfl|rfl<;>decide⟩
theorem vF:iM Wf:=by
 intro p hp;simp only [Wf,Zm,Wp,or_false] at hp;rcases hp with rfl|rfl|rfl|rfl<;>simp [oE,oF,P6,Ur]
theorem vC:iI Wf:=⟨gJ,K0,E7,by rw [Nv];decide⟩
theorem zK:Av Wf 2:=fun _ _=>⟨mk (Ur 1 [120] [] []) [],by simp [wf,wfs,Wr,Jk,Ur],_,rfl⟩
theorem zB:Av Wf 1:=fun _ _=>⟨mk (Ur 9 [43] [] []) [mk (Ur 1 [120] [] []) [],mk (Ur 1 [121] [] []) []],by simp [wf,wfs,Wr,Jk,Ur],[],by simp [Jt,ndss];rfl⟩
theorem qK:∀ p∈Wf,p.name.length≤3000000:=by
 intro p hp;simp only [Wf,Zm,Wp,or_false] at hp;rcases hp with rfl|rfl|rfl|rfl<;>simp [Ur]
def Yf:Con:=Pd true
theorem xM:type_of% @Yf.eq_def:=@Yf.eq_def
class Kfu:Prop
theorem Kfu.k (_:Kfu) (h:p:=by
 first|exact hE.symm|(rw [←hE];exact ⟨rfl,rfl,rfl,rfl,trivial⟩)|skip):p:=h
theorem good_alive05:Jc Tryz.prog (11,Yf):=by
 obtain ⟨Kx,Kt,Kc,Kd,Kb,Ku,Kw,K,Y6,P7,aV,dF,oD,_⟩:=W5 Qj Z0 [] false (Xa good_FreeA Gj.eq_def (Xa good_RightE Uo.eq_def (Xa good_PrintA B5.eq_def (Xa good_EndA Zz6 (Xa good_KidsA Nb.eq_def W4)))));have Ko:=xM;refine Yv K Tryz.func11 [.tmp 0] rfl 41 rfl (fun c hc Jj Zo=>?_);unfold Yf at Zo;obtain rfl:=cN Zo;have Qu:=zW;have Qz:=qW;have Qs:=zV;have h3:=vE;have Q6:=qA;have h5:=gJ;have h6:=vF;have h7:=vC;have h8:=zK;have h9:=zB;have Ztg:=qK;have hl:Wf.length=4:=rfl;obtain ⟨E,hE⟩:=exq (Wf);rw [hE] at Qu Qz Qs h3 Q6 h5 h6 h7 h8 h9 Ztg hl;have Zy7:(E.length:Int)=4:=by rw [hl];rfl
 have Q0:((Ve E 1).length:Int)=2:=by rw [h3];rfl
 have Q5:gY=[40,102,117,110,32,40,120,58,32,63,41,32,45,62,32,40,120,32,43,32,121,41,41]:=rfl;cases hc;refine Kn 2 ?_;have Kq:Kfu:=⟨⟩;exact Qw
structure FewE (t:List Part) (m:Nat):Prop where
 len:t.length≤m
 parts:∀ p∈t,cE p=true
theorem T5 {t:List Part} {m:Nat} (h:cF t m=true):FewE t m:=by
 unfold cF at h;rw [List.all_eq_true] at h;have hk:∀ k,k<t.length→k≠m∧cE (t.getD k e0)=true:=by
  intro k hk;have:=h k (List.mem_range.2 hk);rw [Ze,Bool.not_eq_true',Za] at this;exact ⟨fun e=>this.1 (by rw [e]),this.2⟩
 refine ⟨?_,fun p hp=>?_⟩
 ·rcases Nat.lt_or_ge m t.length with hl|hl
  ·exact absurd rfl (hk m hl).1
  ·exact hl
 ·obtain ⟨k,eT,rfl⟩:=List.getElem_of_mem hp;have:=(hk k eT).2;simpa [eT] using this
structure ShortP (p:Part):Prop where
 label:p.label.length≤100
 name:p.name.length≤200
 bind:p.bind.length≤100
 t:p.t.length≤60
 u:p.u.length≤60
 tn:∀ n∈p.t,n.name.length≤100
 un:∀ n∈p.u,n.name.length≤100
theorem aL {t:List Node} (h:M2 t=true):∀ n∈t,n.name.length≤100:=by
 intro n hn;unfold M2 at h;have:=List.all_eq_true.1 h n hn;rw [Bool.not_eq_true',Jl] at this;omega
theorem Pm {p:Part} (h:cE p=true):ShortP p:=by
 unfold cE zX at h;simp only [Ze,Bool.not_eq_true',Bool.or_eq_false_iff,Jl] at h;obtain ⟨⟨h1,h2,h3,h4,h5⟩,h6,h7⟩:=h;exact ⟨by omega,by omega,by omega,by omega,by omega,aL h6,aL h7⟩
theorem ShortP.fit {p:Part} (h:ShortP p):oE p:=by
 have h1:=h.label;have h2:=h.name;have h3:=h.bind;have h4:=h.t;have h5:=h.u;have n1:P6 p.t:=fun n hn=>by have:=h.tn n hn;omega
 have n2:P6 p.u:=fun n hn=>by have:=h.un n hn;omega
 exact ⟨⟨by omega,n1⟩,⟨by omega,n2⟩,⟨⟨by omega,n1⟩,⟨by omega,n2⟩,by omega,by omega,by omega⟩,by omega⟩
theorem FewE.fits {t:List Part} {m:Nat} (h:FewE t m):iM t:=fun p hp=>(Pm (h.parts p hp)).fit
theorem FewE.fit6 {t:List Part} {m:Nat} (h:FewE t m):∀ p∈t,Zcq p:=fun p hp=>by
 have:=h.fits p hp;exact ⟨this.2.2.1,this.2.2.2⟩
theorem FewE.in5 {t:List Part} {m:Nat} (h:FewE t m) (hm:m≤1000000):xP t:=⟨by have:=h.len;omega,fun p hp=>by have:=h.fits p hp;exact ⟨by have:=this.1.1;omega,by have:=this.2.1.1;omega⟩⟩
def rI (t:List Part):Prop:=t.length≤9223372036854775807∧∀ p∈t,oF p
def con_AstMay:Con:=Vy (fun (a b:Sl Part)=>rI a.l∧rI b.l) (fun _ _=>true)
theorem good_AstMay:Jc Tryz.prog (3,con_AstMay):=by
 obtain ⟨Kx,Kt,Kc,Kd,Kb,Ku,Kw,K,Y6,P7,aV,dF,oD,tN,_⟩:=W5 Qj Z0 [] false (Xa good_Few5 Zz5 (Xa good_alive05 xM (Xa good_RightE Uo.eq_def (Xa good_Right5 Zc6 (Xa good_SameA Na.eq_def (Xa good_Same5 Ci.eq_def W4))))));have Ko:=con_AstMay.eq_def;refine Yv K Tryz.func3 [.tmp 4] rfl 31 rfl (fun c hc Jj Zo=>?_);unfold con_AstMay at Zo;obtain ⟨⟨a⟩,⟨b⟩,rfl,⟨ha,hA⟩,hb,hB⟩:=Jd Zo;simp only at ha hA hb hB;clear Zo;have Qs:=Mi a;obtain ⟨R,Q0⟩:=exq (Jg a);rw [Q0] at Qs;obtain ⟨S,Q6⟩:=exq (Np a b);cases Qu:cF a 120 with
 | false =>
  cases hc;exact Uy
 | true =>
 have ea:FewE a 120:=T5 Qu;cases Qz:cF b 120 with
 | false =>
  cases hc;exact Uy
 | true =>
 have eb:FewE b 120:=T5 Qz;have a1:=ea.fits;have a2:=ea.fit6;have a3:=ea.in5 (by omega)
 have b3:=eb.in5 (by omega)
 have a4:=ea.len;cases hc;exact Uy
open Go.Proofs
theorem Zoh {p q r:D→Prop} {ds:List D} (h:xE [p,q,r] ds):∃ a b c,ds=[a,b,c]∧p a∧q b∧r c:=by
 match ds,h with
 | [a,b,c],h=>exact ⟨a,b,c,rfl,h.1,h.2.1,h.2.2.1⟩
theorem Zn3:Zbc Tryz.prog 41 3 true Node (fun n=>n.name.length≤maxLen) :=
 (fF (ps:=[_,_,_]) Tryz.underlying41 (by kernel_rfl) rfl ⟨rfl,by kernel_rfl,Tn Tryz.underlying3,rfl,by kernel_rfl,Ew Tryz.underlying9,rfl,by kernel_rfl,Tn Tryz.underlying3,trivial⟩).mono fun x h=>by
  obtain ⟨ds,rfl,h⟩:=h;obtain ⟨a,b,c,rfl,⟨k,rfl,_⟩,⟨s,rfl,hl⟩,⟨n,rfl,_⟩⟩:=Zoh h;exact ⟨⟨k,s,n⟩,rfl,hl⟩
theorem sY:Zbc Tryz.prog 37 1 false (Sl Node) (fun a=>a.l.length≤maxLen∧∀ y∈a.l,y.name.length≤maxLen):=yM Tryz.underlying37 (by kernel_rfl) rfl (by decide) Zn3
theorem Zog {p1 p2 p3 p4 p5 p6 p7 p8:D→Prop} {ds:List D} (h:xE [p1,p2,p3,p4,p5,p6,p7,p8] ds):∃ a b c d e f g i,ds=[a,b,c,d,e,f,g,i]∧p1 a∧p2 b∧p3 c∧p4 d∧p5 e∧p6 f∧p7 g∧p8 i:=by
 match ds,h with
 | [a,b,c,d,e,f,g,i],h=>exact ⟨a,b,c,d,e,f,g,i,rfl,h.1,h.2.1,h.2.2.1,h.2.2.2.1,h.2.2.2.2.1,h.2.2.2.2.2.1,h.2.2.2.2.2.2.1,h.2.2.2.2.2.2.2.1⟩
def Zcp (n:Part):Prop:=(n.label.length≤maxLen∧n.name.length≤maxLen∧n.bind.length≤maxLen)∧(n.t.length≤maxLen∧∀ y∈n.t,y.name.length≤maxLen)∧n.u.length≤maxLen∧∀ y∈n.u,y.name.length≤maxLen
theorem Zn2:Zbc Tryz.prog 39 8 true Part Zcp :=
 (fF (ps:=[_,_,_,_,_,_,_,_]) Tryz.underlying39 (by kernel_rfl) rfl ⟨rfl,by kernel_rfl,Tn Tryz.underlying3,rfl,by kernel_rfl,Ew Tryz.underlying9,rfl,by kernel_rfl,Ew Tryz.underlying9,rfl,by kernel_rfl,Ew Tryz.underlying9,
  rfl,by kernel_rfl,Tn Tryz.underlying3,rfl,by kernel_rfl,Tn Tryz.underlying2,rfl,by kernel_rfl,sY,rfl,by kernel_rfl,sY,trivial⟩).mono fun x h=>by
  obtain ⟨ds,rfl,h⟩:=h;obtain ⟨a,b,c,d,e,f,g,i,rfl,⟨k,rfl,_⟩,⟨s,rfl,hs⟩,⟨n,rfl,hn⟩,⟨o,rfl,ho⟩,⟨m,rfl,_⟩,⟨v,rfl,_⟩,⟨⟨t⟩,rfl,ht⟩,⟨⟨u⟩,rfl,hu⟩⟩:=Zog h;exact ⟨⟨k,s,n,o,m,v,t,u⟩,rfl,⟨hs,hn,ho⟩,ht,hu⟩
theorem rdParts:Zbc Tryz.prog 23 1 false (Sl Part) (fun a=>a.l.length≤maxLen∧∀ y∈a.l,Zcp y):=yM Tryz.underlying23 (by kernel_rfl) rfl (by decide) Zn2
theorem rdN:Zbc Tryz.prog 3 1 false Int (fun a=>eD .i64 a):=Tn Tryz.underlying3
theorem rdS:Zbc Tryz.prog 9 1 false (List UInt8) (fun a=>a.length≤maxLen):=Ew Tryz.underlying9
theorem fitE_of {a:Sl Part} (h:a.l.length≤maxLen∧∀ y∈a.l,Zcp y):rI a.l:=by
 unfold maxLen Zcp at h;refine ⟨by have:=h.1;omega,fun n hn=>?_⟩
 obtain ⟨⟨h1,h2,h7⟩,⟨h3,h4⟩,h5,h6⟩:=h.2 n hn;unfold maxLen at *;exact ⟨⟨by omega,fun y hy=>by have:=h4 y hy;omega⟩,⟨by omega,fun y hy=>by have:=h6 y hy;omega⟩,by omega,by omega,by omega⟩
mutual
theorem sub_at {t:List Part}:∀ {x:Rose Part} {a:Nat},At Wr t a x→∀ i,a≤i→i<a+(nds x).length→∃ y,At Wr t i y∧depth y≤depth x
 | mk n ks,a,h,i,h1,h2=>by
  by_cases hi:i=a
  ·subst hi;exact ⟨_,h,Zk _⟩
  ·rw [Jt,Zf] at h2;obtain ⟨y,hy,hd⟩:=subs_at h.kids.1 i (by omega) (by simp only [kids];omega)
   refine ⟨y,hy,?_⟩;rw [depth];simp only [kids] at hd;omega
theorem subs_at {t:List Part}:∀ {xs:List (Rose Part)} {a:Nat},Rx Wr t a xs→∀ i,a≤i→i<a+(ndss xs).length→∃ y,At Wr t i y∧depth y≤depths xs
 | [],a,h,i,h1,h2=>by simp only [ndss,List.length_nil] at h2;omega
 | x::xs,a,h,i,h1,h2=>by
  rw [ndss,Zj] at h2;rw [depths];rcases Nat.lt_or_ge i (a+(nds x).length) with Qd|Nd
  ·obtain ⟨y,hy,hd⟩:=sub_at h.head.1 i h1 Qd;exact ⟨y,hy,by omega⟩
  ·obtain ⟨y,hy,hd⟩:=subs_at h.head.2 i Nd (by omega)
   exact ⟨y,hy,by omega⟩
end
structure InR5 (t:List Part) (i:Nat) (y:Rose Part):Prop where
 at_:At Wr t i y
 depth:depth y≤100
 lab:labT5 y=true
 uses:Rp (nds y)
 len:(nds y).length≤10000
theorem O8 {t:List Part} (h:Jg t=true) {i:Nat} (hi:i<t.length):∃ y,InR5 t i y:=by
 obtain ⟨x,rfl,hx⟩:=X6 h;have ha:=Wx hx.wf;obtain ⟨y,hy,hd⟩:=sub_at ha i (Nat.zero_le _) (by omega)
 have Pj:=hy.le;have Zx3:=hx.depth;have Js:=hx.len;refine ⟨y,hy,by omega,(labT5_at hy).2 fun j h1 h2=>(labT5_at ha).1 hx.lab j (Nat.zero_le _) (by omega),fun n hn=>hx.uses n (hy.mem n hn),by omega⟩
def Sr (p:Part):Part:=⟨p.kind,[],p.name,p.bind,p.many,p.num,p.t,p.u⟩
def Hm:List Part→List Part
 | []=>[]
 | p::r=>Sr p::r
theorem Ix {t:List Part} {i:Nat} {y:Rose Part} (h:InR5 t i y) (hk:y.root.kind≠8):Jg (Hm (nds y))=true:=by
 obtain ⟨p,ks⟩:=y;have hw:=h.at_.1;have e:Hm (nds (mk p ks))=nds (mk (Sr p) ks):=by rw [Jt,Jt];rfl
 rw [e];have hd:=h.depth;have hl:=h.lab;have hu:=h.uses;have Js:=h.len;rw [depth] at hd;rw [labT5] at hl;rw [Jt] at hu Js;refine Aa ⟨⟨hw.1,hw.2⟩,?_,by rw [depth];exact hd,by rw [labT5];exact hl,rfl,hk,by rw [Jt];exact Js⟩
 rw [Jt];intro n hn;rcases Zm.1 hn with rfl|hn
 ·exact hu p (List.mem_cons_self ..)
 ·exact hu n (List.mem_cons_of_mem _ hn)
theorem InR5.kid {t:List Part} {i:Nat} {y:Rose Part} (h:InR5 t i y) (hr:Jg t=true) {k:Nat} (hk:k<y.kids.length):∃ z,InR5 t (i+1+(ndss (y.kids.take k)).length) z∧y.kids[k]=z:=by
 have hz:=dK h.at_.kids.1 hk;obtain ⟨z,Zps⟩:=O8 hr hz.lt;exact ⟨z,Zps,hz.inj Zps.at_⟩
theorem drop_take {t:List Part} {i:Nat} {y:Rose Part} (h:At Wr t i y):(t.drop i).take (nds y).length=nds y:=by
 obtain ⟨_,r,hr⟩:=h;rw [hr,List.take_left'];rfl
theorem Gl {t:List Part} (h:Jg t=true):P5 t:=by
 obtain ⟨x,rfl,hx⟩:=X6 h;have hl:=hx.len;exact ⟨by omega,fun n hn=>R5 (hx.uses n hn)⟩
theorem Hj {t:List Part} (h:Jg t=true) (i:Int):Av t i:=by
 intro h0 h1;obtain ⟨y,hy⟩:=O8 h (show i.toNat<t.length by omega)
 exact ⟨y,hy.at_⟩
def con_AstParts:Con:=Vy (fun (t:Sl Part) (i:Int)=>rI t.l∧eD .i64 i) (fun _ _=>true)
class Kfw:Prop
theorem Kfw.k (_:Kfw) (h:p:=by
 repeat' first|exact Lz|with_reducible apply Z3|intro _
 all_goals first|exact ht|exact Hg _|exact Hg _ (by omega) (by omega)|omega|skip):p:=h
class Kfx:Prop
theorem Kfx.k (_:Kfx) (h:p:=by
 repeat' first|exact Lz|with_reducible apply Z3|intro _
 all_goals first|exact ht|exact Hg _|exact Hg _ (by omega) (by omega)|with_reducible exact Zre|(rw [Qn];omega)|omega|exact ⟨k+1,by (have En:=Znl;exact J0),by omega,by omega⟩|skip):p:=h
class Kfy:Prop
theorem Kfy.k (_:Kfy) (h:p:=by
 repeat' first|exact Lz|with_reducible apply Z3|intro _
 all_goals first|exact ht|exact Hg _|exact Hg _ (by omega) (by omega)|exact Kk|with_reducible exact Zre|(rw [Qn];omega)|omega|exact ⟨k+1,by (have En:=Znl;exact J0),by omega,by omega⟩|skip):p:=h
class Kfv:Prop
theorem Kfv.k (_:Kfv) (h:p:=by
 repeat' first|exact Lz|with_reducible apply Z3|intro _
 all_goals first|exact hA|exact a2|exact ht|exact Hg _|exact Hg _ (by omega) (by omega)|omega|skip
 refine Z1 [4,8,9,34,35,36,37,38,39,40,41,42,43,44,45,46,47,48,49,50,51,52,53,54,55,56,57,58,59,60,61,62,63,64,65,66,67,68,69,70,71,72,73,74,75,76,77,78,79] (fun k:Nat=>[(6,.d (.int .i64 (i+1+(ndss (ks.take k)).length:Nat))),(7,.d (.int .i64 k))]) (fun k:Nat=>[]) (fun k:Nat=>k≤ks.length) (fun k:Nat=>ks.length-k) 0 ?_ ?_ ?_
 ·omega
 ·refine Zbk ?_;all_goals simp [ndss]
 rintro k hk;rcases Z5 k ks.length with ⟨Qd,Ja⟩|⟨Qd,Ja⟩
 rotate_left
 ·have xG:k=ks.length:=by omega
  have Jq:((i+1+(ndss (ks.take k)).length:Nat):Int)=M9 t i:=by rw [Zbh,xG,List.take_length];omega
  have Kq:Kfw:=⟨⟩;exact uC
 ·obtain ⟨z,hz,Zxh⟩:=Zo5 k Qd;have Q9:=Z9 (0:Int) (show k<l.length by omega)
  rw [Zvr k Qd] at Q9;obtain ⟨q,Qg⟩:=exq (i+1+(ndss (ks.take k)).length);rw [Qg] at hz Q9;have Je:=Bt hz.at_;have Zaw:=hz.at_.le;have Zsi:=Bi z;have Zpg:=drop_take hz.at_;have Ld:=Ix hz;have C0:=Tp z;obtain ⟨N,hN⟩:=exq (nds z);rw [hN] at Je Zaw Zsi Zpg Ld C0 Zxh;obtain ⟨m,hm⟩:=exq (N.length);rw [hm] at Je Zaw Zsi Zpg Zxh;have Qe:Ju ((q+m:Nat):Int) (q:Int)=false:=by rw [Vu];omega
  have Qc:Jw (t.length:Int) ((q+m:Nat):Int)=false:=by rw [Jl];omega
  have Qi:List.drop q (List.take (q+m) (t.map (enc:Part→D)))=N.map enc:=by
   rw [←Zpg,List.map_take,List.map_drop,List.drop_take,Nat.add_sub_cancel_left]
  have Qh:(N.map (enc:Part→D)).length=m:=by rw [Qq,hm]
  have Qa:=Z9 e0 (show 0<N.length by omega)
  have Zvb:N.getD 0 e0=z.root:=by rw [C0];rfl
  have Aw:(N.map (enc:Part→D)).set 0 (enc (Sr z.root))=(Hm N).map enc:=by rw [C0];rfl
  have oS:(Hm N).length=m:=by rw [←hm,C0];rfl
  have Z7:((Hm N).map (enc:Part→D)).length=m:=by rw [Qq,oS]
  have Kk:iM (Hm N):=by
   rw [C0];have Me:∀ n∈N,n∈t:=fun n hn=>hz.at_.mem n (by rw [hN];exact hn)
   intro n hn;rcases Zm.1 hn with rfl|hn
   ·have hf:=ea.fits z.root (Me _ (by rw [C0];exact List.mem_cons_self ..))
    exact ⟨hf.1,hf.2.1,⟨hf.2.2.1.1,hf.2.2.1.2.1,by show (0:Nat)≤_;omega,hf.2.2.1.2.2.2⟩,hf.2.2.2⟩
   ·exact ea.fits n (Me _ (by rw [C0];exact List.mem_cons_of_mem _ hn))
  have Qr:=Mi (Hm N);have Qk:=Z9 e0 (show 0<(Hm N).length by omega)
  have Zva:(Hm N).getD 0 e0=Sr z.root:=by rw [C0];rfl
  rw [Zvb] at Qa;rw [Zva] at Qk;obtain ⟨p,hp⟩:=exq (z.root);rw [hp] at Qa Qk Aw Ld;obtain ⟨C,hC⟩:=exq (Hm N);rw [hC] at Aw oS Z7 Kk Qr Qk Ld;obtain ⟨pk,pl,pn,pb,pm,pq,pt,pu⟩:=p;have Z2:(N.map (enc:Part→D)).set 0 (.agg [.int .i64 pk,.str [],.str pn,.str pb,.int .i64 pm,.int .i64 pq,.list 3 (pt.map enc),.list 3 (pu.map enc)])=C.map enc:=Aw;unfold Sr at Qk;simp only at Qk;have Znl:((q+m:Nat):Int)=((i+1+(ndss (ks.take (k+1))).length:Nat):Int):=by omega
  by_cases Znn:pk=8
  ·have Qm:(pk != 8)=false:=by rw [bne_eq_false_iff_eq];exact Znn
   have Q1:=@List.getD_cons_zero.{0};have Kq:Kfx:=⟨⟩;exact uC
  ·have Qm:(pk != 8)=true:=by rw [bne_iff_ne];exact Znn
   rw [Ld Znn] at Qr;have Q1:=@List.getD_cons_zero.{0};have Kq:Kfy:=⟨⟩;exact uC):p:=h
theorem good_AstParts:Jc Tryz.prog (7,con_AstParts):=by
 obtain ⟨Kx,Kt,Kc,Kd,Kb,Ku,Kw,K,Y6,P7,aV,dF,oD,tN,_⟩:=W5 Qj Z0 [] false (Xa good_Few5 Zz5 (Xa good_Right5 Zc6 (Xa good_alive05 xM (Xa good_KidsA Nb.eq_def (Xa good_EndA Zz6 (Xa good_RightE Uo.eq_def W4))))));have Ko:=con_AstParts.eq_def;refine Yv K Tryz.func7 [.tmp 4] rfl 88 rfl (fun c hc Jj Zo=>?_);unfold con_AstParts at Zo;obtain ⟨⟨t⟩,i,rfl,⟨ha,hA⟩,hi⟩:=Jd Zo;simp only at ha hA;clear Zo;have Zo9:=Qn.1 hi;cases Qu:cF t 120 with
 | false =>
  cases hc;refine Kn 5 ?_;exact Uy
 | true =>
 have ea:FewE t 120:=T5 Qu;have a2:=ea.fit6;have a4:=ea.len;cases Qz:Jg t with
 | false =>
  cases hc;refine Kn 5 ?_;exact Uy
 | true =>
 have ht:=Gl Qz;have Hg:=Hj Qz;rcases Xy i 0 with ⟨h0,Qs⟩|⟨h0,Qs⟩
 ·have hz:True:=trivial;cases hc;refine Kn 5 ?_;exact Uy
 obtain ⟨i,rfl⟩:∃ n:Nat,i=n:=⟨i.toNat,by omega⟩
 rcases Vv t.length i with ⟨Pj,Q0⟩|⟨Pj,Q0⟩
 ·have hz:True:=trivial;cases hc;refine Kn 5 ?_;exact Uy
 obtain ⟨y,hy⟩:=O8 Qz (show i<t.length by omega)
 have Q6:=Ff hy.at_;have Zbh:=Bt hy.at_;have Pk:=hy.at_.kids.1;have Zxj:=hy.at_.le;have C0:=Tp y;obtain ⟨ks,Lf⟩:=exq (y.kids);have Zo5:∀ k,k<ks.length→∃ z,InR5 t (i+1+(ndss (ks.take k)).length) z∧(ndss (ks.take (k+1))).length=(ndss (ks.take k)).length+(nds z).length:=fun k hk=>by
  subst Lf;obtain ⟨z,hz,e⟩:=hy.kid Qz hk;exact ⟨z,hz,by rw [Af hk,e]⟩
 rw [Lf] at Q6 Pk C0;have Zpy:(nds y).length=1+(ndss ks).length:=by rw [C0,Zf];omega
 rw [Zpy] at Zbh Zxj;have Zvt:=Tq (xs:=ks);obtain ⟨l,hl⟩:=exq (W7 (i+1) ks);have Q5:l.length=ks.length:=by rw [←hl,G5]
 have Zvr:∀ k,k<ks.length→l.getD k 0=((i+1+(ndss (ks.take k)).length:Nat):Int):=fun k hk=>by rw [←hl];exact Nx hk
 rw [hl] at Q6;clear hl C0;cases hc;refine Kn 5 ?_;have Kq:Kfv:=⟨⟩;exact uC
theorem Uk {a b:List (List UInt8)} {s:List UInt8}:Uc (a++b) s=(Uc a s||Uc b s):=by
 unfold Uc;rw [List.any_append]
theorem yU {p:Part} {k:Nat} {b b' d:List (List UInt8)} (h:∀ s,Uc b' s=(Uc b s||Uc d s)) (s:List UInt8):Uc (Kz p k b') s=(Uc (Kz p k b) s||Uc d s):=by
 have hs:=h s;unfold Kz;rw [Uk,Uk];split
 ·rw [Uk,Uk,hs];generalize Uc [p.bind] s=u;generalize Uc (if p.kind=5 then [p.name] else []) s=v
  cases Uc b s<;>cases Uc d s<;>cases u<;>cases v<;>rfl
 ·rw [hs];generalize Uc (if p.kind=5 then [p.name] else []) s=v
  cases Uc b s<;>cases Uc d s<;>cases v<;>rfl
theorem sR:∀ (x:Rose Part) (b b' d:List (List UInt8)),wf Wr x→(∀ s,Uc b' s=(Uc b s||Uc d s))→∀ s,s∈freeT x b'↔s∈freeT x b∧Uc d s=false:=by
 intro x
 induction x using Rose.rec (motive_2:=fun xs=>∀ (p:Part) (k:Nat) (b b' d:List (List UInt8)),wfs Wr xs→(∀ s,Uc b' s=(Uc b s||Uc d s))→∀ s,s∈freeTs p xs k b'↔s∈freeTs p xs k b∧Uc d s=false) with
 | mk p ks ih =>
  intro b b' d hw hb s;obtain ⟨h1,h2⟩:=hw;rw [freeT,freeT];by_cases hk:p.kind=1
  ·have hz:ks=[]:=by
    refine List.length_eq_zero_iff.1 (h1.trans ?_);unfold Wr Jk;rw [if_neg (by omega),if_neg (by omega),if_neg (by omega),if_neg (by omega),if_neg (by omega)]
    rfl
   subst hz;have Zt3:=hb p.name;cases hd:Uc d p.name with
   | true =>
    rw [hd,Bool.or_true] at Zt3;rw [if_neg (by rintro ⟨_,h⟩;rw [Zt3] at h;cases h),freeTs]
    constructor
    ·intro h;cases h
    ·rintro ⟨h3,h4⟩;split at h3
     ·rw [Qo] at h3;subst h3;rw [hd] at h4;cases h4
     ·rw [freeTs] at h3;cases h3
   | false =>
    rw [hd,Bool.or_false] at Zt3;rw [Zt3];split
    ·rw [Qo];constructor
     ·rintro rfl;exact ⟨rfl,hd⟩
     ·exact fun h=>h.1
    ·rw [freeTs,freeTs];simp
  ·rw [if_neg (fun h=>hk h.1),if_neg (fun h=>hk h.1)];exact ih p 0 b b' d h2 hb s
 | nil =>
  rename_i p k b b' d hw hb s;rw [freeTs,freeTs];simp
 | cons x xs ih1 ih2 =>
  rename_i p k b b' d hw hb s;rw [freeTs,freeTs,List.mem_append,List.mem_append,ih2 p (k+1) b b' d hw.2 hb s,ih1 _ _ d hw.1 (yU hb) s,or_and_right]
def D1 (nm s:List UInt8):Bool:=!(s==nm)
theorem qZ {l:List (List UInt8)} {q:List UInt8→Bool} (h:kU l):kU (l.filter q):=by
 unfold kU at *;exact h.filter _
theorem rW {x:Rose Part} {p:Part} (hw:wf Wr x) (hk:p.kind=2):J5 (p::nds x)=(J5 (nds x)).filter (D1 p.bind):=by
 have hP:wf Wr (mk p [x]):=⟨by simp [Wr,Jk,hk],hw,trivial⟩
 have e1:M1 Wr (p::nds x) 0=mk p [x]:=Wq (by have:=Wx hP;rw [Jt] at this;simpa [ndss] using this)
 have e2:M1 Wr (nds x) 0=x:=Wq (Wx hw);unfold J5;rw [e1,e2];obtain ⟨a1,a2⟩:=Ug (freeT (mk p [x]) []);obtain ⟨b1,b2⟩:=Ug (freeT x []);refine qX a1 (qZ b1) fun s=>?_;rw [a2,List.mem_filter,b2,freeT,if_neg (by omega),freeTs,freeTs,List.append_nil]
 have hm:Kz p 0 []=[p.bind]:=by
  unfold Kz;rw [if_pos (by omega),if_neg (by omega)]
  rfl
 rw [hm,sR x [] [p.bind] [p.bind] hw (fun s=>rfl) s];unfold D1 Uc;simp only [List.any_cons,List.any_nil,Bool.or_false,Bool.not_eq_true',Za,ne_eq,and_congr_right_iff];exact fun _=>⟨fun h e=>h e.symm,fun h e=>h e.symm⟩
theorem Gy {t:List Part} (h:Jg t=true):iI t:=by
 have ht:=Gl h;obtain ⟨x,rfl,hx⟩:=X6 h;exact ⟨ht,x,Wx hx.wf,hx.len⟩
def N0 (nm:List UInt8):Part:=⟨2,[],[],nm,0,0,[⟨0,[],0⟩],[]⟩
theorem Zab {nm:List UInt8} (h:nm.length≤100):oE (N0 nm):=by
 refine ⟨⟨by simp [N0],?_⟩,⟨by simp [N0],?_⟩,⟨⟨by simp [N0],?_⟩,⟨by simp [N0],?_⟩,by simp [N0],by simp [N0],by show nm.length≤_;omega⟩,by simp [N0]⟩
 all_goals (intro n hn;simp [N0] at hn;try subst hn)
 all_goals simp
theorem xQ {t:List Part} (h:Jg t=true) (nm:List UInt8):J5 (N0 nm::t)=(J5 t).filter (D1 nm):=by
 obtain ⟨x,rfl,hx⟩:=X6 h;exact rW (p:=N0 nm) hx.wf rfl
theorem Tx {t:List Part} (h:Jg t=true):Dh t=J5 t:=by
 obtain ⟨x,rfl,hx⟩:=X6 h;exact vT (Wx hx.wf)
theorem Zb9 {q:List UInt8→Bool} {L:List (List UInt8)} {i:Nat} (hi:i<L.length) (hq:q (L.getD i [])=true):((L.take i).filter q).length<(L.filter q).length∧(L.filter q).getD ((L.take i).filter q).length []=L.getD i []:=by
 have e:L=L.take i++L.getD i []::L.drop (i+1):=by
  rw [show L.getD i []=L[i] by simp [hi],List.getElem_cons_drop,List.take_append_drop]
 obtain ⟨a,ha⟩:=exq (L.take i);obtain ⟨b,hb⟩:=exq (L.drop (i+1));obtain ⟨z,hz⟩:=exq (L.getD i []);rw [ha,hb,hz] at e;rw [ha,hz];rw [hz] at hq;rw [e,List.filter_append,List.filter_cons,if_pos hq];constructor
 ·simp
 ·simp [Zg]
theorem wJ {q:List UInt8→Bool} {L:List (List UInt8)} {i:Nat} (hi:i<L.length):(L.take (i+1)).filter q=(L.take i).filter q++(if q (L.getD i [])=true then [L.getD i []] else []):=by
 rw [List.take_succ_eq_append_getElem hi,List.filter_append,List.filter_cons,List.filter_nil,show L.getD i []=L[i] by simp [hi]]
theorem lO {l:List (List UInt8)}:∀ (f:Nat) (o:List (List UInt8)),(lP l f o).length≤o.length+f
 | 0,o=>by simp [lP]
 | f+1,o=>by
  rw [lP];split
  ·have:=lO (l:=l) f (o++[(Lq o l).1]);rw [Zj] at this;simp only [Zf,List.length_nil] at this;omega
  ·omega
theorem N1 {t:List Part} (h:iI t):(J5 t).length≤10001:=by
 obtain ⟨_,x,hx,hn⟩:=h;unfold J5 C4;rw [Wq hx];have h1:=lO (l:=freeT x []) ((freeT x []).length+1) [];have h2:=freeT_len x [];simp only [List.length_nil] at h1;omega
def con_AstBound:Con:=Vy (fun (t:Sl Part) (s:List UInt8)=>rI t.l∧s.length≤9223372036854775807) (fun _ _=>true)
class KfA:Prop
theorem KfA.k (_:KfA) (h:p:=by
 first|exact ⟨i+1,by (have En:=Zs3;exact J0),by omega,by omega⟩|skip):p:=h
class KfB:Prop
theorem KfB.k (_:KfB) (h:p:=by
 first|exact ⟨i+1,by (have En:=eS;exact J0),by omega,by omega⟩|(rw [Qn];omega)|skip):p:=h
class Kfz:Prop
theorem Kfz.k (_:Kfz) (h:p:=by
 first|exact hA|exact a2|exact Zyb|exact Zpn|exact xL|exact Zbh|exact dR|skip
 refine Z1 [4,40,41,42,43,44,45,46,47,48,49,50,51,52,53,54,55,56,57,58,59,60,61,62,63,64,65,66,67,68] (fun i:Nat=>[(8,.d (.int .i64 ((L.take i).filter (D1 nm)).length)),(9,.d (.int .i64 i))]) (fun i:Nat=>[]) (fun i:Nat=>i≤L.length) (fun i:Nat=>L.length-i) 0 ?_ ?_ ?_
 ·omega
 ·exact J0
 rintro i hi;rcases Z5 i L.length with ⟨Qd,Q9⟩|⟨Qd,Q9⟩
 rotate_left
 ·have Zv0:i=L.length:=by omega
  have Je:((L.take i).filter (D1 nm)).length=M.length:=by rw [Zv0,List.take_length,hM]
  exact Uy
 ·have Qc:=Z9 ([]:List UInt8) Qd;have Zs3:=wJ (q:=D1 nm) Qd;have Zs4:=Zb9 (q:=D1 nm) Qd;obtain ⟨s,hs⟩:=exq (L.getD i []);rw [hs] at Qc Zs3 Zs4;cases Qg:(s==nm) with
  | true =>
   have hn:D1 nm s=false:=by unfold D1;rw [Qg];rfl
   rw [hn,if_neg (by simp),List.append_nil] at Zs3
   have Kq:KfA:=⟨⟩;exact Qw
  | false =>
   have hn:D1 nm s=true:=by unfold D1;rw [Qg];rfl
   rw [hn,if_pos rfl] at Zs3;obtain ⟨g1,g2⟩:=Zs4 hn;rw [hM] at g1 g2;have eS:((L.take (i+1)).filter (D1 nm)).length=((L.take i).filter (D1 nm)).length+1:=by rw [Zs3,Zj];rfl
   obtain ⟨k,Qh⟩:=exq (((L.take i).filter (D1 nm)).length);rw [Qh] at g1 g2 eS;have Qi:=Z9 ([]:List UInt8) g1;rw [g2] at Qi;have Qa:Ju (M.length:Int) (k:Int)=false:=by rw [Vu];omega
   have Z2:(s != s)=false:=bne_self_eq_false ..;have Kq:KfB:=⟨⟩;exact Qw):p:=h
theorem good_AstBound:Jc Tryz.prog (8,con_AstBound):=by
 obtain ⟨Kx,Kt,Kc,Kd,Kb,Ku,Kw,K,Y6,P7,aV,dF,oD,_⟩:=W5 Qj Z0 [] false (Xa good_Few5 Zz5 (Xa good_Right5 Zc6 (Xa good_alive05 xM (Xa good_FreeA Gj.eq_def (Xa good_RightE Uo.eq_def W4)))));have Ko:=con_AstBound.eq_def;refine Yv K Tryz.func8 [.tmp 4] rfl 80 rfl (fun c hc Jj Zo=>?_);unfold con_AstBound at Zo;obtain ⟨⟨t⟩,nm,rfl,⟨ha,hA⟩,lZ⟩:=Jd Zo;simp only at ha hA;clear Zo;cases Qu:cF t 100 with
 | false =>
  cases hc;refine Kn 5 ?_;exact Uy
 | true =>
 have ea:FewE t 100:=T5 Qu;have a2:=ea.fit6;have a4:=ea.len;cases Qz:Jg t with
 | false =>
  cases hc;refine Kn 5 ?_;exact Uy
 | true =>
 rcases Xy 100 nm.length with ⟨h0,Qs⟩|⟨h0,Qs⟩
 ·have hz:True:=trivial;cases hc;refine Kn 5 ?_;exact Uy
 have Zv5:=Zab (nm:=nm) (by omega)
 have Zyb:∀ p∈N0 nm::t,Zcq p:=fun p hp=>by
  rcases Zm.1 hp with rfl|hp
  ·exact ⟨Zv5.2.2.1,Zv5.2.2.2⟩
  ·exact a2 p hp
 have Zzz:iM (N0 nm::t):=fun p hp=>by
  rcases Zm.1 hp with rfl|hp
  ·exact Zv5
  ·exact ea.fits p hp
 have dR:∀ p∈N0 nm::t,p.name.length≤3000000:=fun p hp=>by
  rcases Zm.1 hp with rfl|hp
  ·show (0:Nat)≤_;omega
  ·have:=(Pm (ea.parts p hp)).name;omega
 have Zbh:∀ p∈t,p.name.length≤3000000:=fun p hp=>dR p (List.mem_cons_of_mem _ hp);have Q0:(.agg [.int .i64 2,.str [],.str [],.str nm,.int .i64 0,.int .i64 0,.list 3 [.agg [.int .i64 0,.str [],.int .i64 0]],.list 3 []]::t.map (enc:Part→D):List D)=(N0 nm::t).map enc:=rfl;have Zya:(N0 nm::t).length=1+t.length:=by rw [Zf];omega
 have Qe:=Mi (N0 nm::t);have Zx7:=xQ Qz nm;have Ja:=Tx Qz;have Jq:Jg (N0 nm::t)=true→Dh (N0 nm::t)=J5 (N0 nm::t):=Tx;have Zpn:=Gy Qz;have xL:Jg (N0 nm::t)=true→iI (N0 nm::t):=Gy;have oM:=N1 Zpn;obtain ⟨F,hF⟩:=exq (N0 nm::t);rw [hF] at Zyb Zzz dR Q0 Zya Qe Zx7 Jq xL;have Q5:(F.map (enc:Part→D)).length=1+t.length:=by rw [Qq,Zya]
 cases Q6:Jg F with
 | false =>
  cases hc;refine Kn 5 ?_;exact Uy
 | true =>
 rw [Q6] at Qe;have Jq:=Jq Q6;have xL:=xL Q6;rw [Zx7] at Jq;obtain ⟨L,hL⟩:=exq (J5 t);rw [hL] at Ja Jq oM;obtain ⟨M,hM⟩:=exq (L.filter (D1 nm));have Qag:M.length≤L.length:=by rw [←hM];exact List.length_filter_le ..
 rw [hM] at Jq;cases hc;refine Kn 5 ?_;have Kq:Kfz:=⟨⟩;exact Qw
theorem gP:∀ (x:Rose Part) (b:List (List UInt8)),∀ s∈freeT x b,∃ p∈nds x,p.kind=1∧p.name=s:=by
 intro x
 induction x using Rose.rec (motive_2:=fun xs=>∀ (p:Part) (k:Nat) (b:List (List UInt8)),∀ s∈freeTs p xs k b,∃ q∈ndss xs,q.kind=1∧q.name=s) with
 | mk p ks ih =>
  intro b s hs;rw [freeT] at hs;rw [Jt];split at hs
  ·next h =>
   rw [Qo] at hs;exact ⟨p,List.mem_cons_self ..,h.1,hs.symm⟩
  ·obtain ⟨q,h1,h2⟩:=ih p 0 b s hs;exact ⟨q,List.mem_cons_of_mem _ h1,h2⟩
 | nil =>
  rename_i p k b s hs;rw [freeTs] at hs;cases hs
 | cons x xs ih1 ih2 =>
  rename_i p k b s hs;rw [freeTs,List.mem_append] at hs;rw [ndss];rcases hs with hs|hs
  ·obtain ⟨q,h1,h2⟩:=ih1 _ s hs;exact ⟨q,List.mem_append_left _ h1,h2⟩
  ·obtain ⟨q,h1,h2⟩:=ih2 p (k+1) b s hs;exact ⟨q,List.mem_append_right _ h1,h2⟩
theorem Zn6 {l:List (List UInt8)} (h:kU l) {k:Nat} (h0:0<k) (hk:k<l.length):Op.bytesLess (l.getD (k-1) []) (l.getD k [])=true:=by
 unfold kU at h;rw [List.pairwise_iff_getElem] at h;have:=h (k-1) k (by omega) hk (by omega)
 simpa [hk,show k-1<l.length by omega] using this
structure FreeOf (t:List Part) (L:List (List UInt8)):Prop where
 lss:kU L
 named:∀ k,k<L.length→∃ j,j<t.length∧(t.getD j e0).kind=1∧(t.getD j e0).name=L.getD k []
 len:L.length≤10001
theorem vU {t:List Part} (h:Jg t=true):FreeOf t (J5 t):=by
 have hl:=N1 (Gy h);obtain ⟨x,rfl,hx⟩:=X6 h;have e2:M1 Wr (nds x) 0=x:=Wq (Wx hx.wf);obtain ⟨b1,b2⟩:=Ug (freeT x []);have hf:J5 (nds x)=C4 (freeT x []):=by unfold J5;rw [e2]
 rw [hf] at hl ⊢;refine ⟨b1,fun k hk=>?_,hl⟩;have hm:(C4 (freeT x [])).getD k []∈C4 (freeT x []):=by simp [hk]
 obtain ⟨p,h1,h2,h3⟩:=gP x [] _ ((b2 _).1 hm);obtain ⟨j,hj,rfl⟩:=List.getElem_of_mem h1;refine ⟨j,hj,?_,?_⟩
 ·rw [show (nds x).getD j e0=(nds x)[j] by simp [hj]];exact h2
 ·rw [show (nds x).getD j e0=(nds x)[j] by simp [hj]];exact h3
theorem Fu {p:Part}:∀ {xs:List (Rose Part)} {k:Nat} {b:List (List UInt8)},freeTs (Sr p) xs k b=freeTs p xs k b
 | [],_,_=>by rw [freeTs,freeTs]
 | x::xs,k,b=>by rw [freeTs,freeTs,Fu];rfl
theorem nK {p:Part} {ks:List (Rose Part)} {b:List (List UInt8)}:freeT (mk (Sr p) ks) b=freeT (mk p ks) b:=by
 rw [freeT,freeT,Fu];rfl
theorem bC {p:Part} {s:List UInt8} {b:List (List UInt8)}:∀ {xs:List (Rose Part)} {k j:Nat} (h:j<xs.length),s∈freeT xs[j] (Kz p (k+j) b)→s∈freeTs p xs k b
 | [],_,_,h,_=>by simp at h
 | x::xs,k,0,h,hs=>by rw [freeTs];exact List.mem_append_left _ hs
 | x::xs,k,j+1,h,hs=>by
  rw [freeTs];refine List.mem_append_right _ (bC (j:=j) (k:=k+1) (by simpa using h) ?_)
  rw [show k+1+j=k+(j+1) by omega]
  exact hs
theorem zS {p:Part} {k:Nat} {s:List UInt8} (h:Uc (Kz p k []) s=true):s=p.bind∨(p.kind=5∧s=p.name):=by
 unfold Kz at h;rw [Uk,Bool.or_eq_true] at h;rcases h with h|h
 ·split at h
  ·unfold Uc at h;simp at h;exact .inl h.symm
  ·cases h
 ·split at h
  ·next h5 =>
   unfold Uc at h;simp at h;exact .inr ⟨h5,h.symm⟩
  ·cases h
theorem zN {t:List Part} (hr:Jg t=true) {y z:Rose Part} (hy:InR5 t 0 y) {k:Nat} (hk:k<y.kids.length) (hz:y.kids[k]=z) (h8:z.root.kind≠8) :
  ∀ s∈J5 (Hm (nds z)),s∈J5 t∨s=(t.getD 0 e0).bind∨((t.getD 0 e0).kind=5∧s=(t.getD 0 e0).name):=by
 intro s hs;have Cz:=hy.at_.root e0;rw [Cz];obtain ⟨x,Zcs,hx⟩:=X6 hr;have Zsk:x=y:=by
  have:=Wx hx.wf;rw [←Zcs] at this;exact this.inj hy.at_
 subst Zsk;have hw:=hx.wf;obtain ⟨p,ks⟩:=x;have Zuw:wf Wr z:=by
  rw [←hz];exact rP hw.2 _ (List.getElem_mem _)
 obtain ⟨q,ls⟩:=z;have Zuv:wf Wr (mk (Sr q) ls):=⟨Zuw.1,Zuw.2⟩;have e:Hm (nds (mk q ls))=nds (mk (Sr q) ls):=by rw [Jt,Jt];rfl
 rw [e] at hs;have e1:J5 (nds (mk (Sr q) ls))=C4 (freeT (mk q ls) []):=by
  unfold J5;rw [Wq (Wx Zuv),nK]
 rw [e1,(Ug _).2] at hs;have e2:J5 t=C4 (freeT (mk p ks) []):=by
  unfold J5;rw [Wq hy.at_]
 rw [e2,(Ug _).2];have iO:¬ p.kind=1:=by
  intro h1;have:ks.length=0:=hw.1.trans (by
   unfold Wr Jk;rw [if_neg (by omega),if_neg (by omega),if_neg (by omega),if_neg (by omega),if_neg (by omega)]
   rfl)
  simp only [kids] at hk;omega
 cases hd:Uc (Kz p k []) s with
 | true=>exact .inr (zS hd)
 | false =>
  left;rw [freeT,if_neg (fun h=>iO h.1)];have eT:k<ks.length:=hk;have Zps:ks[k]=mk q ls:=hz;refine bC (j:=k) eT ?_;rw [Nat.zero_add,Zps];exact (sR (mk q ls) [] (Kz p k []) (Kz p k []) Zuw (fun s=>by rw [show Uc ([]:List (List UInt8)) s=false from rfl,Bool.false_or]) s).2 ⟨hs,hd⟩
def Ztm (s:List UInt8) (p:Part):Bool:=(p.kind==1)&&(p.name==s)
def oW (t:List Part) (s:List UInt8) (j:Nat):Bool:=(t.take j).any (Ztm s)
theorem xC {t:List Part} {s:List UInt8} {j:Nat} (h:j<t.length):oW t s (j+1)=(oW t s j||Ztm s (t.getD j e0)):=by
 unfold oW;rw [List.take_succ_eq_append_getElem h,List.any_append,List.any_cons,List.any_nil,Bool.or_false,show t.getD j e0=t[j] by simp [h]]
theorem xB {t:List Part} {s:List UInt8} {j:Nat} (hj:j<t.length) (h1:(t.getD j e0).kind=1) (h2:(t.getD j e0).name=s):oW t s t.length=true:=by
 unfold oW;rw [List.take_length,List.any_eq_true];refine ⟨t.getD j e0,by simp [hj],?_⟩
 unfold Ztm;rw [h1,h2];simp
def Kr (L:List (List UInt8)) (s:List UInt8) (n:Nat):Bool:=(L.take n).any fun u=>u==s
theorem P3 {L:List (List UInt8)} {s:List UInt8} {n:Nat} (h:n<L.length):Kr L s (n+1)=(Kr L s n||L.getD n []==s):=by
 unfold Kr;rw [List.take_succ_eq_append_getElem h,List.any_append,List.any_cons,List.any_nil,Bool.or_false,show L.getD n []=L[n] by simp [h]]
theorem xD {L:List (List UInt8)} {s:List UInt8} (h:s∈L):Kr L s L.length=true:=by
 unfold Kr;rw [List.take_length,List.any_eq_true];exact ⟨s,h,by simp⟩
def con_AstFree:Con:=Xd (fun (t:Sl Part)=>rI t.l) (fun _=>true)
class KfE:Prop
theorem KfE.k (_:KfE) (h:p:=by
 repeat' first|exact Lz|with_reducible apply Z3|intro _
 all_goals first|exact ⟨j+1,by (have En:=N8;exact J0),by omega,by omega⟩|with_reducible exact Zre|(rw [Qn];omega)|omega|skip):p:=h
class KfF:Prop
theorem KfF.k (_:KfF) (h:p:=by
 repeat' first|exact Lz|with_reducible apply Z3|intro _
 all_goals first|exact ⟨j+1,by (have En:=N8;exact J0),by omega,by omega⟩|with_reducible exact Zre|(rw [Qn];omega)|omega|skip):p:=h
class KfG:Prop
theorem KfG.k (_:KfG) (h:p:=by
 repeat' first|exact Lz|with_reducible apply Z3|intro _
 all_goals first|exact ⟨j+1,by (have En:=N8;exact J0),by omega,by omega⟩|with_reducible exact Zre|(rw [Qn];omega)|omega|skip):p:=h
class KfH:Prop
theorem KfH.k (_:KfH) (h:p:=by
 repeat' first|exact Lz|with_reducible apply Z3|intro _
 all_goals first|exact ⟨k+1,by exact J0,by omega,by omega⟩|with_reducible exact Zre|(rw [Qn];omega)|omega|skip):p:=h
class KfI:Prop
theorem KfI.k (_:KfI) (h:p:=by
 repeat' first|exact Lz|with_reducible apply Z3|intro _
 all_goals first|exact ⟨k1+1+1,by exact J0,by omega,by omega⟩|with_reducible exact Zre|(rw [Qn];omega)|omega|skip):p:=h
class KfD:Prop
theorem KfD.k (_:KfD) (h:p:=by
 repeat' first|exact Lz|with_reducible apply Z3|intro _
 refine Z1 [32,33,34,35,36,37,38,39,40,41,42,43,44,45,46,47,48,49,50,51,52,53,54,55,56,57,58] (fun j:Nat=>[(5,.d (.bool (oW t s j))),(6,.d (.int .i64 j))]) (fun j:Nat=>[]) (fun j:Nat=>j≤t.length) (fun j:Nat=>t.length-j) 0 ?_ ?_ ?_
 ·omega
 ·refine Zbk ?_;all_goals rfl
 rintro j hj;rcases Z5 j t.length with ⟨El,Q6⟩|⟨El,Q6⟩
 ·have Ja:=Z9 e0 El;have N8:=xC (s:=s) El;obtain ⟨p,hp⟩:=exq (t.getD j e0);rw [hp] at Ja N8;cases Q5:oW t s j with
  | true =>
   rw [Q5,Bool.true_or] at N8;have Kq:KfE:=⟨⟩;exact uC
  | false =>
   rw [Q5,Bool.false_or] at N8;unfold Ztm at N8;cases Jq:(p.kind==1) with
   | false =>
    rw [Jq,Bool.false_and] at N8;have Kq:KfF:=⟨⟩;exact uC
   | true =>
    rw [Jq,Bool.true_and] at N8;obtain ⟨b,Je⟩:=exq ((p.name==s));rw [Je] at N8;have Kq:KfG:=⟨⟩;exact uC
 ·have Zzb:j=t.length:=by omega
  have Q5:oW t s j=true:=by rw [Zzb];exact Zwb
  by_cases Lf:k=0
  ·have Qe:Jw 0 (k:Int)=false:=by rw [Jl];omega
   have Kq:KfH:=⟨⟩;exact uC
  ·have Qe:Jw 0 (k:Int)=true:=by rw [Xs];omega
   have Qc:=Z9 ([]:List UInt8) (show k-1<L.length by omega)
   have Qi:=K3 (by omega)
   clear K3;obtain ⟨r,hr⟩:=exq (L.getD (k-1) []);rw [hr] at Qc Qi;obtain ⟨k1,rfl⟩:∃ k1,k=k1+1:=⟨k-1,by omega⟩
   rw [Nat.add_sub_cancel] at Qc;have Qg:((k1+1:Nat):Int)-1=(k1:Int):=by omega
   have Kq:KfI:=⟨⟩;exact uC):p:=h
class KfK:Prop
theorem KfK.k (_:KfK) (h:p:=by
 repeat' first|exact Lz|with_reducible apply Z3|intro _
 all_goals first|contradiction|exact ht|exact Hg _|exact Hg _ (by omega) (by omega)|with_reducible exact Zre|(rw [Qn];omega)|omega|exact ⟨g+1,by exact J0,by omega,by omega⟩|skip):p:=h
class KfM:Prop
theorem KfM.k (_:KfM) (h:p:=by
 repeat' first|exact Lz|with_reducible apply Z3|intro _
 all_goals first|contradiction|exact ht|exact Hg _|exact Hg _ (by omega) (by omega)|with_reducible exact Zre|(rw [Qn];omega)|omega|exact ⟨g+1,by exact J0,by omega,by omega⟩|skip):p:=h
class KfO:Prop
theorem KfO.k (_:KfO) (h:p:=by
 repeat' first|exact Lz|with_reducible apply Z3|intro _
 all_goals first|contradiction|exact ht|exact Hg _|exact Hg _ (by omega) (by omega)|with_reducible exact Zre|(rw [Qn];omega)|omega|exact ⟨n+1,by (have En:=N8;exact J0),by omega,by omega⟩|skip):p:=h
class KfP:Prop
theorem KfP.k (_:KfP) (h:p:=by
 repeat' first|exact Lz|with_reducible apply Z3|intro _
 all_goals first|contradiction|exact ht|exact Hg _|exact Hg _ (by omega) (by omega)|with_reducible exact Zre|(rw [Qn];omega)|omega|exact ⟨n+1,by (have En:=N8;exact J0),by omega,by omega⟩|skip):p:=h
class KfQ:Prop
theorem KfQ.k (_:KfQ) (h:p:=by
 repeat' first|exact Lz|with_reducible apply Z3|intro _
 all_goals first|contradiction|exact ht|exact Hg _|exact Hg _ (by omega) (by omega)|with_reducible exact Zre|(rw [Qn];omega)|omega|exact ⟨j+1,by exact J0,by omega,by omega⟩|skip):p:=h
class KfR:Prop
theorem KfR.k (_:KfR) (h:p:=by
 repeat' first|exact Lz|with_reducible apply Z3|intro _
 all_goals first|contradiction|exact ht|exact Hg _|exact Hg _ (by omega) (by omega)|with_reducible exact Zre|(rw [Qn];omega)|omega|exact ⟨j+1,by exact J0,by omega,by omega⟩|skip):p:=h
class KfN:Prop
theorem KfN.k (_:KfN) (h:p:=by
 repeat' first|exact Lz|with_reducible apply Z3|intro _
 all_goals first|with_reducible exact Zre|omega|skip
 have Za2:Kr L s L.length=true∨true=true:=.inr rfl;refine Z1 [155,156,157,158,159,160,161,162,163,164,165,166,167,168,169,170,171,172] (fun n:Nat=>[(13,.d (.bool (Kr L s n))),(14,.d (.int .i64 n))]) (fun n:Nat=>[]) (fun n:Nat=>n≤L.length) (fun n:Nat=>L.length-n) 0 ?_ ?_ ?_
 ·omega
 ·refine Zbk ?_;all_goals rfl
 rintro n hn;rcases Z5 n L.length with ⟨Rt,N3⟩|⟨Rt,N3⟩
 ·have P0:=Z9 ([]:List UInt8) Rt;have N8:=P3 (s:=s) Rt;obtain ⟨u,hu⟩:=exq (L.getD n []);rw [hu] at P0 N8;cases Q5:Kr L s n with
  | true =>
   rw [Q5,Bool.true_or] at N8;have Kq:KfO:=⟨⟩;exact uC
  | false =>
   rw [Q5,Bool.false_or] at N8;obtain ⟨b2,Pz⟩:=exq ((u==s));rw [Pz] at N8;have Kq:KfP:=⟨⟩;exact uC
 ·have Gk:n=L.length:=by omega
  rw [←Gk] at Za2;cases Q5:Kr L s n with
  | true =>
   have Kq:KfQ:=⟨⟩;exact uC
  | false =>
   rw [Q5] at Za2;have Py:true=true:=Za2.elim (fun h=>by cases h) id
   have Kq:KfR:=⟨⟩;exact uC):p:=h
class KfT:Prop
theorem KfT.k (_:KfT) (h:p:=by
 repeat' first|exact Lz|with_reducible apply Z3|intro _
 all_goals first|contradiction|exact ht|exact Hg _|exact Hg _ (by omega) (by omega)|with_reducible exact Zre|(rw [Qn];omega)|omega|exact ⟨n+1,by (have En:=N8;exact J0),by omega,by omega⟩|skip):p:=h
class KfU:Prop
theorem KfU.k (_:KfU) (h:p:=by
 repeat' first|exact Lz|with_reducible apply Z3|intro _
 all_goals first|contradiction|exact ht|exact Hg _|exact Hg _ (by omega) (by omega)|with_reducible exact Zre|(rw [Qn];omega)|omega|exact ⟨n+1,by (have En:=N8;exact J0),by omega,by omega⟩|skip):p:=h
class KfV:Prop
theorem KfV.k (_:KfV) (h:p:=by
 repeat' first|exact Lz|with_reducible apply Z3|intro _
 all_goals first|contradiction|exact ht|exact Hg _|exact Hg _ (by omega) (by omega)|with_reducible exact Zre|(rw [Qn];omega)|omega|exact ⟨j+1,by exact J0,by omega,by omega⟩|skip):p:=h
class KfS:Prop
theorem KfS.k (_:KfS) (h:p:=by
 repeat' first|exact Lz|with_reducible apply Z3|intro _
 all_goals first|with_reducible exact Zre|omega|skip
 have Za2:Kr L s L.length=true∨false=true:=Zs1.imp id fun h=>by rw [h.1] at Lv;cases Lv
 refine Z1 [155,156,157,158,159,160,161,162,163,164,165,166,167,168,169,170,171,172] (fun n:Nat=>[(13,.d (.bool (Kr L s n))),(14,.d (.int .i64 n))]) (fun n:Nat=>[]) (fun n:Nat=>n≤L.length) (fun n:Nat=>L.length-n) 0 ?_ ?_ ?_
 ·omega
 ·refine Zbk ?_;all_goals rfl
 rintro n hn;rcases Z5 n L.length with ⟨Rt,N3⟩|⟨Rt,N3⟩
 ·have P0:=Z9 ([]:List UInt8) Rt;have N8:=P3 (s:=s) Rt;obtain ⟨u,hu⟩:=exq (L.getD n []);rw [hu] at P0 N8;cases Q5:Kr L s n with
  | true =>
   rw [Q5,Bool.true_or] at N8;have Kq:KfT:=⟨⟩;exact uC
  | false =>
   rw [Q5,Bool.false_or] at N8;obtain ⟨b2,Pz⟩:=exq ((u==s));rw [Pz] at N8;have Kq:KfU:=⟨⟩;exact uC
 ·have Gk:n=L.length:=by omega
  rw [←Gk] at Za2;cases Q5:Kr L s n with
  | true =>
   have Kq:KfV:=⟨⟩;exact uC
  | false =>
   rw [Q5] at Za2;have Py:false=true:=Za2.elim (fun h=>by cases h) id
   cases Py):p:=h
class KfX:Prop
theorem KfX.k (_:KfX) (h:p:=by
 repeat' first|exact Lz|with_reducible apply Z3|intro _
 all_goals first|contradiction|exact ht|exact Hg _|exact Hg _ (by omega) (by omega)|with_reducible exact Zre|(rw [Qn];omega)|omega|exact ⟨n+1,by (have En:=N8;exact J0),by omega,by omega⟩|skip):p:=h
class KfY:Prop
theorem KfY.k (_:KfY) (h:p:=by
 repeat' first|exact Lz|with_reducible apply Z3|intro _
 all_goals first|contradiction|exact ht|exact Hg _|exact Hg _ (by omega) (by omega)|with_reducible exact Zre|(rw [Qn];omega)|omega|exact ⟨n+1,by (have En:=N8;exact J0),by omega,by omega⟩|skip):p:=h
class KfZ:Prop
theorem KfZ.k (_:KfZ) (h:p:=by
 repeat' first|exact Lz|with_reducible apply Z3|intro _
 all_goals first|contradiction|exact ht|exact Hg _|exact Hg _ (by omega) (by omega)|with_reducible exact Zre|(rw [Qn];omega)|omega|exact ⟨j+1,by exact J0,by omega,by omega⟩|skip):p:=h
class Kga:Prop
theorem Kga.k (_:Kga) (h:p:=by
 repeat' first|exact Lz|with_reducible apply Z3|intro _
 all_goals first|contradiction|exact ht|exact Hg _|exact Hg _ (by omega) (by omega)|with_reducible exact Zre|(rw [Qn];omega)|omega|exact ⟨j+1,by exact J0,by omega,by omega⟩|skip):p:=h
class KfW:Prop
theorem KfW.k (_:KfW) (h:p:=by
 repeat' first|exact Lz|with_reducible apply Z3|intro _
 all_goals first|with_reducible exact Zre|omega|skip
 have Za2:Kr L s L.length=true∨b=true:=Zs1.imp id fun h=>by rw [←Je,h.2,beq_self_eq_true]
 refine Z1 [155,156,157,158,159,160,161,162,163,164,165,166,167,168,169,170,171,172] (fun n:Nat=>[(13,.d (.bool (Kr L s n))),(14,.d (.int .i64 n))]) (fun n:Nat=>[]) (fun n:Nat=>n≤L.length) (fun n:Nat=>L.length-n) 0 ?_ ?_ ?_
 ·omega
 ·refine Zbk ?_;all_goals rfl
 rintro n hn;rcases Z5 n L.length with ⟨Rt,N3⟩|⟨Rt,N3⟩
 ·have P0:=Z9 ([]:List UInt8) Rt;have N8:=P3 (s:=s) Rt;obtain ⟨u,hu⟩:=exq (L.getD n []);rw [hu] at P0 N8;cases Q5:Kr L s n with
  | true =>
   rw [Q5,Bool.true_or] at N8;have Kq:KfX:=⟨⟩;exact uC
  | false =>
   rw [Q5,Bool.false_or] at N8;obtain ⟨b2,Pz⟩:=exq ((u==s));rw [Pz] at N8;have Kq:KfY:=⟨⟩;exact uC
 ·have Gk:n=L.length:=by omega
  rw [←Gk] at Za2;cases Q5:Kr L s n with
  | true =>
   have Kq:KfZ:=⟨⟩;exact uC
  | false =>
   rw [Q5] at Za2;have Py:b=true:=Za2.elim (fun h=>by cases h) id
   have Kq:Kga:=⟨⟩;exact uC):p:=h
class KfL:Prop
theorem KfL.k (_:KfL) (h:p:=by
 repeat' first|exact Lz|with_reducible apply Z3|intro _
 all_goals first|exact ht|exact Hg _|exact Hg _ (by omega) (by omega)|exact xL|exact Zst|with_reducible exact Zre|(rw [Qn];omega)|omega|skip
 refine Z1 [2,12,13,14,122,123,124,125,126,127,128,129,130,131,132,133,134,135,136,137,138,139,140,141,142,143,144,145,146,147,148,149,150,151,152,153,154,155,156,157,158,159,160,161,162,163,164,165,166,167,168,169,170,171,172,173,174,175,176,177,178] (fun j:Nat=>[(11,.d (.int .i64 j))]) (fun j:Nat=>[]) (fun j:Nat=>j≤M.length) (fun j:Nat=>M.length-j) 0 ?_ ?_ ?_
 ·omega
 ·exact J0
 rintro j hj;rcases Z5 j M.length with ⟨El,Q6⟩|⟨El,Q6⟩
 rotate_left
 ·have Kq:KfM:=⟨⟩;exact uC
 have N4:=Z9 ([]:List UInt8) El;have Em:=Zni (M.getD j []) (by simp [El])
 obtain ⟨s,hs⟩:=exq (M.getD j []);rw [hs] at N4 Em;have Zvz:Kr L s L.length=true∨s=P.bind∨(P.kind=5∧s=P.name):=Em.imp xD id;clear Em Zni;cases P1:(s==P.bind) with
 | true =>
  have Kq:KfN:=⟨⟩;exact uC
 | false =>
  have Zs1:Kr L s L.length=true∨(P.kind=5∧s=P.name):=Zvz.imp id fun h=>h.elim (fun e=>by rw [e,beq_self_eq_true] at P1;cases P1) id
  cases Lv:(P.kind==5) with
  | false =>
   have Kq:KfS:=⟨⟩;exact uC
  | true =>
   obtain ⟨b,Je⟩:=exq ((s==P.name));have Kq:KfW:=⟨⟩;exact uC):p:=h
class KfJ:Prop
theorem KfJ.k (_:KfJ) (h:p:=by
 repeat' first|exact Lz|with_reducible apply Z3|intro _
 all_goals first|exact ht|exact Hg _|exact Hg _ (by omega) (by omega)|with_reducible exact Zre|omega|skip
 refine Z1 [2,9,10,11,12,13,14,79,80,81,82,83,84,85,86,87,88,89,90,91,92,93,94,95,96,97,98,99,100,101,102,103,104,105,106,107,108,109,110,111,112,113,114,115,116,117,118,119,120,121,122,123,124,125,126,127,128,129,130,131,132,133,134,135,136,137,138,139,140,141,142,143,144,145,146,147,148,149,150,151,152,153,154,155,156,157,158,159,160,161,162,163,164,165,166,167,168,169,170,171,172,173,174,175,176,177,178] (fun g:Nat=>[(8,.d (.int .i64 g))]) (fun g:Nat=>[]) (fun g:Nat=>g≤ks.length) (fun g:Nat=>ks.length-g) 0 ?_ ?_ ?_
 ·omega
 ·exact J0
 rintro g hg;rcases Z5 g ks.length with ⟨Zpa,Z2⟩|⟨Zpa,Z2⟩
 rotate_left
 ·exact fK
 ·obtain ⟨z,hz,Zni⟩:=Zo5 g Zpa;have Q9:=Z9 (0:Int) (show g<l.length by omega)
  rw [Zvr g Zpa] at Q9;obtain ⟨q,hq⟩:=exq (0+1+(ndss (ks.take g)).length);rw [hq] at hz Q9;have Z7:=Bt hz.at_;have Zaw:=hz.at_.le;have Zsi:=Bi z;have Zpg:=drop_take hz.at_;obtain ⟨N,hN⟩:=exq (nds z);rw [hN] at Z7 Zaw Zsi Zpg Zni;obtain ⟨m,Q3⟩:=exq (N.length);rw [Q3] at Z7 Zaw Zsi Zpg;have Zp1:N=z.root::ndss z.kids:=by rw [←hN,Tp]
  have Ld:=Ix hz;rw [hN] at Ld;have Qk:E3 ((q+m:Nat):Int) (q:Int)=((q+m:Nat):Int):=by unfold E3;split<;>omega
  have Qm:Zbv ((q+m:Nat):Int) (t.length:Int)=((q+m:Nat):Int):=by unfold Zbv;split<;>omega
  have Qr:List.drop q (List.take (q+m) (t.map (enc:Part→D)))=N.map enc:=by
   rw [←Zpg,List.map_take,List.map_drop,List.drop_take,Nat.add_sub_cancel_left]
  have Q1:(N.map (enc:Part→D)).length=m:=by rw [Qq,Q3]
  have Q4:=Z9 e0 (show 0<N.length by omega)
  have Zvb:N.getD 0 e0=z.root:=by rw [Zp1];rfl
  have Aw:(N.map (enc:Part→D)).set 0 (enc (Sr z.root))=(Hm N).map enc:=by rw [Zp1];rfl
  have Ly:(Hm N).length=m:=by rw [←Q3,Zp1];rfl
  have S8:((Hm N).map (enc:Part→D)).length=m:=by rw [Qq,Ly]
  have Zst:∀ p∈Hm N,p.name.length≤3000000:=by
   rw [Zp1];have Me:∀ n∈N,n∈t:=fun n hn=>hz.at_.mem n (by rw [hN];exact hn)
   intro n hn;rcases Zm.1 hn with rfl|hn
   ·exact Zbh z.root (Me _ (by rw [Zp1];exact List.mem_cons_self ..))
   ·exact Zbh n (Me _ (by rw [Zp1];exact List.mem_cons_of_mem _ hn))
  rw [Zvb] at Q4;have xL:Jg (Hm N)=true→iI (Hm N):=Gy;have Lx:Jg (Hm N)=true→Dh (Hm N)=J5 (Hm N):=Tx;have Zt4:Jg (Hm N)=true→(J5 (Hm N)).length≤10001:=fun h=>N1 (Gy h);obtain ⟨p,hp⟩:=exq (z.root);rw [hp] at Q4 Aw Ld Zni;obtain ⟨C,hC⟩:=exq (Hm N);rw [hC] at Aw Ly S8 Zst xL Lx Zt4 Ld Zni;obtain ⟨pk,pl,pn,pb,pm,pq,pt,pu⟩:=p;have Cy:(N.map (enc:Part→D)).set 0 (.agg [.int .i64 pk,.str [],.str pn,.str pb,.int .i64 pm,.int .i64 pq,.list 3 (pt.map enc),.list 3 (pu.map enc)])=C.map enc:=Aw;have Qx:((m:Int)==0)=false:=by rw [Za];omega
  by_cases Znn:pk=8
  ·subst Znn;have Jf:((8:Int)==8)=true:=rfl;have S7:=@List.getD_cons_zero.{0};have Kq:KfK:=⟨⟩;exact uC
  ·have Jf:(pk==8)=false:=by rw [Za];exact Znn
   have Zwg:=Ld Znn;have xL:=xL Zwg;have Lx:=Lx Zwg;have Zt4:=Zt4 Zwg;have Zni:=Zni Znn;obtain ⟨M,hM⟩:=exq (J5 C);rw [hM] at Lx Zt4 Zni;have S7:=@List.getD_cons_zero.{0};have Kq:KfL:=⟨⟩;exact uC):p:=h
class KfC:Prop
theorem KfC.k (_:KfC) (h:p:=by
 repeat' first|exact Lz|with_reducible apply Z3|intro _
 all_goals first|exact hA|exact a2|exact Zpn|exact Zbh|with_reducible exact Zre|omega|skip
 refine Z1 [2,5,6,26,27,28,29,30,31,32,33,34,35,36,37,38,39,40,41,42,43,44,45,46,47,48,49,50,51,52,53,54,55,56,57,58,59,60,61,62,63,64,65,66,67,68,69,70,71,72,73,74,75,76] (fun k:Nat=>[(4,.d (.int .i64 k))]) (fun k:Nat=>[]) (fun k:Nat=>k≤L.length) (fun k:Nat=>L.length-k) 0 ?_ ?_ ?_
 ·omega
 ·exact J0
 rintro k hk;rcases Z5 k L.length with ⟨Qd,Q0⟩|⟨Qd,Q0⟩
 ·have Q9:=Z9 ([]:List UInt8) Qd;obtain ⟨j0,Zo7,Az,uX⟩:=Zvm k Qd;have K3:0<k→Op.bytesLess (L.getD (k-1) []) (L.getD k [])=true:=fun h=>Zn6 Zvq h Qd;obtain ⟨s,hs⟩:=exq (L.getD k []);rw [hs] at Q9 uX K3;have Zwb:=xB Zo7 Az uX;have Kq:KfD:=⟨⟩;exact uC
 obtain ⟨y,hy⟩:=O8 Qz (show 0<t.length by
  unfold Jg Ji at Qz;rcases Nat.eq_zero_or_pos t.length with h0|h0
  ·rw [h0] at Qz;simp at Qz
  ·exact h0)
 have Qh:Ve t 0=W7 (0+1) y.kids:=Ff hy.at_;have Pk:=hy.at_.kids.1;have Zxj:=hy.at_.le;have Zpv:=hy.at_.lt;have C0:=Tp y;have Lw:=Z9 e0 Zpv;have Zt1:=fun k hk z hz Jf=>zN Qz hy (k:=k) (z:=z) hk hz Jf;obtain ⟨P,hP⟩:=exq (t.getD 0 e0);rw [hP] at Lw Zt1;rw [hL] at Zt1;obtain ⟨ks,Lf⟩:=exq (y.kids);have Zo5:∀ k (h:k<ks.length),∃ z,InR5 t (0+1+(ndss (ks.take k)).length) z∧(z.root.kind≠8→∀ s∈J5 (Hm (nds z)),s∈L∨s=P.bind∨(P.kind=5∧s=P.name)):=fun k hk=>by
  subst Lf;obtain ⟨z,hz,e⟩:=hy.kid Qz hk;exact ⟨z,hz,Zt1 k hk z e⟩
 rw [Lf] at Qh Pk C0;have Zpy:(nds y).length=1+(ndss ks).length:=by rw [C0,Zf];omega
 have Zvt:=Tq (xs:=ks);obtain ⟨l,hl⟩:=exq (W7 (0+1) ks);have Qa:l.length=ks.length:=by rw [←hl,G5]
 have Zvr:∀ k,k<ks.length→l.getD k 0=((0+1+(ndss (ks.take k)).length:Nat):Int):=fun k hk=>by rw [←hl];exact Nx hk
 rw [hl] at Qh;clear hl C0 Zt1;have hz:True:=trivial;have Kq:KfJ:=⟨⟩;exact uC):p:=h
theorem good_AstFree:Jc Tryz.prog (6,con_AstFree):=by
 obtain ⟨Kx,Kt,Kc,Kd,Kb,Ku,Kw,K,Y6,P7,aV,dF,oD,tN,_⟩:=W5 Qj Z0 [] false (Xa good_Few5 Zz5 (Xa good_Right5 Zc6 (Xa good_alive05 xM (Xa good_FreeA Gj.eq_def (Xa good_KidsA Nb.eq_def (Xa good_EndA Zz6 W4))))));have Ko:=con_AstFree.eq_def;refine Yv K Tryz.func6 [.tmp 2] rfl 180 rfl (fun c hc Jj Zo=>?_);unfold con_AstFree at Zo;obtain ⟨⟨t⟩,rfl,ha,hA⟩:=Qp Zo;simp only at ha hA;clear Zo;cases Qu:cF t 120 with
 | false =>
  cases hc;refine Kn 11 ?_;exact Uy
 | true =>
 have ea:FewE t 120:=T5 Qu;have a2:=ea.fit6;have a4:=ea.len;cases Qz:Jg t with
 | false =>
  cases hc;refine Kn 11 ?_;exact Uy
 | true =>
 have Zbh:∀ p∈t,p.name.length≤3000000:=fun p hp=>by
  have:=(Pm (ea.parts p hp)).name;omega
 have ht:=Gl Qz;have Hg:=Hj Qz;have Zpn:=Gy Qz;have Qs:=Tx Qz;have Zx2:=vU Qz;obtain ⟨L,hL⟩:=exq (J5 t);rw [hL] at Qs Zx2;obtain ⟨Zvq,Zvm,oM⟩:=Zx2;cases hc;refine Kn 11 ?_;have Kq:KfC:=⟨⟩;exact uC
end Go.Am.Ty
