/- Contracts of functions that the law reaches, and plain laws. Conditions: those that each contract states. -/
import Derived.Test.YtilpfkjhahnfaaaGreatF11
set_option maxHeartbeats 8000000
set_option linter.unusedVariables false
set_option linter.unusedSimpArgs false
variable {p:Prop}
set_option maxRecDepth 100000
namespace Go.Am.Ty.Gr
open Go.Proofs
open Enc (enc dec)
theorem T6 {α:Type} [DecidableEq α]:∀ {a b:List α},a.Nodup→(∀ x∈a,x∈b)→a.length≤b.length
 | [],_,_,_=>Nat.zero_le _
 | x::a,b,hn,h=>by
  rw [List.nodup_cons] at hn;have hx:=h x (List.mem_cons_self ..);have:=T6 (a:=a) (b:=b.erase x) hn.2 (fun y hy=>by
   have hne:y≠x:=fun e=>hn.1 (e▸hy);exact (List.mem_erase_of_ne hne).2 (h y (List.mem_cons_of_mem _ hy)))
  rw [List.length_erase_of_mem hx] at this;have hp:0<b.length:=List.length_pos_of_mem hx;rw [Zj];omega
def E6 (S:List Int):List Bool:=S.map fun _=>true
theorem Cy {x:Int}:∀ {S:List Int},K5 x false S (E6 S)=Xn x S
 | []=>rfl
 | y::S=>by
  show cond (x==y) true (K5 x false S (E6 S))=((x==y)||Xn x S);rw [Cy];cases x==y<;>rfl
theorem nV {x:Int}:∀ {S:List Int},Xn x S=false→Hi x true S (E6 S)=E6 (S++[x])
 | [],_=>rfl
 | y::S,h=>by
  simp only [Xn,Bool.or_eq_false_iff] at h;show cond (x==y) (true::E6 S) (true::Hi x true S (E6 S))=true::E6 (S++[x]);rw [h.1,nV h.2];rfl
theorem Zu1 {x:Int} {S:List Int} (h:Xn x S=false):Vd x S=S++[x]:=by
 unfold Vd;rw [h];rfl
def Cj (m:MSI) (tr:Nat→List Int→List Int) (s:List UInt8) (S:List Int):List Int :=
 cond (Xn s m.ks) (cond (Xn (K5 s 0 m.ks m.vs) S) S (tr (K5 s 0 m.ks m.vs).toNat (S++[K5 s 0 m.ks m.vs]))) S
def eP (m:MSI) (tr:Nat→List Int→List Int):List (List UInt8)→List Int→List Int
 | [],S=>S
 | s::ss,S=>eP m tr ss (Cj m tr s S)
def bD (l:List Xd) (m:MSI):Nat→Nat→List Int→List Int
 | 0,_,S=>S
 | n+1,i,S=>eP m (bD l m n) (imp l i) S
def Ztq (N:Nat) (S:List Int):Prop:=S.Nodup∧∀ x∈S,0≤x∧x<N
def fJ (l:List Xd) (m:MSI):Prop:=∀ s,Xn s m.ks=true→0≤K5 s 0 m.ks m.vs∧K5 s 0 m.ks m.vs<l.length
theorem Zqo {N:Nat} {S:List Int} (h:Ztq N S):S.length≤N:=by
 have:=T6 (b:=(List.range N).map fun (k:Nat)=>Int.ofNat k) h.1 (fun x hx=>by
  obtain ⟨h1,h2⟩:=h.2 x hx;rw [List.mem_map];exact ⟨x.toNat,List.mem_range.2 (by omega),by show ((x.toNat:Nat):Int)=x;omega⟩)
 simpa using this
theorem Zdw {N:Nat} {S:List Int} {x:Int} (h:Ztq N S) (h0:0≤x) (h1:x<N) (hx:Xn x S=false):Ztq N (S++[x]):=by
 refine ⟨List.nodup_append.2 ⟨h.1,by simp,fun a ha b hb e=>?_⟩,fun y hy=>?_⟩
 ·rw [Zp] at hb;subst hb;subst e;exact Zjq.1 hx ha
 ·rcases List.mem_append.1 hy with hy|hy
  ·exact h.2 y hy
  ·rw [Zp] at hy;subst hy;exact ⟨h0,h1⟩
theorem Zjv {l:List Xd} {m:MSI} (hP:fJ l m):∀ (n i:Nat) {S:List Int},Ztq l.length S→Ztq l.length (bD l m n i S)∧S.length≤(bD l m n i S).length
 | 0,_,_,h=>⟨h,Zl _⟩
 | n+1,i,S,h=>by
  have go:∀ (ss:List (List UInt8)) {S:List Int},Ztq l.length S→Ztq l.length (eP m (bD l m n) ss S)∧S.length≤(eP m (bD l m n) ss S).length:=by
   intro ss
   induction ss with
   | nil=>intro S h;exact ⟨h,Zl _⟩
   | cons s ss ih =>
    intro S h;have h1:Ztq l.length (Cj m (bD l m n) s S)∧S.length≤(Cj m (bD l m n) s S).length:=by
     unfold Cj;cases hh:Xn s m.ks with
     | false=>exact ⟨h,Zl _⟩
     | true =>
      rw [cond_true];cases hs:Xn (K5 s 0 m.ks m.vs) S with
      | true=>exact ⟨h,Zl _⟩
      | false =>
       rw [cond_false];obtain ⟨p1,p2⟩:=hP s hh;have:=Zjv hP n (K5 s 0 m.ks m.vs).toNat (Zdw h p1 p2 hs);refine ⟨this.1,?_⟩;have h3:=this.2;rw [Zh] at h3;omega
    obtain ⟨a1,a2⟩:=ih h1.1;exact ⟨a1,Nat.le_trans h1.2 a2⟩
  exact go _ h
structure LX where
 l:List Xd
 m:MSI
 i:Nat
 S:List Int
def Bi (l:List Xd) (m:MSI) (S:List Int):List Obj:=[.box false [.d (.list 4 (l.map enc))],.box false [.d (.map (m.ks.map enc) (m.vs.map enc))],.box false [.mpr 90004],.box false [.clo 154 [.ref 90000 0,.ref 90001 0,.ref 90002 0,.ref 90003 0]],.mp (S.map enc) ((E6 S).map enc) false]
theorem Mo {l:List Xd} {m:MSI} {S:List Int}:Bi l m S=[.box false [.d (.list 4 (l.map enc))],.box false [.d (.map (m.ks.map enc) (m.vs.map enc))],.box false [.mpr 90004],.box false [.clo 154 [.ref 90000 0,.ref 90001 0,.ref 90002 0,.ref 90003 0]],.mp (S.map enc) ((E6 S).map enc) false]:=rfl
def Ga (n:Nat):BCon where
 X:=LX
 ok x:=aC x.l∧fJ x.l x.m∧x.i<x.l.length∧Ztq x.l.length x.S∧x.l.length<n+x.S.length
 args x:=[.d (.int .i64 x.i),.ref 90000 0,.ref 90001 0,.ref 90002 0,.ref 90003 0]
 objs x:=Bi x.l x.m x.S
 res x:=.tup []
 post x:=Bi x.l x.m (bD x.l x.m n x.i x.S)
theorem oA:∀ x,¬ (Ga 0).ok x:=by
 rintro x ⟨_,_,_,h,h2⟩;have:=Zqo h;omega
theorem Zot {n:Nat} {l:List Xd} {m:MSI} {i:Nat} {S:List Int}:(Ga n).post ⟨l,m,i,S⟩=Bi l m (bD l m n i S):=rfl
theorem Zst {n:Nat} {x:LX}:(Ga n).res x=.tup []:=rfl
structure Kjd:Prop
theorem Kjd.k (_:Kjd) (h:p:=by
 repeat' first|exact Z1|with_reducible apply Zb|intro _
 all_goals first|with_reducible exact Qo|omega|exact ⟨(k+1,T),by exact Qk,by simp only;omega,hT,hTl,hTR,by simp only;omega⟩|skip):p:=h
structure Kje:Prop
theorem Kje.k (_:Kje) (h:p:=by
 repeat' first|exact Z1|with_reducible apply Zb|intro _
 all_goals first|with_reducible exact Qo|omega|exact ⟨(k+1,T),by exact Qk,by simp only;omega,hT,hTl,hTR,by simp only;omega⟩|skip):p:=h
structure Kjg:Prop
theorem Kjg.k (_:Kjg) (h:p:=by
 repeat' first|exact Z1|with_reducible apply Zb|intro _
 all_goals first|with_reducible exact Qo|omega|exact ⟨(k+1,V),by exact Qk,by simp only;omega,hd.1,by simp only;omega,hTR,by simp only;omega⟩|skip):p:=h
structure Kjf:Prop
theorem Kjf.k (_:Kjf) (h:p:=by
 repeat' first|exact Z1|with_reducible apply Zb|intro _
 refine Qw (bc:=Ga n) ⟨l,⟨ks,vs⟩,p,U⟩ [90000,90001,90002,90003,90004] ⟨hf,hP,by simp only;omega,hT2,by simp only;omega⟩ rfl (by simp) (by rw [Qv];rfl) ?_ ?_ ?_
 ·show Zs _ _ (Bi l ⟨ks,vs⟩ U) _;rw [Mo];simp [Zs,lk,Uu,rnA,rnAs,rk]
 ·show Qf (List.drop (Bi l ⟨ks,vs⟩ U).length _) _;rw [Mo];simp [Qf,lk]
 have Q4:=@Zst;have Z0:=@Mo;have Z3:=@Xi;have Kq:Kjg:=⟨⟩;exact U6):p:=h
structure Kjh:Prop
theorem Kjh.k (_:Kjh) (h:p:=by
 repeat' first|exact Z1|with_reducible apply Zb|intro _
 refine ⟨[90000,90001,90002,90003,90004],by simp,rfl,Zyy,?_⟩
 simp [Zs,lk,Uu,rnA,rnAs,rk]):p:=h
structure Kjc:Prop
theorem Kjc.k (_:Kjc) (h:p:=by
 repeat' first|exact Z1|with_reducible apply Zb|intro _
 refine Zi [7,8,9,17,18,19,20,21,22,23,24,25,26,27,28,29,30,31,32,33,34,35,36,37,38] (fun q:Nat×List Int=>[(16,.d (.int .i64 q.1))]) (fun q:Nat×List Int=>[(90004,.mp (q.2.map enc) ((E6 q.2).map enc) false)]) (fun q:Nat×List Int=>q.1≤x.imps.length∧Ztq l.length q.2∧S.length≤q.2.length∧eP ⟨ks,vs⟩ (bD l ⟨ks,vs⟩ n) (x.imps.drop q.1) q.2=R) (fun q:Nat×List Int=>x.imps.length-q.1) (0,S) ?_ ?_ ?_
 ·exact ⟨Nat.zero_le _,hS,Zl _,hR2⟩
 ·exact Qk
 rintro ⟨k,T⟩ ⟨hk,hT,hTl,hTR⟩;simp only at hk hT hTl hTR;rcases Zn k x.imps.length with ⟨hlt,Qe⟩|⟨hlt,Qe⟩
 ·have Z6:=Zr ([]:List UInt8) hlt;rw [List.drop_eq_getElem_cons hlt,show x.imps[k]=x.imps.getD k [] by simp [hlt],eP] at hTR
  obtain ⟨y,hy⟩:=exq (x.imps.getD k []);rw [hy] at Z6 hTR;unfold Cj at hTR;simp only at hTR;cases Qa:Xn y ks with
  | false =>
   rw [Qa,cond_false] at hTR;have Q4:=@Xi;have Kq:Kjd:=⟨⟩;exact U6
  | true =>
   obtain ⟨p1,p2⟩:=hP y Qa;rw [Qa,cond_true] at hTR;obtain ⟨v,Qc⟩:=exq (K5 y 0 ks vs);rw [Qc] at hTR p1 p2;cases Qh:Xn v T with
   | true =>
    rw [Qh,cond_true] at hTR;have Q4:=@Cy;have Z0:=@Xi;have Kq:Kje:=⟨⟩;exact U6
   | false =>
    rw [Qh,cond_false] at hTR;have Qp:=Zu1 Qh;have Qz:=nV Qh;have hT2:=Zdw hT p1 p2 Qh;obtain ⟨p,rfl⟩:∃ p:Nat,v=p:=⟨v.toNat,by omega⟩
    rw [Zf] at hTR;have hd:=Zjv (l:=l) (m:=⟨ks,vs⟩) hP n p hT2;have hl2:(T++[(p:Int)]).length=T.length+1:=by simp
    obtain ⟨U,hU⟩:=exq (T++[(p:Int)]);rw [hU] at hTR Qp Qz hT2 hd hl2;obtain ⟨V,hV⟩:=exq (bD l ⟨ks,vs⟩ n p U);have Qv:(Ga n).post ⟨l,⟨ks,vs⟩,p,U⟩=Bi l ⟨ks,vs⟩ V:=by rw [Zot,hV]
    rw [hV] at hTR hd;have Q4:=@Cy;have Z0:=@Xi;have Kq:Kjf:=⟨⟩;exact U6
 ·have hke:k=x.imps.length:=by omega
  rw [hke,List.drop_length,eP] at hTR;subst hTR;have Kq:Kjh:=⟨⟩;exact U6):p:=h
theorem stepb_led_1 (n:Nat) (ih:Nu Tryz.prog (154,Ga n)):Nu Tryz.prog (154,(Ga (n+1))):=by
 obtain ⟨Kx,Kt,Kc,Kd,Kb,Ku,Kw,K,W4,_⟩:=X2 Z4 Zq [] false (Zpj ih (Ga.eq_def n) X1);refine Zfu K Tryz.func154 [] rfl 39 rfl (fun c hc x hok=>?_);obtain ⟨l,m,i,S⟩:=x;obtain ⟨hf,hP,hi,hS,hn⟩:=hok;simp only at hf hP hi hS hn;refine ⟨?_,?_,?_,?_,?_⟩
 ·show Xz [.d (.int .i64 i),.ref 90000 0,.ref 90001 0,.ref 90002 0,.ref 90003 0] (Bi l m S);rw [Mo];simp [Xz,J9,Obj.tied,Zx,keptAll,AV.kept,Z8,Xp,lk]
 ·show Zx (Bi l m S);rw [Mo];simp [Zx]
 ·show Xz [] (Bi l m (bD l m (n+1) i S));rw [Mo];simp [Xz,J9,Obj.tied,Zx,keptAll,AV.kept,Z8,Xp,lk]
 ·show (Bi l m S).length≤(Bi l m (bD l m (n+1) i S)).length;rw [Mo,Mo];simp
 show Mi Kx c (P3 _ _ (Bi l m S).length (.tup []) (Bi l m (bD l m (n+1) i S))) ⟨[.d (.int .i64 i),.ref 90000 0,.ref 90001 0,.ref 90002 0,.ref 90003 0]++U8 34,Z8 (Bi l m S)⟩;have hi20:=bB hf i;obtain ⟨R,hR⟩:=exq (bD l m (n+1) i S);have hR2:eP m (bD l m n) (imp l i) S=R:=hR;rw [hR,Mo,Mo];clear hR;have Qd:=Zr m0 hi;unfold imp at hi20 hR2;obtain ⟨x,hx⟩:=exq (l.getD i m0);rw [hx] at Qd hi20 hR2;obtain ⟨ks,vs⟩:=m;unfold fJ at hP;simp only at hP hR2;cases hc;refine Yv 2 ?_;have Q4:=@Xi;have Kq:Kjc:=⟨⟩;exact U6
theorem iX:∀ n,Nu Tryz.prog (154,Ga n)
 | 0=>Zd2 (Jz Tryz.func154 (by kernel_rfl) rfl) oA
 | n+1=>stepb_led_1 n (iX n)
def P0:BCon:=Ga 21
theorem Zjn:Nu Tryz.prog (154,P0):=iX _
def Zdl (l:List Xd) (m:MSI) (i:Nat):List Int:=bD l m 21 i []
theorem Zl2 {l:List Xd} {m:MSI} {i:Nat} {S:List Int}:P0.post ⟨l,m,i,S⟩=Bi l m (bD l m 21 i S):=rfl
theorem Zou {x:LX}:P0.res x=.tup []:=rfl
structure LX2 where
 l:List Xd
 m:MSI
 i:Nat
def Fx:BCon where
 X:=LX2
 ok x:=aC x.l∧fJ x.l x.m∧x.i<x.l.length
 args x:=[.d (.list 4 (x.l.map enc)),.d (.map (x.m.ks.map enc) (x.m.vs.map enc)),.d (.int .i64 x.i)]
 objs _:=[]
 res _:=.nilp
 post x:=[.mp ((Zdl x.l x.m x.i).map enc) ((E6 (Zdl x.l x.m x.i)).map enc) false]
 out _:=some 0
theorem Zur {l:List Xd} {m:MSI} {i:Nat}:Fx.post ⟨l,m,i⟩=[.mp ((Zdl l m i).map enc) ((E6 (Zdl l m i)).map enc) false]:=rfl
structure Kjj:Prop
theorem Kjj.k (_:Kjj) (h:p:=by
 repeat' first|exact Z1|with_reducible apply Zb|intro _
 refine ⟨[9],by simp,rfl,fun j hj=>by omega,?_⟩
 simp [Zs,lk,Uu,rnA,rnAs,rk]):p:=h
structure Kji:Prop
theorem Kji.k (_:Kji) (h:p:=by
 repeat' first|exact Z1|with_reducible apply Zb|intro _
 refine Qw (bc:=P0) ⟨l,⟨ks,vs⟩,i,[]⟩ [3,4,7,8,9] ⟨hf,hP,hi,⟨List.nodup_nil,fun x hx=>by cases hx⟩,by show l.length<21+0;omega⟩ rfl (by simp) (by rw [Qd];rfl) ?_ ?_ ?_
 ·show Zs _ _ (Bi l ⟨ks,vs⟩ []) _;rw [Mo];simp [Zs,lk,Uu,rnA,rnAs,rk];rfl
 ·show Qf (List.drop (Bi l ⟨ks,vs⟩ []).length _) _;rw [Mo];simp [Qf,lk]
 have Qe:=@Zou;have Z6:=@Mo;have Kq:Kjj:=⟨⟩;exact U6):p:=h
theorem goodb_led:Nu Tryz.prog (112,Fx):=by
 obtain ⟨Kx,Kt,Kc,Kd,Kb,Ku,Kw,K,W4,_⟩:=X2 Z4 Zq [] false (Zpj Zjn P0.eq_def X1);refine Qcf (oj:=fun _=>0) K Tryz.func112 [.tmp 6] rfl 15 rfl (fun c hc x hok=>?_) (fun _=>rfl);obtain ⟨l,m,i⟩:=x;obtain ⟨hf,hP,hi⟩:=hok;simp only at hf hP hi;obtain ⟨U,hU⟩:=exq (Zdl l m i);have hp0:=Zur (l:=l) (m:=m) (i:=i);rw [hU] at hp0;refine ⟨?_,?_,?_,?_,?_⟩
 ·show Xz [.d (.list 4 (l.map enc)),.d (.map (m.ks.map enc) (m.vs.map enc)),.d (.int .i64 i)] [];simp [Xz,J9,Obj.tied,Zx,keptAll,AV.kept,Z8,Xp,lk]
 ·show Zx [];simp [Zx]
 ·rw [hp0];simp [Xz,J9,Obj.tied,Zx,keptAll,AV.kept,Z8,Xp,lk]
 ·show 0≤_;exact Nat.zero_le _
 show Mi _ c (Ze9 _ _ 0 0 (Fx.post ⟨l,m,i⟩)) ⟨[.d (.list 4 (l.map enc)),.d (.map (m.ks.map enc) (m.vs.map enc)),.d (.int .i64 i)]++U8 12,Z8 []⟩;rw [hp0];have hl20:=Tm hf;have Qd:P0.post ⟨l,m,i,[]⟩=Bi l m U:=by rw [Zl2,←hU];rfl
 obtain ⟨ks,vs⟩:=m;cases hc;have Kq:Kji:=⟨⟩;exact U6
def B1 (C:List (List UInt8)):List Bool:=C.map fun _=>true
theorem nW {x:List UInt8}:∀ {C:List (List UInt8)},K5 x false C (B1 C)=Xn x C
 | []=>rfl
 | y::C=>by
  show cond (x==y) true (K5 x false C (B1 C))=((x==y)||Xn x C);rw [nW];cases x==y<;>rfl
theorem iA {x:List UInt8}:∀ {C:List (List UInt8)},Xn x C=false→Hi x true C (B1 C)=B1 (C++[x])
 | [],_=>rfl
 | y::C,h=>by
  simp only [Xn,Bool.or_eq_false_iff] at h;show cond (x==y) (true::B1 C) (true::Hi x true C (B1 C))=true::B1 (C++[x]);rw [h.1,iA h.2];rfl
theorem Zhs {x:List UInt8} {C:List (List UInt8)} (h:Xn x C=false):Vd x C=C++[x]:=by
 unfold Vd;rw [h];rfl
def Tj (C:List (List UInt8)) (s:List UInt8):Bool:=!Xn s C
def Yp (C:List (List UInt8)):List Obj:=[.box false [.mpr 90001],.mp (C.map enc) ((B1 C).map enc) false]
theorem Wd {C:List (List UInt8)}:Yp C=[.box false [.mpr 90001],.mp (C.map enc) ((B1 C).map enc) false]:=rfl
theorem Zj2:nD 2 [90000,90001]:=by
 intro j hj
 match j,hj with
 | 0,_=>rfl
 | 1,_=>rfl
def U3:BCon where
 X:=List UInt8×List (List UInt8)
 ok _:=True
 args x:=[.d (.str x.1),.ref 90000 0]
 objs x:=Yp x.2
 res x:=.bool (Tj x.2 x.1)
 post x:=Yp x.2
theorem gG {s:List UInt8} {C:List (List UInt8)}:U3.res (s,C)=.bool (Tj C s):=rfl
theorem T8 {s:List UInt8} {C:List (List UInt8)}:U3.post (s,C)=Yp C:=rfl
structure Kjk:Prop
theorem Kjk.k (_:Kjk) (h:p:=by
 repeat' first|exact Z1|with_reducible apply Zb|intro _
 refine ⟨[90000,90001],by simp,rfl,Zj2,?_⟩
 simp [Zs,lk,Uu,rnA,rnAs,rk]):p:=h
theorem goodb_Order_1_1:Nu Tryz.prog (110,U3):=by
 obtain ⟨Kx,Kt,Kc,Kd,Kb,Ku,Kw,K,_⟩:=X2 Z4 Zq [] false X1;refine Zfu K Tryz.func110 [.tmp 3] rfl 8 rfl (fun c hc x hok=>?_);obtain ⟨s,C⟩:=x;refine ⟨?_,?_,?_,?_,?_⟩
 ·show Xz [.d (.str s),.ref 90000 0] (Yp C);rw [Wd];simp [Xz,J9,Obj.tied,Zx,keptAll,AV.kept,Z8,Xp,lk]
 ·show Zx (Yp C);rw [Wd];simp [Zx]
 ·show Xz [] (Yp C);rw [Wd];simp [Xz,J9,Obj.tied,Zx,keptAll,AV.kept,Z8,Xp,lk]
 ·exact Zl _
 show Mi _ c (P3 _ _ (Yp C).length (.bool (Tj C s)) (Yp C)) ⟨[.d (.str s),.ref 90000 0]++U8 6,Z8 (Yp C)⟩;rw [Wd];cases hc;have Qd:=@nW;have Qe:=@Tj.eq_1;have Kq:Kjk:=⟨⟩;exact U6
def Su:BCon where
 X:=List (List UInt8)×List (List UInt8)
 ok x:=x.1.length≤1000000
 args x:=[.d (.list 1 (x.1.map enc)),.clo 110 [.ref 90000 0]]
 objs x:=Yp x.2
 res x:=.int .i64 (Yf (Tj x.2) x.1)
 post x:=Yp x.2
theorem Zox {l C:List (List UInt8)}:Su.res (l,C)=.int .i64 (Yf (Tj C) l):=rfl
theorem nQ {l C:List (List UInt8)}:Su.post (l,C)=Yp C:=rfl
structure Kjn:Prop
theorem Kjn.k (_:Kjn) (h:p:=by
 repeat' first|exact Z1|with_reducible apply Zb|intro _
 all_goals first|omega|exact ⟨k+1,by exact Qk,by omega,h2,by omega⟩|skip):p:=h
structure Kjo:Prop
theorem Kjo.k (_:Kjo) (h:p:=by
 repeat' first|exact Z1|with_reducible apply Zb|intro _
 all_goals first|omega|(refine ⟨[90000,90001],by simp,rfl,Zj2,?_⟩;simp [Zs,lk,Uu,rnA,rnAs,rk];done)|skip):p:=h
structure Kjm:Prop
theorem Kjm.k (_:Kjm) (h:p:=by
 repeat' first|exact Z1|with_reducible apply Zb|intro _
 refine Qw (bc:=U3) (y,C) [90000,90001] trivial rfl (by simp) (by rw [T8];rfl) ?_ ?_ ?_
 ·show Zs _ _ (Yp C) _;rw [Wd];simp [Zs,lk,Uu,rnA,rnAs,rk]
 ·show Qf (List.drop (Yp C).length _) _;rw [Wd];simp [Qf,lk]
 cases Z6:Tj C y with
 | false =>
  have h2:=hst Z6;have Qc:=@gG;have Qh:=@T8;have Qp:=@Wd;have Kq:Kjn:=⟨⟩;exact U6
 | true =>
  have Qa:=hit Z6;have Qc:=@gG;have Qh:=@T8;have Qp:=@Wd;have Kq:Kjo:=⟨⟩;exact U6):p:=h
structure Kjp:Prop
theorem Kjp.k (_:Kjp) (h:p:=by
 repeat' first|exact Z1|with_reducible apply Zb|intro _
 refine ⟨[90000,90001],by simp,rfl,Zj2,?_⟩
 simp [Zs,lk,Uu,rnA,rnAs,rk]):p:=h
structure Kjl:Prop
theorem Kjl.k (_:Kjl) (h:p:=by
 repeat' first|exact Z1|with_reducible apply Zb|intro _
 refine Zi [4,5,9,10,11,12,13,14,15,16,17,18] (fun k:Nat=>[(8,.d (.int .i64 k))]) (fun k:Nat=>[]) (fun k:Nat=>k≤l.length∧∀ j,j<k→Tj C (l.getD j [])=false) (fun k:Nat=>l.length-k) 0 ?_ ?_ ?_
 ·simp
 ·exact Qk
 rintro k ⟨hk,hno⟩;rcases Zn k l.length with ⟨hlt,Qd⟩|⟨hlt,Qd⟩
 ·have Qe:=Zr ([]:List UInt8) hlt;have hst:Tj C (l.getD k [])=false→∀ j,j<k+1→Tj C (l.getD j [])=false:=fun h=>nM hno h;have hit:Tj C (l.getD k [])=true→Yf (Tj C) l=k:=fun h=>hK [] hlt hno h;obtain ⟨y,hy⟩:=exq (l.getD k []);rw [hy] at Qe hst hit;have Kq:Kjm:=⟨⟩;exact U6
 ·have Qa:=Fl (p:=Tj C) (l:=l) [] (fun j hj=>hno j (by omega))
  have Kq:Kjp:=⟨⟩;exact U6):p:=h
theorem goodb_IndexA:Nu Tryz.prog (55,Su):=by
 obtain ⟨Kx,Kt,Kc,Kd,Kb,Ku,Kw,K,W4,_⟩:=X2 Z4 Zq [] false (Zpj goodb_Order_1_1 U3.eq_def X1);refine Zfu K Tryz.func55 [.tmp 4] rfl 19 rfl (fun c hc x hok=>?_);obtain ⟨l,C⟩:=x
 change l.length≤1000000 at hok
 refine ⟨?_,?_,?_,?_,?_⟩
 ·show Xz [.d (.list 1 (l.map enc)),.clo 110 [.ref 90000 0]] (Yp C);rw [Wd];simp [Xz,J9,Obj.tied,Zx,keptAll,AV.kept,Z8,Xp,lk]
 ·show Zx (Yp C);rw [Wd];simp [Zx]
 ·show Xz [] (Yp C);rw [Wd];simp [Xz,J9,Obj.tied,Zx,keptAll,AV.kept,Z8,Xp,lk]
 ·exact Zl _
 show Mi _ c (P3 _ _ (Yp C).length (.int .i64 (Yf (Tj C) l)) (Yp C)) ⟨[.d (.list 1 (l.map enc)),.clo 110 [.ref 90000 0]]++U8 17,Z8 (Yp C)⟩;rw [Wd];cases hc;have Kq:Kjl:=⟨⟩;exact U6
def U4:BCon where
 X:=List (List UInt8)×List (List UInt8)
 ok x:=x.1.length≤1000000
 args x:=[.d (.list 1 (x.1.map enc)),.clo 110 [.ref 90000 0]]
 objs x:=Yp x.2
 res x:=.bool (x.1.any (Tj x.2))
 post x:=Yp x.2
theorem Zfz {l C:List (List UInt8)}:U4.res (l,C)=.bool (l.any (Tj C)):=rfl
theorem O4 {l C:List (List UInt8)}:U4.post (l,C)=Yp C:=rfl
structure Kjr:Prop
theorem Kjr.k (_:Kjr) (h:p:=by
 repeat' first|exact Z1|with_reducible apply Zb|intro _
 refine ⟨[90000,90001],by simp,rfl,Zj2,?_⟩
 simp [Zs,lk,Uu,rnA,rnAs,rk]):p:=h
structure Kjq:Prop
theorem Kjq.k (_:Kjq) (h:p:=by
 repeat' first|exact Z1|with_reducible apply Zb|intro _
 refine Qw (bc:=Su) (l,C) [90000,90001] hok rfl (by simp) (by rw [nQ];rfl) ?_ ?_ ?_
 ·show Zs _ _ (Yp C) _;rw [Wd];simp [Zs,lk,Uu,rnA,rnAs,rk]
 ·show Qf (List.drop (Yp C).length _) _;rw [Wd];simp [Qf,lk]
 have Qe:=@Zox;have Z6:=@nQ;have Qa:=@Wd;have Kq:Kjr:=⟨⟩;exact U6):p:=h
theorem goodb_ContainsFuncS:Nu Tryz.prog (111,U4):=by
 obtain ⟨Kx,Kt,Kc,Kd,Kb,Ku,Kw,K,W4,_⟩:=X2 Z4 Zq [] false (Zpj goodb_IndexA Su.eq_def X1);refine Zfu K Tryz.func111 [.tmp 4] rfl 9 rfl (fun c hc x hok=>?_);obtain ⟨l,C⟩:=x
 change l.length≤1000000 at hok
 refine ⟨?_,?_,?_,?_,?_⟩
 ·show Xz [.d (.list 1 (l.map enc)),.clo 110 [.ref 90000 0]] (Yp C);rw [Wd];simp [Xz,J9,Obj.tied,Zx,keptAll,AV.kept,Z8,Xp,lk]
 ·show Zx (Yp C);rw [Wd];simp [Zx]
 ·show Xz [] (Yp C);rw [Wd];simp [Xz,J9,Obj.tied,Zx,keptAll,AV.kept,Z8,Xp,lk]
 ·exact Zl _
 show Mi _ c (P3 _ _ (Yp C).length (.bool (l.any (Tj C))) (Yp C)) ⟨[.d (.list 1 (l.map enc)),.clo 110 [.ref 90000 0]]++U8 7,Z8 (Yp C)⟩;rw [Wd,←iQ];obtain ⟨z,Qd⟩:=exq (Yf (Tj C) l);rw [Qd];cases hc;have Kq:Kjq:=⟨⟩;exact U6
def Ud (l:List Xd) (m:MSI) (C:List (List UInt8)) (s:List UInt8):Bool:=Tj C s&&!((imp l (K5 s 0 m.ks m.vs).toNat).any (Tj C))
structure OX where
 l:List Xd
 m:MSI
 C:List (List UInt8)
def Ny (x:OX):List Obj:=[.box false [.mpr 90003],.box false [.d (.list 4 (x.l.map enc))],.box false [.d (.map (x.m.ks.map enc) (x.m.vs.map enc))],.mp (x.C.map enc) ((B1 x.C).map enc) false]
theorem Gg {l:List Xd} {m:MSI} {C:List (List UInt8)}:Ny ⟨l,m,C⟩=[.box false [.mpr 90003],.box false [.d (.list 4 (l.map enc))],.box false [.d (.map (m.ks.map enc) (m.vs.map enc))],.mp (C.map enc) ((B1 C).map enc) false]:=rfl
theorem Zb8:nD 4 [90000,90001,90002,90003]:=by
 intro j hj
 match j,hj with
 | 0,_=>rfl
 | 1,_=>rfl
 | 2,_=>rfl
 | 3,_=>rfl
def Bq:BCon where
 X:=List UInt8×OX
 ok x:=aC x.2.l∧fJ x.2.l x.2.m∧Xn x.1 x.2.m.ks=true
 args x:=[.d (.str x.1),.ref 90000 0,.ref 90001 0,.ref 90002 0]
 objs x:=Ny x.2
 res x:=.bool (Ud x.2.l x.2.m x.2.C x.1)
 post x:=Ny x.2
theorem Zc4 {s:List UInt8} {l:List Xd} {m:MSI} {C:List (List UInt8)}:Bq.res (s,⟨l,m,C⟩)=.bool (Ud l m C s):=rfl
theorem Od {s:List UInt8} {l:List Xd} {m:MSI} {C:List (List UInt8)}:Bq.post (s,⟨l,m,C⟩)=Ny ⟨l,m,C⟩:=rfl
structure Kjt:Prop
theorem Kjt.k (_:Kjt) (h:p:=by
 repeat' first|exact Z1|with_reducible apply Zb|intro _
 refine ⟨[90000,90001,90002,90003],by simp,rfl,Zb8,?_⟩
 simp [Zs,lk,Uu,rnA,rnAs,rk]):p:=h
structure Kjv:Prop
theorem Kjv.k (_:Kjv) (h:p:=by
 repeat' first|exact Z1|with_reducible apply Zb|intro _
 refine ⟨[90000,90001,90002,90003],by simp,rfl,Zb8,?_⟩
 simp [Zs,lk,Uu,rnA,rnAs,rk]):p:=h
structure Kju:Prop
theorem Kju.k (_:Kju) (h:p:=by
 repeat' first|exact Z1|with_reducible apply Zb|intro _
 refine Qw (bc:=U4) (x.imps,C) [90000,90003] (by show x.imps.length≤1000000;omega) rfl (by simp) (by rw [O4];rfl) ?_ ?_ ?_
 ·show Zs _ _ (Yp C) _;rw [Wd];simp [Zs,lk,Uu,rnA,rnAs,rk,Ye,upd]
 ·show Qf (List.drop (Yp C).length _) _;rw [Wd];simp [Qf,lk]
 have Qc:=@Zfz;have Qh:=@O4;have Qp:=@Wd;have Qz:=@Xi;have Kq:Kjv:=⟨⟩;exact U6):p:=h
structure Kjs:Prop
theorem Kjs.k (_:Kjs) (h:p:=by
 repeat' first|exact Z1|with_reducible apply Zb|intro _
 refine Qw (bc:=U3) (s,C) [90000,90003] trivial rfl (by simp) (by rw [T8];rfl) ?_ ?_ ?_
 ·show Zs _ _ (Yp C) _;rw [Wd];simp [Zs,lk,Uu,rnA,rnAs,rk]
 ·show Qf (List.drop (Yp C).length _) _;rw [Wd];simp [Qf,lk]
 cases Qd:Tj C s with
 | false =>
  rw [Qd,Bool.false_and] at hR;subst hR;have Qc:=@gG;have Qh:=@T8;have Qp:=@Wd;have Kq:Kjt:=⟨⟩;exact U6
 | true =>
  rw [Qd,Bool.true_and] at hR;obtain ⟨z,Qa⟩:=exq (x.imps.any (Tj C));rw [Qa] at hR;subst hR;have Qc:=@gG;have Qh:=@T8;have Qp:=@Wd;have Qz:=@Xi;have Kq:Kju:=⟨⟩;exact U6):p:=h
theorem goodb_Order_1:Nu Tryz.prog (109,Bq):=by
 obtain ⟨Kx,Kt,Kc,Kd,Kb,Ku,Kw,K,W4,Gd,_⟩:=X2 Z4 Zq [] false (Zpj goodb_Order_1_1 U3.eq_def (Zpj goodb_ContainsFuncS U4.eq_def X1));refine Zfu K Tryz.func109 [.tmp 5] rfl 23 rfl (fun c hc x hok=>?_);obtain ⟨s,l,m,C⟩:=x;obtain ⟨hf,hP,hs⟩:=hok;simp only at hf hP hs;refine ⟨?_,?_,?_,?_,?_⟩
 ·show Xz [.d (.str s),.ref 90000 0,.ref 90001 0,.ref 90002 0] (Ny ⟨l,m,C⟩);rw [Gg];simp [Xz,J9,Obj.tied,Zx,keptAll,AV.kept,Z8,Xp,lk]
 ·show Zx (Ny ⟨l,m,C⟩);rw [Gg];simp [Zx]
 ·show Xz [] (Ny ⟨l,m,C⟩);rw [Gg];simp [Xz,J9,Obj.tied,Zx,keptAll,AV.kept,Z8,Xp,lk]
 ·exact Zl _
 show Mi _ c (P3 _ _ (Ny ⟨l,m,C⟩).length (.bool (Ud l m C s)) (Ny ⟨l,m,C⟩)) ⟨[.d (.str s),.ref 90000 0,.ref 90001 0,.ref 90002 0]++U8 19,Z8 (Ny ⟨l,m,C⟩)⟩;rw [Gg];obtain ⟨ks,vs⟩:=m;simp only at hs;obtain ⟨p1,p2⟩:=hP s hs;simp only at p1 p2;obtain ⟨R,hR⟩:=exq (Ud l ⟨ks,vs⟩ C s);rw [hR];unfold Ud at hR;simp only at hR;obtain ⟨v,Qe⟩:=exq (K5 s 0 ks vs);rw [Qe] at p1 p2 hR;obtain ⟨p,rfl⟩:∃ p:Nat,v=p:=⟨v.toNat,by omega⟩
 rw [Zf] at hR;have hi20:=bB hf p;unfold imp at hi20 hR;have Z6:=Zr m0 (show p<l.length by omega)
 obtain ⟨x,hx⟩:=exq (l.getD p m0);rw [hx] at Z6 hi20 hR;cases hc;have Kq:Kjs:=⟨⟩;exact U6
def St:BCon where
 X:=List (List UInt8)×OX
 ok x:=x.1.length≤1000000∧aC x.2.l∧fJ x.2.l x.2.m∧∀ s∈x.1,Xn s x.2.m.ks=true
 args x:=[.d (.list 1 (x.1.map enc)),.clo 109 [.ref 90000 0,.ref 90001 0,.ref 90002 0]]
 objs x:=Ny x.2
 res x:=.int .i64 (Yf (Ud x.2.l x.2.m x.2.C) x.1)
 post x:=Ny x.2
theorem Zdx {ns:List (List UInt8)} {l:List Xd} {m:MSI} {C:List (List UInt8)}:St.res (ns,⟨l,m,C⟩)=.int .i64 (Yf (Ud l m C) ns):=rfl
theorem Om {ns:List (List UInt8)} {l:List Xd} {m:MSI} {C:List (List UInt8)}:St.post (ns,⟨l,m,C⟩)=Ny ⟨l,m,C⟩:=rfl
structure Kjy:Prop
theorem Kjy.k (_:Kjy) (h:p:=by
 repeat' first|exact Z1|with_reducible apply Zb|intro _
 all_goals first|omega|exact ⟨k+1,by exact Qk,by omega,h2,by omega⟩|skip):p:=h
structure Kjz:Prop
theorem Kjz.k (_:Kjz) (h:p:=by
 repeat' first|exact Z1|with_reducible apply Zb|intro _
 all_goals first|omega|(refine ⟨[90000,90001,90002,90003],by simp,rfl,Zb8,?_⟩;simp [Zs,lk,Uu,rnA,rnAs,rk];done)|skip):p:=h
structure Kjx:Prop
theorem Kjx.k (_:Kjx) (h:p:=by
 repeat' first|exact Z1|with_reducible apply Zb|intro _
 refine Qw (bc:=Bq) (y,⟨l,m,C⟩) [90000,90001,90002,90003] ⟨hf,hP,hin⟩ rfl (by simp) (by rw [Od];rfl) ?_ ?_ ?_
 ·show Zs _ _ (Ny ⟨l,m,C⟩) _;rw [Gg];simp [Zs,lk,Uu,rnA,rnAs,rk]
 ·show Qf (List.drop (Ny ⟨l,m,C⟩).length _) _;rw [Gg];simp [Qf,lk]
 cases Z6:Ud l m C y with
 | false =>
  have h2:=hst Z6;have Qc:=@Zc4;have Qh:=@Od;have Qp:=@Gg;have Kq:Kjy:=⟨⟩;exact U6
 | true =>
  have Qa:=hit Z6;have Qc:=@Zc4;have Qh:=@Od;have Qp:=@Gg;have Kq:Kjz:=⟨⟩;exact U6):p:=h
structure KjA:Prop
theorem KjA.k (_:KjA) (h:p:=by
 repeat' first|exact Z1|with_reducible apply Zb|intro _
 refine ⟨[90000,90001,90002,90003],by simp,rfl,Zb8,?_⟩
 simp [Zs,lk,Uu,rnA,rnAs,rk]):p:=h
structure Kjw:Prop
theorem Kjw.k (_:Kjw) (h:p:=by
 repeat' first|exact Z1|with_reducible apply Zb|intro _
 refine Zi [4,5,9,10,11,12,13,14,15,16,17,18] (fun k:Nat=>[(8,.d (.int .i64 k))]) (fun k:Nat=>[]) (fun k:Nat=>k≤ns.length∧∀ j,j<k→Ud l m C (ns.getD j [])=false) (fun k:Nat=>ns.length-k) 0 ?_ ?_ ?_
 ·simp
 ·exact Qk
 rintro k ⟨hk,hno⟩;rcases Zn k ns.length with ⟨hlt,Qd⟩|⟨hlt,Qd⟩
 ·have Qe:=Zr ([]:List UInt8) hlt;have hst:Ud l m C (ns.getD k [])=false→∀ j,j<k+1→Ud l m C (ns.getD j [])=false:=fun h=>nM hno h;have hit:Ud l m C (ns.getD k [])=true→Yf (Ud l m C) ns=k:=fun h=>hK [] hlt hno h;have hin:Xn (ns.getD k []) m.ks=true:=hns _ (by simp [hlt])
  obtain ⟨y,hy⟩:=exq (ns.getD k []);rw [hy] at Qe hst hit hin;have Kq:Kjx:=⟨⟩;exact U6
 ·have Qa:=Fl (p:=Ud l m C) (l:=ns) [] (fun j hj=>hno j (by omega))
  have Kq:KjA:=⟨⟩;exact U6):p:=h
theorem goodb_IndexB:Nu Tryz.prog (55,St):=by
 obtain ⟨Kx,Kt,Kc,Kd,Kb,Ku,Kw,K,W4,_⟩:=X2 Z4 Zq [] false (Zpj goodb_Order_1 Bq.eq_def X1);refine Zfu K Tryz.func55 [.tmp 4] rfl 19 rfl (fun c hc x hok=>?_);obtain ⟨ns,l,m,C⟩:=x;obtain ⟨hnl,hf,hP,hns⟩:=hok;simp only at hnl hf hP hns;refine ⟨?_,?_,?_,?_,?_⟩
 ·show Xz [.d (.list 1 (ns.map enc)),.clo 109 [.ref 90000 0,.ref 90001 0,.ref 90002 0]] (Ny ⟨l,m,C⟩);rw [Gg];simp [Xz,J9,Obj.tied,Zx,keptAll,AV.kept,Z8,Xp,lk]
 ·show Zx (Ny ⟨l,m,C⟩);rw [Gg];simp [Zx]
 ·show Xz [] (Ny ⟨l,m,C⟩);rw [Gg];simp [Xz,J9,Obj.tied,Zx,keptAll,AV.kept,Z8,Xp,lk]
 ·exact Zl _
 show Mi _ c (P3 _ _ (Ny ⟨l,m,C⟩).length (.int .i64 (Yf (Ud l m C) ns)) (Ny ⟨l,m,C⟩)) ⟨[.d (.list 1 (ns.map enc)),.clo 109 [.ref 90000 0,.ref 90001 0,.ref 90002 0]]++U8 17,Z8 (Ny ⟨l,m,C⟩)⟩;rw [Gg];cases hc;have Kq:Kjw:=⟨⟩;exact U6
section
variable {α:Type} [BEq α] [LawfulBEq α]
theorem Zmg {x:α} {ks:List α} (h:ks.Nodup):(Vd x ks).Nodup:=by
 unfold Vd;cases hh:Xn x ks with
 | true=>exact h
 | false =>
  rw [cond_false];refine List.nodup_append.2 ⟨h,by simp,fun a ha b hb e=>?_⟩
  rw [Zp] at hb;subst hb;subst e;exact Zjq.1 hh ha
end
theorem eM {m:Xd} {s:List UInt8}:∀ {l:List Xd},Xv (l++[m]) s=match Xv l s with
  | some j=>some j
  | none=>if m.name=s then some l.length else none
 | []=>by
  show (if m.name=s then some 0 else (none:Option Nat).map _)=if m.name=s then some 0 else none
  split<;>rfl
 | x::l=>by
  rw [List.cons_append,Xv,Xv];by_cases h:x.name=s
  ·rw [if_pos h,if_pos h]
  ·rw [if_neg h,if_neg h,eM (l:=l)];cases Xv l s with
   | some j=>rfl
   | none=>by_cases hm:m.name=s<;>simp [hm]
theorem Zi9 (l:List Xd):∀ k,k≤l.length→(fV l k).length=(Znu l k).length∧(fV l k).Nodup ∧
  ∀ s,Xn s (fV l k)=(Xv (l.take k) s).isSome∧K5 s 0 (fV l k) (Znu l k)=((Xv (l.take k) s).getD 0:Nat)
 | 0,_=>⟨rfl,List.nodup_nil,fun s=>⟨rfl,rfl⟩⟩
 | k+1,hk=>by
  obtain ⟨h1,h2,h3⟩:=Zi9 l k (by omega)
  have hlt:k<l.length:=by omega
  have hnm:l[k].name=nm l k:=by simp [nm,hlt]
  have htk:l.take (k+1)=l.take k++[l[k]]:=List.take_succ_eq_append_getElem hlt;obtain ⟨g1,g2⟩:=h3 (nm l k);cases hh:Xn (nm l k) (fV l k) with
  | true =>
   simp only [fV,Znu,hh,cond_true];refine ⟨h1,h2,fun s=>?_⟩;rw [htk,eM];obtain ⟨q1,q2⟩:=h3 s;cases hf:Xv (l.take k) s with
   | some j=>rw [hf] at q1 q2;exact ⟨q1,q2⟩
   | none =>
    rw [hf] at q1 q2;have:¬ l[k].name=s:=by
     rw [hnm];rintro rfl;rw [hh] at q1;cases q1
    simp only [if_neg this];exact ⟨q1,q2⟩
  | false =>
   simp only [fV,Znu,hh,cond_false];refine ⟨(lI h1).symm,Zmg h2,fun s=>?_⟩;rw [htk,eM,Zu2,Zd4 h1];obtain ⟨q1,q2⟩:=h3 s;rw [q1,q2];cases hf:Xv (l.take k) s with
   | some j =>
    have:(s==nm l k)=false:=by
     rw [Za];rintro rfl;rw [hf] at g1;rw [hh] at g1;cases g1
    rw [this];exact ⟨rfl,rfl⟩
   | none =>
    rw [hnm];cases hs:(s==nm l k) with
    | true =>
     rw [if_pos (eq_of_beq hs).symm];simp;omega
    | false =>
     rw [Za] at hs;rw [if_neg (fun e=>hs e.symm)];exact ⟨rfl,rfl⟩
theorem Co (l:List Xd) (s:List UInt8):Xn s (Qr l).ks=(Xv l s).isSome:=by
 have:=((Zi9 l l.length (Zl _)).2.2 s).1;rwa [List.take_length] at this
theorem Rm (l:List Xd) (s:List UInt8):K5 s 0 (Qr l).ks (Qr l).vs=((Xv l s).getD 0:Nat):=by
 have:=((Zi9 l l.length (Zl _)).2.2 s).2;rwa [List.take_length] at this
theorem Zgs (l:List Xd):fJ l (Qr l):=by
 intro s h;rw [Co] at h;rw [Rm];obtain ⟨k,hk⟩:=Option.isSome_iff_exists.1 h;rw [hk];have:=Yu hk;simp only [Option.getD_some];omega
theorem eE {α:Type} (p:α→Bool) (l:List α) (d:α):(Yf p l=-1∧∀ j,j<l.length→p (l.getD j d)=false)∨∃ k,k<l.length∧Yf p l=(k:Int)∧p (l.getD k d)=true∧∀ j,j<k→p (l.getD j d)=false:=by
 unfold Yf;cases h:l.findIdx? p with
 | none =>
  rw [List.findIdx?_eq_none_iff] at h;refine .inl ⟨rfl,fun j hj=>?_⟩;have:=h (l[j]) (List.getElem_mem hj);simpa [hj] using this
 | some i =>
  rw [List.findIdx?_eq_some_iff_getElem] at h;obtain ⟨hi,hp,hno⟩:=h;refine .inr ⟨i,hi,rfl,by simpa [hi] using hp,fun j hj=>?_⟩
  have:=hno j hj;simpa [show j<l.length by omega] using this
theorem Zp8 (l:List Xd):∀ k,k≤l.length→(fV l k).length≤k∧∀ s∈fV l k,∃ j,j<k∧nm l j=s
 | 0,_=>⟨Zl _,fun s hs=>by cases hs⟩
 | k+1,hk=>by
  obtain ⟨h1,h2⟩:=Zp8 l k (by omega)
  simp only [fV];cases hh:Xn (nm l k) (fV l k) with
  | true =>
   rw [cond_true];exact ⟨by omega,fun s hs=>by obtain ⟨j,hj,e⟩:=h2 s hs;exact ⟨j,by omega,e⟩⟩
  | false =>
   rw [cond_false,Zhs hh];refine ⟨by rw [Zh];simp;omega,fun s hs=>?_⟩
   rcases List.mem_append.1 hs with hs|hs
   ·obtain ⟨j,hj,e⟩:=h2 s hs;exact ⟨j,by omega,e⟩
   ·rw [Zp] at hs;exact ⟨k,by omega,hs.symm⟩
structure FewN (l:List Xd):Prop where
 few:aC l
 name:∀ k,(nm l k).length≤100
theorem Zu8 {l:List Xd} (h:FewN l) (k:Nat):(nm l k).length≤100:=h.name k
theorem Zog {l:List Xd} (h:FewN l):(Qr l).ks.length≤20∧∀ s∈(Qr l).ks,s.length≤100:=by
 obtain ⟨h1,h2⟩:=Zp8 l l.length (Zl _);have:=Tm h.few;refine ⟨by show (fV l l.length).length≤20;omega,fun s hs=>?_⟩
 obtain ⟨j,_,rfl⟩:=h2 s hs;exact Zu8 h j
theorem dP (l:List (List UInt8)):(Ck l).Perm l:=List.mergeSort_perm _ _
def Ze4 (m:MSI) (s:List UInt8):Int:=K5 s 0 m.ks m.vs
def Gb (l:List Xd) (m:MSI) (ns:List (List UInt8)):Nat→List (List UInt8)
 | 0=>[]
 | r+1=>cond (Yi (Yf (Ud l m (Gb l m ns r)) ns) 0) (Gb l m ns r) (Gb l m ns r++[ns.getD (Yf (Ud l m (Gb l m ns r)) ns).toNat []])
theorem Zes {l:List Xd} {m:MSI} {ns:List (List UInt8)} {r:Nat} (h:Yi (Yf (Ud l m (Gb l m ns r)) ns) 0=true):∀ k,Gb l m ns (r+k)=Gb l m ns r
 | 0=>rfl
 | k+1=>by
  have ih:=Zes h k;show Gb l m ns ((r+k)+1)=_;rw [Gb,ih,h,cond_true]
def Ig (l:List Xd) (m:MSI) (s:List UInt8):Bool:=Xn (Ze4 m s) (Zdl l m (Ze4 m s).toNat)
def Zok (l:List Xd) (m:MSI) (ns:List (List UInt8)):Sl Int×Int×Int :=
 cond ((F4 l m).2 != 0) (⟨[]⟩,(F4 l m).1,(F4 l m).2)
  (cond (((Gb l m ns l.length).length:Int)==(l.length:Int)) (⟨(Gb l m ns l.length).map (Ze4 m)⟩,0,0)
   (⟨[]⟩,(match ns.find? (Ig l m) with|some s=>Ze4 m s|none=>0),8))
def Ev (l:List Xd):Sl Int×Int×Int:=Zok l (Qr l) (Ck (Qr l).ks)
theorem Zqz {α:Type} {p:α→Bool} {l:List α} {k:Nat} (d:α) (hk:k<l.length) (hno:∀ j,j<k→p (l.getD j d)=false) (hp:p (l.getD k d)=true):l.find? p=some (l.getD k d):=by
 rw [List.find?_eq_some_iff_getElem];refine ⟨hp,k,hk,by simp [hk],fun j hj=>?_⟩
 have:=hno j hj;simpa [show j<l.length by omega] using this
theorem Zxc {α:Type} {p:α→Bool} {l:List α} (d:α) (hno:∀ j,j<l.length→p (l.getD j d)=false):l.find? p=none:=by
 rw [List.find?_eq_none];intro x hx;obtain ⟨j,hj,rfl⟩:=List.getElem_of_mem hx;have:=hno j hj;simpa [hj] using this
def A1:Con:=W0 (fun (l:Sl Xd)=>FewN l.l) (fun l=>Ev l.l)
structure KjF:Prop
theorem KjF.k (_:KjF) (h:p:=by
 repeat' first|exact Z1|with_reducible apply Zb|intro _
 all_goals first|with_reducible exact Qo|omega|exact ⟨k+1,by exact Qk,by omega,hs,by omega⟩|skip):p:=h
structure KjE:Prop
theorem KjE.k (_:KjE) (h:p:=by
 repeat' first|exact Z1|with_reducible apply Zb|intro _
 refine Zps (bc:=Fx) ⟨l,⟨ks,vs⟩,p⟩ [73] 0 ⟨hf,hP,by show p<l.length;omega⟩ rfl (by simp) (by rw [Zz];rfl) ?_ ?_ rfl ?_
 ·show Zs _ _ [] _;simp [Zs]
 ·show Qf (List.drop 0 _) _;simp [Qf,lk]
 cases Z7:Xn (p:Int) S with
 | true =>
  have hr2:=hit Z7;subst hr2;have Q5:=@Cy;exact Znt
 | false =>
  have hs:=hst2 Z7;have Q5:=@Cy;have Kq:KjF:=⟨⟩;exact U6):p:=h
structure KjD:Prop
theorem KjD.k (_:KjD) (h:p:=by
 repeat' first|exact Z1|with_reducible apply Zb|intro _
 refine Zi [2,3,4,13,14,64,65,66,67,68,69,70,71,72,73,74,75,76,77] (fun k:Nat=>[(63,.d (.int .i64 k))]) (fun k:Nat=>[]) (fun k:Nat=>k≤ns.length∧∀ j,j<k→Ig l ⟨ks,vs⟩ (ns.getD j [])=false) (fun k:Nat=>ns.length-k) 0 ?_ ?_ ?_
 ·simp
 ·exact Qk
 rintro k ⟨hk,hnk⟩;rcases Zn k ns.length with ⟨hklt,Q4⟩|⟨hklt,Q4⟩
 ·have Z0:=Zr ([]:List UInt8) hklt;have hst2:Ig l ⟨ks,vs⟩ (ns.getD k [])=false→∀ j,j<k+1→Ig l ⟨ks,vs⟩ (ns.getD j [])=false:=fun h=>nM hnk h;have hit:Ig l ⟨ks,vs⟩ (ns.getD k [])=true→R2=Ze4 ⟨ks,vs⟩ (ns.getD k []):=fun h=>by
   rw [Zqz [] hklt hnk h] at e2;exact e2.symm
  have hin:=hnin (ns.getD k []) (by simp [hklt])
  obtain ⟨y,hy⟩:=exq (ns.getD k []);rw [hy] at Z0 hst2 hit hin;obtain ⟨p1,p2⟩:=hP y hin;simp only at p1 p2;unfold Ig Ze4 at hst2 hit;simp only at hst2 hit;obtain ⟨v,Z3⟩:=exq (K5 y 0 ks vs);rw [Z3] at p1 p2 hst2 hit;obtain ⟨p,rfl⟩:∃ p:Nat,v=p:=⟨v.toNat,by omega⟩
  rw [Zf] at hst2 hit;have Zz:Fx.post ⟨l,⟨ks,vs⟩,p⟩=[.mp ((Zdl l ⟨ks,vs⟩ p).map enc) ((E6 (Zdl l ⟨ks,vs⟩ p)).map enc) false]:=rfl;obtain ⟨S,hSS⟩:=exq (Zdl l ⟨ks,vs⟩ p);rw [hSS] at Zz hst2 hit;have Kq:KjE:=⟨⟩;exact U6
 ·rw [Zxc [] (fun j hj=>hnk j (by omega))] at e2
  simp only at e2;subst e2;exact Znt):p:=h
structure KjG:Prop
theorem KjG.k (_:KjG) (h:p:=by
 repeat' first|exact Z1|with_reducible apply Zb|intro _
 all_goals first|with_reducible exact Qo|omega|(rw [Zo,Zo];omega)|exact ⟨r+1,by rw [hC2];(have Um:=Zw;refine Qcr ?_);rfl,by omega,by rw [hC2];exact hC2l,by omega⟩|skip):p:=h
structure KjC:Prop
theorem KjC.k (_:KjC) (h:p:=by
 repeat' first|exact Z1|with_reducible apply Zb|intro _
 refine Qw (bc:=St) (ns,⟨l,⟨ks,vs⟩,C⟩) [9,1,5,30] ⟨by show ns.length≤1000000;omega,hf,hP,hnin⟩ rfl (by simp) (by rw [Om];rfl) ?_ ?_ ?_
 ·show Zs _ _ (Ny ⟨l,⟨ks,vs⟩,C⟩) _;rw [Gg];simp [Zs,lk,Uu,rnA,rnAs,rk];rfl
 ·show Qf (List.drop (Ny ⟨l,⟨ks,vs⟩,C⟩).length _) _;rw [Gg];simp [Qf,lk]
 rcases eE (Ud l ⟨ks,vs⟩ C) ns [] with ⟨Qz,hno⟩|⟨i0,hi0,Qz,hyes,hno⟩
 ·have hCeq:=hst (by rw [Qz];rfl)
  subst hCeq;have Qv:((r:Int)==(l.length:Int))=false:=by rw [Za];omega
  rw [hrl,Qv,cond_false] at hR2;injection hR2 with e1 e2
  injection e2 with e2 e3
  subst e1 e3;have Q5:=@Zdx;have Ja:=@Om;have Q7:=@Gg;have Kq:KjD:=⟨⟩;exact U6
 ·have Z9:Yi (i0:Int) 0=false:=by rw [Q9];omega
  rw [Qz,Z9,cond_false,Zf] at hS;have Z0:=Zr ([]:List UInt8) hi0;have hin:=hnin (ns.getD i0 []) (by simp [hi0])
  obtain ⟨y,hy⟩:=exq (ns.getD i0 []);rw [hy] at Z0 hS hyes hin;have hlate:Xn y C=false:=by
   unfold Ud Tj at hyes;rw [Zk] at hyes;simpa using hyes.1
  have Qg:=Zhs hlate;have Zv:=iA hlate;obtain ⟨v,Z3⟩:=exq (K5 y 0 ks vs);have hav:Ze4 ⟨ks,vs⟩ y=v:=Z3;rw [←hS] at Qg Zv;have hC2l:C2.length=r+1:=by rw [hS,Zh,hrl];rfl
  have Zw:(C.map (Ze4 ⟨ks,vs⟩)).map (enc:Int→D)++[.int .i64 v]=(C2.map (Ze4 ⟨ks,vs⟩)).map enc:=by
   rw [hS];simp [hav]
  have Q5:=@Zdx;have Ja:=@Om;have Q7:=@Gg;have Kq:KjG:=⟨⟩;exact U6):p:=h
structure KjB:Prop
theorem KjB.k (_:KjB) (h:p:=by
 repeat' first|exact Z1|with_reducible apply Zb|intro _
 all_goals try omega
 ·exact Nat.le_trans (hs100 _ ‹_›) (by omega)
 refine Zi [11,31,32,33,34,35,36,37,38,39,40,41,42,43,44,45,46,47,48,49,50,51,52,53,54] (fun r:Nat=>[(10,.sl 54 (((Gb l ⟨ks,vs⟩ ns r).map (Ze4 ⟨ks,vs⟩)).map (enc:Int→D)).length)]) (fun r:Nat=>[(30,.mp ((Gb l ⟨ks,vs⟩ ns r).map enc) ((B1 (Gb l ⟨ks,vs⟩ ns r)).map enc) false),(54,.row 1 (((Gb l ⟨ks,vs⟩ ns r).map (Ze4 ⟨ks,vs⟩)).map enc) 0)]) (fun r:Nat=>r≤l.length∧(Gb l ⟨ks,vs⟩ ns r).length=r) (fun r:Nat=>l.length-r) 0 ?_ ?_ ?_
 ·exact ⟨Nat.zero_le _,rfl⟩
 ·have Um:=@Gb.eq_1;have Ix:=@Gb.eq_2;have Zwc:=@B1.eq_1;exact Qk
 rintro r ⟨hr,hrl⟩;have hS:Gb l ⟨ks,vs⟩ ns (r+1)=cond (Yi (Yf (Ud l ⟨ks,vs⟩ (Gb l ⟨ks,vs⟩ ns r)) ns) 0) (Gb l ⟨ks,vs⟩ ns r) (Gb l ⟨ks,vs⟩ ns r++[ns.getD (Yf (Ud l ⟨ks,vs⟩ (Gb l ⟨ks,vs⟩ ns r)) ns).toNat []]):=rfl;have hst:=fun h=>Zes (l:=l) (m:=⟨ks,vs⟩) (ns:=ns) (r:=r) h (l.length-r);rw [show r+(l.length-r)=l.length by omega] at hst
 rcases Zn r l.length with ⟨hlt,Qh⟩|⟨hlt,Qh⟩
 ·obtain ⟨C,hC⟩:=exq (Gb l ⟨ks,vs⟩ ns r);obtain ⟨C2,hC2⟩:=exq (Gb l ⟨ks,vs⟩ ns (r+1));obtain ⟨CE,hCE⟩:=exq (Gb l ⟨ks,vs⟩ ns l.length);rw [hC] at hrl hS hst;rw [hC2] at hS;rw [hCE] at hst hR2;rw [hC];have Qp:(((C.map (Ze4 ⟨ks,vs⟩)).map (enc:Int→D)).length:Int)=(r:Int):=by rw [Zo,Zo,hrl]
  have Kq:KjC:=⟨⟩;exact U6
 ·have hrl2:r=l.length:=by omega
  rw [hrl2] at hrl;rw [hrl2];obtain ⟨C,hC⟩:=exq (Gb l ⟨ks,vs⟩ ns l.length);rw [hC] at hrl hR2;rw [hC];have Qp:(((C.map (Ze4 ⟨ks,vs⟩)).map (enc:Int→D)).length:Int)=(l.length:Int):=by rw [Zo,Zo,hrl]
  have Qn:Yi (l.length:Int) (l.length:Int)=false:=by rw [Q9];omega
  have Q6:((l.length:Int)==(l.length:Int))=true:=by rw [Zm]
  rw [hrl,Q6,cond_true] at hR2;injection hR2 with e1 e2
  injection e2 with e2 e3
  subst e1 e2 e3;exact Znt):p:=h
theorem good_OrderG:Qq Tryz.prog (59,A1):=by
 obtain ⟨Kx,Kt,Kc,Kd,Kb,Ku,Kw,K,W4,Gd,M4,Ln,Ek,cL,_⟩:=X2 Z4 Zq [] false (Jh good_places Ao.eq_def (Jh good_wrong bE.eq_def (Jh Zo7 Zia.eq_def (Jh iY Sp.eq_def (Zpj goodb_IndexB St.eq_def (Zpj goodb_led Fx.eq_def X1))))));have Ko:=A1.eq_def;refine Wh K Tryz.func59 [.tmp 2,.tmp 3,.tmp 4] rfl 78 rfl (fun c hc cvs hpre=>?_);unfold A1 at hpre;obtain ⟨⟨l⟩,rfl,hfN⟩:=cV hpre;simp only at hfN;clear hpre;have hf:=hfN.few;have hl20:=Tm hf;obtain ⟨R1,R2,R3,Qa⟩:∃ a b d,Ev l=(a,b,d):=⟨_,_,_,rfl⟩;have hR2:=Qa;unfold Ev at hR2;have hP:=Zgs l;obtain ⟨hk20,hs100⟩:=Zog hfN;have hperm:=dP (Qr l).ks;obtain ⟨m,Qd⟩:=exq (Qr l);rw [Qd] at hP hR2 hk20 hs100 hperm;obtain ⟨ks,vs⟩:=m;simp only at hk20 hs100 hR2 hperm;obtain ⟨ns,Qc⟩:=exq (Ck ks);rw [Qc] at hR2 hperm;have hnl:ns.length≤20:=by rw [hperm.length_eq];exact hk20
 have hnin:∀ s∈ns,Xn s ks=true:=fun s hs=>Sf.2 (hperm.mem_iff.1 hs);unfold Zok at hR2;obtain ⟨W1,W2,Qe⟩:∃ a b,F4 l ⟨ks,vs⟩=(a,b):=⟨_,_,rfl⟩;rw [Qe] at hR2;simp only at hR2;cases Z6:(W2 != 0) with
 | true =>
  rw [Z6,cond_true] at hR2;injection hR2 with e1 e2
  injection e2 with e2 e3
  subst e1 e2 e3;cases hc;refine Yv 4 ?_;exact Znt
 | false =>
 rw [Z6,cond_false] at hR2;cases hc;refine Yv 4 ?_;have Kq:KjB:=⟨⟩;exact U6
theorem Zco {l:List Xd} {tr:Nat→List Int→List Int} {s:List UInt8} {S:List Int} (h:Xv l s=none):Cj (Qr l) tr s S=S:=by
 unfold Cj;rw [Co,h];rfl
theorem Zcn {l:List Xd} {tr:Nat→List Int→List Int} {s:List UInt8} {S:List Int} {j:Nat} (h:Xv l s=some j):Cj (Qr l) tr s S=cond (Xn (j:Int) S) S (tr j (S++[(j:Int)])):=by
 unfold Cj;rw [Co,Rm,h];show cond true _ _=_;rw [cond_true,Option.getD_some,Zf]
theorem Zh6 {l:List Xd}:∀ (n i:Nat) {S:List Int} {x:Int},x∈bD l (Qr l) n i S→x∈S∨∃ k:Nat,x=k∧Path l i k
 | 0,_,_,_,h=>.inl h
 | n+1,i,S,x,h=>by
  have go:∀ (ss:List (List UInt8)),(∀ s∈ss,s∈imp l i)→∀ {S:List Int},x∈eP (Qr l) (bD l (Qr l) n) ss S→x∈S∨∃ k:Nat,x=k∧Path l i k:=by
   intro ss
   induction ss with
   | nil=>intro _ S h;exact .inl h
   | cons s ss ih =>
    intro hss S h;rw [eP] at h;rcases ih (fun s hs=>hss s (List.mem_cons_of_mem _ hs)) h with h|h
    ·cases hf:Xv l s with
     | none=>rw [Zco hf] at h;exact .inl h
     | some j =>
      have hsj:fX l i j:=⟨s,hss s (List.mem_cons_self ..),hf⟩;rw [Zcn hf] at h;cases hg:Xn (j:Int) S with
      | true=>rw [hg,cond_true] at h;exact .inl h
      | false =>
       rw [hg,cond_false] at h;rcases Zh6 n j h with h|⟨k,e,h⟩
       ·rcases List.mem_append.1 h with h|h
        ·exact .inl h
        ·rw [Zp] at h;exact .inr ⟨j,h,.one hsj⟩
       ·exact .inr ⟨k,e,.more hsj h⟩
    ·exact .inr h
  exact go (imp l i) (fun s hs=>hs) h
def Qca (l:List Xd) (T:List Int) (k:Nat):Prop:=∀ j,fX l k j→(j:Int)∈T
theorem Zmu {l:List Xd}:∀ (n i:Nat) {S:List Int},Ztq l.length S→l.length<n+S.length →
  (∀ x∈S,x∈bD l (Qr l) n i S)∧Qca l (bD l (Qr l) n i S) i∧∀ k:Nat,(k:Int)∈bD l (Qr l) n i S→(k:Int)∈S∨Qca l (bD l (Qr l) n i S) k
 | 0,_,S,h,hn=>by have:=Zqo h;omega
 | n+1,i,S,h,hn=>by
  have go:∀ (ss:List (List UInt8)) {S:List Int},Ztq l.length S→l.length<n+1+S.length →
    (∀ x∈S,x∈eP (Qr l) (bD l (Qr l) n) ss S)∧(∀ s∈ss,∀ j,Xv l s=some j→(j:Int)∈eP (Qr l) (bD l (Qr l) n) ss S) ∧
     ∀ k:Nat,(k:Int)∈eP (Qr l) (bD l (Qr l) n) ss S→(k:Int)∈S∨Qca l (eP (Qr l) (bD l (Qr l) n) ss S) k:=by
   intro ss
   induction ss with
   | nil=>intro S _ _;exact ⟨fun x h=>h,fun s hs=>(by cases hs),fun k h=>.inl h⟩
   | cons s ss ih =>
    intro S h hn;have h1:Ztq l.length (Cj (Qr l) (bD l (Qr l) n) s S)∧S.length≤(Cj (Qr l) (bD l (Qr l) n) s S).length∧(∀ x∈S,x∈Cj (Qr l) (bD l (Qr l) n) s S) ∧
      (∀ j,Xv l s=some j→(j:Int)∈Cj (Qr l) (bD l (Qr l) n) s S)∧∀ k:Nat,(k:Int)∈Cj (Qr l) (bD l (Qr l) n) s S→(k:Int)∈S∨Qca l (Cj (Qr l) (bD l (Qr l) n) s S) k:=by
     cases hf:Xv l s with
     | none=>rw [Zco hf];exact ⟨h,Zl _,fun x h=>h,fun j hj=>(by cases hj),fun k h=>.inl h⟩
     | some j =>
      rw [Zcn hf];cases hg:Xn (j:Int) S with
      | true =>
       rw [cond_true];exact ⟨h,Zl _,fun x h=>h,fun j' hj'=>(by injection hj' with e;subst e;exact Sf.1 hg),fun k h=>.inl h⟩
      | false =>
       rw [cond_false];have hjl:=Yu hf;have h2:=Zdw h (x:=(j:Int)) (by omega) (by omega) hg
       have hl2:(S++[(j:Int)]).length=S.length+1:=by simp
       obtain ⟨a1,a2⟩:=Zjv (Zgs l) n j h2;obtain ⟨b1,b2,b3⟩:=Zmu n j h2 (by omega)
       refine ⟨a1,by omega,fun x hx=>b1 x (List.mem_append_left _ hx),fun j' hj'=>?_,fun k hk=>?_⟩
       ·injection hj' with e
        subst e;exact b1 _ (List.mem_append_right _ (Zp.2 rfl))
       ·rcases b3 k hk with hk|hk
        ·rcases List.mem_append.1 hk with hk|hk
         ·exact .inl hk
         ·rw [Zp] at hk;have:k=j:=by omega
          subst this;exact .inr b2
        ·exact .inr hk
    obtain ⟨c0,c1,c2,c3,c4⟩:=h1;obtain ⟨d1,d2,d3⟩:=ih c0 (by omega)
    rw [eP];refine ⟨fun x hx=>d1 x (c2 x hx),fun s' hs' j hj=>?_,fun k hk=>?_⟩
    ·rcases Zu.1 hs' with rfl|hs'
     ·exact d1 _ (c3 j hj)
     ·exact d2 s' hs' j hj
    ·rcases d3 k hk with hk|hk
     ·rcases c4 k hk with hk|hk
      ·exact .inl hk
      ·exact .inr fun j hj=>d1 _ (hk j hj)
     ·exact .inr hk
  obtain ⟨a1,a2,a3⟩:=go (imp l i) h hn;exact ⟨a1,fun j ⟨s,hs,hj⟩=>a2 s hs j hj,a3⟩
theorem Zw6 {l:List Xd} (hl:l.length≤20) {i:Nat} {x:Int}:x∈Zdl l (Qr l) i↔∃ k:Nat,x=k∧Path l i k:=by
 constructor
 ·intro h;rcases Zh6 21 i h with h|h
  ·cases h
  ·exact h
 ·rintro ⟨k,rfl,h⟩;obtain ⟨_,h2,h3⟩:=Zmu (l:=l) 21 i (S:=[]) ⟨List.nodup_nil,fun x hx=>by cases hx⟩ (by simp;omega)
  exact I9 (M:=fun k=>(k:Int)∈Zdl l (Qr l) i) (fun k j hk hs=>by
   rcases h3 k hk with hk|hk
   ·cases hk
   ·exact hk j hs) h h2
theorem eL {α:Type} {p q:α→Bool}:∀ {l:List α},(∀ x∈l,p x=q x)→l.find? p=l.find? q
 | [],_=>rfl
 | x::l,h=>by
  rw [List.find?_cons,List.find?_cons,h x (List.mem_cons_self ..),eL fun y hy=>h y (List.mem_cons_of_mem _ hy)]
theorem Zpp {α:Type} {p q:α→Bool} {l:List α} (h:∀ x∈l,p x=q x):l.any p=l.any q:=by
 induction l with
 | nil=>rfl
 | cons x l ih=>rw [List.any_cons,List.any_cons,h x (List.mem_cons_self ..),ih fun y hy=>h y (List.mem_cons_of_mem _ hy)]
theorem Zyv {l:List Xd} {k:Nat} (h:k<l.length):Zfx l (Qr l) k=It l k:=by
 obtain ⟨j,h1,h2⟩:=Ox h;unfold Zfx It Wb;rw [Rm,h1];simp only [Option.getD_some];rw [Bool.eq_iff_iff,bne_iff_ne,Xa];omega
theorem Zw7 {l:List Xd} {k:Nat}:dB l (Qr l) k=Bv l k:=by
 unfold dB Bv;refine Zpp fun s _=>?_;rw [Co];unfold Wb;cases Xv l s with
 | none=>rfl
 | some j =>
  show false=Yi (j:Int) 0;symm;rw [Q9];omega
theorem Ztv (l:List Xd):F4 l (Qr l)=match (List.range l.length).find? (It l) with
 | some i=>((i:Int),7)
 | none=>match (List.range l.length).find? (Bv l) with
  | some i=>((i:Int),6)
  | none=>(0,0):=by
 unfold F4
 (rw [eL (p:=Zfx l (Qr l)) (q:=It l) fun x hx=>Zyv (List.mem_range.1 hx),eL (p:=dB l (Qr l)) (q:=Bv l) fun x _=>Zw7])<;>rfl
def Jq (l:List Xd):List (List UInt8):=Ck (Qr l).ks
theorem G8 {l:List Xd} {s:List UInt8}:s∈Jq l↔∃ k,Xv l s=some k:=by
 unfold Jq;rw [(dP _).mem_iff,←Sf,Co,Option.isSome_iff_exists]
theorem Dv (l:List Xd):(Jq l).Nodup:=by
 unfold Jq;rw [(dP _).nodup_iff];exact (Zi9 l l.length (Zl _)).2.1
theorem Rq (l:List Xd):(Jq l).Pairwise (fun a b=>a≤b):=by
 have h1:(Ck (Qr l).ks).Pairwise (fun a b=>decide (a≤b)=true):=List.pairwise_mergeSort (fun a b c h1 h2=>by
  simp only [decide_eq_true_eq] at *;exact List.le_trans h1 h2) (fun a b=>by
  simp only [Bool.or_eq_true,decide_eq_true_eq];exact List.le_total a b) _
 exact h1.imp fun h=>by rwa [decide_eq_true_eq] at h
theorem Ze3 {l:List Xd} (hU:M3 l) {k:Nat} (hk:k<l.length):Ze4 (Qr l) (nm l k)=k:=by
 unfold Ze4;rw [Rm,hU k hk];rfl
theorem nA {l:List Xd} {p:List UInt8→Bool}:(Yf p (Jq l)=-1∧∀ s∈Jq l,p s=false) ∨
  ∃ i:Nat,Yf p (Jq l)=i∧(Jq l).getD i []∈Jq l∧p ((Jq l).getD i [])=true∧∀ s∈Jq l,p s=true→(Jq l).getD i []≤s:=by
 rcases eE p (Jq l) [] with ⟨h,hno⟩|⟨i,hi,h,hp,hno⟩
 ·refine .inl ⟨h,fun s hs=>?_⟩;obtain ⟨j,hj,rfl⟩:=List.getElem_of_mem hs;simpa [hj] using hno j hj
 ·refine .inr ⟨i,h,by simp [hi],hp,fun s hs hps=>?_⟩
  obtain ⟨j,hj,rfl⟩:=List.getElem_of_mem hs;rcases Nat.lt_trichotomy j i with hlt|rfl|hgt
  ·have:=hno j hlt;rw [show (Jq l).getD j []=(Jq l)[j] by simp [hj],hps] at this
   cases this
  ·simp [hj]
  ·have:=List.pairwise_iff_getElem.1 (Rq l) i j hi hj hgt;simpa [hi] using this
theorem Zl3 {l:List Xd} (hU:M3 l) {is:List Bool} {p:List UInt8→Bool} (h:∀ k,k<l.length→is.getD k false=p (nm l k)) :
  W5 l is l.length=cond (Yi (Yf p (Jq l)) 0) (-1) (Ze4 (Qr l) ((Jq l).getD (Yf p (Jq l)).toNat [])):=by
 rcases nA (l:=l) (p:=p) with ⟨h1,hno⟩|⟨i,h1,hin,hp,hle⟩
 ·rw [h1,show Yi (-1) 0=true from rfl,cond_true];rcases Ll (l:=l) (is:=is) l.length with ⟨h2,_⟩|⟨k,h2,hk,his,_⟩
  ·exact h2
  ·rw [h k hk,hno (nm l k) (G8.2 ⟨k,hU k hk⟩)] at his;cases his
 ·rw [h1,show Yi (i:Int) 0=false by rw [Q9];omega,cond_false,Zf]
  obtain ⟨j,hj⟩:=G8.1 hin;have hjl:=Yu hj;have hjn:=Uy hj;rw [←hjn,Ze3 hU hjl];rw [←hjn] at hp hle;rcases Ll (l:=l) (is:=is) l.length with ⟨h2,hno⟩|⟨k,h2,hk,his,hle2⟩
  ·have:=hno j hjl;rw [h j hjl,hp] at this;cases this
  ·rw [h2];have e1:=hle2 j hjl (by rw [h j hjl,hp])
   have e2:=hle (nm l k) (G8.2 ⟨k,hU k hk⟩) (by rw [←h k hk];exact his)
   rw [P9 hU hk hjl (List.le_antisymm e1 e2)]
def Yw (l:List Xd) (r:Nat):List (List UInt8):=Gb l (Qr l) (Jq l) r
def Ew (l:List Xd) (C:List (List UInt8)) (s:List UInt8):Bool:=Ud l (Qr l) C s
theorem lU (l:List Xd) (r:Nat):(Yw l (r+1)=Yw l r∧Yi (Yf (Ew l (Yw l r)) (Jq l)) 0=true∧∀ s∈Jq l,Ew l (Yw l r) s=false) ∨
  ∃ y,Yw l (r+1)=Yw l r++[y]∧y∈Jq l∧Ew l (Yw l r) y=true∧(∀ s∈Jq l,Ew l (Yw l r) s=true→y≤s)∧Yi (Yf (Ew l (Yw l r)) (Jq l)) 0=false∧y=(Jq l).getD (Yf (Ew l (Yw l r)) (Jq l)).toNat []:=by
 have e:Yw l (r+1)=cond (Yi (Yf (Ew l (Yw l r)) (Jq l)) 0) (Yw l r) (Yw l r++[(Jq l).getD (Yf (Ew l (Yw l r)) (Jq l)).toNat []]):=rfl;rcases nA (l:=l) (p:=Ew l (Yw l r)) with ⟨h,hno⟩|⟨i,h,hin,hp,hle⟩
 ·left;rw [e,h];exact ⟨rfl,rfl,hno⟩
 ·right;have hb:Yi (i:Int) 0=false:=by rw [Q9];omega
  rw [h,hb,cond_false,Zf] at e;exact ⟨_,e,hin,hp,hle,by rw [h];exact hb,by rw [h,Zf]⟩
theorem aO {l:List Xd} (hU:M3 l) {C:List (List UInt8)} {k:Nat} (hk:k<l.length):Ew l C (nm l k)=true↔nm l k∉C∧∀ s∈imp l k,s∈C:=by
 unfold Ew Ud;have:=Ze3 hU hk;unfold Ze4 at this;rw [this,Zf,Zk,Bool.not_eq_true',List.any_eq_false];unfold Tj;rw [Bool.not_eq_true',Zjq];constructor
 ·rintro ⟨h1,h2⟩;refine ⟨h1,fun s hs=>?_⟩;have:=h2 s hs;rw [Bool.not_eq_true,Bool.not_eq_false'] at this;exact Sf.1 this
 ·rintro ⟨h1,h2⟩;refine ⟨h1,fun s hs=>?_⟩;rw [Bool.not_eq_true,Bool.not_eq_false'];exact Sf.2 (h2 s hs)
theorem Zdy {l:List Xd} (hU:M3 l) {k:Nat} (hk:k<l.length):nm l k∈Jq l:=G8.2 ⟨k,hU k hk⟩
theorem Fg {l:List Xd} {s:List UInt8} (h:s∈Jq l):∃ k,k<l.length∧nm l k=s:=by
 obtain ⟨k,hk⟩:=G8.1 h;exact ⟨k,Yu hk,Uy hk⟩
theorem Zg1 {l:List Xd} (hU:M3 l):(Jq l).length=l.length:=by
 have h1:(Jq l).length≤((List.range l.length).map (nm l)).length:=T6 (Dv l) fun s hs=>by
  obtain ⟨k,hk,e⟩:=Fg hs;exact List.mem_map.2 ⟨k,List.mem_range.2 hk,e⟩
 have h2:((List.range l.length).map (nm l)).length≤(Jq l).length:=T6 (by
  unfold List.Nodup;rw [List.pairwise_map,List.pairwise_iff_getElem];intro i j hi hj hij e;simp only [List.getElem_range] at e;simp only [List.length_range] at hi hj;have:=P9 hU hi hj e;omega) fun s hs=>by
  obtain ⟨k,hk,rfl⟩:=List.mem_map.1 hs;exact Zdy hU (List.mem_range.1 hk)
 rw [Zo,List.length_range] at h1 h2;omega
theorem aY {l:List Xd} (hU:M3 l):∀ r,(Yw l r).Nodup∧(∀ s∈Yw l r,s∈Jq l)∧(Yw l r).length≤r∧(∀ k,k<l.length→nm l k∈Yw l r→(∀ s∈imp l k,s∈Yw l r)∧¬ Path l k k)
 | 0=>⟨List.nodup_nil,fun s hs=>(by cases hs),Zl _,fun k _ hk=>(by cases hk)⟩
 | r+1=>by
  obtain ⟨h1,h2,h3,h4⟩:=aY hU r;rcases lU l r with ⟨e,_,_⟩|⟨y,e,hy,hm,_,_,_⟩
  ·rw [e];exact ⟨h1,h2,by omega,h4⟩
  ·obtain ⟨k0,hk0,rfl⟩:=Fg hy;rw [aO hU hk0] at hm;rw [e];have clo:∀ k j,nm l k∈Yw l r→Path l k j→nm l j∈Yw l r:=by
    intro k j hk hp;refine I9 (M:=fun k=>nm l k∈Yw l r) (fun k j hk hs=>?_) hp (fun j hs=>?_)
    ·obtain ⟨s,hs,hj⟩:=hs;have hkl:=(F8 ⟨s,hs,hj⟩:k<l.length∧j<l.length).1;have:=(h4 k hkl hk).1 s hs;rwa [Uy hj]
    ·obtain ⟨s,hs,hj⟩:=hs;have hkl:=(F8 ⟨s,hs,hj⟩:k<l.length∧j<l.length).1;have:=(h4 k hkl hk).1 s hs;rwa [Uy hj]
   refine ⟨List.nodup_append.2 ⟨h1,by simp,fun a ha b hb e=>?_⟩,fun s hs=>?_,by rw [Zh];simp;omega,fun k hkl hk=>?_⟩
   ·rw [Zp] at hb;rw [e,hb] at ha;exact hm.1 ha
   ·rcases List.mem_append.1 hs with hs|hs
    ·exact h2 s hs
    ·rw [Zp] at hs;rw [hs];exact hy
   ·rcases List.mem_append.1 hk with hk|hk
    ·obtain ⟨g1,g2⟩:=h4 k hkl hk;exact ⟨fun s hs=>List.mem_append_left _ (g1 s hs),g2⟩
    ·rw [Zp] at hk;have:=P9 hU hkl hk0 hk;subst this;refine ⟨fun s hs=>List.mem_append_left _ (hm.2 s hs),fun hp=>?_⟩;cases hp with
     | one h =>
      obtain ⟨s,hs,hj⟩:=h;have:=hm.2 s hs;rw [←Uy hj] at this;exact hm.1 this
     | more h hp =>
      obtain ⟨s,hs,hj⟩:=h;have:=hm.2 s hs;rw [←Uy hj] at this;exact hm.1 (clo _ _ this hp)
theorem Zr5 {l:List Xd} (hU:M3 l) (hF:fY l) (hA:¬ Znq l) {C:List (List UInt8)}:∀ n k,k<l.length→(Jl l k).countP id≤n→nm l k∉C→∃ j,j<l.length∧Ew l C (nm l j)=true:=by
 intro n
 induction n with
 | zero =>
  intro k hk hn hC;by_cases h:∀ s∈imp l k,s∈C
  ·exact ⟨k,hk,(aO hU hk).2 ⟨hC,h⟩⟩
  ·obtain ⟨s,h2⟩:=Classical.not_forall.1 h;obtain ⟨hs,hsC⟩:=Classical.not_imp.1 h2;obtain ⟨j,hj⟩:=hF k hk s hs;have h1:(Jl l k).getD j false=true:=X5.2 (.one ⟨s,hs,hj⟩);have h0:(Jl l k).countP id=0:=by omega
   rw [List.countP_eq_zero] at h0;have hjl:j<(Jl l k).length:=by have:(Jl l k).length=l.length:=X4 _;rw [this];exact Yu hj
   have:=h0 _ (List.getElem_mem hjl);rw [Zd,Zg hjl] at h1;exact absurd h1 this
 | succ n ih =>
  intro k hk hn hC;by_cases h:∀ s∈imp l k,s∈C
  ·exact ⟨k,hk,(aO hU hk).2 ⟨hC,h⟩⟩
  ·obtain ⟨s,h2⟩:=Classical.not_forall.1 h;obtain ⟨hs,hsC⟩:=Classical.not_imp.1 h2;obtain ⟨j,hj⟩:=hF k hk s hs;have hkj:fX l k j:=⟨s,hs,hj⟩;have hjl:=Yu hj;refine ih j hjl ?_ (by rw [Uy hj];exact hsC)
   have l1:(Jl l j).length=l.length:=X4 _;have l2:(Jl l k).length=l.length:=X4 _;rcases Zjy (b:=Jl l j) (c:=Jl l k) (by rw [l1,l2]) (fun x hx=>X5.2 (.more hkj (X5.1 hx))) with e|e
   ·have h1:(Jl l k).getD j false=true:=X5.2 (.one hkj);rw [←e,X5] at h1;exact absurd ⟨j,h1⟩ hA
   ·omega
theorem cB {l:List Xd} (hU:M3 l) (hF:fY l) (hA:¬ Znq l):∀ r,r≤l.length→(Yw l r).length=r
 | 0,_=>rfl
 | r+1,h=>by
  have ih:=cB hU hF hA r (by omega)
  obtain ⟨h1,h2,_,_⟩:=aY hU r;rcases lU l r with ⟨e,_,hno⟩|⟨y,e,_⟩
  ·have:∃ k,k<l.length∧nm l k∉Yw l r:=by
    apply Classical.byContradiction;intro hn;have hall:∀ s∈Jq l,s∈Yw l r:=fun s hs=>by
     obtain ⟨k,hk,rfl⟩:=Fg hs;apply Classical.byContradiction;intro hk2;exact hn ⟨k,hk,hk2⟩
    have:=T6 (Dv l) hall;rw [Zg1 hU] at this;omega
   obtain ⟨k,hk,hkC⟩:=this;obtain ⟨j,hj,hm⟩:=Zr5 hU hF hA _ k hk (Zl _) hkC;rw [hno _ (Zdy hU hj)] at hm;cases hm
  ·rw [e,Zh,ih];rfl
theorem Zvm {l:List Xd} (hU:M3 l) (h:Znq l):(Yw l l.length).length<l.length:=by
 obtain ⟨h1,h2,h3,h4⟩:=aY hU l.length;rcases Nat.lt_or_ge (Yw l l.length).length l.length with hlt|hge
 ·exact hlt
 ·obtain ⟨k,hk⟩:=h;have hkl:=(Zbz hk).1;have hin:nm l k∈Yw l l.length:=by
   apply Classical.byContradiction;intro hn;have:=T6 (a:=nm l k::Yw l l.length) (List.nodup_cons.2 ⟨hn,h1⟩) (fun s hs=>by
    rcases Zu.1 hs with rfl|hs
    ·exact Zdy hU hkl
    ·exact h2 s hs)
   rw [Zg1 hU,Zj] at this;omega
  exact absurd hk (h4 k hkl hin).2
theorem lE {l:List Xd} (hU:M3 l) {C:List (List UInt8)} (hC:∀ s∈C,s∈Jq l) {k:Nat} (hk:k<l.length):(k:Int)∈C.map (Ze4 (Qr l))↔nm l k∈C:=by
 rw [List.mem_map];constructor
 ·rintro ⟨s,hs,e⟩;obtain ⟨j,hj,rfl⟩:=Fg (hC s hs);rw [Ze3 hU hj] at e;rw [show k=j by omega]
  exact hs
 ·intro h;exact ⟨_,h,Ze3 hU hk⟩
theorem Zyl {l:List Xd} (hU:M3 l) (hF:fY l) {C:List (List UInt8)} (hC:∀ s∈C,s∈Jq l) {k:Nat} (hk:k<l.length):mayB l (C.map (Ze4 (Qr l))) k=Ew l C (nm l k):=by
 rw [Bool.eq_iff_iff,aO hU hk];unfold mayB Es;rw [Zk,Bool.not_eq_true',←Bool.not_eq_true,Tl,lE hU hC hk,Zf,List.all_eq_true];refine and_congr_right fun _=>forall_congr' fun s=>?_;constructor
 ·intro h hs;have:=h hs;rw [Tl] at this;obtain ⟨j,hj⟩:=hF k hk s hs;unfold Wb at this;rw [hj] at this;simp only at this;rw [lE hU hC (Yu hj),Uy hj] at this;exact this
 ·intro h hs;have:=h hs;rw [Tl];obtain ⟨j,hj⟩:=hF k hk s hs;unfold Wb;rw [hj];simp only;rw [lE hU hC (Yu hj),Uy hj];exact this
theorem Zoi {l:List Xd} (hU:M3 l) (hF:fY l) (hA:¬ Znq l):∀ r,r≤l.length→Gy l r=(Yw l r).map (Ze4 (Qr l))
 | 0,_=>rfl
 | r+1,h=>by
  have ih:=Zoi hU hF hA r (by omega)
  obtain ⟨_,h2,_,_⟩:=aY hU r;have hl1:=cB hU hF hA r (by omega)
  have hl2:=cB hU hF hA (r+1) h;rw [Gy,ih,Zl3 hU (p:=Ew l (Yw l r)) fun k hk=>by rw [Bf hk,Zyl hU hF h2 hk]]
  rcases lU l r with ⟨e,_,_⟩|⟨y,e,_,_,_,hb,hy⟩
  ·rw [e,hl1] at hl2;omega
  ·rw [hb,cond_false,←hy,e,List.map_append];rfl
theorem Zyw {l:List Xd} (hl:l.length≤20) (hU:M3 l) {k:Nat} (hk:k<l.length):((List.range l.length).map (Dj l)).getD k false=Ig l (Qr l) (nm l k):=by
 rw [Bf hk];unfold Ig;rw [Ze3 hU hk,Zf,Bool.eq_iff_iff,Sf,Zw6 hl];show (Jl l k).getD k false=true↔_;rw [X5];constructor
 ·intro h;exact ⟨k,rfl,h⟩
 ·rintro ⟨j,e,h⟩;have:k=j:=by omega
  subst this;exact h
theorem Zu6 {p:List UInt8→Bool} {ns:List (List UInt8)} {g:List UInt8→Int} (h:Yi (Yf p ns) 0=false):(match ns.find? p with|some s=>g s|none=>0)=g (ns.getD (Yf p ns).toNat []):=by
 rcases eE p ns [] with ⟨e,_⟩|⟨i,hi,e,hp,hno⟩
 ·rw [e] at h;cases h
 ·rw [Zqz [] hi hno hp,e,Zf]
theorem Ob {l:List Xd} (hf:aC l):Ev l=W9 l:=by
 have hl:=Tm hf;unfold Ev Zok W9;rw [Ztv];cases hd:(List.range l.length).find? (It l) with
 | some i=>rfl
 | none =>
  simp only;cases hk:(List.range l.length).find? (Bv l) with
  | some i=>rfl
  | none =>
   simp only;have hU:=Iy.1 hd;have hF:=Ov.1 hk;show cond false _ _=_;rw [cond_false]
   change cond (((Yw l l.length).length:Int)==(l.length:Int)) (Sl.mk ((Yw l l.length).map (Ze4 (Qr l))),(0:Int),(0:Int)) (Sl.mk [],(match (Jq l).find? (Ig l (Qr l)) with|some s=>Ze4 (Qr l) s|none=>0),8)=_
   by_cases hc:Znq l
   ·have h1:=Zvm hU hc;have h2:=(Fv hl).2 hc;rw [show (((Yw l l.length).length:Int)==(l.length:Int))=false by rw [Za];omega,cond_false,h2,cond_true]
    have h3:=Zl3 hU (is:=(List.range l.length).map (Dj l)) (p:=Ig l (Qr l)) fun k hk=>Zyw hl hU hk;have h4:Yi (Yf (Ig l (Qr l)) (Jq l)) 0=false:=by
     cases hb:Yi (Yf (Ig l (Qr l)) (Jq l)) 0 with
     | false=>rfl
     | true =>
      rw [hb,cond_true] at h3;rw [h3] at h2;cases h2
    rw [h4,cond_false] at h3;rw [Zu6 h4,h3]
   ·have h2:Wf 0 (W5 l ((List.range l.length).map (Dj l)) l.length)=false:=by
     rw [←Bool.not_eq_true,Fv hl];exact hc
    rw [h2,cond_false];have h3:=cB hU hF hc l.length (Zl _);rw [show (((Yw l l.length).length:Int)==(l.length:Int))=true by rw [Zm];omega,cond_true,Zoi hU hF hc l.length (Zl _)]
end Go.Am.Ty.Gr
namespace Go.Am.Ty
open Go.Proofs Go.Rose Go.Rose.Rose Gr
open Enc (enc dec)
noncomputable def Zlv (O:List Int) (P:List Mod6):Sl Mod6×Int×Int×Int :=
 if (Be P).2.2.2≠0 then (⟨[]⟩,0,O.getD (Be P).1.toNat 0,(Be P).2.2.2) else ((K0 P).1,(K0 P).2.1,0,(K0 P).2.2)
noncomputable def Zlu (l:List Mod6) (o:Sl Int×Int×Int):Sl Mod6×Int×Int×Int :=
 if o.2.2≠0 then (⟨[]⟩,0,o.2.1,o.2.2) else Zlv o.1.l (Xh l o.1.l)
noncomputable def M0 (l:List Mod6):Sl Mod6×Int×Int×Int:=Zlu l (W9 l)
theorem Zqv {l:List Mod6} (h:Goods l):FewN l :=
 ⟨h.few,fun k=>by
  show (l.getD k m0).name.length≤100;rcases Nat.lt_or_ge k l.length with hk|hk
  ·rw [Zd,Zg hk];have:=(h.good _ (List.getElem_mem hk)).name;simp only [Option.getD_some];omega
  ·rw [Zd,List.getElem?_eq_none hk];simp [m0]⟩
theorem eI {l:List Mod6} (h:Goods l):(Xh l (W9 l).1.l).length≤20∧∀ m∈Xh l (W9 l).1.l,Good9 m:=by
 have h20:=h.few.1;refine ⟨by unfold Xh;rw [Zo];exact fR h20,fun m hm=>?_⟩
 obtain ⟨x,hx,rfl⟩:=List.mem_map.1 hm;obtain ⟨k,rfl,hk⟩:=Fe h20 x hx;rw [Zf,Zd,Zg hk];exact h.good _ (List.getElem_mem hk)
theorem Zd1 {l:List Mod6} (h:Goods l) (he:(W9 l).2.2=0):Znp (Xh l (W9 l).1.l):=by
 obtain ⟨h1,h2,h3,h4⟩:=Oc h.few.1 he;rw [h4];exact (mL h1 h2 h3).1
noncomputable def Bm:Con:=Ei (fun (l:Sl Mod6)=>Goods l.l) (fun l=>M0 l.l)
noncomputable def bU:Con:=Ei (fun (l:Sl Mod6)=>Goods l.l) (fun l=>M0 l.l)
structure KjI:Prop
theorem KjI.k (_:KjI) (h:p:=by
 repeat' first|exact Z1|with_reducible apply Zb|intro _
 all_goals first|with_reducible exact Qo|omega|rfl|trivial|exact ⟨k+1,by (have Um:=hst;have Ix:=@Xf;exact Qk),by omega,by omega⟩|skip):p:=h
structure KjH:Prop
theorem KjH.k (_:KjH) (h:p:=by
 repeat' first|exact Z1|with_reducible apply Zb|intro _
 all_goals first|with_reducible exact Qo|omega|exact hF|exact hFf|skip
 refine Zi [11,30,31,32,33,34,35,36,37,38,39,40] (fun k:Nat=>[(29,.d (.int .i64 k)),(9,.sl 39 ((Xh l (O.take k)).map (enc:Mod6→D)).length)]) (fun k:Nat=>[(39,.row 4 ((Xh l (O.take k)).map enc) 0)]) (fun k:Nat=>k≤O.length) (fun k:Nat=>O.length-k) 0 ?_ ?_ ?_
 ·omega
 ·have Um:=@Xh.eq_1;exact Qk
 rintro k hk;have hpl:(Xh l (O.take k)).length≤20:=by unfold Xh;rw [Zo,List.length_take];omega
 rcases Zn k O.length with ⟨hlt,Qa⟩|⟨hlt,Qa⟩
 ·have Qc:=Zr (0:Int) hlt;obtain ⟨j,hj,hjl⟩:=hin (O.getD k 0) (by simp [hlt])
  have Qh:=Zr Js hjl;have hst:Xh l (O.take (k+1))=Xh l (O.take k)++[l.getD j Js]:=by
   unfold Xh;rw [Km (0:Int) hlt,List.map_append];simp only [List.map_cons,List.map_nil];rw [hj,Zf]
  rw [hj] at Qc;obtain ⟨P,hP⟩:=exq (Xh l (O.take k));rw [hP] at hst hpl ⊢;obtain ⟨m,hm⟩:=exq (l.getD j Js);rw [hm] at Qh hst;clear hin hF hcs;have Q4:=@Xf;have Kq:KjI:=⟨⟩;exact U6
 ·have hke:k=O.length:=by omega
  rw [hke,List.take_length];rw [hke] at Qa;have hPl:(Xh l O).length=O.length:=by unfold Xh;rw [Zo]
  obtain ⟨P,hP⟩:=exq (Xh l O);rw [hP] at hR2 hPn hPo hN hcs hp20 hPl ⊢;rcases hcs with ⟨Qp,-⟩|⟨a,d,s,Qp,hal,-⟩
  ·rw [Qp] at hR2;rw [if_neg (by simp)] at hR2
   obtain ⟨⟨⟨Q⟩,n,f⟩,Qz⟩:=exq (K0 P);rw [Qz] at hR2;subst hR2;exact Znt
  ·rw [Qp] at hR2;rw [if_pos (by simp)] at hR2
   simp only [Zf] at hR2;have Qv:=Zr (0:Int) (show a<O.length by omega)
   obtain ⟨v,hv⟩:=exq (O.getD a 0);rw [hv] at hR2 Qv;subst hR2;exact Znt):p:=h
theorem good_ProgramS:Qq Tryz.prog (26,Bm):=by
 obtain ⟨Kx,Kt,Kc,Kd,Kb,Ku,Kw,K,W4,Gd,M4,_⟩:=X2 Z4 Zq [] false (Jh good_OrderG A1.eq_def (Jh good_NamesS Li.eq_def (Jh good_NumberS Sr.eq_def X1)));have Ko:=Bm.eq_def;refine Wh K Tryz.func26 [.tmp 2,.tmp 3,.tmp 4,.tmp 5] rfl 64 rfl (fun c hc cvs hpre=>?_);unfold Bm at hpre;obtain ⟨⟨l⟩,rfl,hGd⟩:=cJ hpre;simp only at hGd;clear hpre;obtain ⟨R,Z6⟩:=exq (M0 l);have hR2:=Z6;unfold M0 Zlu at hR2;have hF:=Zqv hGd;have hFf:=hF.few;have h20:=hFf.1;have hin:=Fe h20;have hol:=fR h20;obtain ⟨hp20,hpG⟩:=eI hGd;have hpD:=Zd1 hGd;have Qd:=Ob hFf;obtain ⟨⟨⟨O⟩,b,e⟩,hO⟩:=exq (W9 l);rw [hO] at hR2 hin hol hp20 hpG hpD Qd;simp only at hR2 hin hol hp20 hpG hpD;cases hc;refine Yv 4 ?_;cases Qe:(e != 0) with
 | true =>
  have he2:e≠0:=by simpa using Qe
  rw [if_pos he2] at hR2;subst hR2;exact Znt
 | false =>
  have he2:e=0:=by simpa using Qe
  rw [if_neg (by rw [he2];simp)] at hR2
  have hD:=hpD he2;have hPn:=Aa hp20 hpG hD;have hPo:=hPn.ok;have hN:=Zmd hp20 hpG;unfold Zlv at hR2;have hcs:=Rr (Xh l O);clear hpD hpG hGd;have Kq:KjH:=⟨⟩;exact U6
structure KjK:Prop
theorem KjK.k (_:KjK) (h:p:=by
 repeat' first|exact Z1|with_reducible apply Zb|intro _
 all_goals first|with_reducible exact Qo|omega|rfl|trivial|exact ⟨k+1,by (have Um:=hst;have Ix:=@Xf;exact Qk),by omega,by omega⟩|skip):p:=h
structure KjJ:Prop
theorem KjJ.k (_:KjJ) (h:p:=by
 repeat' first|exact Z1|with_reducible apply Zb|intro _
 all_goals first|with_reducible exact Qo|omega|exact hF|exact hFf|skip
 refine Zi [29,30,31,32,33,34,35,36,37,38,39,40,41,42,43,44] (fun k:Nat=>[(10,.d (.int .i64 k)),(9,.sl 28 ((Xh l (O.take k)).map (enc:Mod6→D)).length)]) (fun k:Nat=>[(28,.row 4 ((Xh l (O.take k)).map enc) 0)]) (fun k:Nat=>k≤O.length) (fun k:Nat=>O.length-k) 0 ?_ ?_ ?_
 ·omega
 ·have Um:=@Xh.eq_1;exact Qk
 rintro k hk;have hpl:(Xh l (O.take k)).length≤20:=by unfold Xh;rw [Zo,List.length_take];omega
 rcases Zn k O.length with ⟨hlt,Qa⟩|⟨hlt,Qa⟩
 ·have Qc:=Zr (0:Int) hlt;obtain ⟨j,hj,hjl⟩:=hin (O.getD k 0) (by simp [hlt])
  have Qh:=Zr Js hjl;have hst:Xh l (O.take (k+1))=Xh l (O.take k)++[l.getD j Js]:=by
   unfold Xh;rw [Km (0:Int) hlt,List.map_append];simp only [List.map_cons,List.map_nil];rw [hj,Zf]
  rw [hj] at Qc;obtain ⟨P,hP⟩:=exq (Xh l (O.take k));rw [hP] at hst hpl ⊢;obtain ⟨m,hm⟩:=exq (l.getD j Js);rw [hm] at Qh hst;clear hin hF hcs;have Q4:=@Xf;have Kq:KjK:=⟨⟩;exact U6
 ·have hke:k=O.length:=by omega
  rw [hke,List.take_length];rw [hke] at Qa;have hPl:(Xh l O).length=O.length:=by unfold Xh;rw [Zo]
  obtain ⟨P,hP⟩:=exq (Xh l O);rw [hP] at hR2 hPn hPo hN hcs hp20 hPl ⊢;rcases hcs with ⟨Qp,-⟩|⟨a,d,s,Qp,hal,-⟩
  ·rw [Qp] at hR2;rw [if_neg (by simp)] at hR2
   obtain ⟨⟨⟨Q⟩,n,f⟩,Qz⟩:=exq (K0 P);rw [Qz] at hR2;subst hR2;exact Znt
  ·rw [Qp] at hR2;rw [if_pos (by simp)] at hR2
   simp only [Zf] at hR2;have Qv:=Zr (0:Int) (show a<O.length by omega)
   obtain ⟨v,hv⟩:=exq (O.getD a 0);rw [hv] at hR2 Qv;subst hR2;exact Znt):p:=h
theorem good_Made9:Qq Tryz.prog (27,bU):=by
 obtain ⟨Kx,Kt,Kc,Kd,Kb,Ku,Kw,K,W4,Gd,M4,_⟩:=X2 Z4 Zq [] false (Jh good_Order8 Dd.eq_def (Jh good_Names9 De.eq_def (Jh good_Number9 Eg.eq_def X1)));have Ko:=bU.eq_def;refine Wh K Tryz.func27 [.tmp 2,.tmp 3,.tmp 4,.tmp 5] rfl 68 rfl (fun c hc cvs hpre=>?_);unfold bU at hpre;obtain ⟨⟨l⟩,rfl,hGd⟩:=cJ hpre;simp only at hGd;clear hpre;obtain ⟨R,Z6⟩:=exq (M0 l);have hR2:=Z6;unfold M0 Zlu at hR2;have hF:=Zqv hGd;have hFf:=hF.few;have h20:=hFf.1;have hin:=Fe h20;have hol:=fR h20;obtain ⟨hp20,hpG⟩:=eI hGd;have hpD:=Zd1 hGd;have heq:=Ob hFf;obtain ⟨⟨⟨O⟩,b,e⟩,Qd⟩:=exq (W9 l);rw [Qd] at hR2 hin hol hp20 hpG hpD heq;simp only at hR2 hin hol hp20 hpG hpD;cases hc;refine Yv 4 ?_;cases Qe:(e != 0) with
 | true =>
  have he2:e≠0:=by simpa using Qe
  rw [if_pos he2] at hR2;subst hR2;exact Znt
 | false =>
  have he2:e=0:=by simpa using Qe
  rw [if_neg (by rw [he2];simp)] at hR2
  have hD:=hpD he2;have hPn:=Aa hp20 hpG hD;have hPo:=hPn.ok;have hN:=Zmd hp20 hpG;unfold Zlv at hR2;have hcs:=Rr (Xh l O);clear hpD hpG hGd;have Kq:KjJ:=⟨⟩;exact U6
def con_ScopeProgram:Con:=Xj (fun (_:Tx9)=>True) (fun _=>true)
theorem Zlb {l:List Mod6} (h:Goods l):Lo (M0 l).1.l.length∧∀ m∈(M0 l).1.l,In6 m:=by
 obtain ⟨hp20,hpG⟩:=eI h;unfold M0 Zlu;split
 ·exact ⟨by show 0≤_;omega,fun m hm=>(by cases hm)⟩
 ·unfold Zlv;split
  ·exact ⟨by show 0≤_;omega,fun m hm=>(by cases hm)⟩
  ·exact Zyi hp20 hpG
structure KjL:Prop
theorem KjL.k (_:KjL) (h:p:=by
 repeat' first|exact Z1|with_reducible apply Zb|intro _
 all_goals first|with_reducible exact Qo|omega|exact hg|exact hP|exact hP.2 _ (by assumption)|rfl|trivial|skip):p:=h
theorem good_ScopeProgram:Qq Tryz.prog (7,con_ScopeProgram):=by
 obtain ⟨Kx,Kt,Kc,Kd,Kb,Ku,Kw,K,W4,Gd,M4,Ln,Ek,_⟩:=X2 Z4 Zq [] false (Jh good_Read9 Cb.eq_def (Jh D9 Pq.eq_def (Jh good_ProgramS Bm.eq_def (Jh good_Made9 bU.eq_def (Jh good_Same9 Fp.eq_def X1)))));have Ko:=con_ScopeProgram.eq_def;refine Wh K Tryz.func7 [.tmp 2] rfl 56 rfl (fun c hc cvs hpre=>?_);unfold con_ScopeProgram at hpre;obtain ⟨⟨names,texts⟩,rfl,-⟩:=Jr hpre;clear hpre;have hg:=Cn ⟨names,texts⟩;obtain ⟨⟨l,ok⟩,Qd⟩:=exq (Dq ⟨names,texts⟩);rw [Qd] at hg;simp only at hg;have hP:=Zlb hg;cases hc;refine Yv 3 ?_;cases ok with
 | false =>
  exact Zwd
 | true =>
  obtain ⟨⟨⟨P⟩,n,b,e⟩,Qe⟩:=exq (M0 l);rw [Qe] at hP;simp only at hP;have Z6:(P==P)=true:=beq_self_eq_true P;have Qa:=fun x:Int=>beq_self_eq_true x;have Kq:KjL:=⟨⟩;exact U6
end Go.Am.Ty
namespace Go.Am.Ty.Gr
open Go.Proofs
open Enc (enc dec)
theorem Zp6 {l:List Xd} (h:aC l):aC l.reverse:=by
 refine ⟨by rw [List.length_reverse];exact h.1,fun k=>?_⟩
 show (l.reverse.getD k m0).imps.length≤2000;rcases Nat.lt_or_ge k l.length with hk|hk
 ·have:l.reverse.getD k m0=l.getD (l.length-1-k) m0:=by
   rw [Zd,Zd,List.getElem?_reverse hk]
  rw [this];exact h.2 _
 ·rw [Zd,List.getElem?_eq_none (by rw [List.length_reverse];exact hk)]
  simp [m0]
inductive Ends (l:List Xd):Sl Int×Int×Int→Prop
 | dup (i:Nat):(List.range l.length).find? (It l)=some i→¬ M3 l→Ends l (⟨[]⟩,(i:Int),7)
 | lack (i:Nat):(List.range l.length).find? (Bv l)=some i→M3 l→¬ fY l→Ends l (⟨[]⟩,(i:Int),6)
 | cyc (k:Nat):M3 l→fY l→Znq l→k<l.length→W5 l ((List.range l.length).map (Dj l)) l.length=k→Ends l (⟨[]⟩,(k:Int),8)
 | fine:M3 l→fY l→¬ Znq l→Ends l (⟨(Yw l l.length).map (Ze4 (Qr l))⟩,0,0)
theorem Zq2 {l:List Xd} (hf:aC l):Ends l (Ev l):=by
 have hl:=Tm hf;rw [Ob hf];unfold W9;cases hd:(List.range l.length).find? (It l) with
 | some i=>exact .dup i hd fun h=>by rw [Iy.2 h] at hd;cases hd
 | none =>
  simp only;have hU:=Iy.1 hd;cases hk:(List.range l.length).find? (Bv l) with
  | some i=>exact .lack i hk hU fun h=>by rw [Ov.2 h] at hk;cases hk
  | none =>
   simp only;have hF:=Ov.1 hk;by_cases hc:Znq l
   ·have h2:=(Fv hl).2 hc;rw [h2,cond_true];rw [Qx] at h2;rcases Ze0 l ((List.range l.length).map (Dj l)) l.length with h|⟨h3,h4⟩
    ·omega
    ·obtain ⟨k,hk⟩:∃ k:Nat,W5 l ((List.range l.length).map (Dj l)) l.length=k:=⟨_,(Int.toNat_of_nonneg h3).symm⟩;rw [hk];exact .cyc k hU hF hc (by omega) hk
   ·have h2:Wf 0 (W5 l ((List.range l.length).map (Dj l)) l.length)=false:=by
     rw [←Bool.not_eq_true,Fv hl];exact hc
    rw [h2,cond_false,Zoi hU hF hc l.length (Zl _)];exact .fine hU hF hc
theorem Zml {l:List Xd} {s:List UInt8}:(∃ j,Xv l s=some j)↔∃ k,k<l.length∧nm l k=s :=
 ⟨fun ⟨j,h⟩=>⟨j,Yu h,Uy h⟩,fun ⟨k,h,e⟩=>by subst e;obtain ⟨j,h1,_⟩:=Ox h;exact ⟨j,h1⟩⟩
theorem Zwi {l:List Xd} (h:∀ a b,a<l.length→b<l.length→nm l a=nm l b→a=b):M3 l:=fun k hk=>by
 obtain ⟨j,h1,h2⟩:=Ox hk;rw [h1,h j k (Yu h1) hk (Uy h1)]
structure Alike8 (l r:List Xd):Prop where
 ul:M3 l
 ur:M3 r
 lr:∀ k,k<l.length→∃ j,j<r.length∧nm r j=nm l k∧imp r j=imp l k
 rl:∀ j,j<r.length→∃ k,k<l.length∧nm l k=nm r j∧imp l k=imp r j
theorem Alike8.symm {l r:List Xd} (h:Alike8 l r):Alike8 r l:=⟨h.ur,h.ul,h.rl,h.lr⟩
theorem Alike8.mem {l r:List Xd} (h:Alike8 l r) (s:List UInt8):s∈Jq l↔s∈Jq r:=by
 rw [G8,G8,Zml,Zml];exact ⟨fun ⟨k,hk,e⟩=>by obtain ⟨j,hj,e2,_⟩:=h.lr k hk;exact ⟨j,hj,e2.trans e⟩,fun ⟨k,hk,e⟩=>by obtain ⟨j,hj,e2,_⟩:=h.rl k hk;exact ⟨j,hj,e2.trans e⟩⟩
theorem Alike8.names {l r:List Xd} (h:Alike8 l r):Jq l=Jq r :=
 List.Perm.eq_of_pairwise (le:=fun a b=>a≤b) (fun a b _ _ h1 h2=>List.le_antisymm h1 h2) (Rq l) (Rq r) ((List.perm_ext_iff_of_nodup (Dv l) (Dv r)).2 h.mem)
theorem Alike8.may {l r:List Xd} (h:Alike8 l r) {C:List (List UInt8)} {s:List UInt8} (hs:s∈Jq l):Ew l C s=Ew r C s:=by
 obtain ⟨k,hk,rfl⟩:=Fg hs;obtain ⟨j,hj,e1,e2⟩:=h.lr k hk;rw [Bool.eq_iff_iff,aO h.ul hk,←e1,aO h.ur hj,e2]
theorem Zoy {α:Type} {p q:α→Bool} {l:List α} (h:∀ x∈l,p x=q x):Yf p l=Yf q l:=by
 unfold Yf;have:l.findIdx? p=l.findIdx? q:=by
  induction l with
  | nil=>rfl
  | cons x l ih=>rw [List.findIdx?_cons,List.findIdx?_cons,h x (List.mem_cons_self ..),ih fun y hy=>h y (List.mem_cons_of_mem _ hy)]
 rw [this]
theorem Alike8.cameS {l r:List Xd} (h:Alike8 l r):∀ n,Yw l n=Yw r n
 | 0=>rfl
 | n+1=>by
  have ih:=h.cameS n;have e1:Yw l (n+1)=cond (Yi (Yf (Ew l (Yw l n)) (Jq l)) 0) (Yw l n) (Yw l n++[(Jq l).getD (Yf (Ew l (Yw l n)) (Jq l)).toNat []]):=rfl;have e2:Yw r (n+1)=cond (Yi (Yf (Ew r (Yw r n)) (Jq r)) 0) (Yw r n) (Yw r n++[(Jq r).getD (Yf (Ew r (Yw r n)) (Jq r)).toNat []]):=rfl;rw [e1,e2,ih,Zoy (q:=Ew r (Yw r n)) (l:=Jq l) fun x hx=>h.may hx,h.names]
theorem Alike8.succ {l r:List Xd} (h:Alike8 l r) {k j k' j':Nat} (hs:fX l k j) (hk:k'<r.length) (ek:nm r k'=nm l k) (hj:j'<r.length) (ej:nm r j'=nm l j):fX r k' j':=by
 obtain ⟨s,hs,hf⟩:=hs;have hkl:=(F8 ⟨s,hs,hf⟩:k<l.length∧j<l.length).1;obtain ⟨k2,hk2,e1,e2⟩:=h.lr k hkl;have:k'=k2:=P9 h.ur hk hk2 (ek.trans e1.symm);subst this;refine ⟨s,by rw [e2];exact hs,?_⟩
 rw [←Uy hf,←ej];exact h.ur j' hj
theorem Alike8.path {l r:List Xd} (h:Alike8 l r) {k j:Nat} (hp:Path l k j):∀ {k' j':Nat},k'<r.length→nm r k'=nm l k→j'<r.length→nm r j'=nm l j→Path r k' j':=by
 induction hp with
 | one hs=>intro k' j' hk ek hj ej;exact .one (h.succ hs hk ek hj ej)
 | more hs hp ih =>
  intro k' j' hk ek hj ej;obtain ⟨i',hi,ei,_⟩:=h.lr _ (F8 hs).2;exact .more (h.succ hs hk ek hi ei) (ih hi ei hj ej)
theorem Alike8.cyc {l r:List Xd} (h:Alike8 l r):Znq l→Znq r:=fun ⟨k,hk⟩=>by
 obtain ⟨j,hj,e,_⟩:=h.lr k (Zbz hk).1;exact ⟨j,h.path hk hj e hj e⟩
theorem Alike8.full {l r:List Xd} (h:Alike8 l r) (hF:fY l):fY r:=fun j hj s hs=>by
 obtain ⟨k,hk,e1,e2⟩:=h.rl j hj;obtain ⟨i,hi⟩:=hF k hk s (by rw [e2];exact hs)
 have:s∈Jq l:=G8.2 ⟨i,hi⟩;exact G8.1 ((h.mem s).1 this)
theorem eQ {l:List Xd} {k:Nat} (hk:k<l.length):l.reverse.getD k m0=l.getD (l.length-1-k) m0:=by
 rw [Zd,Zd,List.getElem?_reverse hk]
theorem Zk0 {l:List Xd} (h:M3 l):M3 l.reverse:=Zwi fun a b ha hb e=>by
 rw [List.length_reverse] at ha hb;unfold nm at e;rw [eQ ha,eQ hb] at e;have:=P9 h (a:=l.length-1-a) (b:=l.length-1-b) (by omega) (by omega) e
 omega
theorem kS {l:List Xd} (h:M3 l):Alike8 l l.reverse:=by
 refine ⟨h,Zk0 h,fun k hk=>⟨l.length-1-k,by rw [List.length_reverse];omega,?_,?_⟩,fun j hj=>?_⟩
 ·unfold nm;rw [eQ (by omega),show l.length-1-(l.length-1-k)=k by omega]
 ·unfold imp;rw [eQ (by omega),show l.length-1-(l.length-1-k)=k by omega]
 ·rw [List.length_reverse] at hj;refine ⟨l.length-1-j,by omega,?_,?_⟩
  ·unfold nm;rw [eQ hj]
  ·unfold imp;rw [eQ hj]
def Zy1 (l:List Xd) (A B:Sl Int×Int×Int):Prop:=A.2.2=B.2.2∧A.1.l.length=B.1.l.length ∧
 (∀ i,i<A.1.l.length→∃ p q:Nat,A.1.l.getD i 0=p∧B.1.l.getD i 0=q∧p<l.length∧q<l.length∧nm l p=nm l.reverse q) ∧
 (A.2.2=8→∃ p q:Nat,A.2.1=p∧B.2.1=q∧p<l.length∧q<l.length∧nm l p=nm l.reverse q)
theorem Zmw {l:List Xd} {k:Nat} (hk:k<l.length) (h:W5 l ((List.range l.length).map (Dj l)) l.length=k):Path l k k∧∀ j,Path l j j→nm l k≤nm l j:=by
 rcases Ll (l:=l) (is:=(List.range l.length).map (Dj l)) l.length with ⟨h2,_⟩|⟨k',h2,hk',his,hle⟩
 ·rw [h] at h2;omega
 ·rw [h] at h2;have:k=k':=by omega
  subst this;rw [Bf hk] at his;refine ⟨X5.1 his,fun j hj=>?_⟩;have hjl:=(Zbz hj).1;exact hle j hjl (by rw [Bf hjl];exact X5.2 hj)
theorem Zwk {l:List Xd} (hf:aC l):Zy1 l (Ev l) (Ev l.reverse):=by
 have h1:=Zq2 hf;have h2:=Zq2 (Zp6 hf);generalize Ev l=A at h1;generalize Ev l.reverse=B at h2;have hUU:M3 l.reverse→M3 l:=fun h=>by have:=Zk0 h;rwa [List.reverse_reverse] at this
 have nope:∀ {P:Nat→Prop},∀ i,i<([]:List Int).length→P i:=fun i h=>absurd h (Nat.not_lt_zero _);cases h1 with
 | dup i _ nu =>
  cases h2 with
  | dup=>exact ⟨rfl,rfl,nope,fun h=>(by cases h)⟩
  | lack _ _ u=>exact absurd (hUU u) nu
  | cyc _ u=>exact absurd (hUU u) nu
  | fine u=>exact absurd (hUU u) nu
 | lack i _ u nf =>
  have al:=kS u;cases h2 with
  | dup _ _ nu=>exact absurd al.ur nu
  | lack=>exact ⟨rfl,rfl,nope,fun h=>(by cases h)⟩
  | cyc _ _ f=>exact absurd (al.symm.full f) nf
  | fine _ f=>exact absurd (al.symm.full f) nf
 | cyc k u f c hk hb =>
  have al:=kS u;cases h2 with
  | dup _ _ nu=>exact absurd al.ur nu
  | lack _ _ _ nf=>exact absurd (al.full f) nf
  | cyc k' _ _ _ hk' hb' =>
   have hk2:=hk';rw [List.length_reverse] at hk2;refine ⟨rfl,rfl,nope,fun _=>⟨k,k',rfl,rfl,hk,hk2,?_⟩⟩;obtain ⟨a1,a2⟩:=Zmw hk hb;obtain ⟨b1,b2⟩:=Zmw hk' hb';obtain ⟨j,hj,e,_⟩:=al.lr k hk;obtain ⟨j',hj',e',_⟩:=al.rl k' hk';have c1:=b2 j (al.path a1 hj e hj e);have c2:=a2 j' (al.symm.path b1 hj' e' hj' e');rw [e] at c1;rw [e'] at c2;exact List.le_antisymm c2 c1
  | fine _ _ a=>exact absurd (al.cyc c) a
 | fine u f a =>
  have al:=kS u;cases h2 with
  | dup _ _ nu=>exact absurd al.ur nu
  | lack _ _ _ nf=>exact absurd (al.full f) nf
  | cyc _ _ _ c=>exact absurd (al.symm.cyc c) a
  | fine _ _ _ =>
   have hc:=al.cameS l.length;rw [List.length_reverse,←hc];refine ⟨rfl,by simp,fun i hi=>?_,fun h=>(by cases h)⟩
   simp only [Zo] at hi;obtain ⟨_,n1,_,_⟩:=aY u l.length;have hin:(Yw l l.length)[i]∈Jq l:=n1 _ (List.getElem_mem hi);obtain ⟨p,hp,ep⟩:=Fg hin;obtain ⟨q,hq,eq,_⟩:=al.lr p hp;have hq2:=hq;rw [List.length_reverse] at hq2;refine ⟨p,q,?_,?_,hp,hq2,eq.symm⟩
   ·simp [hi,←ep,Ze3 u hp]
   ·simp [hi,←ep,←eq,Ze3 al.ur hq]
end Go.Am.Ty.Gr
namespace Go.Am.Ty
open Go.Proofs Go.Rose Go.Rose.Rose Gr
open Enc (enc dec)
def rv (l:List Mod6) (j:Nat):List Mod6:=(l.drop j).reverse
theorem Zwr {l:List Mod6}:rv l l.length=[]:=by unfold rv;rw [List.drop_length];rfl
theorem Zwp {l:List Mod6}:rv l 0=l.reverse:=rfl
theorem Zwq {l:List Mod6} {c:Nat} (h:c<l.length):rv l c=rv l (c+1)++[l.getD c Js]:=by
 unfold rv;rw [List.drop_eq_getElem_cons h,List.reverse_cons,show l[c]=l.getD c Js by simp [h]]
theorem Zyc {l:List Mod6} {j:Nat}:(rv l j).length≤l.length:=by
 unfold rv;rw [List.length_reverse,List.length_drop];omega
theorem Zsy {l:List Mod6} (h:Goods l):Goods l.reverse :=
 ⟨by rw [List.length_reverse];exact h.len,fun m hm=>h.good m (List.mem_reverse.1 hm)⟩
theorem Zr7 {l:List Mod6} {O O':List Int} (hU:M3 l) (hl:O.length=O'.length)
  (h:∀ i,i<O.length→∃ p q:Nat,O.getD i 0=p∧O'.getD i 0=q∧p<l.length∧q<l.length∧nm l p=nm l.reverse q):Xh l O=Xh l.reverse O':=by
 unfold Xh;refine List.ext_getElem (by rw [Zo,Zo,hl]) fun i h1 h2=>?_
 rw [Zo] at h1 h2;obtain ⟨p,q,e1,e2,hp,hq,e⟩:=h i h1;rw [List.getElem_map,List.getElem_map];have f1:O[i]=(p:Int):=by rw [←e1];simp [h1]
 have f2:O'[i]=(q:Int):=by rw [←e2];simp [h2]
 rw [f1,f2,Zf,Zf];show l.getD p m0=l.reverse.getD q m0;have hr:=eQ (l:=l) hq;have e3:nm l.reverse q=nm l (l.length-1-q):=by
  unfold nm;rw [hr]
 rw [e3] at e;have:=P9 hU hp (by omega) e
 rw [hr,this]
theorem Zso {l:List Mod6} (h:Goods l):(M0 l).2.2.2=(M0 l.reverse).2.2.2∧(M0 l).2.1=(M0 l.reverse).2.1∧(M0 l).1.l=(M0 l.reverse).1.l ∧
  ((M0 l).2.2.2=7∨(M0 l).2.2.2=6→(M0 l).1.l.length=0):=by
 have t:=Zwk h.few;rw [Ob h.few,Ob (Zp6 h.few)] at t;obtain ⟨t1,t2,t3,_⟩:=t;unfold M0 Zlu;by_cases he:(W9 l).2.2=0
 ·have hU:=(Oc h.few.1 he).1;have hp:=Zr7 hU t2 t3;rw [if_neg (by rw [he];simp),if_neg (by rw [←t1,he];simp),←hp]
  obtain ⟨P,hP⟩:=exq (Xh l (W9 l).1.l);rw [hP];unfold Zlv;by_cases hn:(Be P).2.2.2=0
  ·rw [if_neg (by rw [hn];simp),if_neg (by rw [hn];simp)]
   refine ⟨rfl,rfl,rfl,fun hh=>?_⟩;simp only at hh;unfold K0 at hh;split at hh
   ·simp at hh
   ·simp at hh
  ·rw [if_pos hn,if_pos hn];exact ⟨rfl,rfl,rfl,fun _=>rfl⟩
 ·rw [if_pos he,if_pos (by rw [←t1];exact he)]
  exact ⟨t1,rfl,rfl,fun _=>rfl⟩
def con_ScopeTurned:Con:=Xj (fun (_:Tx9)=>True) (fun _=>true)
structure KjN:Prop
theorem KjN.k (_:KjN) (h:p:=by
 repeat' first|exact Z1|with_reducible apply Zb|intro _
 all_goals first|with_reducible exact Qo|omega|exact hg|exact hr|exact hP|exact hP.2 _ (by assumption)|rfl|trivial|skip):p:=h
structure KjO:Prop
theorem KjO.k (_:KjO) (h:p:=by
 repeat' first|exact Z1|with_reducible apply Zb|intro _
 all_goals first|with_reducible exact Qo|omega|exact ⟨c,by (have Um:=hst;have Ix:=@Xf;exact Qk),by omega,by omega⟩|skip):p:=h
structure KjM:Prop
theorem KjM.k (_:KjM) (h:p:=by
 repeat' first|exact Z1|with_reducible apply Zb|intro _
 all_goals first|with_reducible exact Qo|omega|skip
 refine Zi [27,28,29,30,31,32,33,34,35,36,37] (fun j:Nat=>[(6,.d (.int .i64 ((j:Int)-1))),(5,.sl 23 ((rv l j).map (enc:Mod6→D)).length)]) (fun j:Nat=>[(23,.row 4 ((rv l j).map enc) 0)]) (fun j:Nat=>j≤l.length) (fun j:Nat=>j) l.length ?_ ?_ ?_
 ·exact Zl _
 ·have Um:=@Zwr;exact Qk
 rintro j hj;rcases Int.lt_or_le ((j:Int)-1) 0 with hneg|hpos
 ·have hj0:j=0:=by omega
  subst hj0;rw [Zwp];have hc:((0:Nat):Int)-1=-1:=rfl;rw [hc];have Qe:Wf 0 (-1:Int)=false:=rfl;obtain ⟨⟨⟨P⟩,n,b,e⟩,Z6⟩:=exq (M0 l);obtain ⟨⟨⟨Q⟩,k,d,f⟩,Qa⟩:=exq (M0 l.reverse);obtain ⟨L,hL⟩:=exq (l.reverse);rw [hL] at Qa hr ht ⊢;rw [Z6] at hP;rw [Z6,Qa] at ht;simp only at hP ht;obtain ⟨rfl,rfl,rfl,h0⟩:=ht;have Qz:(P==P)=true:=beq_self_eq_true P;have Qv:=fun x:Int=>beq_self_eq_true x;by_cases h7:e=7
  ·subst h7;have Qc:((P.length:Int)==0)=true:=by rw [Zm,h0 (.inl rfl)];rfl
   exact Znt
  by_cases h6:e=6
  ·subst h6;have Qc:((P.length:Int)==0)=true:=by rw [Zm,h0 (.inr rfl)];rfl
   exact Znt
  have Qh:(e==7)=false:=by rw [Za];exact h7
  have Qp:(e==6)=false:=by rw [Za];exact h6
  clear h0;have Kq:KjN:=⟨⟩;exact U6
 ·obtain ⟨c,rfl⟩:∃ c,j=c+1:=⟨j-1,by omega⟩
  have hc:((c+1:Nat):Int)-1=(c:Nat):=by omega
  rw [hc];have hcl:c<l.length:=by omega
  have Qe:Wf 0 (c:Int)=true:=by rw [Qx];omega
  have Q4:=Zr Js hcl;have hst:=Zwq hcl;have hrl:=Zyc (l:=l) (j:=c+1);obtain ⟨P,hPq⟩:=exq (rv l (c+1));rw [hPq] at hst hrl ⊢;obtain ⟨m,hm⟩:=exq (l.getD c Js);rw [hm] at Q4 hst;clear ht hP;have Z0:=@Xf;have Kq:KjO:=⟨⟩;exact U6):p:=h
theorem good_ScopeTurned:Qq Tryz.prog (8,con_ScopeTurned):=by
 obtain ⟨Kx,Kt,Kc,Kd,Kb,Ku,Kw,K,W4,Gd,M4,Ln,_⟩:=X2 Z4 Zq [] false (Jh good_Read9 Cb.eq_def (Jh D9 Pq.eq_def (Jh good_ProgramS Bm.eq_def (Jh good_Same9 Fp.eq_def X1))));have Ko:=con_ScopeTurned.eq_def;refine Wh K Tryz.func8 [.tmp 2] rfl 89 rfl (fun c hc cvs hpre=>?_);unfold con_ScopeTurned at hpre;obtain ⟨⟨names,texts⟩,rfl,-⟩:=Jr hpre;clear hpre;have hg:=Cn ⟨names,texts⟩;obtain ⟨⟨l,ok⟩,Qd⟩:=exq (Dq ⟨names,texts⟩);rw [Qd] at hg;simp only at hg;have hP:=Zlb hg;have hr:=Zsy hg;have h6:=hg.len;have ht:=Zso hg;cases hc;refine Yv 5 ?_;cases ok with
 | false =>
  exact Zwd
 | true =>
  have Kq:KjM:=⟨⟩;exact U6
end Go.Am.Ty
