/- Contracts of functions that the law reaches, and plain laws. Conditions: those that each contract states. -/
import Derived.Test.YtilpfkjhahnfaaaGreatK8
set_option maxHeartbeats 8000000
set_option linter.unusedVariables false
set_option linter.unusedSimpArgs false
set_option maxRecDepth 100000
namespace Go.Am.Ty
open Go.Proofs
open Enc (enc dec)
def Wp {A B R S T:Type} [Enc A] [Enc B] [Enc R] [Enc S] [Enc T] (p:A→B→Prop) (f:A→B→R×S×T):Con:=⟨[false,false],[false,false,false],fun c=>match c with
 | [.d x,.d y]=>Up A x∧Up B y∧p (dec x) (dec y)
 | _=>False,fun c=>match c with
 | [.d x,.d y]=>.tup [.d (enc (f (dec x) (dec y)).1),.d (enc (f (dec x) (dec y)).2.1),.d (enc (f (dec x) (dec y)).2.2)]
 | _=>.d .nilp⟩
theorem Ec:type_of% @Wp.eq_def:=@Wp.eq_def
theorem Dw {A B R S T:Type} [Enc A] [Enc B] [Enc R] [Enc S] [Enc T] {p:A→B→Prop} {f:A→B→R×S×T} {c:List CV} (h:(Wp p f).pre c):∃ a b,c=[.d (enc a),.d (enc b)]∧p a b:=by
 unfold Wp at h;simp only at h;split at h
 ·next x y=>exact ⟨dec x,dec y,by rw [←h.1,←h.2.1],h.2.2⟩
 ·exact h.elim
structure ImpS (l:List Tok) (f:Nat) (s:St6) (imps:List (List UInt8)):Prop where
 pos:Pos l s
 sites:s.sites=[]
 room:s.e=0→(l.length:Int)+1≤f+s.at_
 cnt:imps.length+f=l.length+1
 short:∀ x∈imps,x.length≤1000000
 fuel:1≤f
theorem ImpS.next {l:List Tok} (hT:Toks l) {f:Nat} {s:St6} {imps:List (List UInt8)} (h:ImpS l (f+1) s imps) (hi:T0 l s 6 [105,109,112,111,114,116]=true) :
  ImpS l f (Qb l (Q7 l (Xh s) 1).2 5 [59]) (imps++[(Q7 l (Xh s) 1).1]):=by
 have q1:=(Sq.refl h.pos).tok (by omega) (Ae h.pos hi)
 have q2:=q1.tok (by omega) (N6 q1.adv.pos 1)
 have q3:=q2.tok (by omega) (J2 q2.adv.pos 5 [59])
 have hlt:=Lk hi;refine ⟨q3.adv.pos,?_,fun he=>?_,?_,fun x hx=>?_,?_⟩
 ·rw [Cw,Cy];exact h.sites
 ·have h1:=h.room hlt.1;have h2:=(q3.adv.gain he).2;have h3:=(q3.adv.gain he).1;omega
 ·have:=h.cnt;simp only [Zj,Zi,List.length_nil];omega
 ·rcases List.mem_append.1 hx with hx|hx
  ·exact h.short x hx
  ·rw [Zr] at hx;subst hx;exact X2 hT _ _
 ·have:=h.room hlt.1;omega
structure DefS (l:List Tok) (f:Nat) (s:St6) (defs:List Def6) (pl:List Int):Prop where
 inn:St6In l s
 cnt:defs.length+f=201
 len:defs.length≤200
 pls:pl.length=defs.length
theorem DefS.next {l:List Tok} (hT:Toks l) {f:Nat} {s:St6} {defs:List Def6} {pl:List Int} (h:DefS l (f+1) s defs pl) (hi:T0 l s 6 [100,101,102]=true) (hl:defs.length≠200) :
  DefS l f (xE l (Xh s) defs).2 (defs++[(xE l (Xh s) defs).1]) (pl++[s.at_]):=by
 have m1:=h.inn.is hi;have hd:=yK hT m1.pos defs;have h1:=h.cnt;have h2:=h.len;have h3:=h.pls;refine ⟨m1.go hd.adv (by omega) (by omega),?_,?_,?_⟩
 all_goals
  simp only [Zj,Zi,List.length_nil];omega
theorem Gg {a d:Int}:(dec (.agg [.int .i64 a,.list 3 [],.int .i64 d]):St6)=⟨a,[],d⟩:=Je (c:=[])
theorem K6 {a d:Int}:Up St6 (.agg [.int .i64 a,.list 3 [],.int .i64 d])=True:=Jd (c:=[])
def Sx:Con:=Wp (fun (l:Sl Tok) (_:List UInt8)=>Toks l.l) (fun l name=>(((Yb l.l name).1,(Yb l.l name).2.1,⟨(Yb l.l name).2.2⟩):Mod6×St6×Sl Int))
structure w544k:Prop
theorem w544k.k (_:w544k) {p:Prop} (h:p:=by
 repeat' first|exact Qg|with_reducible apply And.intro|intro _
 all_goals first|with_reducible exact Jf|omega|exact ⟨(f,i3,e3,imps++[x],k),by exact Qy,hL,hnx,by simp;omega,by omega⟩|rfl|trivial|(simp [Q4];done)|skip):p:=h
structure w545k:Prop
theorem w545k.k (_:w545k) {p:Prop} (h:p:=by
 repeat' first|exact Qg|with_reducible apply And.intro|intro _
 all_goals first|with_reducible exact Jf|omega|rfl|trivial|(simp [Q4];done)|skip):p:=h
structure w546k:Prop
theorem w546k.k (_:w546k) {p:Prop} (h:p:=by
 repeat' first|exact Qg|with_reducible apply And.intro|intro _
 all_goals first|with_reducible exact Jf|omega|exact ⟨(f,i3,e3,imps++[x],imps.length),by exact Qy,hL,hnx,by simp,by omega⟩|rfl|trivial|(simp [Q4];done)|skip):p:=h
structure w548k:Prop
theorem w548k.k (_:w548k) {p:Prop} (h:p:=by
 repeat' first|exact Qg|with_reducible apply And.intro|intro _
 all_goals first|with_reducible exact Jf|omega|rfl|trivial|(simp [Q4];done)|skip):p:=h
structure w549k:Prop
theorem w549k.k (_:w549k) {p:Prop} (h:p:=by
 repeat' first|exact Qg|with_reducible apply And.intro|intro _
 all_goals first|with_reducible exact Jf|omega|exact n2|exact ⟨(f2,j3,ss3,g3,defs++[⟨dn,dt,de⟩],pl++[j]),by (have Ks:=@J1;exact Qy),hL,hnx,by omega⟩|rfl|trivial|(simp [Q4];done)|skip):p:=h
structure w550k:Prop
theorem w550k.k (_:w550k) {p:Prop} (h:p:=by
 repeat' first|exact Qg|with_reducible apply And.intro|intro _
 all_goals first|with_reducible exact Jf|omega|rfl|trivial|(simp [Q4];done)|skip):p:=h
structure w551k:Prop
theorem w551k.k (_:w551k) {p:Prop} (h:p:=by
 repeat' first|exact Qg|with_reducible apply And.intro|intro _
 all_goals first|with_reducible exact Jf|omega|rfl|trivial|(simp [Q4];done)|skip):p:=h
structure w552k:Prop
theorem w552k.k (_:w552k) {p:Prop} (h:p:=by
 repeat' first|exact Qg|with_reducible apply And.intro|intro _
 all_goals first|with_reducible exact Jf|omega|rfl|trivial|(simp [Q4];done)|skip):p:=h
structure w553k:Prop
theorem w553k.k (_:w553k) {p:Prop} (h:p:=by
 repeat' first|exact Qg|with_reducible apply And.intro|intro _
 all_goals first|with_reducible exact Jf|omega|rfl|trivial|(simp [Q4];done)|skip):p:=h
structure w547k:Prop
theorem w547k.k (_:w547k) {p:Prop} (h:p:=by
 repeat' first|exact Qg|with_reducible apply And.intro|intro _
 refine Zh [6,12,13,52,53,54,55,56,57,58,59,60,61,62,63,64,65,66,67,68,69,70,71,72,73,74,75,76,77,78,79,80,81,82,83,84,85] (fun p:Nat×Int×List Site×Int×List Def6×List Int=>[(9,.sl 17 (p.2.2.2.2.2.map (enc:Int→D)).length)]) (fun p:Nat×Int×List Site×Int×List Def6×List Int=>[(8,.box true [.d (.int .i64 p.2.1),.d (.list 3 (p.2.2.1.map enc)),.d (.int .i64 p.2.2.2.1)]),(7,.box true [.d (.str name),.sl 47 (imps.map (enc:List UInt8→D)).length,.sl 83 (p.2.2.2.2.1.map (enc:Def6→D)).length,.nils 3]),(83,.row 3 (p.2.2.2.2.1.map enc) (p.2.2.2.2.1.length-1)),(17,.row 1 (p.2.2.2.2.2.map enc) 0)]) (fun p:Nat×Int×List Site×Int×List Def6×List Int=>Zeh l p.1 ⟨p.2.1,p.2.2.1,p.2.2.2.1⟩ p.2.2.2.2.1 p.2.2.2.2.2=b∧DefS l p.1 ⟨p.2.1,p.2.2.1,p.2.2.2.1⟩ p.2.2.2.2.1 p.2.2.2.2.2) (fun p:Nat×Int×List Site×Int×List Def6×List Int=>p.1) (201,i,[],e,[],[]) ?_ ?_ ?_
 ·exact ⟨hb,hD0⟩
 ·exact Qy
 rintro ⟨f2,j,ss,g,defs,pl⟩ ⟨hL,hD⟩;simp only at hL hD;have hc2:=hD.cnt;have hl2:=hD.len;have hp2:=hD.pls;obtain ⟨f2,rfl⟩:∃ k,f2=k+1:=⟨f2-1,by omega⟩
 rw [Zeh] at hL;have n1:=hD.inn;have q1:=n1.nums;simp only at q1;cases Q0:T0 l ⟨j,ss,g⟩ 6 [100,101,102] with
 | true =>
  rw [if_neg (by rw [Q0];simp)] at hL
  by_cases h200:defs.length=200
  ·rw [if_pos h200] at hL;have Q2:((defs.length:Int)==200)=true:=by rw [Zp];omega
   obtain ⟨⟨Wa,Ws,We⟩,Z9⟩:=exq (Jp ⟨j,ss,g⟩ 3);rw [Z9] at hL;subst hL;rw [if_pos rfl] at hR2;simp only at hR2;subst hR2;have Zy:=@Wp.eq_def;have Zz:=@J1;have Z4:=@W5;have Zs:=@W8;have Zt:=@Q4;have Z8:=@W4;have Qt:=@W7;have Qw:=@P7;have Qv:=@Ta;have Qj:=@Gg;have Qq:=@K6;have Kq:w548k:=⟨⟩;exact dZ
  ·rw [if_neg h200] at hL;have Q2:((defs.length:Int)==200)=false:=by rw [Zf];omega
   have hnx:=hD.next hT Q0 h200;have hadv:Xh ⟨j,ss,g⟩=⟨j+1,ss,g⟩:=rfl;have n2:=n1.is Q0;rw [hadv] at hL hnx n2;obtain ⟨⟨d,⟨j3,ss3,g3⟩⟩,Qi⟩:=exq (xE l ⟨j+1,ss,g⟩ defs);rw [Qi] at hL hnx;simp only at hL hnx;obtain ⟨dn,dt,de⟩:=d;have Zy:=@Wp.eq_def;have Zz:=@J1;have Z4:=@W5;have Zs:=@W8;have Zt:=@Q4;have Z8:=@W4;have Qt:=@W7;have Qw:=@P7;have Qv:=@Ta;have Qj:=@Gg;have Qq:=@K6;have Kq:w549k:=⟨⟩;exact dZ
 | false =>
  rw [if_pos Q0] at hL;subst hL;rw [if_neg (by simp)] at hR2
  simp only at hR2;rw [(dF l ⟨j,ss,g⟩).2.1] at hR2;simp only at hR2;obtain ⟨⟨Wa,Ws,We⟩,Z9⟩:=exq (Jp ⟨j,ss,g⟩ 2);have hWs:=(Bw ⟨j,ss,g⟩ 2).2;rw [Z9] at hWs;simp only at hWs;subst hWs;unfold dG at hR2;rw [Z9] at hR2;obtain ⟨j,rfl⟩:∃ n:Nat,j=n:=⟨j.toNat,by omega⟩
  simp only [Kh] at hR2;by_cases hg:g=0
  case neg =>
   rw [if_neg (fun h=>hg h.1)] at hR2;have Qz:(g==0)=false:=by rw [Zf];exact hg
   subst hR2;have Zy:=@Wp.eq_def;have Zz:=@J1;have Z4:=@W5;have Zs:=@W8;have Zt:=@Q4;have Z8:=@W4;have Qt:=@W7;have Qw:=@P7;have Qv:=@Ta;have Qj:=@Gg;have Qq:=@K6;have Kq:w550k:=⟨⟩;exact dZ
  subst hg;have Qz:((0:Int)==0)=true:=rfl;rcases Zl j l.length with ⟨hlt,hlb⟩|⟨hlt,hlb⟩
  rotate_left
  ·rw [if_pos ⟨rfl,.inl (by omega)⟩] at hR2
   have Zv:Xu (l.length:Int) (j:Int)=true:=by rw [Qp];omega
   subst hR2;have Zy:=@Wp.eq_def;have Zz:=@J1;have Z4:=@W5;have Zs:=@W8;have Zt:=@Q4;have Z8:=@W4;have Qt:=@W7;have Qw:=@P7;have Qv:=@Ta;have Qj:=@Gg;have Qq:=@K6;have Kq:w551k:=⟨⟩;exact dZ
  have Zv:Xu (l.length:Int) (j:Int)=false:=by rw [←Bool.not_eq_true,Qp];omega
  have Zx:=Zo Yy hlt;obtain ⟨t,ht⟩:=exq (l.getD j Yy);rw [ht] at Zx hR2;by_cases hk0:t.kind=0
  ·rw [if_neg (fun h=>by rcases h.2 with h|h;omega;exact h hk0)] at hR2
   have Zu:(t.kind != 0)=false:=by rw [bne_eq_false_iff_eq];exact hk0
   subst hR2;have Zy:=@Wp.eq_def;have Zz:=@J1;have Z4:=@W5;have Zs:=@W8;have Zt:=@Q4;have Z8:=@W4;have Qt:=@W7;have Qw:=@P7;have Qv:=@Ta;have Qj:=@Gg;have Qq:=@K6;have Kq:w552k:=⟨⟩;exact dZ
  ·rw [if_pos ⟨rfl,.inr hk0⟩] at hR2;have Zu:(t.kind != 0)=true:=bne_iff_ne.2 hk0;subst hR2;have Zy:=@Wp.eq_def;have Zz:=@J1;have Z4:=@W5;have Zs:=@W8;have Zt:=@Q4;have Z8:=@W4;have Qt:=@W7;have Qw:=@P7;have Qv:=@Ta;have Qj:=@Gg;have Qq:=@K6;have Kq:w553k:=⟨⟩;exact dZ):p:=h
structure w543k:Prop
theorem w543k.k (_:w543k) {p:Prop} (h:p:=by
 repeat' first|exact Qg|with_reducible apply And.intro|intro _
 refine Zh [6,10,11,18,19,20,21,22,23,24,25,26,27,28,29,30,31,32,33,34,35,36,37,38,39,40,41,42,43,44,45,46,47,48,49,50,51] (fun p:Nat×Int×Int×List (List UInt8)×Nat=>[]) (fun p:Nat×Int×Int×List (List UInt8)×Nat=>[(8,.box true [.d (.int .i64 p.2.1),.d (.list 3 []),.d (.int .i64 p.2.2.1)]),(7,.box true [.d (.str name),.sl 47 (p.2.2.2.1.map (enc:List UInt8→D)).length,.nils 3,.nils 3]),(47,.row 1 (p.2.2.2.1.map enc) p.2.2.2.2)]) (fun p:Nat×Int×Int×List (List UInt8)×Nat=>Zdx l p.1 ⟨p.2.1,[],p.2.2.1⟩ p.2.2.2.1=a∧ImpS l p.1 ⟨p.2.1,[],p.2.2.1⟩ p.2.2.2.1∧p.2.2.2.2≤p.2.2.2.1.length) (fun p:Nat×Int×Int×List (List UInt8)×Nat=>p.1) (l.length+1,0,0,[],0) ?_ ?_ ?_
 ·exact ⟨ha,hI0,by simp⟩
 ·exact Qy
 rintro ⟨f,i,e,imps,k⟩ ⟨hL,hI,hk⟩;simp only at hL hI hk;have hf:=hI.fuel;obtain ⟨f,rfl⟩:∃ k,f=k+1:=⟨f-1,by omega⟩
 rw [Zdx] at hL;have m1:=Zm9 hT hI.pos hI.sites;have o1:=m1.nums;have hcn:=hI.cnt;simp only at o1;cases Qh:T0 l ⟨i,[],e⟩ 6 [105,109,112,111,114,116] with
 | true =>
  rw [if_neg (by rw [Qh];simp)] at hL
  have hnx:=hI.next hT Qh;have hadv:Xh ⟨i,[],e⟩=⟨i+1,[],e⟩:=rfl;have m2:=m1.is Qh;rw [hadv] at hL hnx m2;have o2:=m2.nums;simp only at o2;have m3:=m2.named 1;have hs2:=Cy l ⟨i+1,[],e⟩ 1;obtain ⟨⟨x,⟨i2,s2,e2⟩⟩,Qi⟩:=exq (Q7 l ⟨i+1,[],e⟩ 1);rw [Qi] at hL hnx m3 hs2;simp only at hL hnx m3 hs2;subst hs2;have o3:=m3.nums;simp only at o3;have hs3:=Cw l ⟨i2,[],e2⟩ 5 [59];obtain ⟨⟨i3,s3,e3⟩,Z2⟩:=exq (Qb l ⟨i2,[],e2⟩ 5 [59]);rw [Z2] at hL hnx hs3;simp only at hs3;subst hs3;by_cases he2:e2=0
  case neg =>
   rw [if_neg (fun h=>he2 h.1)] at hL;have Qd:(e2==0)=false:=by rw [Zf];exact he2
   have Zy:=@Wp.eq_def;have Zz:=@J1;have Z4:=@W5;have Zs:=@W8;have Zt:=@Q4;have Z8:=@W4;have Qt:=@W7;have Qw:=@P7;have Qv:=@Ta;have Qj:=@Gg;have Qq:=@K6;have Kq:w544k:=⟨⟩;exact dZ
  subst he2;have Qd:((0:Int)==0)=true:=rfl;cases Z5:Zke imps x with
  | true =>
   rw [if_pos ⟨rfl,Z5⟩] at hL;obtain ⟨⟨Wa,Ws,We⟩,Z9⟩:=exq (Jp ⟨i+1,[],e⟩ 7);rw [Z9] at hL;subst hL;rw [if_pos rfl] at hR2;simp only at hR2;subst hR2;have Zy:=@Wp.eq_def;have Zz:=@J1;have Z4:=@W5;have Zs:=@W8;have Zt:=@Q4;have Z8:=@W4;have Qt:=@W7;have Qw:=@P7;have Qv:=@Ta;have Qj:=@Gg;have Qq:=@K6;have Kq:w545k:=⟨⟩;exact dZ
  | false =>
   rw [if_neg (fun h=>by rw [Z5] at h;simp at h)] at hL
   have Zy:=@Wp.eq_def;have Zz:=@J1;have Z4:=@W5;have Zs:=@W8;have Zt:=@Q4;have Z8:=@W4;have Qt:=@W7;have Qw:=@P7;have Qv:=@Ta;have Qj:=@Gg;have Qq:=@K6;have Kq:w546k:=⟨⟩;exact dZ
 | false =>
  rw [if_pos Qh] at hL;subst hL;rw [if_neg (by simp)] at hR2
  simp only at hR2;obtain ⟨b,hb⟩:=exq (Zeh l 201 ⟨i,[],e⟩ [] []);rw [hb] at hR2;have hD0:DefS l 201 ⟨i,[],e⟩ [] []:=⟨m1,rfl,by simp,rfl⟩
  clear hI;have Zy:=@Wp.eq_def;have Zz:=@J1;have Z4:=@W5;have Zs:=@W8;have Zt:=@Q4;have Z8:=@W4;have Qt:=@W7;have Qw:=@P7;have Qv:=@Ta;have Qj:=@Gg;have Qq:=@K6;have Kq:w547k:=⟨⟩;exact dZ):p:=h
theorem good_module6:Qr Tryz.prog (104,Sx):=by
 obtain ⟨Kx,Kt,Kc,Kd,Kb,Ku,Kw,K,Yj,Kv,P4,B6,D2,It,_⟩:=Wi Z3 Zn [] false (Ja Pn Ac (Ja Y5 Ha (Ja good_in6 Rh.eq_def (Ja Uq Pa (Ja Uz N3 (Ja good_def6 aH.eq_def Wg))))));have Ko:=Sx.eq_def;refine Wh K Tryz.func104 [.cell 4 43,.cell 5 137,.tmp 6] rfl 113 rfl (fun c hc cvs hpre=>?_);unfold Sx at hpre;obtain ⟨⟨l⟩,name,rfl,hT⟩:=Dw hpre;simp only at hT;clear hpre;have hll:=hT.len;obtain ⟨R,Qu⟩:=exq (Yb l name);have hR2:=Qu;unfold Yb at hR2;simp only at hR2;obtain ⟨a,ha⟩:=exq (Zdx l (l.length+1) ⟨0,[],0⟩ []);rw [ha] at hR2;have hI0:ImpS l (l.length+1) ⟨0,[],0⟩ []:=⟨⟨by simp,by simp⟩,rfl,fun _=>by simp,by simp,fun x hx=>(by cases hx),by omega⟩
 cases hc;refine Ys 7 ?_;have Zy:=@Wp.eq_def;have Zz:=@J1;have Z4:=@W5;have Zs:=@W8;have Zt:=@Q4;have Z8:=@W4;have Qt:=@W7;have Qw:=@P7;have Qv:=@Ta;have Qj:=@Gg;have Qq:=@K6;have Kq:w543k:=⟨⟩;exact dZ
theorem xU {s:List UInt8} (h:s.length≤1500):Toks (N5 s).1∧(N5 s).1.length≤1501:=by
 have hlen:(N5 s).1.length≤1501:=by
  unfold N5;split
  ·simp
  ·have hb:=Fi (s:=s) (i:=0) (by omega)
   obtain ⟨h1,h2,h3⟩:=bF (s:=s) (by omega) (s.length+1) (D8 s 0) [] (fun t ht=>by cases ht) hb.2 (by simp)
   omega
 exact ⟨⟨by omega,(Zcg s).1⟩,hlen⟩
def Zgq (defs:List Def6):Nat:=defs.findIdx fun d=>!Hf d.e
def Tg (name text:List UInt8):Mod6×Int×Int :=
 let t:=N5 text
 if t.2.2≠0 then (Jl,t.2.1,t.2.2)
 else
  let r:=Yb t.1 name
  if r.2.1.e≠0 then (Jl,(tk t.1 (Zi9 r.2.1.at_ (t.1.length-1))).frm,r.2.1.e)
  else if Zgq r.1.defs<r.1.defs.length then (Jl,(tk t.1 (r.2.2.getD (Zgq r.1.defs) 0)).frm,4)
  else (r.1,0,0)
def Dr:Con:=Wp (fun (_ text:List UInt8)=>text.length≤1500) (fun name text=>Tg name text)
theorem Zjt {p:Part} (h:Tm p):Zot p:=by
 obtain ⟨⟨h1,h2⟩,⟨h3,h4⟩,h5,h6,h7⟩:=h;exact ⟨⟨⟨by omega,h2⟩,⟨by omega,h4⟩,by omega,by omega,by omega⟩,by omega⟩
theorem Zfm {p:Prop} (h:p:=by (sym=>simp [Kt,Kc,Kd,Kb,Ku,Kw,Ko,Yj,Kv,P4,B6,D2,It,bD,jC,jH,jG,Qh,Qi,Z2,Qd,Z5,Z9,Qu,Q0,Q2,Qz,Zv,Zx,Zu,Zy,Zz,Z4,Zs,Zt,Z8,Qt,Qw,Qv,Qj,Qq,Q6,Q9,Wb,Xp,X8,X7,X6,V7,V6,V5,Ul,Uk,Uj,D.setCell.eq_1,Jo,Ec,Q1,Jh,Jt,Xg,Xq,W8,W7,Qn,Z7,Je,Yf,Jg,W6,J1,Yo,Q4,Qf,Z0,Yn,Qx,Jk,Qm,Jn,Kr,W5,W4,Ql,Z6,Jd,Yd,Jj,Jc,X3,Jl.eq_def,Qk,Qa,P7,Ta,Bf,Mh,Ay,Be,W9,Xe,wU,wT,wS,wR,wP,wO,wN,wM,wL,wI,wH,wG,wF,wE,wD,wC,wB,wA,wK,wW,wV,wY,wJ,wX,wZ,wQ,vU,vT,vS,vR,vP,vO,vN,vM,vL,vI,vH,vG,vF,vE,vD,vC,vB,vA,vK,vW,vV,vY,vJ,vX,vZ,vQ,uU,uT,uS,uR,uP,uO,uN,uM,uL,uI,uH,uG,uF,uE,uD,uC,uB,uA,uK,uW,uV,uY,uJ,uX,uZ,uQ,tU,tT,tS,tR,tP,tO,tN,tM,tL,tI,tH,tG,tF,tE,tD,tC,tB,tA,tK,tW,tV,tY,tJ,tX,tZ,tQ,sU,sT,sS,sR,sP,sO,sN,sM,sL,sI,sH,sG,sF,sE,sD,sC,sB,sA,sK,sW,sV,sY,sJ,sX,sZ,sQ,rU,rT,rS,rR,rP,rO,rN,rM,rL,rI,rH,rG,rF,rE,rD,rC,rB,rA,rK,rW,rV,rY,rJ,rX,rZ,rQ,qU,qT,qS,qR,qP,qO,qN,qM,qL,qI,qH,qG,qF,qE,qD,qC,qB,qA,qK,qW,qV,qY,qJ,qX,qZ,qQ,pU,pT,pS,pR,pP,pO,pN,pM,pL,pI,pH,pG,pF,pE,pD,pC,pB,pA,pK,pW,pV,pY,pJ,pX,pZ,pQ,oU,oT,oS,oR,oP,oO,oN,oM,oL,oI,oH,oG,oF,oE,oD,oC,oB,oA,oK,oW,oV,oY,oJ,oX,oZ,oQ,nU,nT,nS,nR,nP,nO,nN,nM,nL,nI,nH,nG,nF,nE,nD,nC,nB,nA,nK,nW,nV,nY,nJ,nX,nZ,nQ,mU,mT,mS,mR,mP,mO,mN,mM,mL,mI,mH,mG,mF,mE,mD,mC,mB,mA,mK,mW,mV,mY,mJ,mX,mZ,mQ,lU,lT,lS,lR,lP,lO,lN,lM,lL,lI,lH,lG,lF,lE,lD,lC,lB,lA,lK,lW,lV,lY,lJ,lX,lZ,lQ,kU,kT,kS,kR,kP,kO,kN,kM,kL,kI,kH,kG,kF,kE,kD,kC,kB,kA,kK,kW,kV,kY,kJ,kX,kZ,kQ,jU,jT,jS,jR,jP,jO,jN,jM,jL,jI,S9,S8,S7,S6,S5,S4,H6,H5,H4,H3,H2,H1,H0,Hz,Hy,Hx,Hw,Hv,Hu,Ht,Hs,Hr,Hq,Hp,Ho,Hn,Hm,Hl,Hk,Hj,Hi,Hh,Hg,V2,V1,V0,Vz,Vy,Vx,Vw,Vv,Vu,Vt,Vs,Vr,Vq,Vp,Vo,Vn,Vm,Vl,Vk,Vj,Vi,Vh,Vg,Vf,Ve,Vd,Vc,Vb,Va,Y9,Y8])):p:=h
theorem Un {p:Prop} (h:p:=by
 (sym=>simp [Kt,Kc,Kd,Kb,Ku,Kw,Ko,Yj,Kv,P4,B6,D2,It,bD,jC,jH,jG,Qh,Qi,Z2,Qd,Z5,Z9,Qu,Q0,Q2,Qz,Zv,Zx,Zu,Zy,Zz,Z4,Zs,Zt,Z8,Qt,Qw,Qv,Qj,Qq,Q6,Q9,Wb,Xp,X8,X7,X6,V7,V6,V5,Ul,Uk,Uj,D.setCell.eq_1,Jo,Ec,Q1,Jh,Jt,Xg,Xq,W8,W7,Qn,Z7,Je,Yf,Jg,W6,J1,Yo,Q4,Qf,Z0,Yn,Qx,Jk,Qm,Jn,Kr,W5,W4,Ql,Z6,Jd,Yd,Jj,Jc,X3,Jl.eq_def,Qk,Qa,P7,Ta,Bf,Mh,Ay,Be,W9,Xe,wU,wT,wS,wR,wP,wO,wN,wM,wL,wI,wH,wG,wF,wE,wD,wC,wB,wA,wK,wW,wV,wY,wJ,wX,wZ,wQ,vU,vT,vS,vR,vP,vO,vN,vM,vL,vI,vH,vG,vF,vE,vD,vC,vB,vA,vK,vW,vV,vY,vJ,vX,vZ,vQ,uU,uT,uS,uR,uP,uO,uN,uM,uL,uI,uH,uG,uF,uE,uD,uC,uB,uA,uK,uW,uV,uY,uJ,uX,uZ,uQ,tU,tT,tS,tR,tP,tO,tN,tM,tL,tI,tH,tG,tF,tE,tD,tC,tB,tA,tK,tW,tV,tY,tJ,tX,tZ,tQ,sU,sT,sS,sR,sP,sO,sN,sM,sL,sI,sH,sG,sF,sE,sD,sC,sB,sA,sK,sW,sV,sY,sJ,sX,sZ,sQ,rU,rT,rS,rR,rP,rO,rN,rM,rL,rI,rH,rG,rF,rE,rD,rC,rB,rA,rK,rW,rV,rY,rJ,rX,rZ,rQ,qU,qT,qS,qR,qP,qO,qN,qM,qL,qI,qH,qG,qF,qE,qD,qC,qB,qA,qK,qW,qV,qY,qJ,qX,qZ,qQ,pU,pT,pS,pR,pP,pO,pN,pM,pL,pI,pH,pG,pF,pE,pD,pC,pB,pA,pK,pW,pV,pY,pJ,pX,pZ,pQ,oU,oT,oS,oR,oP,oO,oN,oM,oL,oI,oH,oG,oF,oE,oD,oC,oB,oA,oK,oW,oV,oY,oJ,oX,oZ,oQ,nU,nT,nS,nR,nP,nO,nN,nM,nL,nI,nH,nG,nF,nE,nD,nC,nB,nA,nK,nW,nV,nY,nJ,nX,nZ,nQ,mU,mT,mS,mR,mP,mO,mN,mM,mL,mI,mH,mG,mF,mE,mD,mC,mB,mA,mK,mW,mV,mY,mJ,mX,mZ,mQ,lU,lT,lS,lR,lP,lO,lN,lM,lL,lI,lH,lG,lF,lE,lD,lC,lB,lA,lK,lW,lV,lY,lJ,lX,lZ,lQ,kU,kT,kS,kR,kP,kO,kN,kM,kL,kI,kH,kG,kF,kE,kD,kC,kB,kA,kK,kW,kV,kY,kJ,kX,kZ,kQ,jU,jT,jS,jR,jP,jO,jN,jM,jL,jI,S9,S8,S7,S6,S5,S4,H6,H5,H4,H3,H2,H1,H0,Hz,Hy,Hx,Hw,Hv,Hu,Ht,Hs,Hr,Hq,Hp,Ho,Hn,Hm,Hl,Hk,Hj,Hi,Hh,Hg,V2,V1,V0,Vz,Vy,Vx,Vw,Vv,Vu,Vt,Vs,Vr,Vq,Vp,Vo,Vn,Vm,Vl,Vk,Vj,Vi,Vh,Vg,Vf,Ve,Vd,Vc,Vb,Va,Y9,Y8];tactic =>
   try simp only [Sh] at *
   try simp only [Zhf] at *
   try simp (maxSteps:=4000000) only [Qh,Qi,Z2,Qd,Z5,Z9,Qu,Q0,Q2,Qz,Zv,Zx,Zu,Zy,Zz,Z4,Zs,Zt,Z8,Qt,Qw,Qv,Qj,Qq,Q6,Q9,Wb,Xp,X8,X7,X6,V7,V6,V5,Ul,Uk,Uj,D.setCell.eq_1,Jo,Ec,Q1,Jh,Jt,Xg,Xq,W8,W7,Qn,Z7,Je,Yf,Jg,W6,J1,Yo,Q4,Qf,Z0,Yn,Qx,Jk,Qm,Jn,Kr,W5,W4,Ql,Z6,Jd,Yd,Jj,Jc,X3,Jl.eq_def,Qk,Qa,P7,Ta,Bf,Mh,Ay,Be,W9,Xe,Ix]
   first|done|exact Kq.k)):p:=h
theorem Sd {p:Prop} (h:p:=by
 (sym=>simp [Kt,Kc,Kd,Kb,Ku,Kw,Ko,Yj,Kv,P4,B6,D2,It,bD,jC,jH,jG,Qh,Qi,Z2,Qd,Z5,Z9,Qu,Q0,Q2,Qz,Zv,Zx,Zu,Zy,Zz,Z4,Zs,Zt,Z8,Qt,Qw,Qv,Qj,Qq,Q6,Q9,Wb,Xp,X8,X7,X6,V7,V6,V5,Ul,Uk,Uj,D.setCell.eq_1,Jo,Ec,Q1,Jh,Jt,Xg,Xq,W8,W7,Qn,Z7,Je,Yf,Jg,W6,J1,Yo,Q4,Qf,Z0,Yn,Qx,Jk,Qm,Jn,Kr,W5,W4,Ql,Z6,Jd,Yd,Jj,Jc,X3,Jl.eq_def,Qk,Qa,P7,Ta,Bf,Mh,Ay,Be,W9,Xe,wU,wT,wS,wR,wP,wO,wN,wM,wL,wI,wH,wG,wF,wE,wD,wC,wB,wA,wK,wW,wV,wY,wJ,wX,wZ,wQ,vU,vT,vS,vR,vP,vO,vN,vM,vL,vI,vH,vG,vF,vE,vD,vC,vB,vA,vK,vW,vV,vY,vJ,vX,vZ,vQ,uU,uT,uS,uR,uP,uO,uN,uM,uL,uI,uH,uG,uF,uE,uD,uC,uB,uA,uK,uW,uV,uY,uJ,uX,uZ,uQ,tU,tT,tS,tR,tP,tO,tN,tM,tL,tI,tH,tG,tF,tE,tD,tC,tB,tA,tK,tW,tV,tY,tJ,tX,tZ,tQ,sU,sT,sS,sR,sP,sO,sN,sM,sL,sI,sH,sG,sF,sE,sD,sC,sB,sA,sK,sW,sV,sY,sJ,sX,sZ,sQ,rU,rT,rS,rR,rP,rO,rN,rM,rL,rI,rH,rG,rF,rE,rD,rC,rB,rA,rK,rW,rV,rY,rJ,rX,rZ,rQ,qU,qT,qS,qR,qP,qO,qN,qM,qL,qI,qH,qG,qF,qE,qD,qC,qB,qA,qK,qW,qV,qY,qJ,qX,qZ,qQ,pU,pT,pS,pR,pP,pO,pN,pM,pL,pI,pH,pG,pF,pE,pD,pC,pB,pA,pK,pW,pV,pY,pJ,pX,pZ,pQ,oU,oT,oS,oR,oP,oO,oN,oM,oL,oI,oH,oG,oF,oE,oD,oC,oB,oA,oK,oW,oV,oY,oJ,oX,oZ,oQ,nU,nT,nS,nR,nP,nO,nN,nM,nL,nI,nH,nG,nF,nE,nD,nC,nB,nA,nK,nW,nV,nY,nJ,nX,nZ,nQ,mU,mT,mS,mR,mP,mO,mN,mM,mL,mI,mH,mG,mF,mE,mD,mC,mB,mA,mK,mW,mV,mY,mJ,mX,mZ,mQ,lU,lT,lS,lR,lP,lO,lN,lM,lL,lI,lH,lG,lF,lE,lD,lC,lB,lA,lK,lW,lV,lY,lJ,lX,lZ,lQ,kU,kT,kS,kR,kP,kO,kN,kM,kL,kI,kH,kG,kF,kE,kD,kC,kB,kA,kK,kW,kV,kY,kJ,kX,kZ,kQ,jU,jT,jS,jR,jP,jO,jN,jM,jL,jI,S9,S8,S7,S6,S5,S4,H6,H5,H4,H3,H2,H1,H0,Hz,Hy,Hx,Hw,Hv,Hu,Ht,Hs,Hr,Hq,Hp,Ho,Hn,Hm,Hl,Hk,Hj,Hi,Hh,Hg,V2,V1,V0,Vz,Vy,Vx,Vw,Vv,Vu,Vt,Vs,Vr,Vq,Vp,Vo,Vn,Vm,Vl,Vk,Vj,Vi,Vh,Vg,Vf,Ve,Vd,Vc,Vb,Va,Y9,Y8];tactic =>
   try simp only [Sh] at *
   try simp only [Zhf] at *
   try simp (maxSteps:=4000000) only [Qh,Qi,Z2,Qd,Z5,Z9,Qu,Q0,Q2,Qz,Zv,Zx,Zu,Zy,Zz,Z4,Zs,Zt,Z8,Qt,Qw,Qv,Qj,Qq,Q6,Q9,Wb,Xp,X8,X7,X6,V7,V6,V5,Ul,Uk,Uj,D.setCell.eq_1,Jo,Ec,Q1,Jh,Jt,Xg,Xq,W8,W7,Qn,Z7,Je,Yf,Jg,W6,J1,Yo,Q4,Qf,Z0,Yn,Qx,Jk,Qm,Jn,Kr,W5,W4,Ql,Z6,Jd,Yd,Jj,Jc,X3,Jl.eq_def,Qk,Qa,P7,Ta,Bf,Mh,Ay,Be,W9,Xe,Ix]
   repeat' first|with_reducible assumption|with_reducible apply And.intro|intro _|omega|(rw [Xb];omega)
   all_goals first|with_reducible exact Jf|omega|rfl|trivial|exact Or.inr trivial|assumption|contradiction|exact Qy)):p:=h
structure w555k:Prop
theorem w555k.k (_:w555k) {p:Prop} (h:p:=by
 repeat' first|exact Qg|with_reducible apply And.intro|intro _
 all_goals first|with_reducible exact Jf|omega|exact hef|exact ⟨k+1,by exact Qy,by omega,hst,by omega⟩|skip):p:=h
structure w554k:Prop
theorem w554k.k (_:w554k) {p:Prop} (h:p:=by
 repeat' first|exact Qg|with_reducible apply And.intro|intro _
 refine Zh [5,6,48,49,50,51,52,53,54,55,56,57,58,59,60,61,62,63,64,65,66,67,68,69,70,71] (fun k:Nat=>[(13,.d (.int .i64 k))]) (fun k:Nat=>[]) (fun k:Nat=>k≤md.length∧∀ j,j<k→Hf (md.getD j Jq).e=true) (fun k:Nat=>md.length-k) 0 ?_ ?_ ?_
 ·exact ⟨by omega,fun j hj=>absurd hj (Nat.not_lt_zero j)⟩
 ·exact Qy
 rintro k ⟨Z9,hno⟩;rcases Zl k md.length with ⟨hlt,Q0⟩|⟨hlt,Q0⟩
 ·have Qu:=Zo Jq hlt;have hbk:=hbad k hlt hno;have hst:Hf (md.getD k Jq).e=true→∀ j,j<k+1→Hf (md.getD j Jq).e=true:=fun h=>U7 hno h;have hfk:=hfit (md.getD k Jq) (by simp [hlt])
  obtain ⟨y,hy⟩:=exq (md.getD k Jq);rw [hy] at Qu hbk hst hfk;have hel:y.e.length≤9223372036854775807:=by have:=hfk.e;omega
  have hef:∀ p∈y.e,Zot p:=fun p hp=>Zjt (hfk.fit p hp);cases Zv:Hf y.e with
  | false =>
   have hbk:=hbk Zv;rw [hbk,if_pos hlt] at hR2;have hplk:k<pl.length:=by omega
   have Q2:=Zo (0:Int) hplk;have hpk:=hpr (pl.getD k 0) (by simp [hplk])
   obtain ⟨x,hx⟩:=exq (pl.getD k 0);rw [hx] at Q2 hpk hR2;obtain ⟨x,rfl⟩:∃ n:Nat,x=n:=⟨x.toNat,by omega⟩
   simp only [Kh] at hR2;have Qz:=Zo Yy (show x<l.length by omega)
   obtain ⟨t,ht⟩:=exq (l.getD x Yy);rw [ht] at Qz hR2;subst hR2;clear hno hfit hok hpr hgood;exact Sd
  | true =>
   have hst:=hst Zv;clear hno hfit hok hpr hgood hbk;have Kq:w555k:=⟨⟩;exact Un
 ·have hke:k=md.length:=by omega
  rw [hke] at hno Q0;rw [if_neg (hgood hno)] at hR2;subst hR2;clear hno hfit hok hpr hgood;exact Sd):p:=h
theorem good_Parse6:Qr Tryz.prog (58,Dr):=by
 obtain ⟨Kx,Kt,Kc,Kd,Kb,Ku,Kw,K,Yj,Kv,P4,_⟩:=Wi Z3 Zn [] false (Ja good_Tokens2 S0.eq_def (Ja good_module6 Sx.eq_def (Ja good_Right5 Dp.eq_def Wg)));have Ko:=Dr.eq_def;refine Wh K Tryz.func58 [.cell 4 43,.tmp 5,.tmp 6] rfl 73 rfl (fun c hc cvs hpre=>?_);unfold Dr at hpre;obtain ⟨name,text,rfl,htx⟩:=Dw hpre;clear hpre;obtain ⟨R,Z2⟩:=exq (Tg name text);have hR2:=Z2;unfold Tg at hR2;simp only at hR2;obtain ⟨hT,hTl⟩:=xU htx;have h1l:=(Zcg text).2.2;obtain ⟨⟨l,at1,e1⟩,Qh⟩:=exq (N5 text);rw [Qh] at hR2 hT hTl h1l;simp only at hR2 hT hTl h1l;have htx2:text.length≤9223372036854775807:=by omega
 have hll:l.length≤9223372036854775807:=by omega
 by_cases he1:e1=0
 case neg =>
  rw [if_pos he1] at hR2;have Qi:(e1 != 0)=true:=bne_iff_ne.2 he1;subst hR2;cases hc;refine Ys 4 ?_;exact Sd
 rw [if_neg (by simpa using he1)] at hR2
 have Qi:(e1 != 0)=false:=by rw [bne_eq_false_iff_eq];exact he1
 have h1l:=h1l he1;obtain ⟨hP,hdl,hfit,hok⟩:=gB hT name;obtain ⟨⟨m,⟨i2,ss2,e2⟩,pl⟩,Qd⟩:=exq (Yb l name);rw [Qd] at hR2 hP hdl hfit hok;simp only at hR2 hP hdl hfit hok;have hlo:=hP.lo;have hhi:=hP.hi;simp only at hlo hhi;by_cases he2:e2=0
 case neg =>
  rw [if_pos he2] at hR2;have Z5:(e2 != 0)=true:=bne_iff_ne.2 he2;obtain ⟨k,Z9,hkl⟩:∃ k:Nat,Zi9 i2 ((l.length:Int)-1)=k∧k<l.length:=by
   refine ⟨(Zi9 i2 ((l.length:Int)-1)).toNat,?_,?_⟩<;>unfold Zi9<;>split<;>omega
  have Qu:=Zo Yy hkl;rw [Z9] at hR2;simp only [Kh] at hR2;obtain ⟨t,ht⟩:=exq (l.getD k Yy);rw [ht] at Qu hR2;subst hR2;cases hc;refine Ys 4 ?_;exact Sd
 rw [if_neg (by simpa using he2)] at hR2
 have Z5:(e2 != 0)=false:=by rw [bne_eq_false_iff_eq];exact he2
 obtain ⟨hM,hpl,hpr⟩:=hok he2;obtain ⟨mn,mi,md,ms⟩:=m;simp only at hR2 hdl hfit hpl;have hbad:∀ k,k<md.length→(∀ j,j<k→Hf (md.getD j Jq).e=true)→Hf (md.getD k Jq).e=false→Zgq md=k:=fun k Z9 h1 h2=>by
  unfold Zgq;rw [List.findIdx_eq Z9];refine ⟨?_,fun j hj=>?_⟩
  ·simpa [Z9] using h2
  ·have:=h1 j hj;simpa [show j<md.length by omega] using this
 have hgood:(∀ j,j<md.length→Hf (md.getD j Jq).e=true)→¬ Zgq md<md.length:=fun h1 h2=>by
  unfold Zgq at h2;have h3:=List.findIdx_getElem (w:=h2);have h4:=h1 _ h2;simp [h2] at h4;simp [h4] at h3
 cases hc;refine Ys 4 ?_;have Kq:w554k:=⟨⟩;exact Un
end Go.Am.Ty
namespace Go.Am.Ty.Gr
open Go.Proofs
open Enc (enc dec)
abbrev Lo (n:Nat):Prop:=n≤9223372036854775807
theorem Zie {p:Nat→Prop} {k:Nat} (h:∀ j,j<k→p j) (hk:p k):∀ j,j<k+1→p j:=fun j hj=>by
 rcases Nat.lt_or_ge j k with h1|h1
 ·exact h j h1
 ·have:j=k:=by omega
  exact this▸hk
def Zfc (l:List Int) (n:Int):Bool:=l.any fun x=>x==n
def Fb:Con:=Wc (fun (l:Sl Int) (_:Int)=>Lo l.l.length) (fun l n=>Zfc l.l n)
structure w557k:Prop
theorem w557k.k (_:w557k) {p:Prop} (h:p:=by
 repeat' first|exact Qg|with_reducible apply And.intro|intro _
 all_goals first|with_reducible exact Jf|omega|exact ⟨k+1,by exact Qy,by omega,h2,by omega⟩|skip):p:=h
structure w556k:Prop
theorem w556k.k (_:w556k) {p:Prop} (h:p:=by
 repeat' first|exact Qg|with_reducible apply And.intro|intro _
 refine Zh [4,6,7,8,9,10,11,12,13,14,15,16,17] (fun k:Nat=>[(5,.d (.int .i64 k))]) (fun k:Nat=>[]) (fun k:Nat=>k≤l.length∧∀ j,j<k→l.getD j 0≠n) (fun k:Nat=>l.length-k) 0 ?_ ?_ ?_
 ·simp
 ·exact Qy
 rintro k ⟨hk,hno⟩;rcases Zl k l.length with ⟨hlt,Qh⟩|⟨hlt,Qh⟩
 ·have Qi:=Zo (0:Int) hlt;have hst:l.getD k 0≠n→∀ j,j<k+1→l.getD j 0≠n:=by
   intro h j hj;by_cases e:j=k
   ·subst e;exact h
   ·exact hno j (by omega)
  have hit:(l.getD k 0==n)=true→Zfc l n=true:=fun h=>cN 0 k hlt h;obtain ⟨x,hx⟩:=exq (l.getD k 0);rw [hx] at Qi hst hit;cases Z2:(x==n) with
  | true =>
   have Qd:=hit Z2;exact Sd
  | false =>
   have h2:=hst (by simpa using Z2)
   have Kq:w557k:=⟨⟩;exact Un
 ·have Qd:Zfc l n=false:=Dz 0 fun j hj=>beq_eq_false_iff_ne.2 (hno j (by omega))
  exact Zfm):p:=h
theorem good_In08:Qr Tryz.prog (89,Fb):=by
 obtain ⟨Kx,Kt,Kc,Kd,Kb,Ku,Kw,K,_⟩:=Wi Z3 Zn [] false Wg;have Ko:=Fb.eq_def;refine Wh K Tryz.func89 [.tmp 4] rfl 18 rfl (fun c hc cvs hpre=>?_);unfold Fb at hpre;obtain ⟨⟨l⟩,n,rfl,hl⟩:=Jr hpre;simp only at hl;cases hc;have Kq:w556k:=⟨⟩;exact Un
abbrev Us:=Mod6
theorem Cd:Sz.sz Us=4:=rfl
theorem X5 {m:Us}:(enc m:D)=.agg [.str m.name,.list 1 (m.imps.map enc),.list 3 (m.defs.map enc),.list 3 (m.sites.map enc)]:=rfl
def m0:Us:=⟨[],[],[],[]⟩
abbrev nm (l:List Us) (k:Nat):List UInt8:=(l.getD k m0).name
def Yv:List Us→List UInt8→Option Nat
 | [],_=>none
 | m::l,s=>if m.name=s then some 0 else (Yv l s).map (·+1)
def Xv (l:List Us) (s:List UInt8):Int:=match Yv l s with
 | some k=>k
 | none=>-1
theorem Zd9:∀ {l:List Us} {s:List UInt8} {k:Nat},k<l.length→(∀ j,j<k→nm l j≠s)→nm l k=s→Yv l s=some k
 | [],s,k,h,_,_=>by simp at h
 | m::l,s,0,_,_,h=>by
  simp only [nm,List.getD_cons_zero] at h;simp [Yv,h]
 | m::l,s,k+1,h,hno,hk=>by
  have h0:=hno 0 (by omega)
  simp only [nm,List.getD_cons_zero] at h0;rw [Yv,if_neg h0,Zd9 (k:=k) (by simpa using h) (fun j hj=>by
   have:=hno (j+1) (by omega)
   simpa [nm] using this) (by simpa [nm] using hk)]
  rfl
theorem iV:∀ {l:List Us} {s:List UInt8},(∀ j,j<l.length→nm l j≠s)→Yv l s=none
 | [],s,_=>rfl
 | m::l,s,hno=>by
  have h0:=hno 0 (by simp)
  simp only [nm,List.getD_cons_zero] at h0;rw [Yv,if_neg h0,iV fun j hj=>by
   have:=hno (j+1) (by simpa using hj)
   simpa [nm] using this]
  rfl
theorem Zli {l:List Us} {s:List UInt8} {k:Nat} (h:k<l.length) (hno:∀ j,j<k→nm l j≠s) (hk:nm l k=s):Xv l s=k:=by
 rw [Xv,Zd9 h hno hk]
theorem Zgi {l:List Us} {s:List UInt8} (hno:∀ j,j<l.length→nm l j≠s):Xv l s=-1:=by
 rw [Xv,iV hno]
def B1:Con:=Wc (fun (l:Sl Us) (_:List UInt8)=>Lo l.l.length) (fun l s=>Xv l.l s)
structure w559k:Prop
theorem w559k.k (_:w559k) {p:Prop} (h:p:=by
 repeat' first|exact Qg|with_reducible apply And.intro|intro _
 all_goals first|with_reducible exact Jf|omega|exact ⟨k+1,by exact Qy,by omega,h2,by omega⟩|skip):p:=h
structure w558k:Prop
theorem w558k.k (_:w558k) {p:Prop} (h:p:=by
 repeat' first|exact Qg|with_reducible apply And.intro|intro _
 refine Zh [4,6,7,8,9,10,11,12,13,14,15,16,17,18,19] (fun k:Nat=>[(5,.d (.int .i64 k))]) (fun k:Nat=>[]) (fun k:Nat=>k≤l.length∧∀ j,j<k→nm l j≠s) (fun k:Nat=>l.length-k) 0 ?_ ?_ ?_
 ·simp
 ·exact Qy
 rintro k ⟨hk,hno⟩;rcases Zl k l.length with ⟨hlt,Qh⟩|⟨hlt,Qh⟩
 ·have Qi:=Zo m0 hlt;have hst:nm l k≠s→∀ j,j<k+1→nm l j≠s:=fun h=>Zie hno h;have hit:nm l k=s→Xv l s=k:=fun h=>Zli hlt hno h;unfold nm at hst hit;obtain ⟨x,hx⟩:=exq (l.getD k m0);rw [hx] at Qi hst hit;cases Z2:(x.name==s) with
  | true =>
   have Qd:=hit (by simpa using Z2)
   have Z5:=@X5;have Z9:=@Cd;exact Sd
  | false =>
   have h2:=hst (by simpa using Z2)
   have Z5:=@X5;have Z9:=@Cd;have Kq:w559k:=⟨⟩;exact Un
 ·have Qd:Xv l s=-1:=Zgi fun j hj=>hno j (by omega)
  have Z5:=@Cd;exact Zfm):p:=h
theorem good_find8:Qr Tryz.prog (86,B1):=by
 obtain ⟨Kx,Kt,Kc,Kd,Kb,Ku,Kw,K,_⟩:=Wi Z3 Zn [] false Wg;have Ko:=B1.eq_def;refine Wh K Tryz.func86 [.tmp 4] rfl 20 rfl (fun c hc cvs hpre=>?_);unfold B1 at hpre;obtain ⟨⟨l⟩,s,rfl,hl⟩:=Jr hpre;simp only at hl;cases hc;have Kq:w558k:=⟨⟩;exact Un
abbrev Zbi (l:List Us) (k:Nat):List (List UInt8):=(l.getD k m0).imps
def Zka (l:List Us):Prop:=l.length≤20∧∀ k,(Zbi l k).length≤2000
theorem Zbl {l:List Us} (h:Zka l):l.length≤20:=h.1
theorem Zbm {l:List Us} (h:Zka l) (k:Nat):(Zbi l k).length≤2000:=h.2 k
theorem Ln:∀ {l:List Us} {s:List UInt8} {k:Nat},Yv l s=some k→k<l.length
 | [],s,k,h=>by simp [Yv] at h
 | m::l,s,k,h=>by
  rw [Yv] at h;by_cases hm:m.name=s
  ·rw [if_pos hm] at h;injection h with h
   subst h;simp
  ·rw [if_neg hm] at h;cases hf:Yv l s with
   | none=>rw [hf] at h;cases h
   | some j =>
    rw [hf] at h;simp only [Option.map_some,Za] at h;have:=Ln hf;simp only [Zi];omega
def Cr (l:List Us) (i:Int) (come:List Int):Bool:=(Zbi l i.toNat).all fun s=>Zfc come (Xv l s)
def De:Con:=Um (fun (l:Sl Us) (i:Int) (c:Sl Int)=>Zka l.l∧0≤i∧i<l.l.length∧Lo c.l.length) (fun l i c=>Cr l.l i c.l)
structure w561k:Prop
theorem w561k.k (_:w561k) {p:Prop} (h:p:=by
 repeat' first|exact Qg|with_reducible apply And.intro|intro _
 all_goals first|with_reducible exact Jf|omega|exact ⟨k+1,by exact Qy,by omega,hs,by omega⟩|skip):p:=h
structure w560k:Prop
theorem w560k.k (_:w560k) {p:Prop} (h:p:=by
 repeat' first|exact Qg|with_reducible apply And.intro|intro _
 refine Zh [6,8,9,10,11,12,13,14,15,16,17,18,19,20,21,22,23,24,25,26,27,28,29,30] (fun k:Nat=>[(7,.d (.int .i64 k))]) (fun k:Nat=>[]) (fun k:Nat=>k≤x.imps.length∧∀ j,j<k→Zfc c0 (Xv l (x.imps.getD j []))=true) (fun k:Nat=>x.imps.length-k) 0 ?_ ?_ ?_
 ·simp
 ·exact Qy
 rintro k ⟨hk,hno⟩;rcases Zl k x.imps.length with ⟨hlt,Qh⟩|⟨hlt,Qh⟩
 ·have Z2:=Zo ([]:List UInt8) hlt;have hst:Zfc c0 (Xv l (x.imps.getD k []))=true→∀ j,j<k+1→Zfc c0 (Xv l (x.imps.getD j []))=true:=fun h=>Zie hno h;have hbad:Zfc c0 (Xv l (x.imps.getD k []))=false→R=false:=fun h=>by
   rw [←hR2];exact R8 (p:=fun s=>Zfc c0 (Xv l s)) [] k hlt h
  obtain ⟨y,hy⟩:=exq (x.imps.getD k []);rw [hy] at Z2 hst hbad;cases Qd:Zfc c0 (Xv l y) with
  | true =>
   have hs:=hst Qd;have Z9:=@X5;have Qu:=@Cd;have Kq:w561k:=⟨⟩;exact Un
  | false =>
   have hr:=hbad Qd;subst hr;have Z9:=@X5;have Qu:=@Cd;exact Sd
 ·have hr:R=true:=by
   rw [←hR2];exact B4 (p:=fun s=>Zfc c0 (Xv l s)) [] fun j hj=>hno j (by omega)
  subst hr;have Z9:=@X5;have Qu:=@Cd;exact Sd):p:=h
theorem good_ready8:Qr Tryz.prog (90,De):=by
 obtain ⟨Kx,Kt,Kc,Kd,Kb,Ku,Kw,K,Yj,Kv,_⟩:=Wi Z3 Zn [] false (Ja good_find8 B1.eq_def (Ja good_In08 Fb.eq_def Wg));have Ko:=De.eq_def;refine Wh K Tryz.func90 [.tmp 6] rfl 31 rfl (fun c hc cvs hpre=>?_);unfold De at hpre;obtain ⟨⟨l⟩,i,⟨c0⟩,rfl,hf,hi0,hil,hcl⟩:=Gl hpre;simp only at hf hi0 hil hcl;clear hpre;obtain ⟨n,rfl⟩:=Int.eq_ofNat_of_zero_le hi0;have hl20:=Zbl hf;have hi20:=Zbm hf n;have hnl:n<l.length:=by omega
 have Qi:=Zo m0 hnl;obtain ⟨R,Z5⟩:=exq (Cr l n c0);have hR2:=Z5;unfold Cr at hR2;rw [Ze] at hR2;unfold Zbi at hR2 hi20;obtain ⟨x,hx⟩:=exq (l.getD n m0);rw [hx] at Qi hR2 hi20;cases hc;have Kq:w560k:=⟨⟩;exact Un
def Wx (l:List Us) (is:List Bool):Nat→Int
 | 0=>-1
 | k+1=>cond (is.getD k false&&(Yr (Wx l is k) 0||Op.bytesLess (nm l k) (nm l (Wx l is k).toNat))) (k:Int) (Wx l is k)
theorem Zet (l:List Us) (is:List Bool):∀ k,Wx l is k=-1∨(0≤Wx l is k∧Wx l is k<k)
 | 0=>.inl rfl
 | k+1=>by
  have ih:=Zet l is k;rw [Wx];cases is.getD k false&&(Yr (Wx l is k) 0||Op.bytesLess (nm l k) (nm l (Wx l is k).toNat)) with
  | true=>right;simp only [cond_true];omega
  | false=>simp only [cond_false];omega
def Dg:Con:=Wc (fun (l:Sl Us) (is:Sl Bool)=>l.l.length≤20∧is.l.length=l.l.length) (fun l is=>Wx l.l is.l l.l.length)
structure w563k:Prop
theorem w563k.k (_:w563k) {p:Prop} (h:p:=by
 repeat' first|exact Qg|with_reducible apply And.intro|intro _
 all_goals first|with_reducible exact Jf|omega|exact ⟨k+1,by rw [hb',hS];exact Qy,by omega,by omega⟩|skip):p:=h
structure w564k:Prop
theorem w564k.k (_:w564k) {p:Prop} (h:p:=by
 repeat' first|exact Qg|with_reducible apply And.intro|intro _
 all_goals first|with_reducible exact Jf|omega|exact ⟨k+1,by rw [hb',hS1];exact Qy,by omega,by omega⟩|skip):p:=h
structure w565k:Prop
theorem w565k.k (_:w565k) {p:Prop} (h:p:=by
 repeat' first|exact Qg|with_reducible apply And.intro|intro _
 all_goals first|with_reducible exact Jf|omega|exact ⟨k+1,by rw [hb',hS];exact Qy,by omega,by omega⟩|skip):p:=h
structure w566k:Prop
theorem w566k.k (_:w566k) {p:Prop} (h:p:=by
 repeat' first|exact Qg|with_reducible apply And.intro|intro _
 all_goals first|with_reducible exact Jf|omega|exact ⟨k+1,by rw [hb',hS];exact Qy,by omega,by omega⟩|skip):p:=h
structure w562k:Prop
theorem w562k.k (_:w562k) {p:Prop} (h:p:=by
 repeat' first|exact Qg|with_reducible apply And.intro|intro _
 refine Zh [7,8,9,10,11,12,13,14,15,16,17,18,19,20,21,22,23,24,25,26,27,28,29,30,31,32,33,34] (fun k:Nat=>[(5,.d (.int .i64 (Wx l is k))),(6,.d (.int .i64 k))]) (fun k:Nat=>[]) (fun k:Nat=>k≤l.length) (fun k:Nat=>l.length-k) 0 ?_ ?_ ?_
 ·simp
 ·have Ks:=@Wx.eq_1;have Iv:=@Wx.eq_2;exact Qy
 rintro k hk;rcases Zl k l.length with ⟨hlt,Qh⟩|⟨hlt,Qh⟩
 ·have Qi:=Zo m0 hlt;have Z2:=Zo false (show k<is.length by omega)
  have hB:=Zet l is k;have hS:Wx l is (k+1)=cond (is.getD k false&&(Yr (Wx l is k) 0||Op.bytesLess (nm l k) (nm l (Wx l is k).toNat))) (k:Int) (Wx l is k):=rfl;obtain ⟨b,hb⟩:=exq (Wx l is k);obtain ⟨b',hb'⟩:=exq (Wx l is (k+1));rw [hb] at hB;rw [hb,hb'] at hS;rw [hb];unfold nm at hS;obtain ⟨x,hx⟩:=exq (l.getD k m0);rw [hx] at Qi hS;cases hk1:is.getD k false with
  | false =>
   rw [hk1] at Z2 hS;simp only [Bool.false_and,cond_false] at hS;have Q0:=@X5;have Q2:=@Cd;have Kq:w563k:=⟨⟩;exact Un
  | true =>
   rw [hk1] at Z2 hS;simp only [Bool.true_and] at hS;rcases hB with hB|⟨hB0,hBk⟩
   ·subst hB;have hS1:b'=k:=hS;have Q0:=@X5;have Q2:=@Cd;have Kq:w564k:=⟨⟩;exact Un
   ·obtain ⟨p,rfl⟩:=Int.eq_ofNat_of_zero_le hB0;have Qd:=Zo m0 (show p<l.length by omega)
    have Z5:Yr (p:Int) 0=false:=by rw [Q3];omega
    rw [Ze] at hS;obtain ⟨y,hy⟩:=exq (l.getD p m0);rw [hy] at Qd hS;rw [Z5,Bool.false_or] at hS;cases Z9:Op.bytesLess x.name y.name with
    | true =>
     rw [Z9,cond_true] at hS;have Q0:=@X5;have Q2:=@Cd;have Kq:w565k:=⟨⟩;exact Un
    | false =>
     rw [Z9,cond_false] at hS;have Q0:=@X5;have Q2:=@Cd;have Kq:w566k:=⟨⟩;exact Un
 ·have Qu:k=l.length:=by omega
  rw [Qu];have Q0:=@Cd;exact Sd):p:=h
theorem good_least8:Qr Tryz.prog (88,Dg):=by
 obtain ⟨Kx,Kt,Kc,Kd,Kb,Ku,Kw,K,_⟩:=Wi Z3 Zn [] false Wg;have Ko:=Dg.eq_def;refine Wh K Tryz.func88 [.tmp 4] rfl 36 rfl (fun c hc cvs hpre=>?_);unfold Dg at hpre;obtain ⟨⟨l⟩,⟨is⟩,rfl,hl,his⟩:=Jr hpre;simp only at hl his;clear hpre;cases hc;refine Ys 2 ?_;have Kq:w562k:=⟨⟩;exact Un
def Zmk (l:List Us) (b:List Bool) (s:List UInt8):List Bool:=match Yv l s with
 | some n=>b.set n true
 | none=>b
def Bb (l:List Us) (b:List Bool) (ss:List (List UInt8)):List Bool:=ss.foldl (Zmk l) b
def fG (l:List Us) (i:Int) (b:List Bool) (k:Nat):List Bool:=cond (((k:Int) != i)&&!b.getD k false) b (Bb l b (Zbi l k))
def Ub (l:List Us) (i:Int) (b:List Bool):Nat→List Bool
 | 0=>b
 | k+1=>fG l i (Ub l i b k) k
def Xi (l:List Us) (i:Int):Nat→List Bool
 | 0=>List.replicate l.length false
 | r+1=>Ub l i (Xi l i r) l.length
def J0 (l:List Us) (i:Int):List Bool:=Xi l i (l.length+1)
theorem Zhg {l:List Us} {b:List Bool} {s:List UInt8}:(Zmk l b s).length=b.length:=by
 unfold Zmk;split<;>simp
theorem Ft {l:List Us}:∀ {ss:List (List UInt8)} {b:List Bool},(Bb l b ss).length=b.length
 | [],b=>rfl
 | s::ss,b=>by
  show (Bb l (Zmk l b s) ss).length=_;rw [Ft,Zhg]
theorem gC {l:List Us} {b:List Bool} {ss:List (List UInt8)} {j:Nat} (h:j<ss.length):Bb l b (ss.take (j+1))=Zmk l (Bb l b (ss.take j)) (ss.getD j []):=by
 unfold Bb;rw [List.take_succ_eq_append_getElem h,List.foldl_append];simp [h]
theorem Zfg {l:List Us} {i:Int} {b:List Bool} {k:Nat}:(fG l i b k).length=b.length:=by
 unfold fG;cases ((k:Int) != i)&&!b.getD k false
 ·rw [cond_false,Ft]
 ·rfl
theorem Ml {l:List Us} {i:Int} {b:List Bool}:∀ k,(Ub l i b k).length=b.length
 | 0=>rfl
 | k+1=>by rw [Ub,Zfg,Ml k]
theorem Wf {l:List Us} {i:Int}:∀ r,(Xi l i r).length=l.length
 | 0=>by simp [Xi]
 | r+1=>by rw [Xi,Ml,Wf r]
theorem Zdm {b:List Bool} {n:Nat}:(b.map (enc:Bool→D)).set n (.bool true)=(b.set n true).map enc:=by
 rw [List.map_set];rfl
def Bo:Con:=Wc (fun (l:Sl Us) (_:Int)=>Zka l.l) (fun l i=>Sl.mk (J0 l.l i))
structure w569k:Prop
theorem w569k.k (_:w569k) {p:Prop} (h:p:=by
 repeat' first|exact Qg|with_reducible apply And.intro|intro _
 all_goals first|with_reducible exact Jf|omega|exact ⟨k+1,by rw [hb2,hnx1];exact Qy,by omega,by omega⟩|skip):p:=h
structure w571k:Prop
theorem w571k.k (_:w571k) {p:Prop} (h:p:=by
 repeat' first|exact Qg|with_reducible apply And.intro|intro _
 all_goals first|with_reducible exact Jf|omega|exact ⟨j+1,by rw [hsn];exact Qy,by omega,by omega⟩|skip):p:=h
structure w572k:Prop
theorem w572k.k (_:w572k) {p:Prop} (h:p:=by
 repeat' first|exact Qg|with_reducible apply And.intro|intro _
 all_goals first|with_reducible exact Jf|omega|exact ⟨j+1,by rw [hsn,←hms];exact Qy,by omega,by omega⟩|skip):p:=h
structure w573k:Prop
theorem w573k.k (_:w573k) {p:Prop} (h:p:=by
 repeat' first|exact Qg|with_reducible apply And.intro|intro _
 all_goals first|with_reducible exact Jf|omega|exact ⟨k+1,by rw [hb2,hnx1];exact Qy,by omega,by omega⟩|skip):p:=h
structure w570k:Prop
theorem w570k.k (_:w570k) {p:Prop} (h:p:=by
 repeat' first|exact Qg|with_reducible apply And.intro|intro _
 refine Zh [9,35,36,37,38,39,40,41,42,43,44,45,46,47,48,49,50,51,52,53,54,55,56,57,58,59] (fun j:Nat=>[(8,.d (.int .i64 j))]) (fun j:Nat=>[(12,.row 1 ((Bb l b1 (x.imps.take j)).map enc) 0)]) (fun j:Nat=>j≤x.imps.length) (fun j:Nat=>x.imps.length-j) 0 ?_ ?_ ?_
 ·omega
 ·have Ks:=@Bb.eq_1;exact Qy
 rintro j hj;have Zx:=Ft (l:=l) (ss:=x.imps.take j) (b:=b1);obtain ⟨b3,hb3⟩:=exq (Bb l b1 (x.imps.take j));rw [hb3] at Zx ⊢;rcases Zl j x.imps.length with ⟨hjl,Q2⟩|⟨hjl,Q2⟩
 ·have Qz:=Zo ([]:List UInt8) hjl;have hsn:=gC (l:=l) (b:=b1) hjl;rw [hb3] at hsn;obtain ⟨y,hy⟩:=exq (x.imps.getD j []);rw [hy] at Qz hsn;unfold Zmk at hsn;cases hfn:Yv l y with
  | none =>
   have Zv:Xv l y=-1:=by unfold Xv;rw [hfn]
   rw [hfn] at hsn;simp only at hsn;have Zt:=@X5;have Z8:=@Cd;have Kq:w571k:=⟨⟩;exact Un
  | some p =>
   have Zv:Xv l y=p:=by unfold Xv;rw [hfn]
   have hpl:=Ln hfn;have Zu:Xu 0 (p:Int)=true:=by rw [Qp];omega
   rw [hfn] at hsn;simp only at hsn;have hms:=Zdm (b:=b3) (n:=p);have Zy:=Zo false (show p<b3.length by omega)
   obtain ⟨bv,hbv⟩:=exq (b3.getD p false);rw [hbv] at Zy;have Zt:=@X5;have Z8:=@Cd;have Kq:w572k:=⟨⟩;exact Un
 ·have hje:j=x.imps.length:=by omega
  rw [hje,List.take_length] at hb3;rw [hb3] at hnx1;have Zt:=@X5;have Z8:=@Cd;have Kq:w573k:=⟨⟩;exact Un):p:=h
structure w575k:Prop
theorem w575k.k (_:w575k) {p:Prop} (h:p:=by
 repeat' first|exact Qg|with_reducible apply And.intro|intro _
 all_goals first|with_reducible exact Jf|omega|exact ⟨j+1,by rw [hsn];exact Qy,by omega,by omega⟩|skip):p:=h
structure w576k:Prop
theorem w576k.k (_:w576k) {p:Prop} (h:p:=by
 repeat' first|exact Qg|with_reducible apply And.intro|intro _
 all_goals first|with_reducible exact Jf|omega|exact ⟨j+1,by rw [hsn,←hms];exact Qy,by omega,by omega⟩|skip):p:=h
structure w577k:Prop
theorem w577k.k (_:w577k) {p:Prop} (h:p:=by
 repeat' first|exact Qg|with_reducible apply And.intro|intro _
 all_goals first|with_reducible exact Jf|omega|exact ⟨k+1,by rw [hb2,hnx1];exact Qy,by omega,by omega⟩|skip):p:=h
structure w574k:Prop
theorem w574k.k (_:w574k) {p:Prop} (h:p:=by
 repeat' first|exact Qg|with_reducible apply And.intro|intro _
 refine Zh [9,35,36,37,38,39,40,41,42,43,44,45,46,47,48,49,50,51,52,53,54,55,56,57,58,59] (fun j:Nat=>[(8,.d (.int .i64 j))]) (fun j:Nat=>[(12,.row 1 ((Bb l b1 (x.imps.take j)).map enc) 0)]) (fun j:Nat=>j≤x.imps.length) (fun j:Nat=>x.imps.length-j) 0 ?_ ?_ ?_
 ·omega
 ·have Ks:=@Bb.eq_1;exact Qy
 rintro j hj;have Zx:=Ft (l:=l) (ss:=x.imps.take j) (b:=b1);obtain ⟨b3,hb3⟩:=exq (Bb l b1 (x.imps.take j));rw [hb3] at Zx ⊢;rcases Zl j x.imps.length with ⟨hjl,Q2⟩|⟨hjl,Q2⟩
 ·have Qz:=Zo ([]:List UInt8) hjl;have hsn:=gC (l:=l) (b:=b1) hjl;rw [hb3] at hsn;obtain ⟨y,hy⟩:=exq (x.imps.getD j []);rw [hy] at Qz hsn;unfold Zmk at hsn;cases hfn:Yv l y with
  | none =>
   have Zv:Xv l y=-1:=by unfold Xv;rw [hfn]
   rw [hfn] at hsn;simp only at hsn;have Zt:=@X5;have Z8:=@Cd;have Kq:w575k:=⟨⟩;exact Un
  | some p =>
   have Zv:Xv l y=p:=by unfold Xv;rw [hfn]
   have hpl:=Ln hfn;have Zu:Xu 0 (p:Int)=true:=by rw [Qp];omega
   rw [hfn] at hsn;simp only at hsn;have hms:=Zdm (b:=b3) (n:=p);have Zy:=Zo false (show p<b3.length by omega)
   obtain ⟨bv,hbv⟩:=exq (b3.getD p false);rw [hbv] at Zy;have Zt:=@X5;have Z8:=@Cd;have Kq:w576k:=⟨⟩;exact Un
 ·have hje:j=x.imps.length:=by omega
  rw [hje,List.take_length] at hb3;rw [hb3] at hnx1;have Zt:=@X5;have Z8:=@Cd;have Kq:w577k:=⟨⟩;exact Un):p:=h
structure w578k:Prop
theorem w578k.k (_:w578k) {p:Prop} (h:p:=by
 repeat' first|exact Qg|with_reducible apply And.intro|intro _
 all_goals first|with_reducible exact Jf|omega|exact ⟨r+1,by exact Qy,by omega,by omega⟩|skip):p:=h
structure w568k:Prop
theorem w568k.k (_:w568k) {p:Prop} (h:p:=by
 repeat' first|exact Qg|with_reducible apply And.intro|intro _
 refine Zh [8,9,19,20,21,22,23,24,25,26,27,28,29,30,31,32,33,34,35,36,37,38,39,40,41,42,43,44,45,46,47,48,49,50,51,52,53,54,55,56,57,58,59] (fun k:Nat=>[(7,.d (.int .i64 k))]) (fun k:Nat=>[(12,.row 1 ((Ub l i b0 k).map enc) 0)]) (fun k:Nat=>k≤l.length) (fun k:Nat=>l.length-k) 0 ?_ ?_ ?_
 ·omega
 ·have Ks:=@Ub.eq_1;have Iv:=@Ub.eq_2;exact Qy
 rintro k hk;have Z9:=Ml (l:=l) (i:=i) (b:=b0) k;have hnx1:Ub l i b0 (k+1)=cond (((k:Int) != i)&&!(Ub l i b0 k).getD k false) (Ub l i b0 k) (Bb l (Ub l i b0 k) (Zbi l k)):=rfl;obtain ⟨b1,hb1⟩:=exq (Ub l i b0 k);obtain ⟨b2,hb2⟩:=exq (Ub l i b0 (k+1));rw [hb1] at Z9;rw [hb1,hb2] at hnx1;rcases Zl k l.length with ⟨hlt,Qi⟩|⟨hlt,Qi⟩
 ·rw [hb1];have Z2:=Zo m0 hlt;have Qd:=Zo false (show k<b1.length by omega)
  have hi20:=Zbm hf k;unfold Zbi at hi20 hnx1;obtain ⟨x,hx⟩:=exq (l.getD k m0);rw [hx] at Z2 hi20 hnx1;cases hc1:(((k:Int) != i)&&!b1.getD k false) with
  | true =>
   rw [hc1,cond_true] at hnx1;simp only [Zg,Bool.not_eq_true'] at hc1;obtain ⟨Z5,hk2⟩:=hc1;rw [hk2] at Qd;have Zt:=@X5;have Z8:=@Cd;have Kq:w569k:=⟨⟩;exact Un
  | false =>
   rw [hc1,cond_false] at hnx1;obtain ⟨c1,hcc⟩:=exq (b1.getD k false);rw [hcc] at Qd hc1;obtain ⟨c2,Q0⟩:=exq (((k:Int) != i));rw [Q0] at hc1;have inner:True:=trivial;cases c2 with
   | true =>
    have hc1':c1=true:=by simpa using hc1
    subst hc1';have Zt:=@X5;have Z8:=@Cd;have Kq:w570k:=⟨⟩;exact Un
   | false =>
    have Zt:=@X5;have Z8:=@Cd;have Kq:w574k:=⟨⟩;exact Un
 ·have Zz:k=l.length:=by omega
  rw [Zz,←hnx];have Zt:=@Cd;have Kq:w578k:=⟨⟩;exact Un):p:=h
structure w567k:Prop
theorem w567k.k (_:w567k) {p:Prop} (h:p:=by
 repeat' first|exact Qg|with_reducible apply And.intro|intro _
 refine Zh [7,8,9,13,14,15,16,17,18,19,20,21,22,23,24,25,26,27,28,29,30,31,32,33,34,35,36,37,38,39,40,41,42,43,44,45,46,47,48,49,50,51,52,53,54,55,56,57,58,59] (fun r:Nat=>[(5,.sl 12 l.length),(6,.d (.int .i64 r))]) (fun r:Nat=>[(12,.row 1 ((Xi l i r).map enc) 0)]) (fun r:Nat=>r≤l.length+1) (fun r:Nat=>l.length+1-r) 0 ?_ ?_ ?_
 ·omega
 ·have Ks:=@Xi.eq_1;have Iv:=@Xi.eq_2;exact Qy
 rintro r hr;have Qu:=Wf (l:=l) (i:=i) r;have hnx:Xi l i (r+1)=Ub l i (Xi l i r) l.length:=rfl;obtain ⟨b0,Zs⟩:=exq (Xi l i r);by_cases hrl:r≤l.length
 ·have Qh:Xu (r:Int) (l.length:Int)=true:=by rw [Qp];omega
  rw [Zs] at Qu hnx ⊢;have Zt:=@Cd;have Kq:w568k:=⟨⟩;exact Un
 ·have hrl':r=l.length+1:=by omega
  have Qh:Xu (r:Int) (l.length:Int)=false:=by rw [Fu];omega
  have Z4:J0 l i=b0:=by unfold J0;rw [←hrl',Zs]
  rw [Zs] at Qu;rw [Zs];have Zt:=@Cd;exact Sd):p:=h
theorem good_reached8:Qr Tryz.prog (87,Bo):=by
 obtain ⟨Kx,Kt,Kc,Kd,Kb,Ku,Kw,K,Yj,_⟩:=Wi Z3 Zn [] false (Ja good_find8 B1.eq_def Wg);have Ko:=Bo.eq_def;refine Wh K Tryz.func87 [.tmp 4] rfl 61 rfl (fun c hc cvs hpre=>?_);unfold Bo at hpre;obtain ⟨⟨l⟩,i,rfl,hf⟩:=Jr hpre;simp only at hf;clear hpre;have hl20:=Zbl hf;cases hc;refine Ys 3 ?_;have Zt:=@Cd;have Kq:w567k:=⟨⟩;exact Un
def Uh {A R S T:Type} [Enc A] [Enc R] [Enc S] [Enc T] (p:A→Prop) (f:A→R×S×T):Con:=⟨[false],[false,false,false],fun c=>match c with
 | [.d x]=>Up A x∧p (dec x)
 | _=>False,fun c=>match c with
 | [.d x]=>.tup [.d (enc (f (dec x)).1),.d (enc (f (dec x)).2.1),.d (enc (f (dec x)).2.2)]
 | _=>.d .nilp⟩
theorem cI {A R S T:Type} [Enc A] [Enc R] [Enc S] [Enc T] {p:A→Prop} {f:A→R×S×T} {c:List CV} (h:(Uh p f).pre c):∃ a,c=[.d (enc a)]∧p a:=by
 unfold Uh at h;simp only at h;split at h
 ·next x=>exact ⟨dec x,by rw [←h.1],h.2⟩
 ·exact h.elim
theorem Zd7 {p:Nat→Bool}:∀ {n k:Nat},k<n→(∀ j,j<k→p j=false)→p k=true→(List.range n).find? p=some k:=by
 intro n k hk hno hp;rw [List.find?_eq_some_iff_append];refine ⟨hp,List.range k,(List.range' (k+1) (n-k-1)),?_,fun a ha=>?_⟩
 ·rw [List.range_eq_range',List.range_eq_range',show n=k+(1+(n-k-1)) by omega,List.range'_append_1.symm]
  rw [show 1+(n-k-1)=(n-k-1)+1 by omega,List.range'_succ]
  simp
 ·rw [hno a (List.mem_range.1 ha)];rfl
theorem Zd6 {p:Nat→Bool} {n:Nat} (hno:∀ j,j<n→p j=false):(List.range n).find? p=none:=by
 rw [List.find?_eq_none];intro x hx;rw [hno x (List.mem_range.1 hx)];simp
def fillN (f:Nat→Bool) (n:Nat):Nat→List Bool
 | 0=>List.replicate n false
 | k+1=>(fillN f n k).set k (f k)
theorem T4 (f:Nat→Bool) (n:Nat):∀ k,(fillN f n k).length=n
 | 0=>by simp [fillN]
 | k+1=>by rw [fillN,List.length_set,T4 f n k]
theorem Zea (f:Nat→Bool) (n:Nat):∀ k j,k≤n→j<n→(fillN f n k)[j]?=some (if j<k then f j else false)
 | 0,j,_,hj=>by simp [fillN,hj]
 | k+1,j,hk,hj=>by
  have ih:=Zea f n k j (by omega) hj
  rw [fillN,List.getElem?_set];by_cases e:k=j
  ·subst e;rw [if_pos rfl,if_pos (by rw [T4];exact hj),if_pos (by omega)]
  ·rw [if_neg e,ih];by_cases h:j<k
   ·rw [if_pos h,if_pos (by omega)]
   ·rw [if_neg h,if_neg (by omega)]
theorem F8 (f:Nat→Bool) (n:Nat):fillN f n n=(List.range n).map f:=by
 apply List.ext_getElem?;intro j;rcases Nat.lt_or_ge j n with hj|hj
 ·rw [Zea f n n j (Zm _) hj,if_pos hj];simp [hj]
 ·rw [List.getElem?_eq_none (by rw [T4];exact hj),List.getElem?_eq_none (by simpa using hj)]
def iC (l:List Us) (k:Nat):Bool:=Yr (Xv l (nm l k)) (k:Int)
def Ew (l:List Us) (k:Nat):Bool:=(Zbi l k).any fun s=>Yr (Xv l s) 0
def cG (l:List Us) (k:Nat):Bool:=(J0 l (k:Int)).getD k false
def Tv (l:List Us) (out:List Int) (k:Nat):Bool:=!Zfc out (k:Int)&&Cr l (k:Int) out
def U9 (l:List Us):Nat→List Int
 | 0=>[]
 | r+1=>U9 l r++[Wx l ((List.range l.length).map (Tv l (U9 l r))) l.length]
theorem Ug (l:List Us):∀ r,(U9 l r).length=r
 | 0=>rfl
 | r+1=>by rw [U9,Zj,Ug l r];rfl
def K1 (l:List Us):Sl Int×Int×Int:=match (List.range l.length).find? (iC l) with
 | some i=>(⟨[]⟩,i,7)
 | none=>match (List.range l.length).find? (Ew l) with
  | some i=>(⟨[]⟩,i,6)
  | none=>cond (Xu 0 (Wx l ((List.range l.length).map (cG l)) l.length)) (⟨[]⟩,Wx l ((List.range l.length).map (cG l)) l.length,8) (⟨U9 l l.length⟩,0,0)
def Dt:Con:=Uh (fun (l:Sl Us)=>Zka l.l) (fun l=>K1 l.l)
structure w580k:Prop
theorem w580k.k (_:w580k) {p:Prop} (h:p:=by
 repeat' first|exact Qg|with_reducible apply And.intro|intro _
 all_goals first|with_reducible exact Jf|omega|exact ⟨k+1,by exact Qy,by omega,hs,by omega⟩|skip):p:=h
structure w583k:Prop
theorem w583k.k (_:w583k) {p:Prop} (h:p:=by
 repeat' first|exact Qg|with_reducible apply And.intro|intro _
 all_goals first|with_reducible exact Jf|omega|exact ⟨j+1,by exact Qy,by omega,hs,by omega⟩|skip):p:=h
structure w584k:Prop
theorem w584k.k (_:w584k) {p:Prop} (h:p:=by
 repeat' first|exact Qg|with_reducible apply And.intro|intro _
 all_goals first|with_reducible exact Jf|omega|exact ⟨k+1,by exact Qy,by omega,hs,by omega⟩|skip):p:=h
structure w582k:Prop
theorem w582k.k (_:w582k) {p:Prop} (h:p:=by
 repeat' first|exact Qg|with_reducible apply And.intro|intro _
 refine Zh [2,3,4,36,37,38,39,40,41,42,43,44,45,46,47,48,49,50,51,52,53,54,55,56,57] (fun j:Nat=>[(7,.d (.int .i64 j))]) (fun j:Nat=>[]) (fun j:Nat=>j≤x.imps.length∧∀ i,i<j→0≤Xv l (x.imps.getD i [])) (fun j:Nat=>x.imps.length-j) 0 ?_ ?_ ?_
 ·simp
 ·exact Qy
 rintro j ⟨hj,hnj⟩;rcases Zl j x.imps.length with ⟨hjl,Z5⟩|⟨hjl,Z5⟩
 ·have Z9:=Zo ([]:List UInt8) hjl;have hsj:Yr (Xv l (x.imps.getD j [])) 0=false→∀ i,i<j+1→0≤Xv l (x.imps.getD i []):=fun h=>Zie hnj (by rw [Q3] at h;omega)
  have hbj:Yr (Xv l (x.imps.getD j [])) 0=true→R1=⟨[]⟩∧R2=k∧R3=6:=fun h=>hit (cN (p:=fun s=>Yr (Xv l s) 0) [] j hjl h);obtain ⟨y,hy⟩:=exq (x.imps.getD j []);rw [hy] at Z9 hsj hbj;cases Z2:Yr (Xv l y) 0 with
  | true =>
   obtain ⟨e1,e2,e3⟩:=hbj Z2;subst e1 e2 e3;have Zs:=@Uh.eq_def;have Zt:=@X5;have Z8:=@Cd;exact Sd
  | false =>
   have hs:=hsj Z2;have Zs:=@X5;have Zt:=@Cd;have Kq:w583k:=⟨⟩;exact Un
 ·have hs:=hst (Dz (p:=fun s=>Yr (Xv l s) 0) [] fun i hi=>by have:=hnj i (by omega);rw [Q3];omega)
  have Zs:=@X5;have Zt:=@Cd;have Kq:w584k:=⟨⟩;exact Un):p:=h
structure w586k:Prop
theorem w586k.k (_:w586k) {p:Prop} (h:p:=by
 repeat' first|exact Qg|with_reducible apply And.intro|intro _
 all_goals first|with_reducible exact Jf|omega|exact ⟨k+1,by rw [hS3,←hms];exact Qy,by omega,by omega⟩|skip):p:=h
structure w589k:Prop
theorem w589k.k (_:w589k) {p:Prop} (h:p:=by
 repeat' first|exact Qg|with_reducible apply And.intro|intro _
 all_goals first|with_reducible exact Jf|omega|exact ⟨(k+1,r),by simp only [hS,←hm1];exact Qy,by simp only;omega,by simp only;omega,by simp only;omega⟩|skip):p:=h
structure w590k:Prop
theorem w590k.k (_:w590k) {p:Prop} (h:p:=by
 repeat' first|exact Qg|with_reducible apply And.intro|intro _
 all_goals first|with_reducible exact Jf|omega|exact ⟨(k+1,r),by simp only [hS,←hm1];exact Qy,by simp only;omega,by simp only;omega,by simp only;omega⟩|skip):p:=h
structure w591k:Prop
theorem w591k.k (_:w591k) {p:Prop} (h:p:=by
 repeat' first|exact Qg|with_reducible apply And.intro|intro _
 all_goals first|with_reducible exact Jf|omega|exact ⟨(r+1,gz),by simp only [ho2,hoS];refine Zr8 ?_;exact Zu.symm,by simp only;omega,by simp only;omega,by simp only;omega⟩|skip):p:=h
structure w588k:Prop
theorem w588k.k (_:w588k) {p:Prop} (h:p:=by
 repeat' first|exact Qg|with_reducible apply And.intro|intro _
 all_goals try omega
 refine Zh [90,91,92,93,94,95,96,97,98,99,100,101,102,103,104,105,106,107,108] (fun q:Nat×Nat=>[(13,.d (.int .i64 q.1))]) (fun q:Nat×Nat=>[(82,.row 1 (o.map enc) q.2),(89,.row 1 ((fillN (Tv l o) l.length q.1).map enc) 0)]) (fun q:Nat×Nat=>q.1≤l.length∧q.2≤r) (fun q:Nat×Nat=>l.length-q.1) (0,fz) ?_ ?_ ?_
 ·simp;omega
 ·have Ks:=@fillN.eq_1;have Iv:=@fillN.eq_2;exact Qy
 rintro ⟨k,gz⟩ ⟨hk,hgz⟩;simp only at hk hgz ⊢;have Qz:=T4 (Tv l o) l.length k;have hS:fillN (Tv l o) l.length (k+1)=(fillN (Tv l o) l.length k).set k (!Zfc o (k:Int)&&Cr l (k:Int) o):=rfl;rcases Zl k l.length with ⟨hlt,Qh⟩|⟨hlt,Qh⟩
 ·obtain ⟨b,Z2⟩:=exq (fillN (Tv l o) l.length k);rw [Z2] at Qz hS ⊢;have Q0:=Zo false (show k<b.length by omega)
  obtain ⟨c2,hcd⟩:=exq (b.getD k false);rw [hcd] at Q0;have hms:∀ v,(b.map (enc:Bool→D)).set k (.bool v)=(b.set k v).map enc:=fun v=>by rw [List.map_set];rfl
  cases Zy:Zfc o (k:Int) with
  | true =>
   rw [Zy] at hS;simp only [Bool.not_true,Bool.false_and] at hS;have hm1:=hms false;have Zs:=@Cd;have Kq:w589k:=⟨⟩;exact Un
  | false =>
   rw [Zy] at hS;simp only [Bool.not_false,Bool.true_and] at hS;obtain ⟨v,Zz⟩:=exq (Cr l (k:Int) o);rw [Zz] at hS;have hm1:=hms v;have Zs:=@Cd;have Kq:w590k:=⟨⟩;exact Un
 ·have hkl2:k=l.length:=by omega
  rw [hkl2,F8] at Qz;rw [hkl2] at Qh;rw [hkl2,F8];obtain ⟨my,hmy⟩:=exq ((List.range l.length).map (Tv l o));rw [hmy] at Qz hoS ⊢;obtain ⟨z,Z4⟩:=exq (Wx l my l.length);rw [Z4] at hoS;have Zs:=@Cd;have Kq:w591k:=⟨⟩;exact Un):p:=h
structure w587k:Prop
theorem w587k.k (_:w587k) {p:Prop} (h:p:=by
 repeat' first|exact Qg|with_reducible apply And.intro|intro _
 all_goals try omega
 refine Zh [12,13,86,87,88,89,90,91,92,93,94,95,96,97,98,99,100,101,102,103,104,105,106,107,108,109,110,111,112,113,114,115] (fun q:Nat×Nat=>[(11,.sl 82 ((U9 l q.1).map (enc:Int→D)).length),(85,.d (.int .i64 q.1))]) (fun q:Nat×Nat=>[(82,.row 1 ((U9 l q.1).map enc) q.2)]) (fun q:Nat×Nat=>q.1≤l.length∧q.2≤q.1) (fun q:Nat×Nat=>l.length-q.1) (0,0) ?_ ?_ ?_
 ·simp
 ·have Ks:=@U9.eq_1;have Iv:=@U9.eq_2;exact Qy
 clear Qh;rintro ⟨r,fz⟩ ⟨hr,hfz⟩;simp only at hr hfz ⊢;have Zu:=Ug l r;have hoS:U9 l (r+1)=U9 l r++[Wx l ((List.range l.length).map (Tv l (U9 l r))) l.length]:=rfl;rcases Zl r l.length with ⟨hrlt,Qu⟩|⟨hrlt,Qu⟩
 ·obtain ⟨o,ho⟩:=exq (U9 l r);obtain ⟨o2,ho2⟩:=exq (U9 l (r+1));rw [ho] at Zu;rw [ho,ho2] at hoS;rw [ho];have Zs:=@Cd;have Kq:w588k:=⟨⟩;exact Un
 ·have Q2:r=l.length:=by omega
  rw [Q2] at Qu ⊢;have Zs:=@Uh.eq_def;have Zt:=@Cd;exact Sd):p:=h
structure w585k:Prop
theorem w585k.k (_:w585k) {p:Prop} (h:p:=by
 repeat' first|exact Qg|with_reducible apply And.intro|intro _
 refine Zh [61,62,63,64,65,66,67,68,69,70,71,72,73,74,75] (fun k:Nat=>[(9,.d (.int .i64 k))]) (fun k:Nat=>[(60,.row 1 ((fillN (cG l) l.length k).map enc) 0)]) (fun k:Nat=>k≤l.length) (fun k:Nat=>l.length-k) 0 ?_ ?_ ?_
 ·omega
 ·have Ks:=@fillN.eq_1;have Iv:=@fillN.eq_2;exact Qy
 clear Qh hlt hk;rintro k hk;have Qz:=T4 (cG l) l.length k;have hS3:fillN (cG l) l.length (k+1)=(fillN (cG l) l.length k).set k ((J0 l (k:Int)).getD k false):=rfl;rcases Zl k l.length with ⟨hlt,Qh⟩|⟨hlt,Qh⟩
 ·obtain ⟨b,Z2⟩:=exq (fillN (cG l) l.length k);rw [Z2] at Qz hS3 ⊢;have Q2:(J0 l (k:Int)).length=l.length:=Wf _;have Z9:=Zo false (show k<(J0 l (k:Int)).length by omega)
  have Q0:=Zo false (show k<b.length by omega)
  obtain ⟨c1,hcc⟩:=exq ((J0 l (k:Int)).getD k false);obtain ⟨c2,hcd⟩:=exq (b.getD k false);rw [hcc] at Z9 hS3;rw [hcd] at Q0;have hms:(b.map (enc:Bool→D)).set k (.bool c1)=(b.set k c1).map enc:=by rw [List.map_set];rfl
  obtain ⟨rb,Qu⟩:=exq (J0 l (k:Int));rw [Qu] at Q2 Z9;have Zs:=@Cd;have Kq:w586k:=⟨⟩;exact Un
 have hkl:k=l.length:=by omega
 rw [hkl,F8] at Qz;rw [hkl,F8];obtain ⟨cy,hcy⟩:=exq ((List.range l.length).map (cG l));rw [hcy] at Qz hR2 ⊢;rw [hkl] at Qh;obtain ⟨best,Zv⟩:=exq (Wx l cy l.length);rw [Zv] at hR2;cases Zx:Xu 0 best with
 | true =>
  rw [Zx,cond_true] at hR2;injection hR2 with e1 e2
  injection e2 with e2 e3
  subst e1 e2 e3;have Zs:=@Uh.eq_def;have Zt:=@Cd;exact Sd
 | false =>
 rw [Zx,cond_false] at hR2;injection hR2 with e1 e2
 injection e2 with e2 e3
 subst e1 e2 e3;have Zs:=@Cd;have Kq:w587k:=⟨⟩;exact Un):p:=h
structure w581k:Prop
theorem w581k.k (_:w581k) {p:Prop} (h:p:=by
 repeat' first|exact Qg|with_reducible apply And.intro|intro _
 refine Zh [2,3,4,7,30,31,32,33,34,35,36,37,38,39,40,41,42,43,44,45,46,47,48,49,50,51,52,53,54,55,56,57] (fun k:Nat=>[(6,.d (.int .i64 k))]) (fun k:Nat=>[]) (fun k:Nat=>k≤l.length∧∀ j,j<k→Ew l j=false) (fun k:Nat=>l.length-k) 0 ?_ ?_ ?_
 ·simp
 ·exact Qy
 clear Qh hlt hk;rintro k ⟨hk,hno⟩;rcases Zl k l.length with ⟨hlt,Qh⟩|⟨hlt,Qh⟩
 ·have Qi:=Zo m0 hlt;have hi20:=Zbm hf k;have hst:Ew l k=false→∀ j,j<k+1→Ew l j=false:=fun h=>Zie hno h;have hit:Ew l k=true→R1=⟨[]⟩∧R2=k∧R3=6:=fun h=>by
   rw [Zd7 hlt hno h] at hR2;injection hR2 with e1 e2
   injection e2 with e2 e3
   exact ⟨e1.symm,e2.symm,e3.symm⟩
  unfold Ew at hst hit;unfold Zbi at hi20 hst hit;obtain ⟨x,hx⟩:=exq (l.getD k m0);rw [hx] at Qi hst hit hi20;have Zs:=@Cd;have Kq:w582k:=⟨⟩;exact Un
 have hlack:=Zd6 (p:=Ew l) (n:=l.length) fun j hj=>hno j (by omega)
 rw [hlack] at hR2;simp only at hR2;clear hno;have Zs:=@Cd;have Kq:w585k:=⟨⟩;exact Un):p:=h
structure w579k:Prop
theorem w579k.k (_:w579k) {p:Prop} (h:p:=by
 repeat' first|exact Qg|with_reducible apply And.intro|intro _
 refine Zh [2,3,4,14,15,16,17,18,19,20,21,22,23,24,25,26,27,28,29] (fun k:Nat=>[(5,.d (.int .i64 k))]) (fun k:Nat=>[]) (fun k:Nat=>k≤l.length∧∀ j,j<k→iC l j=false) (fun k:Nat=>l.length-k) 0 ?_ ?_ ?_
 ·simp
 ·exact Qy
 rintro k ⟨hk,hno⟩;rcases Zl k l.length with ⟨hlt,Qh⟩|⟨hlt,Qh⟩
 ·have Qi:=Zo m0 hlt;have hst:iC l k=false→∀ j,j<k+1→iC l j=false:=fun h=>Zie hno h;have hit:iC l k=true→R1=⟨[]⟩∧R2=k∧R3=7:=fun h=>by
   rw [Zd7 hlt hno h] at hR2;injection hR2 with e1 e2
   injection e2 with e2 e3
   exact ⟨e1.symm,e2.symm,e3.symm⟩
  unfold iC nm at hst hit;obtain ⟨x,hx⟩:=exq (l.getD k m0);rw [hx] at Qi hst hit;cases Z2:Yr (Xv l x.name) (k:Int) with
  | true =>
   obtain ⟨e1,e2,e3⟩:=hit Z2;subst e1 e2 e3;have Zs:=@Uh.eq_def;have Zt:=@X5;have Z8:=@Cd;exact Sd
  | false =>
   have hs:=hst Z2;have Zs:=@X5;have Zt:=@Cd;have Kq:w580k:=⟨⟩;exact Un
 have hdup:=Zd6 (p:=iC l) (n:=l.length) fun j hj=>hno j (by omega)
 rw [hdup] at hR2;simp only at hR2;clear hno;have Zs:=@Cd;have Kq:w581k:=⟨⟩;exact Un):p:=h
theorem good_Order8:Qr Tryz.prog (40,Dt):=by
 obtain ⟨Kx,Kt,Kc,Kd,Kb,Ku,Kw,K,Yj,Kv,P4,B6,D2,_⟩:=Wi Z3 Zn [] false (Ja good_find8 B1.eq_def (Ja good_reached8 Bo.eq_def (Ja good_least8 Dg.eq_def (Ja good_In08 Fb.eq_def (Ja good_ready8 De.eq_def Wg)))));have Ko:=Dt.eq_def;refine Wh K Tryz.func40 [.tmp 2,.tmp 3,.tmp 4] rfl 117 rfl (fun c hc cvs hpre=>?_);unfold Dt at hpre;obtain ⟨⟨l⟩,rfl,hf⟩:=cI hpre;simp only at hf;clear hpre;have hl20:=Zbl hf;obtain ⟨R1,R2,R3,Qd⟩:∃ a b d,K1 l=(a,b,d):=⟨_,_,_,rfl⟩;have hR2:=Qd;unfold K1 at hR2;cases hc;refine Ys 7 ?_;have Kq:w579k:=⟨⟩;exact Un
def xP (l:List Us) (k j:Nat):Prop:=∃ s∈Zbi l k,Yv l s=some j
inductive Path (l:List Us):Nat→Nat→Prop
 | one {k j:Nat}:xP l k j→Path l k j
 | more {k j n:Nat}:xP l k j→Path l j n→Path l k n
theorem Zau {l:List Us} {k j:Nat} (h:xP l k j):k<l.length∧j<l.length:=by
 obtain ⟨s,hs,hj⟩:=h;refine ⟨?_,Ln hj⟩;rcases Nat.lt_or_ge k l.length with h|h
 ·exact h
 ·unfold Zbi at hs;rw [Zc,List.getElem?_eq_none h] at hs;cases hs
theorem Zmt {l:List Us} {k j:Nat} (h:Path l k j):k<l.length∧j<l.length:=by
 induction h with
 | one h=>exact Zau h
 | more h _ ih=>exact ⟨(Zau h).1,ih.2⟩
theorem Path.trans {l:List Us} {a b c:Nat} (h:Path l a b) (k:Path l b c):Path l a c:=by
 induction h with
 | one h=>exact .more h k
 | more h _ ih=>exact .more h (ih k)
theorem Path.snoc {l:List Us} {a b c:Nat} (h:Path l a b) (k:xP l b c):Path l a c:=h.trans (.one k)
theorem Zc5 {l:List Us} {M:Nat→Prop} (hM:∀ k j,M k→xP l k j→M j) {i k:Nat} (h:Path l i k) (h1:∀ j,xP l i j→M j):M k:=by
 induction h with
 | one h=>exact h1 _ h
 | more h _ ih=>exact ih fun j hj=>hM _ _ (h1 _ h) hj
theorem Zle {b:List Bool} {n k:Nat} (hn:n<b.length):(b.set n true).getD k false=(b.getD k false||(n==k)):=by
 rw [Zc,List.getElem?_set,Zc];by_cases h:n=k
 ·subst h;simp [hn]
 ·rw [if_neg h];have:(n==k)=false:=by rw [Zf];exact h
  rw [this,Bool.or_false]
theorem Zoe {l:List Us} {b:List Bool} (hb:b.length=l.length) (s:List UInt8) (k:Nat):(Zmk l b s).getD k false=true↔b.getD k false=true∨Yv l s=some k:=by
 unfold Zmk;cases h:Yv l s with
 | none=>simp
 | some n =>
  have:=Ln h;simp only;rw [Zle (by omega),Bool.or_eq_true,Zp]
  simp
theorem Zdl {l:List Us}:∀ {ss:List (List UInt8)} {b:List Bool} (_:b.length=l.length) (k:Nat),(Bb l b ss).getD k false=true↔b.getD k false=true∨∃ s∈ss,Yv l s=some k
 | [],b,hb,k=>by simp [Bb]
 | s::ss,b,hb,k=>by
  show (Bb l (Zmk l b s) ss).getD k false=true↔_;rw [Zdl (by rw [Zhg,hb]) k,Zoe hb]
  simp only [Xn,exists_eq_or_imp,or_assoc]
theorem bH {l:List Us} {i:Nat} {b:List Bool} (hb:b.length=l.length) (k j:Nat) :
  (fG l i b k).getD j false=true↔b.getD j false=true∨((k=i∨b.getD k false=true)∧xP l k j):=by
 unfold fG;cases hc:(((k:Int) != (i:Int))&&!b.getD k false) with
 | true =>
  rw [cond_true];rw [Zg,Bool.not_eq_true',bne_iff_ne] at hc;constructor
  ·exact .inl
  ·rintro (h|⟨h|h,_⟩)
   ·exact h
   ·exact absurd (by rw [h]) hc.1
   ·rw [hc.2] at h;cases h
 | false =>
  rw [cond_false,Zdl hb];rw [Bool.and_eq_false_iff,bne_eq_false_iff_eq,Bool.not_eq_false'] at hc;have h1:k=i∨b.getD k false=true:=by
   rcases hc with h|h
   ·exact .inl (by omega)
   ·exact .inr h
  constructor
  ·rintro (h|h)
   ·exact .inl h
   ·exact .inr ⟨h1,h⟩
  ·rintro (h|⟨_,h⟩)
   ·exact .inl h
   ·exact .inr h
theorem Ee {l:List Us} {i:Nat} {b:List Bool} (hb:b.length=l.length):∀ n j,b.getD j false=true→(Ub l i b n).getD j false=true
 | 0,_,h=>h
 | n+1,j,h=>by
  rw [Ub,bH (by rw [Ml,hb])]
  exact .inl (Ee hb n j h)
theorem dQ {l:List Us} {i:Nat} {b:List Bool} (hb:b.length=l.length):∀ n k j,k<n→(k=i∨b.getD k false=true)→xP l k j→(Ub l i b n).getD j false=true
 | 0,_,_,h,_,_=>by omega
 | n+1,k,j,h,hk,hs=>by
  rw [Ub,bH (by rw [Ml,hb])]
  by_cases e:k=n
  ·subst e;refine .inr ⟨?_,hs⟩;rcases hk with h|h
   ·exact .inl h
   ·exact .inr (Ee hb k k h)
  ·exact .inl (dQ hb n k j (by omega) hk hs)
theorem Ci {l:List Us} {i:Nat} {b:List Bool} (hb:b.length=l.length) (h0:∀ k,b.getD k false=true→Path l i k):∀ n k,(Ub l i b n).getD k false=true→Path l i k
 | 0,k,h=>h0 k h
 | n+1,j,h=>by
  rw [Ub,bH (by rw [Ml,hb])] at h
  rcases h with h|⟨h|h,hs⟩
  ·exact Ci hb h0 n j h
  ·subst h;exact .one hs
  ·exact (Ci hb h0 n n h).snoc hs
theorem I3 {l:List Us} {i:Nat}:∀ r k,(Xi l i r).getD k false=true→Path l i k
 | 0,k,h=>by
  have:(List.replicate l.length false).getD k false=false:=by
   rw [Zc,List.getElem?_replicate];split<;>rfl
  change (List.replicate l.length false).getD k false=true at h
  rw [this] at h;cases h
 | r+1,k,h=>Ci (Wf r) (fun k=>I3 r k) l.length k h
theorem Zgo:∀ {b c:List Bool},b.length=c.length→(∀ k,b.getD k false=true→c.getD k false=true)→b=c∨b.countP id<c.countP id
 | [],[],_,_=>.inl rfl
 | [],_::_,h,_=>by simp at h
 | _::_,[],h,_=>by simp at h
 | x::b,y::c,h,hm=>by
  have h0:=hm 0;simp only [List.getD_cons_zero] at h0;have ih:=Zgo (b:=b) (c:=c) (by simpa using h) (fun k=>by simpa using hm (k+1))
  rcases ih with e|e
  ·subst e;cases x with
   | true=>rw [h0 rfl];exact .inl rfl
   | false =>
    cases y with
    | false=>exact .inl rfl
    | true=>right;simp
  ·right;cases x with
   | true=>rw [h0 rfl];simpa using e
   | false=>cases y<;>simp<;>omega
theorem Zct {l:List Us} {i:Nat} (r:Nat):Xi l i r=Xi l i (r+1)∨(Xi l i r).countP id<(Xi l i (r+1)).countP id :=
 Zgo (by rw [Wf,Wf]) fun k h=>Ee (Wf r) _ k h
theorem Ei {l:List Us} {i:Nat} {r:Nat} (h:Xi l i r=Xi l i (r+1)):∀ k,Xi l i (r+k)=Xi l i r
 | 0=>rfl
 | k+1=>by
  show Xi l i ((r+k)+1)=_;rw [Xi,Ei h k];exact h.symm
theorem I2 {l:List Us} {i:Nat}:∀ r,(∃ q,q<r∧Xi l i q=Xi l i (q+1))∨r≤(Xi l i r).countP id
 | 0=>.inr (Nat.zero_le _)
 | r+1=>by
  rcases I2 r with ⟨q,h1,h2⟩|h
  ·exact .inl ⟨q,by omega,h2⟩
  ·rcases Zct (l:=l) (i:=i) r with e|e
   ·exact .inl ⟨r,by omega,e⟩
   ·exact .inr (by omega)
theorem Ej {l:List Us} {i:Nat}:∀ k j,(k=i∨(J0 l i).getD k false=true)→xP l k j→(J0 l i).getD j false=true:=by
 have hst:J0 l i=Xi l i (l.length+1+1):=by
  rcases I2 (l:=l) (i:=i) (l.length+1) with ⟨q,h1,h2⟩|h
  ·have e1:=Ei h2 (l.length+1-q);have e2:=Ei h2 (l.length+1+1-q);rw [show q+(l.length+1-q)=l.length+1 by omega] at e1
   rw [show q+(l.length+1+1-q)=l.length+1+1 by omega] at e2
   unfold J0;rw [e1,e2]
  ·have h3:=List.countP_le_length (p:=id) (l:=Xi l i (l.length+1));have h4:=Wf (l:=l) (i:=i) (l.length+1);omega
 intro k j hk hs;rw [hst];exact dQ (Wf _) l.length k j (Zau hs).1 hk hs
theorem Ky {l:List Us} {i k:Nat}:(J0 l i).getD k false=true↔Path l i k :=
 ⟨fun h=>I3 _ k h,fun h=>Zc5 (M:=fun k=>(J0 l i).getD k false=true) (fun k j hk hs=>Ej k j (.inr hk) hs) h fun j hj=>Ej i j (.inl rfl) hj⟩
theorem Zk6 {x y:List UInt8}:Op.bytesLess x y=true↔x<y:=by rw [bytesLess_eq,decide_eq_true_eq]
theorem less_not {x y:List UInt8}:Op.bytesLess x y=false↔y≤x:=by
 rw [bytesLess_eq,decide_eq_false_iff_not,List.not_lt]
theorem iW:∀ {l:List Us} {s:List UInt8} {k:Nat},Yv l s=some k→nm l k=s
 | [],s,k,h=>by simp [Yv] at h
 | m::l,s,k,h=>by
  rw [Yv] at h;by_cases hm:m.name=s
  ·rw [if_pos hm] at h;injection h with h
   subst h;exact hm
  ·rw [if_neg hm] at h;cases hf:Yv l s with
   | none=>rw [hf] at h;cases h
   | some j =>
    rw [hf] at h;simp only [Option.map_some,Za] at h;subst h;have:=iW hf;simpa [nm] using this
theorem Zd8:∀ {l:List Us} {k:Nat},k<l.length→∃ j,Yv l (nm l k)=some j∧j≤k
 | [],k,h=>by simp at h
 | m::l,0,_=>⟨0,by simp [Yv,nm],Zm _⟩
 | m::l,k+1,h=>by
  by_cases hm:m.name=nm (m::l) (k+1)
  ·exact ⟨0,by rw [Yv,if_pos hm],Nat.zero_le _⟩
  ·obtain ⟨j,h1,h2⟩:=Zd8 (l:=l) (k:=k) (by simpa using h)
   have e:nm (m::l) (k+1)=nm l k:=by simp [nm]
   rw [e] at hm ⊢;exact ⟨j+1,by rw [Yv,if_neg hm,h1];rfl,by omega⟩
def Zgw (l:List Us):Prop:=∀ k,k<l.length→Yv l (nm l k)=some k
def Zj9 (l:List Us):Prop:=∀ k,k<l.length→∀ s∈Zbi l k,∃ j,Yv l s=some j
theorem fC {l:List Us} (h:Zgw l) {a b:Nat} (ha:a<l.length) (hb:b<l.length) (e:nm l a=nm l b):a=b:=by
 have h1:=h a ha;rw [e,h b hb] at h1;injection h1 with h1
 exact h1.symm
theorem Zce {l:List Us}:(List.range l.length).find? (iC l)=none↔Zgw l:=by
 rw [List.find?_eq_none];constructor
 ·intro h k hk;obtain ⟨j,h1,h2⟩:=Zd8 hk;have:=h k (List.mem_range.2 hk);rw [Bool.not_eq_true] at this;unfold iC Xv at this;rw [h1] at this;simp only at this;rw [Q3] at this;rw [h1,show j=k by omega]
 ·intro h k hk;rw [List.mem_range] at hk;unfold iC Xv;rw [h k hk];simp only;rw [Jw];omega
theorem Zd3 {l:List Us}:(List.range l.length).find? (Ew l)=none↔Zj9 l:=by
 rw [List.find?_eq_none];constructor
 ·intro h k hk s hs;have:=h k (List.mem_range.2 hk);rw [Bool.not_eq_true] at this;unfold Ew at this;rw [List.any_eq_false] at this;have:=this s hs;rw [Bool.not_eq_true] at this;unfold Xv at this;cases hf:Yv l s with
  | none=>rw [hf] at this;cases this
  | some j=>exact ⟨j,rfl⟩
 ·intro h k hk;rw [List.mem_range] at hk;rw [Bool.not_eq_true];unfold Ew;rw [List.any_eq_false];intro s hs;obtain ⟨j,hj⟩:=h k hk s hs;unfold Xv;rw [hj];simp only;rw [Jw];omega
theorem Rz {l:List Us} {is:List Bool}:∀ n,(Wx l is n=-1∧∀ j,j<n→is.getD j false=false) ∨
  ∃ k:Nat,Wx l is n=k∧k<n∧is.getD k false=true∧∀ j,j<n→is.getD j false=true→nm l k≤nm l j
 | 0=>.inl ⟨rfl,fun j hj=>by omega⟩
 | n+1=>by
  rw [Wx];rcases Rz (l:=l) (is:=is) n with ⟨h,hno⟩|⟨k,h,hk,his,hle⟩
  ·rw [h];cases hn:is.getD n false with
   | false =>
    rw [Bool.false_and,cond_false];exact .inl ⟨rfl,Zie hno hn⟩
   | true =>
    right;refine ⟨n,rfl,by omega,hn,fun j hj hj2=>?_⟩
    by_cases e:j=n
    ·subst e;exact List.le_refl _
    ·rw [hno j (by omega)] at hj2;cases hj2
  ·rw [h,Ze,show Yr (k:Int) 0=false by rw [Q3];omega,Bool.false_or]
   cases hn:is.getD n false with
   | false =>
    rw [Bool.false_and,cond_false];refine .inr ⟨k,rfl,by omega,his,fun j hj hj2=>?_⟩
    by_cases e:j=n
    ·subst e;rw [hn] at hj2;cases hj2
    ·exact hle j (by omega) hj2
   | true =>
    rw [Bool.true_and];cases hb:Op.bytesLess (nm l n) (nm l k) with
    | true =>
     rw [cond_true];rw [Zk6] at hb;refine .inr ⟨n,rfl,by omega,hn,fun j hj hj2=>?_⟩
     by_cases e:j=n
     ·subst e;exact List.le_refl _
     ·exact List.le_trans (List.le_of_lt hb) (hle j (by omega) hj2)
    | false =>
     rw [cond_false];rw [less_not] at hb;refine .inr ⟨k,rfl,by omega,his,fun j hj hj2=>?_⟩
     by_cases e:j=n
     ·subst e;exact hb
     ·exact hle j (by omega) hj2
def Zox (l:List Us):Prop:=∃ k,Path l k k
theorem Zc2 {l:List Us} (hU:Zgw l) (hF:Zj9 l) (hA:¬ Zox l) {C:List (List UInt8)}:∀ n k,k<l.length→(J0 l k).countP id≤n→nm l k∉C→∃ j,j<l.length∧(nm l j∉C∧∀ s∈Zbi l j,s∈C):=by
 intro n
 induction n with
 | zero =>
  intro k hk hn hC;by_cases h:∀ s∈Zbi l k,s∈C
  ·exact ⟨k,hk,⟨hC,h⟩⟩
  ·obtain ⟨s,h2⟩:=Classical.not_forall.1 h;obtain ⟨hs,hsC⟩:=Classical.not_imp.1 h2;obtain ⟨j,hj⟩:=hF k hk s hs;have h1:(J0 l k).getD j false=true:=Ky.2 (.one ⟨s,hs,hj⟩);have h0:(J0 l k).countP id=0:=by omega
   rw [List.countP_eq_zero] at h0;have hjl:j<(J0 l k).length:=by have:(J0 l k).length=l.length:=Wf _;rw [this];exact Ln hj
   have:=h0 _ (List.getElem_mem hjl);rw [Zc,Zd hjl] at h1;exact absurd h1 this
 | succ n ih =>
  intro k hk hn hC;by_cases h:∀ s∈Zbi l k,s∈C
  ·exact ⟨k,hk,⟨hC,h⟩⟩
  ·obtain ⟨s,h2⟩:=Classical.not_forall.1 h;obtain ⟨hs,hsC⟩:=Classical.not_imp.1 h2;obtain ⟨j,hj⟩:=hF k hk s hs;have hkj:xP l k j:=⟨s,hs,hj⟩;have hjl:=Ln hj;refine ih j hjl ?_ (by rw [iW hj];exact hsC)
   have l1:(J0 l j).length=l.length:=Wf _;have l2:(J0 l k).length=l.length:=Wf _;rcases Zgo (b:=J0 l j) (c:=J0 l k) (by rw [l1,l2]) (fun x hx=>Ky.2 (.more hkj (Ky.1 hx))) with e|e
   ·have h1:(J0 l k).getD j false=true:=Ky.2 (.one hkj);rw [←e,Ky] at h1;exact absurd ⟨j,h1⟩ hA
   ·omega
theorem Fy {l:List Int} {n:Int}:Zfc l n=true↔n∈l:=by
 unfold Zfc;rw [List.any_eq_true];exact ⟨fun ⟨x,h1,h2⟩=>by rw [Zp] at h2;exact h2▸h1,fun h=>⟨n,h,by simp⟩⟩
theorem Et {f:Nat→Bool} {n k:Nat} (h:k<n):((List.range n).map f).getD k false=f k:=by
 rw [Zc];simp [h]
theorem Zes {l:List Us} (hl:l.length≤20):Xu 0 (Wx l ((List.range l.length).map (cG l)) l.length)=true↔Zox l:=by
 rw [Qp];rcases Rz (l:=l) (is:=(List.range l.length).map (cG l)) l.length with ⟨h,hno⟩|⟨k,h,hk,his,_⟩
 ·rw [h];refine ⟨fun h=>by omega,fun ⟨k,hk⟩=>?_⟩
  have hkl:=(Zmt hk).1;have:=hno k hkl;rw [Et hkl] at this;have h2:(J0 l k).getD k false=true:=Ky.2 hk
  change (J0 l k).getD k false=false at this
  rw [h2] at this;cases this
 ·rw [h];refine ⟨fun _=>⟨k,?_⟩,fun _=>by omega⟩
  rw [Et hk] at his;exact Ky.1 his
theorem Zgu:∀ (n:Nat) (O:List Int),(∀ k:Nat,k<n→(k:Int)∈O)→n≤O.length
 | 0,O,_=>Nat.zero_le _
 | n+1,O,h=>by
  have h0:=h n (by omega)
  have h1:=Zgu n (O.erase n) fun k hk=>(List.mem_erase_of_ne (by omega)).2 (h k (by omega))
  rw [List.length_erase_of_mem h0] at h1;have:0<O.length:=List.length_pos_of_mem h0;omega
theorem Za6 {l:List Us} (hU:Zgw l) (hF:Zj9 l) (hA:¬ Zox l):∀ r,r≤l.length→∀ x∈U9 l r,∃ k:Nat,x=k∧k<l.length
 | 0,_,x,hx=>by simp [U9] at hx
 | r+1,hr,x,hx=>by
  have ih:=Za6 hU hF hA r (by omega)
  rw [U9] at hx;rcases List.mem_append.1 hx with hx|hx
  ·exact ih x hx
  rw [Zr] at hx;obtain ⟨O,hO⟩:=exq (U9 l r);have hlen:=Ug l r;rw [hO] at ih hx hlen;have hex:∃ k:Nat,k<l.length∧(k:Int)∉O:=Classical.byContradiction fun hn=>by
   have:=Zgu l.length O fun k hk=>Classical.byContradiction fun h=>hn ⟨k,hk,h⟩;omega
  obtain ⟨k,hk,hkO⟩:=hex;have hkC:nm l k∉O.map fun x=>nm l x.toNat:=fun h=>by
   obtain ⟨y,hy,he⟩:=List.mem_map.1 h;obtain ⟨k',rfl,hk'⟩:=ih y hy;rw [Ze] at he;have:=fC hU hk' hk he;exact hkO (this▸hy)
  obtain ⟨j,hj,h1,h2⟩:=Zc2 hU hF hA (C:=O.map fun x=>nm l x.toNat) _ k hk (Zm _) hkC;have hmay:Tv l O j=true:=by
   unfold Tv;rw [Zg,Bool.not_eq_true'];refine ⟨?_,?_⟩
   ·rw [←Bool.not_eq_true,Fy];exact fun h=>h1 (List.mem_map.2 ⟨_,h,by rw [Ze]⟩)
   ·unfold Cr;rw [Ze,List.all_eq_true];intro s hs;obtain ⟨y,hy,he⟩:=List.mem_map.1 (h2 s hs);obtain ⟨k',rfl,hk'⟩:=ih y hy;rw [Ze] at he;rw [Fy,←he,Xv,hU k' hk'];exact hy
  rcases Rz (l:=l) (is:=(List.range l.length).map (Tv l O)) l.length with ⟨_,hno⟩|⟨k',h,hk',_,_⟩
  ·have:=hno j hj;rw [Et hj,hmay] at this;cases this
  ·exact ⟨k',by rw [hx,h],hk'⟩
theorem yF {l:List Us} (h20:l.length≤20):∀ x∈(K1 l).1.l,∃ k:Nat,x=k∧k<l.length:=by
 intro x hx;unfold K1 at hx;split at hx
 ·cases hx
 rename_i hu;split at hx
 ·cases hx
 rename_i hf;cases hc:Xu 0 (Wx l ((List.range l.length).map (cG l)) l.length) with
 | true =>
  rw [hc] at hx;cases hx
 | false =>
  rw [hc] at hx;have hA:¬ Zox l:=fun h=>by
   rw [(Zes h20).2 h] at hc;cases hc
  exact Za6 (Zce.1 hu) (Zd3.1 hf) hA l.length (Zm _) x hx
end Go.Am.Ty.Gr
namespace Go.Am.Ty
open Go.Proofs Gr
open Enc (enc dec)
structure Tx9 where
 names:List (List UInt8)
 texts:List (List UInt8)
 deriving DecidableEq
instance encTx9:Enc Tx9:=⟨fun a=>.agg [.list 1 (a.names.map enc),.list 1 (a.texts.map enc)],fun x=>match x with
 | .agg [a,b]=>⟨a.l.map dec,b.l.map dec⟩
 | _=>⟨[],[]⟩,fun a=>by
  have h:∀ l:List (List UInt8),(l.map (enc:List UInt8→D)).map dec=l:=fun l=>Jz;cases a;simp [D.l,h]⟩
theorem U0 {a b:List (List UInt8)}:(enc (Tx9.mk a b):D)=.agg [.list 1 (a.map enc),.list 1 (b.map enc)]:=rfl
theorem U1 {a b:List (List UInt8)}:(dec (.agg [.list 1 (a.map enc),.list 1 (b.map enc)]):Tx9)=⟨a,b⟩:=Enc.dec_enc (Tx9.mk a b)
theorem Uy {a b:List (List UInt8)}:Up Tx9 (.agg [.list 1 (a.map enc),.list 1 (b.map enc)])=True:=eq_true (Yc (Tx9.mk a b))
structure Good9 (m:Mod6):Prop where
 name:m.name.length≤50
 short:∀ x∈m.imps,x.length≤1000000
 ilen:m.imps.length≤1502
 dlen:m.defs.length≤200
 fit:∀ d∈m.defs,FitD d
 ok:∀ d∈m.defs,d.t≠[]∧W0 d.t=true∧d.e≠[]
 right:∀ d∈m.defs,Hf d.e=true
 slen:m.sites.length≤1501
 cnt:∀ z,zS z m.defs=if 1≤z∧z<(m.sites.length:Int)+1 then 1 else 0
theorem Zc6 {name text:List UInt8} (hn:name.length≤50) (ht:text.length≤1500) (h:(Tg name text).2.2=0):Good9 (Tg name text).1:=by
 obtain ⟨hT,hTl⟩:=xU ht;unfold Tg at h ⊢;simp only at h ⊢;split at h
 ·exact absurd h (by assumption)
 rename_i h1;rw [if_neg h1];split at h
 ·exact absurd h (by assumption)
 rename_i h2;rw [if_neg h2];split at h
 ·exact absurd h (by show ¬ (4:Int)=0;decide)
 rename_i h3;rw [if_neg h3];obtain ⟨_,_,_,hok⟩:=gB hT name;obtain ⟨hM,_,_⟩:=hok (by simpa using h2)
 refine ⟨by show (Yb (N5 text).1 name).1.name.length≤50;rw [hM.name];exact hn,hM.short,by have:=hM.ilen;show (Yb (N5 text).1 name).1.imps.length≤1502;omega,hM.dlen,hM.fit,hM.ok,fun d hd=>?_,by have:=hM.slen;show (Yb (N5 text).1 name).1.sites.length≤1501;omega,hM.cnt⟩
 refine Classical.byContradiction fun hr=>h3 ?_;unfold Zgq;rw [List.findIdx_lt_length];exact ⟨d,hd,by simpa using hr⟩
def Tp:List (List UInt8)→List (List UInt8)→List Mod6→List Mod6×Bool
 | n::ns,t::ts,out=>if 50<n.length∨1500<t.length then ([],false) else if (Tg n t).2.2≠0 then ([],false) else Tp ns ts (out++[(Tg n t).1])
 | _,_,out=>(out,true)
def D5 (t:Tx9):List Mod6×Bool:=if t.names.length≠t.texts.length∨6<t.names.length then ([],false) else Tp t.names t.texts []
theorem fU:∀ (ns ts:List (List UInt8)) (out:List Mod6),(∀ m∈out,Good9 m)→∀ m∈(Tp ns ts out).1,Good9 m
 | [],_,out,h=>by rw [Tp];exact h;intro a b c d e;cases e
 | _::_,[],out,h=>by rw [Tp];exact h;intro a b c d e f;cases f
 | n::ns,t::ts,out,h=>by
  rw [Tp];split
  ·intro m hm;cases hm
  rename_i h1;split
  ·intro m hm;cases hm
  rename_i h2;refine fU ns ts _ fun m hm=>?_;rcases List.mem_append.1 hm with hm|hm
  ·exact h m hm
  ·rw [Zr] at hm;subst hm;exact Zc6 (by omega) (by omega) (by simpa using h2)
theorem yA:∀ (ns ts:List (List UInt8)) (out:List Mod6),(Tp ns ts out).1.length≤out.length+ns.length
 | [],_,out=>by rw [Tp];exact Nat.le_add_right _ _;intro a b c d e;cases e
 | _::_,[],out=>by rw [Tp];exact Nat.le_add_right _ _;intro a b c d e f;cases f
 | n::ns,t::ts,out=>by
  rw [Tp];split
  ·simp
  split
  ·simp
  have:=yA ns ts (out++[(Tg n t).1]);simp only [Zj,Zi,List.length_nil] at this ⊢;omega
structure Goods (l:List Mod6):Prop where
 len:l.length≤6
 good:∀ m∈l,Good9 m
theorem A4 (t:Tx9):Goods (D5 t).1:=by
 unfold D5;split
 ·exact ⟨by simp,fun m hm=>(by cases hm)⟩
 ·have:=yA t.names t.texts [];simp only [List.length_nil] at this;exact ⟨by omega,fU _ _ _ fun m hm=>(by cases hm)⟩
theorem Goods.few {l:List Mod6} (h:Goods l):Zka l:=by
 refine ⟨by have:=h.len;omega,fun k=>?_⟩
 show (l.getD k m0).imps.length≤2000;rcases Nat.lt_or_ge k l.length with hk|hk
 ·rw [Zc,Zd hk];have:=(h.good _ (List.getElem_mem hk)).ilen;simp only [Option.getD_some];omega
 ·rw [Zc,List.getElem?_eq_none hk];simp [m0]
def Rn:Con:=Y6 (fun (_:Tx9)=>True) (fun t=>((⟨(D5 t).1⟩,(D5 t).2):Sl Mod6×Bool))
structure w593k:Prop
theorem w593k.k (_:w593k) {p:Prop} (h:p:=by
 repeat' first|exact Qg|with_reducible apply And.intro|intro _
 all_goals first|with_reducible exact Jf|omega|rfl|trivial|exact ⟨(k+1,out++[⟨mn,mi,md,ms⟩]),by (have Ks:=@Q4;exact Qy),by omega,by simp;omega,hL,by omega⟩|skip):p:=h
structure w592k:Prop
theorem w592k.k (_:w592k) {p:Prop} (h:p:=by
 repeat' first|exact Qg|with_reducible apply And.intro|intro _
 refine Zh [2,3,6,7,8,23,24,25,26,27,28,29,30,31,32,33,34,35,36,37,38,39,40,41,42,43,44,45,46,47,48,49,50,51,52,53,54,55,56,57,58,59,60,61,62,63,64,65,66] (fun p:Nat×List Mod6=>[(5,.d (.int .i64 p.1)),(4,.sl 9 (p.2.map (enc:Mod6→D)).length)]) (fun p:Nat×List Mod6=>[(9,.row 4 (p.2.map enc) 0)]) (fun p:Nat×List Mod6=>p.1≤names.length∧p.2.length=p.1∧Tp (names.drop p.1) (texts.drop p.1) p.2=R) (fun p:Nat×List Mod6=>names.length-p.1) (0,[]) ?_ ?_ ?_
 ·exact ⟨by omega,rfl,hR2⟩
 ·exact Qy
 rintro ⟨k,out⟩ ⟨hk,hol,hL⟩;simp only at hk hol hL;rcases Zl k names.length with ⟨hlt,Qd⟩|⟨hlt,Qd⟩
 ·have hlt2:k<texts.length:=by omega
  have Z5:=Zo ([]:List UInt8) hlt;have Z9:=Zo ([]:List UInt8) hlt2;rw [List.drop_eq_getElem_cons hlt,List.drop_eq_getElem_cons hlt2,Tp] at hL;have e1:names.getD k []=names[k]:=by simp [hlt]
  have e2:texts.getD k []=texts[k]:=by simp [hlt2]
  rw [←e1,←e2] at hL;obtain ⟨n,hn⟩:=exq (names.getD k []);obtain ⟨t,ht⟩:=exq (texts.getD k []);rw [hn] at Z5 hL;rw [ht] at Z9 hL;clear e1 e2;rcases Xf 50 (n.length:Int) with ⟨h1,Qu⟩|⟨h1,Qu⟩
  ·rw [if_pos (.inl (by omega))] at hL
   subst hL;have Zv:=@U0;have Zx:=@U1;have Zu:=@Uy;exact Sd
  rcases Xf 1500 (t.length:Int) with ⟨h2,Q0⟩|⟨h2,Q0⟩
  ·rw [if_pos (.inr (by omega))] at hL
   subst hL;have Zv:=@U0;have Zx:=@U1;have Zu:=@Uy;exact Sd
  rw [if_neg (by omega)] at hL
  obtain ⟨⟨⟨mn,mi,md,ms⟩,a,e⟩,Q2⟩:=exq (Tg n t);rw [Q2] at hL;simp only at hL;by_cases he:e=0
  case neg =>
   rw [if_pos he] at hL;have Qz:(e != 0)=true:=bne_iff_ne.2 he;subst hL;have Zv:=@U0;have Zx:=@U1;have Zu:=@Uy;exact Sd
  rw [if_neg (by simpa using he)] at hL
  have Qz:(e != 0)=false:=by rw [bne_eq_false_iff_eq];exact he
  have Zv:=@U0;have Zx:=@U1;have Zu:=@Uy;have Kq:w593k:=⟨⟩;exact Un
 ·have hke:k=names.length:=by omega
  rw [hke,List.drop_length,Tp] at hL;rotate_left
  ·intro a b c d e;cases e
  rw [hke] at Qd;subst hL;have Zv:=@U0;have Zx:=@U1;have Zu:=@Uy;exact Sd):p:=h
theorem good_Read9:Qr Tryz.prog (25,Rn):=by
 obtain ⟨Kx,Kt,Kc,Kd,Kb,Ku,Kw,K,Yj,_⟩:=Wi Z3 Zn [] false (Ja good_Parse6 Dr.eq_def Wg);have Ko:=Rn.eq_def;refine Wh K Tryz.func25 [.tmp 2,.tmp 3] rfl 68 rfl (fun c hc cvs hpre=>?_);unfold Rn at hpre;obtain ⟨⟨names,texts⟩,rfl,-⟩:=Zac hpre;clear hpre;obtain ⟨R,Qi⟩:=exq (D5 ⟨names,texts⟩);have hR2:=Qi;unfold D5 at hR2;simp only at hR2;cases hc;refine Ys 4 ?_;by_cases hlen:names.length=texts.length
 case neg =>
  rw [if_pos (.inl hlen)] at hR2;have Qh:((names.length:Int) != (texts.length:Int))=true:=by rw [bne_iff_ne];omega
  subst hR2;have Zv:=@U0;have Zx:=@U1;have Zu:=@Uy;exact Sd
 have Qh:((names.length:Int) != (texts.length:Int))=false:=by rw [hlen,bne_self_eq_false]
 rcases Xf 6 (names.length:Int) with ⟨h6,Z2⟩|⟨h6,Z2⟩
 ·rw [if_pos (.inr (by omega))] at hR2
  subst hR2;have Zv:=@U0;have Zx:=@U1;have Zu:=@Uy;exact Sd
 rw [if_neg (by omega)] at hR2
 have Zv:=@U0;have Zx:=@U1;have Zu:=@Uy;have Kq:w592k:=⟨⟩;exact Un
def H9 (l:List Mod6) (O:List Int):List Mod6:=O.map fun x=>l.getD x.toNat Jl
def Ud (t:Tx9):List Mod6×Bool:=if (D5 t).2=false then ([],false) else (H9 (D5 t).1 (K1 (D5 t).1).1.l,(K1 (D5 t).1).2.2==0)
def Md:Con:=Y6 (fun (_:Tx9)=>True) (fun t=>((⟨(Ud t).1⟩,(Ud t).2):Sl Mod6×Bool))
theorem Zhc {l:List Us} (h:l.length≤20):(K1 l).1.l.length≤20:=by
 unfold K1;split
 ·simp
 split
 ·simp
 cases Xu 0 (Wx l ((List.range l.length).map (cG l)) l.length) with
 | true=>simp
 | false =>
  show (U9 l l.length).length≤20;rw [Ug];exact h
structure w595k:Prop
theorem w595k.k (_:w595k) {p:Prop} (h:p:=by
 repeat' first|exact Qg|with_reducible apply And.intro|intro _
 all_goals first|with_reducible exact Jf|omega|rfl|trivial|exact ⟨k+1,by (have Ks:=hst;have Iv:=@Yo;exact Qy),by omega,by omega⟩|skip):p:=h
structure w594k:Prop
theorem w594k.k (_:w594k) {p:Prop} (h:p:=by
 repeat' first|exact Qg|with_reducible apply And.intro|intro _
 all_goals first|exact hF|skip
 refine Zh [25,26,27,28,29,30,31,32,33,34,35,36,37,38,39,40] (fun k:Nat=>[(10,.d (.int .i64 k)),(9,.sl 24 ((H9 l (O.take k)).map (enc:Mod6→D)).length)]) (fun k:Nat=>[(24,.row 4 ((H9 l (O.take k)).map enc) 0)]) (fun k:Nat=>k≤O.length) (fun k:Nat=>O.length-k) 0 ?_ ?_ ?_
 ·omega
 ·have Ks:=@H9.eq_1;exact Qy
 rintro k hk;have hpl:(H9 l (O.take k)).length≤20:=by unfold H9;rw [Zk,List.length_take];omega
 rcases Zl k O.length with ⟨hlt,Qd⟩|⟨hlt,Qd⟩
 ·have Z5:=Zo (0:Int) hlt;obtain ⟨j,hj,hjl⟩:=hin (O.getD k 0) (by simp [hlt])
  have Z9:=Zo Jl hjl;have hst:H9 l (O.take (k+1))=H9 l (O.take k)++[l.getD j Jl]:=by
   unfold H9;rw [Gp (0:Int) hlt,List.map_append];simp only [List.map_cons,List.map_nil];rw [hj,Ze]
  rw [hj] at Z5;obtain ⟨P,hP⟩:=exq (H9 l (O.take k));rw [hP] at hst hpl ⊢;obtain ⟨m,hm⟩:=exq (l.getD j Jl);rw [hm] at Z9 hst;clear hin hF hG;have Qu:=@Uh.eq_def;have Kq:w595k:=⟨⟩;exact Un
 ·have hke:k=O.length:=by omega
  rw [hke,List.take_length];rw [hke] at Qd;subst hR2;have Qu:=@Uh.eq_def;exact Sd):p:=h
theorem good_Program9:Qr Tryz.prog (12,Md):=by
 obtain ⟨Kx,Kt,Kc,Kd,Kb,Ku,Kw,K,Yj,Kv,_⟩:=Wi Z3 Zn [] false (Ja good_Read9 Rn.eq_def (Ja good_Order8 Dt.eq_def Wg));have Ko:=Md.eq_def;refine Wh K Tryz.func12 [.tmp 2,.tmp 3] rfl 44 rfl (fun c hc cvs hpre=>?_);unfold Md at hpre;obtain ⟨⟨names,texts⟩,rfl,-⟩:=Zac hpre;clear hpre;obtain ⟨R,Qi⟩:=exq (Ud ⟨names,texts⟩);have hR2:=Qi;unfold Ud at hR2;have hG:=A4 ⟨names,texts⟩;have hF:=hG.few;have h20:=hF.1;have hin:=yF h20;have hol:=Zhc h20;obtain ⟨⟨l,ok⟩,Qh⟩:=exq (D5 ⟨names,texts⟩);rw [Qh] at hR2 hG hF h20 hin hol;simp only at hR2 hG hF h20 hin hol;cases hc;refine Ys 2 ?_;cases ok with
 | false =>
  rw [if_pos rfl] at hR2;subst hR2;have Qu:=@Uh.eq_def;have Q0:=@U0;have Q2:=@U1;have Qz:=@Uy;exact Sd
 | true =>
  rw [if_neg (by simp)] at hR2
  obtain ⟨⟨⟨O⟩,b,e⟩,Z2⟩:=exq (K1 l);rw [Z2] at hR2 hin hol;simp only at hR2 hin hol;have Qu:=@Uh.eq_def;have Q0:=@U0;have Q2:=@U1;have Qz:=@Uy;have Kq:w594k:=⟨⟩;exact Un
theorem Aj (t:Tx9):(Ud t).1.length≤20∧∀ m∈(Ud t).1,Good9 m:=by
 have hG:=A4 t;have h20:=hG.few.1;unfold Ud;split
 ·exact ⟨by simp,fun m hm=>(by cases hm)⟩
 ·refine ⟨by show (H9 _ _).length≤20;unfold H9;rw [Zk];exact Zhc h20,fun m hm=>?_⟩
  obtain ⟨x,hx,rfl⟩:=List.mem_map.1 hm;obtain ⟨k,rfl,hk⟩:=yF h20 x hx;rw [Ze,Zc,Zd hk];exact hG.good _ (List.getElem_mem hk)
def ah (l:List Mod6) (k:Nat):Nat:=((l.take k).map fun m=>m.sites.length).sum
def Yq (l:List Mod6) (k:Nat):List Int:=(List.range k).map fun j=>(ah l j:Int)
structure SitesOk (l:List Mod6):Prop where
 len:l.length≤20
 sites:∀ m∈l,m.sites.length≤2000
theorem bZ (l:List Mod6):ah l 0=0:=rfl
theorem bX {l:List Mod6} {k:Nat} (h:k<l.length):ah l (k+1)=ah l k+(l.getD k Jl).sites.length:=by
 unfold ah;rw [Gp Jl h,List.map_append,List.sum_append];simp
theorem eJ {l:List Mod6} (h:SitesOk l):∀ k,k≤l.length→ah l k≤2000*k
 | 0,_=>Zm _
 | k+1,hk=>by
  have ih:=eJ h k (by omega)
  rw [bX (by omega)]
  have:=h.sites (l.getD k Jl) (by rw [Zc,Zd (show k<l.length by omega)];exact List.getElem_mem _)
  omega
theorem Zng {l : List Mod6} : ∀ {j k : Nat}, j ≤ k → k ≤ l.length → ah l j ≤ ah l k := by
  intro j k h hk
  induction k with
  | zero => have : j = 0 := by omega
            subst this; exact Zm _
  | succ k ih =>
    rcases Nat.lt_or_ge k j with h1 | h1
    · have : j = k + 1 := by omega
      subst this; exact Zm _
    · have := ih h1 (by omega)
      rw [bX (by omega)]
      omega
theorem Is (l:List Mod6) (k:Nat):(Yq l k).length=k:=by unfold Yq;simp
theorem Cb {l:List Mod6} {j k:Nat} (h:j<k):(Yq l k).getD j 0=ah l j:=by
 unfold Yq;rw [Zc];simp [h]
theorem Ze5 (l:List Mod6) (k:Nat):Yq l (k+1)=Yq l k++[(ah l k:Int)]:=by
 unfold Yq;rw [List.range_succ,List.map_append];rfl
def L3:Con:=Xy (fun (l:Sl Mod6)=>SitesOk l.l) (fun l=>Sl.mk (Yq l.l (l.l.length+1)))
structure w597k:Prop
theorem w597k.k (_:w597k) {p:Prop} (h:p:=by
 repeat' first|exact Qg|with_reducible apply And.intro|intro _
 all_goals first|with_reducible exact Jf|omega|exact ⟨k+1,by (have Ks:=hst;exact Qy),by omega,by omega⟩|skip):p:=h
structure w596k:Prop
theorem w596k.k (_:w596k) {p:Prop} (h:p:=by
 repeat' first|exact Qg|with_reducible apply And.intro|intro _
 refine Zh [4,5,10,11,12,13,14,15,16,17,18,19,20,21,22,23,24,25] (fun k:Nat=>[(3,.sl 6 ((Yq l (k+1)).map (enc:Int→D)).length),(9,.d (.int .i64 k))]) (fun k:Nat=>[(6,.row 1 ((Yq l (k+1)).map enc) 0)]) (fun k:Nat=>k≤l.length) (fun k:Nat=>l.length-k) 0 ?_ ?_ ?_
 ·omega
 ·have Ks:=@Yq.eq_1;have Iv:=@ah.eq_1;exact Qy
 rintro k hk;have hA:=Is l (k+1);have hak:=eJ hS k hk;rcases Zl k l.length with ⟨hlt,Qi⟩|⟨hlt,Qi⟩
 ·have Z2:=Zo Jl hlt;have Qd:=Zo (0:Int) (show k<(Yq l (k+1)).length by omega)
  rw [Cb (show k<k+1 by omega)] at Qd
  have hs:=bX hlt;have hss:=hS.sites (l.getD k Jl) (by simp [hlt])
  have hst:=Ze5 l (k+1);obtain ⟨m,hm⟩:=exq (l.getD k Jl);rw [hm] at Z2 hs hss;obtain ⟨mn,mi,md,ms⟩:=m;simp only at hs hss;have Z5:(ah l k:Int)+(ms.length:Int)=(ah l (k+1):Int):=by omega
  obtain ⟨A,hAq⟩:=exq (Yq l (k+1));rw [hAq] at hA Qd hst ⊢;have Kq:w597k:=⟨⟩;exact Un
 ·have hke:k=l.length:=by omega
  rw [hke] at Qi;rw [hke,Z9];exact Sd):p:=h
theorem good_aheadS:Qr Tryz.prog (41,L3):=by
 obtain ⟨Kx,Kt,Kc,Kd,Kb,Ku,Kw,K,_⟩:=Wi Z3 Zn [] false Wg;have Ko:=L3.eq_def;refine Wh K Tryz.func41 [.tmp 2] rfl 27 rfl (fun c hc cvs hpre=>?_);unfold L3 at hpre;obtain ⟨⟨l⟩,rfl,hS⟩:=J4 hpre;simp only at hS;clear hpre;obtain ⟨R,Z9⟩:=exq (Yq l (l.length+1));have hlen:=hS.len;have Qh:Yq l 1=[0]:=rfl;cases hc;have Kq:w596k:=⟨⟩;exact Un
def Ce (l:List Mod6) (site:Int):Nat→Nat→Nat
 | 0,k=>k
 | f+1,k=>if (ah l (k+1):Int)<site then Ce l site f (k+1) else k
def Ed (l:List Mod6) (site:Int):Int×Int×Int :=
 if site<1∨(ah l l.length:Int)<site then (0,0,6) else ((Ce l site l.length 0:Int),site-ah l (Ce l site l.length 0),0)
def L4:Con:=Wp (fun (l:Sl Mod6) (site:Int)=>SitesOk l.l∧dL .i64 site) (fun l site=>Ed l.l site)
structure w599k:Prop
theorem w599k.k (_:w599k) {p:Prop} (h:p:=by
 repeat' first|exact Qg|with_reducible apply And.intro|intro _
 all_goals first|with_reducible exact Jf|omega|exact ⟨(f,k+1),by exact Qy,by omega,hL,h3,by omega⟩|skip):p:=h
structure w598k:Prop
theorem w598k.k (_:w598k) {p:Prop} (h:p:=by
 repeat' first|exact Qg|with_reducible apply And.intro|intro _
 all_goals first|exact hS|skip
 refine Zh [22,23,24,25,26,27,28,29,30] (fun p:Nat×Nat=>[(8,.d (.int .i64 p.2))]) (fun p:Nat×Nat=>[]) (fun p:Nat×Nat=>p.1+p.2=l.length∧Ce l site p.1 p.2=W∧(ah l p.2:Int)<site) (fun p:Nat×Nat=>p.1) (l.length,0) ?_ ?_ ?_
 ·exact ⟨by simp,hW,by rw [bZ];omega⟩
 ·exact Qy
 rintro ⟨f,k⟩ ⟨hfk,hL,hlt⟩;simp only at hfk hL hlt;have hkl:k<l.length:=by
  refine Nat.lt_of_le_of_ne (by omega) fun e=>?_
  rw [e] at hlt;omega
 obtain ⟨f,rfl⟩:∃ q,f=q+1:=⟨f-1,by omega⟩
 rw [Ce] at hL;have Qu:=hat (k+1) (by omega)
 have Q2:=hat k (by omega)
 have hb:=eJ hS (k+1) (by omega)
 have Z9:((k:Int)+1).toNat=k+1:=by omega
 rcases Xf (ah l (k+1):Int) site with ⟨h3,Q0⟩|⟨h3,Q0⟩
 ·rw [if_pos h3] at hL;clear hat;have Kq:w599k:=⟨⟩;exact Un
 ·rw [if_neg (by omega)] at hL
  subst hL;subst hR2;clear hat;exact Sd):p:=h
theorem good_WhereS:Qr Tryz.prog (16,L4):=by
 obtain ⟨Kx,Kt,Kc,Kd,Kb,Ku,Kw,K,Yj,_⟩:=Wi Z3 Zn [] false (Ja good_aheadS L3.eq_def Wg);have Ko:=L4.eq_def;refine Wh K Tryz.func16 [.tmp 4,.tmp 5,.tmp 6] rfl 38 rfl (fun c hc cvs hpre=>?_);unfold L4 at hpre;obtain ⟨⟨l⟩,site,rfl,hS,hsr⟩:=Dw hpre;simp only at hS hsr;clear hpre;obtain ⟨R,Z2⟩:=exq (Ed l site);have hR2:=Z2;unfold Ed at hR2;have hlen:=hS.len;have hal:=eJ hS l.length (Zm _);have hA:=Is l (l.length+1);have Qd:=Zo (0:Int) (show l.length<(Yq l (l.length+1)).length by omega)
 rw [Cb (show l.length<l.length+1 by omega)] at Qd
 have hat:∀ j,j≤l.length→el ((Yq l (l.length+1)).map (enc:Int→D)) j=enc (ah l j:Int):=fun j hj=>by
  have:=Zo (0:Int) (show j<(Yq l (l.length+1)).length by omega)
  rw [Cb (by omega)] at this
  exact this
 obtain ⟨A,Qh⟩:=exq (Yq l (l.length+1));rw [Qh] at hA Qd hat;rw [Xb] at hsr;cases hc;refine Ys 2 ?_;rcases Xf site 1 with ⟨h1,Qi⟩|⟨h1,Qi⟩
 ·rw [if_pos (.inl h1)] at hR2;subst hR2;exact Sd
 rcases Xf (ah l l.length:Int) site with ⟨h2,Z5⟩|⟨h2,Z5⟩
 ·rw [if_pos (.inr h2)] at hR2;subst hR2;exact Sd
 rw [if_neg (by omega)] at hR2
 obtain ⟨W,hW⟩:=exq (Ce l site l.length 0);rw [hW] at hR2;have Kq:w598k:=⟨⟩;exact Un
def L8 {α:Type} (f:Nat→α→α) (l:List α) (k:Nat):List α:=(l.take k).mapIdx f++l.drop k
section
variable {α:Type} {f:Nat→α→α} {l:List α}
theorem Cv (k:Nat):(L8 f l k).length=l.length:=by
 unfold L8;simp;omega
theorem Ts:L8 f l 0=l:=by simp [L8]
theorem Tt:L8 f l l.length=l.mapIdx f:=by simp [L8]
theorem A5 (d:α) {k:Nat} (h:k<l.length):(L8 f l k).getD k d=l.getD k d:=by
 unfold L8;rw [Zc,List.getElem?_append_right (by simp;omega)]
 simp [show min k l.length=k by omega,Zc]
theorem Cu (d:α) {k:Nat} (h:k<l.length):(L8 f l k).set k (f k (l.getD k d))=L8 f l (k+1):=by
 unfold L8;rw [List.set_append_right _ _ (by simp;omega),Gp d h,List.mapIdx_append]
 simp only [List.length_mapIdx,List.length_take,show min k l.length=k by omega,Nat.sub_self]
 rw [List.drop_eq_getElem_cons h,Jx];simp
theorem Zc3 (d:α) {k:Nat} (h:k<l.length) (e:f k (l.getD k d)=l.getD k d):L8 f l (k+1)=L8 f l k:=by
 rw [←Cu d h,e,←A5 d h (f:=f)];have h2:k<(L8 f l k).length:=by rw [Cv];exact h
 rw [Zc,Zd h2];simp
end
theorem Na {α:Type} [Enc α] {l:List α} {k:Nat} {y:α}:(l.map (enc:α→D)).set k (enc y)=(l.set k y).map enc:=(List.map_set ..).symm
def Dj:Con:=Ur (fun (t:Sl Node)=>t.l.length≤1000000) (fun t=>t.l)
structure w600k:Prop
theorem w600k.k (_:w600k) {p:Prop} (h:p:=by
 repeat' first|exact Qg|with_reducible apply And.intro|intro _
 all_goals first|omega|(simp_all;done)|skip):p:=h
theorem good_cloneT:Qr Tryz.prog (44,Dj):=by
 obtain ⟨Kx,Kt,Kc,Kd,Kb,Ku,Kw,K,_⟩:=Wi Z3 Zn [4] false Wg;have Ko:=Dj.eq_def;refine Wh K Tryz.func44 [.tmp 2] rfl 8 rfl (fun c hc cvs hpre=>?_);unfold Dj at hpre;obtain ⟨⟨t⟩,rfl,ht⟩:=Ru hpre;simp only at ht;clear hpre;cases hc;have Kq:w600k:=⟨⟩;exact Un
def Dk:Con:=Ur (fun (t:Sl Part)=>t.l.length≤1000000) (fun t=>t.l)
structure w601k:Prop
theorem w601k.k (_:w601k) {p:Prop} (h:p:=by
 repeat' first|exact Qg|with_reducible apply And.intro|intro _
 all_goals first|omega|(simp_all;done)|skip):p:=h
theorem good_cloneE:Qr Tryz.prog (46,Dk):=by
 obtain ⟨Kx,Kt,Kc,Kd,Kb,Ku,Kw,K,_⟩:=Wi Z3 Zn [4] false Wg;have Ko:=Dk.eq_def;refine Wh K Tryz.func46 [.tmp 2] rfl 8 rfl (fun c hc cvs hpre=>?_);unfold Dk at hpre;obtain ⟨⟨t⟩,rfl,ht⟩:=Ru hpre;simp only at ht;clear hpre;cases hc;have Kq:w601k:=⟨⟩;exact Un
def M9:Con:=Ur (fun (t:Sl Def6)=>t.l.length≤1000000) (fun t=>t.l)
structure w602k:Prop
theorem w602k.k (_:w602k) {p:Prop} (h:p:=by
 repeat' first|exact Qg|with_reducible apply And.intro|intro _
 all_goals first|omega|(simp_all;done)|skip):p:=h
theorem good_cloneDefs:Qr Tryz.prog (45,M9):=by
 obtain ⟨Kx,Kt,Kc,Kd,Kb,Ku,Kw,K,_⟩:=Wi Z3 Zn [4] false Wg;have Ko:=M9.eq_def;refine Wh K Tryz.func45 [.tmp 2] rfl 8 rfl (fun c hc cvs hpre=>?_);unfold M9 at hpre;obtain ⟨⟨t⟩,rfl,ht⟩:=Ru hpre;simp only at ht;clear hpre;cases hc;have Kq:w602k:=⟨⟩;exact Un
def M8:Con:=Ur (fun (t:Sl Mod6)=>t.l.length≤1000000) (fun t=>t.l)
structure w603k:Prop
theorem w603k.k (_:w603k) {p:Prop} (h:p:=by
 repeat' first|exact Qg|with_reducible apply And.intro|intro _
 all_goals first|omega|(simp_all;done)|skip):p:=h
theorem good_cloneMods:Qr Tryz.prog (42,M8):=by
 obtain ⟨Kx,Kt,Kc,Kd,Kb,Ku,Kw,K,_⟩:=Wi Z3 Zn [4] false Wg;have Ko:=M8.eq_def;refine Wh K Tryz.func42 [.tmp 2] rfl 8 rfl (fun c hc cvs hpre=>?_);unfold M8 at hpre;obtain ⟨⟨t⟩,rfl,ht⟩:=Ru hpre;simp only at ht;clear hpre;cases hc;have Kq:w603k:=⟨⟩;exact Un
structure PtrI where
 x:Int
structure PtrL where
 l:List Int
instance encPtrI:Enc PtrI:=⟨fun a=>.ptr 1 (.int .i64 a.x),fun x=>match x with
 | .ptr _ a=>⟨a.i⟩
 | _=>⟨0⟩,fun a=>rfl⟩
instance encPtrL:Enc PtrL:=⟨fun a=>.ptr 1 (.list 1 (a.l.map enc)),fun x=>match x with
 | .ptr _ a=>⟨a.l.map dec⟩
 | _=>⟨[]⟩,fun a=>by
  cases a;simp only [D.l];rw [Jz]⟩
theorem Pq {a:Int}:(enc (PtrI.mk a):D)=.ptr 1 (.int .i64 a):=rfl
theorem Pt {a:Int}:(dec (.ptr 1 (.int .i64 a)):PtrI)=⟨a⟩:=rfl
theorem Pj {a:Int}:Up PtrI (.ptr 1 (.int .i64 a))=True:=eq_true rfl
theorem Pp {a:List Int}:(enc (PtrL.mk a):D)=.ptr 1 (.list 1 (a.map enc)):=rfl
theorem Ps {a:List Int}:(dec (.ptr 1 (.list 1 (a.map enc))):PtrL)=⟨a⟩:=Enc.dec_enc (PtrL.mk a)
theorem Ph {a:List Int}:Up PtrL (.ptr 1 (.list 1 (a.map enc)))=True:=eq_true (Yc (PtrL.mk a))
def Yk (by_:Int) (n:Node):Node:=if n.kind=0∧0<n.n then ⟨n.kind,n.name,n.n+by_⟩ else n
def He (by_:Int) (t:List Node):List Node:=t.mapIdx fun _=>Yk by_
def Dd:Con:=Um (fun (t:Sl Node) (fr:PtrL) (i:PtrI)=>t.l.length≤1000000∧(∀ n∈t.l,n.kind=0→n.n≤1000000)∧0≤i.x∧i.x<fr.l.length∧fr.l.length≤1000∧0≤fr.l.getD i.x.toNat 0∧fr.l.getD i.x.toNat 0≤1000000) (fun t fr i=>Sl.mk (He (fr.l.getD i.x.toNat 0) t.l))
structure w605k:Prop
theorem w605k.k (_:w605k) {p:Prop} (h:p:=by
 repeat' first|exact Qg|with_reducible apply And.intro|intro _
 all_goals first|with_reducible exact Jf|omega|contradiction|exact ⟨k+1,by (have Ks:=hnx;exact Qy),by omega,by omega⟩|skip):p:=h
structure w606k:Prop
theorem w606k.k (_:w606k) {p:Prop} (h:p:=by
 repeat' first|exact Qg|with_reducible apply And.intro|intro _
 all_goals first|with_reducible exact Jf|omega|contradiction|exact ⟨k+1,by exact Qy,by omega,by omega⟩|skip):p:=h
structure w607k:Prop
theorem w607k.k (_:w607k) {p:Prop} (h:p:=by
 repeat' first|exact Qg|with_reducible apply And.intro|intro _
 all_goals first|with_reducible exact Jf|omega|contradiction|exact ⟨k+1,by (have Ks:=hnx;exact Qy),by omega,by omega⟩|skip):p:=h
structure w604k:Prop
theorem w604k.k (_:w604k) {p:Prop} (h:p:=by
 repeat' first|exact Qg|with_reducible apply And.intro|intro _
 refine Zh [6,7,13,14,15,16,17,18,19,20,21,22,23,24,25,26,27,28,29,30,31,32,33,34,35,36,37] (fun k:Nat=>[(12,.d (.int .i64 k))]) (fun k:Nat=>[(9,.row 3 ((L8 (fun _=>Yk b) t k).map enc) 0)]) (fun k:Nat=>k≤t.length) (fun k:Nat=>t.length-k) 0 ?_ ?_ ?_
 ·omega
 ·have Ks:=@Ts;exact Qy
 rintro k hk;have Qu:=Cv (f:=fun _=>Yk b) (l:=t) k;rcases Zl k t.length with ⟨hlt,Qd⟩|⟨hlt,Qd⟩
 ·have Z5:=Zo n0 (show k<(L8 (fun _=>Yk b) t k).length by omega)
  rw [A5 n0 hlt] at Z5;have hset:=Cu n0 hlt (f:=fun _=>Yk b);have hsame:=Zc3 n0 hlt (f:=fun _=>Yk b);have hbn:=hb (t.getD k n0) (by simp [hlt])
  obtain ⟨y,hy⟩:=exq (t.getD k n0);rw [hy] at Z5 hset hsame hbn;obtain ⟨yk,yn,yi⟩:=y;simp only at hbn;obtain ⟨P,hP⟩:=exq (L8 (fun _=>Yk b) t k);rw [hP] at Z5 hset hsame Qu ⊢;have Q0:(P.map (enc:Node→D)).length=t.length:=by rw [Zk,Qu]
  by_cases h0:yk=0
  case neg =>
   have Z9:(yk==0)=false:=by rw [Zf];exact h0
   have hnx:=hsame (by unfold Yk;rw [if_neg (fun h=>h0 h.1)])
   have Zu:=@Pq;have Zy:=@Pp;have Zz:=@Pt;have Z4:=@Ps;have Zs:=@Pj;have Zt:=@Ph;have Kq:w605k:=⟨⟩;exact Un
  subst h0;have Z9:((0:Int)==0)=true:=rfl;rcases Xf 0 yi with ⟨h1,Q2⟩|⟨h1,Q2⟩
  ·have hyb:=hbn rfl;have Zv:(P.map (enc:Node→D)).set k (.agg [.int .i64 0,.str yn,.int .i64 (yi+b)])=(L8 (fun _=>Yk b) t (k+1)).map enc:=by
    rw [←hset];unfold Yk;rw [if_pos ⟨rfl,h1⟩,←Na];rfl
   have Zu:=@Pq;have Zy:=@Pp;have Zz:=@Pt;have Z4:=@Ps;have Zs:=@Pj;have Zt:=@Ph;have Kq:w606k:=⟨⟩;exact Un
  ·have hnx:=hsame (by unfold Yk;rw [if_neg (fun h=>by have:=h.2;simp only at this;omega)])
   have Zu:=@Pq;have Zy:=@Pp;have Zz:=@Pt;have Z4:=@Ps;have Zs:=@Pj;have Zt:=@Ph;have Kq:w607k:=⟨⟩;exact Un
 ·have hke:k=t.length:=by omega
  have hfu:L8 (fun _=>Yk b) t k=R:=by rw [hke,Tt,←Z2];rfl
  have Zx:R.length=t.length:=by rw [←hfu,Qu]
  rw [hfu];have Zu:=@Pq;have Zy:=@Pp;have Zz:=@Pt;have Z4:=@Ps;have Zs:=@Pj;have Zt:=@Ph;exact Sd):p:=h
theorem good_shiftS:Qr Tryz.prog (43,Dd):=by
 obtain ⟨Kx,Kt,Kc,Kd,Kb,Ku,Kw,K,Yj,_⟩:=Wi Z3 Zn [] false (Ja good_cloneT Dj.eq_def Wg);have Ko:=Dd.eq_def;refine Wh K Tryz.func43 [.tmp 4] rfl 39 rfl (fun c hc cvs hpre=>?_);unfold Dd at hpre;obtain ⟨⟨t⟩,⟨fr⟩,⟨i⟩,rfl,ht,hb,hi0,hil,hfl,hf0,hf1⟩:=Gl hpre;simp only at ht hb hi0 hil hfl hf0 hf1;clear hpre;obtain ⟨i,rfl⟩:∃ n:Nat,i=n:=⟨i.toNat,by omega⟩
 rw [Ze] at hf0 hf1;have Qz:=Zo (0:Int) (show i<fr.length by omega)
 have Qh:((i:Nat):Int).toNat=i:=Ze i;obtain ⟨b,Qi⟩:=exq (fr.getD i 0);rw [Qi] at hf0 hf1 Qz;obtain ⟨R,Z2⟩:=exq (He b t);cases hc;refine Ys 2 ?_;have Zu:=@Pq;have Zy:=@Pp;have Zz:=@Pt;have Z4:=@Ps;have Zs:=@Pj;have Zt:=@Ph;have Kq:w604k:=⟨⟩;exact Un
end Go.Am.Ty
namespace Go.Am
theorem Zb0 {C:Ctx} {c:Code} {Q:AExit→AS→Prop} {st:AS} (ks:List Nat) (i:Nat) (kills:List Nat) {α:Type} (vals:α→List (Nat×AV)) (objs:α→List (Nat×Obj)) (ok:α→Prop) (μ:α→Nat) (a0:α) (h0:ok a0)
  (hw:Zoo ks st (Gn st kills (vals a0) (objs a0))) (h:∀ a,ok a→Shut (Pz C c (Av (fun s'=>∃ a',Zqm i s' (Gn st kills (vals a') (objs a'))∧ok a'∧μ a'<μ a) Q) (Gn st kills (vals a) (objs a)))):Ze8 C c Q st :=
 ⟨α,fun a=>Gn st kills (vals a) (objs a),ok,μ,Zqm i,fun _ _ h=>.inr (.inr (.inl ⟨i,h⟩)),⟨a0,⟨ks,hw⟩,h0⟩,fun a ha=>(h a ha).out⟩
end Go.Am
namespace Go.Am.Ty
open Go.Proofs Gr
open Enc (enc dec)
theorem Io {α:Type} [Enc α] {l:List α} {k:Nat} {y:α} (h:k<l.length):el ((l.set k y).map (enc:α→D)) k=enc y:=by
 unfold el;rw [Zc];simp [h]
theorem Zoj {l:List D} {k:Nat} {y:D} (h:k<l.length):el (l.set k y) k=y:=by
 unfold el;rw [Zc];simp [h]
def Xz (b:Int) (p:Part):Part:=⟨p.kind,p.label,p.name,p.bind,p.many,p.num,He b p.t,He b p.u⟩
def X0 (b:Int) (d:Def6):Def6:=⟨d.name,He b d.t,d.e.mapIdx fun _=>Xz b⟩
def V4 (l:List Mod6) (k:Nat) (m:Mod6):Mod6:=⟨m.name,m.imps,m.defs.mapIdx fun _=>X0 (ah l k),m.sites⟩
def Nc (l:List Mod6):Sl Mod6×Int×Int:=if 60<ah l l.length then (⟨[]⟩,0,11) else (⟨l.mapIdx (V4 l)⟩,(ah l l.length:Int),0)
def Zmf (t:List Node):Prop:=t.length≤1000000∧∀ n∈t,n.kind=0→n.n≤1000000
structure LowD (d:Def6):Prop where
 t:Zmf d.t
 len:d.e.length≤1000000
 e:∀ p∈d.e,Zmf p.t∧Zmf p.u
structure NumOk (l:List Mod6):Prop where
 sites:SitesOk l
 len:∀ m∈l,m.defs.length≤1000
 low:∀ m∈l,∀ d∈m.defs,LowD d
def Pw:Con:=Uh (fun (l:Sl Mod6)=>NumOk l.l) (fun l=>Nc l.l)
structure w609k:Prop
theorem w609k.k (_:w609k) {p:Prop} (h:p:=by
 repeat' first|exact Qg|with_reducible apply And.intro|intro _
 all_goals first|with_reducible exact Jf|omega|rfl|trivial|(simp;done)|skip):p:=h
structure w611k:Prop
theorem w611k.k (_:w611k) {p:Prop} (h:p:=by
 repeat' first|exact Qg|with_reducible apply And.intro|intro _
 all_goals first|with_reducible exact Jf|omega|exact ⟨k+1,by (have Ks:=hset2;have Iv:=Qz;have Zn5:=hPk;exact Zr9),by omega,by omega⟩|skip):p:=h
structure w613k:Prop
theorem w613k.k (_:w613k) {p:Prop} (h:p:=by
 repeat' first|exact Qg|with_reducible apply And.intro|intro _
 all_goals first|with_reducible exact Jf|omega|exact lowt2 _ (by assumption) (by assumption)|exact ⟨d+1,by (have Ks:=Qt;have Iv:=r9b;exact Qy),by omega,by omega⟩|skip):p:=h
structure w614k:Prop
theorem w614k.k (_:w614k) {p:Prop} (h:p:=by
 repeat' first|exact Qg|with_reducible apply And.intro|intro _
 all_goals first|with_reducible exact Jf|omega|exact lp2 _ (by assumption) (by assumption)|exact lp4 _ (by assumption) (by assumption)|exact ⟨j+1,by (have Ks:=Qt;have Iv:=r9b;exact Qy),by omega,by omega⟩|skip):p:=h
structure w612k:Prop
theorem w612k.k (_:w612k) {p:Prop} (h:p:=by
 repeat' first|exact Qg|with_reducible apply And.intro|intro _
 all_goals first|with_reducible exact Jf|omega|skip
 refine Zh [12,13,57,58,59,60,61,62,63,64,65,66,67,68,69,70,71,72,73,74,75,76,77] (fun j:Nat=>[(56,.d (.int .i64 j))]) (fun j:Nat=>[(53,.row 8 ((L8 (fun _=>Xz b) xe j).map enc) 0)]) (fun j:Nat=>j≤xe.length) (fun j:Nat=>xe.length-j) 0 ?_ ?_ ?_
 ·omega
 ·have Ks:=@Ts;exact Qy
 rintro j hj;have hjlen:=Cv (f:=fun _=>Xz b) (l:=xe) j;rcases Zl j xe.length with ⟨hjlt,Zz⟩|⟨hjlt,Zz⟩
 rotate_left
 ·have hje:j=xe.length:=by omega
  have hfu:L8 (fun _=>Xz b) xe j=xe.mapIdx fun _=>Xz b:=by rw [hje,Tt]
  have Z4:(xe.mapIdx fun _=>Xz b).length=xe.length:=by simp
  rw [hfu];obtain ⟨E2,hE2⟩:=exq ((xe.mapIdx fun _=>Xz b));obtain ⟨T2,Qj⟩:=exq (He b xt);rw [hE2] at Z4 ⊢;have Zt:(Q.map (enc:Def6→D)).set d (.agg [.str xn,enc (Sl.mk T2),.list 8 (xe.map enc)])=(Q.set d ⟨xn,T2,xe⟩).map enc:=Na (y:=(⟨xn,T2,xe⟩:Def6));have Z8:el ((Q.set d ⟨xn,T2,xe⟩).map (enc:Def6→D)) d=.agg [.str xn,enc (Sl.mk T2),.list 8 (xe.map enc)]:=Io (by omega)
  have Qt:((Q.set d ⟨xn,T2,xe⟩).map (enc:Def6→D)).set d (.agg [.str xn,enc (Sl.mk T2),.list 8 (E2.map enc)])=(L8 (fun _=>X0 b) md (d+1)).map enc:=by
   rw [←hsetd];have:X0 b ⟨xn,xt,xe⟩=⟨xn,T2,E2⟩:=by unfold X0;rw [Qj,hE2]
   rw [this];refine Eq.trans (Na (y:=(⟨xn,T2,E2⟩:Def6))) ?_;rw [List.set_set]
  have r9b:(Q.map (enc:Def6→D)).set d (.agg [.str xn,enc (Sl.mk T2),.list 8 (E2.map enc)])=(L8 (fun _=>X0 b) md (d+1)).map enc:=by
   rw [←Qt,←Na,List.set_set]
  have Zs:((Q.set d ⟨xn,T2,xe⟩).map (enc:Def6→D)).length=md.length:=by rw [Zk,List.length_set,hdlen]
  have Xp:=@Pq;have X8:=@Pp;have X7:=@Pt;have X6:=@Ps;have V7:=@Pj;have V6:=@Ph;have V5:=@Uh.eq_def;have Kq:w613k:=⟨⟩;exact Un
 have Q9:=Zo e0 (show j<(L8 (fun _=>Xz b) xe j).length by omega)
 rw [A5 e0 hjlt] at Q9;have hsetj:=Cu e0 hjlt (f:=fun _=>Xz b);have hlowp:=lowe (xe.getD j e0) (by simp [hjlt])
 obtain ⟨p,hp⟩:=exq (xe.getD j e0);rw [hp] at Q9 hsetj hlowp;obtain ⟨pk,pl,pn,pb,pm,pq,pt,pu⟩:=p;obtain ⟨⟨lp1,lp2⟩,lp3,lp4⟩:=hlowp;simp only at lp1 lp2 lp3 lp4;obtain ⟨S,hSq⟩:=exq (L8 (fun _=>Xz b) xe j);rw [hSq] at Q9 hsetj hjlen ⊢;have Qq:(S.map (enc:Part→D)).length=xe.length:=by rw [Zk,hjlen]
 obtain ⟨T2,Qj⟩:=exq (He b pt);obtain ⟨U2,Wb⟩:=exq (He b pu);have Zt:(S.map (enc:Part→D)).set j (.agg [.int .i64 pk,.str pl,.str pn,.str pb,.int .i64 pm,.int .i64 pq,enc (Sl.mk T2),.list 3 (pu.map enc)])=(S.set j ⟨pk,pl,pn,pb,pm,pq,T2,pu⟩).map enc:=Na (y:=(⟨pk,pl,pn,pb,pm,pq,T2,pu⟩:Part));have Z8:el ((S.set j ⟨pk,pl,pn,pb,pm,pq,T2,pu⟩).map (enc:Part→D)) j=.agg [.int .i64 pk,.str pl,.str pn,.str pb,.int .i64 pm,.int .i64 pq,enc (Sl.mk T2),.list 3 (pu.map enc)]:=Io (by omega)
 have Qt:((S.set j ⟨pk,pl,pn,pb,pm,pq,T2,pu⟩).map (enc:Part→D)).set j (.agg [.int .i64 pk,.str pl,.str pn,.str pb,.int .i64 pm,.int .i64 pq,enc (Sl.mk T2),enc (Sl.mk U2)])=(L8 (fun _=>Xz b) xe (j+1)).map enc:=by
  rw [←hsetj];have:Xz b ⟨pk,pl,pn,pb,pm,pq,pt,pu⟩=⟨pk,pl,pn,pb,pm,pq,T2,U2⟩:=by unfold Xz;rw [Qj,Wb]
  rw [this];refine Eq.trans (Na (y:=(⟨pk,pl,pn,pb,pm,pq,T2,U2⟩:Part))) ?_;rw [List.set_set]
 have r9b:(S.map (enc:Part→D)).set j (.agg [.int .i64 pk,.str pl,.str pn,.str pb,.int .i64 pm,.int .i64 pq,enc (Sl.mk T2),enc (Sl.mk U2)])=(L8 (fun _=>Xz b) xe (j+1)).map enc:=by
  rw [←Qt,←Na,List.set_set]
 have Q6:((S.set j ⟨pk,pl,pn,pb,pm,pq,T2,pu⟩).map (enc:Part→D)).length=xe.length:=by rw [Zk,List.length_set,hjlen]
 have Q9:el (S.map (enc:Part→D)) j=.agg [.int .i64 pk,.str pl,.str pn,.str pb,.int .i64 pm,.int .i64 pq,.list 3 (pt.map enc),.list 3 (pu.map enc)]:=Q9;have Xp:=@Pq;have X8:=@Pp;have X7:=@Pt;have X6:=@Ps;have V7:=@Pj;have V6:=@Ph;have V5:=@Uh.eq_def;have Kq:w614k:=⟨⟩;exact Un):p:=h
structure w610k:Prop
theorem w610k.k (_:w610k) {p:Prop} (h:p:=by
 repeat' first|exact Qg|with_reducible apply And.intro|intro _
 all_goals first|with_reducible exact Jf|omega|skip
 refine Ze7 [8] [9,10,11,12,13,47,48,49,50,51,52,53,54,55,56,57,58,59,60,61,62,63,64,65,66,67,68,69,70,71,72,73,74,75,76,77,78,79,80,81,82,83,84,85,86,87,88,89,90,91,92,93,94,95,96,97,98,99] (fun d:Nat=>[(8,.d (.clo 43 [.ptr 1 (.list 1 (A.map enc)),.ptr 1 (.int .i64 k)])),(46,.d (.int .i64 d))]) (fun d:Nat=>[(7,.fbox 1 (.int .i64 k)),(37,.row 3 ((L8 (fun _=>X0 b) md d).map enc) 0)]) (fun d:Nat=>d≤md.length) (fun d:Nat=>md.length-d) 0 ?_ ?_ ?_
 ·omega
 ·have Ks:=@Ts;exact Zrb
 rintro d hd;have hdlen:=Cv (f:=fun _=>X0 b) (l:=md) d;rcases Zl d md.length with ⟨hdlt,Zv⟩|⟨hdlt,Zv⟩
 rotate_left
 ·have hde:d=md.length:=by omega
  have hfu:L8 (fun _=>X0 b) md d=md.mapIdx fun _=>X0 b:=by rw [hde,Tt]
  have hset2:(P.map (enc:Mod6→D)).set k (.agg [.str mn,.list 1 (mi.map enc),.list 3 ((md.mapIdx fun _=>X0 b).map enc),.list 3 (ms.map enc)])=(L8 (V4 l) l (k+1)).map enc:=by
   rw [←hset,←Na];unfold V4;rw [hbq];rfl
  have hPk:k<(P.map (enc:Mod6→D)).length:=by omega
  have Zx:(md.mapIdx fun _=>X0 b).length=md.length:=by simp
  rw [hfu];have Xp:=@Pq;have X8:=@Pp;have X7:=@Pt;have X6:=@Ps;have V7:=@Pj;have V6:=@Ph;have V5:=@Uh.eq_def;have Kq:w611k:=⟨⟩;exact Un
 have Zu:=Zo Jq (show d<(L8 (fun _=>X0 b) md d).length by omega)
 rw [A5 Jq hdlt] at Zu;have hsetd:=Cu Jq hdlt (f:=fun _=>X0 b);have hlowd:=hlow (md.getD d Jq) (by simp [hdlt])
 obtain ⟨x,hx⟩:=exq (md.getD d Jq);rw [hx] at Zu hsetd hlowd;obtain ⟨xn,xt,xe⟩:=x;obtain ⟨⟨lowt1,lowt2⟩,lowl,lowe⟩:=hlowd;simp only at lowt1 lowt2 lowl lowe;obtain ⟨Q,hQ⟩:=exq (L8 (fun _=>X0 b) md d);rw [hQ] at Zu hsetd hdlen ⊢;have Zy:(Q.map (enc:Def6→D)).length=md.length:=by rw [Zk,hdlen]
 have Xp:=@Uh.eq_def;have Kq:w612k:=⟨⟩;exact Un):p:=h
structure w608k:Prop
theorem w608k.k (_:w608k) {p:Prop} (h:p:=by
 repeat' first|exact Qg|with_reducible apply And.intro|intro _
 all_goals first|exact hS|omega|skip
 refine Zb0 [5] 23 [7,8,9,10,11,12,13,27,28,29,30,31,32,33,34,35,36,37,38,39,40,41,42,43,44,45,46,47,48,49,50,51,52,53,54,55,56,57,58,59,60,61,62,63,64,65,66,67,68,69,70,71,72,73,74,75,76,77,78,79,80,81,82,83,84,85,86,87,88,89,90,91,92,93,94,95,96,97,98,99,100] (fun k:Nat=>[(5,.d (.ptr 1 (.list 1 (A.map enc)))),(26,.d (.int .i64 k))]) (fun k:Nat=>[(5,.fbox 1 (.list 1 (A.map enc))),(23,.row 4 ((L8 (V4 l) l k).map enc) k),(50023,.slot k 2)]) (fun k:Nat=>k≤l.length) (fun k:Nat=>l.length-k) 0 ?_ ?_ ?_
 ·omega
 ·have Ks:=@Ts;exact Zrb
 rintro k hk;have hpl:=Cv (f:=V4 l) (l:=l) k;rcases Zl k l.length with ⟨hlt,Z9⟩|⟨hlt,Z9⟩
 rotate_left
 ·have hke:k=l.length:=by omega
  rw [hke];rw [hke] at Z9;rw [Tt];subst hR2;have Xp:=@Uh.eq_def;have Kq:w609k:=⟨⟩;exact Un
 have Qu:=Zo Jl hlt;have Q0:=Zo Jl (show k<(L8 (V4 l) l k).length by omega)
 rw [A5 Jl hlt] at Q0;have hset:=Cu Jl hlt (f:=V4 l);have hmem:l.getD k Jl∈l:=by simp [hlt]
 have hdl:=hN.len _ hmem;have hlow:=hN.low _ hmem;have hbk:=eJ hS k hk;have Qv:=hatD k hk;obtain ⟨m,hm⟩:=exq (l.getD k Jl);rw [hm] at Qu Q0 hset hdl hlow;obtain ⟨mn,mi,md,ms⟩:=m;simp only at hdl hlow;obtain ⟨P,hP⟩:=exq (L8 (V4 l) l k);rw [hP] at Q0 hset hpl ⊢;have Q2:(P.map (enc:Mod6→D)).length=l.length:=by rw [Zk,hpl]
 have Qw:((k:Nat):Int).toNat=k:=Ze k;obtain ⟨b,hbq⟩:∃ b:Int,(ah l k:Int)=b:=⟨_,rfl⟩;rw [hbq] at Qv;have hb0:0≤b:=by omega
 have hb1:b≤1000000:=by omega
 have Qz:∀ X:D,((P.map (enc:Mod6→D)).set k X).length=l.length:=fun X=>by rw [List.length_set,Q2]
 have hkl:(k:Int)<(l.length:Int):=by omega
 have Xp:=@Uh.eq_def;have Kq:w610k:=⟨⟩;exact Un):p:=h
theorem good_NumberS:Qr Tryz.prog (14,Pw):=by
 obtain ⟨Kx,Kt,Kc,Kd,Kb,Ku,Kw,K,Yj,Kv,P4,B6,D2,_⟩:=Wi Z3 Zn [] false (Ja good_aheadS L3.eq_def (Ja good_cloneMods M8.eq_def (Ja good_cloneDefs M9.eq_def (Ja good_cloneE Dk.eq_def (Ja good_shiftS Dd.eq_def Wg)))));have Ko:=Pw.eq_def;refine Wh K Tryz.func14 [.tmp 2,.tmp 3,.tmp 4] rfl 107 rfl (fun c hc cvs hpre=>?_);unfold Pw at hpre;obtain ⟨⟨l⟩,rfl,hN⟩:=cI hpre;simp only at hN;clear hpre;have hS:=hN.sites;obtain ⟨R,Z5⟩:=exq (Nc l);have hR2:=Z5;unfold Nc at hR2;have hlen:=hS.len;have hA:=Is l (l.length+1);have hat:∀ j,j≤l.length→el ((Yq l (l.length+1)).map (enc:Int→D)) j=enc (ah l j:Int):=fun j hj=>by
  have:=Zo (0:Int) (show j<(Yq l (l.length+1)).length by omega)
  rw [Cb (by omega)] at this
  exact this
 have hatD:∀ j,j≤l.length→(Yq l (l.length+1)).getD j 0=ah l j:=fun j hj=>Cb (by omega)
 have Z2:=hat l.length (Zm _);have hal:=eJ hS l.length (Zm _);obtain ⟨A,Qh⟩:=exq (Yq l (l.length+1));rw [Qh] at hA Z2 hat hatD;have Qi:(A.map (enc:Int→D)).length=l.length+1:=by rw [Zk,hA]
 cases hc;refine Ys 6 ?_;rcases Xf 60 (ah l l.length:Int) with ⟨h6,Qd⟩|⟨h6,Qd⟩
 ·rw [if_pos (by omega)] at hR2
  subst hR2;have Xp:=@Uh.eq_def;exact Sd
 rw [if_neg (by omega)] at hR2
 have Xp:=@Uh.eq_def;have Kq:w608k:=⟨⟩;exact Un
def bA:Site:=⟨0,0,false⟩
def Oj:List Mod6:=[⟨[97],[],[],[bA,bA]⟩,⟨[98],[],[],[bA,bA,bA]⟩]
theorem Zjf:NumOk Oj:=by
 refine ⟨⟨by decide,fun m hm=>?_⟩,fun m hm=>?_,fun m hm d hd=>?_⟩
 ·simp only [Oj,Xn,Ns,or_false] at hm;rcases hm with rfl|rfl<;>simp
 ·simp only [Oj,Xn,Ns,or_false] at hm;rcases hm with rfl|rfl<;>simp
 ·simp only [Oj,Xn,Ns,or_false] at hm;rcases hm with rfl|rfl<;>simp at hd
def Lz:Con:=V8 true
theorem dP:Qr Tryz.prog (13,Lz):=by
 obtain ⟨Kx,Kt,Kc,Kd,Kb,Ku,Kw,K,Yj,Kv,_⟩:=Wi Z3 Zn [] false (Ja good_WhereS L4.eq_def (Ja good_NumberS Pw.eq_def Wg));have Ko:=Lz.eq_def;refine Wh K Tryz.func13 [.tmp 0] rfl 43 rfl (fun c hc cvs hpre=>?_);unfold Lz at hpre;obtain rfl:=iR hpre;clear hpre;have hN:=Zjf;have hS:=hN.sites;have Z9:Ed Oj 4=(1,2,0):=by decide
 have Qu:Nc Oj=(⟨Oj.mapIdx (V4 Oj)⟩,5,0):=by
  unfold Nc;rw [if_neg (by decide)]
  rfl
 have hr:dL .i64 4:=by rw [Xb];omega
 have Qh:(dec (.agg [.str [97],.list 1 [],.list 3 [],.list 3 (List.replicate 2 (.agg [.int .i64 0,.int .i64 0,.bool false]))]):Mod6)=⟨[97],[],[],[bA,bA]⟩:=rfl;have Qi:(dec (.agg [.str [98],.list 1 [],.list 3 [],.list 3 (List.replicate 3 (.agg [.int .i64 0,.int .i64 0,.bool false]))]):Mod6)=⟨[98],[],[],[bA,bA,bA]⟩:=rfl;have Z2:Up Mod6 (.agg [.str [97],.list 1 [],.list 3 [],.list 3 (List.replicate 2 (.agg [.int .i64 0,.int .i64 0,.bool false]))])=True:=eq_true rfl;have Qd:Up Mod6 (.agg [.str [98],.list 1 [],.list 3 [],.list 3 (List.replicate 3 (.agg [.int .i64 0,.int .i64 0,.bool false]))])=True:=eq_true rfl;have Z5:[(⟨[97],[],[],[bA,bA]⟩:Mod6),⟨[98],[],[],[bA,bA,bA]⟩]=Oj:=rfl;cases hc;refine Ys 2 ?_;have Q0:=@Uh.eq_def;exact Sd
theorem Zf1 {t:List Node} (h:∀ z:Int,100000<z→J3 (G3 z) t=0) (hl:t.length≤100001):Zmf t:=by
 refine ⟨by omega,fun n hn hk=>Int.not_lt.1 fun hh=>?_⟩
 have:=h n.n (by omega)
 unfold J3 at this;have h1:=List.sum_eq_zero_iff_forall_eq_nat.1 this (G3 n.n n) (List.mem_map_of_mem hn);unfold G3 at h1;rw [if_pos ⟨hk,rfl⟩] at h1;cases h1
theorem Iy {α:Type} {w:α→Nat} {l:List α} (h:(l.map w).sum=0) {x:α} (hx:x∈l):w x=0 :=
 List.sum_eq_zero_iff_forall_eq_nat.1 h (w x) (List.mem_map_of_mem hx)
theorem Zlc {l:List Mod6} (h20:l.length≤20) (hG:∀ m∈l,Good9 m):NumOk l:=by
 refine ⟨⟨h20,fun m hm=>by have:=(hG m hm).slen;omega⟩,fun m hm=>by have:=(hG m hm).dlen;omega,fun m hm d hd=>?_⟩
 have hg:=hG m hm;have hf:=hg.fit d hd;have hz:∀ z:Int,100000<z→Zjy z d=0:=fun z hz=>by
  have h1:=hg.cnt z;have h2:=hg.slen;rw [if_neg (by omega)] at h1
  unfold zS at h1;exact Iy h1 hd
 refine ⟨Zf1 (fun z h=>?_) hf.t,by have:=hf.e;omega,fun p hp=>?_⟩
 ·have:=hz z h;unfold Zjy at this;omega
 ·have hp1:∀ z:Int,100000<z→Uu z p=0:=fun z h=>by
   have h1:=hz z h;unfold Zjy at h1;have h2:W1 z d.e=0:=by omega
   unfold W1 at h2;exact Iy h2 hp
  have hfp:=hf.fit p hp;exact ⟨Zf1 (fun z h=>by have:=hp1 z h;unfold Uu at this;omega) hfp.1.1,Zf1 (fun z h=>by have:=hp1 z h;unfold Uu at this;omega) hfp.2.1.1⟩
open Go.Proofs
theorem Zmd {p q:D→Prop} {ds:List D} (h:Zmi [p,q] ds):∃ a b,ds=[a,b]∧p a∧q b:=by
 match ds,h with
 | [a,b],h=>exact ⟨a,b,rfl,h.1,h.2.1⟩
theorem Zhb:Zn2 Tryz.prog 22 1 false (Sl (List UInt8)) (fun a=>a.l.length≤maxLen∧∀ y∈a.l,y.length≤maxLen):=Zn7 Tryz.underlying22 (by kernel_rfl) rfl (by decide) (Zmr Tryz.underlying9)
theorem rdTx9:Zn2 Tryz.prog 24 2 true Tx9 (fun a=>a.names.length≤maxLen) :=
 (Ziy (ps:=[_,_]) Tryz.underlying24 (by kernel_rfl) rfl ⟨rfl,by kernel_rfl,Zhb,rfl,by kernel_rfl,Zhb,trivial⟩).mono fun x h=>by
  obtain ⟨ds,rfl,h⟩:=h;obtain ⟨a,b,rfl,⟨⟨k⟩,rfl,hk,_⟩,⟨⟨t⟩,rfl,ht⟩⟩:=Zmd h;exact ⟨⟨k,t⟩,rfl,hk⟩
theorem rdN:Zn2 Tryz.prog 3 1 false Int (fun a=>dL .i64 a):=Zms Tryz.underlying3
theorem Lg {α:Type} (d:α) {a b:List α} (hl:a.length=b.length) (h:∀ j,j<a.length→a.getD j d=b.getD j d):a=b:=by
 refine List.ext_getElem hl fun j h1 h2=>?_;have:=h j h1;simpa [h1,h2] using this
def Bu:Con:=Wc (fun (a b:Sl (List UInt8))=>Lo a.l.length∧Lo b.l.length) (fun a b=>a.l==b.l)
structure w616k:Prop
theorem w616k.k (_:w616k) {p:Prop} (h:p:=by
 repeat' first|exact Qg|with_reducible apply And.intro|intro _
 all_goals first|with_reducible exact Jf|omega|exact ⟨k+1,by exact Qy,by omega,h2,by omega⟩|skip):p:=h
structure w615k:Prop
theorem w615k.k (_:w615k) {p:Prop} (h:p:=by
 repeat' first|exact Qg|with_reducible apply And.intro|intro _
 refine Zh [4,11,12,13,14,15,16,17,18,19,20,21,22,23,24,25] (fun k:Nat=>[(5,.d (.int .i64 k))]) (fun k:Nat=>[]) (fun k:Nat=>k≤a.length∧∀ j,j<k→a.getD j []=b.getD j []) (fun k:Nat=>a.length-k) 0 ?_ ?_ ?_
 ·exact ⟨by omega,fun j hj=>absurd hj (Nat.not_lt_zero j)⟩
 ·exact Qy
 rintro k ⟨hk,hno⟩;rcases Zl k a.length with ⟨hlt,Z2⟩|⟨hlt,Z2⟩
 ·have Qd:=Zo ([]:List UInt8) hlt;have Z5:=Zo ([]:List UInt8) (show k<b.length by omega)
  have hst:a.getD k []=b.getD k []→∀ j,j<k+1→a.getD j []=b.getD j []:=fun h=>U7 hno h;have hbad:a.getD k []≠b.getD k []→(a==b)=false:=by
   intro h;rw [Zf];intro e;exact h (by rw [e])
  obtain ⟨x,hx⟩:=exq (a.getD k []);obtain ⟨y,hy⟩:=exq (b.getD k []);rw [hx] at Qd hst hbad;rw [hy] at Z5 hst hbad;cases Z9:(x==y) with
  | false =>
   have Qi:=hbad (by simpa using Z9)
   exact Sd
  | true =>
   have h2:=hst (by simpa using Z9)
   have Kq:w616k:=⟨⟩;exact Un
 ·have Qi:(a==b)=true:=by
   rw [Zp];exact Lg [] hlen fun j hj=>hno j (by omega)
  exact Zfm):p:=h
theorem good_Strings5:Qr Tryz.prog (130,Bu):=by
 obtain ⟨Kx,Kt,Kc,Kd,Kb,Ku,Kw,K,_⟩:=Wi Z3 Zn [] false Wg;have Ko:=Bu.eq_def;refine Wh K Tryz.func130 [.tmp 4] rfl 26 rfl (fun c hc cvs hpre=>?_);unfold Bu at hpre;obtain ⟨⟨a⟩,⟨b⟩,rfl,ha,hb⟩:=Jr hpre;simp only at ha hb;by_cases hlen:a.length=b.length
 case neg =>
  have Qh:((a.length:Int) != (b.length:Int))=true:=by rw [bne_iff_ne];omega
  have Qi:(a==b)=false:=by rw [Zf];intro e;exact hlen (by rw [e])
  cases hc;exact Zfm
 have Qh:((a.length:Int) != (b.length:Int))=false:=by rw [hlen,bne_self_eq_false]
 cases hc;have Kq:w615k:=⟨⟩;exact Un
def Dn:Con:=Wc (fun (a b:Sl Site)=>Lo a.l.length∧Lo b.l.length) (fun a b=>a.l==b.l)
def Zbo (a b:Site):Bool:=(a.frm==b.frm)&&((a.to==b.to)&&(a.miss==b.miss))
theorem Zee {a b:Site}:Zbo a b=true↔a=b:=by
 obtain ⟨a1,a2,a3⟩:=a;obtain ⟨b1,b2,b3⟩:=b;simp [Zbo]
structure w618k:Prop
theorem w618k.k (_:w618k) {p:Prop} (h:p:=by
 repeat' first|exact Qg|with_reducible apply And.intro|intro _
 all_goals first|with_reducible exact Jf|omega|rfl|(simp_all;done)|skip):p:=h
structure w619k:Prop
theorem w619k.k (_:w619k) {p:Prop} (h:p:=by
 repeat' first|exact Qg|with_reducible apply And.intro|intro _
 all_goals first|with_reducible exact Jf|omega|exact ⟨k+1,by exact Qy,by omega,h2,by omega⟩|(simp_all;done)|skip):p:=h
structure w617k:Prop
theorem w617k.k (_:w617k) {p:Prop} (h:p:=by
 repeat' first|exact Qg|with_reducible apply And.intro|intro _
 refine Zh [4,11,12,13,14,15,16,17,18,19,20,21,22,23,24,25] (fun k:Nat=>[(5,.d (.int .i64 k))]) (fun k:Nat=>[]) (fun k:Nat=>k≤a.length∧∀ j,j<k→a.getD j bA=b.getD j bA) (fun k:Nat=>a.length-k) 0 ?_ ?_ ?_
 ·exact ⟨by omega,fun j hj=>absurd hj (Nat.not_lt_zero j)⟩
 ·exact Qy
 rintro k ⟨hk,hno⟩;rcases Zl k a.length with ⟨hlt,Z2⟩|⟨hlt,Z2⟩
 ·have Qd:=Zo bA hlt;have Z5:=Zo bA (show k<b.length by omega)
  have hst:a.getD k bA=b.getD k bA→∀ j,j<k+1→a.getD j bA=b.getD j bA:=fun h=>U7 hno h;have hbad:a.getD k bA≠b.getD k bA→(a==b)=false:=by
   intro h;rw [Zf];intro e;exact h (by rw [e])
  obtain ⟨x,hx⟩:=exq (a.getD k bA);obtain ⟨y,hy⟩:=exq (b.getD k bA);rw [hx] at Qd hst hbad;rw [hy] at Z5 hst hbad;have hiff:=Zee (a:=x) (b:=y);unfold Zbo at hiff;cases Z9:((x.frm==y.frm)&&((x.to==y.to)&&(x.miss==y.miss))) with
  | false =>
   have Qi:=hbad (fun e=>by rw [Z9] at hiff;exact Bool.noConfusion (hiff.2 e))
   have Kq:w618k:=⟨⟩;exact Un
  | true =>
   have h2:=hst (hiff.1 Z9);have Kq:w619k:=⟨⟩;exact Un
 ·have Qi:(a==b)=true:=by
   rw [Zp];exact Lg bA hlen fun j hj=>hno j (by omega)
  exact Zfm):p:=h
theorem good_Sites4:Qr Tryz.prog (92,Dn):=by
 obtain ⟨Kx,Kt,Kc,Kd,Kb,Ku,Kw,K,_⟩:=Wi Z3 Zn [] false Wg;have Ko:=Dn.eq_def;refine Wh K Tryz.func92 [.tmp 4] rfl 26 rfl (fun c hc cvs hpre=>?_);unfold Dn at hpre;obtain ⟨⟨a⟩,⟨b⟩,rfl,ha,hb⟩:=Jr hpre;simp only at ha hb;by_cases hlen:a.length=b.length
 case neg =>
  have Qh:((a.length:Int) != (b.length:Int))=true:=by rw [bne_iff_ne];omega
  have Qi:(a==b)=false:=by rw [Zf];intro e;exact hlen (by rw [e])
  cases hc;exact Zfm
 have Qh:((a.length:Int) != (b.length:Int))=false:=by rw [hlen,bne_self_eq_false]
 cases hc;have Kq:w617k:=⟨⟩;exact Un
def Ah (x y:Def6):Bool:=(x.name==y.name)&&(Tn x.t y.t&&Ai x.e y.e)
def A1 (a b:List Def6):Bool:=(List.range a.length).all fun j=>Ah (a.getD j Jq) (b.getD j Jq)
theorem Zcr {a b:List Def6} (h:∀ j,j<a.length→Ah (a.getD j Jq) (b.getD j Jq)=true):A1 a b=true:=by
 unfold A1;rw [List.all_eq_true];exact fun j hj=>h j (List.mem_range.1 hj)
theorem Za0 {a b:List Def6} {k:Nat} (hk:k<a.length) (h:Ah (a.getD k Jq) (b.getD k Jq)=false):A1 a b=false:=by
 unfold A1;rw [←Bool.not_eq_true,List.all_eq_true];intro hh;have:=hh k (List.mem_range.2 hk);rw [h] at this;cases this
def dY (a b:Mod6):Bool:=(a.name==b.name)&&((a.imps==b.imps)&&((a.defs.length==b.defs.length)&&A1 a.defs b.defs))
structure In6 (m:Mod6):Prop where
 imps:Lo m.imps.length
 defs:Lo m.defs.length
 sites:Lo m.sites.length
 t:∀ d∈m.defs,Lo d.t.length
 e:∀ d∈m.defs,Zmg d.e
def Rm:Con:=Wc (fun (a b:Mod6)=>In6 a∧In6 b) (fun a b=>dY a b)
structure w621k:Prop
theorem w621k.k (_:w621k) {p:Prop} (h:p:=by
 repeat' first|exact Qg|with_reducible apply And.intro|intro _
 all_goals first|with_reducible exact Jf|omega|exact x2|exact y2|exact ⟨k+1,by exact Qy,by omega,h9,by omega⟩|rfl|trivial|skip):p:=h
structure w620k:Prop
theorem w620k.k (_:w620k) {p:Prop} (h:p:=by
 repeat' first|exact Qg|with_reducible apply And.intro|intro _
 refine Zh [4,6,7,30,31,32,33,34,35,36,37,38,39,40,41,42,43,44,45,46,47,48,49,50,51,52,53,54,55,56,57,58,59,60,61,62,63,64,65,66,67] (fun k:Nat=>[(5,.d (.int .i64 k))]) (fun k:Nat=>[]) (fun k:Nat=>k≤ad.length∧∀ j,j<k→Ah (ad.getD j Jq) (bd.getD j Jq)=true) (fun k:Nat=>ad.length-k) 0 ?_ ?_ ?_
 ·exact ⟨by omega,fun j hj=>absurd hj (Nat.not_lt_zero j)⟩
 ·exact Qy
 rintro k ⟨hk,hno⟩;rcases Zl k ad.length with ⟨hlt,Z5⟩|⟨hlt,Z5⟩
 ·have Z9:=Zo Jq hlt;have Qu:=Zo Jq (show k<bd.length by omega)
  have hst:Ah (ad.getD k Jq) (bd.getD k Jq)=true→∀ j,j<k+1→Ah (ad.getD j Jq) (bd.getD j Jq)=true:=fun h=>U7 hno h;have hbad:Ah (ad.getD k Jq) (bd.getD k Jq)=false→R=false:=fun h=>by rw [←hR2];exact Za0 hlt h
  have x1:=a4 (ad.getD k Jq) (by simp [hlt])
  have x2:=a5 (ad.getD k Jq) (by simp [hlt])
  have y1:=b4 (bd.getD k Jq) (by simp [show k<bd.length by omega])
  have y2:=b5 (bd.getD k Jq) (by simp [show k<bd.length by omega])
  obtain ⟨x,hx⟩:=exq (ad.getD k Jq);obtain ⟨y,hy⟩:=exq (bd.getD k Jq);rw [hx] at Z9 hst hbad x1 x2;rw [hy] at Qu hst hbad y1 y2;obtain ⟨xn,xt,xe⟩:=x;obtain ⟨yn,yt,ye⟩:=y;unfold Ah at hst hbad;simp only at hst hbad x1 x2 y1 y2;clear hno;cases Q0:xn==yn with
  | false =>
   have g1b:(xn != yn)=true:=by rw [bne,Q0];rfl
   have Q2:=hbad (by rw [Q0];rfl)
   clear hst hbad;have Yo:=Kt;have W6:=Kt;exact Sd
  | true =>
   have g1b:(xn != yn)=false:=by rw [bne,Q0];rfl
   cases Qz:Tn xt yt with
   | false =>
    have Q2:=hbad (by rw [Q0,Qz];rfl)
    clear hst hbad;have Yo:=Kt;have W6:=Kt;exact Sd
   | true =>
    cases Zv:Ai xe ye with
    | false =>
     have Q2:=hbad (by rw [Q0,Qz,Zv];rfl)
     clear hst hbad;have Yo:=Kt;have W6:=Kt;exact Sd
    | true =>
     have h9:=hst (by rw [Q0,Qz,Zv];rfl)
     clear hst hbad;have Yo:=Kt;have W6:=Kt;have Kq:w621k:=⟨⟩;exact Un
 ·have hke:k=ad.length:=by omega
  have Q2:R=true:=by rw [←hR2];exact Zcr fun j hj=>hno j (by omega)
  clear hno;have Yo:=Kt;have W6:=Kt;exact Zfm):p:=h
theorem good_Same6:Qr Tryz.prog (91,Rm):=by
 obtain ⟨Kx,Kt,Kc,Kd,Kb,Ku,Kw,K,Yj,Kv,P4,_⟩:=Wi Z3 Zn [] false (Ja good_Strings5 Bu.eq_def (Ja good_Same3 T6.eq_def (Ja good_Same5 T5.eq_def Wg)));have Ko:=Rm.eq_def;refine Wh K Tryz.func91 [.tmp 4] rfl 68 rfl (fun c hc cvs hpre=>?_);unfold Rm at hpre;obtain ⟨⟨an,ai,ad,sa⟩,⟨bn,bi,bd,bs⟩,rfl,⟨a1,a2,a3,a4,a5⟩,⟨b1,b2,b3,b4,b5⟩⟩:=Jr hpre;simp only at a1 a2 a3 a4 a5 b1 b2 b3 b4 b5;clear hpre;obtain ⟨R,Qi⟩:=exq (dY ⟨an,ai,ad,sa⟩ ⟨bn,bi,bd,bs⟩);have hR2:=Qi;unfold dY at hR2;simp only at hR2;cases hc;refine Ys 4 ?_;cases Qh:an==bn with
 | false =>
  have h1b:(an != bn)=true:=by rw [bne,Qh];rfl
  rw [Qh,Bool.false_and] at hR2;subst hR2;have Yo:=Kt;have W6:=Kt;exact Zfm
 | true =>
  have h1b:(an != bn)=false:=by rw [bne,Qh];rfl
  rw [Qh,Bool.true_and] at hR2;cases Z2:ai==bi with
  | false =>
   rw [Z2,Bool.false_and] at hR2;subst hR2;have Yo:=Kt;have W6:=Kt;exact Sd
  | true =>
   rw [Z2,Bool.true_and] at hR2;by_cases h3:ad.length=bd.length
   case neg =>
    have Qd:((ad.length:Int) != (bd.length:Int))=true:=by rw [bne_iff_ne];omega
    have h3c:(ad.length==bd.length)=false:=by rw [Zf];exact h3
    rw [h3c,Bool.false_and] at hR2;subst hR2;have Yo:=Kt;have W6:=Kt;exact Sd
   have Qd:((ad.length:Int) != (bd.length:Int))=false:=by rw [h3,bne_self_eq_false]
   have h3c:(ad.length==bd.length)=true:=by rw [Zp];exact h3
   rw [h3c,Bool.true_and] at hR2;have Yo:=Kt;have W6:=Kt;have Kq:w620k:=⟨⟩;exact Un
theorem Zfo (a:Mod6):dY a a=true:=by
 unfold dY A1 Ah Tn Ai;simp
theorem Zfn {a b:Mod6} (h:dY a b=true):a.name=b.name∧a.imps=b.imps∧a.defs.length=b.defs.length∧∀ j,j<a.defs.length→(a.defs.getD j Jq).name=(b.defs.getD j Jq).name:=by
 unfold dY at h;simp only [Zg,Zp] at h;obtain ⟨h1,h2,h3,h4⟩:=h;refine ⟨h1,h2,h3,fun j hj=>?_⟩;unfold A1 at h4;rw [List.all_eq_true] at h4;have:=h4 j (List.mem_range.2 hj);unfold Ah at this;simp only [Zg,Zp] at this;exact this.1
def aL:Con:=Wc (fun (a b:Mod6)=>In6 a∧In6 b) (fun a b=>a==b)
structure w623k:Prop
theorem w623k.k (_:w623k) {p:Prop} (h:p:=by
 repeat' first|exact Qg|with_reducible apply And.intro|intro _
 all_goals first|with_reducible exact Jf|omega|exact x2|exact y2|exact ⟨k+1,by exact Qy,by omega,h9,by omega⟩|rfl|trivial|skip):p:=h
structure w622k:Prop
theorem w622k.k (_:w622k) {p:Prop} (h:p:=by
 repeat' first|exact Qg|with_reducible apply And.intro|intro _
 all_goals first|exact hA2|exact hB2|skip
 refine Zh [4,18,19,20,21,22,23,24,25,26,27,28,29,30,31,32,33,34,35,36,37,38,39,40,41,42,43,44,45,46,47,48,49,50,51,52,53,54] (fun k:Nat=>[(5,.d (.int .i64 k))]) (fun k:Nat=>[]) (fun k:Nat=>k≤ad.length∧∀ j,j<k→ad.getD j Jq=bd.getD j Jq) (fun k:Nat=>ad.length-k) 0 ?_ ?_ ?_
 ·exact ⟨by omega,fun j hj=>absurd hj (Nat.not_lt_zero j)⟩
 ·exact Qy
 rintro k ⟨hk,hst⟩;rcases Zl k ad.length with ⟨hlt,Z5⟩|⟨hlt,Z5⟩
 ·have Z9:=Zo Jq hlt;have Qu:=Zo Jq (show k<bd.length by omega)
  have hst:ad.getD k Jq=bd.getD k Jq→∀ j,j<k+1→ad.getD j Jq=bd.getD j Jq:=fun h=>U7 hst h;have hbad:ad.getD k Jq≠bd.getD k Jq→R=false:=fun h=>hno fun e=>by injection e with _ _ e _;exact h (by rw [e])
  have x1:=a4 (ad.getD k Jq) (by simp [hlt])
  have x2:=a5 (ad.getD k Jq) (by simp [hlt])
  have y1:=b4 (bd.getD k Jq) (by simp [show k<bd.length by omega])
  have y2:=b5 (bd.getD k Jq) (by simp [show k<bd.length by omega])
  have hnm:=e4 k hlt;obtain ⟨x,hx⟩:=exq (ad.getD k Jq);obtain ⟨y,hy⟩:=exq (bd.getD k Jq);rw [hx] at Z9 hst hbad x1 x2 hnm;rw [hy] at Qu hst hbad y1 y2 hnm;obtain ⟨xn,xt,xe⟩:=x;obtain ⟨yn,yt,ye⟩:=y;simp only at x1 x2 y1 y2 hnm;cases Q0:xt==yt with
  | false =>
   have Z2:=hbad (fun e=>by injection e with _ e _;rw [e,beq_self_eq_true] at Q0;cases Q0)
   clear hst hbad;exact Sd
  | true =>
   cases Q2:xe==ye with
   | false =>
    have Z2:=hbad (fun e=>by injection e with _ _ e;rw [e,beq_self_eq_true] at Q2;cases Q2)
    clear hst hbad;exact Sd
   | true =>
    have h9:=hst (by rw [hnm,(by simpa using Q0:xt=yt),(by simpa using Q2:xe=ye)])
    clear hst hbad;have Kq:w623k:=⟨⟩;exact Un
 ·have Z2:R=true:=by
   rw [←Qi,Zp,e1,e2,e5,Lg Jq e3 fun j hj=>hst j (by omega)]
  clear hst;exact Zfm):p:=h
theorem good_One6:Qr Tryz.prog (48,aL):=by
 obtain ⟨Kx,Kt,Kc,Kd,Kb,Ku,Kw,K,Yj,Kv,P4,B6,_⟩:=Wi Z3 Zn [] false (Ja good_Same6 Rm.eq_def (Ja good_Sites4 Dn.eq_def (Ja good_One3 T7.eq_def (Ja good_One5 aM.eq_def Wg))));have Ko:=aL.eq_def;refine Wh K Tryz.func48 [.tmp 4] rfl 55 rfl (fun c hc cvs hpre=>?_);unfold aL at hpre;obtain ⟨⟨an,ai,ad,sa⟩,⟨bn,bi,bd,bs⟩,rfl,hA,hB⟩:=Jr hpre;clear hpre;have hA2:=hA;have hB2:=hB;obtain ⟨a1,a2,a3,a4,a5⟩:=hA;obtain ⟨b1,b2,b3,b4,b5⟩:=hB;simp only at a1 a2 a3 a4 a5 b1 b2 b3 b4 b5;obtain ⟨R,Qi⟩:=exq (((⟨an,ai,ad,sa⟩:Mod6)==⟨bn,bi,bd,bs⟩));have hno:(⟨an,ai,ad,sa⟩:Mod6)≠⟨bn,bi,bd,bs⟩→R=false:=fun h=>by rw [←Qi,Zf];exact h
 cases hc;refine Ys 3 ?_;cases Qh:dY ⟨an,ai,ad,sa⟩ ⟨bn,bi,bd,bs⟩ with
 | false =>
  have Z2:=hno (fun e=>by rw [e,Zfo] at Qh;cases Qh)
  exact Sd
 | true =>
  obtain ⟨e1,e2,e3,e4⟩:=Zfn Qh;simp only at e1 e2 e3 e4;cases Qd:sa==bs with
  | false =>
   have Z2:=hno (fun e=>by injection e with _ _ _ e;rw [e,beq_self_eq_true] at Qd;cases Qd)
   exact Sd
  | true =>
   have e5:sa=bs:=by simpa using Qd
   have Kq:w622k:=⟨⟩;exact Un
end Go.Am.Ty
