/- Contracts of functions that the law reaches, and plain laws. Conditions: those that each contract states. -/
import Derived.Test.YtilpfkjhahnfaaaGreatH9
set_option maxHeartbeats 8000000
set_option linter.unusedVariables false
set_option linter.unusedSimpArgs false
variable {p:Prop}
set_option maxRecDepth 100000
namespace Go.Am.Ty
open Go.Proofs
open Enc (enc dec)
def Y0 {A B R S T:Type} [Enc A] [Enc B] [Enc R] [Enc S] [Enc T] (p:A→B→Prop) (f:A→B→R×S×T):Con:=⟨[false,false],[false,false,false],fun c=>match c with
 | [.d x,.d y]=>V9 A x∧V9 B y∧p (dec x) (dec y)
 | _=>False,fun c=>match c with
 | [.d x,.d y]=>.tup [.d (enc (f (dec x) (dec y)).1),.d (enc (f (dec x) (dec y)).2.1),.d (enc (f (dec x) (dec y)).2.2)]
 | _=>.d .nilp⟩
theorem fE {A B R S T:Type} [Enc A] [Enc B] [Enc R] [Enc S] [Enc T] {p:A→B→Prop} {f:A→B→R×S×T} {c:List CV} (h:(Y0 p f).pre c):∃ a b,c=[.d (enc a),.d (enc b)]∧p a b:=by
 unfold Y0 at h;simp only at h;split at h
 ·next x y=>exact ⟨dec x,dec y,by rw [←h.1,←h.2.1],h.2.2⟩
 ·exact h.elim
structure ImpS (l:List Tok) (f:Nat) (s:St6) (imps:List (List UInt8)):Prop where
 pos:Pos l s
 sites:s.sites=[]
 room:s.e=0→(l.length:Int)+1≤f+s.at_
 cnt:imps.length+f=l.length+1
 short:∀ x∈imps,x.length≤1000000
 fuel:1≤f
theorem ImpS.next {l:List Tok} (hT:Toks l) {f:Nat} {s:St6} {imps:List (List UInt8)} (h:ImpS l (f+1) s imps) (hi:Rh l s 6 [105,109,112,111,114,116]=true) :
  ImpS l f (Qq l (Jk l (Xu s) 1).2 5 [59]) (imps++[(Jk l (Xu s) 1).1]):=by
 have q1:=(Sq.refl h.pos).tok (by omega) (dK h.pos hi)
 have q2:=q1.tok (by omega) (Ps q1.adv.pos 1)
 have q3:=q2.tok (by omega) (Xi q2.adv.pos 5 [59])
 have hlt:=Du hi;refine ⟨q3.adv.pos,?_,fun he=>?_,?_,fun x hx=>?_,?_⟩
 ·rw [Ao,Ar];exact h.sites
 ·have h1:=h.room hlt.1;have h2:=(q3.adv.gain he).2;have h3:=(q3.adv.gain he).1;omega
 ·have:=h.cnt;simp only [Zf,Zi,List.length_nil];omega
 ·rcases List.mem_append.1 hx with hx|hx
  ·exact h.short x hx
  ·rw [Zp] at hx;subst hx;exact W7 hT _ _
 ·have:=h.room hlt.1;omega
structure DefS (l:List Tok) (f:Nat) (s:St6) (defs:List Def6) (pl:List Int):Prop where
 inn:St6In l s
 cnt:defs.length+f=201
 len:defs.length≤200
 pls:pl.length=defs.length
theorem DefS.next {l:List Tok} (hT:Toks l) {f:Nat} {s:St6} {defs:List Def6} {pl:List Int} (h:DefS l (f+1) s defs pl) (hi:Rh l s 6 [100,101,102]=true) (hl:defs.length≠200) :
  DefS l f (oP l (Xu s) defs).2 (defs++[(oP l (Xu s) defs).1]) (pl++[s.at_]):=by
 have m1:=h.inn.is hi;have hd:=wT hT m1.pos defs;have h1:=h.cnt;have h2:=h.len;have h3:=h.pls;refine ⟨m1.go hd.adv (by omega) (by omega),?_,?_,?_⟩
 all_goals
  simp only [Zf,Zi,List.length_nil];omega
theorem Nn {a d:Int}:(dec (.agg [.int .i64 a,.list 3 [],.int .i64 d]):St6)=⟨a,[],d⟩:=Jb (c:=[])
theorem Nf {a d:Int}:V9 St6 (.agg [.int .i64 a,.list 3 [],.int .i64 d])=True:=Ja (c:=[])
def E4:Con:=Y0 (fun (l:Sl Tok) (_:List UInt8)=>Toks l.l) (fun l name=>(((Y2 l.l name).1,(Y2 l.l name).2.1,⟨(Y2 l.l name).2.2⟩):Mod6×St6×Sl Int))
structure Kfp:Prop
theorem Kfp.k (_:Kfp) (h:p:=by
 repeat' first|exact Z8|with_reducible apply Zb|intro _
 all_goals first|with_reducible exact Jd|omega|exact ⟨(f,i3,e3,imps++[x],k),by exact Qw,hL,hnx,by simp;omega,by omega⟩|rfl|trivial|(simp [Ji];done)|skip):p:=h
structure Kfq:Prop
theorem Kfq.k (_:Kfq) (h:p:=by
 repeat' first|exact Z8|with_reducible apply Zb|intro _
 all_goals first|with_reducible exact Jd|omega|rfl|trivial|(simp [Ji];done)|skip):p:=h
structure Kfr:Prop
theorem Kfr.k (_:Kfr) (h:p:=by
 repeat' first|exact Z8|with_reducible apply Zb|intro _
 all_goals first|with_reducible exact Jd|omega|exact ⟨(f,i3,e3,imps++[x],imps.length),by exact Qw,hL,hnx,by simp,by omega⟩|rfl|trivial|(simp [Ji];done)|skip):p:=h
structure Kft:Prop
theorem Kft.k (_:Kft) (h:p:=by
 repeat' first|exact Z8|with_reducible apply Zb|intro _
 all_goals first|with_reducible exact Jd|omega|rfl|trivial|(simp [Ji];done)|skip):p:=h
structure Kfu:Prop
theorem Kfu.k (_:Kfu) (h:p:=by
 repeat' first|exact Z8|with_reducible apply Zb|intro _
 all_goals first|with_reducible exact Jd|omega|exact n2|exact ⟨(f2,j3,ss3,g3,defs++[⟨dn,dt,de⟩],pl++[j]),by (have Km:=@X3;exact Qw),hL,hnx,by omega⟩|rfl|trivial|(simp [Ji];done)|skip):p:=h
structure Kfv:Prop
theorem Kfv.k (_:Kfv) (h:p:=by
 repeat' first|exact Z8|with_reducible apply Zb|intro _
 all_goals first|with_reducible exact Jd|omega|rfl|trivial|(simp [Ji];done)|skip):p:=h
structure Kfw:Prop
theorem Kfw.k (_:Kfw) (h:p:=by
 repeat' first|exact Z8|with_reducible apply Zb|intro _
 all_goals first|with_reducible exact Jd|omega|rfl|trivial|(simp [Ji];done)|skip):p:=h
structure Kfx:Prop
theorem Kfx.k (_:Kfx) (h:p:=by
 repeat' first|exact Z8|with_reducible apply Zb|intro _
 all_goals first|with_reducible exact Jd|omega|rfl|trivial|(simp [Ji];done)|skip):p:=h
structure Kfy:Prop
theorem Kfy.k (_:Kfy) (h:p:=by
 repeat' first|exact Z8|with_reducible apply Zb|intro _
 all_goals first|with_reducible exact Jd|omega|rfl|trivial|(simp [Ji];done)|skip):p:=h
structure Kfs:Prop
theorem Kfs.k (_:Kfs) (h:p:=by
 repeat' first|exact Z8|with_reducible apply Zb|intro _
 refine Zm [6,12,13,52,53,54,55,56,57,58,59,60,61,62,63,64,65,66,67,68,69,70,71,72,73,74,75,76,77,78,79,80,81,82,83,84,85] (fun p:Nat×Int×List Site×Int×List Def6×List Int=>[(9,.sl 17 (p.2.2.2.2.2.map (enc:Int→D)).length)]) (fun p:Nat×Int×List Site×Int×List Def6×List Int=>[(8,.box true [.d (.int .i64 p.2.1),.d (.list 3 (p.2.2.1.map enc)),.d (.int .i64 p.2.2.2.1)]),(7,.box true [.d (.str name),.sl 47 (imps.map (enc:List UInt8→D)).length,.sl 83 (p.2.2.2.2.1.map (enc:Def6→D)).length,.nils 3]),(83,.row 3 (p.2.2.2.2.1.map enc) (p.2.2.2.2.1.length-1)),(17,.row 1 (p.2.2.2.2.2.map enc) 0)]) (fun p:Nat×Int×List Site×Int×List Def6×List Int=>vP l p.1 ⟨p.2.1,p.2.2.1,p.2.2.2.1⟩ p.2.2.2.2.1 p.2.2.2.2.2=b∧DefS l p.1 ⟨p.2.1,p.2.2.1,p.2.2.2.1⟩ p.2.2.2.2.1 p.2.2.2.2.2) (fun p:Nat×Int×List Site×Int×List Def6×List Int=>p.1) (201,i,[],e,[],[]) ?_ ?_ ?_
 ·exact ⟨hb,hD0⟩
 ·exact Qw
 rintro ⟨f2,j,ss,g,defs,pl⟩ ⟨hL,hD⟩;simp only at hL hD;have hc2:=hD.cnt;have hl2:=hD.len;have hp2:=hD.pls;obtain ⟨f2,rfl⟩:∃ k,f2=k+1:=⟨f2-1,by omega⟩
 rw [vP] at hL;have n1:=hD.inn;have q1:=n1.nums;simp only at q1;cases Q6:Rh l ⟨j,ss,g⟩ 6 [100,101,102] with
 | true =>
  rw [if_neg (by rw [Q6];simp)] at hL
  by_cases h200:defs.length=200
  ·rw [if_pos h200] at hL;have Je:((defs.length:Int)==200)=true:=by rw [Zk];omega
   obtain ⟨⟨Wa,Ws,We⟩,Qh⟩:=exq (J0 ⟨j,ss,g⟩ 3);rw [Qh] at hL;subst hL;rw [if_pos rfl] at hR2;simp only at hR2;subst hR2;have Zz:=@Y0.eq_def;have Zy:=@X3;have Qd:=@Y8;have Z1:=@Va;have Z0:=@Ji;have Qi:=@Q7;have Qk:=@Q9;have Qs:=@T1;have Q8:=@Ee;have Q5:=@Nn;have Qy:=@Nf;have Kq:Kft:=⟨⟩;exact Mi
  ·rw [if_neg h200] at hL;have Je:((defs.length:Int)==200)=false:=by rw [Za];omega
   have hnx:=hD.next hT Q6 h200;have hadv:Xu ⟨j,ss,g⟩=⟨j+1,ss,g⟩:=rfl;have n2:=n1.is Q6;rw [hadv] at hL hnx n2;obtain ⟨⟨d,⟨j3,ss3,g3⟩⟩,Qf⟩:=exq (oP l ⟨j+1,ss,g⟩ defs);rw [Qf] at hL hnx;simp only at hL hnx;obtain ⟨dn,dt,de⟩:=d;have Zz:=@Y0.eq_def;have Zy:=@X3;have Qd:=@Y8;have Z1:=@Va;have Z0:=@Ji;have Qi:=@Q7;have Qk:=@Q9;have Qs:=@T1;have Q8:=@Ee;have Q5:=@Nn;have Qy:=@Nf;have Kq:Kfu:=⟨⟩;exact Mi
 | false =>
  rw [if_pos Q6] at hL;subst hL;rw [if_neg (by simp)] at hR2
  simp only at hR2;rw [(nC l ⟨j,ss,g⟩).2.1] at hR2;simp only at hR2;obtain ⟨⟨Wa,Ws,We⟩,Qh⟩:=exq (J0 ⟨j,ss,g⟩ 2);have hWs:=(Cy ⟨j,ss,g⟩ 2).2;rw [Qh] at hWs;simp only at hWs;subst hWs;unfold nD at hR2;rw [Qh] at hR2;obtain ⟨j,rfl⟩:∃ n:Nat,j=n:=⟨j.toNat,by omega⟩
  simp only [Gm] at hR2;by_cases hg:g=0
  case neg =>
   rw [if_neg (fun h=>hg h.1)] at hR2;have Q4:(g==0)=false:=by rw [Za];exact hg
   subst hR2;have Zz:=@Y0.eq_def;have Zy:=@X3;have Qd:=@Y8;have Z1:=@Va;have Z0:=@Ji;have Qi:=@Q7;have Qk:=@Q9;have Qs:=@T1;have Q8:=@Ee;have Q5:=@Nn;have Qy:=@Nf;have Kq:Kfv:=⟨⟩;exact Mi
  subst hg;have Q4:((0:Int)==0)=true:=rfl;rcases Zo j l.length with ⟨hlt,hlb⟩|⟨hlt,hlb⟩
  rotate_left
  ·rw [if_pos ⟨rfl,.inl (by omega)⟩] at hR2
   have Zu:Xf (l.length:Int) (j:Int)=true:=by rw [Qx];omega
   subst hR2;have Zz:=@Y0.eq_def;have Zy:=@X3;have Qd:=@Y8;have Z1:=@Va;have Z0:=@Ji;have Qi:=@Q7;have Qk:=@Q9;have Qs:=@T1;have Q8:=@Ee;have Q5:=@Nn;have Qy:=@Nf;have Kq:Kfw:=⟨⟩;exact Mi
  have Zu:Xf (l.length:Int) (j:Int)=false:=by rw [←Bool.not_eq_true,Qx];omega
  have Zx:=Zr Ue hlt;obtain ⟨t,ht⟩:=exq (l.getD j Ue);rw [ht] at Zx hR2;by_cases hk0:t.kind=0
  ·rw [if_neg (fun h=>by rcases h.2 with h|h;omega;exact h hk0)] at hR2
   have Zw:(t.kind != 0)=false:=by rw [bne_eq_false_iff_eq];exact hk0
   subst hR2;have Zz:=@Y0.eq_def;have Zy:=@X3;have Qd:=@Y8;have Z1:=@Va;have Z0:=@Ji;have Qi:=@Q7;have Qk:=@Q9;have Qs:=@T1;have Q8:=@Ee;have Q5:=@Nn;have Qy:=@Nf;have Kq:Kfx:=⟨⟩;exact Mi
  ·rw [if_pos ⟨rfl,.inr hk0⟩] at hR2;have Zw:(t.kind != 0)=true:=bne_iff_ne.2 hk0;subst hR2;have Zz:=@Y0.eq_def;have Zy:=@X3;have Qd:=@Y8;have Z1:=@Va;have Z0:=@Ji;have Qi:=@Q7;have Qk:=@Q9;have Qs:=@T1;have Q8:=@Ee;have Q5:=@Nn;have Qy:=@Nf;have Kq:Kfy:=⟨⟩;exact Mi):p:=h
structure Kfo:Prop
theorem Kfo.k (_:Kfo) (h:p:=by
 repeat' first|exact Z8|with_reducible apply Zb|intro _
 refine Zm [6,10,11,18,19,20,21,22,23,24,25,26,27,28,29,30,31,32,33,34,35,36,37,38,39,40,41,42,43,44,45,46,47,48,49,50,51] (fun p:Nat×Int×Int×List (List UInt8)×Nat=>[]) (fun p:Nat×Int×Int×List (List UInt8)×Nat=>[(8,.box true [.d (.int .i64 p.2.1),.d (.list 3 []),.d (.int .i64 p.2.2.1)]),(7,.box true [.d (.str name),.sl 47 (p.2.2.2.1.map (enc:List UInt8→D)).length,.nils 3,.nils 3]),(47,.row 1 (p.2.2.2.1.map enc) p.2.2.2.2)]) (fun p:Nat×Int×Int×List (List UInt8)×Nat=>Znv l p.1 ⟨p.2.1,[],p.2.2.1⟩ p.2.2.2.1=a∧ImpS l p.1 ⟨p.2.1,[],p.2.2.1⟩ p.2.2.2.1∧p.2.2.2.2≤p.2.2.2.1.length) (fun p:Nat×Int×Int×List (List UInt8)×Nat=>p.1) (l.length+1,0,0,[],0) ?_ ?_ ?_
 ·exact ⟨ha,hI0,by simp⟩
 ·exact Qw
 rintro ⟨f,i,e,imps,k⟩ ⟨hL,hI,hk⟩;simp only at hL hI hk;have hf:=hI.fuel;obtain ⟨f,rfl⟩:∃ k,f=k+1:=⟨f-1,by omega⟩
 rw [Znv] at hL;have m1:=Qbo hT hI.pos hI.sites;have o1:=m1.nums;have hcn:=hI.cnt;simp only at o1;cases Qb:Rh l ⟨i,[],e⟩ 6 [105,109,112,111,114,116] with
 | true =>
  rw [if_neg (by rw [Qb];simp)] at hL
  have hnx:=hI.next hT Qb;have hadv:Xu ⟨i,[],e⟩=⟨i+1,[],e⟩:=rfl;have m2:=m1.is Qb;rw [hadv] at hL hnx m2;have o2:=m2.nums;simp only at o2;have m3:=m2.named 1;have hs2:=Ar l ⟨i+1,[],e⟩ 1;obtain ⟨⟨x,⟨i2,s2,e2⟩⟩,Qf⟩:=exq (Jk l ⟨i+1,[],e⟩ 1);rw [Qf] at hL hnx m3 hs2;simp only at hL hnx m3 hs2;subst hs2;have o3:=m3.nums;simp only at o3;have hs3:=Ao l ⟨i2,[],e2⟩ 5 [59];obtain ⟨⟨i3,s3,e3⟩,Z9⟩:=exq (Qq l ⟨i2,[],e2⟩ 5 [59]);rw [Z9] at hL hnx hs3;simp only at hs3;subst hs3;by_cases he2:e2=0
  case neg =>
   rw [if_neg (fun h=>he2 h.1)] at hL;have Qe:(e2==0)=false:=by rw [Za];exact he2
   have Zz:=@Y0.eq_def;have Zy:=@X3;have Qd:=@Y8;have Z1:=@Va;have Z0:=@Ji;have Qi:=@Q7;have Qk:=@Q9;have Qs:=@T1;have Q8:=@Ee;have Q5:=@Nn;have Qy:=@Nf;have Kq:Kfp:=⟨⟩;exact Mi
  subst he2;have Qe:((0:Int)==0)=true:=rfl;cases Qc:in6 imps x with
  | true =>
   rw [if_pos ⟨rfl,Qc⟩] at hL;obtain ⟨⟨Wa,Ws,We⟩,Qh⟩:=exq (J0 ⟨i+1,[],e⟩ 7);rw [Qh] at hL;subst hL;rw [if_pos rfl] at hR2;simp only at hR2;subst hR2;have Zz:=@Y0.eq_def;have Zy:=@X3;have Qd:=@Y8;have Z1:=@Va;have Z0:=@Ji;have Qi:=@Q7;have Qk:=@Q9;have Qs:=@T1;have Q8:=@Ee;have Q5:=@Nn;have Qy:=@Nf;have Kq:Kfq:=⟨⟩;exact Mi
  | false =>
   rw [if_neg (fun h=>by rw [Qc] at h;simp at h)] at hL
   have Zz:=@Y0.eq_def;have Zy:=@X3;have Qd:=@Y8;have Z1:=@Va;have Z0:=@Ji;have Qi:=@Q7;have Qk:=@Q9;have Qs:=@T1;have Q8:=@Ee;have Q5:=@Nn;have Qy:=@Nf;have Kq:Kfr:=⟨⟩;exact Mi
 | false =>
  rw [if_pos Qb] at hL;subst hL;rw [if_neg (by simp)] at hR2
  simp only at hR2;obtain ⟨b,hb⟩:=exq (vP l 201 ⟨i,[],e⟩ [] []);rw [hb] at hR2;have hD0:DefS l 201 ⟨i,[],e⟩ [] []:=⟨m1,rfl,by simp,rfl⟩
  clear hI;have Zz:=@Y0.eq_def;have Zy:=@X3;have Qd:=@Y8;have Z1:=@Va;have Z0:=@Ji;have Qi:=@Q7;have Qk:=@Q9;have Qs:=@T1;have Q8:=@Ee;have Q5:=@Nn;have Qy:=@Nf;have Kq:Kfs:=⟨⟩;exact Mi):p:=h
theorem good_module6:Qa Tryz.prog (104,E4):=by
 obtain ⟨Kx,Kt,Kc,Kd,Kb,Ku,Kw,K,X9,Uv,Po,Cx,Oj,kK,_⟩:=Xe Zv Zn [] false (Q0 S7 dY (Q0 Us N7 (Q0 good_in6 cJ.eq_def (Q0 Kk Sv (Q0 Ky Pp (Q0 good_def6 jL.eq_def Xd))))));have Ko:=E4.eq_def;refine Xj K Tryz.func104 [.cell 4 43,.cell 5 137,.tmp 6] rfl 113 rfl (fun c hc cvs hpre=>?_);unfold E4 at hpre;obtain ⟨⟨l⟩,name,rfl,hT⟩:=fE hpre;simp only at hT;clear hpre;have hll:=hT.len;obtain ⟨R,Qn⟩:=exq (Y2 l name);have hR2:=Qn;unfold Y2 at hR2;simp only at hR2;obtain ⟨a,ha⟩:=exq (Znv l (l.length+1) ⟨0,[],0⟩ []);rw [ha] at hR2;have hI0:ImpS l (l.length+1) ⟨0,[],0⟩ []:=⟨⟨by simp,by simp⟩,rfl,fun _=>by simp,by simp,fun x hx=>(by cases hx),by omega⟩
 cases hc;refine Y4 7 ?_;have Zz:=@Y0.eq_def;have Zy:=@X3;have Qd:=@Y8;have Z1:=@Va;have Z0:=@Ji;have Qi:=@Q7;have Qk:=@Q9;have Qs:=@T1;have Q8:=@Ee;have Q5:=@Nn;have Qy:=@Nf;have Kq:Kfo:=⟨⟩;exact Mi
theorem wF {s:List UInt8} (h:s.length≤1500):Toks (Pr s).1∧(Pr s).1.length≤1501:=by
 have hlen:(Pr s).1.length≤1501:=by
  unfold Pr;split
  ·simp
  ·have hb:=aM (s:=s) (i:=0) (by omega)
   obtain ⟨h1,h2,h3⟩:=kI (s:=s) (by omega) (s.length+1) (I6 s 0) [] (fun t ht=>by cases ht) hb.2 (by simp)
   omega
 exact ⟨⟨by omega,(Zl1 s).1⟩,hlen⟩
def Zr7 (defs:List Def6):Nat:=defs.findIdx fun d=>!Uw d.e
def Ts (name text:List UInt8):Mod6×Int×Int :=
 let t:=Pr text
 if t.2.2≠0 then (Jx,t.2.1,t.2.2)
 else
  let r:=Y2 t.1 name
  if r.2.1.e≠0 then (Jx,(tk t.1 (Zvl r.2.1.at_ (t.1.length-1))).frm,r.2.1.e)
  else if Zr7 r.1.defs<r.1.defs.length then (Jx,(tk t.1 (r.2.2.getD (Zr7 r.1.defs) 0)).frm,4)
  else (r.1,0,0)
def Im:Con:=Y0 (fun (_ text:List UInt8)=>text.length≤1500) (fun name text=>Ts name text)
theorem Zwa {p:Part} (h:Rz p):Qd0 p:=by
 obtain ⟨⟨h1,h2⟩,⟨h3,h4⟩,h5,h6,h7⟩:=h;exact ⟨⟨⟨by omega,h2⟩,⟨by omega,h4⟩,by omega,by omega,by omega⟩,by omega⟩
structure KfA:Prop
theorem KfA.k (_:KfA) (h:p:=by
 repeat' first|exact Z8|with_reducible apply Zb|intro _
 all_goals first|with_reducible exact Jd|omega|exact hef|exact ⟨k+1,by exact Qw,by omega,hst,by omega⟩|skip):p:=h
structure Kfz:Prop
theorem Kfz.k (_:Kfz) (h:p:=by
 repeat' first|exact Z8|with_reducible apply Zb|intro _
 refine Zm [5,6,48,49,50,51,52,53,54,55,56,57,58,59,60,61,62,63,64,65,66,67,68,69,70,71] (fun k:Nat=>[(13,.d (.int .i64 k))]) (fun k:Nat=>[]) (fun k:Nat=>k≤md.length∧∀ j,j<k→Uw (md.getD j J3).e=true) (fun k:Nat=>md.length-k) 0 ?_ ?_ ?_
 ·exact ⟨by omega,fun j hj=>absurd hj (Nat.not_lt_zero j)⟩
 ·exact Qw
 rintro k ⟨Qh,hno⟩;rcases Zo k md.length with ⟨hlt,Q6⟩|⟨hlt,Q6⟩
 ·have Qn:=Zr J3 hlt;have hbk:=hbad k hlt hno;have hst:Uw (md.getD k J3).e=true→∀ j,j<k+1→Uw (md.getD j J3).e=true:=fun h=>K6 hno h;have hfk:=hfit (md.getD k J3) (by simp [hlt])
  obtain ⟨y,hy⟩:=exq (md.getD k J3);rw [hy] at Qn hbk hst hfk;have hel:y.e.length≤9223372036854775807:=by have:=hfk.e;omega
  have hef:∀ p∈y.e,Qd0 p:=fun p hp=>Zwa (hfk.fit p hp);cases Zu:Uw y.e with
  | false =>
   have hbk:=hbk Zu;rw [hbk,if_pos hlt] at hR2;have hplk:k<pl.length:=by omega
   have Je:=Zr (0:Int) hplk;have hpk:=hpr (pl.getD k 0) (by simp [hplk])
   obtain ⟨x,hx⟩:=exq (pl.getD k 0);rw [hx] at Je hpk hR2;obtain ⟨x,rfl⟩:∃ n:Nat,x=n:=⟨x.toNat,by omega⟩
   simp only [Gm] at hR2;have Q4:=Zr Ue (show x<l.length by omega)
   obtain ⟨t,ht⟩:=exq (l.getD x Ue);rw [ht] at Q4 hR2;subst hR2;clear hno hfit hok hpr hgood;have Zx:=@Y0.eq_def;have Zw:=@Jx.eq_def;have Zz:=@jY;have Zy:=@Ji;have Qd:=@Q7;have Z1:=@Q9;have Z0:=@Ee;have Qi:=@T1;exact Ol
  | true =>
   have hst:=hst Zu;clear hno hfit hok hpr hgood hbk;have Zx:=@Y0.eq_def;have Zw:=@jY;have Zz:=@Ji;have Zy:=@Q7;have Qd:=@Q9;have Z1:=@Ee;have Z0:=@T1;have Kq:KfA:=⟨⟩;exact Mi
 ·have hke:k=md.length:=by omega
  rw [hke] at hno Q6;rw [if_neg (hgood hno)] at hR2;subst hR2;clear hno hfit hok hpr hgood;have Zx:=@Y0.eq_def;have Zw:=@Ji;have Zz:=@Q7;have Zy:=@Q9;have Qd:=@Ee;have Z1:=@T1;exact Ol):p:=h
theorem good_Parse6:Qa Tryz.prog (58,Im):=by
 obtain ⟨Kx,Kt,Kc,Kd,Kb,Ku,Kw,K,X9,Uv,Po,_⟩:=Xe Zv Zn [] false (Q0 good_Tokens2 E8.eq_def (Q0 good_module6 E4.eq_def (Q0 good_Right5 Ii.eq_def Xd)));have Ko:=Im.eq_def;refine Xj K Tryz.func58 [.cell 4 43,.tmp 5,.tmp 6] rfl 73 rfl (fun c hc cvs hpre=>?_);unfold Im at hpre;obtain ⟨name,text,rfl,htx⟩:=fE hpre;clear hpre;obtain ⟨R,Z9⟩:=exq (Ts name text);have hR2:=Z9;unfold Ts at hR2;simp only at hR2;obtain ⟨hT,hTl⟩:=wF htx;have h1l:=(Zl1 text).2.2;obtain ⟨⟨l,at1,e1⟩,Qb⟩:=exq (Pr text);rw [Qb] at hR2 hT hTl h1l;simp only at hR2 hT hTl h1l;have htx2:text.length≤9223372036854775807:=by omega
 have hll:l.length≤9223372036854775807:=by omega
 by_cases he1:e1=0
 case neg =>
  rw [if_pos he1] at hR2;have Qf:(e1 != 0)=true:=bne_iff_ne.2 he1;subst hR2;cases hc;refine Y4 4 ?_;have Zx:=@Y0.eq_def;have Zw:=@Jx.eq_def;have Zz:=@Ji;have Zy:=@Q7;have Qd:=@Q9;have Z1:=@Ee;exact Ol
 rw [if_neg (by simpa using he1)] at hR2
 have Qf:(e1 != 0)=false:=by rw [bne_eq_false_iff_eq];exact he1
 have h1l:=h1l he1;obtain ⟨hP,hdl,hfit,hok⟩:=rG hT name;obtain ⟨⟨m,⟨i2,ss2,e2⟩,pl⟩,Qe⟩:=exq (Y2 l name);rw [Qe] at hR2 hP hdl hfit hok;simp only at hR2 hP hdl hfit hok;have hlo:=hP.lo;have hhi:=hP.hi;simp only at hlo hhi;by_cases he2:e2=0
 case neg =>
  rw [if_pos he2] at hR2;have Qc:(e2 != 0)=true:=bne_iff_ne.2 he2;obtain ⟨k,Qh,hkl⟩:∃ k:Nat,Zvl i2 ((l.length:Int)-1)=k∧k<l.length:=by
   refine ⟨(Zvl i2 ((l.length:Int)-1)).toNat,?_,?_⟩<;>unfold Zvl<;>split<;>omega
  have Qn:=Zr Ue hkl;rw [Qh] at hR2;simp only [Gm] at hR2;obtain ⟨t,ht⟩:=exq (l.getD k Ue);rw [ht] at Qn hR2;subst hR2;cases hc;refine Y4 4 ?_;have Zx:=@Y0.eq_def;have Zw:=@Jx.eq_def;have Zz:=@Ji;have Zy:=@Q7;have Qd:=@Q9;have Z1:=@Ee;exact Ol
 rw [if_neg (by simpa using he2)] at hR2
 have Qc:(e2 != 0)=false:=by rw [bne_eq_false_iff_eq];exact he2
 obtain ⟨hM,hpl,hpr⟩:=hok he2;obtain ⟨mn,mi,md,ms⟩:=m;simp only at hR2 hdl hfit hpl;have hbad:∀ k,k<md.length→(∀ j,j<k→Uw (md.getD j J3).e=true)→Uw (md.getD k J3).e=false→Zr7 md=k:=fun k Qh h1 h2=>by
  unfold Zr7;rw [List.findIdx_eq Qh];refine ⟨?_,fun j hj=>?_⟩
  ·simpa [Qh] using h2
  ·have:=h1 j hj;simpa [show j<md.length by omega] using this
 have hgood:(∀ j,j<md.length→Uw (md.getD j J3).e=true)→¬ Zr7 md<md.length:=fun h1 h2=>by
  unfold Zr7 at h2;have h3:=List.findIdx_getElem (w:=h2);have h4:=h1 _ h2;simp [h2] at h4;simp [h4] at h3
 cases hc;refine Y4 4 ?_;have Zx:=@Y0.eq_def;have Zw:=@Ji;have Zz:=@Q7;have Zy:=@Q9;have Qd:=@X3;have Z1:=@Y8;have Z0:=@Va;have Qi:=@Ee;have Qk:=@T1;have Kq:Kfz:=⟨⟩;exact Mi
end Go.Am.Ty
namespace Go.Am.Ty.Gr
open Go.Proofs
open Enc (enc dec)
abbrev Lo (n:Nat):Prop:=n≤9223372036854775807
theorem Zue {p:Nat→Prop} {k:Nat} (h:∀ j,j<k→p j) (hk:p k):∀ j,j<k+1→p j:=fun j hj=>by
 rcases Nat.lt_or_ge j k with h1|h1
 ·exact h j h1
 ·have:j=k:=by omega
  exact this▸hk
def Zpp (l:List Int) (n:Int):Bool:=l.any fun x=>x==n
def aE:Con:=Xc (fun (l:Sl Int) (_:Int)=>Lo l.l.length) (fun l n=>Zpp l.l n)
structure KfC:Prop
theorem KfC.k (_:KfC) (h:p:=by
 repeat' first|exact Z8|with_reducible apply Zb|intro _
 all_goals first|with_reducible exact Jd|omega|exact ⟨k+1,by exact Qw,by omega,h2,by omega⟩|skip):p:=h
structure KfB:Prop
theorem KfB.k (_:KfB) (h:p:=by
 repeat' first|exact Z8|with_reducible apply Zb|intro _
 refine Zm [4,6,7,8,9,10,11,12,13,14,15,16,17] (fun k:Nat=>[(5,.d (.int .i64 k))]) (fun k:Nat=>[]) (fun k:Nat=>k≤l.length∧∀ j,j<k→l.getD j 0≠n) (fun k:Nat=>l.length-k) 0 ?_ ?_ ?_
 ·simp
 ·exact Qw
 rintro k ⟨hk,hno⟩;rcases Zo k l.length with ⟨hlt,Qb⟩|⟨hlt,Qb⟩
 ·have Qf:=Zr (0:Int) hlt;have hst:l.getD k 0≠n→∀ j,j<k+1→l.getD j 0≠n:=by
   intro h j hj;by_cases e:j=k
   ·subst e;exact h
   ·exact hno j (by omega)
  have hit:(l.getD k 0==n)=true→Zpp l n=true:=fun h=>Ix 0 k hlt h;obtain ⟨x,hx⟩:=exq (l.getD k 0);rw [hx] at Qf hst hit;cases Z9:(x==n) with
  | true =>
   have Qe:=hit Z9;exact Ol
  | false =>
   have h2:=hst (by simpa using Z9)
   have Kq:KfC:=⟨⟩;exact Mi
 ·have Qe:Zpp l n=false:=Su 0 fun j hj=>Za.2 (hno j (by omega))
  exact Qg7):p:=h
theorem good_In08:Qa Tryz.prog (89,aE):=by
 obtain ⟨Kx,Kt,Kc,Kd,Kb,Ku,Kw,K,_⟩:=Xe Zv Zn [] false Xd;have Ko:=aE.eq_def;refine Xj K Tryz.func89 [.tmp 4] rfl 18 rfl (fun c hc cvs hpre=>?_);unfold aE at hpre;obtain ⟨⟨l⟩,n,rfl,hl⟩:=Ql hpre;simp only at hl;cases hc;have Kq:KfB:=⟨⟩;exact Mi
abbrev V2:=Mod6
theorem R0:Sz.sz V2=4:=rfl
theorem Yd {m:V2}:(enc m:D)=.agg [.str m.name,.list 1 (m.imps.map enc),.list 3 (m.defs.map enc),.list 3 (m.sites.map enc)]:=rfl
def m0:V2:=⟨[],[],[],[]⟩
abbrev nm (l:List V2) (k:Nat):List UInt8:=(l.getD k m0).name
def Wt:List V2→List UInt8→Option Nat
 | [],_=>none
 | m::l,s=>if m.name=s then some 0 else (Wt l s).map (·+1)
def Ww (l:List V2) (s:List UInt8):Int:=match Wt l s with
 | some k=>k
 | none=>-1
theorem Zoh:∀ {l:List V2} {s:List UInt8} {k:Nat},k<l.length→(∀ j,j<k→nm l j≠s)→nm l k=s→Wt l s=some k
 | [],s,k,h,_,_=>by simp at h
 | m::l,s,0,_,_,h=>by
  simp only [nm,List.getD_cons_zero] at h;simp [Wt,h]
 | m::l,s,k+1,h,hno,hk=>by
  have h0:=hno 0 (by omega)
  simp only [nm,List.getD_cons_zero] at h0;rw [Wt,if_neg h0,Zoh (k:=k) (by simpa using h) (fun j hj=>by
   have:=hno (j+1) (by omega)
   simpa [nm] using this) (by simpa [nm] using hk)]
  rfl
theorem sT:∀ {l:List V2} {s:List UInt8},(∀ j,j<l.length→nm l j≠s)→Wt l s=none
 | [],s,_=>rfl
 | m::l,s,hno=>by
  have h0:=hno 0 (by simp)
  simp only [nm,List.getD_cons_zero] at h0;rw [Wt,if_neg h0,sT fun j hj=>by
   have:=hno (j+1) (by simpa using hj)
   simpa [nm] using this]
  rfl
theorem Zze {l:List V2} {s:List UInt8} {k:Nat} (h:k<l.length) (hno:∀ j,j<k→nm l j≠s) (hk:nm l k=s):Ww l s=k:=by
 rw [Ww,Zoh h hno hk]
theorem Zrm {l:List V2} {s:List UInt8} (hno:∀ j,j<l.length→nm l j≠s):Ww l s=-1:=by
 rw [Ww,sT hno]
def C8:Con:=Xc (fun (l:Sl V2) (_:List UInt8)=>Lo l.l.length) (fun l s=>Ww l.l s)
structure KfE:Prop
theorem KfE.k (_:KfE) (h:p:=by
 repeat' first|exact Z8|with_reducible apply Zb|intro _
 all_goals first|with_reducible exact Jd|omega|exact ⟨k+1,by exact Qw,by omega,h2,by omega⟩|skip):p:=h
structure KfD:Prop
theorem KfD.k (_:KfD) (h:p:=by
 repeat' first|exact Z8|with_reducible apply Zb|intro _
 refine Zm [4,6,7,8,9,10,11,12,13,14,15,16,17,18,19] (fun k:Nat=>[(5,.d (.int .i64 k))]) (fun k:Nat=>[]) (fun k:Nat=>k≤l.length∧∀ j,j<k→nm l j≠s) (fun k:Nat=>l.length-k) 0 ?_ ?_ ?_
 ·simp
 ·exact Qw
 rintro k ⟨hk,hno⟩;rcases Zo k l.length with ⟨hlt,Qb⟩|⟨hlt,Qb⟩
 ·have Qf:=Zr m0 hlt;have hst:nm l k≠s→∀ j,j<k+1→nm l j≠s:=fun h=>Zue hno h;have hit:nm l k=s→Ww l s=k:=fun h=>Zze hlt hno h;unfold nm at hst hit;obtain ⟨x,hx⟩:=exq (l.getD k m0);rw [hx] at Qf hst hit;cases Z9:(x.name==s) with
  | true =>
   have Qe:=hit (by simpa using Z9)
   have Qc:=@Yd;have Qh:=@Q7;have Qn:=@Q9;have Q6:=@R0;exact Ol
  | false =>
   have h2:=hst (by simpa using Z9)
   have Qc:=@Yd;have Qh:=@Q7;have Qn:=@Q9;have Q6:=@R0;have Kq:KfE:=⟨⟩;exact Mi
 ·have Qe:Ww l s=-1:=Zrm fun j hj=>hno j (by omega)
  have Qc:=@R0;exact Qg7):p:=h
theorem good_find8:Qa Tryz.prog (86,C8):=by
 obtain ⟨Kx,Kt,Kc,Kd,Kb,Ku,Kw,K,_⟩:=Xe Zv Zn [] false Xd;have Ko:=C8.eq_def;refine Xj K Tryz.func86 [.tmp 4] rfl 20 rfl (fun c hc cvs hpre=>?_);unfold C8 at hpre;obtain ⟨⟨l⟩,s,rfl,hl⟩:=Ql hpre;simp only at hl;cases hc;have Kq:KfD:=⟨⟩;exact Mi
abbrev imp (l:List V2) (k:Nat):List (List UInt8):=(l.getD k m0).imps
def Zw6 (l:List V2):Prop:=l.length≤20∧∀ k,(imp l k).length≤2000
theorem Za9 {l:List V2} (h:Zw6 l):l.length≤20:=h.1
theorem Zba {l:List V2} (h:Zw6 l) (k:Nat):(imp l k).length≤2000:=h.2 k
theorem Ta:∀ {l:List V2} {s:List UInt8} {k:Nat},Wt l s=some k→k<l.length
 | [],s,k,h=>by simp [Wt] at h
 | m::l,s,k,h=>by
  rw [Wt] at h;by_cases hm:m.name=s
  ·rw [if_pos hm] at h;injection h with h
   subst h;simp
  ·rw [if_neg hm] at h;cases hf:Wt l s with
   | none=>rw [hf] at h;cases h
   | some j =>
    rw [hf] at h;simp only [Option.map_some,Zc] at h;have:=Ta hf;simp only [Zi];omega
def Ai (l:List V2) (i:Int) (come:List Int):Bool:=(imp l i.toNat).all fun s=>Zpp come (Ww l s)
def A8:Con:=Vp (fun (l:Sl V2) (i:Int) (c:Sl Int)=>Zw6 l.l∧0≤i∧i<l.l.length∧Lo c.l.length) (fun l i c=>Ai l.l i c.l)
structure KfG:Prop
theorem KfG.k (_:KfG) (h:p:=by
 repeat' first|exact Z8|with_reducible apply Zb|intro _
 all_goals first|with_reducible exact Jd|omega|exact ⟨k+1,by exact Qw,by omega,hs,by omega⟩|skip):p:=h
structure KfF:Prop
theorem KfF.k (_:KfF) (h:p:=by
 repeat' first|exact Z8|with_reducible apply Zb|intro _
 refine Zm [6,8,9,10,11,12,13,14,15,16,17,18,19,20,21,22,23,24,25,26,27,28,29,30] (fun k:Nat=>[(7,.d (.int .i64 k))]) (fun k:Nat=>[]) (fun k:Nat=>k≤x.imps.length∧∀ j,j<k→Zpp c0 (Ww l (x.imps.getD j []))=true) (fun k:Nat=>x.imps.length-k) 0 ?_ ?_ ?_
 ·simp
 ·exact Qw
 rintro k ⟨hk,hno⟩;rcases Zo k x.imps.length with ⟨hlt,Qb⟩|⟨hlt,Qb⟩
 ·have Z9:=Zr ([]:List UInt8) hlt;have hst:Zpp c0 (Ww l (x.imps.getD k []))=true→∀ j,j<k+1→Zpp c0 (Ww l (x.imps.getD j []))=true:=fun h=>Zue hno h;have hbad:Zpp c0 (Ww l (x.imps.getD k []))=false→R=false:=fun h=>by
   rw [←hR2];exact Cw (p:=fun s=>Zpp c0 (Ww l s)) [] k hlt h
  obtain ⟨y,hy⟩:=exq (x.imps.getD k []);rw [hy] at Z9 hst hbad;cases Qe:Zpp c0 (Ww l y) with
  | true =>
   have hs:=hst Qe;have Qh:=@Yd;have Qn:=@Q7;have Q6:=@Q9;have Je:=@R0;have Kq:KfG:=⟨⟩;exact Mi
  | false =>
   have hr:=hbad Qe;subst hr;have Qh:=@Yd;have Qn:=@Q7;have Q6:=@Q9;have Je:=@R0;exact Ol
 ·have hr:R=true:=by
   rw [←hR2];exact N6 (p:=fun s=>Zpp c0 (Ww l s)) [] fun j hj=>hno j (by omega)
  subst hr;have Qh:=@Yd;have Qn:=@Q7;have Q6:=@Q9;have Je:=@R0;exact Ol):p:=h
theorem good_ready8:Qa Tryz.prog (90,A8):=by
 obtain ⟨Kx,Kt,Kc,Kd,Kb,Ku,Kw,K,X9,Uv,_⟩:=Xe Zv Zn [] false (Q0 good_find8 C8.eq_def (Q0 good_In08 aE.eq_def Xd));have Ko:=A8.eq_def;refine Xj K Tryz.func90 [.tmp 6] rfl 31 rfl (fun c hc cvs hpre=>?_);unfold A8 at hpre;obtain ⟨⟨l⟩,i,⟨c0⟩,rfl,hf,hi0,hil,hcl⟩:=Vb hpre;simp only at hf hi0 hil hcl;clear hpre;obtain ⟨n,rfl⟩:=Int.eq_ofNat_of_zero_le hi0;have hl20:=Za9 hf;have hi20:=Zba hf n;have hnl:n<l.length:=by omega
 have Qf:=Zr m0 hnl;obtain ⟨R,Qc⟩:=exq (Ai l n c0);have hR2:=Qc;unfold Ai at hR2;rw [Zj] at hR2;unfold imp at hR2 hi20;obtain ⟨x,hx⟩:=exq (l.getD n m0);rw [hx] at Qf hR2 hi20;cases hc;have Kq:KfF:=⟨⟩;exact Mi
def bestN (l:List V2) (is:List Bool):Nat→Int
 | 0=>-1
 | k+1=>cond (is.getD k false&&(X4 (bestN l is k) 0||Op.bytesLess (nm l k) (nm l (bestN l is k).toNat))) (k:Int) (bestN l is k)
theorem Zo2 (l:List V2) (is:List Bool):∀ k,bestN l is k=-1∨(0≤bestN l is k∧bestN l is k<k)
 | 0=>.inl rfl
 | k+1=>by
  have ih:=Zo2 l is k;rw [bestN];cases is.getD k false&&(X4 (bestN l is k) 0||Op.bytesLess (nm l k) (nm l (bestN l is k).toNat)) with
  | true=>right;simp only [cond_true];omega
  | false=>simp only [cond_false];omega
def Ia:Con:=Xc (fun (l:Sl V2) (is:Sl Bool)=>l.l.length≤20∧is.l.length=l.l.length) (fun l is=>bestN l.l is.l l.l.length)
structure KfI:Prop
theorem KfI.k (_:KfI) (h:p:=by
 repeat' first|exact Z8|with_reducible apply Zb|intro _
 all_goals first|with_reducible exact Jd|omega|exact ⟨k+1,by rw [hb',hS];exact Qw,by omega,by omega⟩|skip):p:=h
structure KfJ:Prop
theorem KfJ.k (_:KfJ) (h:p:=by
 repeat' first|exact Z8|with_reducible apply Zb|intro _
 all_goals first|with_reducible exact Jd|omega|exact ⟨k+1,by rw [hb',hS1];exact Qw,by omega,by omega⟩|skip):p:=h
structure KfK:Prop
theorem KfK.k (_:KfK) (h:p:=by
 repeat' first|exact Z8|with_reducible apply Zb|intro _
 all_goals first|with_reducible exact Jd|omega|exact ⟨k+1,by rw [hb',hS];exact Qw,by omega,by omega⟩|skip):p:=h
structure KfL:Prop
theorem KfL.k (_:KfL) (h:p:=by
 repeat' first|exact Z8|with_reducible apply Zb|intro _
 all_goals first|with_reducible exact Jd|omega|exact ⟨k+1,by rw [hb',hS];exact Qw,by omega,by omega⟩|skip):p:=h
structure KfH:Prop
theorem KfH.k (_:KfH) (h:p:=by
 repeat' first|exact Z8|with_reducible apply Zb|intro _
 refine Zm [7,8,9,10,11,12,13,14,15,16,17,18,19,20,21,22,23,24,25,26,27,28,29,30,31,32,33,34] (fun k:Nat=>[(5,.d (.int .i64 (bestN l is k))),(6,.d (.int .i64 k))]) (fun k:Nat=>[]) (fun k:Nat=>k≤l.length) (fun k:Nat=>l.length-k) 0 ?_ ?_ ?_
 ·simp
 ·have Km:=@bestN.eq_1;exact Qw
 rintro k hk;rcases Zo k l.length with ⟨hlt,Qb⟩|⟨hlt,Qb⟩
 ·have Qf:=Zr m0 hlt;have Z9:=Zr false (show k<is.length by omega)
  have hB:=Zo2 l is k;have hS:bestN l is (k+1)=cond (is.getD k false&&(X4 (bestN l is k) 0||Op.bytesLess (nm l k) (nm l (bestN l is k).toNat))) (k:Int) (bestN l is k):=rfl;obtain ⟨b,hb⟩:=exq (bestN l is k);obtain ⟨b',hb'⟩:=exq (bestN l is (k+1));rw [hb] at hB;rw [hb,hb'] at hS;rw [hb];unfold nm at hS;obtain ⟨x,hx⟩:=exq (l.getD k m0);rw [hx] at Qf hS;cases hk1:is.getD k false with
  | false =>
   rw [hk1] at Z9 hS;simp only [Bool.false_and,cond_false] at hS;have Q6:=@Yd;have Je:=@Q7;have Q4:=@Q9;have Zu:=@R0;have Kq:KfI:=⟨⟩;exact Mi
  | true =>
   rw [hk1] at Z9 hS;simp only [Bool.true_and] at hS;rcases hB with hB|⟨hB0,hBk⟩
   ·subst hB;have hS1:b'=k:=hS;have Q6:=@Yd;have Je:=@Q7;have Q4:=@Q9;have Zu:=@R0;have Kq:KfJ:=⟨⟩;exact Mi
   ·obtain ⟨p,rfl⟩:=Int.eq_ofNat_of_zero_le hB0;have Qe:=Zr m0 (show p<l.length by omega)
    have Qc:X4 (p:Int) 0=false:=by rw [Qv];omega
    rw [Zj] at hS;obtain ⟨y,hy⟩:=exq (l.getD p m0);rw [hy] at Qe hS;rw [Qc,Bool.false_or] at hS;cases Qh:Op.bytesLess x.name y.name with
    | true =>
     rw [Qh,cond_true] at hS;have Q6:=@Yd;have Je:=@Q7;have Q4:=@Q9;have Zu:=@R0;have Kq:KfK:=⟨⟩;exact Mi
    | false =>
     rw [Qh,cond_false] at hS;have Q6:=@Yd;have Je:=@Q7;have Q4:=@Q9;have Zu:=@R0;have Kq:KfL:=⟨⟩;exact Mi
 ·have Qn:k=l.length:=by omega
  rw [Qn];have Q6:=@R0;exact Ol):p:=h
theorem good_least8:Qa Tryz.prog (88,Ia):=by
 obtain ⟨Kx,Kt,Kc,Kd,Kb,Ku,Kw,K,_⟩:=Xe Zv Zn [] false Xd;have Ko:=Ia.eq_def;refine Xj K Tryz.func88 [.tmp 4] rfl 36 rfl (fun c hc cvs hpre=>?_);unfold Ia at hpre;obtain ⟨⟨l⟩,⟨is⟩,rfl,hl,his⟩:=Ql hpre;simp only at hl his;clear hpre;cases hc;refine Y4 2 ?_;have Kq:KfH:=⟨⟩;exact Mi
def Qak (l:List V2) (b:List Bool) (s:List UInt8):List Bool:=match Wt l s with
 | some n=>b.set n true
 | none=>b
def Tw (l:List V2) (b:List Bool) (ss:List (List UInt8)):List Bool:=ss.foldl (Qak l) b
def qY (l:List V2) (i:Int) (b:List Bool) (k:Nat):List Bool:=cond (((k:Int) != i)&&!b.getD k false) b (Tw l b (imp l k))
def U5 (l:List V2) (i:Int) (b:List Bool):Nat→List Bool
 | 0=>b
 | k+1=>qY l i (U5 l i b k) k
def Xy (l:List V2) (i:Int):Nat→List Bool
 | 0=>List.replicate l.length false
 | r+1=>U5 l i (Xy l i r) l.length
def J8 (l:List V2) (i:Int):List Bool:=Xy l i (l.length+1)
theorem Zs2 {l:List V2} {b:List Bool} {s:List UInt8}:(Qak l b s).length=b.length:=by
 unfold Qak;split<;>simp
theorem bW {l:List V2}:∀ {ss:List (List UInt8)} {b:List Bool},(Tw l b ss).length=b.length
 | [],b=>rfl
 | s::ss,b=>by
  show (Tw l (Qak l b s) ss).length=_;rw [bW,Zs2]
theorem rM {l:List V2} {b:List Bool} {ss:List (List UInt8)} {j:Nat} (h:j<ss.length):Tw l b (ss.take (j+1))=Qak l (Tw l b (ss.take j)) (ss.getD j []):=by
 unfold Tw;rw [List.take_succ_eq_append_getElem h,List.foldl_append];simp [h]
theorem Zpw {l:List V2} {i:Int} {b:List Bool} {k:Nat}:(qY l i b k).length=b.length:=by
 unfold qY;cases ((k:Int) != i)&&!b.getD k false
 ·rw [cond_false,bW]
 ·rfl
theorem Lj {l:List V2} {i:Int} {b:List Bool}:∀ k,(U5 l i b k).length=b.length
 | 0=>rfl
 | k+1=>by rw [U5,Zpw,Lj k]
theorem Yj {l:List V2} {i:Int}:∀ r,(Xy l i r).length=l.length
 | 0=>by simp [Xy]
 | r+1=>by rw [Xy,Lj,Yj r]
theorem Znf {b:List Bool} {n:Nat}:(b.map (enc:Bool→D)).set n (.bool true)=(b.set n true).map enc:=by
 rw [List.map_set];rfl
def Cd:Con:=Xc (fun (l:Sl V2) (_:Int)=>Zw6 l.l) (fun l i=>Sl.mk (J8 l.l i))
structure KfO:Prop
theorem KfO.k (_:KfO) (h:p:=by
 repeat' first|exact Z8|with_reducible apply Zb|intro _
 all_goals first|with_reducible exact Jd|omega|exact ⟨k+1,by rw [hb2,hnx1];exact Qw,by omega,by omega⟩|skip):p:=h
structure KfQ:Prop
theorem KfQ.k (_:KfQ) (h:p:=by
 repeat' first|exact Z8|with_reducible apply Zb|intro _
 all_goals first|with_reducible exact Jd|omega|exact ⟨j+1,by rw [hsn];exact Qw,by omega,by omega⟩|skip):p:=h
structure KfR:Prop
theorem KfR.k (_:KfR) (h:p:=by
 repeat' first|exact Z8|with_reducible apply Zb|intro _
 all_goals first|with_reducible exact Jd|omega|exact ⟨j+1,by rw [hsn,←hms];exact Qw,by omega,by omega⟩|skip):p:=h
structure KfS:Prop
theorem KfS.k (_:KfS) (h:p:=by
 repeat' first|exact Z8|with_reducible apply Zb|intro _
 all_goals first|with_reducible exact Jd|omega|exact ⟨k+1,by rw [hb2,hnx1];exact Qw,by omega,by omega⟩|skip):p:=h
structure KfP:Prop
theorem KfP.k (_:KfP) (h:p:=by
 repeat' first|exact Z8|with_reducible apply Zb|intro _
 refine Zm [9,35,36,37,38,39,40,41,42,43,44,45,46,47,48,49,50,51,52,53,54,55,56,57,58,59] (fun j:Nat=>[(8,.d (.int .i64 j))]) (fun j:Nat=>[(12,.row 1 ((Tw l b1 (x.imps.take j)).map enc) 0)]) (fun j:Nat=>j≤x.imps.length) (fun j:Nat=>x.imps.length-j) 0 ?_ ?_ ?_
 ·omega
 ·have Km:=@Tw.eq_1;exact Qw
 rintro j hj;have Zx:=bW (l:=l) (ss:=x.imps.take j) (b:=b1);obtain ⟨b3,hb3⟩:=exq (Tw l b1 (x.imps.take j));rw [hb3] at Zx ⊢;rcases Zo j x.imps.length with ⟨hjl,Je⟩|⟨hjl,Je⟩
 ·have Q4:=Zr ([]:List UInt8) hjl;have hsn:=rM (l:=l) (b:=b1) hjl;rw [hb3] at hsn;obtain ⟨y,hy⟩:=exq (x.imps.getD j []);rw [hy] at Q4 hsn;unfold Qak at hsn;cases hfn:Wt l y with
  | none =>
   have Zu:Ww l y=-1:=by unfold Ww;rw [hfn]
   rw [hfn] at hsn;simp only at hsn;have Z0:=@Yd;have Qi:=@Q7;have Qk:=@Q9;have Qs:=@R0;have Kq:KfQ:=⟨⟩;exact Mi
  | some p =>
   have Zu:Ww l y=p:=by unfold Ww;rw [hfn]
   have hpl:=Ta hfn;have Zw:Xf 0 (p:Int)=true:=by rw [Qx];omega
   rw [hfn] at hsn;simp only at hsn;have hms:=Znf (b:=b3) (n:=p);have Zz:=Zr false (show p<b3.length by omega)
   obtain ⟨bv,hbv⟩:=exq (b3.getD p false);rw [hbv] at Zz;have Z0:=@Yd;have Qi:=@Q7;have Qk:=@Q9;have Qs:=@R0;have Kq:KfR:=⟨⟩;exact Mi
 ·have hje:j=x.imps.length:=by omega
  rw [hje,List.take_length] at hb3;rw [hb3] at hnx1;have Z0:=@Yd;have Qi:=@Q7;have Qk:=@Q9;have Qs:=@R0;have Kq:KfS:=⟨⟩;exact Mi):p:=h
structure KfU:Prop
theorem KfU.k (_:KfU) (h:p:=by
 repeat' first|exact Z8|with_reducible apply Zb|intro _
 all_goals first|with_reducible exact Jd|omega|exact ⟨j+1,by rw [hsn];exact Qw,by omega,by omega⟩|skip):p:=h
structure KfV:Prop
theorem KfV.k (_:KfV) (h:p:=by
 repeat' first|exact Z8|with_reducible apply Zb|intro _
 all_goals first|with_reducible exact Jd|omega|exact ⟨j+1,by rw [hsn,←hms];exact Qw,by omega,by omega⟩|skip):p:=h
structure KfW:Prop
theorem KfW.k (_:KfW) (h:p:=by
 repeat' first|exact Z8|with_reducible apply Zb|intro _
 all_goals first|with_reducible exact Jd|omega|exact ⟨k+1,by rw [hb2,hnx1];exact Qw,by omega,by omega⟩|skip):p:=h
structure KfT:Prop
theorem KfT.k (_:KfT) (h:p:=by
 repeat' first|exact Z8|with_reducible apply Zb|intro _
 refine Zm [9,35,36,37,38,39,40,41,42,43,44,45,46,47,48,49,50,51,52,53,54,55,56,57,58,59] (fun j:Nat=>[(8,.d (.int .i64 j))]) (fun j:Nat=>[(12,.row 1 ((Tw l b1 (x.imps.take j)).map enc) 0)]) (fun j:Nat=>j≤x.imps.length) (fun j:Nat=>x.imps.length-j) 0 ?_ ?_ ?_
 ·omega
 ·have Km:=@Tw.eq_1;exact Qw
 rintro j hj;have Zx:=bW (l:=l) (ss:=x.imps.take j) (b:=b1);obtain ⟨b3,hb3⟩:=exq (Tw l b1 (x.imps.take j));rw [hb3] at Zx ⊢;rcases Zo j x.imps.length with ⟨hjl,Je⟩|⟨hjl,Je⟩
 ·have Q4:=Zr ([]:List UInt8) hjl;have hsn:=rM (l:=l) (b:=b1) hjl;rw [hb3] at hsn;obtain ⟨y,hy⟩:=exq (x.imps.getD j []);rw [hy] at Q4 hsn;unfold Qak at hsn;cases hfn:Wt l y with
  | none =>
   have Zu:Ww l y=-1:=by unfold Ww;rw [hfn]
   rw [hfn] at hsn;simp only at hsn;have Z0:=@Yd;have Qi:=@Q7;have Qk:=@Q9;have Qs:=@R0;have Kq:KfU:=⟨⟩;exact Mi
  | some p =>
   have Zu:Ww l y=p:=by unfold Ww;rw [hfn]
   have hpl:=Ta hfn;have Zw:Xf 0 (p:Int)=true:=by rw [Qx];omega
   rw [hfn] at hsn;simp only at hsn;have hms:=Znf (b:=b3) (n:=p);have Zz:=Zr false (show p<b3.length by omega)
   obtain ⟨bv,hbv⟩:=exq (b3.getD p false);rw [hbv] at Zz;have Z0:=@Yd;have Qi:=@Q7;have Qk:=@Q9;have Qs:=@R0;have Kq:KfV:=⟨⟩;exact Mi
 ·have hje:j=x.imps.length:=by omega
  rw [hje,List.take_length] at hb3;rw [hb3] at hnx1;have Z0:=@Yd;have Qi:=@Q7;have Qk:=@Q9;have Qs:=@R0;have Kq:KfW:=⟨⟩;exact Mi):p:=h
structure KfX:Prop
theorem KfX.k (_:KfX) (h:p:=by
 repeat' first|exact Z8|with_reducible apply Zb|intro _
 all_goals first|with_reducible exact Jd|omega|exact ⟨r+1,by exact Qw,by omega,by omega⟩|skip):p:=h
structure KfN:Prop
theorem KfN.k (_:KfN) (h:p:=by
 repeat' first|exact Z8|with_reducible apply Zb|intro _
 refine Zm [8,9,19,20,21,22,23,24,25,26,27,28,29,30,31,32,33,34,35,36,37,38,39,40,41,42,43,44,45,46,47,48,49,50,51,52,53,54,55,56,57,58,59] (fun k:Nat=>[(7,.d (.int .i64 k))]) (fun k:Nat=>[(12,.row 1 ((U5 l i b0 k).map enc) 0)]) (fun k:Nat=>k≤l.length) (fun k:Nat=>l.length-k) 0 ?_ ?_ ?_
 ·omega
 ·have Km:=@U5.eq_1;have Fg:=@U5.eq_2;exact Qw
 rintro k hk;have Qh:=Lj (l:=l) (i:=i) (b:=b0) k;have hnx1:U5 l i b0 (k+1)=cond (((k:Int) != i)&&!(U5 l i b0 k).getD k false) (U5 l i b0 k) (Tw l (U5 l i b0 k) (imp l k)):=rfl;obtain ⟨b1,hb1⟩:=exq (U5 l i b0 k);obtain ⟨b2,hb2⟩:=exq (U5 l i b0 (k+1));rw [hb1] at Qh;rw [hb1,hb2] at hnx1;rcases Zo k l.length with ⟨hlt,Qf⟩|⟨hlt,Qf⟩
 ·rw [hb1];have Z9:=Zr m0 hlt;have Qe:=Zr false (show k<b1.length by omega)
  have hi20:=Zba hf k;unfold imp at hi20 hnx1;obtain ⟨x,hx⟩:=exq (l.getD k m0);rw [hx] at Z9 hi20 hnx1;cases hc1:(((k:Int) != i)&&!b1.getD k false) with
  | true =>
   rw [hc1,cond_true] at hnx1;simp only [Zg,Bool.not_eq_true'] at hc1;obtain ⟨Qc,hk2⟩:=hc1;rw [hk2] at Qe;have Z0:=@Yd;have Qi:=@Q7;have Qk:=@Q9;have Qs:=@R0;have Kq:KfO:=⟨⟩;exact Mi
  | false =>
   rw [hc1,cond_false] at hnx1;obtain ⟨c1,hcc⟩:=exq (b1.getD k false);rw [hcc] at Qe hc1;obtain ⟨c2,Q6⟩:=exq (((k:Int) != i));rw [Q6] at hc1;have inner:True:=trivial;cases c2 with
   | true =>
    have hc1':c1=true:=by simpa using hc1
    subst hc1';have Z0:=@Yd;have Qi:=@Q7;have Qk:=@Q9;have Qs:=@R0;have Kq:KfP:=⟨⟩;exact Mi
   | false =>
    have Z0:=@Yd;have Qi:=@Q7;have Qk:=@Q9;have Qs:=@R0;have Kq:KfT:=⟨⟩;exact Mi
 ·have Zy:k=l.length:=by omega
  rw [Zy,←hnx];have Z0:=@R0;have Kq:KfX:=⟨⟩;exact Mi):p:=h
structure KfM:Prop
theorem KfM.k (_:KfM) (h:p:=by
 repeat' first|exact Z8|with_reducible apply Zb|intro _
 refine Zm [7,8,9,13,14,15,16,17,18,19,20,21,22,23,24,25,26,27,28,29,30,31,32,33,34,35,36,37,38,39,40,41,42,43,44,45,46,47,48,49,50,51,52,53,54,55,56,57,58,59] (fun r:Nat=>[(5,.sl 12 l.length),(6,.d (.int .i64 r))]) (fun r:Nat=>[(12,.row 1 ((Xy l i r).map enc) 0)]) (fun r:Nat=>r≤l.length+1) (fun r:Nat=>l.length+1-r) 0 ?_ ?_ ?_
 ·omega
 ·have Km:=@Xy.eq_1;have Fg:=@Xy.eq_2;exact Qw
 rintro r hr;have Qn:=Yj (l:=l) (i:=i) r;have hnx:Xy l i (r+1)=U5 l i (Xy l i r) l.length:=rfl;obtain ⟨b0,Z1⟩:=exq (Xy l i r);by_cases hrl:r≤l.length
 ·have Qb:Xf (r:Int) (l.length:Int)=true:=by rw [Qx];omega
  rw [Z1] at Qn hnx ⊢;have Z0:=@R0;have Kq:KfN:=⟨⟩;exact Mi
 ·have hrl':r=l.length+1:=by omega
  have Qb:Xf (r:Int) (l.length:Int)=false:=by rw [Pg];omega
  have Qd:J8 l i=b0:=by unfold J8;rw [←hrl',Z1]
  rw [Z1] at Qn;rw [Z1];have Z0:=@R0;exact Ol):p:=h
theorem good_reached8:Qa Tryz.prog (87,Cd):=by
 obtain ⟨Kx,Kt,Kc,Kd,Kb,Ku,Kw,K,X9,_⟩:=Xe Zv Zn [] false (Q0 good_find8 C8.eq_def Xd);have Ko:=Cd.eq_def;refine Xj K Tryz.func87 [.tmp 4] rfl 61 rfl (fun c hc cvs hpre=>?_);unfold Cd at hpre;obtain ⟨⟨l⟩,i,rfl,hf⟩:=Ql hpre;simp only at hf;clear hpre;have hl20:=Za9 hf;cases hc;refine Y4 3 ?_;have Z0:=@R0;have Kq:KfM:=⟨⟩;exact Mi
def Ru {A R S T:Type} [Enc A] [Enc R] [Enc S] [Enc T] (p:A→Prop) (f:A→R×S×T):Con:=⟨[false],[false,false,false],fun c=>match c with
 | [.d x]=>V9 A x∧p (dec x)
 | _=>False,fun c=>match c with
 | [.d x]=>.tup [.d (enc (f (dec x)).1),.d (enc (f (dec x)).2.1),.d (enc (f (dec x)).2.2)]
 | _=>.d .nilp⟩
theorem zV {A R S T:Type} [Enc A] [Enc R] [Enc S] [Enc T] {p:A→Prop} {f:A→R×S×T} {c:List CV} (h:(Ru p f).pre c):∃ a,c=[.d (enc a)]∧p a:=by
 unfold Ru at h;simp only at h;split at h
 ·next x=>exact ⟨dec x,by rw [←h.1],h.2⟩
 ·exact h.elim
theorem Zof {p:Nat→Bool}:∀ {n k:Nat},k<n→(∀ j,j<k→p j=false)→p k=true→(List.range n).find? p=some k:=by
 intro n k hk hno hp;rw [List.find?_eq_some_iff_append];refine ⟨hp,List.range k,(List.range' (k+1) (n-k-1)),?_,fun a ha=>?_⟩
 ·rw [List.range_eq_range',List.range_eq_range',show n=k+(1+(n-k-1)) by omega,List.range'_append_1.symm]
  rw [show 1+(n-k-1)=(n-k-1)+1 by omega,List.range'_succ]
  simp
 ·rw [hno a (List.mem_range.1 ha)];rfl
theorem Zoe {p:Nat→Bool} {n:Nat} (hno:∀ j,j<n→p j=false):(List.range n).find? p=none:=by
 rw [List.find?_eq_none];intro x hx;rw [hno x (List.mem_range.1 hx)];simp
def fillN (f:Nat→Bool) (n:Nat):Nat→List Bool
 | 0=>List.replicate n false
 | k+1=>(fillN f n k).set k (f k)
theorem Rk (f:Nat→Bool) (n:Nat):∀ k,(fillN f n k).length=n
 | 0=>by simp [fillN]
 | k+1=>by rw [fillN,List.length_set,Rk f n k]
theorem Zoj (f:Nat→Bool) (n:Nat):∀ k j,k≤n→j<n→(fillN f n k)[j]?=some (if j<k then f j else false)
 | 0,j,_,hj=>by simp [fillN,hj]
 | k+1,j,hk,hj=>by
  have ih:=Zoj f n k j (by omega) hj
  rw [fillN,List.getElem?_set];by_cases e:k=j
  ·subst e;rw [if_pos rfl,if_pos (by rw [Rk];exact hj),if_pos (by omega)]
  ·rw [if_neg e,ih];by_cases h:j<k
   ·rw [if_pos h,if_pos (by omega)]
   ·rw [if_neg h,if_neg (by omega)]
theorem bM (f:Nat→Bool) (n:Nat):fillN f n n=(List.range n).map f:=by
 apply List.ext_getElem?;intro j;rcases Nat.lt_or_ge j n with hj|hj
 ·rw [Zoj f n n j (Zq _) hj,if_pos hj];simp [hj]
 ·rw [List.getElem?_eq_none (by rw [Rk];exact hj),List.getElem?_eq_none (by simpa using hj)]
def tC (l:List V2) (k:Nat):Bool:=X4 (Ww l (nm l k)) (k:Int)
def O7 (l:List V2) (k:Nat):Bool:=(imp l k).any fun s=>X4 (Ww l s) 0
def mA (l:List V2) (k:Nat):Bool:=(J8 l (k:Int)).getD k false
def mayB (l:List V2) (out:List Int) (k:Nat):Bool:=!Zpp out (k:Int)&&Ai l (k:Int) out
def K7 (l:List V2):Nat→List Int
 | 0=>[]
 | r+1=>K7 l r++[bestN l ((List.range l.length).map (mayB l (K7 l r))) l.length]
theorem Ke (l:List V2):∀ r,(K7 l r).length=r
 | 0=>rfl
 | r+1=>by rw [K7,Zf,Ke l r];rfl
def H8 (l:List V2):Sl Int×Int×Int:=match (List.range l.length).find? (tC l) with
 | some i=>(⟨[]⟩,i,7)
 | none=>match (List.range l.length).find? (O7 l) with
  | some i=>(⟨[]⟩,i,6)
  | none=>cond (Xf 0 (bestN l ((List.range l.length).map (mA l)) l.length)) (⟨[]⟩,bestN l ((List.range l.length).map (mA l)) l.length,8) (⟨K7 l l.length⟩,0,0)
def Io:Con:=Ru (fun (l:Sl V2)=>Zw6 l.l) (fun l=>H8 l.l)
structure KfZ:Prop
theorem KfZ.k (_:KfZ) (h:p:=by
 repeat' first|exact Z8|with_reducible apply Zb|intro _
 all_goals first|with_reducible exact Jd|omega|exact ⟨k+1,by exact Qw,by omega,hs,by omega⟩|skip):p:=h
structure Kgc:Prop
theorem Kgc.k (_:Kgc) (h:p:=by
 repeat' first|exact Z8|with_reducible apply Zb|intro _
 all_goals first|with_reducible exact Jd|omega|exact ⟨j+1,by exact Qw,by omega,hs,by omega⟩|skip):p:=h
structure Kgd:Prop
theorem Kgd.k (_:Kgd) (h:p:=by
 repeat' first|exact Z8|with_reducible apply Zb|intro _
 all_goals first|with_reducible exact Jd|omega|exact ⟨k+1,by exact Qw,by omega,hs,by omega⟩|skip):p:=h
structure Kgb:Prop
theorem Kgb.k (_:Kgb) (h:p:=by
 repeat' first|exact Z8|with_reducible apply Zb|intro _
 refine Zm [2,3,4,36,37,38,39,40,41,42,43,44,45,46,47,48,49,50,51,52,53,54,55,56,57] (fun j:Nat=>[(7,.d (.int .i64 j))]) (fun j:Nat=>[]) (fun j:Nat=>j≤x.imps.length∧∀ i,i<j→0≤Ww l (x.imps.getD i [])) (fun j:Nat=>x.imps.length-j) 0 ?_ ?_ ?_
 ·simp
 ·exact Qw
 rintro j ⟨hj,hnj⟩;rcases Zo j x.imps.length with ⟨hjl,Qc⟩|⟨hjl,Qc⟩
 ·have Qh:=Zr ([]:List UInt8) hjl;have hsj:X4 (Ww l (x.imps.getD j [])) 0=false→∀ i,i<j+1→0≤Ww l (x.imps.getD i []):=fun h=>Zue hnj (by rw [Qv] at h;omega)
  have hbj:X4 (Ww l (x.imps.getD j [])) 0=true→R1=⟨[]⟩∧R2=k∧R3=6:=fun h=>hit (Ix (p:=fun s=>X4 (Ww l s) 0) [] j hjl h);obtain ⟨y,hy⟩:=exq (x.imps.getD j []);rw [hy] at Qh hsj hbj;cases Z9:X4 (Ww l y) 0 with
  | true =>
   obtain ⟨e1,e2,e3⟩:=hbj Z9;subst e1 e2 e3;have Z1:=@Ru.eq_def;have Z0:=@Yd;have Qi:=@Q7;have Qk:=@Q9;have Qs:=@R0;exact Ol
  | false =>
   have hs:=hsj Z9;have Z1:=@Yd;have Z0:=@Q7;have Qi:=@Q9;have Qk:=@R0;have Kq:Kgc:=⟨⟩;exact Mi
 ·have hs:=hst (Su (p:=fun s=>X4 (Ww l s) 0) [] fun i hi=>by have:=hnj i (by omega);rw [Qv];omega)
  have Z1:=@Yd;have Z0:=@Q7;have Qi:=@Q9;have Qk:=@R0;have Kq:Kgd:=⟨⟩;exact Mi):p:=h
structure Kgf:Prop
theorem Kgf.k (_:Kgf) (h:p:=by
 repeat' first|exact Z8|with_reducible apply Zb|intro _
 all_goals first|with_reducible exact Jd|omega|exact ⟨k+1,by rw [hS3,←hms];exact Qw,by omega,by omega⟩|skip):p:=h
structure Kgi:Prop
theorem Kgi.k (_:Kgi) (h:p:=by
 repeat' first|exact Z8|with_reducible apply Zb|intro _
 all_goals first|with_reducible exact Jd|omega|exact ⟨(k+1,r),by simp only [hS,←hm1];exact Qw,by simp only;omega,by simp only;omega,by simp only;omega⟩|skip):p:=h
structure Kgj:Prop
theorem Kgj.k (_:Kgj) (h:p:=by
 repeat' first|exact Z8|with_reducible apply Zb|intro _
 all_goals first|with_reducible exact Jd|omega|exact ⟨(k+1,r),by simp only [hS,←hm1];exact Qw,by simp only;omega,by simp only;omega,by simp only;omega⟩|skip):p:=h
structure Kgk:Prop
theorem Kgk.k (_:Kgk) (h:p:=by
 repeat' first|exact Z8|with_reducible apply Zb|intro _
 all_goals first|with_reducible exact Jd|omega|exact ⟨(r+1,gz),by simp only [ho2,hoS];refine Qii ?_;exact Zw.symm,by simp only;omega,by simp only;omega,by simp only;omega⟩|skip):p:=h
structure Kgh:Prop
theorem Kgh.k (_:Kgh) (h:p:=by
 repeat' first|exact Z8|with_reducible apply Zb|intro _
 all_goals try omega
 refine Zm [90,91,92,93,94,95,96,97,98,99,100,101,102,103,104,105,106,107,108] (fun q:Nat×Nat=>[(13,.d (.int .i64 q.1))]) (fun q:Nat×Nat=>[(82,.row 1 (o.map enc) q.2),(89,.row 1 ((fillN (mayB l o) l.length q.1).map enc) 0)]) (fun q:Nat×Nat=>q.1≤l.length∧q.2≤r) (fun q:Nat×Nat=>l.length-q.1) (0,fz) ?_ ?_ ?_
 ·simp;omega
 ·have Km:=@fillN.eq_1;have Fg:=@fillN.eq_2;exact Qw
 rintro ⟨k,gz⟩ ⟨hk,hgz⟩;simp only at hk hgz ⊢;have Q4:=Rk (mayB l o) l.length k;have hS:fillN (mayB l o) l.length (k+1)=(fillN (mayB l o) l.length k).set k (!Zpp o (k:Int)&&Ai l (k:Int) o):=rfl;rcases Zo k l.length with ⟨hlt,Qb⟩|⟨hlt,Qb⟩
 ·obtain ⟨b,Z9⟩:=exq (fillN (mayB l o) l.length k);rw [Z9] at Q4 hS ⊢;have Q6:=Zr false (show k<b.length by omega)
  obtain ⟨c2,hcd⟩:=exq (b.getD k false);rw [hcd] at Q6;have hms:∀ v,(b.map (enc:Bool→D)).set k (.bool v)=(b.set k v).map enc:=fun v=>by rw [List.map_set];rfl
  cases Zz:Zpp o (k:Int) with
  | true =>
   rw [Zz] at hS;simp only [Bool.not_true,Bool.false_and] at hS;have hm1:=hms false;have Z1:=@R0;have Kq:Kgi:=⟨⟩;exact Mi
  | false =>
   rw [Zz] at hS;simp only [Bool.not_false,Bool.true_and] at hS;obtain ⟨v,Zy⟩:=exq (Ai l (k:Int) o);rw [Zy] at hS;have hm1:=hms v;have Z1:=@R0;have Kq:Kgj:=⟨⟩;exact Mi
 ·have hkl2:k=l.length:=by omega
  rw [hkl2,bM] at Q4;rw [hkl2] at Qb;rw [hkl2,bM];obtain ⟨my,hmy⟩:=exq ((List.range l.length).map (mayB l o));rw [hmy] at Q4 hoS ⊢;obtain ⟨z,Qd⟩:=exq (bestN l my l.length);rw [Qd] at hoS;have Z1:=@R0;have Kq:Kgk:=⟨⟩;exact Mi):p:=h
structure Kgg:Prop
theorem Kgg.k (_:Kgg) (h:p:=by
 repeat' first|exact Z8|with_reducible apply Zb|intro _
 all_goals try omega
 refine Zm [12,13,86,87,88,89,90,91,92,93,94,95,96,97,98,99,100,101,102,103,104,105,106,107,108,109,110,111,112,113,114,115] (fun q:Nat×Nat=>[(11,.sl 82 ((K7 l q.1).map (enc:Int→D)).length),(85,.d (.int .i64 q.1))]) (fun q:Nat×Nat=>[(82,.row 1 ((K7 l q.1).map enc) q.2)]) (fun q:Nat×Nat=>q.1≤l.length∧q.2≤q.1) (fun q:Nat×Nat=>l.length-q.1) (0,0) ?_ ?_ ?_
 ·simp
 ·have Km:=@K7.eq_1;have Fg:=@K7.eq_2;exact Qw
 clear Qb;rintro ⟨r,fz⟩ ⟨hr,hfz⟩;simp only at hr hfz ⊢;have Zw:=Ke l r;have hoS:K7 l (r+1)=K7 l r++[bestN l ((List.range l.length).map (mayB l (K7 l r))) l.length]:=rfl;rcases Zo r l.length with ⟨hrlt,Qn⟩|⟨hrlt,Qn⟩
 ·obtain ⟨o,ho⟩:=exq (K7 l r);obtain ⟨o2,ho2⟩:=exq (K7 l (r+1));rw [ho] at Zw;rw [ho,ho2] at hoS;rw [ho];have Z1:=@R0;have Kq:Kgh:=⟨⟩;exact Mi
 ·have Je:r=l.length:=by omega
  rw [Je] at Qn ⊢;have Z1:=@Ru.eq_def;have Z0:=@R0;exact Ol):p:=h
structure Kge:Prop
theorem Kge.k (_:Kge) (h:p:=by
 repeat' first|exact Z8|with_reducible apply Zb|intro _
 refine Zm [61,62,63,64,65,66,67,68,69,70,71,72,73,74,75] (fun k:Nat=>[(9,.d (.int .i64 k))]) (fun k:Nat=>[(60,.row 1 ((fillN (mA l) l.length k).map enc) 0)]) (fun k:Nat=>k≤l.length) (fun k:Nat=>l.length-k) 0 ?_ ?_ ?_
 ·omega
 ·have Km:=@fillN.eq_1;have Fg:=@fillN.eq_2;exact Qw
 clear Qb hlt hk;rintro k hk;have Q4:=Rk (mA l) l.length k;have hS3:fillN (mA l) l.length (k+1)=(fillN (mA l) l.length k).set k ((J8 l (k:Int)).getD k false):=rfl;rcases Zo k l.length with ⟨hlt,Qb⟩|⟨hlt,Qb⟩
 ·obtain ⟨b,Z9⟩:=exq (fillN (mA l) l.length k);rw [Z9] at Q4 hS3 ⊢;have Je:(J8 l (k:Int)).length=l.length:=Yj _;have Qh:=Zr false (show k<(J8 l (k:Int)).length by omega)
  have Q6:=Zr false (show k<b.length by omega)
  obtain ⟨c1,hcc⟩:=exq ((J8 l (k:Int)).getD k false);obtain ⟨c2,hcd⟩:=exq (b.getD k false);rw [hcc] at Qh hS3;rw [hcd] at Q6;have hms:(b.map (enc:Bool→D)).set k (.bool c1)=(b.set k c1).map enc:=by rw [List.map_set];rfl
  obtain ⟨rb,Qn⟩:=exq (J8 l (k:Int));rw [Qn] at Je Qh;have Z1:=@R0;have Kq:Kgf:=⟨⟩;exact Mi
 have hkl:k=l.length:=by omega
 rw [hkl,bM] at Q4;rw [hkl,bM];obtain ⟨cy,hcy⟩:=exq ((List.range l.length).map (mA l));rw [hcy] at Q4 hR2 ⊢;rw [hkl] at Qb;obtain ⟨best,Zu⟩:=exq (bestN l cy l.length);rw [Zu] at hR2;cases Zx:Xf 0 best with
 | true =>
  rw [Zx,cond_true] at hR2;injection hR2 with e1 e2
  injection e2 with e2 e3
  subst e1 e2 e3;have Z1:=@Ru.eq_def;have Z0:=@R0;exact Ol
 | false =>
 rw [Zx,cond_false] at hR2;injection hR2 with e1 e2
 injection e2 with e2 e3
 subst e1 e2 e3;have Z1:=@R0;have Kq:Kgg:=⟨⟩;exact Mi):p:=h
structure Kga:Prop
theorem Kga.k (_:Kga) (h:p:=by
 repeat' first|exact Z8|with_reducible apply Zb|intro _
 refine Zm [2,3,4,7,30,31,32,33,34,35,36,37,38,39,40,41,42,43,44,45,46,47,48,49,50,51,52,53,54,55,56,57] (fun k:Nat=>[(6,.d (.int .i64 k))]) (fun k:Nat=>[]) (fun k:Nat=>k≤l.length∧∀ j,j<k→O7 l j=false) (fun k:Nat=>l.length-k) 0 ?_ ?_ ?_
 ·simp
 ·exact Qw
 clear Qb hlt hk;rintro k ⟨hk,hno⟩;rcases Zo k l.length with ⟨hlt,Qb⟩|⟨hlt,Qb⟩
 ·have Qf:=Zr m0 hlt;have hi20:=Zba hf k;have hst:O7 l k=false→∀ j,j<k+1→O7 l j=false:=fun h=>Zue hno h;have hit:O7 l k=true→R1=⟨[]⟩∧R2=k∧R3=6:=fun h=>by
   rw [Zof hlt hno h] at hR2;injection hR2 with e1 e2
   injection e2 with e2 e3
   exact ⟨e1.symm,e2.symm,e3.symm⟩
  unfold O7 at hst hit;unfold imp at hi20 hst hit;obtain ⟨x,hx⟩:=exq (l.getD k m0);rw [hx] at Qf hst hit hi20;have Z1:=@R0;have Kq:Kgb:=⟨⟩;exact Mi
 have hlack:=Zoe (p:=O7 l) (n:=l.length) fun j hj=>hno j (by omega)
 rw [hlack] at hR2;simp only at hR2;clear hno;have Z1:=@R0;have Kq:Kge:=⟨⟩;exact Mi):p:=h
structure KfY:Prop
theorem KfY.k (_:KfY) (h:p:=by
 repeat' first|exact Z8|with_reducible apply Zb|intro _
 refine Zm [2,3,4,14,15,16,17,18,19,20,21,22,23,24,25,26,27,28,29] (fun k:Nat=>[(5,.d (.int .i64 k))]) (fun k:Nat=>[]) (fun k:Nat=>k≤l.length∧∀ j,j<k→tC l j=false) (fun k:Nat=>l.length-k) 0 ?_ ?_ ?_
 ·simp
 ·exact Qw
 rintro k ⟨hk,hno⟩;rcases Zo k l.length with ⟨hlt,Qb⟩|⟨hlt,Qb⟩
 ·have Qf:=Zr m0 hlt;have hst:tC l k=false→∀ j,j<k+1→tC l j=false:=fun h=>Zue hno h;have hit:tC l k=true→R1=⟨[]⟩∧R2=k∧R3=7:=fun h=>by
   rw [Zof hlt hno h] at hR2;injection hR2 with e1 e2
   injection e2 with e2 e3
   exact ⟨e1.symm,e2.symm,e3.symm⟩
  unfold tC nm at hst hit;obtain ⟨x,hx⟩:=exq (l.getD k m0);rw [hx] at Qf hst hit;cases Z9:X4 (Ww l x.name) (k:Int) with
  | true =>
   obtain ⟨e1,e2,e3⟩:=hit Z9;subst e1 e2 e3;have Z1:=@Ru.eq_def;have Z0:=@Yd;have Qi:=@Q7;have Qk:=@Q9;have Qs:=@R0;exact Ol
  | false =>
   have hs:=hst Z9;have Z1:=@Yd;have Z0:=@Q7;have Qi:=@Q9;have Qk:=@R0;have Kq:KfZ:=⟨⟩;exact Mi
 have hdup:=Zoe (p:=tC l) (n:=l.length) fun j hj=>hno j (by omega)
 rw [hdup] at hR2;simp only at hR2;clear hno;have Z1:=@R0;have Kq:Kga:=⟨⟩;exact Mi):p:=h
theorem good_Order8:Qa Tryz.prog (40,Io):=by
 obtain ⟨Kx,Kt,Kc,Kd,Kb,Ku,Kw,K,X9,Uv,Po,Cx,Oj,_⟩:=Xe Zv Zn [] false (Q0 good_find8 C8.eq_def (Q0 good_reached8 Cd.eq_def (Q0 good_least8 Ia.eq_def (Q0 good_In08 aE.eq_def (Q0 good_ready8 A8.eq_def Xd)))));have Ko:=Io.eq_def;refine Xj K Tryz.func40 [.tmp 2,.tmp 3,.tmp 4] rfl 117 rfl (fun c hc cvs hpre=>?_);unfold Io at hpre;obtain ⟨⟨l⟩,rfl,hf⟩:=zV hpre;simp only at hf;clear hpre;have hl20:=Za9 hf;obtain ⟨R1,R2,R3,Qe⟩:∃ a b d,H8 l=(a,b,d):=⟨_,_,_,rfl⟩;have hR2:=Qe;unfold H8 at hR2;cases hc;refine Y4 7 ?_;have Kq:KfY:=⟨⟩;exact Mi
def pJ (l:List V2) (k j:Nat):Prop:=∃ s∈imp l k,Wt l s=some j
inductive Path (l:List V2):Nat→Nat→Prop
 | one {k j:Nat}:pJ l k j→Path l k j
 | more {k j n:Nat}:pJ l k j→Path l j n→Path l k n
theorem pV {l:List V2} {k j:Nat} (h:pJ l k j):k<l.length∧j<l.length:=by
 obtain ⟨s,hs,hj⟩:=h;refine ⟨?_,Ta hj⟩;rcases Nat.lt_or_ge k l.length with h|h
 ·exact h
 ·unfold imp at hs;rw [Zd,List.getElem?_eq_none h] at hs;cases hs
theorem Qaz {l:List V2} {k j:Nat} (h:Path l k j):k<l.length∧j<l.length:=by
 induction h with
 | one h=>exact pV h
 | more h _ ih=>exact ⟨(pV h).1,ih.2⟩
theorem Path.trans {l:List V2} {a b c:Nat} (h:Path l a b) (k:Path l b c):Path l a c:=by
 induction h with
 | one h=>exact .more h k
 | more h _ ih=>exact .more h (ih k)
theorem Path.snoc {l:List V2} {a b c:Nat} (h:Path l a b) (k:pJ l b c):Path l a c:=h.trans (.one k)
theorem Zmu {l:List V2} {M:Nat→Prop} (hM:∀ k j,M k→pJ l k j→M j) {i k:Nat} (h:Path l i k) (h1:∀ j,pJ l i j→M j):M k:=by
 induction h with
 | one h=>exact h1 _ h
 | more h _ ih=>exact ih fun j hj=>hM _ _ (h1 _ h) hj
theorem Zzb {b:List Bool} {n k:Nat} (hn:n<b.length):(b.set n true).getD k false=(b.getD k false||(n==k)):=by
 rw [Zd,List.getElem?_set,Zd];by_cases h:n=k
 ·subst h;simp [hn]
 ·rw [if_neg h];have:(n==k)=false:=by rw [Za];exact h
  rw [this,Bool.or_false]
theorem Qdc {l:List V2} {b:List Bool} (hb:b.length=l.length) (s:List UInt8) (k:Nat):(Qak l b s).getD k false=true↔b.getD k false=true∨Wt l s=some k:=by
 unfold Qak;cases h:Wt l s with
 | none=>simp
 | some n =>
  have:=Ta h;simp only;rw [Zzb (by omega),Bool.or_eq_true,Zk]
  simp
theorem Zne {l:List V2}:∀ {ss:List (List UInt8)} {b:List Bool} (_:b.length=l.length) (k:Nat),(Tw l b ss).getD k false=true↔b.getD k false=true∨∃ s∈ss,Wt l s=some k
 | [],b,hb,k=>by simp [Tw]
 | s::ss,b,hb,k=>by
  show (Tw l (Qak l b s) ss).getD k false=true↔_;rw [Zne (by rw [Zs2,hb]) k,Qdc hb]
  simp only [Zs,exists_eq_or_imp,or_assoc]
theorem kM {l:List V2} {i:Nat} {b:List Bool} (hb:b.length=l.length) (k j:Nat) :
  (qY l i b k).getD j false=true↔b.getD j false=true∨((k=i∨b.getD k false=true)∧pJ l k j):=by
 unfold qY;cases hc:(((k:Int) != (i:Int))&&!b.getD k false) with
 | true =>
  rw [cond_true];rw [Zg,Bool.not_eq_true',bne_iff_ne] at hc;constructor
  ·exact .inl
  ·rintro (h|⟨h|h,_⟩)
   ·exact h
   ·exact absurd (by rw [h]) hc.1
   ·rw [hc.2] at h;cases h
 | false =>
  rw [cond_false,Zne hb];rw [Bool.and_eq_false_iff,bne_eq_false_iff_eq,Bool.not_eq_false'] at hc;have h1:k=i∨b.getD k false=true:=by
   rcases hc with h|h
   ·exact .inl (by omega)
   ·exact .inr h
  constructor
  ·rintro (h|h)
   ·exact .inl h
   ·exact .inr ⟨h1,h⟩
  ·rintro (h|⟨_,h⟩)
   ·exact .inl h
   ·exact .inr h
theorem Oq {l:List V2} {i:Nat} {b:List Bool} (hb:b.length=l.length):∀ n j,b.getD j false=true→(U5 l i b n).getD j false=true
 | 0,_,h=>h
 | n+1,j,h=>by
  rw [U5,kM (by rw [Lj,hb])]
  exact .inl (Oq hb n j h)
theorem mN {l:List V2} {i:Nat} {b:List Bool} (hb:b.length=l.length):∀ n k j,k<n→(k=i∨b.getD k false=true)→pJ l k j→(U5 l i b n).getD j false=true
 | 0,_,_,h,_,_=>by omega
 | n+1,k,j,h,hk,hs=>by
  rw [U5,kM (by rw [Lj,hb])]
  by_cases e:k=n
  ·subst e;refine .inr ⟨?_,hs⟩;rcases hk with h|h
   ·exact .inl h
   ·exact .inr (Oq hb k k h)
  ·exact .inl (mN hb n k j (by omega) hk hs)
theorem R7 {l:List V2} {i:Nat} {b:List Bool} (hb:b.length=l.length) (h0:∀ k,b.getD k false=true→Path l i k):∀ n k,(U5 l i b n).getD k false=true→Path l i k
 | 0,k,h=>h0 k h
 | n+1,j,h=>by
  rw [U5,kM (by rw [Lj,hb])] at h
  rcases h with h|⟨h|h,hs⟩
  ·exact R7 hb h0 n j h
  ·subst h;exact .one hs
  ·exact (R7 hb h0 n n h).snoc hs
theorem gZ {l:List V2} {i:Nat}:∀ r k,(Xy l i r).getD k false=true→Path l i k
 | 0,k,h=>by
  have:(List.replicate l.length false).getD k false=false:=by
   rw [Zd,List.getElem?_replicate];split<;>rfl
  change (List.replicate l.length false).getD k false=true at h
  rw [this] at h;cases h
 | r+1,k,h=>R7 (Yj r) (fun k=>gZ r k) l.length k h
theorem Zry:∀ {b c:List Bool},b.length=c.length→(∀ k,b.getD k false=true→c.getD k false=true)→b=c∨b.countP id<c.countP id
 | [],[],_,_=>.inl rfl
 | [],_::_,h,_=>by simp at h
 | _::_,[],h,_=>by simp at h
 | x::b,y::c,h,hm=>by
  have h0:=hm 0;simp only [List.getD_cons_zero] at h0;have ih:=Zry (b:=b) (c:=c) (by simpa using h) (fun k=>by simpa using hm (k+1))
  rcases ih with e|e
  ·subst e;cases x with
   | true=>rw [h0 rfl];exact .inl rfl
   | false =>
    cases y with
    | false=>exact .inl rfl
    | true=>right;simp
  ·right;cases x with
   | true=>rw [h0 rfl];simpa using e
   | false=>cases y<;>simp<;>omega
theorem Zmg {l:List V2} {i:Nat} (r:Nat):Xy l i r=Xy l i (r+1)∨(Xy l i r).countP id<(Xy l i (r+1)).countP id :=
 Zry (by rw [Yj,Yj]) fun k h=>Oq (Yj r) _ k h
theorem Ow {l:List V2} {i:Nat} {r:Nat} (h:Xy l i r=Xy l i (r+1)):∀ k,Xy l i (r+k)=Xy l i r
 | 0=>rfl
 | k+1=>by
  show Xy l i ((r+k)+1)=_;rw [Xy,Ow h k];exact h.symm
theorem gQ {l:List V2} {i:Nat}:∀ r,(∃ q,q<r∧Xy l i q=Xy l i (q+1))∨r≤(Xy l i r).countP id
 | 0=>.inr (Nat.zero_le _)
 | r+1=>by
  rcases gQ r with ⟨q,h1,h2⟩|h
  ·exact .inl ⟨q,by omega,h2⟩
  ·rcases Zmg (l:=l) (i:=i) r with e|e
   ·exact .inl ⟨r,by omega,e⟩
   ·exact .inr (by omega)
theorem Ox {l:List V2} {i:Nat}:∀ k j,(k=i∨(J8 l i).getD k false=true)→pJ l k j→(J8 l i).getD j false=true:=by
 have hst:J8 l i=Xy l i (l.length+1+1):=by
  rcases gQ (l:=l) (i:=i) (l.length+1) with ⟨q,h1,h2⟩|h
  ·have e1:=Ow h2 (l.length+1-q);have e2:=Ow h2 (l.length+1+1-q);rw [show q+(l.length+1-q)=l.length+1 by omega] at e1
   rw [show q+(l.length+1+1-q)=l.length+1+1 by omega] at e2
   unfold J8;rw [e1,e2]
  ·have h3:=List.countP_le_length (p:=id) (l:=Xy l i (l.length+1));have h4:=Yj (l:=l) (i:=i) (l.length+1);omega
 intro k j hk hs;rw [hst];exact mN (Yj _) l.length k j (pV hs).1 hk hs
theorem H4 {l:List V2} {i k:Nat}:(J8 l i).getD k false=true↔Path l i k :=
 ⟨fun h=>gZ _ k h,fun h=>Zmu (M:=fun k=>(J8 l i).getD k false=true) (fun k j hk hs=>Ox k j (.inr hk) hs) h fun j hj=>Ox i j (.inl rfl) hj⟩
theorem Zyx {x y:List UInt8}:Op.bytesLess x y=true↔x<y:=by rw [bytesLess_eq,decide_eq_true_eq]
theorem less_not {x y:List UInt8}:Op.bytesLess x y=false↔y≤x:=by
 rw [bytesLess_eq,decide_eq_false_iff_not,List.not_lt]
theorem aW:∀ {l:List V2} {s:List UInt8} {k:Nat},Wt l s=some k→nm l k=s
 | [],s,k,h=>by simp [Wt] at h
 | m::l,s,k,h=>by
  rw [Wt] at h;by_cases hm:m.name=s
  ·rw [if_pos hm] at h;injection h with h
   subst h;exact hm
  ·rw [if_neg hm] at h;cases hf:Wt l s with
   | none=>rw [hf] at h;cases h
   | some j =>
    rw [hf] at h;simp only [Option.map_some,Zc] at h;subst h;have:=aW hf;simpa [nm] using this
theorem sU:∀ {l:List V2} {k:Nat},k<l.length→∃ j,Wt l (nm l k)=some j∧j≤k
 | [],k,h=>by simp at h
 | m::l,0,_=>⟨0,by simp [Wt,nm],Zq _⟩
 | m::l,k+1,h=>by
  by_cases hm:m.name=nm (m::l) (k+1)
  ·exact ⟨0,by rw [Wt,if_pos hm],Nat.zero_le _⟩
  ·obtain ⟨j,h1,h2⟩:=sU (l:=l) (k:=k) (by simpa using h)
   have e:nm (m::l) (k+1)=nm l k:=by simp [nm]
   rw [e] at hm ⊢;exact ⟨j+1,by rw [Wt,if_neg hm,h1];rfl,by omega⟩
def Zbs (l:List V2):Prop:=∀ k,k<l.length→Wt l (nm l k)=some k
def Zw5 (l:List V2):Prop:=∀ k,k<l.length→∀ s∈imp l k,∃ j,Wt l s=some j
theorem fM {l:List V2} (h:Zbs l) {a b:Nat} (ha:a<l.length) (hb:b<l.length) (e:nm l a=nm l b):a=b:=by
 have h1:=h a ha;rw [e,h b hb] at h1;injection h1 with h1
 exact h1.symm
theorem Zlx {l:List V2}:(List.range l.length).find? (tC l)=none↔Zbs l:=by
 rw [List.find?_eq_none];constructor
 ·intro h k hk;obtain ⟨j,h1,h2⟩:=sU hk;have:=h k (List.mem_range.2 hk);rw [Bool.not_eq_true] at this;unfold tC Ww at this;rw [h1] at this;simp only at this;rw [Qv] at this;rw [h1,show j=k by omega]
 ·intro h k hk;rw [List.mem_range] at hk;unfold tC Ww;rw [h k hk];simp only;rw [Jf];omega
theorem Zn9 {l:List V2}:(List.range l.length).find? (O7 l)=none↔Zw5 l:=by
 rw [List.find?_eq_none];constructor
 ·intro h k hk s hs;have:=h k (List.mem_range.2 hk);rw [Bool.not_eq_true] at this;unfold O7 at this;rw [List.any_eq_false] at this;have:=this s hs;rw [Bool.not_eq_true] at this;unfold Ww at this;cases hf:Wt l s with
  | none=>rw [hf] at this;cases this
  | some j=>exact ⟨j,rfl⟩
 ·intro h k hk;rw [List.mem_range] at hk;rw [Bool.not_eq_true];unfold O7;rw [List.any_eq_false];intro s hs;obtain ⟨j,hj⟩:=h k hk s hs;unfold Ww;rw [hj];simp only;rw [Jf];omega
theorem cU {l:List V2} {is:List Bool}:∀ n,(bestN l is n=-1∧∀ j,j<n→is.getD j false=false) ∨
  ∃ k:Nat,bestN l is n=k∧k<n∧is.getD k false=true∧∀ j,j<n→is.getD j false=true→nm l k≤nm l j
 | 0=>.inl ⟨rfl,fun j hj=>by omega⟩
 | n+1=>by
  rw [bestN];rcases cU (l:=l) (is:=is) n with ⟨h,hno⟩|⟨k,h,hk,his,hle⟩
  ·rw [h];cases hn:is.getD n false with
   | false =>
    rw [Bool.false_and,cond_false];exact .inl ⟨rfl,Zue hno hn⟩
   | true =>
    right;refine ⟨n,rfl,by omega,hn,fun j hj hj2=>?_⟩
    by_cases e:j=n
    ·subst e;exact List.le_refl _
    ·rw [hno j (by omega)] at hj2;cases hj2
  ·rw [h,Zj,show X4 (k:Int) 0=false by rw [Qv];omega,Bool.false_or]
   cases hn:is.getD n false with
   | false =>
    rw [Bool.false_and,cond_false];refine .inr ⟨k,rfl,by omega,his,fun j hj hj2=>?_⟩
    by_cases e:j=n
    ·subst e;rw [hn] at hj2;cases hj2
    ·exact hle j (by omega) hj2
   | true =>
    rw [Bool.true_and];cases hb:Op.bytesLess (nm l n) (nm l k) with
    | true =>
     rw [cond_true];rw [Zyx] at hb;refine .inr ⟨n,rfl,by omega,hn,fun j hj hj2=>?_⟩
     by_cases e:j=n
     ·subst e;exact List.le_refl _
     ·exact List.le_trans (List.le_of_lt hb) (hle j (by omega) hj2)
    | false =>
     rw [cond_false];rw [less_not] at hb;refine .inr ⟨k,rfl,by omega,his,fun j hj hj2=>?_⟩
     by_cases e:j=n
     ·subst e;exact hb
     ·exact hle j (by omega) hj2
def Qd4 (l:List V2):Prop:=∃ k,Path l k k
theorem Zmp {l:List V2} (hU:Zbs l) (hF:Zw5 l) (hA:¬ Qd4 l) {C:List (List UInt8)}:∀ n k,k<l.length→(J8 l k).countP id≤n→nm l k∉C→∃ j,j<l.length∧(nm l j∉C∧∀ s∈imp l j,s∈C):=by
 intro n
 induction n with
 | zero =>
  intro k hk hn hC;by_cases h:∀ s∈imp l k,s∈C
  ·exact ⟨k,hk,⟨hC,h⟩⟩
  ·obtain ⟨s,h2⟩:=Classical.not_forall.1 h;obtain ⟨hs,hsC⟩:=Classical.not_imp.1 h2;obtain ⟨j,hj⟩:=hF k hk s hs;have h1:(J8 l k).getD j false=true:=H4.2 (.one ⟨s,hs,hj⟩);have h0:(J8 l k).countP id=0:=by omega
   rw [List.countP_eq_zero] at h0;have hjl:j<(J8 l k).length:=by have:(J8 l k).length=l.length:=Yj _;rw [this];exact Ta hj
   have:=h0 _ (List.getElem_mem hjl);rw [Zd,Zh hjl] at h1;exact absurd h1 this
 | succ n ih =>
  intro k hk hn hC;by_cases h:∀ s∈imp l k,s∈C
  ·exact ⟨k,hk,⟨hC,h⟩⟩
  ·obtain ⟨s,h2⟩:=Classical.not_forall.1 h;obtain ⟨hs,hsC⟩:=Classical.not_imp.1 h2;obtain ⟨j,hj⟩:=hF k hk s hs;have hkj:pJ l k j:=⟨s,hs,hj⟩;have hjl:=Ta hj;refine ih j hjl ?_ (by rw [aW hj];exact hsC)
   have l1:(J8 l j).length=l.length:=Yj _;have l2:(J8 l k).length=l.length:=Yj _;rcases Zry (b:=J8 l j) (c:=J8 l k) (by rw [l1,l2]) (fun x hx=>H4.2 (.more hkj (H4.1 hx))) with e|e
   ·have h1:(J8 l k).getD j false=true:=H4.2 (.one hkj);rw [←e,H4] at h1;exact absurd ⟨j,h1⟩ hA
   ·omega
theorem bC {l:List Int} {n:Int}:Zpp l n=true↔n∈l:=by
 unfold Zpp;rw [List.any_eq_true];exact ⟨fun ⟨x,h1,h2⟩=>by rw [Zk] at h2;exact h2▸h1,fun h=>⟨n,h,by simp⟩⟩
theorem O6 {f:Nat→Bool} {n k:Nat} (h:k<n):((List.range n).map f).getD k false=f k:=by
 rw [Zd];simp [h]
theorem Zo1 {l:List V2} (hl:l.length≤20):Xf 0 (bestN l ((List.range l.length).map (mA l)) l.length)=true↔Qd4 l:=by
 rw [Qx];rcases cU (l:=l) (is:=(List.range l.length).map (mA l)) l.length with ⟨h,hno⟩|⟨k,h,hk,his,_⟩
 ·rw [h];refine ⟨fun h=>by omega,fun ⟨k,hk⟩=>?_⟩
  have hkl:=(Qaz hk).1;have:=hno k hkl;rw [O6 hkl] at this;have h2:(J8 l k).getD k false=true:=H4.2 hk
  change (J8 l k).getD k false=false at this
  rw [h2] at this;cases this
 ·rw [h];refine ⟨fun _=>⟨k,?_⟩,fun _=>by omega⟩
  rw [O6 hk] at his;exact H4.1 his
theorem Zsc:∀ (n:Nat) (O:List Int),(∀ k:Nat,k<n→(k:Int)∈O)→n≤O.length
 | 0,O,_=>Nat.zero_le _
 | n+1,O,h=>by
  have h0:=h n (by omega)
  have h1:=Zsc n (O.erase n) fun k hk=>(List.mem_erase_of_ne (by omega)).2 (h k (by omega))
  rw [List.length_erase_of_mem h0] at h1;have:0<O.length:=List.length_pos_of_mem h0;omega
theorem Zar {l:List V2} (hU:Zbs l) (hF:Zw5 l) (hA:¬ Qd4 l):∀ r,r≤l.length→∀ x∈K7 l r,∃ k:Nat,x=k∧k<l.length
 | 0,_,x,hx=>by simp [K7] at hx
 | r+1,hr,x,hx=>by
  have ih:=Zar hU hF hA r (by omega)
  rw [K7] at hx;rcases List.mem_append.1 hx with hx|hx
  ·exact ih x hx
  rw [Zp] at hx;obtain ⟨O,hO⟩:=exq (K7 l r);have hlen:=Ke l r;rw [hO] at ih hx hlen;have hex:∃ k:Nat,k<l.length∧(k:Int)∉O:=Classical.byContradiction fun hn=>by
   have:=Zsc l.length O fun k hk=>Classical.byContradiction fun h=>hn ⟨k,hk,h⟩;omega
  obtain ⟨k,hk,hkO⟩:=hex;have hkC:nm l k∉O.map fun x=>nm l x.toNat:=fun h=>by
   obtain ⟨y,hy,he⟩:=List.mem_map.1 h;obtain ⟨k',rfl,hk'⟩:=ih y hy;rw [Zj] at he;have:=fM hU hk' hk he;exact hkO (this▸hy)
  obtain ⟨j,hj,h1,h2⟩:=Zmp hU hF hA (C:=O.map fun x=>nm l x.toNat) _ k hk (Zq _) hkC;have hmay:mayB l O j=true:=by
   unfold mayB;rw [Zg,Bool.not_eq_true'];refine ⟨?_,?_⟩
   ·rw [←Bool.not_eq_true,bC];exact fun h=>h1 (List.mem_map.2 ⟨_,h,by rw [Zj]⟩)
   ·unfold Ai;rw [Zj,List.all_eq_true];intro s hs;obtain ⟨y,hy,he⟩:=List.mem_map.1 (h2 s hs);obtain ⟨k',rfl,hk'⟩:=ih y hy;rw [Zj] at he;rw [bC,←he,Ww,hU k' hk'];exact hy
  rcases cU (l:=l) (is:=(List.range l.length).map (mayB l O)) l.length with ⟨_,hno⟩|⟨k',h,hk',_,_⟩
  ·have:=hno j hj;rw [O6 hj,hmay] at this;cases this
  ·exact ⟨k',by rw [hx,h],hk'⟩
theorem lK {l:List V2} (h20:l.length≤20):∀ x∈(H8 l).1.l,∃ k:Nat,x=k∧k<l.length:=by
 intro x hx;unfold H8 at hx;split at hx
 ·cases hx
 rename_i hu;split at hx
 ·cases hx
 rename_i hf;cases hc:Xf 0 (bestN l ((List.range l.length).map (mA l)) l.length) with
 | true =>
  rw [hc] at hx;cases hx
 | false =>
  rw [hc] at hx;have hA:¬ Qd4 l:=fun h=>by
   rw [(Zo1 h20).2 h] at hc;cases hc
  exact Zar (Zlx.1 hu) (Zn9.1 hf) hA l.length (Zq _) x hx
end Go.Am.Ty.Gr
namespace Go.Am.Ty
open Go.Proofs Gr
open Enc (enc dec)
structure Tx9 where
 names:List (List UInt8)
 texts:List (List UInt8)
 deriving DecidableEq
instance encTx9:Enc Tx9:=⟨fun a=>.agg [.list 1 (a.names.map enc),.list 1 (a.texts.map enc)],fun x=>match x with
 | .agg [a,b]=>⟨a.l.map dec,b.l.map dec⟩
 | _=>⟨[],[]⟩,fun a=>by
  have h:∀ l:List (List UInt8),(l.map (enc:List UInt8→D)).map dec=l:=fun l=>Jq;cases a;simp [D.l,h]⟩
theorem jJ {a b:List (List UInt8)}:(enc (Tx9.mk a b):D)=.agg [.list 1 (a.map enc),.list 1 (b.map enc)]:=rfl
theorem jC {a b:List (List UInt8)}:(dec (.agg [.list 1 (a.map enc),.list 1 (b.map enc)]):Tx9)=⟨a,b⟩:=Enc.dec_enc (Tx9.mk a b)
theorem iJ {a b:List (List UInt8)}:V9 Tx9 (.agg [.list 1 (a.map enc),.list 1 (b.map enc)])=True:=eq_true (Xq (Tx9.mk a b))
structure Good9 (m:Mod6):Prop where
 name:m.name.length≤50
 short:∀ x∈m.imps,x.length≤1000000
 ilen:m.imps.length≤1502
 dlen:m.defs.length≤200
 fit:∀ d∈m.defs,FitD d
 ok:∀ d∈m.defs,d.t≠[]∧Xz d.t=true∧d.e≠[]
 right:∀ d∈m.defs,Uw d.e=true
 slen:m.sites.length≤1501
 cnt:∀ z,E0 z m.defs=if 1≤z∧z<(m.sites.length:Int)+1 then 1 else 0
theorem Zmw {name text:List UInt8} (hn:name.length≤50) (ht:text.length≤1500) (h:(Ts name text).2.2=0):Good9 (Ts name text).1:=by
 obtain ⟨hT,hTl⟩:=wF ht;unfold Ts at h ⊢;simp only at h ⊢;split at h
 ·exact absurd h (by assumption)
 rename_i h1;rw [if_neg h1];split at h
 ·exact absurd h (by assumption)
 rename_i h2;rw [if_neg h2];split at h
 ·exact absurd h (by show ¬ (4:Int)=0;decide)
 rename_i h3;rw [if_neg h3];obtain ⟨_,_,_,hok⟩:=rG hT name;obtain ⟨hM,_,_⟩:=hok (by simpa using h2)
 refine ⟨by show (Y2 (Pr text).1 name).1.name.length≤50;rw [hM.name];exact hn,hM.short,by have:=hM.ilen;show (Y2 (Pr text).1 name).1.imps.length≤1502;omega,hM.dlen,hM.fit,hM.ok,fun d hd=>?_,by have:=hM.slen;show (Y2 (Pr text).1 name).1.sites.length≤1501;omega,hM.cnt⟩
 refine Classical.byContradiction fun hr=>h3 ?_;unfold Zr7;rw [List.findIdx_lt_length];exact ⟨d,hd,by simpa using hr⟩
def S1:List (List UInt8)→List (List UInt8)→List Mod6→List Mod6×Bool
 | n::ns,t::ts,out=>if 50<n.length∨1500<t.length then ([],false) else if (Ts n t).2.2≠0 then ([],false) else S1 ns ts (out++[(Ts n t).1])
 | _,_,out=>(out,true)
def El (t:Tx9):List Mod6×Bool:=if t.names.length≠t.texts.length∨6<t.names.length then ([],false) else S1 t.names t.texts []
theorem qP:∀ (ns ts:List (List UInt8)) (out:List Mod6),(∀ m∈out,Good9 m)→∀ m∈(S1 ns ts out).1,Good9 m
 | [],_,out,h=>by rw [S1];exact h;intro a b c d e;cases e
 | _::_,[],out,h=>by rw [S1];exact h;intro a b c d e f;cases f
 | n::ns,t::ts,out,h=>by
  rw [S1];split
  ·intro m hm;cases hm
  rename_i h1;split
  ·intro m hm;cases hm
  rename_i h2;refine qP ns ts _ fun m hm=>?_;rcases List.mem_append.1 hm with hm|hm
  ·exact h m hm
  ·rw [Zp] at hm;subst hm;exact Zmw (by omega) (by omega) (by simpa using h2)
theorem wU:∀ (ns ts:List (List UInt8)) (out:List Mod6),(S1 ns ts out).1.length≤out.length+ns.length
 | [],_,out=>by rw [S1];exact Nat.le_add_right _ _;intro a b c d e;cases e
 | _::_,[],out=>by rw [S1];exact Nat.le_add_right _ _;intro a b c d e f;cases f
 | n::ns,t::ts,out=>by
  rw [S1];split
  ·simp
  split
  ·simp
  have:=wU ns ts (out++[(Ts n t).1]);simp only [Zf,Zi,List.length_nil] at this ⊢;omega
structure Goods (l:List Mod6):Prop where
 len:l.length≤6
 good:∀ m∈l,Good9 m
theorem Al (t:Tx9):Goods (El t).1:=by
 unfold El;split
 ·exact ⟨by simp,fun m hm=>(by cases hm)⟩
 ·have:=wU t.names t.texts [];simp only [List.length_nil] at this;exact ⟨by omega,qP _ _ _ fun m hm=>(by cases hm)⟩
theorem Goods.few {l:List Mod6} (h:Goods l):Zw6 l:=by
 refine ⟨by have:=h.len;omega,fun k=>?_⟩
 show (l.getD k m0).imps.length≤2000;rcases Nat.lt_or_ge k l.length with hk|hk
 ·rw [Zd,Zh hk];have:=(h.good _ (List.getElem_mem hk)).ilen;simp only [Option.getD_some];omega
 ·rw [Zd,List.getElem?_eq_none hk];simp [m0]
def cH:Con:=H1 (fun (_:Tx9)=>True) (fun t=>((⟨(El t).1⟩,(El t).2):Sl Mod6×Bool))
theorem qC {p:Prop} (h:p:=by (sym=>simp [Kt,Kc,Kd,Kb,Ku,Kw,Ko,X9,Uv,Po,Cx,Oj,kK,oB,Zbx,Zlp,Zlo,Ok,Qb,Qf,Z9,Qe,Qc,Qh,Qn,Q6,Je,Q4,Zu,Zx,Zw,Zz,Zy,Qd,Z1,Z0,Qi,Qk,Qs,Q8,Q5,Qy,Jh,Jg,Wb,Wn,Wx,W0,Wz,Gb,Ga,H3,H2,Hq,Hp,M4,M3,Nm,M0,Mz,Nz,My,Mx,Mw,D.setCell.eq_1,Y0.eq_def,Ju,Jt,Ru.eq_def,Wq,Wp,Js,Va,K0,Q9,Z7,Qo,Yt,jC,Kf,X3,Vi,Ye,Ji,Z2,Qg,Yc,jJ,Z6,Y8,Kv,Yb,Q7,Z5,Qm,Yr,iJ,Xt,Uz,Z4,Qp,eC,T1,Ee,Nu,Sx,Zll,Zlk,Zlj,Zli,Zlh,Zlg,Zlf,Zle,Zld,Zlc,Zlb,Zla,Zk9,Zk8,Zk7,Zk6,Zk5,Zk4,Zk3,Zk2,Zk1,Zk0,Zkz,Zky,Zkx,Zkw,Zkv,Zku,Zkt,Zks,Zkr,Zkq,Zkp,Zko,Zkn,Zkm,Zkl,Zkk,Zkj,Zki,Zkh,Zkg,Zkf,Zke,Zkd,Zkc,Zkb,Zka,Zj9,Zj8,Zj7,Zj6,Zj5,Zj4,Zj3,Zj2,Zj1,Zj0,Zjz,Zjy,Zjx,Zjw,Zjv,Zju,Zjt,Zjs,Zjr,Zjq,Zjp,Zjo,Zjn,Zjm,Zjl,Zjk,Zjj,Zji,Zjh,Zjg,Zjf,Zje,Zjd,Zjc,Zjb,Zja,Zi9,Zi8,Zi7,Zi6,Zi5,Zi4,Zi3,Zi2,Zi1,Zi0,Ziz,Ziy,Zix,Ziw,Ziv,Ziu,Zit,Zis,Zir,Ziq,Zip,Zio,Zin,Zim,Zil,Zik,Zij,Zii,Zih,Zig,Zif,Zie,Zid,Zic,Zib,Zia,Zh9,Zh8,Zh7,Zh6,Zh5,Zh4,Zh3,Zh2,Zh1,Zh0,Zhz,Zhy,Zhx,Zhw,Zhv,Zhu,Zht,Zhs,Zhr,Zhq,Zhp,Zho,Zhn,Zhm,Zhl,Zhk,Zhj,Zhi,Zhh,Zhg,Zhf,Zhe,Zhd,Zhc,Zhb,Zha,Zg9,Zg8,Zg7,Zg6,Zg5,Zg4,Zg3,Zg2,Zg1,Zg0,Zgz,Zgy,Zgx,Zgw,Zgv,Zgu,Zgt,Zgs,Zgr,Zgq,Zgp,Zgo,Zgn,Zgm,Zgl,Zgk,Zgj,Zgi,Zgh,Zgg,Zgf,Zge,Zgd,Zgc,Zgb,Zga,Zf9,Zf8,Zf7,Zf6,Zf5,Zf4,Zf3,Zf2,Zf1,Zf0,Zfz,Zfy,Zfx,Zfw,Zfv,Zfu,Zft,Zfs,Zfr,Zfq,Zfp,Zfo,Zfn,Zfm,Zfl,Zfk,Zfj,Zfi,Zfh,Zfg,Zff,Zfe,Zfd,Zfc,Zfb,Zfa,Ze9,Ze8,Ze7,Ze6,Ze5,Ze4,Ze3,Ze2,Ze1,Ze0,Zez,Zey,Zex,Zew,Zev,Zeu,Zet,Zes,Zer,Zeq,Zep,Zeo,Zen,Zem,Zel,Zek,Zej,Zei,Zeh,Zeg,Zef,Zee,Zed,Zec,Zeb,Zea,Zd9,Zd8,Zd7,Zd6,Zd5,Zd4,Zd3,Zd2,Zd1,Zd0,Zdz,Zdy,Zdx,Zdw,Zdv,Zdu,Zdt,Zds,Zdr,Zdq,Zdp,Zdo,Zdn,Zdm,Zdl,Zdk,Zdj,Zdi,Zdh,Zdg,Zdf,Zde,Zdd,Zdc,Zdb,Zda,Zc9,Zc8,Zc7,Zc6,Zc5,Zc4,Zc3,Zc2,Zc1,Zc0,Zcz,Zcy,Zcx,Zcw,Zcv,Zcu,Zct,Zcs,Zcr,Zcq,Zcp,Zco,Zcn,Zcm,Zcl,Zck,Zcj,Zci,Zch,Zcg,Zcf,Zce,Zcd,Zcc,Zcb,Zca,Zb9,Zb8,Zb7,Zb6,Zb5,Zb4,Zb3,Zb2,Zb1,Zb0,Zbz,Zby,Of,Oe,Od,Oc,Ob,Oa,Le,Ld,Lb,La,B9,B8,B7,B6,B5,B4,B3,B1,B0,Bz,Bx,Bw,Bv,Bu,Bt,Bs,Br,Bq,Bp,Bo,Bn,Bm,Bl,Hn,Hm,Hl,Hk,Hj,Hi,Hh,Hg,Hf,He,Hd,Hc,Hb,Ha,G9,G8,G7,G6,G5,G4,G3,Gz,Gy,Gx,Gw,Gv,Gu,Gt,Gq,Gp,Gn])):p:=h
theorem Wy {p:Prop} (h:p:=by
 (sym=>simp [Kt,Kc,Kd,Kb,Ku,Kw,Ko,X9,Uv,Po,Cx,Oj,kK,oB,Zbx,Zlp,Zlo,Ok,Qb,Qf,Z9,Qe,Qc,Qh,Qn,Q6,Je,Q4,Zu,Zx,Zw,Zz,Zy,Qd,Z1,Z0,Qi,Qk,Qs,Q8,Q5,Qy,Jh,Jg,Wb,Wn,Wx,W0,Wz,Gb,Ga,H3,H2,Hq,Hp,M4,M3,Nm,M0,Mz,Nz,My,Mx,Mw,D.setCell.eq_1,Y0.eq_def,Ju,Jt,Ru.eq_def,Wq,Wp,Js,Va,K0,Q9,Z7,Qo,Yt,jC,Kf,X3,Vi,Ye,Ji,Z2,Qg,Yc,jJ,Z6,Y8,Kv,Yb,Q7,Z5,Qm,Yr,iJ,Xt,Uz,Z4,Qp,eC,T1,Ee,Nu,Sx,Zll,Zlk,Zlj,Zli,Zlh,Zlg,Zlf,Zle,Zld,Zlc,Zlb,Zla,Zk9,Zk8,Zk7,Zk6,Zk5,Zk4,Zk3,Zk2,Zk1,Zk0,Zkz,Zky,Zkx,Zkw,Zkv,Zku,Zkt,Zks,Zkr,Zkq,Zkp,Zko,Zkn,Zkm,Zkl,Zkk,Zkj,Zki,Zkh,Zkg,Zkf,Zke,Zkd,Zkc,Zkb,Zka,Zj9,Zj8,Zj7,Zj6,Zj5,Zj4,Zj3,Zj2,Zj1,Zj0,Zjz,Zjy,Zjx,Zjw,Zjv,Zju,Zjt,Zjs,Zjr,Zjq,Zjp,Zjo,Zjn,Zjm,Zjl,Zjk,Zjj,Zji,Zjh,Zjg,Zjf,Zje,Zjd,Zjc,Zjb,Zja,Zi9,Zi8,Zi7,Zi6,Zi5,Zi4,Zi3,Zi2,Zi1,Zi0,Ziz,Ziy,Zix,Ziw,Ziv,Ziu,Zit,Zis,Zir,Ziq,Zip,Zio,Zin,Zim,Zil,Zik,Zij,Zii,Zih,Zig,Zif,Zie,Zid,Zic,Zib,Zia,Zh9,Zh8,Zh7,Zh6,Zh5,Zh4,Zh3,Zh2,Zh1,Zh0,Zhz,Zhy,Zhx,Zhw,Zhv,Zhu,Zht,Zhs,Zhr,Zhq,Zhp,Zho,Zhn,Zhm,Zhl,Zhk,Zhj,Zhi,Zhh,Zhg,Zhf,Zhe,Zhd,Zhc,Zhb,Zha,Zg9,Zg8,Zg7,Zg6,Zg5,Zg4,Zg3,Zg2,Zg1,Zg0,Zgz,Zgy,Zgx,Zgw,Zgv,Zgu,Zgt,Zgs,Zgr,Zgq,Zgp,Zgo,Zgn,Zgm,Zgl,Zgk,Zgj,Zgi,Zgh,Zgg,Zgf,Zge,Zgd,Zgc,Zgb,Zga,Zf9,Zf8,Zf7,Zf6,Zf5,Zf4,Zf3,Zf2,Zf1,Zf0,Zfz,Zfy,Zfx,Zfw,Zfv,Zfu,Zft,Zfs,Zfr,Zfq,Zfp,Zfo,Zfn,Zfm,Zfl,Zfk,Zfj,Zfi,Zfh,Zfg,Zff,Zfe,Zfd,Zfc,Zfb,Zfa,Ze9,Ze8,Ze7,Ze6,Ze5,Ze4,Ze3,Ze2,Ze1,Ze0,Zez,Zey,Zex,Zew,Zev,Zeu,Zet,Zes,Zer,Zeq,Zep,Zeo,Zen,Zem,Zel,Zek,Zej,Zei,Zeh,Zeg,Zef,Zee,Zed,Zec,Zeb,Zea,Zd9,Zd8,Zd7,Zd6,Zd5,Zd4,Zd3,Zd2,Zd1,Zd0,Zdz,Zdy,Zdx,Zdw,Zdv,Zdu,Zdt,Zds,Zdr,Zdq,Zdp,Zdo,Zdn,Zdm,Zdl,Zdk,Zdj,Zdi,Zdh,Zdg,Zdf,Zde,Zdd,Zdc,Zdb,Zda,Zc9,Zc8,Zc7,Zc6,Zc5,Zc4,Zc3,Zc2,Zc1,Zc0,Zcz,Zcy,Zcx,Zcw,Zcv,Zcu,Zct,Zcs,Zcr,Zcq,Zcp,Zco,Zcn,Zcm,Zcl,Zck,Zcj,Zci,Zch,Zcg,Zcf,Zce,Zcd,Zcc,Zcb,Zca,Zb9,Zb8,Zb7,Zb6,Zb5,Zb4,Zb3,Zb2,Zb1,Zb0,Zbz,Zby,Of,Oe,Od,Oc,Ob,Oa,Le,Ld,Lb,La,B9,B8,B7,B6,B5,B4,B3,B1,B0,Bz,Bx,Bw,Bv,Bu,Bt,Bs,Br,Bq,Bp,Bo,Bn,Bm,Bl,Hn,Hm,Hl,Hk,Hj,Hi,Hh,Hg,Hf,He,Hd,Hc,Hb,Ha,G9,G8,G7,G6,G5,G4,G3,Gz,Gy,Gx,Gw,Gv,Gu,Gt,Gq,Gp,Gn];tactic =>
   try simp only [I4] at *
   try simp only [Zw8] at *
   try simp (maxSteps:=4000000) only [Qb,Qf,Z9,Qe,Qc,Qh,Qn,Q6,Je,Q4,Zu,Zx,Zw,Zz,Zy,Qd,Z1,Z0,Qi,Qk,Qs,Q8,Q5,Qy,Jh,Jg,Wb,Wn,Wx,W0,Wz,Gb,Ga,H3,H2,Hq,Hp,M4,M3,Nm,M0,Mz,Nz,My,Mx,Mw,D.setCell.eq_1,Y0.eq_def,Ju,Jt,Ru.eq_def,Wq,Wp,Js,Va,K0,Q9,Z7,Qo,Yt,jC,Kf,X3,Vi,Ye,Ji,Z2,Qg,Yc,jJ,Z6,Y8,Kv,Yb,Q7,Z5,Qm,Yr,iJ,Xt,Uz,Z4,Qp,eC,T1,Ee,Nu,Sx,oC]
   first|done|exact Kq.k)):p:=h
theorem Af {p:Prop} (h:p:=by
 first|(sym=>simp [Kt,Kc,Kd,Kb,Ku,Kw,Ko,X9,Uv,Po,Cx,Oj,kK,oB,Zbx,Zlp,Zlo,Ok,Qb,Qf,Z9,Qe,Qc,Qh,Qn,Q6,Je,Q4,Zu,Zx,Zw,Zz,Zy,Qd,Z1,Z0,Qi,Qk,Qs,Q8,Q5,Qy,Jh,Jg,Wb,Wn,Wx,W0,Wz,Gb,Ga,H3,H2,Hq,Hp,M4,M3,Nm,M0,Mz,Nz,My,Mx,Mw,D.setCell.eq_1,Y0.eq_def,Ju,Jt,Ru.eq_def,Wq,Wp,Js,Va,K0,Q9,Z7,Qo,Yt,jC,Kf,X3,Vi,Ye,Ji,Z2,Qg,Yc,jJ,Z6,Y8,Kv,Yb,Q7,Z5,Qm,Yr,iJ,Xt,Uz,Z4,Qp,eC,T1,Ee,Nu,Sx,Zll,Zlk,Zlj,Zli,Zlh,Zlg,Zlf,Zle,Zld,Zlc,Zlb,Zla,Zk9,Zk8,Zk7,Zk6,Zk5,Zk4,Zk3,Zk2,Zk1,Zk0,Zkz,Zky,Zkx,Zkw,Zkv,Zku,Zkt,Zks,Zkr,Zkq,Zkp,Zko,Zkn,Zkm,Zkl,Zkk,Zkj,Zki,Zkh,Zkg,Zkf,Zke,Zkd,Zkc,Zkb,Zka,Zj9,Zj8,Zj7,Zj6,Zj5,Zj4,Zj3,Zj2,Zj1,Zj0,Zjz,Zjy,Zjx,Zjw,Zjv,Zju,Zjt,Zjs,Zjr,Zjq,Zjp,Zjo,Zjn,Zjm,Zjl,Zjk,Zjj,Zji,Zjh,Zjg,Zjf,Zje,Zjd,Zjc,Zjb,Zja,Zi9,Zi8,Zi7,Zi6,Zi5,Zi4,Zi3,Zi2,Zi1,Zi0,Ziz,Ziy,Zix,Ziw,Ziv,Ziu,Zit,Zis,Zir,Ziq,Zip,Zio,Zin,Zim,Zil,Zik,Zij,Zii,Zih,Zig,Zif,Zie,Zid,Zic,Zib,Zia,Zh9,Zh8,Zh7,Zh6,Zh5,Zh4,Zh3,Zh2,Zh1,Zh0,Zhz,Zhy,Zhx,Zhw,Zhv,Zhu,Zht,Zhs,Zhr,Zhq,Zhp,Zho,Zhn,Zhm,Zhl,Zhk,Zhj,Zhi,Zhh,Zhg,Zhf,Zhe,Zhd,Zhc,Zhb,Zha,Zg9,Zg8,Zg7,Zg6,Zg5,Zg4,Zg3,Zg2,Zg1,Zg0,Zgz,Zgy,Zgx,Zgw,Zgv,Zgu,Zgt,Zgs,Zgr,Zgq,Zgp,Zgo,Zgn,Zgm,Zgl,Zgk,Zgj,Zgi,Zgh,Zgg,Zgf,Zge,Zgd,Zgc,Zgb,Zga,Zf9,Zf8,Zf7,Zf6,Zf5,Zf4,Zf3,Zf2,Zf1,Zf0,Zfz,Zfy,Zfx,Zfw,Zfv,Zfu,Zft,Zfs,Zfr,Zfq,Zfp,Zfo,Zfn,Zfm,Zfl,Zfk,Zfj,Zfi,Zfh,Zfg,Zff,Zfe,Zfd,Zfc,Zfb,Zfa,Ze9,Ze8,Ze7,Ze6,Ze5,Ze4,Ze3,Ze2,Ze1,Ze0,Zez,Zey,Zex,Zew,Zev,Zeu,Zet,Zes,Zer,Zeq,Zep,Zeo,Zen,Zem,Zel,Zek,Zej,Zei,Zeh,Zeg,Zef,Zee,Zed,Zec,Zeb,Zea,Zd9,Zd8,Zd7,Zd6,Zd5,Zd4,Zd3,Zd2,Zd1,Zd0,Zdz,Zdy,Zdx,Zdw,Zdv,Zdu,Zdt,Zds,Zdr,Zdq,Zdp,Zdo,Zdn,Zdm,Zdl,Zdk,Zdj,Zdi,Zdh,Zdg,Zdf,Zde,Zdd,Zdc,Zdb,Zda,Zc9,Zc8,Zc7,Zc6,Zc5,Zc4,Zc3,Zc2,Zc1,Zc0,Zcz,Zcy,Zcx,Zcw,Zcv,Zcu,Zct,Zcs,Zcr,Zcq,Zcp,Zco,Zcn,Zcm,Zcl,Zck,Zcj,Zci,Zch,Zcg,Zcf,Zce,Zcd,Zcc,Zcb,Zca,Zb9,Zb8,Zb7,Zb6,Zb5,Zb4,Zb3,Zb2,Zb1,Zb0,Zbz,Zby,Of,Oe,Od,Oc,Ob,Oa,Le,Ld,Lb,La,B9,B8,B7,B6,B5,B4,B3,B1,B0,Bz,Bx,Bw,Bv,Bu,Bt,Bs,Br,Bq,Bp,Bo,Bn,Bm,Bl,Hn,Hm,Hl,Hk,Hj,Hi,Hh,Hg,Hf,He,Hd,Hc,Hb,Ha,G9,G8,G7,G6,G5,G4,G3,Gz,Gy,Gx,Gw,Gv,Gu,Gt,Gq,Gp,Gn];tactic =>
   try simp only [I4] at *
   try simp only [Zw8] at *
   try simp (maxSteps:=4000000) only [Qb,Qf,Z9,Qe,Qc,Qh,Qn,Q6,Je,Q4,Zu,Zx,Zw,Zz,Zy,Qd,Z1,Z0,Qi,Qk,Qs,Q8,Q5,Qy,Jh,Jg,Wb,Wn,Wx,W0,Wz,Gb,Ga,H3,H2,Hq,Hp,M4,M3,Nm,M0,Mz,Nz,My,Mx,Mw,D.setCell.eq_1,Y0.eq_def,Ju,Jt,Ru.eq_def,Wq,Wp,Js,Va,K0,Q9,Z7,Qo,Yt,jC,Kf,X3,Vi,Ye,Ji,Z2,Qg,Yc,jJ,Z6,Y8,Kv,Yb,Q7,Z5,Qm,Yr,iJ,Xt,Uz,Z4,Qp,eC,T1,Ee,Nu,Sx,oC]
   repeat' first|with_reducible assumption|with_reducible apply Zb|intro _|omega|(rw [Xr];omega)
   all_goals first|with_reducible exact Jd|omega|rfl|trivial|exact Or.inr trivial|assumption|contradiction|exact Qw)|exact qC):p:=h
structure Kgm:Prop
theorem Kgm.k (_:Kgm) (h:p:=by
 repeat' first|exact Z8|with_reducible apply Zb|intro _
 all_goals first|with_reducible exact Jd|omega|rfl|trivial|exact ⟨(k+1,out++[⟨mn,mi,md,ms⟩]),by (have Km:=@Ji;exact Qw),by omega,by simp;omega,hL,by omega⟩|skip):p:=h
structure Kgl:Prop
theorem Kgl.k (_:Kgl) (h:p:=by
 repeat' first|exact Z8|with_reducible apply Zb|intro _
 refine Zm [2,3,6,7,8,23,24,25,26,27,28,29,30,31,32,33,34,35,36,37,38,39,40,41,42,43,44,45,46,47,48,49,50,51,52,53,54,55,56,57,58,59,60,61,62,63,64,65,66] (fun p:Nat×List Mod6=>[(5,.d (.int .i64 p.1)),(4,.sl 9 (p.2.map (enc:Mod6→D)).length)]) (fun p:Nat×List Mod6=>[(9,.row 4 (p.2.map enc) 0)]) (fun p:Nat×List Mod6=>p.1≤names.length∧p.2.length=p.1∧S1 (names.drop p.1) (texts.drop p.1) p.2=R) (fun p:Nat×List Mod6=>names.length-p.1) (0,[]) ?_ ?_ ?_
 ·exact ⟨by omega,rfl,hR2⟩
 ·exact Qw
 rintro ⟨k,out⟩ ⟨hk,hol,hL⟩;simp only at hk hol hL;rcases Zo k names.length with ⟨hlt,Qe⟩|⟨hlt,Qe⟩
 ·have hlt2:k<texts.length:=by omega
  have Qc:=Zr ([]:List UInt8) hlt;have Qh:=Zr ([]:List UInt8) hlt2;rw [List.drop_eq_getElem_cons hlt,List.drop_eq_getElem_cons hlt2,S1] at hL;have e1:names.getD k []=names[k]:=by simp [hlt]
  have e2:texts.getD k []=texts[k]:=by simp [hlt2]
  rw [←e1,←e2] at hL;obtain ⟨n,hn⟩:=exq (names.getD k []);obtain ⟨t,ht⟩:=exq (texts.getD k []);rw [hn] at Qc hL;rw [ht] at Qh hL;clear e1 e2;rcases V5 50 (n.length:Int) with ⟨h1,Qn⟩|⟨h1,Qn⟩
  ·rw [if_pos (.inl (by omega))] at hL
   subst hL;exact Af
  rcases V5 1500 (t.length:Int) with ⟨h2,Q6⟩|⟨h2,Q6⟩
  ·rw [if_pos (.inr (by omega))] at hL
   subst hL;exact Af
  rw [if_neg (by omega)] at hL
  obtain ⟨⟨⟨mn,mi,md,ms⟩,a,e⟩,Je⟩:=exq (Ts n t);rw [Je] at hL;simp only at hL;by_cases he:e=0
  case neg =>
   rw [if_pos he] at hL;have Q4:(e != 0)=true:=bne_iff_ne.2 he;subst hL;exact Af
  rw [if_neg (by simpa using he)] at hL
  have Q4:(e != 0)=false:=by rw [bne_eq_false_iff_eq];exact he
  have Kq:Kgm:=⟨⟩;exact Wy
 ·have hke:k=names.length:=by omega
  rw [hke,List.drop_length,S1] at hL;rotate_left
  ·intro a b c d e;cases e
  rw [hke] at Qe;subst hL;exact Af):p:=h
theorem good_Read9:Qa Tryz.prog (25,cH):=by
 obtain ⟨Kx,Kt,Kc,Kd,Kb,Ku,Kw,K,X9,_⟩:=Xe Zv Zn [] false (Q0 good_Parse6 Im.eq_def Xd);have Ko:=cH.eq_def;refine Xj K Tryz.func25 [.tmp 2,.tmp 3] rfl 68 rfl (fun c hc cvs hpre=>?_);unfold cH at hpre;obtain ⟨⟨names,texts⟩,rfl,-⟩:=zY hpre;clear hpre;obtain ⟨R,Qf⟩:=exq (El ⟨names,texts⟩);have hR2:=Qf;unfold El at hR2;simp only at hR2;cases hc;refine Y4 4 ?_;by_cases hlen:names.length=texts.length
 case neg =>
  rw [if_pos (.inl hlen)] at hR2;have Qb:((names.length:Int) != (texts.length:Int))=true:=by rw [bne_iff_ne];omega
  subst hR2;exact Af
 have Qb:((names.length:Int) != (texts.length:Int))=false:=by rw [hlen,bne_self_eq_false]
 rcases V5 6 (names.length:Int) with ⟨h6,Z9⟩|⟨h6,Z9⟩
 ·rw [if_pos (.inr (by omega))] at hR2
  subst hR2;exact Af
 rw [if_neg (by omega)] at hR2
 have Kq:Kgl:=⟨⟩;exact Wy
def Mf (l:List Mod6) (O:List Int):List Mod6:=O.map fun x=>l.getD x.toNat Jx
def Wf (t:Tx9):List Mod6×Bool:=if (El t).2=false then ([],false) else (Mf (El t).1 (H8 (El t).1).1.l,(H8 (El t).1).2.2==0)
def Cp:Con:=H1 (fun (_:Tx9)=>True) (fun t=>((⟨(Wf t).1⟩,(Wf t).2):Sl Mod6×Bool))
theorem Zs0 {l:List V2} (h:l.length≤20):(H8 l).1.l.length≤20:=by
 unfold H8;split
 ·simp
 split
 ·simp
 cases Xf 0 (bestN l ((List.range l.length).map (mA l)) l.length) with
 | true=>simp
 | false =>
  show (K7 l l.length).length≤20;rw [Ke];exact h
structure Kgo:Prop
theorem Kgo.k (_:Kgo) (h:p:=by
 repeat' first|exact Z8|with_reducible apply Zb|intro _
 all_goals first|with_reducible exact Jd|omega|rfl|trivial|exact ⟨k+1,by (have Km:=hst;have Fg:=@Zoo;exact Qw),by omega,by omega⟩|skip):p:=h
structure Kgn:Prop
theorem Kgn.k (_:Kgn) (h:p:=by
 repeat' first|exact Z8|with_reducible apply Zb|intro _
 all_goals first|exact hF|skip
 refine Zm [25,26,27,28,29,30,31,32,33,34,35,36,37,38,39,40] (fun k:Nat=>[(10,.d (.int .i64 k)),(9,.sl 24 ((Mf l (O.take k)).map (enc:Mod6→D)).length)]) (fun k:Nat=>[(24,.row 4 ((Mf l (O.take k)).map enc) 0)]) (fun k:Nat=>k≤O.length) (fun k:Nat=>O.length-k) 0 ?_ ?_ ?_
 ·omega
 ·have Km:=@Mf.eq_1;exact Qw
 rintro k hk;have hpl:(Mf l (O.take k)).length≤20:=by unfold Mf;rw [Zl,List.length_take];omega
 rcases Zo k O.length with ⟨hlt,Qe⟩|⟨hlt,Qe⟩
 ·have Qc:=Zr (0:Int) hlt;obtain ⟨j,hj,hjl⟩:=hin (O.getD k 0) (by simp [hlt])
  have Qh:=Zr Jx hjl;have hst:Mf l (O.take (k+1))=Mf l (O.take k)++[l.getD j Jx]:=by
   unfold Mf;rw [Vd (0:Int) hlt,List.map_append];simp only [List.map_cons,List.map_nil];rw [hj,Zj]
  rw [hj] at Qc;obtain ⟨P,hP⟩:=exq (Mf l (O.take k));rw [hP] at hst hpl ⊢;obtain ⟨m,hm⟩:=exq (l.getD j Jx);rw [hm] at Qh hst;clear hin hF hG;have Qn:=@Zoo;have Kq:Kgo:=⟨⟩;exact Wy
 ·have hke:k=O.length:=by omega
  rw [hke,List.take_length];rw [hke] at Qe;subst hR2;exact Af):p:=h
theorem good_Program9:Qa Tryz.prog (12,Cp):=by
 obtain ⟨Kx,Kt,Kc,Kd,Kb,Ku,Kw,K,X9,Uv,_⟩:=Xe Zv Zn [] false (Q0 good_Read9 cH.eq_def (Q0 good_Order8 Io.eq_def Xd));have Ko:=Cp.eq_def;refine Xj K Tryz.func12 [.tmp 2,.tmp 3] rfl 44 rfl (fun c hc cvs hpre=>?_);unfold Cp at hpre;obtain ⟨⟨names,texts⟩,rfl,-⟩:=zY hpre;clear hpre;obtain ⟨R,Qf⟩:=exq (Wf ⟨names,texts⟩);have hR2:=Qf;unfold Wf at hR2;have hG:=Al ⟨names,texts⟩;have hF:=hG.few;have h20:=hF.1;have hin:=lK h20;have hol:=Zs0 h20;obtain ⟨⟨l,ok⟩,Qb⟩:=exq (El ⟨names,texts⟩);rw [Qb] at hR2 hG hF h20 hin hol;simp only at hR2 hG hF h20 hin hol;cases hc;refine Y4 2 ?_;cases ok with
 | false =>
  rw [if_pos rfl] at hR2;subst hR2;exact Af
 | true =>
  rw [if_neg (by simp)] at hR2
  obtain ⟨⟨⟨O⟩,b,e⟩,Z9⟩:=exq (H8 l);rw [Z9] at hR2 hin hol;simp only at hR2 hin hol;have Kq:Kgn:=⟨⟩;exact Wy
theorem dE (t:Tx9):(Wf t).1.length≤20∧∀ m∈(Wf t).1,Good9 m:=by
 have hG:=Al t;have h20:=hG.few.1;unfold Wf;split
 ·exact ⟨by simp,fun m hm=>(by cases hm)⟩
 ·refine ⟨by show (Mf _ _).length≤20;unfold Mf;rw [Zl];exact Zs0 h20,fun m hm=>?_⟩
  obtain ⟨x,hx,rfl⟩:=List.mem_map.1 hm;obtain ⟨k,rfl,hk⟩:=lK h20 x hx;rw [Zj,Zd,Zh hk];exact hG.good _ (List.getElem_mem hk)
def ah (l:List Mod6) (k:Nat):Nat:=((l.take k).map fun m=>m.sites.length).sum
structure SitesOk (l:List Mod6):Prop where
 len:l.length≤20
 sites:∀ m∈l,m.sites.length≤2000
theorem Zt2 (l:List Mod6):ah l 0=0:=rfl
theorem Zbo {l:List Mod6} {k:Nat} (h:k<l.length):ah l (k+1)=ah l k+(l.getD k Jx).sites.length:=by
 unfold ah;rw [Vd Jx h,List.map_append,List.sum_append];simp
theorem Qcw {l:List Mod6} (h:SitesOk l):∀ k,k≤l.length→ah l k≤2000*k
 | 0,_=>Zq _
 | k+1,hk=>by
  have ih:=Qcw h k (by omega)
  rw [Zbo (by omega)]
  have:=h.sites (l.getD k Jx) (by rw [Zd,Zh (show k<l.length by omega)];exact List.getElem_mem _)
  omega
def Ma {α:Type} (f:Nat→α→α) (l:List α) (k:Nat):List α:=(l.take k).mapIdx f++l.drop k
section
variable {α:Type} {f:Nat→α→α} {l:List α}
theorem Py (k:Nat):(Ma f l k).length=l.length:=by
 unfold Ma;simp;omega
theorem Md:Ma f l 0=l:=by simp [Ma]
theorem Me:Ma f l l.length=l.mapIdx f:=by simp [Ma]
theorem Dj (d:α) {k:Nat} (h:k<l.length):(Ma f l k).getD k d=l.getD k d:=by
 unfold Ma;rw [Zd,List.getElem?_append_right (by simp;omega)]
 simp [show min k l.length=k by omega,Zd]
theorem Px (d:α) {k:Nat} (h:k<l.length):(Ma f l k).set k (f k (l.getD k d))=Ma f l (k+1):=by
 unfold Ma;rw [List.set_append_right _ _ (by simp;omega),Vd d h,List.mapIdx_append]
 simp only [List.length_mapIdx,List.length_take,show min k l.length=k by omega,Nat.sub_self]
 rw [List.drop_eq_getElem_cons h,Jm];simp
theorem Zyd (d:α) {k:Nat} (h:k<l.length) (e:f k (l.getD k d)=l.getD k d):Ma f l (k+1)=Ma f l k:=by
 rw [←Px d h,e,←Dj d h (f:=f)];have h2:k<(Ma f l k).length:=by rw [Py];exact h
 rw [Zd,Zh h2];simp
end
theorem Yp {α:Type} [Enc α] {l:List α} {k:Nat} {y:α}:(l.map (enc:α→D)).set k (enc y)=(l.set k y).map enc:=(List.map_set ..).symm
def D9:Con:=Kg (fun (t:Sl Part)=>t.l.length≤1000000) (fun t=>t.l)
structure Kgp:Prop
theorem Kgp.k (_:Kgp) (h:p:=by
 repeat' first|exact Z8|with_reducible apply Zb|intro _
 all_goals first|omega|(simp_all;done)|skip):p:=h
theorem good_cloneE:Qa Tryz.prog (46,D9):=by
 obtain ⟨Kx,Kt,Kc,Kd,Kb,Ku,Kw,K,_⟩:=Xe Zv Zn [4] false Xd;have Ko:=D9.eq_def;refine Xj K Tryz.func46 [.tmp 2] rfl 8 rfl (fun c hc cvs hpre=>?_);unfold D9 at hpre;obtain ⟨⟨t⟩,rfl,ht⟩:=cO hpre;simp only at ht;clear hpre;cases hc;have Kq:Kgp:=⟨⟩;exact Wy
def Gl:Con:=Kg (fun (t:Sl Def6)=>t.l.length≤1000000) (fun t=>t.l)
structure Kgq:Prop
theorem Kgq.k (_:Kgq) (h:p:=by
 repeat' first|exact Z8|with_reducible apply Zb|intro _
 all_goals first|omega|(simp_all;done)|skip):p:=h
theorem good_cloneDefs:Qa Tryz.prog (45,Gl):=by
 obtain ⟨Kx,Kt,Kc,Kd,Kb,Ku,Kw,K,_⟩:=Xe Zv Zn [4] false Xd;have Ko:=Gl.eq_def;refine Xj K Tryz.func45 [.tmp 2] rfl 8 rfl (fun c hc cvs hpre=>?_);unfold Gl at hpre;obtain ⟨⟨t⟩,rfl,ht⟩:=cO hpre;simp only at ht;clear hpre;cases hc;have Kq:Kgq:=⟨⟩;exact Wy
def Gk:Con:=Kg (fun (t:Sl Mod6)=>t.l.length≤1000000) (fun t=>t.l)
structure Kgr:Prop
theorem Kgr.k (_:Kgr) (h:p:=by
 repeat' first|exact Z8|with_reducible apply Zb|intro _
 all_goals first|omega|(simp_all;done)|skip):p:=h
theorem good_cloneMods:Qa Tryz.prog (42,Gk):=by
 obtain ⟨Kx,Kt,Kc,Kd,Kb,Ku,Kw,K,_⟩:=Xe Zv Zn [4] false Xd;have Ko:=Gk.eq_def;refine Xj K Tryz.func42 [.tmp 2] rfl 8 rfl (fun c hc cvs hpre=>?_);unfold Gk at hpre;obtain ⟨⟨t⟩,rfl,ht⟩:=cO hpre;simp only at ht;clear hpre;cases hc;have Kq:Kgr:=⟨⟩;exact Wy
def Yw (by_:Int) (n:Node):Node:=if n.kind=0∧0<n.n then ⟨n.kind,n.name,n.n+by_⟩ else n
def Ho (by_:Int) (t:List Node):List Node:=t.mapIdx fun _=>Yw by_
end Go.Am.Ty
namespace Go.Am
theorem Iz {C:Ctx} {c:Code} {Q:AExit→AS→Prop} {st:AS} (ks:List Nat) (i:Nat) (kills:List Nat) {α:Type} (vals:α→List (Nat×AV)) (objs:α→List (Nat×Obj)) (ok:α→Prop) (μ:α→Nat) (a0:α) (h0:ok a0)
  (hw:Qd8 ks st (Sh st kills (vals a0) (objs a0))) (h:∀ a,ok a→Shut (Li C c (kV (fun s'=>∃ a',Qgh i s' (Sh st kills (vals a') (objs a'))∧ok a'∧μ a'<μ a) Q) (Sh st kills (vals a) (objs a)))):Zt3 C c Q st :=
 ⟨α,fun a=>Sh st kills (vals a) (objs a),ok,μ,Qgh i,fun _ _ h=>.inr (.inr (.inl ⟨i,h⟩)),⟨a0,⟨ks,hw⟩,h0⟩,fun a ha=>(h a ha).out⟩
end Go.Am
namespace Go.Am.Ty
open Go.Proofs Gr
open Enc (enc dec)
theorem Ly {α:Type} [Enc α] {l:List α} {k:Nat} {y:α} (h:k<l.length):el ((l.set k y).map (enc:α→D)) k=enc y:=by
 unfold el;rw [Zd];simp [h]
theorem Qdk {l:List D} {k:Nat} {y:D} (h:k<l.length):el (l.set k y) k=y:=by
 unfold el;rw [Zd];simp [h]
def Uf (b:Int) (p:Part):Part:=⟨p.kind,p.label,p.name,p.bind,p.many,p.num,Ho b p.t,Ho b p.u⟩
def V3 (b:Int) (d:Def6):Def6:=⟨d.name,Ho b d.t,d.e.mapIdx fun _=>Uf b⟩
def Ug (l:List Mod6) (k:Nat) (m:Mod6):Mod6:=⟨m.name,m.imps,m.defs.mapIdx fun _=>V3 (ah l k),m.sites⟩
def T6 (l:List Mod6):Sl Mod6×Int×Int:=if 60<ah l l.length then (⟨[]⟩,0,11) else (⟨l.mapIdx (Ug l)⟩,(ah l l.length:Int),0)
def Qag (t:List Node):Prop:=t.length≤1000000∧∀ n∈t,n.kind=0→n.n≤1000000
structure LowD (d:Def6):Prop where
 t:Qag d.t
 len:d.e.length≤1000000
 e:∀ p∈d.e,Qag p.t∧Qag p.u
structure NumOk (l:List Mod6):Prop where
 sites:SitesOk l
 len:∀ m∈l,m.defs.length≤1000
 low:∀ m∈l,∀ d∈m.defs,LowD d
def Fw {α:Type} (w:α→Nat) (l:List α):Nat:=(l.map w).sum
theorem Zuc {α:Type} {w:α→Nat} {l:List α} {k:Nat} (d:α) (h:k<l.length):Fw w (l.take (k+1))=Fw w (l.take k)+w (l.getD k d):=by
 unfold Fw;rw [Vd d h,List.map_append,List.sum_append];simp
def mB (z:Int) (l:List Mod6):Nat:=Fw (fun m=>Fw (Tt z) m.defs) l
theorem Zwh {b z:Int} (hb:0≤b) (hz:1≤z) (n:Node):Yh z (Yw b n)=if 1≤z-b then Yh (z-b) n else 0:=by
 obtain ⟨k,s,v⟩:=n;unfold Yw Yh;simp only;split
 ·rename_i h;simp only;split
  ·rw [if_pos (by omega),if_pos ⟨h.1,by omega⟩]
  ·rename_i h2;split
   ·rw [if_neg (fun e=>h2 ⟨h.1,by omega⟩)]
   ·rfl
 ·rename_i h;have h:¬ (k=0∧0<v):=h;rw [if_neg (fun e:k=0∧v=z=>h ⟨e.1,by omega⟩)]
  split
  ·rw [if_neg (fun e:k=0∧v=z-b=>h ⟨e.1,by omega⟩)]
  ·rfl
theorem Qbv {b z:Int} (hb:0≤b) (hz:z<0) (n:Node):Yh z (Yw b n)=Yh z n:=by
 obtain ⟨k,s,v⟩:=n;unfold Yw Yh;simp only;split
 ·rename_i h;simp only;rw [if_neg (by omega),if_neg (by omega)]
 ·rfl
theorem Pd {α:Type} {w w':α→Nat} {f:α→α} (h:∀ x,w (f x)=w' x) (l:List α):Fw w (l.mapIdx fun _=>f)=Fw w' l:=by
 have:(l.mapIdx fun _=>f)=l.map f:=by
  apply List.ext_getElem?;intro i;simp
 rw [this];unfold Fw;rw [List.map_map]
 congr 1
 exact List.map_congr_left fun x _=>h x
theorem kF {α:Type} {l:List α}:Fw (fun _=>0) l=0:=by
 unfold Fw
 induction l with
 | nil=>rfl
 | cons x l ih=>rw [List.map_cons,List.sum_cons,ih]
theorem rA {b z:Int} (hb:0≤b) (hz:1≤z) (t:List Node):Jw (Yh z) (Ho b t)=if 1≤z-b then Jw (Yh (z-b)) t else 0:=by
 have:=Pd (w:=Yh z) (w':=fun n=>if 1≤z-b then Yh (z-b) n else 0) (f:=Yw b) (Zwh hb hz) t
 split
 ·rename_i h;simp only [if_pos h] at this;exact this
 ·rename_i h;simp only [if_neg h,kF] at this;exact this
theorem Zm2 {b z:Int} (hb:0≤b) (hz:z<0) (t:List Node):Jw (Yh z) (Ho b t)=Jw (Yh z) t :=
 Pd (w:=Yh z) (w':=Yh z) (f:=Yw b) (Qbv hb hz) t
theorem Zqj {b z:Int} (hb:0≤b) (hz:1≤z) (p:Part):J9 z (Uf b p)=if 1≤z-b then J9 (z-b) p else 0:=by
 unfold J9 Uf;simp only [rA hb hz];split<;>rfl
theorem Zwi {b z:Int} (hb:0≤b) (hz:1≤z) (d:Def6):Tt z (V3 b d)=if 1≤z-b then Tt (z-b) d else 0:=by
 unfold Tt V3;simp only [rA hb hz];have:=Pd (w:=J9 z) (w':=fun p=>if 1≤z-b then J9 (z-b) p else 0) (f:=Uf b) (Zqj hb hz) d.e
 split
 ·rename_i h;simp only [if_pos h] at this;unfold X5;unfold Fw at this;rw [this]
 ·rename_i h;simp only [if_neg h,kF] at this;unfold X5;unfold Fw at this;rw [this]
theorem Qbw {b z:Int} (hb:0≤b) (hz:z<0) (d:Def6):Tt z (V3 b d)=Tt z d:=by
 unfold Tt V3;simp only [Zm2 hb hz];have:=Pd (w:=J9 z) (w':=J9 z) (f:=Uf b) (fun p=>by unfold J9 Uf;simp only [Zm2 hb hz]) d.e
 unfold X5;unfold Fw at this;rw [this]
theorem Zvj {l:List Mod6} {k:Nat} {z:Int} {m:Mod6} (hz:1≤z) (hm:∀ z,E0 z m.defs=if 1≤z∧z<(m.sites.length:Int)+1 then 1 else 0) :
  Fw (Tt z) (Ug l k m).defs=if (ah l k:Int)<z∧z≤(ah l k:Int)+m.sites.length then 1 else 0:=by
 unfold Ug;simp only;rw [Pd (Zwi (by omega) hz)]
 by_cases h:1≤z-(ah l k:Int)
 ·simp only [if_pos h];have:=hm (z-ah l k);unfold E0 at this;unfold Fw;rw [this];by_cases h2:(ah l k:Int)<z∧z≤(ah l k:Int)+m.sites.length
  ·rw [if_pos h2,if_pos (by omega)]
  ·rw [if_neg h2,if_neg (by omega)]
 ·simp only [if_neg h,kF];rw [if_neg (by omega)]
theorem Qa9 {l:List Mod6} {k:Nat} {z:Int} {m:Mod6} (hz:z<0) (hm:∀ z,E0 z m.defs=if 1≤z∧z<(m.sites.length:Int)+1 then 1 else 0):Fw (Tt z) (Ug l k m).defs=0:=by
 unfold Ug;simp only;rw [Pd (Qbw (by omega) hz)]
 have:=hm z;unfold E0 at this;unfold Fw;rw [this,if_neg (by omega)]
theorem tH {l:List Mod6} {z:Int} (hz:z≠0) (hm:∀ m∈l,∀ z,E0 z m.defs=if 1≤z∧z<(m.sites.length:Int)+1 then 1 else 0):∀ k,k≤l.length→Fw (fun m=>Fw (Tt z) m.defs) ((l.mapIdx (Ug l)).take k)=if 1≤z∧z≤(ah l k:Int) then 1 else 0
 | 0,_=>by
  rw [Zt2,if_neg (by omega)]
  rfl
 | k+1,hk=>by
  have hk2:k<(l.mapIdx (Ug l)).length:=by simp;omega
  rw [Zuc Jx hk2,tH hz hm k (by omega),Zbo (by omega)]
  have hg:(l.mapIdx (Ug l)).getD k Jx=Ug l k (l.getD k Jx):=by
   rw [Zd,Zd];simp [show k<l.length by omega]
  rw [hg];have hmm:=hm (l.getD k Jx) (by simp [show k<l.length by omega])
  rcases Int.lt_or_le z 0 with h|h
  ·rw [Qa9 h hmm,if_neg (by omega),if_neg (by omega)]
  ·rw [Zvj (by omega) hmm]
   split<;>split<;>split<;>omega
theorem tI {l:List Mod6} {z:Int} (hz:z≠0) (hm:∀ m∈l,∀ z,E0 z m.defs=if 1≤z∧z<(m.sites.length:Int)+1 then 1 else 0):mB z (l.mapIdx (Ug l))=if 1≤z∧z≤(ah l l.length:Int) then 1 else 0:=by
 have:=tH hz hm l.length (Zq _);rw [List.take_of_length_le (by simp)] at this
 exact this
theorem Zqt {t:List Node} (h:∀ z:Int,100000<z→Jw (Yh z) t=0) (hl:t.length≤100001):Qag t:=by
 refine ⟨by omega,fun n hn hk=>Int.not_lt.1 fun hh=>?_⟩
 have:=h n.n (by omega)
 unfold Jw at this;have h1:=List.sum_eq_zero_iff_forall_eq_nat.1 this (Yh n.n n) (List.mem_map_of_mem hn);unfold Yh at h1;rw [if_pos ⟨hk,rfl⟩] at h1;cases h1
theorem fO {α:Type} {w:α→Nat} {l:List α} (h:(l.map w).sum=0) {x:α} (hx:x∈l):w x=0 :=
 List.sum_eq_zero_iff_forall_eq_nat.1 h (w x) (List.mem_map_of_mem hx)
theorem Zy8 {l:List Mod6} (h20:l.length≤20) (hG:∀ m∈l,Good9 m):NumOk l:=by
 refine ⟨⟨h20,fun m hm=>by have:=(hG m hm).slen;omega⟩,fun m hm=>by have:=(hG m hm).dlen;omega,fun m hm d hd=>?_⟩
 have hg:=hG m hm;have hf:=hg.fit d hd;have hz:∀ z:Int,100000<z→Tt z d=0:=fun z hz=>by
  have h1:=hg.cnt z;have h2:=hg.slen;rw [if_neg (by omega)] at h1
  unfold E0 at h1;exact fO h1 hd
 refine ⟨Zqt (fun z h=>?_) hf.t,by have:=hf.e;omega,fun p hp=>?_⟩
 ·have:=hz z h;unfold Tt at this;omega
 ·have hp1:∀ z:Int,100000<z→J9 z p=0:=fun z h=>by
   have h1:=hz z h;unfold Tt at h1;have h2:X5 z d.e=0:=by omega
   unfold X5 at h2;exact fO h2 hp
  have hfp:=hf.fit p hp;exact ⟨Zqt (fun z h=>by have:=hp1 z h;unfold J9 at this;omega) hfp.1.1,Zqt (fun z h=>by have:=hp1 z h;unfold J9 at this;omega) hfp.2.1.1⟩
open Go.Proofs
theorem Zz7 {p q:D→Prop} {ds:List D} (h:Zsg [p,q] ds):∃ a b,ds=[a,b]∧p a∧q b:=by
 match ds,h with
 | [a,b],h=>exact ⟨a,b,rfl,h.1,h.2.1⟩
theorem Zsw:Zw2 Tryz.prog 22 1 false (Sl (List UInt8)) (fun a=>a.l.length≤maxLen∧∀ y∈a.l,y.length≤maxLen):=qR Tryz.underlying22 (by kernel_rfl) rfl (by decide) (Zsv Tryz.underlying9)
theorem rdTx9:Zw2 Tryz.prog 24 2 true Tx9 (fun a=>a.names.length≤maxLen) :=
 (lX (ps:=[_,_]) Tryz.underlying24 (by kernel_rfl) rfl ⟨rfl,by kernel_rfl,Zsw,rfl,by kernel_rfl,Zsw,trivial⟩).mono fun x h=>by
  obtain ⟨ds,rfl,h⟩:=h;obtain ⟨a,b,rfl,⟨⟨k⟩,rfl,hk,_⟩,⟨⟨t⟩,rfl,ht⟩⟩:=Zz7 h;exact ⟨⟨k,t⟩,rfl,hk⟩
theorem Zqy {α:Type} (d:α) {a b:List α} (hl:a.length=b.length) (h:∀ j,j<a.length→a.getD j d=b.getD j d):a=b:=by
 refine List.ext_getElem hl fun j h1 h2=>?_;have:=h j h1;simpa [h1,h2] using this
structure In6 (m:Mod6):Prop where
 imps:Lo m.imps.length
 defs:Lo m.defs.length
 sites:Lo m.sites.length
 t:∀ d∈m.defs,Lo d.t.length
 e:∀ d∈m.defs,Qcd d.e
structure Bd where
 name:List UInt8
 t:List Node
 deriving DecidableEq
instance encBd:Enc Bd:=⟨fun a=>.agg [.str a.name,.list 3 (a.t.map enc)],fun x=>match x with
 | .agg [a,b]=>⟨a.s,b.l.map dec⟩
 | _=>⟨[],[]⟩,fun a=>by
  have h1:∀ l:List Node,(l.map (enc:Node→D)).map dec=l:=fun l=>Jq;cases a;simp [D.l,D.s,h1]⟩
instance szBd:Sz Bd:=⟨2⟩
theorem Ef:Sz.sz Bd=2:=rfl
theorem pE {a:List UInt8} {b:List Node}:(enc (Bd.mk a b):D)=.agg [.str a,.list 3 (b.map enc)]:=rfl
def Qam:Bd:=⟨[],[]⟩
def Ca:Con:=Xc (fun (t:Sl Node) (b:Int)=>Qag t.l∧0≤b∧b≤1000000) (fun t b=>Sl.mk (Ho b t.l))
structure Kgt:Prop
theorem Kgt.k (_:Kgt) (h:p:=by
 repeat' first|exact Z8|with_reducible apply Zb|intro _
 all_goals first|with_reducible exact Jd|omega|contradiction|exact ⟨k+1,by (have Km:=hnx;exact Qw),by omega,by omega⟩|skip):p:=h
structure Kgu:Prop
theorem Kgu.k (_:Kgu) (h:p:=by
 repeat' first|exact Z8|with_reducible apply Zb|intro _
 all_goals first|with_reducible exact Jd|omega|contradiction|exact ⟨k+1,by exact Qw,by omega,by omega⟩|skip):p:=h
structure Kgv:Prop
theorem Kgv.k (_:Kgv) (h:p:=by
 repeat' first|exact Z8|with_reducible apply Zb|intro _
 all_goals first|with_reducible exact Jd|omega|contradiction|exact ⟨k+1,by (have Km:=hnx;exact Qw),by omega,by omega⟩|skip):p:=h
structure Kgs:Prop
theorem Kgs.k (_:Kgs) (h:p:=by
 repeat' first|exact Z8|with_reducible apply Zb|intro _
 refine Zm [10,11,12,13,14,15,16,17,18,19,20,21,22,23,24,25,26,27,28,29,30,31,32,33,34,35,36,37,38,39,40] (fun k:Nat=>[(6,.d (.int .i64 k))]) (fun k:Nat=>[(7,.row 3 ((Ma (fun _=>Yw b) t k).map enc) 0)]) (fun k:Nat=>k≤t.length) (fun k:Nat=>t.length-k) 0 ?_ ?_ ?_
 ·omega
 ·have Km:=@Md;exact Qw
 rintro k hk;have Qc:=Py (f:=fun _=>Yw b) (l:=t) k;rcases Zo k t.length with ⟨hlt,Qf⟩|⟨hlt,Qf⟩
 ·have Z9:=Zr n0 (show k<(Ma (fun _=>Yw b) t k).length by omega)
  rw [Dj n0 hlt] at Z9;have hset:=Px n0 hlt (f:=fun _=>Yw b);have hsame:=Zyd n0 hlt (f:=fun _=>Yw b);have hbn:=hb (t.getD k n0) (by simp [hlt])
  obtain ⟨y,hy⟩:=exq (t.getD k n0);rw [hy] at Z9 hset hsame hbn;obtain ⟨yk,yn,yi⟩:=y;simp only at hbn;obtain ⟨P,hP⟩:=exq (Ma (fun _=>Yw b) t k);rw [hP] at Z9 hset hsame Qc ⊢;have Qh:(P.map (enc:Node→D)).length=t.length:=by rw [Zl,Qc]
  by_cases h0:yk=0
  case neg =>
   have Qe:(yk==0)=false:=by rw [Za];exact h0
   have hnx:=hsame (by unfold Yw;rw [if_neg (fun h=>h0 h.1)])
   have Kq:Kgt:=⟨⟩;exact Wy
  subst h0;have Qe:((0:Int)==0)=true:=rfl;rcases V5 0 yi with ⟨h1,Qn⟩|⟨h1,Qn⟩
  ·have hyb:=hbn rfl;have Q6:(P.map (enc:Node→D)).set k (.agg [.int .i64 0,.str yn,.int .i64 (yi+b)])=(Ma (fun _=>Yw b) t (k+1)).map enc:=by
    rw [←hset];unfold Yw;rw [if_pos ⟨rfl,h1⟩,←Yp];rfl
   have Kq:Kgu:=⟨⟩;exact Wy
  ·have hnx:=hsame (by unfold Yw;rw [if_neg (fun h=>by have:=h.2;simp only at this;omega)])
   have Kq:Kgv:=⟨⟩;exact Wy
 ·have hke:k=t.length:=by omega
  have hfu:Ma (fun _=>Yw b) t k=R:=by rw [hke,Me,←Qb];rfl
  have Je:R.length=t.length:=by rw [←hfu,Qc]
  rw [hfu];exact Af):p:=h
theorem good_shifted9:Qa Tryz.prog (47,Ca):=by
 obtain ⟨Kx,Kt,Kc,Kd,Kb,Ku,Kw,K,_⟩:=Xe Zv Zn [] false Xd;have Ko:=Ca.eq_def;refine Xj K Tryz.func47 [.tmp 4] rfl 42 rfl (fun c hc cvs hpre=>?_);unfold Ca at hpre;obtain ⟨⟨t⟩,b,rfl,⟨ht,hb⟩,hf0,hf1⟩:=Ql hpre;simp only at ht hb;clear hpre;obtain ⟨R,Qb⟩:=exq (Ho b t);cases hc;refine Y4 2 ?_;have Kq:Kgs:=⟨⟩;exact Wy
def Zlm {α:Type} (f:Nat→α→α) (l:List α) (k:Nat):List α:=(l.take k).mapIdx f
section
variable {α:Type} {f:Nat→α→α} {l:List α}
theorem Zlu:Zlm f l 0=[]:=by simp [Zlm]
theorem Zlw:Zlm f l l.length=l.mapIdx f:=by simp [Zlm]
theorem Zsk {k:Nat} (h:k≤l.length):(Zlm f l k).length=k:=by
 unfold Zlm;simp;omega
theorem Zlv (d:α) {k:Nat} (h:k<l.length):Zlm f l (k+1)=Zlm f l k++[f k (l.getD k d)]:=by
 unfold Zlm;rw [Vd d h,List.mapIdx_append];simp [show min k l.length=k by omega]
end
def Fe:Con:=Ru (fun (l:Sl Mod6)=>NumOk l.l) (fun l=>T6 l.l)
structure Kgx:Prop
theorem Kgx.k (_:Kgx) (h:p:=by
 repeat' first|exact Z8|with_reducible apply Zb|intro _
 all_goals first|with_reducible exact Jd|omega|rfl|trivial|(simp;done)|skip):p:=h
structure Kgz:Prop
theorem Kgz.k (_:Kgz) (h:p:=by
 repeat' first|exact Z8|with_reducible apply Zb|intro _
 all_goals first|with_reducible exact Jd|omega|exact ⟨k+1,by rw [←hnx];(have Km:=@Ji;exact Qw),by omega,by omega⟩|skip):p:=h
structure KgB:Prop
theorem KgB.k (_:KgB) (h:p:=by
 repeat' first|exact Z8|with_reducible apply Zb|intro _
 all_goals first|with_reducible exact Jd|omega|exact lowt2 _ (by assumption) (by assumption)|exact ⟨lowt1,lowt2⟩|exact ⟨d+1,by rw [←hnx];(have Km:=@X3;have Fg:=hTe;exact Qw),by omega,by omega⟩|skip):p:=h
structure KgC:Prop
theorem KgC.k (_:KgC) (h:p:=by
 repeat' first|exact Z8|with_reducible apply Zb|intro _
 all_goals first|with_reducible exact Jd|omega|exact lpt|exact lpu|exact ⟨j+1,by (have Km:=Z1;have Fg:=r9b;exact Qw),by omega,by omega⟩|skip):p:=h
structure KgA:Prop
theorem KgA.k (_:KgA) (h:p:=by
 repeat' first|exact Z8|with_reducible apply Zb|intro _
 all_goals first|with_reducible exact Jd|omega|skip
 refine Zm [58,59,60,61,62,63,64,65,66,67,68,69,70,71,72,73,74,75,76,77,78,79,80,81,82,83,84,85] (fun j:Nat=>[(12,.d (.int .i64 j))]) (fun j:Nat=>[(54,.row 8 ((Ma (fun _=>Uf b) xe j).map enc) 0)]) (fun j:Nat=>j≤xe.length) (fun j:Nat=>xe.length-j) 0 ?_ ?_ ?_
 ·omega
 ·have Km:=@Md;exact Qw
 rintro j hj;have hjlen:=Py (f:=fun _=>Uf b) (l:=xe) j;rcases Zo j xe.length with ⟨hjlt,Je⟩|⟨hjlt,Je⟩
 rotate_left
 ·have hje:j=xe.length:=by omega
  have hfu:Ma (fun _=>Uf b) xe j=xe.mapIdx fun _=>Uf b:=by rw [hje,Me]
  have Q4:(xe.mapIdx fun _=>Uf b).length=xe.length:=by simp
  have hnx:Q++[⟨xn,Ho b xt,xe.mapIdx fun _=>Uf b⟩]=Zlm (fun _=>V3 b) md (d+1):=by
   rw [hsuccd];rfl
  rw [hfu];rw [hje] at Je;obtain ⟨E2,hE2⟩:=exq ((xe.mapIdx fun _=>Uf b));obtain ⟨T2,Zu⟩:=exq (Ho b xt);rw [hE2,Zu] at hnx;have hTe:(enc (Sl.mk T2):D)=.list 3 (T2.map enc):=rfl;rw [hE2] at Q4 ⊢;have Kq:KgB:=⟨⟩;exact Wy
 have Zz:=Zr e0 (show j<(Ma (fun _=>Uf b) xe j).length by omega)
 rw [Dj e0 hjlt] at Zz;have hsetj:=Px e0 hjlt (f:=fun _=>Uf b);have hlowp:=lowe (xe.getD j e0) (by simp [hjlt])
 obtain ⟨p,hp⟩:=exq (xe.getD j e0);rw [hp] at Zz hsetj hlowp;obtain ⟨pk,pl,pn,pb,pm,pq,pt,pu⟩:=p;obtain ⟨lpt,lpu⟩:=hlowp;simp only at lpt lpu;obtain ⟨S,hSq⟩:=exq (Ma (fun _=>Uf b) xe j);rw [hSq] at Zz hsetj hjlen ⊢;have Zx:(S.map (enc:Part→D)).length=xe.length:=by rw [Zl,hjlen]
 obtain ⟨T2,Zu⟩:=exq (Ho b pt);obtain ⟨U2,Z0⟩:=exq (Ho b pu);have Zy:(S.map (enc:Part→D)).set j (.agg [.int .i64 pk,.str pl,.str pn,.str pb,.int .i64 pm,.int .i64 pq,enc (Sl.mk T2),.list 3 (pu.map enc)])=(S.set j ⟨pk,pl,pn,pb,pm,pq,T2,pu⟩).map enc:=Yp (y:=(⟨pk,pl,pn,pb,pm,pq,T2,pu⟩:Part));have Qd:el ((S.set j ⟨pk,pl,pn,pb,pm,pq,T2,pu⟩).map (enc:Part→D)) j=.agg [.int .i64 pk,.str pl,.str pn,.str pb,.int .i64 pm,.int .i64 pq,enc (Sl.mk T2),.list 3 (pu.map enc)]:=Ly (by omega)
 have Z1:((S.set j ⟨pk,pl,pn,pb,pm,pq,T2,pu⟩).map (enc:Part→D)).set j (.agg [.int .i64 pk,.str pl,.str pn,.str pb,.int .i64 pm,.int .i64 pq,enc (Sl.mk T2),enc (Sl.mk U2)])=(Ma (fun _=>Uf b) xe (j+1)).map enc:=by
  rw [←hsetj];have:Uf b ⟨pk,pl,pn,pb,pm,pq,pt,pu⟩=⟨pk,pl,pn,pb,pm,pq,T2,U2⟩:=by unfold Uf;rw [Zu,Z0]
  rw [this];refine Eq.trans (Yp (y:=(⟨pk,pl,pn,pb,pm,pq,T2,U2⟩:Part))) ?_;rw [List.set_set]
 have r9b:(S.map (enc:Part→D)).set j (.agg [.int .i64 pk,.str pl,.str pn,.str pb,.int .i64 pm,.int .i64 pq,enc (Sl.mk T2),enc (Sl.mk U2)])=(Ma (fun _=>Uf b) xe (j+1)).map enc:=by
  rw [←Z1,←Yp,List.set_set]
 have Zw:((S.set j ⟨pk,pl,pn,pb,pm,pq,T2,pu⟩).map (enc:Part→D)).length=xe.length:=by rw [Zl,List.length_set,hjlen]
 have hS2:(S.set j ⟨pk,pl,pn,pb,pm,pq,T2,pu⟩).length=xe.length:=by rw [List.length_set,hjlen]
 have Zz:el (S.map (enc:Part→D)) j=.agg [.int .i64 pk,.str pl,.str pn,.str pb,.int .i64 pm,.int .i64 pq,.list 3 (pt.map enc),.list 3 (pu.map enc)]:=Zz;have Kq:KgC:=⟨⟩;exact Wy):p:=h
structure Kgy:Prop
theorem Kgy.k (_:Kgy) (h:p:=by
 repeat' first|exact Z8|with_reducible apply Zb|intro _
 all_goals first|with_reducible exact Jd|omega|skip
 refine Zm [10,11,12,36,37,38,39,40,41,42,43,44,45,46,47,48,49,50,51,52,53,54,55,56,57,58,59,60,61,62,63,64,65,66,67,68,69,70,71,72,73,74,75,76,77,78,79,80,81,82,83,84,85,86,87,88,89,90,91,92,93,94,95,96,97,98] (fun d:Nat=>[(9,.d (.int .i64 d))]) (fun d:Nat=>[(8,.box true [.d (.str mn),.d (.list 1 (mi.map enc)),.sl 97 ((Zlm (fun _=>V3 b) md d).map (enc:Def6→D)).length,.d (.list 3 (ms.map enc))]),(97,.row 3 ((Zlm (fun _=>V3 b) md d).map enc) 0)]) (fun d:Nat=>d≤md.length) (fun d:Nat=>md.length-d) 0 ?_ ?_ ?_
 ·omega
 ·have Km:=@Zlu;exact Qw
 rintro d hd;have hdlen:=Zsk (f:=fun _=>V3 b) (l:=md) hd;rcases Zo d md.length with ⟨hdlt,Qc⟩|⟨hdlt,Qc⟩
 rotate_left
 ·have hde:d=md.length:=by omega
  have hfu:Zlm (fun _=>V3 b) md d=md.mapIdx fun _=>V3 b:=by rw [hde,Zlw]
  have hnx:P++[⟨mn,mi,md.mapIdx fun _=>V3 b,ms⟩]=Zlm (Ug l) l (k+1):=by
   rw [hsucc];unfold Ug;rw [hbq]
  have Qh:(md.mapIdx fun _=>V3 b).length=md.length:=by simp
  rw [hfu];rw [hde] at Qc;obtain ⟨Ds,hDs⟩:=exq ((md.mapIdx fun _=>V3 b));rw [hDs] at Qh hnx ⊢;have Kq:Kgz:=⟨⟩;exact Wy
 have Q6:=Zr J3 hdlt;have hsuccd:=Zlv J3 hdlt (f:=fun _=>V3 b);have hlowd:=hlow (md.getD d J3) (by simp [hdlt])
 obtain ⟨x,hx⟩:=exq (md.getD d J3);rw [hx] at Q6 hsuccd hlowd;obtain ⟨xn,xt,xe⟩:=x;obtain ⟨⟨lowt1,lowt2⟩,lowl,lowe⟩:=hlowd;simp only at lowt1 lowt2 lowl lowe;obtain ⟨Q,hQ⟩:=exq (Zlm (fun _=>V3 b) md d);rw [hQ] at hsuccd hdlen ⊢;have Kq:KgA:=⟨⟩;exact Wy):p:=h
structure Kgw:Prop
theorem Kgw.k (_:Kgw) (h:p:=by
 repeat' first|exact Z8|with_reducible apply Zb|intro _
 refine Zm [8,9,10,11,12,14,15,16,17,18,19,20,21,22,23,24,25,26,27,28,29,30,31,32,33,34,35,36,37,38,39,40,41,42,43,44,45,46,47,48,49,50,51,52,53,54,55,56,57,58,59,60,61,62,63,64,65,66,67,68,69,70,71,72,73,74,75,76,77,78,79,80,81,82,83,84,85,86,87,88,89,90,91,92,93,94,95,96,97,98,99,100,101,102,103,104,105,106,107,108,109,110] (fun k:Nat=>[(5,.sl 13 ((Zlm (Ug l) l k).map (enc:Mod6→D)).length),(6,.d (.int .i64 (ah l k))),(7,.d (.int .i64 k))]) (fun k:Nat=>[(13,.row 4 ((Zlm (Ug l) l k).map enc) 0)]) (fun k:Nat=>k≤l.length) (fun k:Nat=>l.length-k) 0 ?_ ?_ ?_
 ·omega
 ·have Km:=@Zlu;have Fg:=@Zt2;exact Qw
 rintro k hk;have hpl:=Zsk (f:=Ug l) (l:=l) hk;have hbk:=Qcw hS k hk;rcases Zo k l.length with ⟨hlt,Qb⟩|⟨hlt,Qb⟩
 rotate_left
 ·have hke:k=l.length:=by omega
  rw [hke,Zlw];rw [hke] at Qb;rcases V5 60 (ah l l.length:Int) with ⟨h6,Qf⟩|⟨h6,Qf⟩
  ·rw [if_pos (by omega)] at hR2
   subst hR2;exact Af
  ·rw [if_neg (by omega)] at hR2
   subst hR2;have Kq:Kgx:=⟨⟩;exact Wy
 have Qe:=Zr Jx hlt;have hsucc:=Zlv Jx hlt (f:=Ug l);have hahs:=Zbo hlt;have hmem:l.getD k Jx∈l:=by simp [hlt]
 have hdl:=hN.len _ hmem;have hlow:=hN.low _ hmem;have hsl:=hS.sites _ hmem;obtain ⟨m,hm⟩:=exq (l.getD k Jx);rw [hm] at Qe hsucc hdl hlow hahs hsl;obtain ⟨mn,mi,md,ms⟩:=m;simp only at hdl hlow hahs hsl;obtain ⟨P,hP⟩:=exq (Zlm (Ug l) l k);rw [hP] at hsucc hpl ⊢;obtain ⟨b,hbq⟩:∃ b:Int,(ah l k:Int)=b:=⟨_,rfl⟩;have hb0:0≤b:=by omega
 have hb1:b≤1000000:=by omega
 have Qn:b+(ms.length:Int)=(ah l (k+1):Int):=by omega
 rw [hbq];have Kq:Kgy:=⟨⟩;exact Wy):p:=h
theorem good_Number9:Qa Tryz.prog (15,Fe):=by
 obtain ⟨Kx,Kt,Kc,Kd,Kb,Ku,Kw,K,X9,_⟩:=Xe Zv Zn [] false (Q0 good_shifted9 Ca.eq_def Xd);have Ko:=Fe.eq_def;refine Xj K Tryz.func15 [.tmp 2,.tmp 3,.tmp 4] rfl 115 rfl (fun c hc cvs hpre=>?_);unfold Fe at hpre;obtain ⟨⟨l⟩,rfl,hN⟩:=zV hpre;simp only at hN;clear hpre;have hS:=hN.sites;obtain ⟨R,Z9⟩:=exq (T6 l);have hR2:=Z9;unfold T6 at hR2;have hlen:=hS.len;cases hc;refine Y4 7 ?_;have Kq:Kgw:=⟨⟩;exact Wy
def Qb4 (p:List UInt8) (x:Def6):Bd:=⟨p++x.name,x.t⟩
def gC (i:List UInt8) (x:Mod6):List Bd:=if x.name=i then x.defs.map (Qb4 (x.name++[33])) else []
def nX (l:List Mod6) (i:List UInt8):List Bd:=l.flatMap (gC i)
def Qdh (l:List Mod6) (m d:Nat):List Bd:=(l.getD m Jx).imps.flatMap (nX l)++((l.getD m Jx).defs.take d).map (Qb4 [])
def Zrp (l:List Mod6) (m d:Int):List Bd :=
 if m<0∨(l.length:Int)≤m∨d<0∨((l.getD m.toNat Jx).defs.length:Int)≤d then [] else Qdh l m.toNat d.toNat
structure EnvOk (l:List Mod6):Prop where
 len:l.length≤20
 name:∀ m∈l,m.name.length≤1000000
 iname:∀ m∈l,∀ i∈m.imps,i.length≤1000000
 dname:∀ m∈l,∀ d∈m.defs,d.name.length≤1000000
 imps:∀ m∈l,m.imps.length≤2000
 defs:∀ m∈l,m.defs.length≤1000
theorem A1 {α β:Type} {f:α→List β} {c:Nat}:∀ {l:List α},(∀ x∈l,(f x).length≤c)→(l.flatMap f).length≤c*l.length
 | [],_=>by simp
 | x::l,h=>by
  have h1:=h x (by simp)
  have h2:=A1 (f:=f) (c:=c) (l:=l) fun y hy=>h y (by simp [hy])
  rw [List.flatMap_cons,Zf,Zi,Nat.mul_add];omega
theorem Zm0 {l:List Mod6} (h:EnvOk l) {x:Mod6} (hx:x∈l) (i:List UInt8):(gC i x).length≤1000:=by
 unfold gC;split
 ·rw [Zl];exact h.defs x hx
 ·simp
theorem Zyo {l:List Mod6} (h:EnvOk l) (i:List UInt8):(nX l i).length≤20000:=by
 have:=A1 (f:=gC i) (c:=1000) (l:=l) fun x hx=>Zm0 h hx i;have:=h.len;unfold nX;omega
theorem Zte {l:List Mod6} (h:EnvOk l) (is:List (List UInt8)):(is.flatMap (nX l)).length≤20000*is.length:=A1 fun x _=>Zyo h x
theorem iM {α β:Type} (f:α→List β) (z:α) {l:List α} {k:Nat} (h:k<l.length):(l.take (k+1)).flatMap f=(l.take k).flatMap f++f (l.getD k z):=by
 rw [Vd z h,List.flatMap_append];simp
theorem Zvr {α β:Type} (f:α→β) (z:α) {l:List α} {k:Nat} (h:k<l.length):(l.take (k+1)).map f=(l.take k).map f++[f (l.getD k z)]:=by
 rw [Vd z h,List.map_append];simp
def mL (l:List Mod6) (is:List (List UInt8)) (i:Nat):List Bd:=(is.take i).flatMap (nX l)
def kY (l:List Mod6) (x:List UInt8) (E:List Bd) (k:Nat):List Bd:=E++(l.take k).flatMap (gC x)
def aP (p:List UInt8) (ds:List Def6) (E:List Bd) (j:Nat):List Bd:=E++(ds.take j).map (Qb4 p)
theorem Zwy {l:List Mod6} {is:List (List UInt8)}:mL l is 0=[]:=by simp [mL]
theorem Zww {l:List Mod6} {x:List UInt8} {E:List Bd}:kY l x E 0=E:=by simp [kY]
theorem zL {p:List UInt8} {ds:List Def6} {E:List Bd}:aP p ds E 0=E:=by simp [aP]
theorem Zwz {l:List Mod6} {is:List (List UInt8)} {i:Nat} (h:i<is.length):mL l is (i+1)=kY l (is.getD i []) (mL l is i) l.length:=by
 unfold mL kY;rw [iM (nX l) [] h,List.take_length];rfl
theorem Zw0 {l:List Mod6} {is:List (List UInt8)}:mL l is is.length=is.flatMap (nX l):=by
 unfold mL;rw [List.take_length]
theorem Zwx {l:List Mod6} {x:List UInt8} {E:List Bd} {k:Nat} (h:k<l.length):kY l x E (k+1)=kY l x E k++gC x (l.getD k Jx):=by
 unfold kY;rw [iM (gC x) Jx h,List.append_assoc]
theorem zM {p:List UInt8} {ds:List Def6} {E:List Bd} {j:Nat} (h:j<ds.length):aP p ds E (j+1)=aP p ds E j++[Qb4 p (ds.getD j J3)]:=by
 unfold aP;rw [Zvr (Qb4 p) J3 h,List.append_assoc]
theorem Zw1 {p:List UInt8} {ds:List Def6} {E:List Bd}:aP p ds E ds.length=E++ds.map (Qb4 p):=by
 unfold aP;rw [List.take_length]
theorem Zpk {p:List UInt8} {ds:List Def6} {E:List Bd} {j:Nat}:(aP p ds E j).length≤E.length+ds.length:=by
 unfold aP;rw [Zf,Zl,List.length_take];omega
theorem Qaa {l:List Mod6} (h:EnvOk l) {is:List (List UInt8)} {i:Nat}:(mL l is i).length≤20000*is.length:=by
 have:=Zte h (is.take i);rw [List.length_take] at this;unfold mL;omega
theorem Zz9 {l:List Mod6} (h:EnvOk l) {x:List UInt8} {E:List Bd} {k:Nat}:(kY l x E k).length≤E.length+20000:=by
 have h1:=A1 (f:=gC x) (c:=1000) (l:=l.take k) fun y hy=>Zm0 h (List.mem_of_mem_take hy) x;have h2:=h.len;rw [List.length_take] at h1;unfold kY;rw [Zf];omega
def jN:Con:=Vp (fun (l:Sl Mod6) (_ _:Int)=>EnvOk l.l) (fun l m d=>Sl.mk (Zrp l.l m d))
structure KgG:Prop
theorem KgG.k (_:KgG) (h:p:=by
 repeat' first|exact Z8|with_reducible apply Zb|intro _
 all_goals first|with_reducible exact Jd|omega|(simp only [Zf,Zi,List.length_nil];omega)|exact ⟨j+1,by rw [hsn4];(have Km:=@pE;exact Qw),by omega,by omega⟩|skip):p:=h
structure KgH:Prop
theorem KgH.k (_:KgH) (h:p:=by
 repeat' first|exact Z8|with_reducible apply Zb|intro _
 all_goals first|with_reducible exact Jd|omega|exact ⟨k+1,by exact Qw,by omega,by omega⟩|skip):p:=h
structure KgF:Prop
theorem KgF.k (_:KgF) (h:p:=by
 repeat' first|exact Z8|with_reducible apply Zb|intro _
 all_goals first|with_reducible exact Jd|omega|skip
 refine Zm [11,53,54,55,56,57,58,59,60,61,62,63,64,65,66,67,68,69,70,71,72,73,74,75,76,77,78,79,80,81,82,83,84,85,86,87,88,89,90,91,92,93,94,95,96,97,98,99,100,101] (fun j:Nat=>[(7,.sl 13 ((aP (yn++[33]) yd F j).map (enc:Bd→D)).length),(10,.d (.int .i64 j))]) (fun j:Nat=>[(13,.row 2 ((aP (yn++[33]) yd F j).map enc) 0)]) (fun j:Nat=>j≤yd.length) (fun j:Nat=>yd.length-j) 0 ?_ ?_ ?_
 ·omega
 ·have Km:=@zL;exact Qw
 rintro j hj;have hGl:=Zpk (p:=yn++[33]) (ds:=yd) (E:=F) (j:=j);rcases Zo j yd.length with ⟨hjlt,Zw⟩|⟨hjlt,Zw⟩
 ·have Zx:=Zr J3 hjlt;have hsn4:=zM (p:=yn++[33]) (E:=F) hjlt;have hzn:=hkdn (yd.getD j J3) (by simp [hjlt])
  obtain ⟨Z,hZ⟩:=exq (yd.getD j J3);rw [hZ] at Zx hsn4 hzn;obtain ⟨zn,zt,ze⟩:=Z;simp only at hzn;obtain ⟨G,hG⟩:=exq (aP (yn++[33]) yd F j);rw [hG] at hsn4 hGl ⊢;have hbn:Qb4 (yn++[33]) ⟨zn,zt,ze⟩=⟨yn++[33]++zn,zt⟩:=rfl;rw [hbn] at hsn4;clear hkdn hin;have Zy:=@Ef;have Kq:KgG:=⟨⟩;exact Wy
 ·have hje:j=yd.length:=by omega
  have hnx:aP (yn++[33]) yd F j=kY l x E (k+1):=by rw [hsn2,hje,Zw1]
  rw [hnx];clear hkdn hin;have Zy:=@Ef;have Kq:KgH:=⟨⟩;exact Wy):p:=h
structure KgJ:Prop
theorem KgJ.k (_:KgJ) (h:p:=by
 repeat' first|exact Z8|with_reducible apply Zb|intro _
 all_goals first|with_reducible exact Jd|omega|exact ⟨k+1,by rw [hsn2];exact Qw,by omega,by omega⟩|skip):p:=h
structure KgK:Prop
theorem KgK.k (_:KgK) (h:p:=by
 repeat' first|exact Z8|with_reducible apply Zb|intro _
 all_goals first|with_reducible exact Jd|omega|exact ⟨k+1,by rw [hsn2];exact Qw,by omega,by omega⟩|skip):p:=h
structure KgI:Prop
theorem KgI.k (_:KgI) (h:p:=by
 repeat' first|exact Z8|with_reducible apply Zb|intro _
 all_goals first|with_reducible exact Jd|omega|skip
 refine Zm [11,53,54,55,56,57,58,59,60,61,62,63,64,65,66,67,68,69,70,71,72,73,74,75,76,77,78,79,80,81,82,83,84,85,86,87,88,89,90,91,92,93,94,95,96,97,98,99,100,101] (fun j:Nat=>[(7,.sl 13 (F.map (enc:Bd→D)).length),(10,.d (.int .i64 0))]) (fun j:Nat=>[(13,.row 2 (F.map enc) 0)]) (fun j:Nat=>True) (fun j:Nat=>0) 0 ?_ ?_ ?_
 ·trivial
 ·exact Qw
 rintro j -;rcases Zo 0 yd.length with ⟨hjlt,Zw⟩|⟨hjlt,Zw⟩
 ·rw [Int.natCast_zero] at Zw;have Zy:=@Ef;have Kq:KgJ:=⟨⟩;exact Wy
 ·rw [Int.natCast_zero] at Zw;have Zy:=@Ef;have Kq:KgK:=⟨⟩;exact Wy):p:=h
structure KgL:Prop
theorem KgL.k (_:KgL) (h:p:=by
 repeat' first|exact Z8|with_reducible apply Zb|intro _
 all_goals first|with_reducible exact Jd|omega|exact ⟨i+1,by exact Qw,by omega,by omega⟩|skip):p:=h
structure KgE:Prop
theorem KgE.k (_:KgE) (h:p:=by
 repeat' first|exact Z8|with_reducible apply Zb|intro _
 all_goals first|with_reducible exact Jd|omega|skip
 refine Zm [10,11,47,48,49,50,51,52,53,54,55,56,57,58,59,60,61,62,63,64,65,66,67,68,69,70,71,72,73,74,75,76,77,78,79,80,81,82,83,84,85,86,87,88,89,90,91,92,93,94,95,96,97,98,99,100,101] (fun k:Nat=>[(7,.sl 13 ((kY l x E k).map (enc:Bd→D)).length),(9,.d (.int .i64 k))]) (fun k:Nat=>[(13,.row 2 ((kY l x E k).map enc) 0)]) (fun k:Nat=>k≤l.length) (fun k:Nat=>l.length-k) 0 ?_ ?_ ?_
 ·omega
 ·have Km:=@Zww;exact Qw
 rintro k hk;have hFl:=Zz9 hE (x:=x) (E:=E) (k:=k);rcases Zo k l.length with ⟨hklt,Q4⟩|⟨hklt,Q4⟩
 ·have Zu:=Zr Jx hklt;have hsn2:=Zwx (x:=x) (E:=E) hklt;have hkmem:l.getD k Jx∈l:=by simp [hklt]
  have hkd:=hE.defs _ hkmem;have hkn:=hE.name _ hkmem;have hkdn:=hE.dname _ hkmem;obtain ⟨Y,hY⟩:=exq (l.getD k Jx);rw [hY] at Zu hsn2 hkd hkn hkdn;obtain ⟨yn,yi,yd,ys⟩:=Y;simp only at hkd hkn hkdn;have hof:gC x ⟨yn,yi,yd,ys⟩=if yn=x then yd.map (Qb4 (yn++[33])) else []:=rfl
  rw [hof] at hsn2;obtain ⟨F,hF⟩:=exq (kY l x E k);rw [hF] at hFl hsn2 ⊢;have hFlen:F.length≤20000*2000+20000:=by omega
  by_cases hyn:yn=x
  ·rw [if_pos hyn] at hsn2;have Zz:(yn==x)=true:=by rw [Zk];exact hyn
   have Zy:=@Ef;have Kq:KgF:=⟨⟩;exact Wy
  ·rw [if_neg hyn,List.append_nil] at hsn2;have Zz:(yn==x)=false:=by rw [Za];exact hyn
   clear hkdn hin;have Zy:=@Ef;have Kq:KgI:=⟨⟩;exact Wy
 ·have hkl:k=l.length:=by omega
  have hnx:kY l x E k=mL l mi (i+1):=by rw [hkl,hsn]
  rw [hnx];clear hin;have Zy:=@Ef;have Kq:KgL:=⟨⟩;exact Wy):p:=h
structure KgN:Prop
theorem KgN.k (_:KgN) (h:p:=by
 repeat' first|exact Z8|with_reducible apply Zb|intro _
 all_goals first|with_reducible exact Jd|omega|exact ⟨j+1,by rw [hsn4];(have Km:=@pE;exact Qw),by omega,by omega⟩|skip):p:=h
structure KgM:Prop
theorem KgM.k (_:KgM) (h:p:=by
 repeat' first|exact Z8|with_reducible apply Zb|intro _
 all_goals first|with_reducible exact Jd|omega|skip
 refine Zm [102,103,104,105,106,107,108,109,110,111,112,113,114,115,116,117,118,119,120,121,122,123,124,125,126,127,128] (fun j:Nat=>[(7,.sl 13 ((aP [] md E j).map (enc:Bd→D)).length),(12,.d (.int .i64 j))]) (fun j:Nat=>[(13,.row 2 ((aP [] md E j).map enc) 0)]) (fun j:Nat=>j≤d) (fun j:Nat=>d-j) 0 ?_ ?_ ?_
 ·omega
 ·have Km:=@zL;exact Qw
 rintro j hj;have hGl:=Zpk (p:=[]) (ds:=md) (E:=E) (j:=j);rcases Zo j d with ⟨hjlt,Zw⟩|⟨hjlt,Zw⟩
 ·have hjm:j<md.length:=by omega
  have Zx:=Zr J3 hjm;have hsn4:=zM (p:=[]) (E:=E) hjm;obtain ⟨Z,hZ⟩:=exq (md.getD j J3);rw [hZ] at Zx hsn4;obtain ⟨zn,zt,ze⟩:=Z;obtain ⟨G,hG⟩:=exq (aP [] md E j);rw [hG] at hsn4 hGl ⊢;have hbn:Qb4 [] ⟨zn,zt,ze⟩=⟨zn,zt⟩:=rfl;rw [hbn] at hsn4;have Zy:=@Ef;have Kq:KgN:=⟨⟩;exact Wy
 ·have hje:j=d:=by omega
  rw [hje] at Zw ⊢;rw [hR3];have Zy:=@Ef;exact Af):p:=h
structure KgD:Prop
theorem KgD.k (_:KgD) (h:p:=by
 repeat' first|exact Z8|with_reducible apply Zb|intro _
 all_goals first|with_reducible exact Jd|omega|skip
 have hin:=hE.iname _ hmem0;rw [hM] at hin;simp only at hin;refine Zm [9,10,11,37,38,39,40,41,42,43,44,45,46,47,48,49,50,51,52,53,54,55,56,57,58,59,60,61,62,63,64,65,66,67,68,69,70,71,72,73,74,75,76,77,78,79,80,81,82,83,84,85,86,87,88,89,90,91,92,93,94,95,96,97,98,99,100,101] (fun i:Nat=>[(7,.sl 13 ((mL l mi i).map (enc:Bd→D)).length),(8,.d (.int .i64 i))]) (fun i:Nat=>[(13,.row 2 ((mL l mi i).map enc) 0)]) (fun i:Nat=>i≤mi.length) (fun i:Nat=>mi.length-i) 0 ?_ ?_ ?_
 ·omega
 ·have Km:=@Zwy;exact Qw
 rintro i hi;have hEl:=Qaa hE (is:=mi) (i:=i);rcases Zo i mi.length with ⟨hilt,Q6⟩|⟨hilt,Q6⟩
 ·have Je:=Zr ([]:List UInt8) hilt;have hsn:=Zwz (l:=l) hilt;obtain ⟨x,hx⟩:=exq (mi.getD i []);rw [hx] at Je hsn;have Je:el (mi.map enc) i=(.str x:D):=Je;obtain ⟨E,hEq⟩:=exq (mL l mi i);rw [hEq] at hsn hEl ⊢;have Zy:=@Ef;have Kq:KgE:=⟨⟩;exact Wy
 ·have hie:i=mi.length:=by omega
  rw [hie] at hEl Q6 ⊢;rw [Zw0] at hEl ⊢;obtain ⟨E,hEq⟩:=exq (mi.flatMap (nX l));rw [hEq] at hEl hR2 ⊢;have hEl2:E.length≤40000000:=by omega
  have hR3:aP [] md E d=R:=hR2;clear hin;have Zy:=@Ef;have Kq:KgM:=⟨⟩;exact Wy):p:=h
theorem good_Env9:Qa Tryz.prog (21,jN):=by
 obtain ⟨Kx,Kt,Kc,Kd,Kb,Ku,Kw,K,_⟩:=Xe Zv Zn [] false Xd;have Ko:=jN.eq_def;refine Xj K Tryz.func21 [.tmp 6] rfl 130 rfl (fun c hc cvs hpre=>?_);unfold jN at hpre;obtain ⟨⟨l⟩,m,d,rfl,hE⟩:=Vb hpre;simp only at hE;clear hpre;obtain ⟨R,Qf⟩:=exq (Zrp l m d);have hR2:=Qf;unfold Zrp at hR2;have hlen:=hE.len;cases hc;refine Y4 8 ?_;rcases V5 m 0 with ⟨h1,Qb⟩|⟨h1,Qb⟩
 ·rw [if_pos (.inl h1)] at hR2;subst hR2;have Zy:=@Ef;exact Af
 obtain ⟨m,rfl⟩:∃ n:Nat,m=n:=⟨m.toNat,by omega⟩
 rcases C3 (l.length:Int) (m:Int) with ⟨h2,Z9⟩|⟨h2,Z9⟩
 ·rw [if_pos (.inr (.inl h2))] at hR2;subst hR2;have Zy:=@Ef;exact Af
 rcases V5 d 0 with ⟨h3,Qe⟩|⟨h3,Qe⟩
 ·rw [if_pos (.inr (.inr (.inl h3)))] at hR2;subst hR2;have Zy:=@Ef;exact Af
 obtain ⟨d,rfl⟩:∃ n:Nat,d=n:=⟨d.toNat,by omega⟩
 have hml:m<l.length:=by omega
 have Qh:=Zr Jx hml;have hmem:l.getD m Jx∈l:=by simp [hml]
 have hmem0:=hmem;have hil:=hE.imps _ hmem;have hdl:=hE.defs _ hmem;rw [Zj,Zj] at hR2;unfold Qdh at hR2;obtain ⟨M,hM⟩:=exq (l.getD m Jx);rw [hM] at Qh hil hdl hR2;obtain ⟨mn,mi,md,ms⟩:=M;simp only at hil hdl hR2;have Qn:((m:Nat):Int).toNat=m:=Zj m;rcases C3 (md.length:Int) (d:Int) with ⟨h4,Qc⟩|⟨h4,Qc⟩
 ·rw [if_pos (.inr (.inr (.inr h4)))] at hR2;subst hR2;have Zy:=@Ef;exact Af
 rw [if_neg (by omega)] at hR2
 have Zy:=@Ef;have Kq:KgD:=⟨⟩;exact Wy
def Qah (l:List Mod6):Prop:=∀ i j,i<j→j<l.length→nm l i≠nm l j
theorem Zu7 {l:List V2} (hU:Zbs l) (hF:Zw5 l) (hA:¬ Qd4 l) {r:Nat} (hr:r<l.length) :
  ∃ k:Nat,bestN l ((List.range l.length).map (mayB l (K7 l r))) l.length=(k:Int)∧k<l.length∧mayB l (K7 l r) k=true:=by
 have ih:=Zar hU hF hA r (by omega)
 have hlen:=Ke l r;obtain ⟨O,hO⟩:=exq (K7 l r);rw [hO] at ih hlen ⊢;have hex:∃ k:Nat,k<l.length∧(k:Int)∉O:=Classical.byContradiction fun hn=>by
  have:=Zsc l.length O fun k hk=>Classical.byContradiction fun h=>hn ⟨k,hk,h⟩;omega
 obtain ⟨k,hk,hkO⟩:=hex;have hkC:nm l k∉O.map fun x=>nm l x.toNat:=fun h=>by
  obtain ⟨y,hy,he⟩:=List.mem_map.1 h;obtain ⟨k',rfl,hk'⟩:=ih y hy;rw [Zj] at he;have:=fM hU hk' hk he;exact hkO (this▸hy)
 obtain ⟨j,hj,h1,h2⟩:=Zmp hU hF hA (C:=O.map fun x=>nm l x.toNat) _ k hk (Zq _) hkC;have hmay:mayB l O j=true:=by
  unfold mayB;rw [Zg,Bool.not_eq_true'];refine ⟨?_,?_⟩
  ·rw [←Bool.not_eq_true,bC];exact fun h=>h1 (List.mem_map.2 ⟨_,h,by rw [Zj]⟩)
  ·unfold Ai;rw [Zj,List.all_eq_true];intro s hs;obtain ⟨y,hy,he⟩:=List.mem_map.1 (h2 s hs);obtain ⟨k',rfl,hk'⟩:=ih y hy;rw [Zj] at he;rw [bC,←he,Ww,hU k' hk'];exact hy
 rcases cU (l:=l) (is:=(List.range l.length).map (mayB l O)) l.length with ⟨_,hno⟩|⟨k',h,hk',hm,_⟩
 ·have:=hno j hj;rw [O6 hj,hmay] at this;cases this
 ·rw [O6 hk'] at hm;exact ⟨k',h,hk',hm⟩
theorem bV {l:List V2}:∀ {r i:Nat},i<r→(K7 l r).getD i 0=bestN l ((List.range l.length).map (mayB l (K7 l i))) l.length
 | r+1,i,h=>by
  rw [K7,Zd];rcases Nat.lt_or_ge i r with h1|h1
  ·rw [List.getElem?_append_left (by rw [Ke];exact h1),←Zd]
   exact bV h1
  ·have:i=r:=by omega
   subst this;rw [List.getElem?_append_right (by rw [Ke];exact Zq _),Ke,Nat.sub_self]
   rfl
theorem Zyl {l:List V2} {r:Nat} {x:Int} (h:x∈K7 l r):∃ j,j<r∧(K7 l r).getD j 0=x:=by
 obtain ⟨j,hj,rfl⟩:=List.mem_iff_getElem.1 h;rw [Ke] at hj;exact ⟨j,hj,by rw [Zd,Zh (by rw [Ke];exact hj)];rfl⟩
theorem Zqm {l:List V2} {r i:Nat} (h:i<r):(K7 l r).getD i 0∈K7 l r:=by
 rw [Zd,Zh (by rw [Ke];exact h)]
 exact List.getElem_mem _
theorem Zmy {l:List V2} (h20:l.length≤20) (h:(H8 l).2.2=0):Zbs l∧Zw5 l∧¬ Qd4 l∧(H8 l).1.l=K7 l l.length:=by
 cases hu:(List.range l.length).find? (tC l) with
 | some i=>unfold H8 at h;rw [hu] at h;cases h
 | none =>
 cases hf:(List.range l.length).find? (O7 l) with
 | some i=>unfold H8 at h;rw [hu] at h;simp only at h;rw [hf] at h;cases h
 | none =>
 cases hc:Xf 0 (bestN l ((List.range l.length).map (mA l)) l.length) with
 | true =>
  unfold H8 at h;rw [hu] at h;simp only at h;rw [hf] at h;simp only at h;rw [hc] at h;cases h
 | false =>
  refine ⟨Zlx.1 hu,Zn9.1 hf,fun h=>?_,?_⟩
  ·rw [(Zo1 h20).2 h] at hc;cases hc
  ·unfold H8;rw [hu];simp only;rw [hf];simp only;rw [hc];rfl
def Qaj (l:List Mod6):Prop:=∀ m,m<l.length→∀ s∈imp l m,∃ k,k<m∧nm l k=s
theorem Zyi {l:List Mod6} {O:List Int} {i k:Nat} (hi:i<O.length) (h:O.getD i 0=(k:Int)):(Mf l O).getD i m0=l.getD k m0:=by
 unfold Mf;rw [Zd,List.getElem?_map,Zh hi];rw [Zd,Zh hi] at h;simp only [Option.getD_some] at h;simp only [Option.map_some,Option.getD_some];rw [h,Zj];rfl
theorem Zmx {l:List Mod6} (hU:Zbs l) (hF:Zw5 l) (hA:¬ Qd4 l):Qah (Mf l (K7 l l.length))∧Qaj (Mf l (K7 l l.length)):=by
 have hlen:(Mf l (K7 l l.length)).length=l.length:=by unfold Mf;rw [Zl,Ke]
 have hat:∀ i,i<l.length→∃ k:Nat,(K7 l l.length).getD i 0=k∧k<l.length∧mayB l (K7 l i) k=true∧(Mf l (K7 l l.length)).getD i m0=l.getD k m0:=fun i hi=>by
  obtain ⟨k,h1,h2,h3⟩:=Zu7 hU hF hA hi;rw [←bV hi] at h1;exact ⟨k,h1,h2,h3,Zyi (by rw [Ke];exact hi) h1⟩
 have hmem:∀ i j,j<i→i≤l.length→∃ k:Nat,(K7 l l.length).getD j 0=k∧(k:Int)∈K7 l i:=fun i j hj hi=>by
  obtain ⟨k,h1,h2,_⟩:=hat j (by omega)
  refine ⟨k,h1,?_⟩;rw [←h1,bV (show j<l.length by omega),←bV hj]
  exact Zqm hj
 refine ⟨fun i j hij hj he=>?_,fun m hm s hs=>?_⟩
 ·rw [hlen] at hj;obtain ⟨a,a1,a2,_,a4⟩:=hat i (by omega)
  obtain ⟨b,b1,b2,b3,b4⟩:=hat j hj;unfold nm at he;rw [a4,b4] at he;have e:=fM hU a2 b2 he;subst e;obtain ⟨k,k1,k2⟩:=hmem j i hij (by omega)
  rw [a1] at k1;have:a=k:=by omega
  subst this;unfold mayB at b3;rw [bC.2 k2] at b3;cases b3
 ·rw [hlen] at hm;obtain ⟨b,b1,b2,b3,b4⟩:=hat m hm;unfold imp at hs;rw [b4] at hs;unfold mayB at b3;rw [Zg] at b3;have h:=b3.2;unfold Ai at h;rw [Zj,List.all_eq_true] at h;have h:=h s hs;rw [bC] at h;obtain ⟨j,hj,he⟩:=Zyl h;obtain ⟨a,a1,a2,_,a4⟩:=hat j (by omega)
  refine ⟨j,hj,?_⟩;unfold nm;rw [a4];have hz:Ww l s=a:=by
   rw [←he,bV hj,←bV (show j<l.length by omega),a1]
  unfold Ww at hz;cases hr:Wt l s with
  | none=>rw [hr] at hz;simp only at hz;omega
  | some q =>
   rw [hr] at hz;simp only at hz;have:q=a:=by omega
   subst this;exact aW hr
theorem qS {t:Tx9} (h:(Wf t).2=true):Qah (Wf t).1∧Qaj (Wf t).1:=by
 have hG:=Al t;have h20:=hG.few.1;unfold Wf at h ⊢;split at h
 ·cases h
 rename_i hr;rw [if_neg hr];have he:(H8 (El t).1).2.2=0:=by simpa using h
 obtain ⟨h1,h2,h3,h4⟩:=Zmy h20 he;show Qah (Mf _ _)∧Qaj (Mf _ _);rw [h4];exact Zmx h1 h2 h3
theorem Zy9 {l:List Mod6} (h20:l.length≤20) (hG:∀ m∈l,Good9 m):EnvOk l :=
 ⟨h20,fun m hm=>by have:=(hG m hm).name;omega,fun m hm=>(hG m hm).short,fun m hm d hd=>((hG m hm).fit d hd).name,fun m hm=>by have:=(hG m hm).ilen;omega,fun m hm=>by have:=(hG m hm).dlen;omega⟩
open Go.Proofs Go.Rose Go.Rose.Rose
def kD (p:Part):Nat:=(Vo p).toNat
theorem Zvs (p:Part):0≤Vo p:=by
 unfold Vo Znd;repeat' split
 all_goals omega
theorem rP (p:Part):Vo p=(kD p:Int):=by
 have:=Zvs p;unfold kD;omega
theorem yO:∀ {l:List Part} {o k:Nat},1≤o→Lz kD l o=some k→Oi l o=k
 | [],o+1,k,_,h=>by simp [Lz] at h
 | n::l,o+1,k,_,h=>by
  rw [Lz,Option.map_eq_some_iff] at h;obtain ⟨k',h1,rfl⟩:=h;have hm:=rP n;have e:((o+1:Nat):Int)-1+Vo n=((o+kD n:Nat):Int):=by rw [hm];omega
  rw [Oi,e];by_cases hz:o+kD n=0
  ·rw [if_pos (by omega)]
   rw [hz] at h1;cases l<;>(simp only [Lz,Zc] at h1;omega)
  ·rw [if_neg (by omega),yO (by omega) h1]
   omega
theorem Zbf {t:List Part} {i:Nat} {x:Rose Part} (h:At kD t i x):Oi (t.drop i) 1=(nds x).length:=yO (o:=1) (Zq _) (pI h)
theorem Qbt {t:List Part} {i:Nat} {x:Rose Part} (h:At kD t i x):jX t i=((i+(nds x).length:Nat):Int):=by
 unfold jX;have:=h.lt;rw [if_neg (by omega),Zj,Zbf h]
 simp
def Sj:Nat→List (Rose Part)→List Int
 | _,[]=>[]
 | q,x::ks=>(q:Int)::Sj (q+(nds x).length) ks
theorem nG:∀ {q:Nat} {ks:List (Rose Part)},(Sj q ks).length=ks.length
 | _,[]=>rfl
 | q,x::ks=>by rw [Sj,Zi,nG,Zi]
theorem dN {t:List Part}:∀ {ks:List (Rose Part)} {q:Nat},Zlq kD t q ks→X1 t ks.length q=Sj q ks
 | [],_,_=>rfl
 | x::ks,q,h=>by
  have hx:=h.head;rw [Zi,X1,if_pos hx.1.lt,Zbf hx.1,Sj,dN hx.2]
theorem Zy2 {t:List Part} {i:Nat} {x:Rose Part} (h:At kD t i x):S5 t i=Sj (i+1) x.kids:=by
 unfold S5;have hl:=h.lt;have hk:=h.kids;have hm:=rP (t.getD i e0);rw [if_neg (by omega)]
 simp only [Zj];rw [hm,h.root e0,Zj,←hk.2,dN hk.1]
theorem kJ {t:List Part}:∀ {m q:Nat},(X1 t m q).length=m→(∀ j,q≤j→j<t.length→∃ z,At kD t j z)→q≤t.length→∃ ks:List (Rose Part),ks.length=m∧Zlq kD t q ks
 | 0,q,_,_,hq=>⟨[],rfl,trivial,t.drop q,by simp [ndss]⟩
 | m+1,q,h,hz,hq=>by
  rw [X1] at h;by_cases hlt:q<t.length
  ·rw [if_pos hlt] at h;obtain ⟨x,hx⟩:=hz q (Zq _) hlt;rw [Zbf hx] at h;obtain ⟨ks,h1,h2,r,h3⟩:=kJ (m:=m) (q:=q+(nds x).length) (by simpa using h) (fun j hj=>hz j (by omega)) hx.le
   obtain ⟨h4,r',h5⟩:=hx;refine ⟨x::ks,by simp [h1],⟨h4,h2⟩,r,?_⟩
   rw [←List.drop_drop,h5,List.drop_left'] at h3
   ·rw [h5,h3,ndss,List.append_assoc]
   ·rfl
  ·rw [if_neg hlt] at h;simp at h
theorem Oo {t:List Part} (h:∀ i,i<t.length→((S5 t i).length:Int)=Vo (t.getD i e0)):∀ (m i:Nat),t.length-i≤m→i<t.length→∃ z,At kD t i z
 | 0,i,hm,hi=>by omega
 | m+1,i,hm,hi=>by
  have h1:=h i hi;have hmn:=rP (t.getD i e0);unfold S5 at h1;rw [if_neg (by omega)] at h1
  simp only [Zj] at h1;rw [hmn,Zj] at h1;obtain ⟨ks,k1,k2,r,k3⟩:=kJ (m:=kD (t.getD i e0)) (q:=i+1) (by omega) (fun j hj hjl=>Oo h m j (by omega) hjl) (by omega)
  refine ⟨mk (t.getD i e0) ks,⟨k1,k2⟩,r,?_⟩;rw [List.drop_eq_getElem_cons hi,k3,Y7];simp [hi]
theorem qZ {t:List Part} (h:Uw t=true):∃ x,t=nds x∧At kD t 0 x:=by
 unfold Uw at h;simp only [Zg,Bool.not_eq_true',Zk] at h;obtain ⟨h1,h2,⟨h3,h4⟩,h5⟩:=h;have hne:0<t.length:=by
  rcases Nat.eq_zero_or_pos t.length with h0|h0
  ·exfalso;unfold Mg at h1;simp [h0] at h1
  ·exact h0
 have hk:∀ i,i<t.length→((S5 t i).length:Int)=Vo (t.getD i e0):=by
  intro i hi;have:=List.all_eq_true.1 h5 i (List.mem_range.2 hi);unfold Znp at this;rw [Zg,Zk] at this;exact this.1
 obtain ⟨x,hx⟩:=Oo hk t.length 0 (by omega) hne
 have he':jX t 0=((0+(nds x).length:Nat):Int):=Qbt hx;rw [h3] at he';obtain ⟨hw,r,hr⟩:=id hx;refine ⟨x,?_,hx⟩;rw [List.drop_zero] at hr;have:=congrArg List.length hr;rw [Zf] at this;have hr0:r=[]:=List.length_eq_zero_iff.1 (by omega)
 rw [hr,hr0,List.append_nil]
instance:Inhabited Part:=⟨e0⟩
def gI (p:Part) (k:Nat) (b:List (List UInt8)):List (List UInt8) :=
 (if p.kind=2∨p.kind=8∨(p.kind=4∧k=1)∨(p.kind=5∧k=0) then b++[p.bind] else b)++(if p.kind=5 then [p.name] else [])
mutual
def freeT:Rose Part→List (List UInt8)→List (List UInt8)
 | mk p ks,b=>if p.kind=1∧in6 b p.name=false then [p.name] else freeTs p ks 0 b
def freeTs (p:Part):List (Rose Part)→Nat→List (List UInt8)→List (List UInt8)
 | [],_,_=>[]
 | x::xs,k,b=>freeT x (gI p k b)++freeTs p xs (k+1) b
end
theorem Zvi (p:Part) (k:Nat) (b:List (List UInt8)):(gI p k b).length≤b.length+2:=by
 unfold gI;split<;>split<;>simp
mutual
theorem freeT_len:∀ (x:Rose Part) (b:List (List UInt8)),(freeT x b).length≤(nds x).length
 | mk p ks,b=>by
  rw [freeT,Y7];split
  ·simp
  ·have:=freeTs_len p ks 0 b;simp only [Zi];omega
theorem freeTs_len (p:Part):∀ (xs:List (Rose Part)) (k:Nat) (b:List (List UInt8)),(freeTs p xs k b).length≤(ndss xs).length
 | [],_,_=>by simp [freeTs]
 | x::xs,k,b=>by
  have h1:=freeT_len x (gI p k b);have h2:=freeTs_len p xs (k+1) b;rw [freeTs,ndss,Zf,Zf];omega
end
end Go.Am.Ty
