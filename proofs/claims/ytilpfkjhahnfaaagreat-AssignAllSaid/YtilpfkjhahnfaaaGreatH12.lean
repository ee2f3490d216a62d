/- Contracts and plain laws. Conditions: those that each states. -/
import Derived.Test.YtilpfkjhahnfaaaGreatH11
set_option maxHeartbeats 8000000
set_option linter.unusedVariables false
set_option linter.unusedSimpArgs false
variable {p:Prop}
set_option maxRecDepth 100000
namespace Go.Am.Ty
open Go.Proofs Go.Rose Go.Rose.Rose Gr
open Enc (enc dec)
def uT (l:List Int):Prop:=l.Pairwise fun a b=>a<b
theorem lZ:∀ {a b:List Int},uT a→uT b→(∀ x,x∈a↔x∈b)→a=b
 | [],[],_,_,_=>rfl
 | [],y::b,_,_,h=>by have:=(h y).2 (List.mem_cons_self ..);cases this
 | x::a,[],_,_,h=>by have:=(h x).1 (List.mem_cons_self ..);cases this
 | x::a,y::b,ha,hb,h=>by
  unfold uT at ha hb;rw [List.pairwise_cons] at ha hb;have dr:x=y:=by
   rcases Zs.1 ((h x).1 (List.mem_cons_self ..)) with e|e
   ·exact e
   ·rcases Zs.1 ((h y).2 (List.mem_cons_self ..)) with e'|e'
    ·exact e'.symm
    ·have:=hb.1 x e;have:=ha.1 y e';omega
  subst dr
  congr 1
  refine lZ ha.2 hb.2 fun z=>⟨fun hz=>?_,fun hz=>?_⟩
  ·have aj:=ha.1 z hz;rcases Zs.1 ((h z).1 (List.mem_cons_of_mem _ hz)) with e|e
   ·omega
   ·exact e
  ·have aj:=hb.1 z hz;rcases Zs.1 ((h z).2 (List.mem_cons_of_mem _ hz)) with e|e
   ·omega
   ·exact e
theorem Zxw {l:List Int} (h:l.Nodup):uT (dB l):=by
 have h1:(dB l).Pairwise (fun a b=>decide (a≤b)=true):=List.pairwise_mergeSort (fun a b c h1 h2=>by
  simp only [decide_eq_true_eq] at *;omega) (fun a b=>by
  simp only [Bool.or_eq_true,decide_eq_true_eq];omega) l
 have h2:(dB l).Pairwise (fun a b=>a≠b):=(List.mergeSort_perm l _).nodup_iff.2 h;unfold uT;exact (h1.and h2).imp fun {a b} h=>by
  obtain ⟨h1,h2⟩:=h;rw [decide_eq_true_eq] at h1;omega
theorem Zvp {l:List Int} {x:Int}:x∈dB l↔x∈l:=(List.mergeSort_perm l _).mem_iff
def Qar (S:List Int):List Bool:=S.map fun _=>true
theorem yV {x:Int}:∀ {S:List Int},S8 x true S (Qar S)=Qar (K9 x S)
 | []=>rfl
 | y::S=>by
  show cond (x==y) (true::Qar S) (true::S8 x true S (Qar S))=_;rw [yV];unfold K9;simp only [U1];cases hx:(x==y) with
  | true=>rfl
  | false =>
   simp only [cond_false,Bool.false_or];cases U1 x S<;>rfl
theorem xG {x:Int} {v:Bool}:∀ {ks:List Int} {vs:List Bool},Dp (.int .i64 x) (.bool v) (ks.map enc) (vs.map enc)=(S8 x v ks vs).map enc
 | [],vs=>by cases vs<;>rfl
 | k::ks,[]=>rfl
 | k::ks,u::vs=>by
  show cond (D.eqb (.int .i64 x) (.int .i64 k)) (D.bool v::vs.map enc) (D.bool u::Dp (.int .i64 x) (.bool v) (ks.map enc) (vs.map enc))=_;rw [xG,Ztp,S8];cases x==k<;>rfl
def Zq0 (S:List Int) (n:Node):List Int:=if n.kind=0∧0<n.n then K9 n.n S else S
def eU (S:List Int) (t:List Node):List Int:=t.foldl Zq0 S
def lL (S:List Int) (l:List (Sl Node)):List Int:=l.foldl (fun S t=>eU S t.l) S
def Qdz (S:List Int):Prop:=S.Nodup∧∀ x∈S,0<x∧x≤1000000
theorem rL {x s:Int} {S:List Int}:s∈K9 x S↔s∈S∨s=x:=by
 have hi:∀ {l:List Int},U1 x l=true↔x∈l:=by
  intro l
  induction l with
  | nil=>simp [U1]
  | cons y l ih=>simp only [U1,Bool.or_eq_true,Zk,ih,Zs]
 unfold K9;cases hg:U1 x S with
 | true =>
  rw [cond_true];exact ⟨.inl,fun h=>h.elim id fun e=>by rw [e];exact hi.1 hg⟩
 | false=>rw [cond_false,List.mem_append,Zp]
theorem Za8 {x:Int} {S:List Int} (h:S.Nodup):(K9 x S).Nodup:=by
 have hi:∀ {l:List Int},U1 x l=true↔x∈l:=by
  intro l
  induction l with
  | nil=>simp [U1]
  | cons y l ih=>simp only [U1,Bool.or_eq_true,Zk,ih,Zs]
 unfold K9;cases hg:U1 x S with
 | true=>exact h
 | false =>
  rw [cond_false,List.nodup_append];refine ⟨h,by simp,fun a ha b hb e=>?_⟩
  rw [Zp] at hb;subst hb;subst e;rw [hi.2 ha] at hg;cases hg
theorem Qbj {S:List Int} (h:Qdz S) {n:Node} (hn:n.kind=0→n.n≤1000000):Qdz (Zq0 S n):=by
 unfold Zq0;split
 ·rename_i hc;refine ⟨Za8 h.1,fun x hx=>?_⟩;rcases rL.1 hx with hx|rfl
  ·exact h.2 x hx
  ·exact ⟨hc.2,hn hc.1⟩
 ·exact h
theorem Ztc:∀ {t:List Node} {S:List Int},Qdz S→(∀ n∈t,n.kind=0→n.n≤1000000)→Qdz (eU S t)
 | [],_,h,_=>h
 | n::t,_,h,hn=>Ztc (t:=t) (Qbj h (hn n (List.mem_cons_self ..))) fun m hm=>hn m (List.mem_cons_of_mem _ hm)
theorem Za0:∀ {l:List (Sl Node)} {S:List Int},Qdz S→(∀ t∈l,∀ n∈t.l,n.kind=0→n.n≤1000000)→Qdz (lL S l)
 | [],_,h,_=>h
 | t::l,_,h,hn=>Za0 (l:=l) (Ztc h (hn t (List.mem_cons_self ..))) fun u hu=>hn u (List.mem_cons_of_mem _ hu)
theorem Znr:∀ {t:List Node} {S:List Int} {x:Int},x∈eU S t↔x∈S∨(0<x∧∃ n∈t,n.kind=0∧n.n=x)
 | [],S,x=>by simp [eU]
 | n::t,S,x=>by
  have e:eU S (n::t)=eU (Zq0 S n) t:=rfl;rw [e,Znr];unfold Zq0;by_cases hc:n.kind=0∧0<n.n
  ·rw [if_pos hc,rL];constructor
   ·rintro ((h|rfl)|⟨h1,m,hm,h2⟩)
    ·exact .inl h
    ·exact .inr ⟨hc.2,n,List.mem_cons_self ..,hc.1,rfl⟩
    ·exact .inr ⟨h1,m,List.mem_cons_of_mem _ hm,h2⟩
   ·rintro (h|⟨h1,m,hm,h2,h3⟩)
    ·exact .inl (.inl h)
    ·rcases Zs.1 hm with rfl|hm
     ·exact .inl (.inr h3.symm)
     ·exact .inr ⟨h1,m,hm,h2,h3⟩
  ·rw [if_neg hc];constructor
   ·rintro (h|⟨h1,m,hm,h2⟩)
    ·exact .inl h
    ·exact .inr ⟨h1,m,List.mem_cons_of_mem _ hm,h2⟩
   ·rintro (h|⟨h1,m,hm,h2,h3⟩)
    ·exact .inl h
    ·rcases Zs.1 hm with rfl|hm
     ·exact absurd ⟨h2,by omega⟩ hc
     ·exact .inr ⟨h1,m,hm,h2,h3⟩
theorem Zns:∀ {l:List (Sl Node)} {S:List Int} {x:Int},x∈lL S l↔x∈S∨(0<x∧∃ t∈l,∃ n∈t.l,n.kind=0∧n.n=x)
 | [],S,x=>by simp [lL]
 | t::l,S,x=>by
  have e:lL S (t::l)=lL (eU S t.l) l:=rfl;rw [e,Zns,Znr];constructor
  ·rintro ((h|⟨h1,h2⟩)|⟨h1,u,hu,h2⟩)
   ·exact .inl h
   ·exact .inr ⟨h1,t,List.mem_cons_self ..,h2⟩
   ·exact .inr ⟨h1,u,List.mem_cons_of_mem _ hu,h2⟩
  ·rintro (h|⟨h1,u,hu,h2⟩)
   ·exact .inl (.inl h)
   ·rcases Zs.1 hu with rfl|hu
    ·exact .inl (.inr ⟨h1,h2⟩)
    ·exact .inr ⟨h1,u,hu,h2⟩
theorem Qbn {S:List Int} (h:Qdz S):S.length≤1000000:=by
 have key:∀ (a b:List Int),a.Nodup→(∀ x∈a,x∈b)→a.length≤b.length:=by
  intro a
  induction a with
  | nil=>intro b _ _;exact Nat.zero_le _
  | cons x a ih =>
   intro b hn hs;rw [List.nodup_cons] at hn;have hx:=hs x (List.mem_cons_self ..);have:=ih (b.erase x) hn.2 fun y hy=>by
    have d6:y≠x:=fun e=>hn.1 (e▸hy);exact (List.mem_erase_of_ne d6).2 (hs y (List.mem_cons_of_mem _ hy))
   rw [List.length_erase_of_mem hx] at this;have hp:0<b.length:=List.length_pos_of_mem hx;rw [Zi];omega
 have:=key S ((List.range 1000000).map fun (k:Nat)=>((k:Int)+1)) h.1 fun x hx=>by
  obtain ⟨h1,h2⟩:=h.2 x hx;exact List.mem_map.2 ⟨(x-1).toNat,List.mem_range.2 (by omega),by omega⟩
 rw [Zl,List.length_range] at this;exact this
theorem Zp2 {l:List (Sl Node)} (hl:∀ t∈l,∀ n∈t.l,n.kind=0→n.n≤1000000):dB (lL [] l)=Ac l:=by
 obtain ⟨h1,h2⟩:=mP l;have hk:=Za0 (l:=l) (S:=[]) ⟨List.nodup_nil,fun x hx=>by cases hx⟩ hl
 refine lZ (Zxw hk.1) h1 fun x=>?_;rw [Zvp,Zns,h2];simp
abbrev Qae (p:List Mod6):Prop:=SitesP p
def Ea:Con:=J7 (fun (p:Sl Mod6)=>Qae p.l) (fun p=>Sl.mk (Ac (Bk p.l)))
class Kij:Prop
theorem Kij.k (_:Kij) (h:p:=by
 repeat' first|exact Z8|with_reducible apply Zb|intro _
 all_goals first|with_reducible exact Jd|omega|(have:=dg _ (by assumption);omega)|rfl|trivial|skip):p:=h
class Kil:Prop
theorem Kil.k (_:Kil) (h:p:=by
 repeat' first|exact Z8|with_reducible apply Zb|intro _
 all_goals first|with_reducible exact Jd|omega|exact ⟨i+1,by exact Qw,by omega,by omega⟩|skip):p:=h
class Kim:Prop
theorem Kim.k (_:Kim) (h:p:=by
 repeat' first|exact Z8|with_reducible apply Zb|intro _
 all_goals first|with_reducible exact Jd|omega|exact ⟨k+1,by rw [aa];exact Qw,by omega,by omega⟩|skip):p:=h
class Kin:Prop
theorem Kin.k (_:Kin) (h:p:=by
 repeat' first|exact Z8|with_reducible apply Zb|intro _
 all_goals first|with_reducible exact Jd|omega|exact ⟨k+1,by rw [aa];exact Qw,by omega,by omega⟩|skip):p:=h
class Kio:Prop
theorem Kio.k (_:Kio) (h:p:=by
 repeat' first|exact Z8|with_reducible apply Zb|intro _
 all_goals first|with_reducible exact Jd|omega|exact ⟨k+1,by rw [hV];exact Qw,by omega,by omega⟩|skip):p:=h
class Kik:Prop
theorem Kik.k (_:Kik) (h:p:=by
 repeat' first|exact Z8|with_reducible apply Zb|intro _
 all_goals first|with_reducible exact Jd|omega|skip
 refine Zm [7,19,20,21,22,23,24,25,26,27,28,29,30,31,32,33] (fun k:Nat=>[(18,.d (.int .i64 k))]) (fun k:Nat=>[(8,.mp ((eU S (t.take k)).map enc) ((Qar (eU S (t.take k))).map enc) false)]) (fun k:Nat=>k≤t.length) (fun k:Nat=>t.length-k) 0 ?_ ?_ ?_
 ·omega
 ·rw [eb];exact Qw
 rintro k hk;rcases Zo k t.length with ⟨ae,Qh⟩|⟨ae,Qh⟩
 rotate_left
 ·have cw:k=t.length:=by omega
  rw [cw,List.take_length,←af];rw [cw] at Qh;have Kq:Kil:=⟨⟩;exact Wy
 have Qn:=Zr n0 ae;have aa:eU S (t.take (k+1))=Zq0 (eU S (t.take k)) (t.getD k n0):=sO _ ae;obtain ⟨n,hn⟩:=exq (t.getD k n0);rw [hn] at Qn aa;obtain ⟨nk,nn,ni⟩:=n;obtain ⟨U,hU⟩:=exq (eU S (t.take k));rw [hU] at aa ⊢;unfold Zq0 at aa;simp only at aa;have Qn:el (t.map (enc:Node→D)) k=.agg [.int .i64 nk,.str nn,.int .i64 ni]:=Qn;cases Q6:(nk==0) with
 | false =>
  rw [if_neg (fun h=>by rw [Za] at Q6;exact Q6 h.1)] at aa
  have Kq:Kim:=⟨⟩;exact Wy
 | true =>
 rw [Zk] at Q6;rcases V5 0 ni with ⟨h2,Je⟩|⟨h2,Je⟩
 rotate_left
 ·rw [if_neg (fun h=>by omega)] at aa
  subst Q6;have Kq:Kin:=⟨⟩;exact Wy
 rw [if_pos ⟨Q6,h2⟩] at aa;subst Q6;have Q4:nA (.int .i64 ni) (U.map enc)=(K9 ni U).map enc:=Zs5;have Zu:Dp (.int .i64 ni) (.bool true) (U.map enc) ((Qar U).map enc)=(Qar (K9 ni U)).map enc:=by rw [xG,yV]
 rw [←aa] at Q4 Zu;obtain ⟨V,hV⟩:=exq (eU S (t.take (k+1)));rw [hV] at Q4 Zu;have Kq:Kio:=⟨⟩;exact Wy):p:=h
class Kii:Prop
theorem Kii.k (_:Kii) (h:p:=by
 repeat' first|exact Z8|with_reducible apply Zb|intro _
 all_goals first|with_reducible exact Jd|omega|exact dj|skip
 refine Zm [5,7,13,14,15,16,17,18,19,20,21,22,23,24,25,26,27,28,29,30,31,32,33,34] (fun i:Nat=>[(12,.d (.int .i64 i))]) (fun i:Nat=>[(8,.mp ((lL [] (L.take i)).map enc) ((Qar (lL [] (L.take i))).map enc) false)]) (fun i:Nat=>i≤L.length) (fun i:Nat=>L.length-i) 0 ?_ ?_ ?_
 ·omega
 ·have Km:=@lL.eq_1;have Fg:=@Qar.eq_1;exact Qw
 rintro i hi;rcases Zo i L.length with ⟨aj,Qf⟩|⟨aj,Qf⟩
 rotate_left
 ·have cz:i=L.length:=by omega
  rw [cz,List.take_length];rw [cz] at Qf;have bp:=Qbn cg;have dg:=cg.2;obtain ⟨S,hS⟩:=exq (lL [] L);rw [hS] at Z9 bp dg ⊢;have Zx:=@Ztr;have Zw:=@Qdd;have Zz:=@Qdm;have Zy:=@Qbl;have Qd:=@Qby;have Kq:Kij:=⟨⟩;exact Wy
 have Qc:=Zr (⟨[]⟩:Sl Node) aj;have ab:L.getD i ⟨[]⟩∈L:=by simp [aj]
 have cm:=ay _ ab;have af:lL [] (L.take (i+1))=eU (lL [] (L.take i)) (L.getD i ⟨[]⟩).l:=sO _ aj;obtain ⟨⟨t⟩,ht⟩:=exq (L.getD i ⟨[]⟩);rw [ht] at Qc af cm;simp only at af cm;have Qc:el (L.map (enc:Sl Node→D)) i=.list 3 (t.map enc):=Qc;obtain ⟨S,hS⟩:=exq (lL [] (L.take i));rw [hS] at af ⊢;have eb:eU S (t.take 0)=S:=rfl;have Kq:Kik:=⟨⟩;exact Wy):p:=h
theorem good_SitesA:Qa Tryz.prog (34,Ea):=by
 obtain ⟨Kx,Kt,Kc,Kd,Kb,Ku,Kw,K,X9,Uv,Po,_⟩:=Xe Zv Zn [] false (Q0 good_typesA Dx.eq_def (Q0 Zrf zQ.eq_def (Q0 Za6 Fa.eq_def Xd)));have Ko:=Ea.eq_def;refine Xj K Tryz.func34 [.tmp 2] rfl 38 rfl (fun c hc cvs hpre=>?_);unfold Ea at hpre;obtain ⟨⟨p⟩,rfl,hO⟩:=Q2 hpre;simp only at hO;clear hpre;have dj:=hO.bare;have ei:=Zpu dj;have ay:=hO.len;have ac:=hO.low;have Z9:=Zp2 ac;have cg:=Za0 (l:=Bk p) (S:=[]) ⟨List.nodup_nil,fun x hx=>by cases hx⟩ ac
 obtain ⟨L,Qb⟩:=exq (Bk p);rw [Qb] at ei ay ac Z9 cg;obtain ⟨R,Qe⟩:=exq (Ac L);rw [Qe] at Z9;cases hc;refine Y4 2 ?_;have Kq:Kii:=⟨⟩;exact Wy
noncomputable def uH (a b:List Mod6):Bool:=yM Zpj Jx (Uh a) (Uh b)&&yM kX ⟨[]⟩ (Bk a) (Bk b)
structure BelQ (p:List Mod6):Prop where
 bare:BareOk p
 imps:∀ m∈p,m.imps.length≤1000000
 ty:∀ t∈Bk p,Qd9 t
theorem Zo6 {p:List Mod6} (h:BelQ p):Lo (Uh p).length∧∀ m∈Uh p,Qgn m:=by
 refine ⟨?_,fun m hm=>?_⟩
 ·unfold Uh;rw [List.length_mapIdx];have:=h.bare.len;show _≤_;omega
 ·unfold Uh at hm;rw [Jn] at hm;obtain ⟨m',hm',rfl⟩:=List.mem_map.1 hm;have i1:=h.imps m' hm';have i3:=h.bare.defs m' hm';refine ⟨by show m'.imps.length≤_;omega,by show (m'.defs.mapIdx fun _=>Yv).length≤_;rw [List.length_mapIdx];omega,fun d hd=>?_⟩
  unfold Uu at hd;simp only [Jn] at hd;obtain ⟨d',hd',rfl⟩:=List.mem_map.1 hd;have:=h.bare.e m' hm' d' hd';refine ⟨by show (d'.e.mapIdx fun _=>Hs).length≤_;rw [List.length_mapIdx];omega,fun q hq=>?_⟩
  unfold Yv at hq;simp only [Jn] at hq;obtain ⟨q',_,rfl⟩:=List.mem_map.1 hq;exact ⟨by show ([]:List Node).length≤_;simp,by show ([]:List Node).length≤_;simp⟩
noncomputable def Ec:Con:=Xc (fun (a b:Sl Mod6)=>BelQ a.l∧BelQ b.l) (fun a b=>uH a.l b.l)
class Kip:Prop
theorem Kip.k (_:Kip) (h:p:=by
 repeat' first|exact Z8|with_reducible apply Zb|intro _
 all_goals first|with_reducible exact Jd|omega|exact ci|exact ch|exact bf.1|exact ba.1|exact bf.2 _ (by assumption)|exact ba.2 _ (by assumption)|rfl|trivial|skip):p:=h
class Kiq:Prop
theorem Kiq.k (_:Kiq) (h:p:=by
 repeat' first|exact Z8|with_reducible apply Zb|intro _
 all_goals first|with_reducible exact Jd|omega|exact ci|exact ch|exact bf.1|exact ba.1|exact bf.2 _ (by assumption)|exact ba.2 _ (by assumption)|exact ed|exact ec|exact dk _ (by assumption)|exact dh _ (by assumption)|rfl|trivial|skip):p:=h
theorem good_BelowA:Qa Tryz.prog (36,Ec):=by
 obtain ⟨Kx,Kt,Kc,Kd,Kb,Ku,Kw,K,X9,Uv,Po,Cx,_⟩:=Xe Zv Zn [] false (Q0 good_eachN cK.eq_def (Q0 good_equalMods Sr.eq_def (Q0 good_typesA Dx.eq_def (Q0 good_equalTys Cl.eq_def Xd))));have Ko:=Ec.eq_def;refine Xj K Tryz.func36 [.tmp 4] rfl 22 rfl (fun c hc cvs hpre=>?_);unfold Ec at hpre;obtain ⟨⟨a⟩,⟨b⟩,rfl,hA,hB⟩:=Ql hpre;simp only at hA hB;clear hpre;have ci:=hA.bare;have ch:=hB.bare;have bf:=Zo6 hA;have ba:=Zo6 hB;have be:=Zpu ci;have di:=Zpu ch;have dk:=hA.ty;have dh:=hB.ty;obtain ⟨R,Qe⟩:=exq (uH a b);have Qn:=Qe;unfold uH at Qn;obtain ⟨A,Qb⟩:=exq (Uh a);obtain ⟨B,Qf⟩:=exq (Uh b);rw [Qb] at Qn bf;rw [Qf] at Qn ba;have Qb:(a.mapIdx fun _=>Uu)=A:=Qb;have Qf:(b.mapIdx fun _=>Uu)=B:=Qf;obtain ⟨X,Qc⟩:=exq (Bk a);obtain ⟨Y,Qh⟩:=exq (Bk b);rw [Qc] at Qn be dk;rw [Qh] at Qn di dh;have ed:Lo X.length:=by show _≤_;omega
 have ec:Lo Y.length:=by show _≤_;omega
 cases hc;cases Z9:yM Zpj Jx A B with
 | false =>
  rw [Z9,Bool.false_and] at Qn;subst Qn;have Kq:Kip:=⟨⟩;exact Wy
 | true =>
  rw [Z9,Bool.true_and] at Qn;have Kq:Kiq:=⟨⟩;exact Wy
mutual
def mapX (g:Node→Node):Rose Node→Rose Node
 | mk n ks=>mk (g n) (mapXs g ks)
def mapXs (g:Node→Node):List (Rose Node)→List (Rose Node)
 | []=>[]
 | x::xs=>mapX g x::mapXs g xs
end
theorem xC {g:Node→Node}:∀ ks:List (Rose Node),(mapXs g ks).length=ks.length
 | []=>by rw [mapXs]
 | x::ks=>by rw [mapXs,Zi,Zi,xC ks]
mutual
theorem nds_mapX {g:Node→Node}:∀ x:Rose Node,nds (mapX g x)=(nds x).map g
 | mk n ks=>by rw [mapX,Y7,Y7,List.map_cons,ndss_mapX ks]
theorem ndss_mapX {g:Node→Node}:∀ ks:List (Rose Node),ndss (mapXs g ks)=(ndss ks).map g
 | []=>by rw [mapXs];rfl
 | x::ks=>by rw [mapXs,ndss,ndss,List.map_append,nds_mapX x,ndss_mapX ks]
end
mutual
theorem wf_mapX {g:Node→Node} (hg:∀ n,ar (g n)=ar n):∀ {x:Rose Node},wf ar x→wf ar (mapX g x)
 | mk n ks,h=>by
  rw [mapX];exact ⟨by rw [xC,hg];exact h.1,wfs_mapX hg h.2⟩
theorem wfs_mapX {g:Node→Node} (hg:∀ n,ar (g n)=ar n):∀ {ks:List (Rose Node)},wfs ar ks→wfs ar (mapXs g ks)
 | [],_=>by rw [mapXs];trivial
 | x::ks,h=>by rw [mapXs];exact ⟨wf_mapX hg h.1,wfs_mapX hg h.2⟩
end
structure TyF (t:List Node):Prop where
 numb:Mh t
 plain:Ux t=true
 tree:∃ x,t=nds x∧wf ar x∧x.root.name=[]
structure Pt (B:Nat) (t:List Node):Prop where
 len:t.length≤B
 ty:t=[]∨TyF t
 low:∀ n∈t,n.kind=0→n.n≤60
structure ProgP (B:Nat) (p:List Mod6):Prop where
 len:p.length≤20
 imps:∀ m∈p,m.imps.length≤2000
 defs:∀ m∈p,m.defs.length≤200
 sites:∀ m∈p,m.sites.length≤2000
 e:∀ m∈p,∀ d∈m.defs,d.e≠[]∧d.e.length≤300000
 dt:∀ m∈p,∀ d∈m.defs,Pt B d.t
 et:∀ m∈p,∀ d∈m.defs,∀ q∈d.e,Pt B q.t∧Pt B q.u
theorem Mk {p:List Mod6} {t:Sl Node}:t∈Bk p↔∃ m∈p,∃ d∈m.defs,t=⟨d.t⟩∨∃ q∈d.e,t=⟨q.t⟩∨t=⟨q.u⟩:=by
 unfold Bk Zxo Zlz Zsl;simp only [List.mem_flatMap,List.mem_append,Zs,Pc,or_false]
theorem ProgP.ty {B:Nat} {p:List Mod6} (h:ProgP B p):∀ t∈Bk p,Pt B t.l:=fun t ht=>by
 obtain ⟨m,hm,d,hd,ht⟩:=Mk.1 ht;rcases ht with rfl|⟨q,hq,rfl|rfl⟩
 ·exact h.dt m hm d hd
 ·exact (h.et m hm d hd q hq).1
 ·exact (h.et m hm d hd q hq).2
theorem ProgP.bare {B:Nat} {p:List Mod6} (h:ProgP B p):BareOk p :=
 ⟨by have:=h.len;omega,fun m hm=>by have:=h.defs m hm;omega,fun m hm d hd=>by have:=(h.e m hm d hd).2;omega⟩
theorem ProgP.shortF {B:Nat} {p:List Mod6} (h:ProgP B p) (hB:B≤200000):∀ m∈p,∀ d∈m.defs,Qaf d.e:=fun m hm d hd =>
 ⟨by have:=(h.e m hm d hd).2;omega,fun q hq=>by
  have h1:=(h.et m hm d hd q hq).1.len;have h2:=(h.et m hm d hd q hq).2.len;omega⟩
theorem ProgP.each {B:Nat} {p:List Mod6} (h:ProgP B p) (hB:B≤200000):EachOk p :=
 ⟨h.bare.len,h.bare.defs,fun m hm d hd=>⟨by have:=(h.dt m hm d hd).len;omega,(h.e m hm d hd).1,(h.shortF hB m hm d hd).1,(h.shortF hB m hm d hd).2⟩⟩
theorem ProgP.sitesP {B:Nat} {p:List Mod6} (h:ProgP B p) (hB:B≤4000000):SitesP p :=
 ⟨h.bare,fun t ht=>by have:=(h.ty t ht).len;omega,fun t ht n hn hk=>by have:=(h.ty t ht).low n hn hk;omega⟩
theorem ProgP.sitesQ {B:Nat} {p:List Mod6} (h:ProgP B p) (hB:B≤4000000):Qae p:=h.sitesP hB
theorem Pt.inT {B:Nat} {t:List Node} (h:Pt B t) (hB:B≤4000000):Qd9 ⟨t⟩:=by
 refine ⟨by have:=h.len;show t.length≤_;omega,?_⟩
 rcases h.ty with rfl|hf
 ·exact .inl rfl
 ·obtain ⟨x,hx,hw,_⟩:=hf.tree;exact .inr ⟨x,by show At ar t 0 x;rw [hx];exact Ti hw⟩
theorem ProgP.belQ {B:Nat} {p:List Mod6} (h:ProgP B p) (hB:B≤4000000):BelQ p :=
 ⟨h.bare,fun m hm=>by have:=h.imps m hm;omega,fun t ht=>(h.ty t ht).inT hB⟩
theorem ProgP.in6 {B:Nat} {p:List Mod6} (h:ProgP B p) (hB:B≤4000000):Lo p.length∧∀ m∈p,In6 m:=by
 refine ⟨by have:=h.len;show _≤_;omega,fun m hm=>⟨by have:=h.imps m hm;show _≤_;omega,by have:=h.defs m hm;show _≤_;omega,by have:=h.sites m hm;show _≤_;omega,fun d hd=>by have:=(h.dt m hm d hd).len;show _≤_;omega,fun d hd=>⟨by have:=(h.e m hm d hd).2;omega,fun q hq=>?_⟩⟩⟩
 have h1:=(h.et m hm d hd q hq).1.len;have h2:=(h.et m hm d hd q hq).2.len;exact ⟨by omega,by omega⟩
theorem zG {B C:Nat} {t u:List Node} (ht:Pt B t) (hu:Pt C u):kX ⟨t⟩ ⟨u⟩=Zr6 t u:=by
 unfold kX Zr6;simp only;by_cases h0:t.length=0
 ·rw [if_pos (.inl h0)];by_cases h1:u.length=0
  ·rw [if_pos ⟨h0,h1⟩,h0,h1];rfl
  ·rw [if_neg (fun h=>h1 h.2),if_pos (.inl h0),Za];omega
 ·by_cases h1:u.length=0
  ·rw [if_pos (.inr h1),if_neg (fun h=>h0 h.1),if_pos (.inr h1),Za];omega
  ·rw [if_neg (by omega),if_neg (by omega),if_neg (by omega)]
   have f1:=ht.ty.resolve_left fun e=>h0 (by rw [e];rfl)
   have f2:=hu.ty.resolve_left fun e=>h1 (by rw [e];rfl)
   obtain ⟨x,hx,dv,nx⟩:=f1.tree;obtain ⟨y,hy,du,ny⟩:=f2.tree;have e1:Yl ar t 0=x:=Vc (by rw [hx];exact Ti dv)
   have e2:Yl ar u 0=y:=Vc (by rw [hy];exact Ti du)
   unfold Zr5 Qdp;rw [e1,e2,Zz8 (by rw [nx,ny])]
theorem Sf {B C:Nat} {p q:List Mod6} (hp:ProgP B p) (hq:ProgP C q):uH p q=Cu p q:=by
 unfold uH Cu;have h1:yM Zpj Jx (Uh p) (Uh q)=Qdt (Uh p) (Uh q):=rfl;rw [h1];cases ha:Qdt (Uh p) (Uh q) with
 | false=>rfl
 | true =>
  have hl:=Qds ha;rw [Bool.true_and,Bool.true_and];unfold yM Qb5;rw [hl,beq_self_eq_true,Bool.true_and,Bool.eq_iff_iff,List.all_eq_true,List.all_eq_true];refine forall_congr' fun i=>?_;rw [List.mem_range];refine ⟨fun h hi=>?_,fun h hi=>?_⟩
  ·have:=h hi;rwa [zG (hp.ty _ (by simp [show i<(Bk p).length by omega])) (hq.ty _ (by simp [hi]))] at this
  ·have:=h hi;rwa [←zG (hp.ty _ (by simp [show i<(Bk p).length by omega])) (hq.ty _ (by simp [hi]))] at this
mutual
noncomputable def fillX (l:List Ch):Rose Node→Rose Node
 | mk n ks=>if n.kind=0 then (match Xl l n.n with
  | some u=>Yl ar (named n.name u) 0
  | none=>mk n (fillXs l ks)) else mk n (fillXs l ks)
noncomputable def fillXs (l:List Ch):List (Rose Node)→List (Rose Node)
 | []=>[]
 | x::xs=>fillX l x::fillXs l xs
end
theorem tZ {l:List Ch}:∀ ks:List (Rose Node),(fillXs l ks).length=ks.length
 | []=>by rw [fillXs]
 | x::ks=>by rw [fillXs,Zi,Zi,tZ ks]
theorem F8 {l:List Ch} (hr:right11 l=true) {s:Int} {u:List Node} (h:Xl l s=some u) (nm:List UInt8) :
  ∃ z,named nm u=nds z∧wf ar z∧z.root.name=nm∧z.root.kind≠0∧Yl ar (named nm u) 0=z∧Mh (nds z)∧Ux (nds z)=true∧∀ n∈nds z,n.kind≠0:=by
 obtain ⟨c,hc,-,rfl⟩:=Lv h;obtain ⟨_,f2,f3,f4⟩:=bL hr c hc;obtain ⟨x,hx,hR⟩:=T4 f2;rw [hx] at f3 f4;obtain ⟨n,ks⟩:=x;have aa:∀ m∈nds (mk n ks),m.kind≠0:=fun m hm=>by
  unfold Vq at f4;have:=List.all_eq_true.1 f4 m hm;simpa using this
 have ab:n∈nds (mk n ks):=by rw [Y7];exact List.mem_cons_self ..
 have e:named nm c.t=nds (mk ⟨n.kind,nm,n.n⟩ ks):=by rw [hx,Y7,Y7];rfl
 have hw:wf ar (mk ⟨n.kind,nm,n.n⟩ ks):=⟨hR.wf.1,hR.wf.2⟩;have hN:Mh (nds (mk ⟨n.kind,nm,n.n⟩ ks)):=by
  have:=rW (s:=nm) (t:=c.t) (by rw [hx];exact hR.numb)
  rwa [e] at this
 refine ⟨_,e,hw,rfl,aa n ab,Vc (by rw [e];exact Ti hw),hN,?_,fun m hm=>?_⟩
 ·rw [H6] at f3 ⊢;intro m hm;rw [Y7] at hm;rcases Zs.1 hm with rfl|hm
  ·exact f3 n ab
  ·exact f3 m (by rw [Y7];exact List.mem_cons_of_mem _ hm)
 ·rw [Y7] at hm;rcases Zs.1 hm with rfl|hm
  ·exact aa n ab
  ·exact aa m (by rw [Y7];exact List.mem_cons_of_mem _ hm)
theorem Mv {l:List Ch} (hr:right11 l=true):∀ x:Rose Node,(fillX l x).root.name=x.root.name
 | mk n ks=>by
  rw [fillX];split
  ·cases h:Xl l n.n with
   | none=>rfl
   | some u =>
    obtain ⟨z,_,_,hz,_,ht,_⟩:=F8 hr h n.name;show (Yl ar (named n.name u) 0).root.name=n.name;rw [ht,hz]
  ·rfl
mutual
theorem fillX_nds {l:List Ch} (hr:right11 l=true):∀ {x:Rose Node},wf ar x→nds (fillX l x)=(nds x).flatMap (fillN l)∧wf ar (fillX l x)
 | mk n ks,h=>by
  have ih:=fillXs_nds hr (ks:=ks) h.2;rw [fillX,Y7,List.flatMap_cons];by_cases h0:n.kind=0
  ·have ca:ks=[]:=by
    refine List.length_eq_zero_iff.1 (h.1.trans ?_);unfold ar;rw [if_neg (by omega),if_neg (by omega)]
   subst ca;rw [if_pos h0];unfold fillN;rw [if_pos h0];cases hq:Xl l n.n with
   | none =>
    refine ⟨?_,?_,?_⟩
    ·rw [fillXs];simp [Y7,ndss]
    ·rw [fillXs];exact h.1
    ·rw [fillXs];trivial
   | some u =>
    obtain ⟨z,e,hw,_,_,ht,_⟩:=F8 hr hq n.name;show nds (Yl ar (named n.name u) 0)=named n.name u++_∧wf ar (Yl ar (named n.name u) 0);rw [ht,e];exact ⟨by simp [ndss],hw⟩
  ·rw [if_neg h0];refine ⟨?_,?_,ih.2⟩
   ·rw [Y7,ih.1];unfold fillN;rw [if_neg h0];rfl
   ·rw [tZ];exact h.1
theorem fillXs_nds {l:List Ch} (hr:right11 l=true):∀ {ks:List (Rose Node)},wfs ar ks→ndss (fillXs l ks)=(ndss ks).flatMap (fillN l)∧wfs ar (fillXs l ks)
 | [],_=>by rw [fillXs];exact ⟨rfl,trivial⟩
 | x::ks,h=>by
  have h1:=fillX_nds hr (x:=x) h.1;have h2:=fillXs_nds hr (ks:=ks) h.2;rw [fillXs,ndss,ndss,List.flatMap_append,h1.1,h2.1];exact ⟨rfl,h1.2,h2.2⟩
end
theorem Zmq {l:List Ch} (hr:right11 l=true) {n:Node} (h:n.kind≠8∧n.kind≠9):∀ m∈fillN l n,m.kind≠8∧m.kind≠9:=by
 have h1:∀ m∈[n],m.kind≠8∧m.kind≠9:=fun m hm=>by rw [Zp] at hm;subst hm;exact h
 unfold fillN;split
 ·cases hq:Xl l n.n with
  | none=>exact h1
  | some u =>
   obtain ⟨z,e,_,_,_,_,_,hp,_⟩:=F8 hr hq n.name;show ∀ m∈named n.name u,_;rw [e];exact H6.1 hp
 ·exact h1
theorem yP {l:List Ch} (hr:right11 l=true) {n m:Node} (hm:m∈fillN l n) (hk:m.kind=0):m=n∧Xl l n.n=none:=by
 unfold fillN at hm;split at hm
 ·cases hq:Xl l n.n with
  | none=>rw [hq] at hm;exact ⟨Zp.1 hm,rfl⟩
  | some u =>
   rw [hq] at hm;obtain ⟨z,e,_,_,_,_,_,_,hs⟩:=F8 hr hq n.name;have hm:m∈named n.name u:=hm;rw [e] at hm;exact absurd hk (hs m hm)
 ·rename_i h0;have:=Zp.1 hm;subst this;exact absurd hk h0
theorem Pt.filled {B:Nat} {t:List Node} (h:Pt B t) {l:List Ch} (hr:right11 l=true) (hl:∀ c∈l,c.t.length≤30):Pt (30*B) (Xs (Xa l) t):=by
 refine ⟨by have h1:=Zoi hl hr t;have h2:=h.len;have:=Nat.mul_le_mul_left 30 h2;omega,?_,fun n hn hk=>?_⟩
 ·rcases h.ty with rfl|hf
  ·exact .inl rfl
  ·right;obtain ⟨x,hx,hw,nx⟩:=hf.tree;refine ⟨Zvb hr hf.numb,?_,fillX l x,?_,(fillX_nds hr hw).2,by rw [Mv hr,nx]⟩
   ·rw [Kz hr,H6];intro m hm;obtain ⟨n,hn,ax⟩:=List.mem_flatMap.1 hm;exact Zmq hr (H6.1 hf.plain n hn) m ax
   ·rw [Kz hr,hx,(fillX_nds hr hw).1]
 ·rw [Kz hr] at hn;obtain ⟨m,hm,ax⟩:=List.mem_flatMap.1 hn;obtain ⟨rfl,_⟩:=yP hr ax hk;exact h.low n hm hk
theorem Lu {m:MT} {p:List Mod6} {x:Mod6}:x∈Ym m p↔∃ y∈p,x=⟨y.name,y.imps,y.defs.map (H0 m),y.sites⟩:=by
 unfold Ym;rw [Jn,List.mem_map];unfold T0;simp only [Jn];constructor
 ·rintro ⟨y,hy,rfl⟩;exact ⟨y,hy,rfl⟩
 ·rintro ⟨y,hy,rfl⟩;exact ⟨y,hy,rfl⟩
theorem ProgP.filled {B:Nat} {p:List Mod6} (h:ProgP B p) {l:List Ch} (hr:right11 l=true) (hl:∀ c∈l,c.t.length≤30):ProgP (30*B) (Ym (Xa l) p):=by
 refine ⟨by unfold Ym;rw [List.length_mapIdx];exact h.len,?_,?_,?_,?_,?_,?_⟩
 ·intro m hm;obtain ⟨y,hy,rfl⟩:=Lu.1 hm;exact h.imps y hy
 ·intro m hm;obtain ⟨y,hy,rfl⟩:=Lu.1 hm;show (y.defs.map _).length≤_;rw [Zl];exact h.defs y hy
 ·intro m hm;obtain ⟨y,hy,rfl⟩:=Lu.1 hm;exact h.sites y hy
 ·intro m hm d hd;obtain ⟨y,hy,rfl⟩:=Lu.1 hm;obtain ⟨c,hc,rfl⟩:=List.mem_map.1 hd;have:=h.e y hy c hc;exact ⟨fun e=>this.1 (by simpa [H0] using e),by show (c.e.map _).length≤_;rw [Zl];exact this.2⟩
 ·intro m hm d hd;obtain ⟨y,hy,rfl⟩:=Lu.1 hm;obtain ⟨c,hc,rfl⟩:=List.mem_map.1 hd;exact (h.dt y hy c hc).filled hr hl
 ·intro m hm d hd q hq;obtain ⟨y,hy,rfl⟩:=Lu.1 hm;obtain ⟨c,hc,rfl⟩:=List.mem_map.1 hd;obtain ⟨r,co,rfl⟩:=List.mem_map.1 hq;exact ⟨(h.et y hy c hc r co).1.filled hr hl,(h.et y hy c hc r co).2.filled hr hl⟩
theorem Ur {c:Prop} [Decidable c] {a b:Bool} (h:(if c then a else b)=true):a=true∨b=true:=by
 by_cases hc:c
 ·rw [if_pos hc] at h;exact .inl h
 ·rw [if_neg hc] at h;exact .inr h
theorem Zls {p:Part} {w tg b t u li na op:Bool} (h:Xh p w tg b t u li na op=true):(p.t.length=0∨t=true∨li=true)∧(p.u.length=0∨u=true):=by
 unfold Xh at h;have hb:∀ {a b:Bool},(a&&b)=true→a=true∧b=true:=fun h=>by simpa using h
 have hl:∀ {n:Nat},((n:Int)==0)=true→n=0:=fun h=>by simpa using h
 rcases Ur h with h|h
 ·cases h
 rcases Ur h with h|h
 ·exact ⟨.inr (.inr (hb h).2),.inl (hl (hb (hb h).1).2)⟩
 rcases Ur h with h|h
 ·exact ⟨.inl (hl (hb (hb (hb h).1).1).2),.inl (hl (hb (hb h).1).2)⟩
 rcases Ur h with h|h
 ·exact ⟨.inr (.inl (hb (hb h).1).2),.inl (hl (hb h).2)⟩
 rcases Ur h with h|h
 ·exact ⟨.inl (hl (hb (hb h).1).2),.inl (hl (hb h).2)⟩
 rcases Ur h with h|h
 ·exact ⟨.inr (.inl (hb (hb h).1).2),.inr (hb h).2⟩
 rcases Ur h with h|h
 ·exact ⟨.inl (hl (hb (hb h).1).2),.inl (hl (hb h).2)⟩
 rcases Ur h with h|h
 ·exact ⟨.inl (hl (hb (hb h).1).2),.inl (hl (hb h).2)⟩
 rcases Ur h with h|h
 ·exact ⟨.inl (hl (hb (hb h).1).2),.inl (hl (hb h).2)⟩
 rcases Ur h with h|h
 ·exact ⟨.inl (hl (hb (hb h).1).2),.inl (hl (hb h).2)⟩
 rcases Ur h with h|h
 ·exact ⟨.inl (hl (hb (hb h).1).2),.inl (hl (hb h).2)⟩
 rcases Ur h with h|h
 ·exact ⟨.inr (.inl (hb (hb h).1).2),.inl (hl (hb h).2)⟩
 rcases Ur h with h|h
 ·exact ⟨.inr (.inl (hb (hb h).1).2),.inl (hl (hb h).2)⟩
 rcases Ur h with h|h
 ·exact ⟨.inr (.inl (hb (hb (hb h).1).1).2),.inr (hb (hb h).1).2⟩
 ·cases h
theorem TyF.of {t:List Node} (h:Xz t=true) (hp:Ux t=true):TyF t:=by
 obtain ⟨x,hx,hR⟩:=T4 h;exact ⟨by rw [hx];exact hR.numb,hp,x,hx,hR.wf,hR.name⟩
theorem TyF.lit {n:Node} (h1:1≤n.kind) (h4:n.kind≤4) (hn:n.name=[]) (h0:n.n=0):TyF [n]:=by
 refine ⟨fun m hm=>?_,?_,.mk n [],by rw [Y7];rfl,⟨?_,trivial⟩,hn⟩
 ·rw [Zp] at hm;subst hm;unfold Uq;rw [if_neg (by omega),if_pos (by omega),decide_eq_true_eq]
  exact h0
 ·rw [H6];intro m hm;rw [Zp] at hm;subst hm;omega
 ·unfold ar;rw [if_neg (by omega),if_neg (by omega)]
  rfl
theorem Zxc {p:Part} (h:Eh p=true):(p.t=[]∨TyF p.t)∧(p.u=[]∨TyF p.u):=by
 unfold Eh at h;obtain ⟨h1,h2⟩:=Zls h;have hp:∀ {t:List Node},Oz t=true→TyF t:=fun {t} h=>by
  unfold Oz at h;rw [Zg] at h;exact TyF.of h.1 h.2
 refine ⟨?_,?_⟩
 ·rcases h1 with h1|h1|h1
  ·exact .inl (List.length_eq_zero_iff.1 h1)
  ·exact .inr (hp h1)
  ·right;unfold F9 Zvu at h1;split at h1
   ·cases h1
   rename_i hc;have hl:p.t.length=1:=Classical.byContradiction fun h=>hc (.inl h);have bx:(p.t.getD 0 n0).name=[]:=Classical.byContradiction fun h=>hc (.inr (.inl h));have bz:(p.t.getD 0 n0).n=0:=Classical.byContradiction fun h=>hc (.inr (.inr (.inl h)));obtain ⟨n,hn⟩:∃ n,p.t=[n]:=List.length_eq_one_iff.1 hl;rw [hn] at h1 bx bz ⊢;simp only [List.getD_cons_zero] at h1 bx bz;have hk:1≤n.kind∧n.kind≤4:=by
    split at h1
    ·omega
    split at h1
    ·omega
    split at h1
    ·omega
    split at h1
    ·omega
    ·cases h1
   exact TyF.lit hk.1 hk.2 bx bz
 ·rcases h2 with h2|h2
  ·exact .inl (List.length_eq_zero_iff.1 h2)
  ·exact .inr (hp h2)
theorem Dg {b:Int} (t:List Node):Ho b t=t.map (Yw b):=by unfold Ho;rw [Jn]
theorem Sy {b:Int} (n:Node):(Yw b n).kind=n.kind∧(Yw b n).name=n.name∧(n.kind≠0→(Yw b n).n=n.n):=by
 unfold Yw;split
 ·rename_i h;exact ⟨rfl,rfl,fun h0=>absurd h.1 h0⟩
 ·exact ⟨rfl,rfl,fun _=>rfl⟩
theorem TyF.shift {b:Int} (hb:0≤b) {t:List Node} (h:TyF t):TyF (Ho b t):=by
 obtain ⟨x,hx,hw,hn⟩:=h.tree;refine ⟨?_,?_,mapX (Yw b) x,?_,wf_mapX (fun n=>?_) hw,?_⟩
 ·rw [Dg];intro m hm;obtain ⟨n,hn,rfl⟩:=List.mem_map.1 hm;have:=h.numb n hn;obtain ⟨h1,h2,h3⟩:=Sy (b:=b) n;by_cases h0:n.kind=0
  ·unfold Uq at this ⊢;rw [if_pos (.inl h0),decide_eq_true_eq] at this;rw [if_pos (.inl (by rw [h1];exact h0)),decide_eq_true_eq]
   unfold Yw;split
   ·show 0≤n.n+b;omega
   ·exact this
  ·unfold Uq at this ⊢;rw [h1,h3 h0];exact this
 ·rw [Dg,H6];intro m hm;obtain ⟨n,hn,rfl⟩:=List.mem_map.1 hm;rw [(Sy n).1];exact H6.1 h.plain n hn
 ·rw [Dg,hx,nds_mapX]
 ·obtain ⟨h1,h2,h3⟩:=Sy (b:=b) n;by_cases h0:n.kind=0
  ·unfold ar;rw [h1,if_neg (by omega),if_neg (by omega),if_neg (by omega),if_neg (by omega)]
  ·exact Qcv h1 (h3 h0)
 ·obtain ⟨n,ks⟩:=x;rw [mapX];show (Yw b n).name=[];rw [(Sy n).2.1];exact hn
theorem Av {α:Type} {w:α→Nat}:∀ {l:List α} {x:α},x∈l→w x≤(l.map w).sum
 | [],x,h=>by cases h
 | y::l,x,h=>by
  rw [List.map_cons,List.sum_cons];rcases Zs.1 h with rfl|h
  ·omega
  ·have:=Av (w:=w) h;omega
theorem qV {α:Type} {w:α→Nat}:∀ {l:List α},1≤(l.map w).sum→∃ x∈l,1≤w x
 | [],h=>by simp at h
 | y::l,h=>by
  rw [List.map_cons,List.sum_cons] at h;by_cases hy:1≤w y
  ·exact ⟨y,List.mem_cons_self ..,hy⟩
  ·obtain ⟨x,hx,h1⟩:=qV (w:=w) (l:=l) (by omega)
   exact ⟨x,List.mem_cons_of_mem _ hx,h1⟩
theorem Lt {z:Int} {t:List Node}:1≤Jw (Yh z) t↔∃ n∈t,n.kind=0∧n.n=z:=by
 unfold Jw;constructor
 ·intro h;obtain ⟨n,hn,h1⟩:=qV h;unfold Yh at h1;split at h1
  ·rename_i hc;exact ⟨n,hn,hc⟩
  ·omega
 ·rintro ⟨n,hn,hc⟩;have:=Av (w:=Yh z) hn;unfold Yh at this;rw [if_pos hc] at this;exact this
theorem C6 {z:Int} {p:List Mod6}:1≤mB z p↔∃ t∈Bk p,∃ n∈t.l,n.kind=0∧n.n=z:=by
 unfold mB Fw;constructor
 ·intro h;obtain ⟨m,hm,h1⟩:=qV h;obtain ⟨d,hd,h2⟩:=qV h1;unfold Tt at h2;by_cases ht:1≤Jw (Yh z) d.t
  ·exact ⟨⟨d.t⟩,Mk.2 ⟨m,hm,d,hd,.inl rfl⟩,Lt.1 ht⟩
  ·obtain ⟨q,hq,h3⟩:=qV (w:=J9 z) (l:=d.e) (by unfold X5 at h2;omega)
   unfold J9 at h3;by_cases ht2:1≤Jw (Yh z) q.t
   ·exact ⟨⟨q.t⟩,Mk.2 ⟨m,hm,d,hd,.inr ⟨q,hq,.inl rfl⟩⟩,Lt.1 ht2⟩
   ·exact ⟨⟨q.u⟩,Mk.2 ⟨m,hm,d,hd,.inr ⟨q,hq,.inr rfl⟩⟩,Lt.1 (show 1≤Jw (Yh z) q.u by omega)⟩
 ·rintro ⟨t,ht,hn⟩;obtain ⟨m,hm,d,hd,ht⟩:=Mk.1 ht;have h1:1≤Tt z d:=by
   unfold Tt;rcases ht with rfl|⟨q,hq,rfl|rfl⟩
   ·have g1:1≤Jw (Yh z) d.t:=Lt.2 hn;omega
   ·have g1:1≤Jw (Yh z) q.t:=Lt.2 hn;have g2:=Av (w:=J9 z) hq;unfold J9 at g2;unfold X5;unfold J9;omega
   ·have g1:1≤Jw (Yh z) q.u:=Lt.2 hn;have g2:=Av (w:=J9 z) hq;unfold J9 at g2;unfold X5;unfold J9;omega
  have h2:=Av (w:=Tt z) hd;have h3:(m.defs.map (Tt z)).sum≤_:=Av (w:=fun m:Mod6=>(m.defs.map (Tt z)).sum) hm;omega
theorem Mr {l:List Mod6} {x:Mod6} (h:x∈l.mapIdx (Ug l)):∃ k,∃ y∈l,x=⟨y.name,y.imps,y.defs.map (V3 (ah l k)),y.sites⟩:=by
 obtain ⟨k,hk,rfl⟩:=List.mem_mapIdx.1 h;refine ⟨k,l[k],List.getElem_mem hk,?_⟩;unfold Ug;rw [Jn]
theorem vE {l:List Mod6} (cj:l.length≤20) (hG:∀ m∈l,Good9 m) (bo:∀ m∈l,∀ d∈m.defs,aS d.t) (dl:ah l l.length≤60):ProgP 100001 (l.mapIdx (Ug l)):=by
 have ac:∀ t∈Bk (l.mapIdx (Ug l)),∀ n∈t.l,n.kind=0→n.n≤60:=fun t ht n hn hk=>by
  refine Classical.byContradiction fun er=>?_;have h1:=C6.2 ⟨t,ht,n,hn,hk,rfl⟩;rw [tI (by omega) fun m hm=>(hG m hm).cnt,if_neg (by omega)] at h1
  omega
 have d9:∀ m∈l,∀ d∈m.defs,d.t=[]∨TyF d.t:=fun m hm d hd =>
  .inr (TyF.of ((hG m hm).ok d hd).2.1 (H6.2 (bo m hm d hd)))
 have d8:∀ m∈l,∀ d∈m.defs,∀ q∈d.e,(q.t=[]∨TyF q.t)∧(q.u=[]∨TyF q.u):=fun m hm d hd q hq=>by
  have h:=(hG m hm).right d hd;unfold Uw at h;simp only [Zg] at h;exact Zxc (List.all_eq_true.1 h.2.1 q hq)
 have bu:∀ {t:List Node} {k:Nat},t.length≤100001→(t=[]∨TyF t)→(Ho (ah l k) t).length≤100001∧(Ho (ah l k) t=[]∨TyF (Ho (ah l k) t)):=fun {t k} hl ht=>by
  refine ⟨by rw [Dg,Zl];exact hl,?_⟩
  rcases ht with rfl|ht
  ·exact .inl rfl
  ·exact .inr (ht.shift (by omega))
 refine ⟨by rw [List.length_mapIdx];exact cj,?_,?_,?_,?_,?_,?_⟩
 ·intro m hm;obtain ⟨k,y,hy,rfl⟩:=Mr hm;have:=(hG y hy).ilen;show y.imps.length≤_;omega
 ·intro m hm;obtain ⟨k,y,hy,rfl⟩:=Mr hm;show (y.defs.map _).length≤_;rw [Zl];exact (hG y hy).dlen
 ·intro m hm;obtain ⟨k,y,hy,rfl⟩:=Mr hm;have:=(hG y hy).slen;show y.sites.length≤_;omega
 ·intro m hm d hd;obtain ⟨k,y,hy,rfl⟩:=Mr hm;obtain ⟨c,hc,rfl⟩:=List.mem_map.1 hd;have h1:=((hG y hy).ok c hc).2.2;have h2:=((hG y hy).fit c hc).e;have e1:(V3 (ah l k) c).e.length=c.e.length:=by unfold V3;simp only [List.length_mapIdx]
  refine ⟨fun e=>h1 (List.length_eq_zero_iff.1 ?_),by rw [e1];exact h2⟩
  rw [←e1,e];rfl
 ·intro m hm d hd;have bh:=hm;have bk:=hd;obtain ⟨k,y,hy,rfl⟩:=Mr hm;obtain ⟨c,hc,rfl⟩:=List.mem_map.1 hd;obtain ⟨g1,g2⟩:=bu (k:=k) ((hG y hy).fit c hc).t (d9 y hy c hc);exact ⟨g1,g2,fun n hn hk=>ac ⟨_⟩ (Mk.2 ⟨_,bh,_,bk,.inl rfl⟩) n hn hk⟩
 ·intro m hm d hd q hq;have bh:=hm;have bk:=hd;have cr:=hq;obtain ⟨k,y,hy,rfl⟩:=Mr hm;obtain ⟨c,hc,rfl⟩:=List.mem_map.1 hd;have he:(V3 (ah l k) c).e=c.e.map (Uf (ah l k)):=by unfold V3;simp only [Jn]
  rw [he] at hq;obtain ⟨r,hr,rfl⟩:=List.mem_map.1 hq;obtain ⟨f1,f2⟩:=d8 y hy c hc r hr;have ft:=((hG y hy).fit c hc).fit r hr;obtain ⟨g1,g2⟩:=bu (k:=k) ft.1.1 f1;obtain ⟨g3,g4⟩:=bu (k:=k) ft.2.1.1 f2;exact ⟨⟨g1,g2,fun n hn hk=>ac ⟨_⟩ (Mk.2 ⟨_,bh,_,bk,.inr ⟨_,cr,.inl rfl⟩⟩) n hn hk⟩,g3,g4,fun n hn hk=>ac ⟨_⟩ (Mk.2 ⟨_,bh,_,bk,.inr ⟨_,cr,.inr rfl⟩⟩) n hn hk⟩
structure NumP (P:List Mod6) (n:Int):Prop where
 prog:ProgP 100001 P
 lo:0≤n
 hi:n≤60
 cnt:∀ z:Int,z≠0→mB z P=if 1≤z∧z≤n then 1 else 0
 pos:∀ t∈Bk P,∀ n∈t.l,n.kind=0→1≤n.n
theorem Zau {l:List Mod6} (hG:∀ m∈l,Good9 m):∀ t∈Bk (l.mapIdx (Ug l)),∀ n∈t.l,n.kind=0→1≤n.n:=by
 have h0:∀ m∈l,∀ d∈m.defs,∀ t:List Node,(t=d.t∨∃ q∈d.e,t=q.t∨t=q.u)→∀ n∈t,n.kind=0→1≤n.n:=fun m hm d hd t ht n hn hk=>by
  have h1:=(hG m hm).cnt n.n;have h2:1≤E0 n.n m.defs:=by
   have h3:=Av (w:=Tt n.n) hd;have h4:1≤Tt n.n d:=by
    have h5:=Lt.2 ⟨n,hn,hk,rfl⟩;unfold Tt;rcases ht with rfl|⟨q,hq,rfl|rfl⟩
    ·omega
    ·have g2:=Av (w:=J9 n.n) hq;unfold J9 at g2;unfold X5;unfold J9;omega
    ·have g2:=Av (w:=J9 n.n) hq;unfold J9 at g2;unfold X5;unfold J9;omega
   unfold E0;omega
  rw [h1] at h2;split at h2
  ·omega
  ·omega
 have hs:∀ {t:List Node} {k:Nat},(∀ n∈t,n.kind=0→1≤n.n)→∀ n∈Ho (ah l k) t,n.kind=0→1≤n.n:=fun {t k} h n hn hk=>by
  rw [Dg] at hn;obtain ⟨m,hm,rfl⟩:=List.mem_map.1 hn;rw [(Sy m).1] at hk;have:=h m hm hk;unfold Yw;rw [if_pos ⟨hk,by omega⟩]
  show 1≤m.n+_;omega
 intro t ht n hn hk;obtain ⟨m,hm,d,hd,ht⟩:=Mk.1 ht;obtain ⟨k,y,hy,rfl⟩:=Mr hm;obtain ⟨c,hc,rfl⟩:=List.mem_map.1 hd;rcases ht with rfl|⟨q,hq,ht⟩
 ·exact hs (h0 y hy c hc c.t (.inl rfl)) n hn hk
 ·have he:(V3 (ah l k) c).e=c.e.map (Uf (ah l k)):=by unfold V3;simp only [Jn]
  rw [he] at hq;obtain ⟨r,hr,rfl⟩:=List.mem_map.1 hq;rcases ht with rfl|rfl
  ·exact hs (h0 y hy c hc r.t (.inr ⟨r,hr,.inl rfl⟩)) n hn hk
  ·exact hs (h0 y hy c hc r.u (.inr ⟨r,hr,.inr rfl⟩)) n hn hk
theorem rF {t:Tx9} {most:Int} (h:(Fm t most).2.2=true):NumP (Fm t most).1.l (Fm t most).2.1∧(Fm t most).2.1≤most:=by
 have hg:=dE t;have bo:=Zms t;unfold Fm at h ⊢;split at h
 ·cases h
 rename_i hok;rw [if_neg hok];simp only [Zg,Zk,Qx] at h ⊢;obtain ⟨_,h2,h3⟩:=h;obtain ⟨l,hl⟩:=exq ((Wf t).1);rw [hl] at hg bo h2 h3 ⊢;unfold T6 at h2 h3 ⊢;split at h2
 ·cases h2
 rename_i dl;rw [if_neg dl] at h3 ⊢;exact ⟨⟨vE hg.1 hg.2 bo (by omega),by simp only;omega,by simp only;omega,fun z hz=>tI hz fun m hm=>(hg.2 m hm).cnt,Zau hg.2⟩,h3⟩
def Yq (l:List Ch) (s:Int):Bool:=l.any fun c=>c.site==s
theorem Ep {l:List Ch} (s:Int):Xl l s=none↔Yq l s=false:=by
 unfold Yq;rw [List.any_eq_false];constructor
 ·intro h c hc;rw [Zk];intro e;have h2:∀ {l:List Ch},c∈l→Xl l s=none→False:=by
   intro l
   induction l with
   | nil=>intro hc;cases hc
   | cons d l ih =>
    intro hc h;rw [Xl] at h;split at h
    ·cases h
    ·rename_i hd;rcases Zs.1 hc with rfl|hc
     ·exact hd e
     ·exact ih hc h
  exact h2 hc h
 ·intro h;exact eR fun c hc e=>by have:=h c hc;rw [Zk] at this;exact this e
def Vv (l:List Ch) (s:Nat):List Nat:=(List.range s).filter fun j:Nat=>!Yq l ((j:Int)+1)
def Pw (l:List Ch) (s:Nat):List Int:=(Vv l s).map fun j:Nat=>(j:Int)+1
theorem eS {l:List Ch} {s:Nat}:Vv l (s+1)=if Yq l ((s:Int)+1)=true then Vv l s else Vv l s++[s]:=by
 unfold Vv;rw [List.range_succ,List.filter_append];cases h:Yq l ((s:Int)+1)<;>simp [h]
theorem Znm {l:List Ch}:∀ s,(Vv l s).length≤s:=fun s=>by
 unfold Vv;have:=List.length_filter_le (fun j:Nat=>!Yq l ((j:Int)+1)) (List.range s);simpa using this
theorem xN {l:List Ch} {s:Nat}:∀ k,∃ r,Vv l (s+k)=Vv l s++r
 | 0=>⟨[],by simp⟩
 | k+1=>by
  obtain ⟨r,hr⟩:=xN (l:=l) (s:=s) k;rw [←Nat.add_assoc,eS,hr];split
  ·exact ⟨r,rfl⟩
  ·exact ⟨r++[s+k],by rw [List.append_assoc]⟩
theorem Zxx {l:List Ch} {s n:Nat} (h:s<n) (hc:Yq l ((s:Int)+1)=false):(Vv l s).length<(Pw l n).length∧(Pw l n).getD (Vv l s).length 0=(s:Int)+1:=by
 obtain ⟨r,hr⟩:=xN (l:=l) (s:=s+1) (n-(s+1));rw [show s+1+(n-(s+1))=n by omega,eS,if_neg (by rw [hc];simp)] at hr
 unfold Pw;rw [hr];refine ⟨by simp,?_⟩
 rw [Zd,List.getElem?_map,List.append_assoc,List.getElem?_append_right (Zq _),Nat.sub_self];rfl
theorem Zp3 {l:List Ch} {n:Nat}:uT (Pw l n):=by
 unfold uT Pw Vv;rw [List.pairwise_map];refine List.Pairwise.imp (fun h=>by omega) (List.Pairwise.filter _ (List.pairwise_lt_range))
theorem Zvo {l:List Ch} {n:Nat} {x:Int}:x∈Pw l n↔(1≤x∧x≤n)∧Yq l x=false:=by
 unfold Pw Vv;simp only [List.mem_map,List.mem_filter,List.mem_range,Bool.not_eq_true'];constructor
 ·rintro ⟨j,⟨h1,h2⟩,rfl⟩;exact ⟨⟨by omega,by omega⟩,h2⟩
 ·rintro ⟨⟨h1,h2⟩,h3⟩;exact ⟨(x-1).toNat,⟨by omega,by rw [show (((x-1).toNat:Nat):Int)+1=x by omega];exact h3⟩,by omega⟩
theorem On {m:MT} {p:List Mod6}:Bk (Ym m p)=(Bk p).map fun t=>⟨Xs m t.l⟩:=by
 have hE:∀ e:List Part,(e.map (U0 m)).flatMap Zsl=(e.flatMap Zsl).map fun t=>⟨Xs m t.l⟩:=fun e=>by
  induction e with
  | nil=>rfl
  | cons q e ih=>rw [List.map_cons,List.flatMap_cons,List.flatMap_cons,List.map_append,ih];rfl
 have hD:∀ ds:List Def6,(ds.map (H0 m)).flatMap Zlz=(ds.flatMap Zlz).map fun t=>⟨Xs m t.l⟩:=fun ds=>by
  induction ds with
  | nil=>rfl
  | cons d ds ih =>
   rw [List.map_cons,List.flatMap_cons,List.flatMap_cons,List.map_append,ih]
   congr 1
   unfold Zlz H0;rw [hE,List.map_append];rfl
 unfold Ym Bk;rw [Jn]
 induction p with
 | nil=>rfl
 | cons x p ih =>
  rw [List.map_cons,List.flatMap_cons,List.flatMap_cons,List.map_append,ih]
  congr 1
  unfold Zxo T0;rw [Jn,hD]
theorem tA {l:List Ch} (hr:right11 l=true) {t:List Node} {x:Int}:(∃ n∈Xs (Xa l) t,n.kind=0∧n.n=x)↔(∃ n∈t,n.kind=0∧n.n=x)∧Yq l x=false:=by
 rw [Kz hr];constructor
 ·rintro ⟨n,hn,hk,rfl⟩;obtain ⟨m,hm,ax⟩:=List.mem_flatMap.1 hn;obtain ⟨rfl,h⟩:=yP hr ax hk;exact ⟨⟨n,hm,hk,rfl⟩,(Ep _).1 h⟩
 ·rintro ⟨⟨n,hn,hk,rfl⟩,h⟩;refine ⟨n,List.mem_flatMap.2 ⟨n,hn,?_⟩,hk,rfl⟩;unfold fillN;rw [if_pos hk,(Ep _).2 h];exact Zp.2 rfl
theorem Ab {P:List Mod6} {n:Int} (h:NumP P n) {l:List Ch} (hr:right11 l=true):Ac (Bk (Ym (Xa l) P))=Pw l n.toNat:=by
 obtain ⟨h1,h2⟩:=mP (Bk (Ym (Xa l) P));refine lZ h1 Zp3 fun x=>?_;rw [h2,Zvo,On];have bj:=h.lo;constructor
 ·rintro ⟨h0,t,ht,hn⟩;obtain ⟨u,hu,rfl⟩:=List.mem_map.1 ht;obtain ⟨hn,hc⟩:=(tA hr).1 hn;have h3:=C6.2 ⟨u,hu,hn⟩;rw [h.cnt x (by omega)] at h3
  split at h3
  ·exact ⟨by omega,hc⟩
  ·omega
 ·rintro ⟨⟨g1,g2⟩,hc⟩;have h3:1≤mB x P:=by rw [h.cnt x (by omega),if_pos (by omega)];exact Zq _
  obtain ⟨t,ht,hn⟩:=C6.1 h3;exact ⟨by omega,⟨Xs (Xa l) t.l⟩,List.mem_map.2 ⟨t,ht,rfl⟩,(tA hr).2 ⟨hn,hc⟩⟩
theorem Zun {P:List Mod6} {n:Int} (h:NumP P n):Ac (Bk P)=Pw [] n.toNat:=by
 have h0:right11 []=true:=rfl;have e:Ym (Xa []) P=P:=by
  have e1:U0 (Xa [])=id:=by funext q;unfold U0;rw [C5,C5];rfl
  have e2:H0 (Xa [])=id:=by funext d;unfold H0;rw [C5,e1,List.map_id];rfl
  have e3:T0 (Xa [])=id:=by funext m;unfold T0;rw [e2,Jn,List.map_id];rfl
  unfold Ym;rw [e3,Jn,List.map_id]
 have:=Ab h h0;rwa [e] at this
mutual
theorem ov_more {l k:List Ch} (hl:right11 l=true) (hk:right11 k=true) (ao:∀ s u,Xl k s=some u→Xl l s=some u):∀ {x:Rose Node},wf ar x→ov true (fillX l x) (fillX k x)=true
 | mk n ks,h=>by
  have ih:=ovs_more hl hk ao (ks:=ks) h.2;by_cases h0:n.kind=0
  ·rw [fillX,fillX,if_pos h0,if_pos h0];cases hq:Xl k n.n with
   | some u=>rw [ao _ _ hq];exact ov_refl true _
   | none =>
    show ov true (match Xl l n.n with|some u=>Yl ar (named n.name u) 0|none=>mk n (fillXs l ks)) (mk n (fillXs k ks))=true
    have key:∀ z:Rose Node,ov true z (mk n (fillXs k ks))=true:=fun z=>by
     obtain ⟨m,zs⟩:=z;rw [ov];show cond (m.kind==0||n.kind==0) (pX true n) _=true;unfold pX;rw [h0];simp
    exact key _
  ·rw [fillX,fillX,if_neg h0,if_neg h0,ov];show cond (n.kind==0||n.kind==0) (pX true n) ((n.kind==n.kind&&(n.name==n.name&&n.n==n.n))&&ovs true (fillXs l ks) (fillXs k ks))=true;rw [ih,Za.2 h0];simp
theorem ovs_more {l k:List Ch} (hl:right11 l=true) (hk:right11 k=true) (ao:∀ s u,Xl k s=some u→Xl l s=some u):∀ {ks:List (Rose Node)},wfs ar ks→ovs true (fillXs l ks) (fillXs k ks)=true
 | [],_=>by rw [fillXs,fillXs,ovs]
 | x::ks,h=>by
  rw [fillXs,fillXs,ovs,ov_more hl hk ao h.1,ovs_more hl hk ao h.2,Mv hl,Mv hk];simp
end
mutual
theorem ov_less {l:List Ch} (hl:right11 l=true):∀ {x:Rose Node},wf ar x→(ov true x (fillX l x)=true↔∀ n∈nds x,n.kind=0→Xl l n.n=none)
 | mk n ks,h=>by
  have ih:=ovs_less hl (ks:=ks) h.2;by_cases h0:n.kind=0
  ·have ca:ks=[]:=by
    refine List.length_eq_zero_iff.1 (h.1.trans ?_);unfold ar;rw [if_neg (by omega),if_neg (by omega)]
   subst ca;have hn:(∀ m∈nds (mk n []),m.kind=0→Xl l m.n=none)↔Xl l n.n=none:=by
    rw [Y7];simp [ndss,h0]
   rw [hn,fillX,if_pos h0];cases hq:Xl l n.n with
   | none =>
    show ov true (mk n []) (mk n (fillXs l []))=true↔_;rw [fillXs,ov_refl];simp
   | some u =>
    obtain ⟨z,_,_,_,hz,ht,_⟩:=F8 hl hq n.name;show ov true (mk n []) (Yl ar (named n.name u) 0)=true↔_;rw [ht,ov,h0];show pX true z.root=true↔_;unfold pX;rw [Za.2 hz];simp
  ·rw [fillX,if_neg h0,ov,Y7];show cond (n.kind==0||n.kind==0) (pX true n) ((n.kind==n.kind&&(n.name==n.name&&n.n==n.n))&&ovs true ks (fillXs l ks))=true↔_;rw [Za.2 h0];simp only [Bool.or_self,cond_false,beq_self_eq_true,Bool.true_and];rw [ih];constructor
   ·intro h m hm hk;rcases Zs.1 hm with rfl|hm
    ·exact absurd hk h0
    ·exact h m hm hk
   ·intro h m hm hk;exact h m (List.mem_cons_of_mem _ hm) hk
theorem ovs_less {l:List Ch} (hl:right11 l=true):∀ {ks:List (Rose Node)},wfs ar ks→(ovs true ks (fillXs l ks)=true↔∀ n∈ndss ks,n.kind=0→Xl l n.n=none)
 | [],_=>by rw [fillXs,ovs];simp [ndss]
 | x::ks,h=>by
  have h1:=ov_less hl (x:=x) h.1;have h2:=ovs_less hl (ks:=ks) h.2;rw [fillXs,ovs,Mv hl,beq_self_eq_true,Bool.true_and,Zg,h1,h2,ndss];constructor
  ·rintro ⟨g1,g2⟩ n hn hk;rcases List.mem_append.1 hn with hn|hn
   ·exact g1 n hn hk
   ·exact g2 n hn hk
  ·intro g;exact ⟨fun n hn hk=>g n (List.mem_append_left _ hn) hk,fun n hn hk=>g n (List.mem_append_right _ hn) hk⟩
end
theorem zE {t u:List Node} {x y:Rose Node} (hx:t=nds x) (hy:u=nds y) (wx:wf ar x) (wy:wf ar y) (hn:x.root.name=y.root.name):Zr6 t u=ov true x y:=by
 have h1:=En x;have h2:=En y;unfold Zr6;rw [hx,hy,if_neg (by omega),if_neg (by omega)]
 unfold Qdp;rw [Vc (Ti wx),Vc (Ti wy),Zz8 hn]
theorem Zwr {B:Nat} {t:List Node} (h:Pt B t) {l k:List Ch} (hl:right11 l=true) (hk:right11 k=true) (ao:∀ s u,Xl k s=some u→Xl l s=some u):Zr6 (Xs (Xa l) t) (Xs (Xa k) t)=true:=by
 rcases h.ty with rfl|hf
 ·rfl
 ·obtain ⟨x,hx,hw,nx⟩:=hf.tree;obtain ⟨a1,a2⟩:=fillX_nds hl hw;obtain ⟨b1,b2⟩:=fillX_nds hk hw;rw [Kz hl,Kz hk,hx,zE a1.symm b1.symm a2 b2 (by rw [Mv hl,Mv hk])]
  exact ov_more hl hk ao hw
theorem zF {B:Nat} {t:List Node} (h:Pt B t) {l:List Ch} (hl:right11 l=true):Zr6 t (Xs (Xa l) t)=true↔∀ n∈t,n.kind=0→Xl l n.n=none:=by
 rcases h.ty with rfl|hf
 ·exact ⟨fun _ n hn=>(by cases hn),fun _=>rfl⟩
 ·obtain ⟨x,hx,hw,nx⟩:=hf.tree;obtain ⟨a1,a2⟩:=fillX_nds hl hw;rw [Kz hl,hx,zE rfl a1.symm hw a2 (by rw [Mv hl])]
  exact ov_less hl hw
theorem mH {m:MT} {p:List Mod6}:Uh (Ym m p)=Uh p:=by
 have h1:∀ q,Hs (U0 m q)=Hs q:=fun q=>rfl;have h2:∀ d,Yv (H0 m d)=Yv d:=fun d=>by
  unfold Yv H0;simp only [Jn,List.map_map]
  congr 1
 have h3:∀ x,Uu (T0 m x)=Uu x:=fun x=>by
  unfold Uu T0;simp only [Jn,List.map_map]
  congr 1
  exact List.map_congr_left fun d _=>h2 d
 unfold Uh Ym;simp only [Jn,List.map_map];exact List.map_congr_left fun x _=>h3 x
theorem Zpi (a:List Mod6):Qdt a a=true:=by
 have h1:∀ d,Zsd d d=true:=fun d=>by unfold Zsd qE;simp
 have h2:∀ m,Zpj m m=true:=fun m=>by
  unfold Zpj;simp only [beq_self_eq_true,Bool.true_and,List.all_eq_true];exact fun j _=>h1 _
 unfold Qdt;simp only [beq_self_eq_true,Bool.true_and,List.all_eq_true];exact fun j _=>h2 _
theorem uG {B:Nat} {p:List Mod6} (h:ProgP B p) {l k:List Ch} (hl:right11 l=true) (hk:right11 k=true) (ao:∀ s u,Xl k s=some u→Xl l s=some u):Cu (Ym (Xa l) p) (Ym (Xa k) p)=true:=by
 unfold Cu;rw [mH,mH,Zpi,Bool.true_and,On,On];unfold Qb5;rw [List.all_eq_true];intro i hi;rw [List.mem_range,Zl] at hi;have e1:((Bk p).map fun t=>(⟨Xs (Xa l) t.l⟩:Sl Node)).getD i ⟨[]⟩=⟨Xs (Xa l) ((Bk p).getD i ⟨[]⟩).l⟩:=by simp [hi]
 have e2:((Bk p).map fun t=>(⟨Xs (Xa k) t.l⟩:Sl Node)).getD i ⟨[]⟩=⟨Xs (Xa k) ((Bk p).getD i ⟨[]⟩).l⟩:=by simp [hi]
 rw [e1,e2];exact Zwr (h.ty _ (by simp [hi])) hl hk ao
theorem tX (p:List Mod6):Ym (Xa []) p=p:=by
 have e1:U0 (Xa [])=id:=by funext q;unfold U0;rw [C5,C5];rfl
 have e2:H0 (Xa [])=id:=by funext d;unfold H0;rw [C5,e1,List.map_id];rfl
 have e3:T0 (Xa [])=id:=by funext m;unfold T0;rw [e2,Jn,List.map_id];rfl
 unfold Ym;rw [e3,Jn,List.map_id]
theorem Iv {B:Nat} {p:List Mod6} (h:ProgP B p) {l:List Ch} (hl:right11 l=true):Cu (Ym (Xa l) p) p=true:=by
 have:=uG h hl (k:=[]) rfl (fun s u hs=>by cases hs)
 rwa [tX] at this
theorem Zr2 {B:Nat} {p:List Mod6} (h:ProgP B p):Cu p p=true:=by
 have:=Iv h (l:=[]) rfl;rwa [tX] at this
theorem Zr3 {B:Nat} {p:List Mod6} (h:ProgP B p) {l:List Ch} (hl:right11 l=true):Cu p (Ym (Xa l) p)=true↔∀ t∈Bk p,∀ n∈t.l,n.kind=0→Xl l n.n=none:=by
 unfold Cu;rw [mH,Zpi,Bool.true_and,On];unfold Qb5;rw [List.all_eq_true];have e1:∀ i,i<(Bk p).length→((Bk p).map fun t=>(⟨Xs (Xa l) t.l⟩:Sl Node)).getD i ⟨[]⟩=⟨Xs (Xa l) ((Bk p).getD i ⟨[]⟩).l⟩:=fun i hi=>by simp [hi]
 constructor
 ·intro hh t ht;obtain ⟨i,hi,rfl⟩:=List.mem_iff_getElem.1 ht;have:=hh i (List.mem_range.2 hi);rw [e1 i hi] at this;have hg:(Bk p).getD i ⟨[]⟩=(Bk p)[i]:=by simp [hi]
  rw [hg] at this;exact (zF (h.ty _ (List.getElem_mem hi)) hl).1 this
 ·intro hh i hi;rw [List.mem_range] at hi;rw [e1 i hi];exact (zF (h.ty _ (by simp [hi])) hl).2 (hh _ (by simp [hi]))
theorem Zr4 {P:List Mod6} {n:Int} (h:NumP P n) {l:List Ch} (hl:right11 l=true):Cu P (Ym (Xa l) P)=((n.toNat-(Vv l n.toNat).length)==0):=by
 rw [Bool.eq_iff_iff,Zr3 h.prog hl,Zk];have ep:=Znm (l:=l) n.toNat;have bj:=h.lo;have key:(n.toNat-(Vv l n.toNat).length=0)↔∀ j,j<n.toNat→Yq l ((j:Int)+1)=false:=by
  have h1:(Vv l n.toNat).length=(List.range n.toNat).length↔∀ j∈List.range n.toNat,(!Yq l ((j:Int)+1))=true:=by
   unfold Vv;exact List.length_filter_eq_length_iff
  rw [List.length_range] at h1;constructor
  ·intro g j hj;have:=h1.1 (by omega) j (List.mem_range.2 hj)
   simpa using this
  ·intro g;have:=h1.2 fun j hj=>by rw [g j (List.mem_range.1 hj)];rfl
   omega
 rw [key];constructor
 ·intro g j hj;have h3:1≤mB ((j:Int)+1) P:=by rw [h.cnt _ (by omega),if_pos (by omega)];exact Zq _
  obtain ⟨t,ht,m,hm,hk,hx⟩:=C6.1 h3;have:=g t ht m hm hk;rw [hx] at this;exact (Ep _).1 this
 ·intro g t ht m hm hk;have h3:=C6.2 ⟨t,ht,m,hm,hk,rfl⟩;have h4:=h.pos t ht m hm hk;rw [h.cnt _ (by omega)] at h3
  split at h3
  ·have:=g (m.n-1).toNat (by omega)
   rw [show (((m.n-1).toNat:Nat):Int)+1=m.n by omega] at this
   exact (Ep _).2 this
  ·omega
def Cm:Con:=Xc (fun (l:Sl Ch) (_:Int)=>l.l.length≤1000000000) (fun l s=>Yq l.l s)
class Kis:Prop
theorem Kis.k (_:Kis) (h:p:=by
 repeat' first|exact Z8|with_reducible apply Zb|intro _
 all_goals first|with_reducible exact Jd|omega|exact ⟨k+1,by exact Qw,by omega,Eq.mpr hQ h9,by omega⟩|skip):p:=h
class Kir:Prop
theorem Kir.k (_:Kir) (h:p:=by
 repeat' first|exact Z8|with_reducible apply Zb|intro _
 refine Zm [4,6,7,8,9,10,11,12,13,14,15,16,17,18] (fun k:Nat=>[(5,.d (.int .i64 k))]) (fun k:Nat=>[]) (fun k:Nat=>k≤l.length∧∀ j,j<k→¬ (l.getD j c0).site=s) (fun k:Nat=>l.length-k) 0 ?_ ?_ ?_
 ·simp
 ·exact Qw
 rintro k ⟨hk,bg⟩;rcases Zo k l.length with ⟨aj,Qb⟩|⟨aj,Qb⟩
 rotate_left
 ·have Z9:R=false:=by rw [←cf];exact Su (p:=fun c:Ch=>c.site==s) c0 fun j hj=>by rw [Za];exact bg j (by omega)
  clear bg;exact qC
 have Qe:=Zr c0 aj;have aa:((l.getD k c0).site==s)=false→∀ j,j<k+1→¬ (l.getD j c0).site=s:=fun h=>K6 bg (by rw [Za] at h;exact h)
 have az:((l.getD k c0).site==s)=true→R=true:=fun h=>by rw [←cf];exact Ix (p:=fun c:Ch=>c.site==s) c0 k aj h
 obtain ⟨Q,hQ⟩:=exq ((∀ j,j<k+1→¬ (l.getD j c0).site=s));rw [hQ] at aa;obtain ⟨⟨cs,ct⟩,hc⟩:=exq (l.getD k c0);rw [hc] at Qe aa az;simp only at aa az;have Qe:el (l.map (enc:Ch→D)) k=.agg [.int .i64 cs,.list 3 (ct.map enc)]:=Qe;clear bg;cases Qc:(cs==s) with
 | true =>
  have Z9:=az Qc;clear aa az;exact Af
 | false =>
  have h9:=aa Qc;clear aa az;have Kq:Kis:=⟨⟩;exact Wy):p:=h
theorem good_chosen11:Qa Tryz.prog (38,Cm):=by
 obtain ⟨Kx,Kt,Kc,Kd,Kb,Ku,Kw,K,_⟩:=Xe Zv Zn [] false Xd;have Ko:=Cm.eq_def;refine Xj K Tryz.func38 [.tmp 4] rfl 19 rfl (fun c hc cvs hpre=>?_);unfold Cm at hpre;obtain ⟨⟨l⟩,s,rfl,hl⟩:=Ql hpre;simp only at hl;clear hpre;obtain ⟨R,Qf⟩:=exq (Yq l s);have cf:=Qf;unfold Yq at cf;cases hc;have Kq:Kir:=⟨⟩;exact Wy
noncomputable def con_AssignMore:Con:=Xc (fun (_:Tx9) (l:Sl Ch)=>Zpn l.l) (fun _ _=>true)
class Kiu:Prop
theorem Kiu.k (_:Kiu) (h:p:=by
 repeat' first|exact Z8|with_reducible apply Zb|intro _
 all_goals first|with_reducible exact Jd|omega|exact ⟨s+1,by rw [h2,h1];exact Qw,by omega,by omega⟩|skip):p:=h
class Kiv:Prop
theorem Kiv.k (_:Kiv) (h:p:=by
 repeat' first|exact Z8|with_reducible apply Zb|intro _
 all_goals first|with_reducible exact Jd|omega|exact ⟨s+1,by rw [h2,h1];exact Qw,by omega,by omega⟩|skip):p:=h
class Kit:Prop
theorem Kit.k (_:Kit) (h:p:=by
 repeat' first|exact Z8|with_reducible apply Zb|intro _
 all_goals first|with_reducible exact Jd|omega|exact aw|exact hM|exact p1|exact y3|skip
 refine Zm [4,33,34,35,36,37,38,39,40,41,42,43,44,45,46,47,48,49,50,51,52,53,54,55,56] (fun s:Nat=>[(10,.d (.int .i64 (Vv l s).length)),(11,.d (.int .i64 ((s-(Vv l s).length:Nat):Int))),(12,.d (.int .i64 ((s:Int)+1)))]) (fun s:Nat=>[]) (fun s:Nat=>s≤N) (fun s:Nat=>N-s) 0 ?_ ?_ ?_
 ·omega
 ·have Km:=dq;have Fg:=bq;exact Qw
 rintro s hs;have ew:=bp s;rcases C3 ((s:Int)+1) (N:Int) with ⟨aj,Qc⟩|⟨aj,Qc⟩
 rotate_left
 ·have dy:s=N:=by omega
  subst dy;have Qh:(((Vv l s).length:Int)==(S.length:Int))=true:=by rw [Zk,dc]
  have Qn:((A.length:Int)==(s:Int))=true:=by rw [Zk,be]
  obtain ⟨G,hG⟩:=exq (s-(Vv l s).length);rw [hG] at Zx ⊢;have Q6:((G:Int)==0)=(G==0):=by rw [Bool.eq_iff_iff];simp only [Zk];omega
  obtain ⟨B,hB⟩:=exq ((G==0));rw [hB] at Zx Q6;have Je:(B==B)=true:=beq_self_eq_true B;exact Af
 have dz:s<N:=by omega
 have bl:=bl s dz;have ak:=eS (l:=l) (s:=s);obtain ⟨K,hK⟩:=exq ((Vv l s).length);cases Zz:Yq l ((s:Int)+1) with
 | true =>
  rw [if_pos Zz] at ak;have h1:(Vv l (s+1)).length=K:=by rw [ak,hK]
  have h2:s+1-(Vv l (s+1)).length=s-K+1:=by rw [h1];omega
  rw [hK];obtain ⟨G,hG⟩:=exq (s-K);rw [hG] at h2 ⊢;have Kq:Kiu:=⟨⟩;exact Wy
 | false =>
  rw [if_neg (by rw [Zz];simp)] at ak
  have h1:(Vv l (s+1)).length=K+1:=by rw [ak,Zf,hK];rfl
  have h2:s+1-(Vv l (s+1)).length=s-K:=by rw [h1];omega
  obtain ⟨g1,g2⟩:=bl Zz;rw [hK] at g1 g2;have Zy:=Zr (0:Int) g1;rw [g2] at Zy;have Qd:Xf (S.length:Int) (K:Int)=false:=by rw [Pg];omega
  have Z1:(((s:Int)+1) != ((s:Int)+1))=false:=bne_self_eq_false _;rw [hK];obtain ⟨G,hG⟩:=exq (s-K);rw [hG] at h2 ⊢;have Kq:Kiv:=⟨⟩;exact Wy):p:=h
theorem good_AssignMore:Qa Tryz.prog (10,con_AssignMore):=by
 obtain ⟨Kx,Kt,Kc,Kd,Kb,Ku,Kw,K,X9,Uv,Po,Cx,Oj,kK,oB,_⟩:=Xe Zv Zn [] false (Q0 nO Eb.eq_def (Q0 good_Few11 Rr.eq_def (Q0 iD Te.eq_def (Q0 dS Ba.eq_def (Q0 good_SitesA Ea.eq_def (Q0 good_chosen11 Cm.eq_def (Q0 good_BelowA Ec.eq_def Xd)))))));have Ko:=con_AssignMore.eq_def;refine Xj K Tryz.func10 [.tmp 4] rfl 90 rfl (fun c Zz cvs hpre=>?_);unfold con_AssignMore at hpre;obtain ⟨⟨na,xa⟩,⟨l⟩,rfl,aw⟩:=Ql hpre;simp only at aw;clear hpre;have am:=rF (t:=⟨na,xa⟩) (most:=60);obtain ⟨⟨⟨P⟩,n,ok⟩,Qb⟩:=exq (Fm ⟨na,xa⟩ 60);rw [Qb] at am;simp only at am;cases Zz;refine Y4 5 ?_;cases ok with
 | false =>
  exact qC
 | true =>
 cases Qf:tY l 20 with
 | false =>
  exact Af
 | true =>
 have hN:=(am rfl).1;have hP:=hN.prog;have bj:=hN.lo;have eq:=hN.hi;clear am;obtain ⟨f1,f2,f3⟩:=Zol Qf;have hM:I8 (Xa l):=iH f3 fun c Zz=>by have:=f2 c Zz;omega
 have eo:l.length≤1000000:=by omega
 have hY:=hP.filled f3 f2;have Qe:=Ab hN f3;have Zw:=Zun hN;have Q4:=Sf hY hP;have Zu:=Sf hP hP;have Zx:=Sf hP hY;rw [Iv hP f3] at Q4;rw [Zr2 hP] at Zu;rw [Zr4 hN f3] at Zx;obtain ⟨Y,Z9⟩:=exq (Ym (Xa l) P);rw [Z9] at hY Qe Q4 Zx;have p1:=hP.each (by omega)
 have p3:=hP.sitesQ (by omega)
 have p5:=hP.belQ (by omega)
 have y3:=hY.sitesQ (by omega)
 have y5:=hY.belQ (by omega)
 obtain ⟨N,rfl⟩:∃ N:Nat,n=N:=⟨n.toNat,by omega⟩
 rw [Zj] at Qe Zw Zx;have bl:=fun (s:Nat) (h:s<N) (Zz:Yq l ((s:Int)+1)=false)=>Zxx (l:=l) h Zz;have bp:=Znm (l:=l);have dc:(Pw l N).length=(Vv l N).length:=by unfold Pw;rw [Zl]
 have be:(Pw [] N).length=N:=by unfold Pw Vv Yq;rw [Zl,List.filter_eq_self.2 (fun j _=>by simp),List.length_range]
 obtain ⟨S,hS⟩:=exq (Pw l N);obtain ⟨A,hA⟩:=exq (Pw [] N);rw [hS] at Qe bl dc;rw [hA] at Zw be;have eu:=bp N;clear hP hY hN;have dq:(Vv l 0).length=0:=rfl;have bq:0-(Vv l 0).length=0:=rfl;have Kq:Kit:=⟨⟩;exact Wy
def Qdo (ts:List (Sl Node)) (i:Nat):Ch:=⟨(i:Int)+1,(ts.getD i ⟨[]⟩).l⟩
def Tj (ts:List (Sl Node)) (k:Nat):List Ch:=(List.range k).map (Qdo ts)
def U9 (ts:List (Sl Node)) (bs:List Bool) (k:Nat):List Ch:=((List.range k).filter fun i=>bs.getD i false).map (Qdo ts)
theorem Zwv {ts:List (Sl Node)} {k:Nat}:Tj ts (k+1)=Tj ts k++[Qdo ts k]:=by
 unfold Tj;rw [List.range_succ,List.map_append];rfl
theorem Zql {ts:List (Sl Node)} {bs:List Bool} {k:Nat}:U9 ts bs (k+1)=if bs.getD k false=true then U9 ts bs k++[Qdo ts k] else U9 ts bs k:=by
 unfold U9;rw [List.range_succ,List.filter_append];cases h:bs.getD k false with
 | true =>
  have e:[k].filter (fun i=>bs.getD i false)=[k]:=by rw [List.filter_cons,h];rfl
  rw [e,if_pos rfl,List.map_append];rfl
 | false =>
  have e:[k].filter (fun i=>bs.getD i false)=[]:=by rw [List.filter_cons,h];rfl
  rw [e,if_neg (by simp),List.append_nil]
theorem Zph {ts:List (Sl Node)} {k:Nat}:(Tj ts k).length=k:=by unfold Tj;simp
theorem Zyj {ts:List (Sl Node)} {bs:List Bool} {k:Nat}:(U9 ts bs k).length≤k:=by
 unfold U9;rw [Zl];have:=List.length_filter_le (fun i=>bs.getD i false) (List.range k);simpa using this
theorem qU {ts:List (Sl Node)} {bs:List Bool} {k:Nat} {c:Ch} (h:c∈U9 ts bs k):c∈Tj ts k:=by
 obtain ⟨i,hi,rfl⟩:=List.mem_map.1 h;exact List.mem_map.2 ⟨i,(List.mem_filter.1 hi).1,rfl⟩
theorem uO {ts:List (Sl Node)} {k:Nat} {s:Int} (h1:1≤s) (h2:s≤k):Yq (Tj ts k) s=true:=by
 unfold Yq;rw [List.any_eq_true];exact ⟨Qdo ts (s-1).toNat,List.mem_map.2 ⟨_,List.mem_range.2 (by omega),rfl⟩,by rw [Zk];show (((s-1).toNat:Nat):Int)+1=s;omega⟩
theorem Zmv {ts:List (Sl Node)} {bs:List Bool} {k j:Nat} (h:j<k):Yq (U9 ts bs k) ((j:Int)+1)=bs.getD j false:=by
 unfold Yq;rw [Bool.eq_iff_iff,List.any_eq_true];constructor
 ·rintro ⟨c,hc,he⟩;obtain ⟨i,hi,rfl⟩:=List.mem_map.1 hc;rw [Zk] at he;have he:(i:Int)+1=(j:Int)+1:=he;have:i=j:=by omega
  subst this;exact (List.mem_filter.1 hi).2
 ·intro hb;exact ⟨Qdo ts j,List.mem_map.2 ⟨j,List.mem_filter.2 ⟨List.mem_range.2 h,hb⟩,rfl⟩,by rw [Zk];rfl⟩
theorem Zqk {ts:List (Sl Node)} {bs:List Bool} {k:Nat} (h:right11 (Tj ts k)=true):right11 (U9 ts bs k)=true:=by
 refine qN ?_ fun c hc=>bL h c (qU hc);show (U9 ts bs k).Pairwise fun a b=>a.site<b.site;unfold U9;rw [List.pairwise_map];refine List.Pairwise.imp (fun {a b} h=>?_) (List.Pairwise.filter _ List.pairwise_lt_range);show (a:Int)+1<(b:Int)+1;omega
theorem Zu5 {ts:List (Sl Node)} {bs:List Bool} {k:Nat} (h:right11 (Tj ts k)=true) (s:Int) (u:List Node) (hs:Xl (U9 ts bs k) s=some u):Xl (Tj ts k) s=some u:=by
 obtain ⟨c,hc,rfl,rfl⟩:=Lv hs;exact xI (Qcz h) (qU hc)
theorem Zvy {ts:List (Sl Node)} {bs:List Bool} {k:Nat}:(Pw (U9 ts bs k) k).length=k-(U9 ts bs k).length:=by
 unfold Pw Vv;rw [Zl];have h1:((List.range k).filter fun j:Nat=>!Yq (U9 ts bs k) ((j:Int)+1))=(List.range k).filter fun j:Nat=>!bs.getD j false :=
  List.filter_congr fun j hj=>by rw [Zmv (List.mem_range.1 hj)]
 rw [h1];have h2:(U9 ts bs k).length=((List.range k).filter fun j=>bs.getD j false).length:=by unfold U9;rw [Zl]
 rw [h2];have key:∀ (l:List Nat) (f:Nat→Bool),(l.filter fun j=>!f j).length+(l.filter f).length=l.length:=by
  intro l f
  induction l with
  | nil=>rfl
  | cons x l ih =>
   rw [List.filter_cons,List.filter_cons];cases h:f x<;>simp<;>omega
 have:=key (List.range k) fun j=>bs.getD j false;rw [List.length_range] at this;omega
theorem Zyy {ts:List (Sl Node)} {k:Nat}:(Pw (Tj ts k) k).length=0:=by
 unfold Pw Vv;rw [Zl,List.length_eq_zero_iff,List.filter_eq_nil_iff];intro j hj;rw [uO (by omega) (by have:=List.mem_range.1 hj;omega)]
 simp
theorem Zp0 {P:List Mod6} {n:Int} (h:NumP P n) {ts:List (Sl Node)} (hr:right11 (Tj ts n.toNat)=true):∀ t∈Bk (Ym (Xa (Tj ts n.toNat)) P),Vq t.l=true:=by
 intro t ht;rw [On] at ht;obtain ⟨u,hu,rfl⟩:=List.mem_map.1 ht;have bj:=h.lo;unfold Vq;rw [List.all_eq_true];intro m hm;rw [bne_iff_ne];intro hk;obtain ⟨⟨v,hv,ck,dw⟩,hc⟩:=(tA hr (x:=m.n)).1 ⟨m,hm,hk,rfl⟩;have h1:=h.pos u hu v hv ck;have h2:=C6.2 ⟨u,hu,v,hv,ck,rfl⟩;rw [h.cnt _ (by omega)] at h2
 split at h2
 ·rw [←dw,uO (by omega) (by omega)] at hc
  cases hc
 ·omega
theorem Zz6 {ts:List (Sl Node)} {k:Nat} (hk:k≤ts.length) (h:∀ t∈ts,t.l.length≤9223372036854775807∧Wu t.l) (cj:k≤1000000):Zpn (Tj ts k):=by
 refine ⟨by rw [Zph];omega,fun c hc=>?_⟩
 obtain ⟨i,hi,rfl⟩:=List.mem_map.1 hc;have hi:=List.mem_range.1 hi;exact h _ (show ts.getD i ⟨[]⟩∈ts by simp [show i<ts.length by omega])
noncomputable def con_AssignAll:Con:=Vp (fun (_:Tx9) (ts:Sl (Sl Node)) (bs:Sl Bool)=>(ts.l.length≤9223372036854775807∧∀ t∈ts.l,t.l.length≤9223372036854775807∧Wu t.l)∧bs.l.length≤9223372036854775807) (fun _ _ _=>true)
class Kix:Prop
theorem Kix.k (_:Kix) (h:p:=by
 repeat' first|exact Z8|with_reducible apply Zb|intro _
 all_goals first|with_reducible exact Jd|omega|exact ⟨i+1,by (have Km:=db;have Fg:=da;have Zsi:=d5;have Qao:=d4;exact Qw),by omega,by omega⟩|skip):p:=h
class Kiy:Prop
theorem Kiy.k (_:Kiy) (h:p:=by
 repeat' first|exact Z8|with_reducible apply Zb|intro _
 all_goals first|with_reducible exact Jd|omega|exact ⟨i+1,by rw [hp];(have Km:=db;have Fg:=da;exact Qw),by omega,by omega⟩|skip):p:=h
class KiB:Prop
theorem KiB.k (_:KiB) (h:p:=by
 repeat' first|exact Z8|with_reducible apply Zb|intro _
 all_goals first|with_reducible exact Jd|omega|exact ⟨m+1,by exact Qw,by omega,by omega⟩|skip):p:=h
class KiD:Prop
theorem KiD.k (_:KiD) (h:p:=by
 repeat' first|exact Z8|with_reducible apply Zb|intro _
 all_goals first|with_reducible exact Jd|omega|exact ⟨d+1,by exact Qw,by omega,by omega⟩|skip):p:=h
class KiE:Prop
theorem KiE.k (_:KiE) (h:p:=by
 repeat' first|exact Z8|with_reducible apply Zb|intro _
 all_goals first|with_reducible exact Jd|omega|exact ⟨k+1,by exact Qw,by omega,by omega⟩|skip):p:=h
class KiC:Prop
theorem KiC.k (_:KiC) (h:p:=by
 repeat' first|exact Z8|with_reducible apply Zb|intro _
 all_goals first|with_reducible exact Jd|omega|exact j4|skip
 refine Zm [6,103,104,105,106,107,108,109,110,111,112,113,114,115,116,117,118,119,120,121,122,123,124,125,126,127,128,129,130,131,132,133,134,135,136,137,138,139,140,141,142,143,144,145,146,147,148] (fun k:Nat=>[(18,.d (.int .i64 k))]) (fun k:Nat=>[]) (fun k:Nat=>k≤de.length) (fun k:Nat=>de.length-k) 0 ?_ ?_ ?_
 ·omega
 ·exact Qw
 rintro k hk;rcases Zo k de.length with ⟨ae,Q5⟩|⟨ae,Q5⟩
 rotate_left
 ·have Kq:KiD:=⟨⟩;exact Wy
 have Qy:=Zr e0 ae;have cq:de.getD k e0∈de:=by simp [ae]
 obtain ⟨Jh,Jg⟩:=st2 _ cq;obtain ⟨k3,k4⟩:=k2 _ cq;obtain ⟨⟨pk,pl,pn,pb,pm,pq,pt,pu⟩,d3⟩:=exq (de.getD k e0);rw [d3] at Qy Jh Jg k3 k4;simp only at Jh Jg k3 k4;have Qy:el (de.map (enc:Part→D)) k=.agg [.int .i64 pk,.str pl,.str pn,.str pb,.int .i64 pm,.int .i64 pq,.list 3 (pt.map enc),.list 3 (pu.map enc)]:=Qy;have Kq:KiE:=⟨⟩;exact Wy):p:=h
class KiA:Prop
theorem KiA.k (_:KiA) (h:p:=by
 repeat' first|exact Z8|with_reducible apply Zb|intro _
 all_goals first|with_reducible exact Jd|omega|skip
 refine Zm [6,18,82,83,84,85,86,87,88,89,90,91,92,93,94,95,96,97,98,99,100,101,102,103,104,105,106,107,108,109,110,111,112,113,114,115,116,117,118,119,120,121,122,123,124,125,126,127,128,129,130,131,132,133,134,135,136,137,138,139,140,141,142,143,144,145,146,147,148] (fun d:Nat=>[(17,.d (.int .i64 d))]) (fun d:Nat=>[]) (fun d:Nat=>d≤md.length) (fun d:Nat=>md.length-d) 0 ?_ ?_ ?_
 ·omega
 ·exact Qw
 rintro d hd;rcases Zo d md.length with ⟨av,Qk⟩|⟨av,Qk⟩
 rotate_left
 ·have Kq:KiB:=⟨⟩;exact Wy
 have Qs:=Zr J3 av;have cb:md.getD d J3∈md:=by simp [av]
 have j4:=i4 _ cb;have j5:=i5 _ cb;have aq:=ap _ cb;obtain ⟨⟨dn,dt,de⟩,em⟩:=exq (md.getD d J3);rw [em] at Qs j4 j5 aq;simp only at j4 j5 aq;obtain ⟨Q8,st2⟩:=aq;obtain ⟨k1,k2⟩:Qcd de:=j5;have Kq:KiC:=⟨⟩;exact Wy):p:=h
class Kiz:Prop
theorem Kiz.k (_:Kiz) (h:p:=by
 repeat' first|exact Z8|with_reducible apply Zb|intro _
 all_goals first|with_reducible exact Jd|omega|exact aw|exact hM|exact df|exact p1|skip
 refine Zm [6,17,18,76,77,78,79,80,81,82,83,84,85,86,87,88,89,90,91,92,93,94,95,96,97,98,99,100,101,102,103,104,105,106,107,108,109,110,111,112,113,114,115,116,117,118,119,120,121,122,123,124,125,126,127,128,129,130,131,132,133,134,135,136,137,138,139,140,141,142,143,144,145,146,147,148] (fun m:Nat=>[(16,.d (.int .i64 m))]) (fun m:Nat=>[]) (fun m:Nat=>m≤X.length) (fun m:Nat=>X.length-m) 0 ?_ ?_ ?_
 ·omega
 ·exact Qw
 rintro m hm;rcases Zo m X.length with ⟨au,Q4⟩|⟨au,Q4⟩
 rotate_left
 ·exact Af
 have Qi:=Zr Jx au;have ab:X.getD m Jx∈X:=by simp [au]
 have cx:=x6.2 _ ab;have ap:∀ d∈(X.getD m Jx).defs,Vq d.t=true∧∀ q∈d.e,Vq q.t=true∧Vq q.u=true:=fun d hd =>
  ⟨aa ⟨d.t⟩ (Mk.2 ⟨_,ab,d,hd,.inl rfl⟩),fun q hq=>⟨aa ⟨q.t⟩ (Mk.2 ⟨_,ab,d,hd,.inr ⟨q,hq,.inl rfl⟩⟩),aa ⟨q.u⟩ (Mk.2 ⟨_,ab,d,hd,.inr ⟨q,hq,.inr rfl⟩⟩)⟩⟩
 obtain ⟨M,ef⟩:=exq (X.getD m Jx);rw [ef] at Qi cx ap;obtain ⟨mn,mi,md,ms⟩:=M;obtain ⟨i1,i2,i3,i4,i5⟩:=cx;simp only at i1 i2 i3 i4 i5 ap;have Kq:KiA:=⟨⟩;exact Wy):p:=h
class Kiw:Prop
theorem Kiw.k (_:Kiw) (h:p:=by
 repeat' first|exact Z8|with_reducible apply Zb|intro _
 all_goals first|with_reducible exact Jd|omega|skip
 have bq:Tj ts 0=[]:=rfl;have dm:U9 ts bs 0=[]:=rfl;refine Zm [13,42,43,44,45,46,47,48,49,50,51,52,53,54,55,56,57,58,59,60,61,62,63,64,65] (fun i:Nat=>[(10,.sl 40 ((Tj ts i).map (enc:Ch→D)).length),(11,.sl 41 ((U9 ts bs i).map (enc:Ch→D)).length),(12,.d (.int .i64 i))]) (fun i:Nat=>[(40,.row 2 ((Tj ts i).map enc) 0),(41,.row 2 ((U9 ts bs i).map enc) 0)]) (fun i:Nat=>i≤N) (fun i:Nat=>N-i) 0 ?_ ?_ ?_
 ·omega
 ·rw [bq,dm];exact Qw
 rintro i hi;have b9:=Zph (ts:=ts) (k:=i);have b8:=Zyj (ts:=ts) (bs:=bs) (k:=i);rcases Zo i N with ⟨aj,Qe⟩|⟨aj,Qe⟩
 ·have Qc:=Zr (⟨[]⟩:Sl Node) (show i<ts.length by omega)
  have Qh:=Zr false (show i<bs.length by omega)
  have ha:=Zwv (ts:=ts) (k:=i);have hp:=Zql (ts:=ts) (bs:=bs) (k:=i);have cd:Qdo ts i=⟨(i:Int)+1,(ts.getD i ⟨[]⟩).l⟩:=rfl;obtain ⟨⟨t⟩,ht⟩:=exq (ts.getD i ⟨[]⟩);rw [ht] at Qc cd;have Qc:el (ts.map (enc:Sl Node→D)) i=.list 3 (t.map enc):=Qc;obtain ⟨A,hA⟩:=exq (Tj ts i);obtain ⟨B,hB⟩:=exq (U9 ts bs i);rw [hA] at ha b9;rw [hB] at hp b8;rw [hA,hB];have db:(Tj ts (i+1)).map (enc:Ch→D)=A.map enc++[.agg [.int .i64 ((i:Int)+1),.list 3 (t.map enc)]]:=by rw [ha,List.map_append,cd];rfl
  have da:(Tj ts (i+1)).length=A.length+1:=by rw [ha];simp
  cases hb:bs.getD i false with
  | true =>
   rw [if_pos hb] at hp;have d5:(U9 ts bs (i+1)).map (enc:Ch→D)=B.map enc++[.agg [.int .i64 ((i:Int)+1),.list 3 (t.map enc)]]:=by rw [hp,List.map_append,cd];rfl
   have d4:(U9 ts bs (i+1)).length=B.length+1:=by rw [hp];simp
   rw [hb] at Qh;clear ha hp;have Kq:Kix:=⟨⟩;exact Wy
  | false =>
   rw [if_neg (by rw [hb];simp)] at hp
   rw [hb] at Qh;clear ha;have Kq:Kiy:=⟨⟩;exact Wy
 have d7:i=N:=by omega
 subst d7;have aw:=Zz6 (ts:=ts) (k:=i) h1 cn (by omega)
 have bw:=fun (h:right11 (Tj ts i)=true)=>Zqk (bs:=bs) h;cases Qn:tY (Tj ts i) 20 with
 | false =>
  clear bw;obtain ⟨A,hA⟩:=exq (Tj ts i);obtain ⟨B,hB⟩:=exq (U9 ts bs i);rw [hA] at Qn aw b9 ⊢;rw [hB] at b8 ⊢;exact Af
 | true =>
 obtain ⟨f1,f2,f3⟩:=Zol Qn;have g3:=bw f3;have g2:∀ c∈U9 ts bs i,c.t.length≤30:=fun c hc=>f2 c (qU hc);have aa:=Zp0 hN (ts:=ts) (by rw [Zj];exact f3)
 have sx:=Ab hN f3;have sy:=Ab hN g3;rw [Zj] at aa sx sy;have hP:=hN.prog;have hX:=hP.filled f3 f2;have hY:=hP.filled g3 g2;have lx:=Zyy (ts:=ts) (k:=i);have ly:=Zvy (ts:=ts) (bs:=bs) (k:=i);rw [←sx] at lx;rw [←sy] at ly;have Zw:=(Sf hX hY).trans (uG hP f3 g3 (Zu5 f3));have Zz:=(Sf hY hP).trans (Iv hP g3);have Zy:=(Sf hX hP).trans (Iv hP f3);have hM:I8 (Xa (Tj ts i)):=iH f3 fun c hc=>by have:=f2 c hc;omega
 have df:I8 (Xa (U9 ts bs i)):=iH g3 fun c hc=>by have:=g2 c hc;omega
 have ce:(Ym (Xa (Tj ts i)) P).length=P.length:=by unfold Ym;rw [List.length_mapIdx]
 obtain ⟨A,hA⟩:=exq (Tj ts i);obtain ⟨B,hB⟩:=exq (U9 ts bs i);rw [hA] at Qn aw b9 hM hX Zw Zy lx aa ce ⊢;rw [hB] at b8 df hY Zw Zz ly ⊢;obtain ⟨X,Q6⟩:=exq (Ym (Xa A) P);obtain ⟨Y,Je⟩:=exq (Ym (Xa B) P);rw [Q6] at hX Zw Zy lx aa ce;rw [Je] at hY Zw Zz ly;have p1:=hP.each (by omega)
 have p5:=hP.belQ (by omega)
 have x3:=hX.sitesQ (by omega)
 have x5:=hX.belQ (by omega)
 have x6:=hX.in6 (by omega)
 have y3:=hY.sitesQ (by omega)
 have y5:=hY.belQ (by omega)
 obtain ⟨S,Zu⟩:=exq (Ac (Bk X));obtain ⟨T,Zx⟩:=exq (Ac (Bk Y));rw [Zu] at lx;rw [Zx] at ly;have Qd:((S.length:Int)==0)=true:=by rw [Zk];omega
 have Z1:((T.length:Int)==(i:Int)-(B.length:Int))=true:=by rw [Zk];omega
 have Z0:((X.length:Int)==(P.length:Int))=true:=by rw [Zk,ce]
 have be:A.length≤1000000:=by omega
 have di:B.length≤1000000:=by omega
 clear hP hY hN bw f3 f2 f1 g2 g3 sx sy;have cv:=hX.bare.len;have Kq:Kiz:=⟨⟩;exact Wy):p:=h
theorem good_AssignAll:Qa Tryz.prog (11,con_AssignAll):=by
 obtain ⟨Kx,Kt,Kc,Kd,Kb,Ku,Kw,K,X9,Uv,Po,Cx,Oj,kK,oB,_⟩:=Xe Zv Zn [] false (Q0 nO Eb.eq_def (Q0 good_Few11 Rr.eq_def (Q0 iD Te.eq_def (Q0 dS Ba.eq_def (Q0 good_SitesA Ea.eq_def (Q0 good_Static3 Tf.eq_def (Q0 good_BelowA Ec.eq_def Xd)))))));have Ko:=con_AssignAll.eq_def;refine Xj K Tryz.func11 [.tmp 6] rfl 188 rfl (fun c hc cvs hpre=>?_);unfold con_AssignAll at hpre;obtain ⟨⟨na,xa⟩,⟨ts⟩,⟨bs⟩,rfl,⟨dx,cn⟩,ea⟩:=Vb hpre;simp only at dx cn ea;clear hpre;have am:=rF (t:=⟨na,xa⟩) (most:=20);obtain ⟨⟨⟨P⟩,n,ok⟩,Qb⟩:=exq (Fm ⟨na,xa⟩ 20);rw [Qb] at am;simp only at am;cases hc;refine Y4 11 ?_;cases ok with
 | false =>
  exact qC
 | true =>
 obtain ⟨hN,cj⟩:=am rfl;have bj:=hN.lo;clear am;obtain ⟨N,rfl⟩:∃ N:Nat,n=N:=⟨n.toNat,by omega⟩
 rcases Zo ts.length N with ⟨h1,Qf⟩|⟨h1,Qf⟩
 ·exact qC
 rcases Zo bs.length N with ⟨h2,Z9⟩|⟨h2,Z9⟩
 ·exact qC
 have Kq:Kiw:=⟨⟩;exact Wy
open Go.Proofs
theorem Qb7 {p q:D→Prop} {ds:List D} (h:Zsg [p,q] ds):∃ a b,ds=[a,b]∧p a∧q b:=by
 match ds,h with
 | [a,b],h=>exact ⟨a,b,rfl,h.1,h.2.1⟩
def Qg3 (c:Ch):Prop:=c.t.length≤maxLen∧∀ y∈c.t,y.name.length≤maxLen
theorem Qg8:Zw2 Tryz.prog 72 2 true Ch Qg3 :=
 (lX (ps:=[_,_]) Tryz.underlying72 (by kernel_rfl) rfl ⟨rfl,by kernel_rfl,Zal Tryz.underlying3,rfl,by kernel_rfl,Zsx,trivial⟩).mono fun x h=>by
  obtain ⟨ds,rfl,h⟩:=h;obtain ⟨a,b,rfl,⟨k,rfl,_⟩,⟨⟨t⟩,rfl,ht⟩⟩:=Qb7 h;exact ⟨⟨k,t⟩,rfl,ht⟩
theorem rdChs:Zw2 Tryz.prog 59 1 false (Sl Ch) (fun a=>a.l.length≤maxLen∧∀ y∈a.l,Qg3 y):=qR Tryz.underlying59 (by kernel_rfl) rfl (by decide) Qg8
theorem fitC_of {a:Sl Ch} (h:a.l.length≤maxLen∧∀ y∈a.l,Qg3 y):Zpn a.l:=by
 unfold maxLen Qg3 at h;refine ⟨by have:=h.1;omega,fun c hc=>?_⟩
 obtain ⟨h1,h2⟩:=h.2 c hc;unfold maxLen at *;exact ⟨by omega,fun n hn=>by have:=h2 n hn;omega⟩
theorem rdTys:Zw2 Tryz.prog 69 1 false (Sl (Sl Node)) (fun a=>a.l.length≤maxLen∧∀ y∈a.l,y.l.length≤maxLen∧∀ z∈y.l,z.name.length≤maxLen):=qR Tryz.underlying69 (by kernel_rfl) rfl (by decide) Zsx
theorem rdBools:Zw2 Tryz.prog 70 1 false (Sl Bool) (fun a=>a.l.length≤maxLen∧∀ y∈a.l,True):=qR Tryz.underlying70 (by kernel_rfl) rfl (by decide) (Zya Tryz.underlying4)
theorem allPre_of {a:Sl (Sl Node)} {b:Sl Bool} (h:a.l.length≤maxLen∧∀ y∈a.l,y.l.length≤maxLen∧∀ z∈y.l,z.name.length≤maxLen) (g:b.l.length≤maxLen∧∀ y∈b.l,True) :
  (a.l.length≤9223372036854775807∧∀ t∈a.l,t.l.length≤9223372036854775807∧Wu t.l)∧b.l.length≤9223372036854775807:=by
 unfold maxLen at h g;exact ⟨⟨by have:=h.1;omega,fun t ht=>⟨by have:=(h.2 t ht).1;omega,fun n hn=>by have:=(h.2 t ht).2 n hn;omega⟩⟩,by have:=g.1;omega⟩
end Go.Am.Ty
