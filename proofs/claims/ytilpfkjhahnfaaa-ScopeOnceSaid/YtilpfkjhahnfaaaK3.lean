/- Contracts of functions that the law reaches, and plain laws. Conditions: those that each contract states. -/
import Derived.Test.YtilpfkjhahnfaaaK2
import Derived.Sort.Walk0
set_option maxHeartbeats 4000000
set_option linter.unusedVariables false
set_option linter.unusedSimpArgs false
namespace Go.Am.Ty
open Go.Proofs Go.Rose Go.Rose.Rose
def Numb (l:List Node):Prop:=∀ n∈l,numb3 n=true
theorem many_ar {n:Node} (h:numb3 n=true):Tm n=(ar n:Int):=(ar_many3 (numb3_tame h).1).symm
theorem eat_eatN:∀ {l:List Node} {o k:Nat},Numb l→1≤o→eatN ar l o=some k→eat l o=k
 | [],o+1,k,_,_,h=>by simp [eatN] at h
 | n::l,o+1,k,hn,_,h=>by
  rw [eatN,Option.map_eq_some_iff] at h
  obtain ⟨k',h1,rfl⟩:=h
  have hm:=many_ar (hn n (by simp))
  have e:((o+1:Nat):Int)-1+Tm n=((o+ar n:Nat):Int):=by rw [hm];omega
  rw [eat,e]
  by_cases hz:o+ar n=0
  ·rw [if_pos (by omega)]
   rw [hz] at h1
   cases l<;>(simp only [eatN,aZ] at h1;omega)
  ·rw [if_neg (by omega),eat_eatN (fun m hm=>hn m (List.mem_cons_of_mem _ hm)) (by omega) h1]
   omega
theorem numb_drop {l:List Node} {i:Nat} (h:Numb l):Numb (l.drop i):=fun n hn=>h n (List.mem_of_mem_drop hn)
theorem eat_at {t:List Node} {i:Nat} {x:Rose Node} (hn:Numb t) (h:At ar t i x):eat (t.drop i) 1=(nds x).length:=eat_eatN (o:=1) (numb_drop hn) (cZ _) (at_eatN h)
theorem end3_at {t:List Node} {i:Nat} {x:Rose Node} (hn:Numb t) (h:At ar t i x):end3 t i=((i+(nds x).length:Nat):Int):=by
 unfold end3
 have:=h.lt
 rw [if_neg (by omega),aX,eat_at hn h]
 simp
theorem kidsFrom_ats {t:List Node} (hn:Numb t):∀ {ks:List (Rose Node)} {q:Nat},Ats ar t q ks→Lt t ks.length q=kidPos q ks
 | [],_,_=>rfl
 | x::ks,q,h=>by
  have hx:=h.head
  rw [bJ,Lt,if_pos hx.1.lt,eat_at hn hx.1,kidPos,kidsFrom_ats hn hx.2]
theorem kids3_at {t:List Node} {i:Nat} {x:Rose Node} (hn:Numb t) (h:At ar t i x):kids3 t i=kidPos (i+1) x.kids:=by
 unfold kids3
 have hl:=h.lt
 have hk:=h.kids
 have hm:=many_ar (hn (t.getD i n0) (by simp [hl]))
 rw [if_neg (by omega)]
 simp only [aX]
 rw [show (⟨0,[],0⟩:Node)=n0 from rfl,hm,h.root n0,aX,←hk.2,kidsFrom_ats hn hk.1]
def deepOk (r d:Nat):Bool:=decide (r+d≤100)
theorem deep_t {r d:Nat} (h:r+d≤100):deepOk r d=true:=decide_eq_true h
theorem deep_f {r d:Nat} (h:¬ r+d≤100):deepOk r d=false:=decide_eq_false h
theorem deep_eq {r d r' d':Nat} (h:r+d=r'+d'):deepOk r d=deepOk r' d':=by unfold deepOk;rw [h]
mutual
theorem shal_tree:∀ (x:Rose Node) (l:List Node) (rs:List Int),wf ar x→Numb (nds x)→shal (nds x++l) rs=(deepOk rs.length (depth x)&&shal l (popA 0 rs))
 | mk n ks,l,rs,hw,hn=>by
  have hm:=many_ar (hn n (by simp [nds]))
  rw [nds_mk,List.cons_append,shal,hm,←hw.1]
  cases ks with
  | nil =>
   have hd:depth (mk n [])=1:=by simp [depth,depths]
   rw [hd]
   simp only [ndss,List.nil_append,List.length_nil]
   by_cases h:100≤rs.length
   ·rw [if_pos h,deep_f (by omega)];rfl
   ·rw [if_neg h,deep_t (by omega)];rfl
  | cons y ys =>
   have hd:depth (mk n (y::ys))=1+depths (y::ys):=by rw [depth]
   rw [hd,popA_stop (by simp only [bJ];omega),shal_forest (y::ys) l rs (by simp) hw.2 (fun m hm=>hn m (by rw [nds_mk];exact List.mem_cons_of_mem _ hm))]
   by_cases h:100≤rs.length
   ·rw [if_pos h,deep_f (by omega)];rfl
   ·rw [if_neg h]
theorem shal_forest:∀ (xs:List (Rose Node)) (l:List Node) (rs:List Int),xs≠[]→wfs ar xs→Numb (ndss xs)→shal (ndss xs++l) ((xs.length:Int)::rs)=(deepOk rs.length (1+depths xs)&&shal l (popA 0 rs))
 | [],_,_,h,_,_=>absurd rfl h
 | x::ts,l,rs,_,hw,hn=>by
  have h0:=shal_tree x
  cases ts with
  | nil =>
   simp only [ndss,List.append_nil] at hn ⊢
   have hd:depths [x]=depth x:=by simp [depths]
   rw [h0 l _ hw.1 hn,hd]
   simp only [bJ,List.length_nil]
   rw [deep_eq (r:=rs.length+1) (d:=depth x) (r':=rs.length) (d':=1+depth x) (by omega)]
   rfl
  | cons y ts =>
   have h2:=shal_forest (y::ts) l rs (by simp) hw.2 (fun m hm=>hn m (by rw [ndss];exact List.mem_append_right _ hm))
   rw [ndss,List.append_assoc,h0 _ _ hw.1 (fun m hm=>hn m (by rw [ndss];exact List.mem_append_left _ hm))]
   have e:popA 0 ((((x::y::ts).length:Nat):Int)::rs)=(((y::ts).length:Nat):Int)::rs:=by
    rw [popA,if_pos rfl,show (((x::y::ts).length:Nat):Int)-1=(((y::ts).length:Nat):Int) by simp only [bJ];omega,popA_stop (by simp only [bJ];omega)]
   have hd:depths (x::y::ts)=max (depth x) (depths (y::ts)):=by rw [depths]
   rw [e,h2,hd]
   simp only [bJ]
   by_cases h1:rs.length+1+depth x≤100
   ·rw [deep_t h1,Bool.true_and]
    by_cases h2:rs.length+(1+depths (y::ts))≤100
    ·rw [deep_t h2,deep_t (r:=rs.length) (d:=1+max (depth x) (depths (y::ts))) (by omega)]
    ·rw [deep_f h2,deep_f (r:=rs.length) (d:=1+max (depth x) (depths (y::ts))) (by omega)]
   ·rw [deep_f h1,deep_f (r:=rs.length) (d:=1+max (depth x) (depths (y::ts))) (by omega)]
    rfl
end
theorem shallow3_tree {x:Rose Node} (hw:wf ar x) (hn:Numb (nds x)):shallow3 (nds x)=deepOk 0 (depth x):=by
 have:=shal_tree x [] [] hw hn
 simp only [List.append_nil,List.length_nil] at this
 unfold shallow3
 rw [this,shal]
 simp
def labZ (n:Node) (ks:List (Rose Node)):Bool:=(List.range ks.length).all fun k=>labK n (ks.getD k (mk n0 [])).root (ks.getD (k-1) (mk n0 [])).root (ltB 0 k) ((k:Int)==(ks.length:Int)-1)
mutual
def labT:Rose Node→Bool
 | mk n ks=>labZ n ks&&labTs ks
def labTs:List (Rose Node)→Bool
 | []=>true
 | x::xs=>labT x&&labTs xs
end
theorem lab3_at {t:List Node} {i:Nat} {x:Rose Node} (hn:Numb t) (h:At ar t i x):lab3 t i=labZ x.root x.kids:=by
 have hk:=h.kids
 have hl:=h.lt
 have hm:=many_ar (hn (t.getD i n0) (by simp [hl]))
 have hr:=h.root n0
 unfold lab3
 rw [kids3_at hn h,kidPos_len,hr]
 rw [hr] at hm
 rw [hm,hk.2]
 rw [show ((ar x.root:Int)==(ar x.root:Int))=true by simp,Bool.true_and]
 unfold labZ
 rw [hk.2]
 apply Bool.eq_iff_iff.2
 simp only [List.all_eq_true,List.mem_range]
 have key:∀ k,k<x.kids.length→kidAt t (kidPos (i+1) x.kids) k=(x.kids.getD k (mk n0 [])).root:=by
  intro k hk'
  unfold kidAt
  rw [kidPos_at _ _ k hk',aX]
  have:=(ats_at hk.1 hk').root n0
  rw [this]
  simp [hk']
 have e:∀ k,k<ar x.root→labAt t i (kidPos (i+1) x.kids) k=labK x.root (x.kids.getD k (mk n0 [])).root (x.kids.getD (k-1) (mk n0 [])).root (ltB 0 k) ((k:Int)==(ar x.root:Int)-1):=by
  intro k hk'
  unfold labAt
  rw [hr,key k (by omega),key (k-1) (by omega),kidPos_len,hk.2]
 constructor
 ·intro g k hk'
  rw [←e k hk'];exact g k hk'
 ·intro g k hk'
  rw [e k hk'];exact g k hk'
mutual
theorem labT_at {t:List Node} (hn:Numb t):∀ {x:Rose Node} {i:Nat},At ar t i x→(labT x=true↔∀ j,i≤j→j<i+(nds x).length→lab3 t j=true)
 | mk n ks,i,h=>by
  have h1:=lab3_at hn h
  have hk:Ats ar t (i+1) ks:=h.kids.1
  rw [labT,bX,labTs_at hn hk,nds_mk,bJ]
  simp only [root,kids] at h1 ⊢
  constructor
  ·rintro ⟨g1,g2⟩ j hj1 hj2
   by_cases hji:j=i
   ·subst hji;rw [h1];exact g1
   ·exact g2 j (by omega) (by omega)
  ·intro g
   exact ⟨by rw [←h1];exact g i (cZ _) (by omega),fun j hj1 hj2=>g j (by omega) (by omega)⟩
theorem labTs_at {t:List Node} (hn:Numb t):∀ {xs:List (Rose Node)} {i:Nat},Ats ar t i xs→(labTs xs=true↔∀ j,i≤j→j<i+(ndss xs).length→lab3 t j=true)
 | [],i,_=>by simp only [labTs,ndss,List.length_nil,true_iff];intro j h1 h2;omega
 | x::xs,i,h=>by
  rw [labTs,bX,labT_at hn h.head.1,labTs_at hn h.head.2]
  simp only [ndss,bY]
  constructor
  ·rintro ⟨g1,g2⟩ j hj1 hj2
   rcases Nat.lt_or_ge j (i+(nds x).length) with hlt|hge
   ·exact g1 j hj1 hlt
   ·exact g2 j hge (by omega)
  ·intro g
   exact ⟨fun j hj1 hj2=>g j hj1 (by omega),fun j hj1 hj2=>g j (by omega) (by omega)⟩
end
structure RT (x:Rose Node):Prop where
 wf:wf ar x
 numb:Numb (nds x)
 depth:depth x≤100
 lab:labT x=true
 name:x.root.name=[]
 kind:x.root.kind≠9
 len:(nds x).length≤10000
theorem right3_rt {x:Rose Node} (h:RT x):L4 (nds x)=true:=by
 have ha:=at_whole h.wf
 have hp:=nds_pos x
 have hr:=ha.root n0
 unfold L4
 have h1:Rg (nds x)=false:=by
  unfold Rg
  rw [hr,h.name]
  have e1:((nds x).length==0)=false:=by rw [aQ];omega
  have e2:ltB 10000 ((nds x).length:Int)=false:=by rw [Hm];have:=h.len;omega
  have e3:(x.root.kind==9)=false:=by rw [aQ];exact h.kind
  rw [e1,e2,e3]
  rfl
 have h2:(nds x).all numb3=true:=List.all_eq_true.2 h.numb
 have h3:end3 (nds x) 0=((nds x).length:Int):=by have:=end3_at h.numb ha;simpa using this
 have h4:shallow3 (nds x)=true:=by rw [shallow3_tree h.wf h.numb];exact deep_t (by have:=h.depth;omega)
 have h5:((List.range (nds x).length).all fun i=>lab3 (nds x) i)=true:=D2 fun j hj=>(labT_at h.numb ha).1 h.lab j (Nat.zero_le _) (by omega)
 rw [h1,h2,h3,h4,h5]
 simp
def cur (a:List Node) (s:MS) (i:Nat):List Node:=s.out.getD []++(a.take i).drop s.done
open Enc (enc dec)
def Be {A B:Type} [Enc A] [Enc B] [Sz B] (p:A→Prop) (f:A→List B):Con:=⟨[false],[true],fun c=>match c with
 | [.d x]=>isE A x∧p (dec x)
 | _=>False,fun c=>match c with
 | [.d x]=>.own (Sz.sz B) ((f (dec x)).map enc)
 | _=>.d .nilp⟩
theorem nV:type_of% @Be.eq_def:=@Be.eq_def
theorem con1w_pre {A B:Type} [Enc A] [Enc B] [Sz B] {p:A→Prop} {f:A→List B} {c:List CV} (h:(Be p f).pre c):∃ a,c=[.d (enc a)]∧p a:=by
 unfold Be at h
 simp only at h
 split at h
 ·next x=>exact ⟨dec x,by rw [←h.1],h.2⟩
 ·exact h.elim
def clr:List Node→List Node
 | []=>[]
 | n::r=>⟨n.kind,[],n.n⟩::r
def Ng {A B R S:Type} [Enc A] [Enc B] [Enc R] [Enc S] (p:A→Prop) (f:A→B×R×S):Con:=⟨[false],[false,false,false],fun c=>match c with
 | [.d x]=>isE A x∧p (dec x)
 | _=>False,fun c=>match c with
 | [.d x]=>.tup [.d (enc (f (dec x)).1),.d (enc (f (dec x)).2.1),.d (enc (f (dec x)).2.2)]
 | _=>.d .nilp⟩
theorem mY:type_of% @Ng.eq_def:=@Ng.eq_def
theorem con1tt_pre {A B R S:Type} [Enc A] [Enc B] [Enc R] [Enc S] {p:A→Prop} {f:A→B×R×S} {c:List CV} (h:(Ng p f).pre c):∃ a,c=[.d (enc a)]∧p a:=by
 unfold Ng at h
 simp only at h
 split at h
 ·next x=>exact ⟨dec x,by rw [←h.1],h.2⟩
 ·exact h.elim
def Mf {A R S:Type} [Enc A] [Enc R] [Enc S] (p:A→Prop) (f:A→R×S):Con:=⟨[false],[false,false],fun c=>match c with
 | [.d x]=>isE A x∧p (dec x)
 | _=>False,fun c=>match c with
 | [.d x]=>.tup [.d (enc (f (dec x)).1),.d (enc (f (dec x)).2)]
 | _=>.d .nilp⟩
theorem mZ:type_of% @Mf.eq_def:=@Mf.eq_def
theorem con1t_pre {A R S:Type} [Enc A] [Enc R] [Enc S] {p:A→Prop} {f:A→R×S} {c:List CV} (h:(Mf p f).pre c):∃ a,c=[.d (enc a)]∧p a:=by
 unfold Mf at h
 simp only at h
 split at h
 ·next x=>exact ⟨dec x,by rw [←h.1],h.2⟩
 ·exact h.elim
def Rw (ks:List (Rose Node)):List (Sl Node):=ks.map fun k=>Sl.mk (clr (nds k))
theorem less_not (x y:List UInt8):(Op.bytesLess x y||x==y)=!Op.bytesLess y x:=by
 rw [bytesLess_eq,bytesLess_eq,Bool.eq_iff_iff]
 simp only [Bool.or_eq_true,decide_eq_true_eq,cQ,Bool.not_eq_true',decide_eq_false_iff_not,List.not_lt]
 constructor
 ·rintro (h|rfl)
  ·exact List.le_of_lt h
  ·exact List.le_refl _
 ·intro h
  rcases List.le_iff_lt_or_eq.1 h with h|h
  ·exact .inl h
  ·exact .inr h
theorem less_nil (x:List UInt8):Op.bytesLess x []=false:=by
 rw [bytesLess_eq]
 simp
open Go.Proofs
structure Part where
 kind:Int
 label:List UInt8
 name:List UInt8
 bind:List UInt8
 many:Int
 num:Int
 t:List Node
 u:List Node
 deriving DecidableEq
instance encPart:Enc Part:=⟨fun a=>.agg [.int .i64 a.kind,.str a.label,.str a.name,.str a.bind,.int .i64 a.many,.int .i64 a.num,.list 3 (a.t.map enc),.list 3 (a.u.map enc)],fun x=>match x with
 | .agg [a,b,c,d,e,f,g,h]=>⟨a.i,b.s,c.s,d.s,e.i,f.i,g.l.map dec,h.l.map dec⟩
 | _=>⟨0,[],[],[],0,0,[],[]⟩,fun a=>by
  have h:∀ l:List Node,(l.map (enc:Node→D)).map dec=l:=fun l=>Pf
  cases a
  simp [D.l,D.i,D.s,h]⟩
instance szPart:Sz Part:=⟨8⟩
theorem szP:Sz.sz Part=8:=rfl
theorem Um {n:Part}:(enc n:D)=.agg [.int .i64 n.kind,.str n.label,.str n.name,.str n.bind,.int .i64 n.many,.int .i64 n.num,.list 3 (n.t.map enc),.list 3 (n.u.map enc)]:=rfl
theorem Uo {a:Int} {b c d:List UInt8} {e f:Int} {g h:List Node}:(dec (.agg [.int .i64 a,.str b,.str c,.str d,.int .i64 e,.int .i64 f,.list 3 (g.map enc),.list 3 (h.map enc)]):Part)=⟨a,b,c,d,e,f,g,h⟩:=Enc.dec_enc (Part.mk a b c d e f g h)
theorem Un {a:Int} {b c d:List UInt8} {e f:Int} {g h:List Node}:isE Part (.agg [.int .i64 a,.str b,.str c,.str d,.int .i64 e,.int .i64 f,.list 3 (g.map enc),.list 3 (h.map enc)])=True:=eq_true (Cp (Part.mk a b c d e f g h))
theorem Up {n:Part}:Part.mk n.kind n.label n.name n.bind n.many n.num n.t n.u=n:=rfl
def e0:Part:=⟨0,[],[],[],0,0,[],[]⟩
def Fit5 (p:Part):Prop:=(p.t.length≤9223372036854775807∧L3 p.t)∧(p.u.length≤9223372036854775807∧L3 p.u)∧p.label.length≤9223372036854775807∧p.name.length≤9223372036854775807∧p.bind.length≤9223372036854775807
theorem A1 {p:Nat→Prop} {k:Nat} (h:∀ j,j<k→p j) (hk:p k):∀ j,j<k+1→p j:=fun j hj=>by
 rcases Nat.lt_or_ge j k with h1|h1
 ·exact h j h1
 ·have:j=k:=by omega
  exact this▸hk
def Cf (p:Part):Int :=
 if p.kind=2∨p.kind=8∨p.kind=11∨p.kind=12∨p.kind=13∨p.kind=14 then 1
 else if p.kind=3∨p.kind=4∨p.kind=5∨p.kind=9 then 2
 else if p.kind=6 then 3
 else if p.kind=7 then maxI p.many 0+1
 else if p.kind=10 then maxI p.many 0
 else 0
def Hu:Con:=L9 (fun (p:Part)=>p.many≤1000000) (fun p=>Cf p)
theorem oW:type_of% @Hu.eq_def:=@Hu.eq_def
noncomputable def ctx_Many5:Ctx:=⟨tab,lkC [],60,lkB [],[],false⟩
theorem ctx_Many5_t:ctx_Many5.τ=tab:=rfl
theorem ctx_Many5_d:ctx_Many5.dp=60:=rfl
theorem ctx_Many5_u:ctx_Many5.cuts=[]:=rfl
theorem ctx_Many5_w:ctx_Many5.wr=false:=rfl
set_option maxRecDepth 100000 in
theorem good_Many5:Hg Try.prog (52,Hu):=by
 refine ⟨Ke Try.func52 (by kernel_rfl) rfl,?_⟩
 have K:Gu Try.prog ctx_Many5:=Ko G7 Kw (by simp) (by simp)
 obtain ⟨c,hc⟩:∃ c,Try.f52.body=some c:=⟨_,rfl⟩
 refine Kn K Try.func52 hc [.tmp 2] rfl 30 rfl (fun cvs hpre=>?_)
 change Hu.pre cvs at hpre
 unfold Hu at hpre
 obtain ⟨p,rfl,hm⟩:=Mt hpre
 have hmx:maxI p.many 0=if p.many<0 then 0 else p.many:=rfl
 simp only [Try.f52,aZ] at hc
 subst hc
 (sym=>simp [Um,Un,Uo,Up,szP,ctx_Many5_t,ctx_Many5_d,ctx_Many5_u,ctx_Many5_w,oW,Za,Zb,Zc,Ze,Zf,Zg,Zo,Zp,Zq,Zs,Zu,Zv,Zx,Z8,Qd,Qf,Qn,Qo,Qp,Qq,Qr,Qs,Qu,Qv,Qw,Qx,Q1,Ja,Jb,Jd,Jf,Jj,Jq,Jr,J2,Xb,Xd,Xi,Xj,Xl,Xm,Xn,Xq,Xr,Xu,Xw,Xx,Xy,X6,X7,X8,X9,Wc,Wf,Wh,Wi,Wj,Wl,Wm,Wn,Wt,Wx,W6,Yc,Yn,Yo,Yp,Yq,Yr,Ys,Vj,Vy,Vz,V0,V1,V5,V6,Ui,U5,Gd];tactic =>
  try simp only [Uq] at *;try simp only [nc2] at *
  try simp (maxSteps:=4000000) only [Um,Un,Uo,Up,szP,U6]
  repeat' first|with_reducible assumption|with_reducible apply And.intro|intro _|omega|(rw [Uk];omega)
  all_goals first|(rw [Uk,hmx];split<;>omega)|(unfold Cf;simp_all;done))
def eat5:List Part→Int→Nat
 | [],_=>0
 | n::l,o=>if o-1+Cf n=0 then 1 else 1+eat5 l (o-1+Cf n)
def end5 (t:List Part) (i:Int):Int:=if i<0∨(t.length:Int)≤i then -1 else i+eat5 (t.drop i.toNat) 1
def Tame5 (t:List Part):Prop:=t.length≤100000∧∀ n∈t,0≤Cf n∧Cf n≤60∧n.many≤1000000
def Tq:Con:=Ms (fun (t:Sl Part) (i:Int)=>Tame5 t.l∧inR .i64 i) (fun t i=>end5 t.l i)
noncomputable def ctx_End5:Ctx:=⟨tab,lkC [(52,Hu)],60,lkB [],[],false⟩
theorem ctx_End5_t:ctx_End5.τ=tab:=rfl
theorem ctx_End5_c:ctx_End5.Γ=lkC [(52,Hu)]:=rfl
theorem ctx_End5_d:ctx_End5.dp=60:=rfl
theorem ctx_End5_b:ctx_End5.Δ=lkB []:=rfl
theorem ctx_End5_u:ctx_End5.cuts=[]:=rfl
theorem ctx_End5_w:ctx_End5.wr=false:=rfl
set_option maxRecDepth 100000 in
theorem good_End5:Hg Try.prog (35,Tq):=by
 refine ⟨Ke Try.func35 (by kernel_rfl) rfl,?_⟩
 have K:Gu Try.prog ctx_End5:=Ko G7 Kw (by
  intro p hp
  simp only [bQ,bZ,or_false] at hp
  rcases hp with rfl
  ·exact good_Many5) (by simp)
 obtain ⟨c,hc⟩:∃ c,Try.f35.body=some c:=⟨_,rfl⟩
 refine Kn K Try.func35 hc [.tmp 4] rfl 36 rfl (fun cvs hpre=>?_)
 change Tq.pre cvs at hpre
 unfold Tq at hpre
 obtain ⟨⟨t⟩,i,rfl,⟨ht,hm⟩,hi⟩:=Bb hpre
 simp only at ht hm
 rw [Uk] at hi
 simp only [Try.f35,aZ] at hc
 subst hc
 refine Gf 2 (of_decide_eq_true (by kernel_rfl)) ?_
 (sym=>simp [Um,Un,Uo,Up,szP,ctx_End5_t,ctx_End5_d,Tq.eq_def,Zb,Zc,Zd,Ze,Zf,Zo,Zt,Z6,Qd,Qf,Qp,Qq,Qr,Qs,Qu,Qv,Qw,Qx,Q1,Jd,Jj,Jq,Jr,Js,Jt,Jv,Jy,J2,J6,J7,Xe,Xi,Xj,Xl,Xm,Xn,Xo,Xq,Xr,Xu,Xw,Xx,Xy,X6,X7,X8,X9,Wc,Wf,Wj,Wl,Wm,Wn,Wo,Wp,Wt,Wx,Yc,Yf,Yg,Yn,Yo,Yr,Ys,Yt,Yu,Yv,Yw,Yx,Yz,Y9,Va,Vj,Vk,Vy,Vz,V0,V1,V3,V5,V6,U5,Gp,Gd];tactic =>
  try simp only [Uq] at *;try simp only [nc2] at *
  try simp (maxSteps:=4000000) only [Um,Un,Uo,Up,szP,U6]
  repeat' first|with_reducible assumption|with_reducible apply And.intro|intro _|omega|(rw [Uk];omega)
  ·unfold end5
   rw [if_pos (.inr ‹_›)]
  ·obtain ⟨i,rfl⟩:∃ n:Nat,i=n:=⟨i.toNat,by omega⟩
   have hil:i<t.length:=by omega
   have e00:end5 t i=i+eat5 (t.drop i) 1:=by
    unfold end5
    rw [if_neg (by omega)]
    rfl
   refine Kk [4,16,17,18,19,20,21,22,23,24,25,26,27,28,29,30,31,32,33] (fun p:Nat×Int=>[(5,.d (.int .i64 p.2)),(6,.d (.int .i64 p.1))]) (fun p:Nat×Int=>[]) (fun p:Nat×Int=>i≤p.1∧p.1≤t.length∧1≤p.2∧p.2≤1+60*p.1∧i+eat5 (t.drop i) 1=p.1+eat5 (t.drop p.1) p.2) (fun p:Nat×Int=>t.length-p.1) (i,1) ?_ ?_ ?_
   ·exact ⟨cZ _,by simp only;omega,by simp,by simp only;omega,rfl⟩
   ·exact wkq
   rintro ⟨k,o⟩ ⟨h1,h2,h3,h4,h5⟩
   simp only at h1 h2 h3 h4 h5
   rcases Kt k t.length with ⟨hlt,hlb⟩|⟨hlt,hlb⟩
   ·have hmk:=hm (t.getD k e0) (by simp [hlt])
    have q1:=K7 e0 hlt
    have he:eat5 (t.drop k) o=if o-1+Cf (t.getD k e0)=0 then 1 else 1+eat5 (t.drop (k+1)) (o-1+Cf (t.getD k e0)):=by
     rw [List.drop_eq_getElem_cons hlt,eat5]
     simp [hlt]
    obtain ⟨x,hx⟩:∃ x,t.getD k e0=x:=⟨_,rfl⟩
    rw [hx] at hmk q1 he
    (sym=>simp [hlb,q1,Um,Un,Uo,Up,szP,ctx_End5_t,ctx_End5_c,ctx_End5_d,ctx_End5_b,ctx_End5_u,ctx_End5_w,oW,Zb,Zc,Ze,Zf,Zg,Zo,Zp,Zq,Zv,Zy,Z6,Qb,Qd,Qf,Qg,Qh,Qp,Qq,Qr,Qs,Qu,Qv,Qw,Qx,Q1,Q8,Jc,Jd,Je,Jf,Jl,Jm,Jn,Js,Jt,Ju,Jv,Jw,Jx,Jy,Jz,J2,J8,Xd,Xi,Xj,Xl,Xm,Xn,Xq,Xr,Xu,Xw,Xx,Xy,X6,X7,X8,X9,Wb,Wd,Wf,Wo,Wp,Wr,Wt,Wx,W1,Yc,Yf,Yg,Yn,Yo,Yp,Yq,Y7,Y9,Va,Vj,Vy,Vz,V0,V1,V2,V3,V5,V6,Ui,U5,Gp,Gd];tactic =>
     try simp only [Uq] at *;try simp only [nc2] at *
     try simp (maxSteps:=4000000) only [hlb,q1,Um,Un,Uo,Up,szP,U6]
     repeat' first|with_reducible assumption|with_reducible apply And.intro|intro _|omega|(rw [Uk];omega)
     ·rename_i hz
      rw [if_pos hz] at he
      rw [e00]
      omega
     ·rename_i hz
      rw [if_neg hz] at he
      exact ⟨(k+1,o-1+Cf x),wkq,by simp only;omega,by simp only;omega,by simp only;omega,by simp only;omega,by simp only;omega,by simp only;omega⟩)
   ·have hd:t.drop k=[]:=List.drop_eq_nil_of_le hlt
    rw [hd,eat5] at h5
    (sym=>simp [hlb,Um,Un,Uo,Up,szP,ctx_End5_t,ctx_End5_d,Zb,Zc,Ze,Zf,Zg,Zo,Z6,Qd,Qf,Qp,Qq,Qr,Qs,Qu,Qv,Qw,Qx,Q1,Jd,Jl,Jm,Jn,Js,Jt,Ju,Jv,Jw,Jx,Jy,Jz,J2,Xj,Xl,Xm,Xp,Xq,Xr,Xu,Xw,Xx,Xy,X6,X7,X8,X9,Wo,Wp,Wr,Wt,Wx,Yf,Yg,Yn,Yo,Yp,Yq,Y9,Va,Vz,V0,V1,V2,V3,V5,V6,U5,Gp,Gd];tactic =>
     try simp only [Uq] at *;try simp only [nc2] at *
     try simp (maxSteps:=4000000) only [hlb,Um,Un,Uo,Up,szP,U6]
     rw [e00]
     omega)
  ·unfold end5
   rw [if_pos (.inl ‹_›)])
theorem eat5_le:∀ (l:List Part) (o:Int),eat5 l o≤l.length
 | [],_=>cZ _
 | n::l,o=>by
  have:=eat5_le l (o-1+Cf n)
  simp only [eat5,bJ]
  split<;>omega
def Le (t:List Part):Nat→Nat→List Int
 | 0,_=>[]
 | m+1,at_=>if at_<t.length then (at_:Int)::Le t m (at_+eat5 (t.drop at_) 1) else []
def kids5 (t:List Part) (i:Int):List Int:=if i<0∨(t.length:Int)≤i then [] else Le t (Cf (t.getD i.toNat e0)).toNat (i.toNat+1)
def Mz:Con:=Ms (fun (t:Sl Part) (i:Int)=>Tame5 t.l∧inR .i64 i) (fun t i=>Sl.mk (kids5 t.l i))
noncomputable def ctx_Kids5:Ctx:=⟨tab,lkC [(35,Tq),(52,Hu)],60,lkB [],[],false⟩
theorem ctx_Kids5_t:ctx_Kids5.τ=tab:=rfl
theorem ctx_Kids5_c:ctx_Kids5.Γ=lkC [(35,Tq),(52,Hu)]:=rfl
theorem ctx_Kids5_d:ctx_Kids5.dp=60:=rfl
theorem ctx_Kids5_b:ctx_Kids5.Δ=lkB []:=rfl
theorem ctx_Kids5_w:ctx_Kids5.wr=false:=rfl
set_option maxRecDepth 100000 in
theorem good_Kids5:Hg Try.prog (53,Mz):=by
 refine ⟨Ke Try.func53 (by kernel_rfl) rfl,?_⟩
 have K:Gu Try.prog ctx_Kids5:=Ko G7 Kw (by
  intro p hp
  simp only [bQ,bZ,or_false] at hp
  rcases hp with rfl|rfl
  ·exact good_End5
  ·exact good_Many5) (by simp)
 obtain ⟨c,hc⟩:∃ c,Try.f53.body=some c:=⟨_,rfl⟩
 refine Kn K Try.func53 hc [.tmp 4] rfl 43 rfl (fun cvs hpre=>?_)
 change Mz.pre cvs at hpre
 unfold Mz at hpre
 obtain ⟨⟨t⟩,i,rfl,⟨ht,hm⟩,hi⟩:=Bb hpre
 simp only at ht hm
 rw [Uk] at hi
 simp only [Try.f53,aZ] at hc
 subst hc
 refine Gf 2 (of_decide_eq_true (by kernel_rfl)) ?_
 (sym=>simp [Um,Un,Uo,Up,szP,ctx_Kids5_t,ctx_Kids5_d,ctx_Kids5_w,Mz.eq_def,Zb,Zc,Zd,Ze,Zf,Zn,Zo,Zr,Zt,Z1,Z6,Qd,Qf,Qp,Qq,Qr,Qs,Qu,Qv,Qw,Qx,Q1,Q4,Q5,Q6,Q7,Q9,Ja,Jb,Jd,Jj,Jq,Jr,Js,Jt,Jv,Jw,Jy,Jz,J0,J4,J6,J7,Xe,Xi,Xj,Xl,Xm,Xn,Xo,Xq,Xr,Xu,Xw,Xx,Xy,X1,X6,X7,X8,X9,Wc,Wf,Wg,Wi,Wj,Wl,Wm,Wn,Wo,Wp,Wt,Wx,Yc,Yf,Yg,Yn,Yo,Yr,Ys,Yt,Yu,Yv,Yw,Yx,Yz,Y9,Va,Vj,Vk,Vm,Vy,Vz,V0,V1,V3,V5,V6,U5,Gq,Gp,Gd];tactic =>
  try simp only [Uq] at *;try simp only [nc2] at *
  try simp (maxSteps:=4000000) only [Um,Un,Uo,Up,szP,U6]
  repeat' first|with_reducible assumption|with_reducible apply And.intro|intro _|omega|(rw [Uk];omega)
  ·unfold kids5
   rw [if_pos (.inr ‹_›)]
   rfl
  ·obtain ⟨i,rfl⟩:∃ n:Nat,i=n:=⟨i.toNat,by omega⟩
   have hil:i<t.length:=by omega
   have hmi:=hm (t.getD i e0) (by simp [hil])
   have q1:=K7 e0 hil
   obtain ⟨M,hM⟩:∃ M:Nat,Cf (t.getD i e0)=M:=⟨(Cf (t.getD i e0)).toNat,by omega⟩
   have e00:kids5 t i=Le t M (i+1):=by
    unfold kids5
    rw [if_neg (by omega)]
    simp only [aX,hM]
   obtain ⟨x,hx⟩:∃ x,t.getD i e0=x:=⟨_,rfl⟩
   rw [hx] at hmi q1 hM
   refine Kk [20,21,22,23,24,25,26,27,28,29,30,31,32,33,34,35,36,37,38,39,40,41] (fun p:Nat×Nat×List Int=>[(5,.sl 8 (p.2.2.map enc).length),(6,.d (.int .i64 p.2.1)),(7,.d (.int .i64 p.1))]) (fun p:Nat×Nat×List Int=>[(8,.row 1 (p.2.2.map enc) 0)]) (fun p:Nat×Nat×List Int=>p.1≤M∧p.2.1≤t.length∧p.2.2.length=p.1∧p.2.2++Le t (M-p.1) p.2.1=Le t M (i+1)) (fun p:Nat×Nat×List Int=>M-p.1) (0,i+1,[]) ?_ ?_ ?_
   ·exact ⟨Nat.zero_le _,hil,rfl,rfl⟩
   ·exact wkq
   rintro ⟨k,q,out⟩ ⟨h1,h2,h3,h4⟩
   simp only at h1 h2 h3 h4
   rcases Kt k M with ⟨hk,hkb⟩|⟨hk,hkb⟩
   ·rcases Kt q t.length with ⟨hq,hqb⟩|⟨hq,hqb⟩
    ·have e1:M-k=(M-k-1)+1:=by omega
     rw [e1,Le,if_pos hq] at h4
     have hle:=eat5_le (t.drop q) 1
     rw [List.length_drop] at hle
     have e2:end5 t q=((q+eat5 (t.drop q) 1:Nat):Int):=by
      unfold end5
      rw [if_neg (by omega)]
      simp
     have hT:Tame5 t:=⟨ht,hm⟩
     (sym=>simp [hkb,hqb,hM,e2,q1,Um,Un,Uo,Up,szP,ctx_Kids5_t,ctx_Kids5_c,ctx_Kids5_d,ctx_Kids5_b,ctx_Kids5_w,Tq.eq_def,oW,Zb,Zc,Zd,Ze,Zf,Zg,Zo,Zp,Zq,Zr,Zt,Zv,Zy,Z1,Z4,Z5,Z6,Qb,Qd,Qf,Qg,Qh,Qs,Qu,Qv,Qw,Qx,Q1,Q4,Q5,Q6,Q7,Q8,Q9,Ja,Jb,Jc,Je,Jl,Jm,Jn,Js,Jt,Ju,Jv,Jw,Jx,Jy,Jz,J0,J1,J2,J8,Xd,Xe,Xi,Xj,Xl,Xm,Xn,Xr,Xu,Xw,Xx,Xy,Xz,X1,X6,X7,X8,X9,Wb,Wd,Wf,Wg,Wh,Wi,Wj,Wl,Wm,Wn,Wo,Wp,Wr,Wt,Wx,W1,W2,Yc,Yf,Yg,Yn,Yo,Yp,Yq,Yx,Yz,Y2,Y4,Y7,Y9,Va,Vi,Vj,Vk,Vo,Vy,V0,V1,V2,V3,V5,V6,Ui,U5,Gq,Gp,Gd];tactic =>
      try simp only [Uq] at *;try simp only [nc2] at *
      try simp (maxSteps:=4000000) only [hkb,hqb,hM,e2,q1,Um,Un,Uo,Up,szP,U6]
      repeat' first|with_reducible assumption|with_reducible apply And.intro|intro _|omega|(rw [Uk];omega)
      refine ⟨(k+1,q+eat5 (t.drop q) 1,out++[(q:Int)]),wkq,by simp only;omega,by simp only;omega,by simp [h3],?_,by simp only;omega⟩
      simp only
      rw [←h4,show M-(k+1)=M-k-1 by omega]
      simp)
    ·have hz:Le t (M-k) q=[]:=by
      cases hc:M-k with
      | zero=>rfl
      | succ c=>rw [Le,if_neg (by omega)]
     rw [hz,List.append_nil] at h4
     (sym=>simp [hkb,hqb,hM,q1,Um,Un,Uo,Up,szP,ctx_Kids5_t,ctx_Kids5_c,ctx_Kids5_d,ctx_Kids5_b,Tq.eq_def,oW,Zb,Zc,Zd,Ze,Zf,Zg,Zo,Zp,Zq,Zt,Zv,Zy,Z6,Qb,Qd,Qf,Qg,Qh,Qp,Qq,Qr,Qs,Qu,Qv,Qw,Qx,Q1,Q8,Ja,Jb,Jc,Jd,Je,Jl,Jm,Jn,Js,Jt,Ju,Jv,Jw,Jx,Jy,Jz,J2,J4,J8,Xd,Xe,Xj,Xl,Xm,Xp,Xq,Xr,Xu,Xw,Xx,Xy,X6,X7,X8,X9,Wb,Wd,Wf,Wm,Wn,Wo,Wp,Wr,Wt,Wx,W1,Yc,Yf,Yg,Yn,Yo,Yp,Yq,Y7,Y9,Va,Vk,Vy,Vz,V0,V1,V2,V3,V5,V6,Ui,U5,Gq,Gp,Gd];tactic =>
      try simp only [Uq] at *;try simp only [nc2] at *
      try simp (maxSteps:=4000000) only [hkb,hqb,hM,q1,Um,Un,Uo,Up,szP,U6]
      repeat' first|with_reducible assumption|with_reducible apply And.intro|intro _|omega|(rw [Uk];omega)
      rw [e00,h4])
   ·have hz:Le t (M-k) q=[]:=by
     rw [show M-k=0 by omega]
     rfl
    rw [hz,List.append_nil] at h4
    (sym=>simp [hkb,hM,q1,Um,Un,Uo,Up,szP,ctx_Kids5_t,ctx_Kids5_c,ctx_Kids5_d,ctx_Kids5_b,Tq.eq_def,oW,Zb,Zc,Zd,Ze,Zf,Zg,Zo,Zp,Zq,Zt,Zv,Zy,Qb,Qd,Qf,Qg,Qh,Qp,Qq,Qr,Qs,Qu,Qv,Qw,Qx,Q1,Q8,Ja,Jb,Jc,Jd,Je,Jl,Jm,Jn,Js,Jt,Ju,Jv,Jw,Jx,Jy,Jz,J2,J4,J8,Xd,Xe,Xj,Xl,Xm,Xp,Xq,Xr,Xu,Xw,Xx,Xy,X6,X7,X8,X9,Wb,Wd,Wf,Wm,Wn,Wo,Wp,Wr,Wt,Wx,W1,Yc,Yf,Yg,Yn,Yo,Yp,Yq,Y7,Y9,Va,Vk,Vz,V0,V1,V2,V3,V5,V6,Ui,U5,Gq,Gp,Gd];tactic =>
     try simp only [Uq] at *;try simp only [nc2] at *
     try simp (maxSteps:=4000000) only [hkb,hM,q1,Um,Un,Uo,Up,szP,U6]
     repeat' first|with_reducible assumption|with_reducible apply And.intro|intro _|omega|(rw [Uk];omega)
     rw [e00,h4])
  ·unfold kids5
   rw [if_pos (.inl ‹_›)]
   rfl)
def ops5:List (List UInt8):=[[43],[45],[42],[47],[60],[61,61],[38,38],[124,124],[43,43]]
def op5 (s:List UInt8):Bool:=ops5.any fun o=>o==s
theorem ops_enc:([.str [43],.str [45],.str [42],.str [47],.str [60],.str [61,61],.str [38,38],.str [124,124],.str [43,43]]:List D)=ops5.map enc:=rfl
theorem allFit_S:∀ {l:List (List UInt8)},allFit 1 (l.map enc)=True
 | []=>rfl
 | x::l=>by
  show (D.fits 1 (.str x)∧allFit 1 (l.map enc))=True
  rw [allFit_S,and_true]
  exact eq_true rfl
def La:Con:=L9 (fun (_:List UInt8)=>True) (fun s=>op5 s)
noncomputable def ctx_op5:Ctx:=⟨tab,lkC [],60,lkB [],[],false⟩
theorem ctx_op5_t:ctx_op5.τ=tab:=rfl
theorem ctx_op5_d:ctx_op5.dp=60:=rfl
theorem ctx_op5_u:ctx_op5.cuts=[]:=rfl
theorem ctx_op5_w:ctx_op5.wr=false:=rfl
set_option maxRecDepth 100000 in
theorem good_op5:Hg Try.prog (51,La):=by
 refine ⟨Ke Try.func51 (by kernel_rfl) rfl,?_⟩
 have K:Gu Try.prog ctx_op5:=Ko G7 Kw (by simp) (by simp)
 obtain ⟨c,hc⟩:∃ c,Try.f51.body=some c:=⟨_,rfl⟩
 refine Kn K Try.func51 hc [.tmp 2] rfl 18 rfl (fun cvs hpre=>?_)
 change La.pre cvs at hpre
 unfold La at hpre
 obtain ⟨s,rfl,-⟩:=Mt hpre
 obtain ⟨R,hR⟩:∃ R,op5 s=R:=⟨_,rfl⟩
 have hR2:=hR
 unfold op5 at hR2
 have hl:ops5.length=9:=rfl
 have he:=ops_enc
 obtain ⟨l,hll⟩:∃ l,ops5=l:=⟨_,rfl⟩
 rw [hll] at hR2 hl he
 have hl3:(l.length:Int)=9:=by rw [hl];rfl
 simp only [Try.f51,aZ] at hc
 subst hc
 (sym=>simp [he,ctx_op5_t,ctx_op5_d,La.eq_def,Za,Zb,Zc,Ze,Zf,Zo,Zr,Z1,Qs,Qu,Qv,Qw,Qx,Q4,Q5,Q6,Q7,Q9,Ja,Jb,Jj,Jq,Jr,J0,J1,J2,Xd,Xj,Xl,Xn,Xo,Xr,Xu,Xw,Xx,Xy,X1,X6,X7,X8,X9,Wc,Wf,Wg,Wh,Wi,Wj,Wl,Yd,Ye,Yn,Yo,Yp,Yq,Yr,Ys,Yy,Vi,Vj,Vk,Vl,Vn,Vo,V0,V1,V5,V6,U5,Kh,Gg];tactic =>
  try simp only [Uq] at *;try simp only [nc2] at *
  try simp (maxSteps:=4000000) only [he,U6]
  repeat' first|with_reducible assumption|with_reducible apply And.intro|intro _|omega|(rw [Uk];omega)
  ·cases l with
   | nil=>trivial
   | cons x l=>exact ⟨rfl,of_eq_true allFit_S⟩
  refine Kk [2,6,7,8,9,10,11,12,13,14,15,16,17] (fun k:Nat=>[(4,.d (.int .i64 k))]) (fun k:Nat=>[]) (fun k:Nat=>k≤9∧∀ j,j<k→l.getD j []≠s) (fun k:Nat=>9-k) 0 ?_ ?_ ?_
  ·simp
  ·exact wkq
  rintro k ⟨hk,hno⟩
  by_cases hlt:k<9
  ·have hlb:ltB (k:Int) 9=true:=by rw [Hf];omega
   have q1:=K7 ([]:List UInt8) (show k<l.length by omega)
   have hst:l.getD k []≠s→∀ j,j<k+1→l.getD j []≠s:=fun h=>A1 hno h
   have hit:(l.getD k []==s)=true→R=true:=fun h=>by rw [←hR2];exact any_at (p:=fun o=>o==s) [] k (by omega) h
   obtain ⟨y,hy⟩:∃ y,l.getD k []=y:=⟨_,rfl⟩
   rw [hy] at q1 hst hit
   cases hb:(y==s) with
   | true =>
    have hr:=hit hb
    subst hr
    (sym=>simp [hl3,hlb,q1,hb,hR,ctx_op5_t,ctx_op5_d,ctx_op5_u,Zb,Zc,Ze,Zf,Zg,Zo,Zp,Zq,Zv,Zy,Z6,Qd,Qf,Qp,Qq,Qr,Qs,Qu,Qv,Qw,Qx,Q1,Ja,Jd,Jf,Jl,Jm,Jn,J2,Xi,Xj,Xl,Xm,Xn,Xq,Xr,Xu,Xw,Xx,Xy,X6,X7,Wr,Wt,Wv,Wx,Wz,W1,W9,Ye,Yn,Yo,Yp,Yq,Y7,Y9,Vk,Vy,Vz,V0,V1,V2,V3,V5,V6,Ui,U5,Kh,Gg];tactic =>
     try simp only [Uq] at *;try simp only [nc2] at *
     try simp (maxSteps:=4000000) only [hl3,hlb,q1,hb,hR,U6]
     repeat' first|with_reducible assumption|with_reducible apply And.intro|intro _|omega|(rw [Uk];omega)
     all_goals first|with_reducible exact okq|omega|rfl|skip)
   | false =>
    have h2:=hst (beq_eq_false_iff_ne.1 hb)
    (sym=>simp [hl3,hlb,q1,hb,ctx_op5_t,ctx_op5_u,ctx_op5_w,Zb,Zc,Ze,Zf,Zg,Zo,Zp,Zq,Zv,Zy,Z6,Qd,Qf,Qs,Qu,Qv,Qw,Qx,Ja,Jf,Jl,Jm,Jn,Xi,Xj,Xl,Xm,Xn,Xr,Xu,Xw,Xx,Xy,X6,X7,Wr,Wt,Wv,Wx,Wz,W1,W9,Ye,Yn,Yo,Yp,Yq,Y7,Y9,Vj,Vy,Vz,V0,V1,V2,V3,V5,V6,Ui,U5,Kh,Gg];tactic =>
     try simp only [Uq] at *;try simp only [nc2] at *
     try simp (maxSteps:=4000000) only [hl3,hlb,q1,hb,U6]
     repeat' first|with_reducible assumption|with_reducible apply And.intro|intro _|omega|(rw [Uk];omega)
     all_goals first|with_reducible exact okq|omega|exact ⟨k+1,wkq,by omega,h2,by omega⟩|skip)
  ·have hlb:ltB (k:Int) 9=false:=by rw [Hm];omega
   have hr:R=false:=by rw [←hR2];exact any_not (p:=fun o=>o==s) [] fun j hj=>beq_eq_false_iff_ne.2 (hno j (by omega))
   subst hr
   (sym=>simp [hl3,hlb,hR,ctx_op5_t,ctx_op5_d,Zb,Zc,Ze,Zf,Zg,Z6,Qd,Qf,Qp,Qq,Qr,Qs,Qu,Qv,Qw,Qx,Q1,Ja,Jd,Jl,Jm,Jn,J2,Xj,Xl,Xm,Xp,Xq,Xr,Xu,Xw,Xx,X6,X7,Wr,Wt,Wx,Yn,Yo,Yp,Yq,Y9,Vk,Vz,V0,V1,V2,V3,V5,V6,U5,Kh,Gg];tactic =>
    try simp only [Uq] at *;try simp only [nc2] at *
    try simp (maxSteps:=4000000) only [hl3,hlb,hR,U6]
    repeat' first|with_reducible assumption|with_reducible apply And.intro|intro _|omega|(rw [Uk];omega)))
def cut5:List UInt8→Option Nat
 | []=>none
 | c::s=>if c=33 then some 0 else (cut5 s).map (·+1)
theorem cut5_at:∀ {s:List UInt8} {k:Nat},k<s.length→(∀ j,j<k→s.getD j 0≠33)→s.getD k 0=33→cut5 s=some k
 | [],k,h,_,_=>by simp at h
 | c::s,0,_,_,h=>by
  simp only [List.getD_cons_zero] at h
  simp [cut5,h]
 | c::s,k+1,h,hno,hk=>by
  have h0:=hno 0 (by omega)
  simp only [List.getD_cons_zero] at h0
  rw [cut5,if_neg h0,cut5_at (k:=k) (by simpa using h) (fun j hj=>by simpa using hno (j+1) (by omega)) (by simpa using hk)]
  rfl
theorem cut5_none:∀ {s:List UInt8},(∀ j,j<s.length→s.getD j 0≠33)→cut5 s=none
 | [],_=>rfl
 | c::s,hno=>by
  have h0:=hno 0 (by simp)
  simp only [List.getD_cons_zero] at h0
  rw [cut5,if_neg h0,cut5_none fun j hj=>by simpa using hno (j+1) (by simpa using hj)]
  rfl
def name5 (s:List UInt8):Bool:=match cut5 s with
 | some k=>Lf (s.take k)&&Lf (s.drop (k+1))
 | none=>Lf s
theorem u8_33 {c:UInt8}:((c.toNat:Int)==33)=true↔c=33:=by
 rw [cQ]
 constructor
 ·intro h
  have:c.toNat=33:=by omega
  exact UInt8.toNat_inj.1 (by rw [this];rfl)
 ·rintro rfl;rfl
def Mj:Con:=L9 (fun (s:List UInt8)=>s.length≤9223372036854775806) (fun s=>name5 s)
noncomputable def Ag:Ctx:=⟨tab,lkC [(42,Kd)],60,lkB [],[],false⟩
theorem ctx_name5_t:Ag.τ=tab:=rfl
theorem ctx_name5_c:Ag.Γ=lkC [(42,Kd)]:=rfl
theorem ctx_name5_d:Ag.dp=60:=rfl
theorem ctx_name5_b:Ag.Δ=lkB []:=rfl
theorem ctx_name5_u:Ag.cuts=[]:=rfl
theorem ctx_name5_w:Ag.wr=false:=rfl
set_option maxRecDepth 100000 in
theorem good_name5:Hg Try.prog (50,Mj):=by
 refine ⟨Ke Try.func50 (by kernel_rfl) rfl,?_⟩
 have K:Gu Try.prog Ag:=Ko G7 Kw (by
  intro p hp
  simp only [bQ,bZ,or_false] at hp
  rcases hp with rfl
  ·exact Cr) (by simp)
 obtain ⟨c,hc⟩:∃ c,Try.f50.body=some c:=⟨_,rfl⟩
 refine Kn K Try.func50 hc [.tmp 2] rfl 27 rfl (fun cvs hpre=>?_)
 change Mj.pre cvs at hpre
 unfold Mj at hpre
 obtain ⟨s,rfl,hs⟩:=Mt hpre
 obtain ⟨R,hR⟩:∃ R,name5 s=R:=⟨_,rfl⟩
 have hR2:=hR
 unfold name5 at hR2
 simp only [Try.f50,aZ] at hc
 subst hc
 (sym=>simp [Mj.eq_def,Za,Zb,Zc,Ze,Zf,Qs,Qu,Qv,Qw,Qx,Jj,Jq,Jr,Xd,Xj,Xl,Xn,Xo,Xr,Xu,Xw,X6,X7,X8,X9,Wc,Wf,Wj,Wl,Yd,Ye,Yp,Yq,Yr,Ys,Yy,Vj,Vk,V0,V5,V6,U5,Pd,Kh];tactic =>
  try simp only [Uq] at *;try simp only [nc2] at *
  try simp (maxSteps:=4000000) only [U6]
  repeat' first|with_reducible assumption|with_reducible apply And.intro|intro _|omega|(rw [Uk];omega)
  refine Kk [2,4,5,6,7,8,9,10,11,12,13,14,15,16,17,18,19,20,21,22,23,24] (fun k:Nat=>[(3,.d (.int .i64 k))]) (fun k:Nat=>[]) (fun k:Nat=>k≤s.length∧∀ j,j<k→s.getD j 0≠33) (fun k:Nat=>s.length-k) 0 ?_ ?_ ?_
  ·simp
  ·exact wkq
  rintro k ⟨hk,hno⟩
  rcases Kt k s.length with ⟨hlt,hlb⟩|⟨hlt,hlb⟩
  ·have hst:s.getD k 0≠33→∀ j,j<k+1→s.getD j 0≠33:=fun h=>A1 hno h
   have hit:s.getD k 0=33→R=(Lf (s.take k)&&Lf (s.drop (k+1))):=fun h=>by
    rw [cut5_at hlt hno h] at hR2
    exact hR2.symm
   obtain ⟨y,hy⟩:∃ y,s.getD k 0=y:=⟨_,rfl⟩
   rw [hy] at hst hit
   have hk1:(k:Int)+1=((k+1:Nat):Int):=rfl
   cases hb:((y.toNat:Int)==33) with
   | true =>
    have hr:=hit (u8_33.1 hb)
    have l1:(s.take k).length≤9223372036854775807:=by rw [List.length_take];omega
    have l2:(s.drop (k+1)).length≤9223372036854775807:=by rw [List.length_drop];omega
    obtain ⟨w1,hw1⟩:∃ w,Lf (s.take k)=w:=⟨_,rfl⟩
    obtain ⟨w2,hw2⟩:∃ w,Lf (s.drop (k+1))=w:=⟨_,rfl⟩
    rw [hw1,hw2] at hr
    cases w1 with
    | true =>
     rw [Bool.true_and] at hr
     subst hr
     (sym=>simp [hlb,hy,hb,hw1,hk1,hw2,hR,Kq,U9,G9,Kf,Kg,K8,ctx_name5_t,ctx_name5_c,ctx_name5_d,ctx_name5_b,ctx_name5_u,ctx_name5_w,lY,Zb,Zc,Zd,Ze,Zf,Zg,Zt,Zz,Z0,Z6,Qb,Qd,Qf,Qg,Qh,Ql,Qp,Qq,Qr,Qs,Qu,Qv,Qw,Qx,Q1,Q8,Jc,Jd,Je,Jf,Jl,Jm,Jn,J2,Xd,Xi,Xj,Xl,Xm,Xn,Xq,Xr,Xu,Xw,Xx,X6,X7,Wb,Wd,Wf,Wm,Wn,Wr,Wt,Wv,Wx,Wz,W1,Yd,Yn,Yo,Yp,Yq,Yy,Y3,Y7,Y9,Vj,Vk,Vy,Vz,V0,V1,V2,V5,V6,U5,Pd,Kh];tactic =>
      try simp only [Uq] at *;try simp only [nc2] at *
      try simp (maxSteps:=4000000) only [hlb,hy,hb,hw1,hk1,hw2,hR,Kq,U9,G9,Kf,Kg,K8,U6]
      repeat' first|with_reducible assumption|with_reducible apply And.intro|intro _|omega|(rw [Uk];omega)
      all_goals first|with_reducible exact okq|omega|rfl|skip)
    | false =>
     rw [Bool.false_and] at hr
     subst hr
     (sym=>simp [hlb,hy,hb,hw1,hR,Kq,U9,G9,Kf,Kg,K8,ctx_name5_t,ctx_name5_c,ctx_name5_d,ctx_name5_b,ctx_name5_u,lY,Zb,Zc,Zd,Ze,Zf,Zg,Zt,Zz,Z0,Z6,Qb,Qd,Qf,Qg,Qh,Ql,Qp,Qq,Qr,Qs,Qu,Qv,Qw,Qx,Q1,Q8,Jc,Jd,Je,Jf,Jl,Jm,Jn,J2,Xd,Xi,Xj,Xl,Xm,Xn,Xq,Xr,Xu,Xw,Xx,X6,X7,Wb,Wd,Wf,Wm,Wn,Wr,Wt,Wv,Wx,Wz,W1,Yd,Yn,Yo,Yp,Yq,Yy,Y3,Y7,Y9,Vj,Vk,Vy,Vz,V0,V1,V2,V5,V6,U5,Pd,Kh];tactic =>
      try simp only [Uq] at *;try simp only [nc2] at *
      try simp (maxSteps:=4000000) only [hlb,hy,hb,hw1,hR,Kq,U9,G9,Kf,Kg,K8,U6]
      repeat' first|with_reducible assumption|with_reducible apply And.intro|intro _|omega|(rw [Uk];omega)
      all_goals first|with_reducible exact okq|omega|rfl|skip)
   | false =>
    have h2:=hst (fun e=>by rw [u8_33.2 e] at hb;cases hb)
    (sym=>simp [hlb,hy,hb,Kq,U9,G9,Kf,Kg,K8,ctx_name5_t,ctx_name5_u,ctx_name5_w,Zb,Zc,Ze,Zf,Zg,Zz,Z6,Qd,Qf,Qs,Qu,Qv,Qw,Qx,Jf,Jl,Jm,Jn,Xi,Xj,Xl,Xm,Xn,Xr,Xu,Xw,Xx,X6,X7,Wr,Wt,Wv,Wx,Wz,W1,Yn,Yo,Yp,Yq,Y7,Y9,Vj,Vy,Vz,V0,V1,V2,V5,V6,U5,Pd,Kh];tactic =>
     try simp only [Uq] at *;try simp only [nc2] at *
     try simp (maxSteps:=4000000) only [hlb,hy,hb,Kq,U9,G9,Kf,Kg,K8,U6]
     repeat' first|with_reducible assumption|with_reducible apply And.intro|intro _|omega|(rw [Uk];omega)
     all_goals first|with_reducible exact okq|omega|exact ⟨k+1,wkq,by omega,h2,by omega⟩|skip)
  ·have hr:R=Lf s:=by
    rw [cut5_none fun j hj=>hno j (by omega)] at hR2
    exact hR2.symm
   subst hr
   (sym=>simp [hlb,hR,ctx_name5_t,ctx_name5_c,ctx_name5_d,ctx_name5_b,lY,Zb,Zc,Ze,Zf,Zg,Z6,Qb,Qd,Qf,Qg,Qh,Qp,Qq,Qr,Qs,Qu,Qv,Qw,Qx,Q1,Q8,Jc,Jd,Je,Jl,Jm,Jn,J2,Xd,Xj,Xl,Xm,Xp,Xq,Xr,Xu,Xw,Xx,X6,X7,Wb,Wd,Wf,Wr,Wt,Wv,Wx,Wz,Yd,Yn,Yo,Yp,Yq,Yy,Y3,Y9,Vz,V0,V1,V2,V5,V6,U5,Pd,Kh];tactic =>
    try simp only [Uq] at *;try simp only [nc2] at *
    try simp (maxSteps:=4000000) only [hlb,hR,U6]
    repeat' first|with_reducible assumption|with_reducible apply And.intro|intro _|omega|(rw [Uk];omega)
    all_goals first|with_reducible exact okq|omega|rfl|skip))
def plain5 (t:List Node):Bool:=L4 t&&plain3 t
def Nt:Con:=L9 (fun (t:Sl Node)=>t.l.length≤9223372036854775807∧L3 t.l) (fun t=>plain5 t.l)
noncomputable def ctx_plain5:Ctx:=⟨tab,lkC [(67,Bw),(68,Fq)],60,lkB [],[],false⟩
theorem ctx_plain5_c:ctx_plain5.Γ=lkC [(67,Bw),(68,Fq)]:=rfl
theorem ctx_plain5_d:ctx_plain5.dp=60:=rfl
theorem ctx_plain5_b:ctx_plain5.Δ=lkB []:=rfl
set_option maxRecDepth 100000 in
theorem good_plain5:Hg Try.prog (48,Nt):=by
 refine ⟨Ke Try.func48 (by kernel_rfl) rfl,?_⟩
 have K:Gu Try.prog ctx_plain5:=Ko G7 Kw (by
  intro p hp
  simp only [bQ,bZ,or_false] at hp
  rcases hp with rfl|rfl
  ·exact good_Right3
  ·exact good_Plain3) (by simp)
 obtain ⟨c,hc⟩:∃ c,Try.f48.body=some c:=⟨_,rfl⟩
 refine Kn K Try.func48 hc [.tmp 2] rfl 9 rfl (fun cvs hpre=>?_)
 change Nt.pre cvs at hpre
 unfold Nt at hpre
 obtain ⟨⟨t⟩,rfl,ht,hN⟩:=Mt hpre
 simp only at ht hN
 simp only [Try.f48,aZ] at hc
 subst hc
 (sym=>simp [ctx_plain5_c,ctx_plain5_d,ctx_plain5_b,Fq.eq_def,Bw.eq_def,Nt.eq_def,Za,Zb,Zc,Zd,Ze,Zf,Zt,Qb,Qg,Qh,Qp,Qq,Qr,Qs,Qu,Qv,Qw,Qx,Q1,Q8,Jc,Jd,Je,Jj,Jq,Jr,J2,Xd,Xj,Xl,Xq,Xr,Xu,Xw,X6,X7,X8,X9,Wb,Wc,Wd,Wf,Wj,Wl,Wm,Wn,Yd,Yn,Yo,Yp,Yq,Yr,Ys,Yz,Y4,Va,Vk,Vy,Vz,V0,V1,V2,V5,V6,K6,K1];tactic =>
  try simp only [Uq] at *;try simp only [nc2] at *
  try simp (maxSteps:=4000000) only [U6]
  repeat' first|with_reducible assumption|with_reducible apply And.intro|intro _|omega|(rw [Uk];omega)
  all_goals (unfold plain5;simp_all))
def lit5 (p:Part) (n:Node):Bool :=
 if p.t.length≠1∨n.name≠[]∨n.n≠0∨p.num<0∨999999999999999999<p.num then false
 else if n.kind=1 then p.name==[]
 else if n.kind=2 then p.name==[]&&ltB p.num 2
 else if n.kind=3 then p.num==0
 else if n.kind=4 then p.name==[]&&p.num==0
 else false
def literal5 (p:Part):Bool:=lit5 p (p.t.getD 0 n0)
def Hk:Con:=L9 (fun (p:Part)=>Fit5 p) (fun p=>literal5 p)
theorem pQ:type_of% @Hk.eq_def:=@Hk.eq_def
noncomputable def Ol:Ctx:=⟨tab,lkC [],60,lkB [],[],false⟩
theorem ctx_literal5_t:Ol.τ=tab:=rfl
theorem ctx_literal5_d:Ol.dp=60:=rfl
theorem ctx_literal5_u:Ol.cuts=[]:=rfl
set_option maxRecDepth 100000 in
theorem good_literal5:Hg Try.prog (49,Hk):=by
 refine ⟨Ke Try.func49 (by kernel_rfl) rfl,?_⟩
 have K:Gu Try.prog Ol:=Ko G7 Kw (by simp) (by simp)
 obtain ⟨c,hc⟩:∃ c,Try.f49.body=some c:=⟨_,rfl⟩
 refine Kn K Try.func49 hc [.tmp 2] rfl 68 rfl (fun cvs hpre=>?_)
 change Hk.pre cvs at hpre
 unfold Hk at hpre
 obtain ⟨p,rfl,hF⟩:=Mt hpre
 clear hpre
 obtain ⟨R,hR⟩:∃ R,literal5 p=R:=⟨_,rfl⟩
 have hR2:=hR
 unfold literal5 at hR2
 simp only [Try.f49,aZ] at hc
 subst hc
 refine Gf 4 (of_decide_eq_true (by kernel_rfl)) ?_
 by_cases h1:p.t.length=1
 ·have hl:((p.t.length:Int) != 1)=false:=by rw [bne_eq_false_iff_eq];omega
  have q1:=K7 n0 (show 0<p.t.length by omega)
  obtain ⟨x,hx⟩:∃ x,p.t.getD 0 n0=x:=⟨_,rfl⟩
  rw [hx] at q1 hR2
  clear hx
  (sym=>simp [hl,q1,hR,Um,Un,Uo,Up,szP,Ur,Ut,Uv,Us,szN,Uu,ctx_literal5_t,ctx_literal5_d,ctx_literal5_u,pQ,Zb,Zc,Zd,Ze,Zf,Zg,Zo,Zp,Zq,Zs,Zt,Zu,Zv,Zx,Zy,Z6,Qd,Qf,Qn,Qo,Qp,Qq,Qr,Qs,Qu,Qv,Qw,Qx,Q1,Ja,Jb,Jd,Jf,Jj,Jq,Jr,Js,Jt,Ju,Jv,Jw,Jx,Jy,Jz,J2,J6,J7,Xb,Xd,Xi,Xj,Xl,Xm,Xn,Xq,Xr,Xu,Xw,Xx,Xy,X6,X7,X8,X9,Wc,Wf,Wg,Wh,Wi,Wj,Wl,Wm,Wn,Wo,Wp,Wt,Wv,Ww,Wx,Wz,W0,W1,W6,W7,W9,Yb,Yd,Yn,Yo,Yp,Yq,Yr,Ys,Yt,Yu,Yv,Yw,Y8,Y9,Vj,Vk,Vl,Vn,Vy,Vz,V0,V1,V3,V5,V6,Ui,Ep,U5,Kh,K6,K1,Gd];tactic =>
   try simp only [Uq] at *;try simp only [nc2] at *
   try simp (maxSteps:=4000000) only [hl,q1,hR,Um,Un,Uo,Up,szP,Ur,Ut,Uv,Us,szN,Uu,U6]
   repeat' first|with_reducible assumption|with_reducible apply And.intro|intro _|omega|(rw [Uk];omega)
   all_goals first|omega|(symm;rw [←hR2];clear hR2 hR;unfold lit5;simp_all;done)|(symm;rw [←hR2];clear hR2 hR;unfold lit5;simp_all;omega)|(symm;rw [←hR2];clear hR2 hR;unfold lit5;rw [if_neg (by simp_all;omega)];simp_all [ltB];done)|skip)
 ·have hl:((p.t.length:Int) != 1)=true:=by rw [bne_iff_ne];omega
  unfold lit5 at hR2
  rw [if_pos (.inl h1)] at hR2
  subst hR2
  (sym=>simp [hl,hR,Um,Un,Uo,Up,szP,Ur,Ut,Uv,Us,szN,Uu,ctx_literal5_t,ctx_literal5_d,ctx_literal5_u,pQ,Zb,Zc,Zd,Ze,Zf,Zo,Zp,Zq,Zs,Zt,Zu,Zv,Zx,Z6,Qd,Qf,Qn,Qo,Qp,Qq,Qr,Qs,Qu,Qv,Qw,Qx,Q1,Ja,Jb,Jd,Jf,Jj,Jq,Jr,Js,Jt,Jv,Jw,Jy,Jz,J2,J6,J7,Xb,Xd,Xj,Xl,Xm,Xq,Xr,Xu,Xw,Xx,Xy,X6,X7,X8,X9,Wc,Wf,Wh,Wi,Wj,Wl,Wm,Wn,Wo,Wp,Wt,Ww,Wx,W0,W6,Yd,Yn,Yo,Yr,Ys,Yt,Yu,Yv,Yw,Y9,Vj,Vk,Vy,Vz,V0,V1,V3,V5,V6,Ui,Ep,U5,Kh,K6,K1,Gd])
def Mq (p:Part) (w tg b t u li na op:Bool):Bool :=
 if p.kind≠0∧p.kind≠14∧p.num≠0 then false
 else if p.kind=0 then ((p.bind==[]&&p.many==0)&&((p.u.length:Int)==0))&&li
 else if p.kind=1 then (((p.bind==[]&&p.many==0)&&((p.t.length:Int)==0))&&((p.u.length:Int)==0))&&na
 else if p.kind=2∨p.kind=4 then (((p.name==[]&&p.many==0)&&b)&&t)&&((p.u.length:Int)==0)
 else if p.kind=3∨p.kind=6 then ((p.name==[]&&(p.bind==[]&&p.many==0))&&((p.t.length:Int)==0))&&((p.u.length:Int)==0)
 else if p.kind=5 then (((w&&p.many==0)&&b)&&t)&&u
 else if p.kind=7 then ((((p.name==[]&&p.bind==[])&&leB 1 p.many)&&leB p.many 50)&&((p.t.length:Int)==0))&&((p.u.length:Int)==0)
 else if p.kind=8 then (((p.name==[]&&p.many==0)&&b)&&((p.t.length:Int)==0))&&((p.u.length:Int)==0)
 else if p.kind=9 then ((op&&(p.bind==[]&&p.many==0))&&((p.t.length:Int)==0))&&((p.u.length:Int)==0)
 else if p.kind=10 then ((((p.name==[]&&p.bind==[])&&leB 0 p.many)&&leB p.many 50)&&((p.t.length:Int)==0))&&((p.u.length:Int)==0)
 else if p.kind=11 then ((w&&(p.bind==[]&&p.many==0))&&((p.t.length:Int)==0))&&((p.u.length:Int)==0)
 else if p.kind=12 then ((tg&&(p.bind==[]&&p.many==0))&&t)&&((p.u.length:Int)==0)
 else if p.kind=13 then ((p.name==[]&&(p.bind==[]&&p.many==0))&&t)&&((p.u.length:Int)==0)
 else if p.kind=14 then (((p.name==[]&&(p.bind==[]&&p.many==0))&&t)&&u)&&leB 0 p.num
 else false
def uses5 (p:Part):Bool:=Mq p (Lf p.name) (A7 p.name) (Lf p.bind) (plain5 p.t) (plain5 p.u) (literal5 p) (name5 p.name) (op5 p.name)
def Nz:Con:=L9 (fun (p:Part)=>Fit5 p∧p.name.length≤9223372036854775806) (fun p=>uses5 p)
theorem oK:type_of% @Nz.eq_def:=@Nz.eq_def
noncomputable def Ab:Ctx:=⟨tab,lkC [(40,Kj),(42,Kd),(48,Nt),(49,Hk),(50,Mj),(51,La)],60,lkB [],[],false⟩
theorem M2:Ab.τ=tab:=rfl
theorem M4:Ab.Γ=lkC [(40,Kj),(42,Kd),(48,Nt),(49,Hk),(50,Mj),(51,La)]:=rfl
theorem M3:Ab.dp=60:=rfl
theorem M5:Ab.Δ=lkB []:=rfl
theorem M1:Ab.cuts=[]:=rfl
theorem M0:Ab.wr=false:=rfl
set_option maxRecDepth 100000 in
theorem good_uses5:Hg Try.prog (34,Nz):=by
 refine ⟨Ke Try.func34 (by kernel_rfl) rfl,?_⟩
 have K:Gu Try.prog Ab:=Ko G7 Kw (by
  intro p hp
  simp only [bQ,bZ,or_false] at hp
  rcases hp with rfl|rfl|rfl|rfl|rfl|rfl
  ·exact Fx
  ·exact Cr
  ·exact good_plain5
  ·exact good_literal5
  ·exact good_name5
  ·exact good_op5) (by simp)
 obtain ⟨c,hc⟩:∃ c,Try.f34.body=some c:=⟨_,rfl⟩
 refine Kn K Try.func34 hc [.tmp 2] rfl 275 rfl (fun cvs hpre=>?_)
 change Nz.pre cvs at hpre
 unfold Nz at hpre
 obtain ⟨p,rfl,hF,hn⟩:=Mt hpre
 clear hpre
 have hF2:=hF
 obtain ⟨⟨f1,f2⟩,⟨f3,f4⟩,f5,f6,f7⟩:=hF2
 obtain ⟨R,hR⟩:∃ R,uses5 p=R:=⟨_,rfl⟩
 have hR2:=hR
 unfold uses5 at hR2
 obtain ⟨w,hw⟩:∃ w,Lf p.name=w:=⟨_,rfl⟩
 obtain ⟨tg,htg⟩:∃ w,A7 p.name=w:=⟨_,rfl⟩
 obtain ⟨b,hb⟩:∃ w,Lf p.bind=w:=⟨_,rfl⟩
 obtain ⟨t,ht⟩:∃ w,plain5 p.t=w:=⟨_,rfl⟩
 obtain ⟨u,hu⟩:∃ w,plain5 p.u=w:=⟨_,rfl⟩
 obtain ⟨li,hli⟩:∃ w,literal5 p=w:=⟨_,rfl⟩
 obtain ⟨na,hna⟩:∃ w,name5 p.name=w:=⟨_,rfl⟩
 obtain ⟨op,hop⟩:∃ w,op5 p.name=w:=⟨_,rfl⟩
 rw [hw,htg,hb,ht,hu,hli,hna,hop] at hR2
 simp only [Try.f34,aZ] at hc
 subst hc
 refine Gf 17 (of_decide_eq_true (by kernel_rfl)) ?_
 by_cases hc:p.kind=0
 ·have k0:(p.kind==0)=true:=beq_iff_eq.2 hc
  have k1:(p.kind==1)=false:=beq_eq_false_iff_ne.2 (by omega)
  have k2:(p.kind==2)=false:=beq_eq_false_iff_ne.2 (by omega)
  have k3:(p.kind==3)=false:=beq_eq_false_iff_ne.2 (by omega)
  have k4:(p.kind==4)=false:=beq_eq_false_iff_ne.2 (by omega)
  have k5:(p.kind==5)=false:=beq_eq_false_iff_ne.2 (by omega)
  have k6:(p.kind==6)=false:=beq_eq_false_iff_ne.2 (by omega)
  have k7:(p.kind==7)=false:=beq_eq_false_iff_ne.2 (by omega)
  have k8:(p.kind==8)=false:=beq_eq_false_iff_ne.2 (by omega)
  have k9:(p.kind==9)=false:=beq_eq_false_iff_ne.2 (by omega)
  have k10:(p.kind==10)=false:=beq_eq_false_iff_ne.2 (by omega)
  have k11:(p.kind==11)=false:=beq_eq_false_iff_ne.2 (by omega)
  have k12:(p.kind==12)=false:=beq_eq_false_iff_ne.2 (by omega)
  have k13:(p.kind==13)=false:=beq_eq_false_iff_ne.2 (by omega)
  have k14:(p.kind==14)=false:=beq_eq_false_iff_ne.2 (by omega)
  have m0:(p.kind != 0)=false:=by rw [bne,k0];rfl
  have m14:(p.kind != 14)=true:=by rw [bne,k14];rfl
  (sym=>simp [hw,htg,hb,ht,hu,hli,hna,hop,hR,k0,k1,k2,k3,k4,k5,k6,k7,k8,k9,k10,k11,k12,k13,k14,m0,m14,Um,Un,Uo,Up,szP,szN,M2,M4,M3,M5,M1,M0,lV,lY,pQ,Mj.eq_def,La.eq_def,Nt.eq_def,oK,Zb,Zc,Zd,Ze,Zf,Zg,Zh,Zi,Zj,Zk,Zl,Zm,Zo,Zp,Zq,Zs,Zt,Zu,Zv,Zx,Z6,Qb,Qd,Qf,Qg,Qh,Qj,Qn,Qo,Qp,Qq,Qr,Qs,Qt,Qu,Qv,Qw,Qx,Qy,Qz,Q1,Q3,Q8,Ja,Jb,Jc,Jd,Je,Jf,Jj,Jq,Jr,Js,Jt,Jv,Jw,Jy,Jz,J2,J6,J7,Xb,Xd,Xi,Xj,Xk,Xl,Xm,Xn,Xq,Xr,Xs,Xt,Xu,Xv,Xw,Xx,Xy,X2,X3,X4,X5,X6,X7,X8,X9,Wb,Wc,Wd,Wf,Wg,Wh,Wi,Wj,Wl,Wm,Wn,Wo,Wp,Wt,Wv,Ww,Wx,Wz,W0,W6,Yd,Yn,Yo,Yr,Ys,Yt,Yu,Yv,Yw,Yy,Y0,Y1,Y3,Y9,Va,Vj,Vk,Vl,Vn,Vy,Vz,V0,V1,V2,V3,V4,V5,V6,V8,Ui,Ep,U5,Kh,K6,K1,Gd];tactic =>
   try simp only [Uq] at *;try simp only [nc2] at *
   try simp (maxSteps:=4000000) only [hw,htg,hb,ht,hu,hli,hna,hop,hR,k0,k1,k2,k3,k4,k5,k6,k7,k8,k9,k10,k11,k12,k13,k14,m0,m14,Um,Un,Uo,Up,szP,szN,U6]
   repeat' first|with_reducible assumption|with_reducible apply And.intro|intro _|omega|(rw [Uk];omega)
   all_goals first|with_reducible exact okq|omega|(symm;rw [←hR2];clear hR2 hR hF f1 f2 f3 f4 f5 f6 f7 hn K hw htg hb ht hu hli hna hop k0 k1 k2 k3 k4 k5 k6 k7 k8 k9 k10 k11 k12 k13 k14 m0 m14;unfold Mq;simp_all;done)|(symm;rw [←hR2];clear hR2 hR hF f1 f2 f3 f4 f5 f6 f7 hn K hw htg hb ht hu hli hna hop k0 k1 k2 k3 k4 k5 k6 k7 k8 k9 k10 k11 k12 k13 k14 m0 m14;unfold Mq leB;simp_all;done)|(symm;rw [←hR2];clear hR2 hR hF f1 f2 f3 f4 f5 f6 f7 hn K hw htg hb ht hu hli hna hop k0 k1 k2 k3 k4 k5 k6 k7 k8 k9 k10 k11 k12 k13 k14 m0 m14;unfold Mq leB;simp_all;omega)|skip)
 have c0:=hc
 clear hc
 by_cases hc:p.kind=1
 ·have k0:(p.kind==0)=false:=beq_eq_false_iff_ne.2 (by omega)
  have k1:(p.kind==1)=true:=beq_iff_eq.2 hc
  have k2:(p.kind==2)=false:=beq_eq_false_iff_ne.2 (by omega)
  have k3:(p.kind==3)=false:=beq_eq_false_iff_ne.2 (by omega)
  have k4:(p.kind==4)=false:=beq_eq_false_iff_ne.2 (by omega)
  have k5:(p.kind==5)=false:=beq_eq_false_iff_ne.2 (by omega)
  have k6:(p.kind==6)=false:=beq_eq_false_iff_ne.2 (by omega)
  have k7:(p.kind==7)=false:=beq_eq_false_iff_ne.2 (by omega)
  have k8:(p.kind==8)=false:=beq_eq_false_iff_ne.2 (by omega)
  have k9:(p.kind==9)=false:=beq_eq_false_iff_ne.2 (by omega)
  have k10:(p.kind==10)=false:=beq_eq_false_iff_ne.2 (by omega)
  have k11:(p.kind==11)=false:=beq_eq_false_iff_ne.2 (by omega)
  have k12:(p.kind==12)=false:=beq_eq_false_iff_ne.2 (by omega)
  have k13:(p.kind==13)=false:=beq_eq_false_iff_ne.2 (by omega)
  have k14:(p.kind==14)=false:=beq_eq_false_iff_ne.2 (by omega)
  have m0:(p.kind != 0)=true:=by rw [bne,k0];rfl
  have m14:(p.kind != 14)=true:=by rw [bne,k14];rfl
  (sym=>simp [hw,htg,hb,ht,hu,hli,hna,hop,hR,k0,k1,k2,k3,k4,k5,k6,k7,k8,k9,k10,k11,k12,k13,k14,m0,m14,Um,Un,Uo,Up,szP,szN,M2,M4,M3,M5,M1,M0,lV,lY,pQ,Mj.eq_def,La.eq_def,Nt.eq_def,oK,Zb,Zc,Zd,Ze,Zf,Zg,Zh,Zi,Zj,Zk,Zl,Zm,Zo,Zp,Zq,Zs,Zt,Zu,Zv,Zx,Z6,Qb,Qd,Qf,Qg,Qh,Qn,Qo,Qp,Qq,Qr,Qs,Qt,Qu,Qv,Qw,Qx,Qy,Qz,Q1,Q8,Ja,Jb,Jc,Jd,Je,Jf,Jj,Jq,Jr,Js,Jt,Jv,Jw,Jy,Jz,J2,J6,J7,Xb,Xd,Xi,Xj,Xk,Xl,Xm,Xn,Xq,Xr,Xs,Xt,Xu,Xv,Xw,Xx,Xy,X2,X3,X4,X5,X6,X7,X8,X9,Wb,Wc,Wd,Wf,Wg,Wh,Wi,Wj,Wl,Wm,Wn,Wo,Wp,Wt,Wv,Ww,Wx,Wz,W0,W6,Yd,Yn,Yo,Yr,Ys,Yt,Yu,Yv,Yw,Yy,Y0,Y1,Y3,Y9,Va,Vj,Vk,Vl,Vn,Vy,Vz,V0,V1,V2,V3,V4,V5,V6,V8,Ui,Ep,U5,Kh,K6,K1,Gd];tactic =>
   try simp only [Uq] at *;try simp only [nc2] at *
   try simp (maxSteps:=4000000) only [hw,htg,hb,ht,hu,hli,hna,hop,hR,k0,k1,k2,k3,k4,k5,k6,k7,k8,k9,k10,k11,k12,k13,k14,m0,m14,Um,Un,Uo,Up,szP,szN,U6]
   repeat' first|with_reducible assumption|with_reducible apply And.intro|intro _|omega|(rw [Uk];omega)
   all_goals first|with_reducible exact okq|omega|(symm;rw [←hR2];clear hR2 hR hF f1 f2 f3 f4 f5 f6 f7 hn K hw htg hb ht hu hli hna hop k0 k1 k2 k3 k4 k5 k6 k7 k8 k9 k10 k11 k12 k13 k14 m0 m14;unfold Mq;simp_all;done)|(symm;rw [←hR2];clear hR2 hR hF f1 f2 f3 f4 f5 f6 f7 hn K hw htg hb ht hu hli hna hop k0 k1 k2 k3 k4 k5 k6 k7 k8 k9 k10 k11 k12 k13 k14 m0 m14;unfold Mq leB;simp_all;done)|(symm;rw [←hR2];clear hR2 hR hF f1 f2 f3 f4 f5 f6 f7 hn K hw htg hb ht hu hli hna hop k0 k1 k2 k3 k4 k5 k6 k7 k8 k9 k10 k11 k12 k13 k14 m0 m14;unfold Mq leB;simp_all;omega)|skip)
 have c1:=hc
 clear hc
 by_cases hc:p.kind=2
 ·have k0:(p.kind==0)=false:=beq_eq_false_iff_ne.2 (by omega)
  have k1:(p.kind==1)=false:=beq_eq_false_iff_ne.2 (by omega)
  have k2:(p.kind==2)=true:=beq_iff_eq.2 hc
  have k3:(p.kind==3)=false:=beq_eq_false_iff_ne.2 (by omega)
  have k4:(p.kind==4)=false:=beq_eq_false_iff_ne.2 (by omega)
  have k5:(p.kind==5)=false:=beq_eq_false_iff_ne.2 (by omega)
  have k6:(p.kind==6)=false:=beq_eq_false_iff_ne.2 (by omega)
  have k7:(p.kind==7)=false:=beq_eq_false_iff_ne.2 (by omega)
  have k8:(p.kind==8)=false:=beq_eq_false_iff_ne.2 (by omega)
  have k9:(p.kind==9)=false:=beq_eq_false_iff_ne.2 (by omega)
  have k10:(p.kind==10)=false:=beq_eq_false_iff_ne.2 (by omega)
  have k11:(p.kind==11)=false:=beq_eq_false_iff_ne.2 (by omega)
  have k12:(p.kind==12)=false:=beq_eq_false_iff_ne.2 (by omega)
  have k13:(p.kind==13)=false:=beq_eq_false_iff_ne.2 (by omega)
  have k14:(p.kind==14)=false:=beq_eq_false_iff_ne.2 (by omega)
  have m0:(p.kind != 0)=true:=by rw [bne,k0];rfl
  have m14:(p.kind != 14)=true:=by rw [bne,k14];rfl
  (sym=>simp [hw,htg,hb,ht,hu,hli,hna,hop,hR,k0,k1,k2,k3,k4,k5,k6,k7,k8,k9,k10,k11,k12,k13,k14,m0,m14,Um,Un,Uo,Up,szP,szN,M2,M4,M3,M5,M1,M0,lV,lY,pQ,Mj.eq_def,La.eq_def,Nt.eq_def,oK,Zb,Zc,Zd,Ze,Zf,Zg,Zh,Zi,Zj,Zk,Zl,Zm,Zo,Zp,Zq,Zs,Zt,Zu,Zv,Zx,Z6,Qb,Qd,Qf,Qg,Qh,Qn,Qo,Qp,Qq,Qr,Qs,Qt,Qu,Qv,Qw,Qx,Qy,Qz,Q1,Q8,Ja,Jb,Jc,Jd,Je,Jf,Jj,Jq,Jr,Js,Jt,Jv,Jw,Jy,Jz,J2,J6,J7,Xb,Xd,Xi,Xj,Xk,Xl,Xm,Xn,Xq,Xr,Xs,Xt,Xu,Xv,Xw,Xx,Xy,X2,X3,X4,X5,X6,X7,X8,X9,Wb,Wc,Wd,Wf,Wg,Wh,Wi,Wj,Wl,Wm,Wn,Wo,Wp,Wt,Wv,Ww,Wx,Wz,W0,W6,Yd,Yn,Yo,Yr,Ys,Yt,Yu,Yv,Yw,Yy,Y0,Y1,Y3,Y9,Va,Vj,Vk,Vl,Vn,Vy,Vz,V0,V1,V2,V3,V4,V5,V6,V8,Ui,Ep,U5,Kh,K6,K1,Gd];tactic =>
   try simp only [Uq] at *;try simp only [nc2] at *
   try simp (maxSteps:=4000000) only [hw,htg,hb,ht,hu,hli,hna,hop,hR,k0,k1,k2,k3,k4,k5,k6,k7,k8,k9,k10,k11,k12,k13,k14,m0,m14,Um,Un,Uo,Up,szP,szN,U6]
   repeat' first|with_reducible assumption|with_reducible apply And.intro|intro _|omega|(rw [Uk];omega)
   all_goals first|with_reducible exact okq|omega|(symm;rw [←hR2];clear hR2 hR hF f1 f2 f3 f4 f5 f6 f7 hn K hw htg hb ht hu hli hna hop k0 k1 k2 k3 k4 k5 k6 k7 k8 k9 k10 k11 k12 k13 k14 m0 m14;unfold Mq;simp_all;done)|(symm;rw [←hR2];clear hR2 hR hF f1 f2 f3 f4 f5 f6 f7 hn K hw htg hb ht hu hli hna hop k0 k1 k2 k3 k4 k5 k6 k7 k8 k9 k10 k11 k12 k13 k14 m0 m14;unfold Mq leB;simp_all;done)|(symm;rw [←hR2];clear hR2 hR hF f1 f2 f3 f4 f5 f6 f7 hn K hw htg hb ht hu hli hna hop k0 k1 k2 k3 k4 k5 k6 k7 k8 k9 k10 k11 k12 k13 k14 m0 m14;unfold Mq leB;simp_all;omega)|skip)
 have c2:=hc
 clear hc
 by_cases hc:p.kind=3
 ·have k0:(p.kind==0)=false:=beq_eq_false_iff_ne.2 (by omega)
  have k1:(p.kind==1)=false:=beq_eq_false_iff_ne.2 (by omega)
  have k2:(p.kind==2)=false:=beq_eq_false_iff_ne.2 (by omega)
  have k3:(p.kind==3)=true:=beq_iff_eq.2 hc
  have k4:(p.kind==4)=false:=beq_eq_false_iff_ne.2 (by omega)
  have k5:(p.kind==5)=false:=beq_eq_false_iff_ne.2 (by omega)
  have k6:(p.kind==6)=false:=beq_eq_false_iff_ne.2 (by omega)
  have k7:(p.kind==7)=false:=beq_eq_false_iff_ne.2 (by omega)
  have k8:(p.kind==8)=false:=beq_eq_false_iff_ne.2 (by omega)
  have k9:(p.kind==9)=false:=beq_eq_false_iff_ne.2 (by omega)
  have k10:(p.kind==10)=false:=beq_eq_false_iff_ne.2 (by omega)
  have k11:(p.kind==11)=false:=beq_eq_false_iff_ne.2 (by omega)
  have k12:(p.kind==12)=false:=beq_eq_false_iff_ne.2 (by omega)
  have k13:(p.kind==13)=false:=beq_eq_false_iff_ne.2 (by omega)
  have k14:(p.kind==14)=false:=beq_eq_false_iff_ne.2 (by omega)
  have m0:(p.kind != 0)=true:=by rw [bne,k0];rfl
  have m14:(p.kind != 14)=true:=by rw [bne,k14];rfl
  (sym=>simp [hw,htg,hb,ht,hu,hli,hna,hop,hR,k0,k1,k2,k3,k4,k5,k6,k7,k8,k9,k10,k11,k12,k13,k14,m0,m14,Um,Un,Uo,Up,szP,szN,M2,M4,M3,M5,M1,M0,lV,lY,pQ,Mj.eq_def,La.eq_def,Nt.eq_def,oK,Zb,Zc,Zd,Ze,Zf,Zg,Zh,Zi,Zj,Zk,Zl,Zm,Zo,Zp,Zq,Zs,Zt,Zu,Zv,Zx,Z6,Qb,Qd,Qf,Qg,Qh,Qn,Qo,Qp,Qq,Qr,Qs,Qt,Qu,Qv,Qw,Qx,Qy,Qz,Q1,Q8,Ja,Jb,Jc,Jd,Je,Jf,Jj,Jq,Jr,Js,Jt,Jv,Jw,Jy,Jz,J2,J6,J7,Xb,Xd,Xi,Xj,Xk,Xl,Xm,Xn,Xq,Xr,Xs,Xt,Xu,Xv,Xw,Xx,Xy,X2,X3,X4,X5,X6,X7,X8,X9,Wb,Wc,Wd,Wf,Wg,Wh,Wi,Wj,Wl,Wm,Wn,Wo,Wp,Wt,Wv,Ww,Wx,Wz,W0,W6,Yd,Yn,Yo,Yr,Ys,Yt,Yu,Yv,Yw,Yy,Y0,Y1,Y3,Y9,Va,Vj,Vk,Vl,Vn,Vy,Vz,V0,V1,V2,V3,V4,V5,V6,V8,Ui,Ep,U5,Kh,K6,K1,Gd];tactic =>
   try simp only [Uq] at *;try simp only [nc2] at *
   try simp (maxSteps:=4000000) only [hw,htg,hb,ht,hu,hli,hna,hop,hR,k0,k1,k2,k3,k4,k5,k6,k7,k8,k9,k10,k11,k12,k13,k14,m0,m14,Um,Un,Uo,Up,szP,szN,U6]
   repeat' first|with_reducible assumption|with_reducible apply And.intro|intro _|omega|(rw [Uk];omega)
   all_goals first|with_reducible exact okq|omega|(symm;rw [←hR2];clear hR2 hR hF f1 f2 f3 f4 f5 f6 f7 hn K hw htg hb ht hu hli hna hop k0 k1 k2 k3 k4 k5 k6 k7 k8 k9 k10 k11 k12 k13 k14 m0 m14;unfold Mq;simp_all;done)|(symm;rw [←hR2];clear hR2 hR hF f1 f2 f3 f4 f5 f6 f7 hn K hw htg hb ht hu hli hna hop k0 k1 k2 k3 k4 k5 k6 k7 k8 k9 k10 k11 k12 k13 k14 m0 m14;unfold Mq leB;simp_all;done)|(symm;rw [←hR2];clear hR2 hR hF f1 f2 f3 f4 f5 f6 f7 hn K hw htg hb ht hu hli hna hop k0 k1 k2 k3 k4 k5 k6 k7 k8 k9 k10 k11 k12 k13 k14 m0 m14;unfold Mq leB;simp_all;omega)|skip)
 have c3:=hc
 clear hc
 by_cases hc:p.kind=4
 ·have k0:(p.kind==0)=false:=beq_eq_false_iff_ne.2 (by omega)
  have k1:(p.kind==1)=false:=beq_eq_false_iff_ne.2 (by omega)
  have k2:(p.kind==2)=false:=beq_eq_false_iff_ne.2 (by omega)
  have k3:(p.kind==3)=false:=beq_eq_false_iff_ne.2 (by omega)
  have k4:(p.kind==4)=true:=beq_iff_eq.2 hc
  have k5:(p.kind==5)=false:=beq_eq_false_iff_ne.2 (by omega)
  have k6:(p.kind==6)=false:=beq_eq_false_iff_ne.2 (by omega)
  have k7:(p.kind==7)=false:=beq_eq_false_iff_ne.2 (by omega)
  have k8:(p.kind==8)=false:=beq_eq_false_iff_ne.2 (by omega)
  have k9:(p.kind==9)=false:=beq_eq_false_iff_ne.2 (by omega)
  have k10:(p.kind==10)=false:=beq_eq_false_iff_ne.2 (by omega)
  have k11:(p.kind==11)=false:=beq_eq_false_iff_ne.2 (by omega)
  have k12:(p.kind==12)=false:=beq_eq_false_iff_ne.2 (by omega)
  have k13:(p.kind==13)=false:=beq_eq_false_iff_ne.2 (by omega)
  have k14:(p.kind==14)=false:=beq_eq_false_iff_ne.2 (by omega)
  have m0:(p.kind != 0)=true:=by rw [bne,k0];rfl
  have m14:(p.kind != 14)=true:=by rw [bne,k14];rfl
  (sym=>simp [hw,htg,hb,ht,hu,hli,hna,hop,hR,k0,k1,k2,k3,k4,k5,k6,k7,k8,k9,k10,k11,k12,k13,k14,m0,m14,Um,Un,Uo,Up,szP,szN,M2,M4,M3,M5,M1,M0,lV,lY,pQ,Mj.eq_def,La.eq_def,Nt.eq_def,oK,Zb,Zc,Zd,Ze,Zf,Zg,Zh,Zi,Zj,Zk,Zl,Zm,Zo,Zp,Zq,Zs,Zt,Zu,Zv,Zx,Z6,Qb,Qd,Qf,Qg,Qh,Qn,Qo,Qp,Qq,Qr,Qs,Qt,Qu,Qv,Qw,Qx,Qy,Qz,Q1,Q8,Ja,Jb,Jc,Jd,Je,Jf,Jj,Jq,Jr,Js,Jt,Jv,Jw,Jy,Jz,J2,J6,J7,Xb,Xd,Xi,Xj,Xk,Xl,Xm,Xn,Xq,Xr,Xs,Xt,Xu,Xv,Xw,Xx,Xy,X2,X3,X4,X5,X6,X7,X8,X9,Wb,Wc,Wd,Wf,Wg,Wh,Wi,Wj,Wl,Wm,Wn,Wo,Wp,Wt,Wv,Ww,Wx,Wz,W0,W6,Yd,Yn,Yo,Yr,Ys,Yt,Yu,Yv,Yw,Yy,Y0,Y1,Y3,Y9,Va,Vj,Vk,Vl,Vn,Vy,Vz,V0,V1,V2,V3,V4,V5,V6,V8,Ui,Ep,U5,Kh,K6,K1,Gd];tactic =>
   try simp only [Uq] at *;try simp only [nc2] at *
   try simp (maxSteps:=4000000) only [hw,htg,hb,ht,hu,hli,hna,hop,hR,k0,k1,k2,k3,k4,k5,k6,k7,k8,k9,k10,k11,k12,k13,k14,m0,m14,Um,Un,Uo,Up,szP,szN,U6]
   repeat' first|with_reducible assumption|with_reducible apply And.intro|intro _|omega|(rw [Uk];omega)
   all_goals first|with_reducible exact okq|omega|(symm;rw [←hR2];clear hR2 hR hF f1 f2 f3 f4 f5 f6 f7 hn K hw htg hb ht hu hli hna hop k0 k1 k2 k3 k4 k5 k6 k7 k8 k9 k10 k11 k12 k13 k14 m0 m14;unfold Mq;simp_all;done)|(symm;rw [←hR2];clear hR2 hR hF f1 f2 f3 f4 f5 f6 f7 hn K hw htg hb ht hu hli hna hop k0 k1 k2 k3 k4 k5 k6 k7 k8 k9 k10 k11 k12 k13 k14 m0 m14;unfold Mq leB;simp_all;done)|(symm;rw [←hR2];clear hR2 hR hF f1 f2 f3 f4 f5 f6 f7 hn K hw htg hb ht hu hli hna hop k0 k1 k2 k3 k4 k5 k6 k7 k8 k9 k10 k11 k12 k13 k14 m0 m14;unfold Mq leB;simp_all;omega)|skip)
 have c4:=hc
 clear hc
 by_cases hc:p.kind=5
 ·have k0:(p.kind==0)=false:=beq_eq_false_iff_ne.2 (by omega)
  have k1:(p.kind==1)=false:=beq_eq_false_iff_ne.2 (by omega)
  have k2:(p.kind==2)=false:=beq_eq_false_iff_ne.2 (by omega)
  have k3:(p.kind==3)=false:=beq_eq_false_iff_ne.2 (by omega)
  have k4:(p.kind==4)=false:=beq_eq_false_iff_ne.2 (by omega)
  have k5:(p.kind==5)=true:=beq_iff_eq.2 hc
  have k6:(p.kind==6)=false:=beq_eq_false_iff_ne.2 (by omega)
  have k7:(p.kind==7)=false:=beq_eq_false_iff_ne.2 (by omega)
  have k8:(p.kind==8)=false:=beq_eq_false_iff_ne.2 (by omega)
  have k9:(p.kind==9)=false:=beq_eq_false_iff_ne.2 (by omega)
  have k10:(p.kind==10)=false:=beq_eq_false_iff_ne.2 (by omega)
  have k11:(p.kind==11)=false:=beq_eq_false_iff_ne.2 (by omega)
  have k12:(p.kind==12)=false:=beq_eq_false_iff_ne.2 (by omega)
  have k13:(p.kind==13)=false:=beq_eq_false_iff_ne.2 (by omega)
  have k14:(p.kind==14)=false:=beq_eq_false_iff_ne.2 (by omega)
  have m0:(p.kind != 0)=true:=by rw [bne,k0];rfl
  have m14:(p.kind != 14)=true:=by rw [bne,k14];rfl
  (sym=>simp [hw,htg,hb,ht,hu,hli,hna,hop,hR,k0,k1,k2,k3,k4,k5,k6,k7,k8,k9,k10,k11,k12,k13,k14,m0,m14,Um,Un,Uo,Up,szP,szN,M2,M4,M3,M5,M1,M0,lV,lY,pQ,Mj.eq_def,La.eq_def,Nt.eq_def,oK,Zb,Zc,Zd,Ze,Zf,Zg,Zh,Zi,Zj,Zk,Zl,Zm,Zo,Zp,Zq,Zs,Zt,Zu,Zv,Zx,Z6,Qb,Qd,Qf,Qg,Qh,Qn,Qo,Qp,Qq,Qr,Qs,Qt,Qu,Qv,Qw,Qx,Qy,Qz,Q1,Q8,Ja,Jb,Jc,Jd,Je,Jf,Jj,Jq,Jr,Js,Jt,Jv,Jw,Jy,Jz,J2,J6,J7,Xb,Xd,Xi,Xj,Xk,Xl,Xm,Xn,Xq,Xr,Xs,Xt,Xu,Xv,Xw,Xx,Xy,X2,X3,X4,X5,X6,X7,X8,X9,Wb,Wc,Wd,Wf,Wg,Wh,Wi,Wj,Wl,Wm,Wn,Wo,Wp,Wt,Wv,Ww,Wx,Wz,W0,W6,Yd,Yn,Yo,Yr,Ys,Yt,Yu,Yv,Yw,Yy,Y0,Y1,Y3,Y9,Va,Vj,Vk,Vl,Vn,Vy,Vz,V0,V1,V2,V3,V4,V5,V6,V8,Ui,Ep,U5,Kh,K6,K1,Gd];tactic =>
   try simp only [Uq] at *;try simp only [nc2] at *
   try simp (maxSteps:=4000000) only [hw,htg,hb,ht,hu,hli,hna,hop,hR,k0,k1,k2,k3,k4,k5,k6,k7,k8,k9,k10,k11,k12,k13,k14,m0,m14,Um,Un,Uo,Up,szP,szN,U6]
   repeat' first|with_reducible assumption|with_reducible apply And.intro|intro _|omega|(rw [Uk];omega)
   all_goals first|with_reducible exact okq|omega|(symm;rw [←hR2];clear hR2 hR hF f1 f2 f3 f4 f5 f6 f7 hn K hw htg hb ht hu hli hna hop k0 k1 k2 k3 k4 k5 k6 k7 k8 k9 k10 k11 k12 k13 k14 m0 m14;unfold Mq;simp_all;done)|(symm;rw [←hR2];clear hR2 hR hF f1 f2 f3 f4 f5 f6 f7 hn K hw htg hb ht hu hli hna hop k0 k1 k2 k3 k4 k5 k6 k7 k8 k9 k10 k11 k12 k13 k14 m0 m14;unfold Mq leB;simp_all;done)|(symm;rw [←hR2];clear hR2 hR hF f1 f2 f3 f4 f5 f6 f7 hn K hw htg hb ht hu hli hna hop k0 k1 k2 k3 k4 k5 k6 k7 k8 k9 k10 k11 k12 k13 k14 m0 m14;unfold Mq leB;simp_all;omega)|skip)
 have c5:=hc
 clear hc
 by_cases hc:p.kind=6
 ·have k0:(p.kind==0)=false:=beq_eq_false_iff_ne.2 (by omega)
  have k1:(p.kind==1)=false:=beq_eq_false_iff_ne.2 (by omega)
  have k2:(p.kind==2)=false:=beq_eq_false_iff_ne.2 (by omega)
  have k3:(p.kind==3)=false:=beq_eq_false_iff_ne.2 (by omega)
  have k4:(p.kind==4)=false:=beq_eq_false_iff_ne.2 (by omega)
  have k5:(p.kind==5)=false:=beq_eq_false_iff_ne.2 (by omega)
  have k6:(p.kind==6)=true:=beq_iff_eq.2 hc
  have k7:(p.kind==7)=false:=beq_eq_false_iff_ne.2 (by omega)
  have k8:(p.kind==8)=false:=beq_eq_false_iff_ne.2 (by omega)
  have k9:(p.kind==9)=false:=beq_eq_false_iff_ne.2 (by omega)
  have k10:(p.kind==10)=false:=beq_eq_false_iff_ne.2 (by omega)
  have k11:(p.kind==11)=false:=beq_eq_false_iff_ne.2 (by omega)
  have k12:(p.kind==12)=false:=beq_eq_false_iff_ne.2 (by omega)
  have k13:(p.kind==13)=false:=beq_eq_false_iff_ne.2 (by omega)
  have k14:(p.kind==14)=false:=beq_eq_false_iff_ne.2 (by omega)
  have m0:(p.kind != 0)=true:=by rw [bne,k0];rfl
  have m14:(p.kind != 14)=true:=by rw [bne,k14];rfl
  (sym=>simp [hw,htg,hb,ht,hu,hli,hna,hop,hR,k0,k1,k2,k3,k4,k5,k6,k7,k8,k9,k10,k11,k12,k13,k14,m0,m14,Um,Un,Uo,Up,szP,szN,M2,M4,M3,M5,M1,M0,lV,lY,pQ,Mj.eq_def,La.eq_def,Nt.eq_def,oK,Zb,Zc,Zd,Ze,Zf,Zg,Zh,Zi,Zj,Zk,Zl,Zm,Zo,Zp,Zq,Zs,Zt,Zu,Zv,Zx,Z6,Qb,Qd,Qf,Qg,Qh,Qn,Qo,Qp,Qq,Qr,Qs,Qt,Qu,Qv,Qw,Qx,Qy,Qz,Q1,Q8,Ja,Jb,Jc,Jd,Je,Jf,Jj,Jq,Jr,Js,Jt,Jv,Jw,Jy,Jz,J2,J6,J7,Xb,Xd,Xi,Xj,Xk,Xl,Xm,Xn,Xq,Xr,Xs,Xt,Xu,Xv,Xw,Xx,Xy,X2,X3,X4,X5,X6,X7,X8,X9,Wb,Wc,Wd,Wf,Wg,Wh,Wi,Wj,Wl,Wm,Wn,Wo,Wp,Wt,Wv,Ww,Wx,Wz,W0,W6,Yd,Yn,Yo,Yr,Ys,Yt,Yu,Yv,Yw,Yy,Y0,Y1,Y3,Y9,Va,Vj,Vk,Vl,Vn,Vy,Vz,V0,V1,V2,V3,V4,V5,V6,V8,Ui,Ep,U5,Kh,K6,K1,Gd];tactic =>
   try simp only [Uq] at *;try simp only [nc2] at *
   try simp (maxSteps:=4000000) only [hw,htg,hb,ht,hu,hli,hna,hop,hR,k0,k1,k2,k3,k4,k5,k6,k7,k8,k9,k10,k11,k12,k13,k14,m0,m14,Um,Un,Uo,Up,szP,szN,U6]
   repeat' first|with_reducible assumption|with_reducible apply And.intro|intro _|omega|(rw [Uk];omega)
   all_goals first|with_reducible exact okq|omega|(symm;rw [←hR2];clear hR2 hR hF f1 f2 f3 f4 f5 f6 f7 hn K hw htg hb ht hu hli hna hop k0 k1 k2 k3 k4 k5 k6 k7 k8 k9 k10 k11 k12 k13 k14 m0 m14;unfold Mq;simp_all;done)|(symm;rw [←hR2];clear hR2 hR hF f1 f2 f3 f4 f5 f6 f7 hn K hw htg hb ht hu hli hna hop k0 k1 k2 k3 k4 k5 k6 k7 k8 k9 k10 k11 k12 k13 k14 m0 m14;unfold Mq leB;simp_all;done)|(symm;rw [←hR2];clear hR2 hR hF f1 f2 f3 f4 f5 f6 f7 hn K hw htg hb ht hu hli hna hop k0 k1 k2 k3 k4 k5 k6 k7 k8 k9 k10 k11 k12 k13 k14 m0 m14;unfold Mq leB;simp_all;omega)|skip)
 have c6:=hc
 clear hc
 by_cases hc:p.kind=7
 ·have k0:(p.kind==0)=false:=beq_eq_false_iff_ne.2 (by omega)
  have k1:(p.kind==1)=false:=beq_eq_false_iff_ne.2 (by omega)
  have k2:(p.kind==2)=false:=beq_eq_false_iff_ne.2 (by omega)
  have k3:(p.kind==3)=false:=beq_eq_false_iff_ne.2 (by omega)
  have k4:(p.kind==4)=false:=beq_eq_false_iff_ne.2 (by omega)
  have k5:(p.kind==5)=false:=beq_eq_false_iff_ne.2 (by omega)
  have k6:(p.kind==6)=false:=beq_eq_false_iff_ne.2 (by omega)
  have k7:(p.kind==7)=true:=beq_iff_eq.2 hc
  have k8:(p.kind==8)=false:=beq_eq_false_iff_ne.2 (by omega)
  have k9:(p.kind==9)=false:=beq_eq_false_iff_ne.2 (by omega)
  have k10:(p.kind==10)=false:=beq_eq_false_iff_ne.2 (by omega)
  have k11:(p.kind==11)=false:=beq_eq_false_iff_ne.2 (by omega)
  have k12:(p.kind==12)=false:=beq_eq_false_iff_ne.2 (by omega)
  have k13:(p.kind==13)=false:=beq_eq_false_iff_ne.2 (by omega)
  have k14:(p.kind==14)=false:=beq_eq_false_iff_ne.2 (by omega)
  have m0:(p.kind != 0)=true:=by rw [bne,k0];rfl
  have m14:(p.kind != 14)=true:=by rw [bne,k14];rfl
  (sym=>simp [hw,htg,hb,ht,hu,hli,hna,hop,hR,k0,k1,k2,k3,k4,k5,k6,k7,k8,k9,k10,k11,k12,k13,k14,m0,m14,Um,Un,Uo,Up,szP,szN,M2,M4,M3,M5,M1,M0,lV,lY,pQ,Mj.eq_def,La.eq_def,Nt.eq_def,oK,Zb,Zc,Zd,Ze,Zf,Zg,Zh,Zi,Zj,Zk,Zl,Zm,Zo,Zp,Zq,Zs,Zt,Zu,Zv,Zx,Z6,Qb,Qd,Qf,Qg,Qh,Qn,Qo,Qp,Qq,Qr,Qs,Qt,Qu,Qv,Qw,Qx,Qy,Qz,Q1,Q8,Ja,Jb,Jc,Jd,Je,Jf,Jj,Jq,Jr,Js,Jt,Jv,Jw,Jy,Jz,J2,J6,J7,Xb,Xd,Xi,Xj,Xk,Xl,Xm,Xn,Xq,Xr,Xs,Xt,Xu,Xv,Xw,Xx,Xy,X2,X3,X4,X5,X6,X7,X8,X9,Wb,Wc,Wd,Wf,Wg,Wh,Wi,Wj,Wl,Wm,Wn,Wo,Wp,Wt,Wv,Ww,Wx,Wz,W0,W6,Yd,Yn,Yo,Yr,Ys,Yt,Yu,Yv,Yw,Yy,Y0,Y1,Y3,Y9,Va,Vj,Vk,Vl,Vn,Vy,Vz,V0,V1,V2,V3,V4,V5,V6,V8,Ui,Ep,U5,Kh,K6,K1,Gd];tactic =>
   try simp only [Uq] at *;try simp only [nc2] at *
   try simp (maxSteps:=4000000) only [hw,htg,hb,ht,hu,hli,hna,hop,hR,k0,k1,k2,k3,k4,k5,k6,k7,k8,k9,k10,k11,k12,k13,k14,m0,m14,Um,Un,Uo,Up,szP,szN,U6]
   repeat' first|with_reducible assumption|with_reducible apply And.intro|intro _|omega|(rw [Uk];omega)
   all_goals first|with_reducible exact okq|omega|(symm;rw [←hR2];clear hR2 hR hF f1 f2 f3 f4 f5 f6 f7 hn K hw htg hb ht hu hli hna hop k0 k1 k2 k3 k4 k5 k6 k7 k8 k9 k10 k11 k12 k13 k14 m0 m14;unfold Mq;simp_all;done)|(symm;rw [←hR2];clear hR2 hR hF f1 f2 f3 f4 f5 f6 f7 hn K hw htg hb ht hu hli hna hop k0 k1 k2 k3 k4 k5 k6 k7 k8 k9 k10 k11 k12 k13 k14 m0 m14;unfold Mq leB;simp_all;done)|(symm;rw [←hR2];clear hR2 hR hF f1 f2 f3 f4 f5 f6 f7 hn K hw htg hb ht hu hli hna hop k0 k1 k2 k3 k4 k5 k6 k7 k8 k9 k10 k11 k12 k13 k14 m0 m14;unfold Mq leB;simp_all;omega)|skip)
 have c7:=hc
 clear hc
 by_cases hc:p.kind=8
 ·have k0:(p.kind==0)=false:=beq_eq_false_iff_ne.2 (by omega)
  have k1:(p.kind==1)=false:=beq_eq_false_iff_ne.2 (by omega)
  have k2:(p.kind==2)=false:=beq_eq_false_iff_ne.2 (by omega)
  have k3:(p.kind==3)=false:=beq_eq_false_iff_ne.2 (by omega)
  have k4:(p.kind==4)=false:=beq_eq_false_iff_ne.2 (by omega)
  have k5:(p.kind==5)=false:=beq_eq_false_iff_ne.2 (by omega)
  have k6:(p.kind==6)=false:=beq_eq_false_iff_ne.2 (by omega)
  have k7:(p.kind==7)=false:=beq_eq_false_iff_ne.2 (by omega)
  have k8:(p.kind==8)=true:=beq_iff_eq.2 hc
  have k9:(p.kind==9)=false:=beq_eq_false_iff_ne.2 (by omega)
  have k10:(p.kind==10)=false:=beq_eq_false_iff_ne.2 (by omega)
  have k11:(p.kind==11)=false:=beq_eq_false_iff_ne.2 (by omega)
  have k12:(p.kind==12)=false:=beq_eq_false_iff_ne.2 (by omega)
  have k13:(p.kind==13)=false:=beq_eq_false_iff_ne.2 (by omega)
  have k14:(p.kind==14)=false:=beq_eq_false_iff_ne.2 (by omega)
  have m0:(p.kind != 0)=true:=by rw [bne,k0];rfl
  have m14:(p.kind != 14)=true:=by rw [bne,k14];rfl
  (sym=>simp [hw,htg,hb,ht,hu,hli,hna,hop,hR,k0,k1,k2,k3,k4,k5,k6,k7,k8,k9,k10,k11,k12,k13,k14,m0,m14,Um,Un,Uo,Up,szP,szN,M2,M4,M3,M5,M1,M0,lV,lY,pQ,Mj.eq_def,La.eq_def,Nt.eq_def,oK,Zb,Zc,Zd,Ze,Zf,Zg,Zh,Zi,Zj,Zk,Zl,Zm,Zo,Zp,Zq,Zs,Zt,Zu,Zv,Zx,Z6,Qb,Qd,Qf,Qg,Qh,Qn,Qo,Qp,Qq,Qr,Qs,Qt,Qu,Qv,Qw,Qx,Qy,Qz,Q1,Q8,Ja,Jb,Jc,Jd,Je,Jf,Jj,Jq,Jr,Js,Jt,Jv,Jw,Jy,Jz,J2,J6,J7,Xb,Xd,Xi,Xj,Xk,Xl,Xm,Xn,Xq,Xr,Xs,Xt,Xu,Xv,Xw,Xx,Xy,X2,X3,X4,X5,X6,X7,X8,X9,Wb,Wc,Wd,Wf,Wg,Wh,Wi,Wj,Wl,Wm,Wn,Wo,Wp,Wt,Wv,Ww,Wx,Wz,W0,W6,Yd,Yn,Yo,Yr,Ys,Yt,Yu,Yv,Yw,Yy,Y0,Y1,Y3,Y9,Va,Vj,Vk,Vl,Vn,Vy,Vz,V0,V1,V2,V3,V4,V5,V6,V8,Ui,Ep,U5,Kh,K6,K1,Gd];tactic =>
   try simp only [Uq] at *;try simp only [nc2] at *
   try simp (maxSteps:=4000000) only [hw,htg,hb,ht,hu,hli,hna,hop,hR,k0,k1,k2,k3,k4,k5,k6,k7,k8,k9,k10,k11,k12,k13,k14,m0,m14,Um,Un,Uo,Up,szP,szN,U6]
   repeat' first|with_reducible assumption|with_reducible apply And.intro|intro _|omega|(rw [Uk];omega)
   all_goals first|with_reducible exact okq|omega|(symm;rw [←hR2];clear hR2 hR hF f1 f2 f3 f4 f5 f6 f7 hn K hw htg hb ht hu hli hna hop k0 k1 k2 k3 k4 k5 k6 k7 k8 k9 k10 k11 k12 k13 k14 m0 m14;unfold Mq;simp_all;done)|(symm;rw [←hR2];clear hR2 hR hF f1 f2 f3 f4 f5 f6 f7 hn K hw htg hb ht hu hli hna hop k0 k1 k2 k3 k4 k5 k6 k7 k8 k9 k10 k11 k12 k13 k14 m0 m14;unfold Mq leB;simp_all;done)|(symm;rw [←hR2];clear hR2 hR hF f1 f2 f3 f4 f5 f6 f7 hn K hw htg hb ht hu hli hna hop k0 k1 k2 k3 k4 k5 k6 k7 k8 k9 k10 k11 k12 k13 k14 m0 m14;unfold Mq leB;simp_all;omega)|skip)
 have c8:=hc
 clear hc
 by_cases hc:p.kind=9
 ·have k0:(p.kind==0)=false:=beq_eq_false_iff_ne.2 (by omega)
  have k1:(p.kind==1)=false:=beq_eq_false_iff_ne.2 (by omega)
  have k2:(p.kind==2)=false:=beq_eq_false_iff_ne.2 (by omega)
  have k3:(p.kind==3)=false:=beq_eq_false_iff_ne.2 (by omega)
  have k4:(p.kind==4)=false:=beq_eq_false_iff_ne.2 (by omega)
  have k5:(p.kind==5)=false:=beq_eq_false_iff_ne.2 (by omega)
  have k6:(p.kind==6)=false:=beq_eq_false_iff_ne.2 (by omega)
  have k7:(p.kind==7)=false:=beq_eq_false_iff_ne.2 (by omega)
  have k8:(p.kind==8)=false:=beq_eq_false_iff_ne.2 (by omega)
  have k9:(p.kind==9)=true:=beq_iff_eq.2 hc
  have k10:(p.kind==10)=false:=beq_eq_false_iff_ne.2 (by omega)
  have k11:(p.kind==11)=false:=beq_eq_false_iff_ne.2 (by omega)
  have k12:(p.kind==12)=false:=beq_eq_false_iff_ne.2 (by omega)
  have k13:(p.kind==13)=false:=beq_eq_false_iff_ne.2 (by omega)
  have k14:(p.kind==14)=false:=beq_eq_false_iff_ne.2 (by omega)
  have m0:(p.kind != 0)=true:=by rw [bne,k0];rfl
  have m14:(p.kind != 14)=true:=by rw [bne,k14];rfl
  (sym=>simp [hw,htg,hb,ht,hu,hli,hna,hop,hR,k0,k1,k2,k3,k4,k5,k6,k7,k8,k9,k10,k11,k12,k13,k14,m0,m14,Um,Un,Uo,Up,szP,szN,M2,M4,M3,M5,M1,M0,lV,lY,pQ,Mj.eq_def,La.eq_def,Nt.eq_def,oK,Zb,Zc,Zd,Ze,Zf,Zg,Zh,Zi,Zj,Zk,Zl,Zm,Zo,Zp,Zq,Zs,Zt,Zu,Zv,Zx,Z6,Qb,Qd,Qf,Qg,Qh,Qn,Qo,Qp,Qq,Qr,Qs,Qt,Qu,Qv,Qw,Qx,Qy,Qz,Q1,Q8,Ja,Jb,Jc,Jd,Je,Jf,Jj,Jq,Jr,Js,Jt,Jv,Jw,Jy,Jz,J2,J6,J7,Xb,Xd,Xi,Xj,Xk,Xl,Xm,Xn,Xq,Xr,Xs,Xt,Xu,Xv,Xw,Xx,Xy,X2,X3,X4,X5,X6,X7,X8,X9,Wb,Wc,Wd,Wf,Wg,Wh,Wi,Wj,Wl,Wm,Wn,Wo,Wp,Wt,Wv,Ww,Wx,Wz,W0,W6,Yd,Yn,Yo,Yr,Ys,Yt,Yu,Yv,Yw,Yy,Y0,Y1,Y3,Y9,Va,Vj,Vk,Vl,Vn,Vy,Vz,V0,V1,V2,V3,V4,V5,V6,V8,Ui,Ep,U5,Kh,K6,K1,Gd];tactic =>
   try simp only [Uq] at *;try simp only [nc2] at *
   try simp (maxSteps:=4000000) only [hw,htg,hb,ht,hu,hli,hna,hop,hR,k0,k1,k2,k3,k4,k5,k6,k7,k8,k9,k10,k11,k12,k13,k14,m0,m14,Um,Un,Uo,Up,szP,szN,U6]
   repeat' first|with_reducible assumption|with_reducible apply And.intro|intro _|omega|(rw [Uk];omega)
   all_goals first|with_reducible exact okq|omega|(symm;rw [←hR2];clear hR2 hR hF f1 f2 f3 f4 f5 f6 f7 hn K hw htg hb ht hu hli hna hop k0 k1 k2 k3 k4 k5 k6 k7 k8 k9 k10 k11 k12 k13 k14 m0 m14;unfold Mq;simp_all;done)|(symm;rw [←hR2];clear hR2 hR hF f1 f2 f3 f4 f5 f6 f7 hn K hw htg hb ht hu hli hna hop k0 k1 k2 k3 k4 k5 k6 k7 k8 k9 k10 k11 k12 k13 k14 m0 m14;unfold Mq leB;simp_all;done)|(symm;rw [←hR2];clear hR2 hR hF f1 f2 f3 f4 f5 f6 f7 hn K hw htg hb ht hu hli hna hop k0 k1 k2 k3 k4 k5 k6 k7 k8 k9 k10 k11 k12 k13 k14 m0 m14;unfold Mq leB;simp_all;omega)|skip)
 have c9:=hc
 clear hc
 by_cases hc:p.kind=10
 ·have k0:(p.kind==0)=false:=beq_eq_false_iff_ne.2 (by omega)
  have k1:(p.kind==1)=false:=beq_eq_false_iff_ne.2 (by omega)
  have k2:(p.kind==2)=false:=beq_eq_false_iff_ne.2 (by omega)
  have k3:(p.kind==3)=false:=beq_eq_false_iff_ne.2 (by omega)
  have k4:(p.kind==4)=false:=beq_eq_false_iff_ne.2 (by omega)
  have k5:(p.kind==5)=false:=beq_eq_false_iff_ne.2 (by omega)
  have k6:(p.kind==6)=false:=beq_eq_false_iff_ne.2 (by omega)
  have k7:(p.kind==7)=false:=beq_eq_false_iff_ne.2 (by omega)
  have k8:(p.kind==8)=false:=beq_eq_false_iff_ne.2 (by omega)
  have k9:(p.kind==9)=false:=beq_eq_false_iff_ne.2 (by omega)
  have k10:(p.kind==10)=true:=beq_iff_eq.2 hc
  have k11:(p.kind==11)=false:=beq_eq_false_iff_ne.2 (by omega)
  have k12:(p.kind==12)=false:=beq_eq_false_iff_ne.2 (by omega)
  have k13:(p.kind==13)=false:=beq_eq_false_iff_ne.2 (by omega)
  have k14:(p.kind==14)=false:=beq_eq_false_iff_ne.2 (by omega)
  have m0:(p.kind != 0)=true:=by rw [bne,k0];rfl
  have m14:(p.kind != 14)=true:=by rw [bne,k14];rfl
  (sym=>simp [hw,htg,hb,ht,hu,hli,hna,hop,hR,k0,k1,k2,k3,k4,k5,k6,k7,k8,k9,k10,k11,k12,k13,k14,m0,m14,Um,Un,Uo,Up,szP,szN,M2,M4,M3,M5,M1,M0,lV,lY,pQ,Mj.eq_def,La.eq_def,Nt.eq_def,oK,Zb,Zc,Zd,Ze,Zf,Zg,Zh,Zi,Zj,Zk,Zl,Zm,Zo,Zp,Zq,Zs,Zt,Zu,Zv,Zx,Z6,Qb,Qd,Qf,Qg,Qh,Qn,Qo,Qp,Qq,Qr,Qs,Qt,Qu,Qv,Qw,Qx,Qy,Qz,Q1,Q8,Ja,Jb,Jc,Jd,Je,Jf,Jj,Jq,Jr,Js,Jt,Jv,Jw,Jy,Jz,J2,J6,J7,Xb,Xd,Xi,Xj,Xk,Xl,Xm,Xn,Xq,Xr,Xs,Xt,Xu,Xv,Xw,Xx,Xy,X2,X3,X4,X5,X6,X7,X8,X9,Wb,Wc,Wd,Wf,Wg,Wh,Wi,Wj,Wl,Wm,Wn,Wo,Wp,Wt,Wv,Ww,Wx,Wz,W0,W6,Yd,Yn,Yo,Yr,Ys,Yt,Yu,Yv,Yw,Yy,Y0,Y1,Y3,Y9,Va,Vj,Vk,Vl,Vn,Vy,Vz,V0,V1,V2,V3,V4,V5,V6,V8,Ui,Ep,U5,Kh,K6,K1,Gd];tactic =>
   try simp only [Uq] at *;try simp only [nc2] at *
   try simp (maxSteps:=4000000) only [hw,htg,hb,ht,hu,hli,hna,hop,hR,k0,k1,k2,k3,k4,k5,k6,k7,k8,k9,k10,k11,k12,k13,k14,m0,m14,Um,Un,Uo,Up,szP,szN,U6]
   repeat' first|with_reducible assumption|with_reducible apply And.intro|intro _|omega|(rw [Uk];omega)
   all_goals first|with_reducible exact okq|omega|(symm;rw [←hR2];clear hR2 hR hF f1 f2 f3 f4 f5 f6 f7 hn K hw htg hb ht hu hli hna hop k0 k1 k2 k3 k4 k5 k6 k7 k8 k9 k10 k11 k12 k13 k14 m0 m14;unfold Mq;simp_all;done)|(symm;rw [←hR2];clear hR2 hR hF f1 f2 f3 f4 f5 f6 f7 hn K hw htg hb ht hu hli hna hop k0 k1 k2 k3 k4 k5 k6 k7 k8 k9 k10 k11 k12 k13 k14 m0 m14;unfold Mq leB;simp_all;done)|(symm;rw [←hR2];clear hR2 hR hF f1 f2 f3 f4 f5 f6 f7 hn K hw htg hb ht hu hli hna hop k0 k1 k2 k3 k4 k5 k6 k7 k8 k9 k10 k11 k12 k13 k14 m0 m14;unfold Mq leB;simp_all;omega)|skip)
 have c10:=hc
 clear hc
 by_cases hc:p.kind=11
 ·have k0:(p.kind==0)=false:=beq_eq_false_iff_ne.2 (by omega)
  have k1:(p.kind==1)=false:=beq_eq_false_iff_ne.2 (by omega)
  have k2:(p.kind==2)=false:=beq_eq_false_iff_ne.2 (by omega)
  have k3:(p.kind==3)=false:=beq_eq_false_iff_ne.2 (by omega)
  have k4:(p.kind==4)=false:=beq_eq_false_iff_ne.2 (by omega)
  have k5:(p.kind==5)=false:=beq_eq_false_iff_ne.2 (by omega)
  have k6:(p.kind==6)=false:=beq_eq_false_iff_ne.2 (by omega)
  have k7:(p.kind==7)=false:=beq_eq_false_iff_ne.2 (by omega)
  have k8:(p.kind==8)=false:=beq_eq_false_iff_ne.2 (by omega)
  have k9:(p.kind==9)=false:=beq_eq_false_iff_ne.2 (by omega)
  have k10:(p.kind==10)=false:=beq_eq_false_iff_ne.2 (by omega)
  have k11:(p.kind==11)=true:=beq_iff_eq.2 hc
  have k12:(p.kind==12)=false:=beq_eq_false_iff_ne.2 (by omega)
  have k13:(p.kind==13)=false:=beq_eq_false_iff_ne.2 (by omega)
  have k14:(p.kind==14)=false:=beq_eq_false_iff_ne.2 (by omega)
  have m0:(p.kind != 0)=true:=by rw [bne,k0];rfl
  have m14:(p.kind != 14)=true:=by rw [bne,k14];rfl
  (sym=>simp [hw,htg,hb,ht,hu,hli,hna,hop,hR,k0,k1,k2,k3,k4,k5,k6,k7,k8,k9,k10,k11,k12,k13,k14,m0,m14,Um,Un,Uo,Up,szP,szN,M2,M4,M3,M5,M1,M0,lV,lY,pQ,Mj.eq_def,La.eq_def,Nt.eq_def,oK,Zb,Zc,Zd,Ze,Zf,Zg,Zh,Zi,Zj,Zk,Zl,Zm,Zo,Zp,Zq,Zs,Zt,Zu,Zv,Zx,Z6,Qb,Qd,Qf,Qg,Qh,Qn,Qo,Qp,Qq,Qr,Qs,Qt,Qu,Qv,Qw,Qx,Qy,Qz,Q1,Q8,Ja,Jb,Jc,Jd,Je,Jf,Jj,Jq,Jr,Js,Jt,Jv,Jw,Jy,Jz,J2,J6,J7,Xb,Xd,Xi,Xj,Xk,Xl,Xm,Xn,Xq,Xr,Xs,Xt,Xu,Xv,Xw,Xx,Xy,X2,X3,X4,X5,X6,X7,X8,X9,Wb,Wc,Wd,Wf,Wg,Wh,Wi,Wj,Wl,Wm,Wn,Wo,Wp,Wt,Wv,Ww,Wx,Wz,W0,W6,Yd,Yn,Yo,Yr,Ys,Yt,Yu,Yv,Yw,Yy,Y0,Y1,Y3,Y9,Va,Vj,Vk,Vl,Vn,Vy,Vz,V0,V1,V2,V3,V4,V5,V6,V8,Ui,Ep,U5,Kh,K6,K1,Gd];tactic =>
   try simp only [Uq] at *;try simp only [nc2] at *
   try simp (maxSteps:=4000000) only [hw,htg,hb,ht,hu,hli,hna,hop,hR,k0,k1,k2,k3,k4,k5,k6,k7,k8,k9,k10,k11,k12,k13,k14,m0,m14,Um,Un,Uo,Up,szP,szN,U6]
   repeat' first|with_reducible assumption|with_reducible apply And.intro|intro _|omega|(rw [Uk];omega)
   all_goals first|with_reducible exact okq|omega|(symm;rw [←hR2];clear hR2 hR hF f1 f2 f3 f4 f5 f6 f7 hn K hw htg hb ht hu hli hna hop k0 k1 k2 k3 k4 k5 k6 k7 k8 k9 k10 k11 k12 k13 k14 m0 m14;unfold Mq;simp_all;done)|(symm;rw [←hR2];clear hR2 hR hF f1 f2 f3 f4 f5 f6 f7 hn K hw htg hb ht hu hli hna hop k0 k1 k2 k3 k4 k5 k6 k7 k8 k9 k10 k11 k12 k13 k14 m0 m14;unfold Mq leB;simp_all;done)|(symm;rw [←hR2];clear hR2 hR hF f1 f2 f3 f4 f5 f6 f7 hn K hw htg hb ht hu hli hna hop k0 k1 k2 k3 k4 k5 k6 k7 k8 k9 k10 k11 k12 k13 k14 m0 m14;unfold Mq leB;simp_all;omega)|skip)
 have c11:=hc
 clear hc
 by_cases hc:p.kind=12
 ·have k0:(p.kind==0)=false:=beq_eq_false_iff_ne.2 (by omega)
  have k1:(p.kind==1)=false:=beq_eq_false_iff_ne.2 (by omega)
  have k2:(p.kind==2)=false:=beq_eq_false_iff_ne.2 (by omega)
  have k3:(p.kind==3)=false:=beq_eq_false_iff_ne.2 (by omega)
  have k4:(p.kind==4)=false:=beq_eq_false_iff_ne.2 (by omega)
  have k5:(p.kind==5)=false:=beq_eq_false_iff_ne.2 (by omega)
  have k6:(p.kind==6)=false:=beq_eq_false_iff_ne.2 (by omega)
  have k7:(p.kind==7)=false:=beq_eq_false_iff_ne.2 (by omega)
  have k8:(p.kind==8)=false:=beq_eq_false_iff_ne.2 (by omega)
  have k9:(p.kind==9)=false:=beq_eq_false_iff_ne.2 (by omega)
  have k10:(p.kind==10)=false:=beq_eq_false_iff_ne.2 (by omega)
  have k11:(p.kind==11)=false:=beq_eq_false_iff_ne.2 (by omega)
  have k12:(p.kind==12)=true:=beq_iff_eq.2 hc
  have k13:(p.kind==13)=false:=beq_eq_false_iff_ne.2 (by omega)
  have k14:(p.kind==14)=false:=beq_eq_false_iff_ne.2 (by omega)
  have m0:(p.kind != 0)=true:=by rw [bne,k0];rfl
  have m14:(p.kind != 14)=true:=by rw [bne,k14];rfl
  (sym=>simp [hw,htg,hb,ht,hu,hli,hna,hop,hR,k0,k1,k2,k3,k4,k5,k6,k7,k8,k9,k10,k11,k12,k13,k14,m0,m14,Um,Un,Uo,Up,szP,szN,M2,M4,M3,M5,M1,M0,lV,lY,pQ,Mj.eq_def,La.eq_def,Nt.eq_def,oK,Zb,Zc,Zd,Ze,Zf,Zg,Zh,Zi,Zj,Zk,Zl,Zm,Zo,Zp,Zq,Zs,Zt,Zu,Zv,Zx,Z6,Qb,Qd,Qf,Qg,Qh,Qn,Qo,Qp,Qq,Qr,Qs,Qt,Qu,Qv,Qw,Qx,Qy,Qz,Q1,Q8,Ja,Jb,Jc,Jd,Je,Jf,Jj,Jq,Jr,Js,Jt,Jv,Jw,Jy,Jz,J2,J6,J7,Xb,Xd,Xi,Xj,Xk,Xl,Xm,Xn,Xq,Xr,Xs,Xt,Xu,Xv,Xw,Xx,Xy,X2,X3,X4,X5,X6,X7,X8,X9,Wb,Wc,Wd,Wf,Wg,Wh,Wi,Wj,Wl,Wm,Wn,Wo,Wp,Wt,Wv,Ww,Wx,Wz,W0,W6,Yd,Yn,Yo,Yr,Ys,Yt,Yu,Yv,Yw,Yy,Y0,Y1,Y3,Y9,Va,Vj,Vk,Vl,Vn,Vy,Vz,V0,V1,V2,V3,V4,V5,V6,V8,Ui,Ep,U5,Kh,K6,K1,Gd];tactic =>
   try simp only [Uq] at *;try simp only [nc2] at *
   try simp (maxSteps:=4000000) only [hw,htg,hb,ht,hu,hli,hna,hop,hR,k0,k1,k2,k3,k4,k5,k6,k7,k8,k9,k10,k11,k12,k13,k14,m0,m14,Um,Un,Uo,Up,szP,szN,U6]
   repeat' first|with_reducible assumption|with_reducible apply And.intro|intro _|omega|(rw [Uk];omega)
   all_goals first|with_reducible exact okq|omega|(symm;rw [←hR2];clear hR2 hR hF f1 f2 f3 f4 f5 f6 f7 hn K hw htg hb ht hu hli hna hop k0 k1 k2 k3 k4 k5 k6 k7 k8 k9 k10 k11 k12 k13 k14 m0 m14;unfold Mq;simp_all;done)|(symm;rw [←hR2];clear hR2 hR hF f1 f2 f3 f4 f5 f6 f7 hn K hw htg hb ht hu hli hna hop k0 k1 k2 k3 k4 k5 k6 k7 k8 k9 k10 k11 k12 k13 k14 m0 m14;unfold Mq leB;simp_all;done)|(symm;rw [←hR2];clear hR2 hR hF f1 f2 f3 f4 f5 f6 f7 hn K hw htg hb ht hu hli hna hop k0 k1 k2 k3 k4 k5 k6 k7 k8 k9 k10 k11 k12 k13 k14 m0 m14;unfold Mq leB;simp_all;omega)|skip)
 have c12:=hc
 clear hc
 by_cases hc:p.kind=13
 ·have k0:(p.kind==0)=false:=beq_eq_false_iff_ne.2 (by omega)
  have k1:(p.kind==1)=false:=beq_eq_false_iff_ne.2 (by omega)
  have k2:(p.kind==2)=false:=beq_eq_false_iff_ne.2 (by omega)
  have k3:(p.kind==3)=false:=beq_eq_false_iff_ne.2 (by omega)
  have k4:(p.kind==4)=false:=beq_eq_false_iff_ne.2 (by omega)
  have k5:(p.kind==5)=false:=beq_eq_false_iff_ne.2 (by omega)
  have k6:(p.kind==6)=false:=beq_eq_false_iff_ne.2 (by omega)
  have k7:(p.kind==7)=false:=beq_eq_false_iff_ne.2 (by omega)
  have k8:(p.kind==8)=false:=beq_eq_false_iff_ne.2 (by omega)
  have k9:(p.kind==9)=false:=beq_eq_false_iff_ne.2 (by omega)
  have k10:(p.kind==10)=false:=beq_eq_false_iff_ne.2 (by omega)
  have k11:(p.kind==11)=false:=beq_eq_false_iff_ne.2 (by omega)
  have k12:(p.kind==12)=false:=beq_eq_false_iff_ne.2 (by omega)
  have k13:(p.kind==13)=true:=beq_iff_eq.2 hc
  have k14:(p.kind==14)=false:=beq_eq_false_iff_ne.2 (by omega)
  have m0:(p.kind != 0)=true:=by rw [bne,k0];rfl
  have m14:(p.kind != 14)=true:=by rw [bne,k14];rfl
  (sym=>simp [hw,htg,hb,ht,hu,hli,hna,hop,hR,k0,k1,k2,k3,k4,k5,k6,k7,k8,k9,k10,k11,k12,k13,k14,m0,m14,Um,Un,Uo,Up,szP,szN,M2,M4,M3,M5,M1,M0,lV,lY,pQ,Mj.eq_def,La.eq_def,Nt.eq_def,oK,Zb,Zc,Zd,Ze,Zf,Zg,Zh,Zi,Zj,Zk,Zl,Zm,Zo,Zp,Zq,Zs,Zt,Zu,Zv,Zx,Z6,Qb,Qd,Qf,Qg,Qh,Qn,Qo,Qp,Qq,Qr,Qs,Qt,Qu,Qv,Qw,Qx,Qy,Qz,Q1,Q8,Ja,Jb,Jc,Jd,Je,Jf,Jj,Jq,Jr,Js,Jt,Jv,Jw,Jy,Jz,J2,J6,J7,Xb,Xd,Xi,Xj,Xk,Xl,Xm,Xn,Xq,Xr,Xs,Xt,Xu,Xv,Xw,Xx,Xy,X2,X3,X4,X5,X6,X7,X8,X9,Wb,Wc,Wd,Wf,Wg,Wh,Wi,Wj,Wl,Wm,Wn,Wo,Wp,Wt,Wv,Ww,Wx,Wz,W0,W6,Yd,Yn,Yo,Yr,Ys,Yt,Yu,Yv,Yw,Yy,Y0,Y1,Y3,Y9,Va,Vj,Vk,Vl,Vn,Vy,Vz,V0,V1,V2,V3,V4,V5,V6,V8,Ui,Ep,U5,Kh,K6,K1,Gd];tactic =>
   try simp only [Uq] at *;try simp only [nc2] at *
   try simp (maxSteps:=4000000) only [hw,htg,hb,ht,hu,hli,hna,hop,hR,k0,k1,k2,k3,k4,k5,k6,k7,k8,k9,k10,k11,k12,k13,k14,m0,m14,Um,Un,Uo,Up,szP,szN,U6]
   repeat' first|with_reducible assumption|with_reducible apply And.intro|intro _|omega|(rw [Uk];omega)
   all_goals first|with_reducible exact okq|omega|(symm;rw [←hR2];clear hR2 hR hF f1 f2 f3 f4 f5 f6 f7 hn K hw htg hb ht hu hli hna hop k0 k1 k2 k3 k4 k5 k6 k7 k8 k9 k10 k11 k12 k13 k14 m0 m14;unfold Mq;simp_all;done)|(symm;rw [←hR2];clear hR2 hR hF f1 f2 f3 f4 f5 f6 f7 hn K hw htg hb ht hu hli hna hop k0 k1 k2 k3 k4 k5 k6 k7 k8 k9 k10 k11 k12 k13 k14 m0 m14;unfold Mq leB;simp_all;done)|(symm;rw [←hR2];clear hR2 hR hF f1 f2 f3 f4 f5 f6 f7 hn K hw htg hb ht hu hli hna hop k0 k1 k2 k3 k4 k5 k6 k7 k8 k9 k10 k11 k12 k13 k14 m0 m14;unfold Mq leB;simp_all;omega)|skip)
 have c13:=hc
 clear hc
 by_cases hc:p.kind=14
 ·have k0:(p.kind==0)=false:=beq_eq_false_iff_ne.2 (by omega)
  have k1:(p.kind==1)=false:=beq_eq_false_iff_ne.2 (by omega)
  have k2:(p.kind==2)=false:=beq_eq_false_iff_ne.2 (by omega)
  have k3:(p.kind==3)=false:=beq_eq_false_iff_ne.2 (by omega)
  have k4:(p.kind==4)=false:=beq_eq_false_iff_ne.2 (by omega)
  have k5:(p.kind==5)=false:=beq_eq_false_iff_ne.2 (by omega)
  have k6:(p.kind==6)=false:=beq_eq_false_iff_ne.2 (by omega)
  have k7:(p.kind==7)=false:=beq_eq_false_iff_ne.2 (by omega)
  have k8:(p.kind==8)=false:=beq_eq_false_iff_ne.2 (by omega)
  have k9:(p.kind==9)=false:=beq_eq_false_iff_ne.2 (by omega)
  have k10:(p.kind==10)=false:=beq_eq_false_iff_ne.2 (by omega)
  have k11:(p.kind==11)=false:=beq_eq_false_iff_ne.2 (by omega)
  have k12:(p.kind==12)=false:=beq_eq_false_iff_ne.2 (by omega)
  have k13:(p.kind==13)=false:=beq_eq_false_iff_ne.2 (by omega)
  have k14:(p.kind==14)=true:=beq_iff_eq.2 hc
  have m0:(p.kind != 0)=true:=by rw [bne,k0];rfl
  have m14:(p.kind != 14)=false:=by rw [bne,k14];rfl
  (sym=>simp [hw,htg,hb,ht,hu,hli,hna,hop,hR,k0,k1,k2,k3,k4,k5,k6,k7,k8,k9,k10,k11,k12,k13,k14,m0,m14,Um,Un,Uo,Up,szP,szN,M2,M4,M3,M5,M1,M0,lV,lY,pQ,Mj.eq_def,La.eq_def,Nt.eq_def,oK,Zb,Zc,Zd,Ze,Zf,Zg,Zh,Zi,Zj,Zk,Zl,Zm,Zo,Zp,Zq,Zs,Zt,Zu,Zv,Zx,Z6,Qb,Qd,Qf,Qg,Qh,Qn,Qo,Qp,Qq,Qr,Qs,Qt,Qu,Qv,Qw,Qx,Qy,Qz,Q1,Q8,Ja,Jb,Jc,Jd,Je,Jf,Jj,Jq,Jr,Js,Jt,Ju,Jv,Jw,Jx,Jy,Jz,J2,J6,J7,Xb,Xd,Xi,Xj,Xk,Xl,Xm,Xn,Xq,Xr,Xs,Xt,Xu,Xv,Xw,Xx,Xy,X2,X3,X4,X5,X6,X7,X8,X9,Wb,Wc,Wd,Wf,Wg,Wh,Wi,Wj,Wl,Wm,Wn,Wo,Wp,Wt,Wv,Ww,Wx,Wz,W0,W6,Yd,Yn,Yo,Yp,Yq,Yr,Ys,Yt,Yu,Yv,Yw,Yy,Y0,Y1,Y3,Y9,Va,Vj,Vk,Vl,Vn,Vy,Vz,V0,V1,V2,V3,V4,V5,V6,V8,Ui,Ep,U5,Kh,K6,K1,Gd];tactic =>
   try simp only [Uq] at *;try simp only [nc2] at *
   try simp (maxSteps:=4000000) only [hw,htg,hb,ht,hu,hli,hna,hop,hR,k0,k1,k2,k3,k4,k5,k6,k7,k8,k9,k10,k11,k12,k13,k14,m0,m14,Um,Un,Uo,Up,szP,szN,U6]
   repeat' first|with_reducible assumption|with_reducible apply And.intro|intro _|omega|(rw [Uk];omega)
   all_goals first|with_reducible exact okq|omega|(symm;rw [←hR2];clear hR2 hR hF f1 f2 f3 f4 f5 f6 f7 hn K hw htg hb ht hu hli hna hop k0 k1 k2 k3 k4 k5 k6 k7 k8 k9 k10 k11 k12 k13 k14 m0 m14;unfold Mq;simp_all;done)|(symm;rw [←hR2];clear hR2 hR hF f1 f2 f3 f4 f5 f6 f7 hn K hw htg hb ht hu hli hna hop k0 k1 k2 k3 k4 k5 k6 k7 k8 k9 k10 k11 k12 k13 k14 m0 m14;unfold Mq leB;simp_all;done)|(symm;rw [←hR2];clear hR2 hR hF f1 f2 f3 f4 f5 f6 f7 hn K hw htg hb ht hu hli hna hop k0 k1 k2 k3 k4 k5 k6 k7 k8 k9 k10 k11 k12 k13 k14 m0 m14;unfold Mq leB;simp_all;omega)|skip)
 have c14:=hc
 clear hc
 have k0:(p.kind==0)=false:=beq_eq_false_iff_ne.2 (by omega)
 have k1:(p.kind==1)=false:=beq_eq_false_iff_ne.2 (by omega)
 have k2:(p.kind==2)=false:=beq_eq_false_iff_ne.2 (by omega)
 have k3:(p.kind==3)=false:=beq_eq_false_iff_ne.2 (by omega)
 have k4:(p.kind==4)=false:=beq_eq_false_iff_ne.2 (by omega)
 have k5:(p.kind==5)=false:=beq_eq_false_iff_ne.2 (by omega)
 have k6:(p.kind==6)=false:=beq_eq_false_iff_ne.2 (by omega)
 have k7:(p.kind==7)=false:=beq_eq_false_iff_ne.2 (by omega)
 have k8:(p.kind==8)=false:=beq_eq_false_iff_ne.2 (by omega)
 have k9:(p.kind==9)=false:=beq_eq_false_iff_ne.2 (by omega)
 have k10:(p.kind==10)=false:=beq_eq_false_iff_ne.2 (by omega)
 have k11:(p.kind==11)=false:=beq_eq_false_iff_ne.2 (by omega)
 have k12:(p.kind==12)=false:=beq_eq_false_iff_ne.2 (by omega)
 have k13:(p.kind==13)=false:=beq_eq_false_iff_ne.2 (by omega)
 have k14:(p.kind==14)=false:=beq_eq_false_iff_ne.2 (by omega)
 have m0:(p.kind != 0)=true:=by rw [bne,k0];rfl
 have m14:(p.kind != 14)=true:=by rw [bne,k14];rfl
 (sym=>simp [hw,htg,hb,ht,hu,hli,hna,hop,hR,k0,k1,k2,k3,k4,k5,k6,k7,k8,k9,k10,k11,k12,k13,k14,m0,m14,Um,Un,Uo,Up,szP,szN,M2,M4,M3,M5,M1,M0,lV,lY,pQ,Mj.eq_def,La.eq_def,Nt.eq_def,oK,Zb,Zc,Zd,Ze,Zf,Zg,Zh,Zi,Zj,Zk,Zl,Zm,Zo,Zp,Zq,Zs,Zt,Zu,Zv,Zx,Z6,Qb,Qd,Qf,Qg,Qh,Qn,Qo,Qp,Qq,Qr,Qs,Qt,Qu,Qv,Qw,Qx,Qy,Qz,Q1,Q8,Ja,Jb,Jc,Jd,Je,Jf,Jj,Jq,Jr,Js,Jt,Jv,Jw,Jy,Jz,J2,J6,J7,Xb,Xd,Xi,Xj,Xk,Xl,Xm,Xn,Xq,Xr,Xs,Xt,Xu,Xv,Xw,Xx,Xy,X2,X3,X4,X5,X6,X7,X8,X9,Wb,Wc,Wd,Wf,Wg,Wh,Wi,Wj,Wl,Wm,Wn,Wo,Wp,Wt,Wv,Ww,Wx,Wz,W0,W6,Yd,Yn,Yo,Yr,Ys,Yt,Yu,Yv,Yw,Yy,Y0,Y1,Y3,Y9,Va,Vj,Vk,Vl,Vn,Vy,Vz,V0,V1,V2,V3,V4,V5,V6,V8,Ui,Ep,U5,Kh,K6,K1,Gd];tactic =>
  try simp only [Uq] at *;try simp only [nc2] at *
  try simp (maxSteps:=4000000) only [hw,htg,hb,ht,hu,hli,hna,hop,hR,k0,k1,k2,k3,k4,k5,k6,k7,k8,k9,k10,k11,k12,k13,k14,m0,m14,Um,Un,Uo,Up,szP,szN,U6]
  repeat' first|with_reducible assumption|with_reducible apply And.intro|intro _|omega|(rw [Uk];omega)
  all_goals first|with_reducible exact okq|omega|(symm;rw [←hR2];clear hR2 hR hF f1 f2 f3 f4 f5 f6 f7 hn K hw htg hb ht hu hli hna hop k0 k1 k2 k3 k4 k5 k6 k7 k8 k9 k10 k11 k12 k13 k14 m0 m14;unfold Mq;simp_all;done)|(symm;rw [←hR2];clear hR2 hR hF f1 f2 f3 f4 f5 f6 f7 hn K hw htg hb ht hu hli hna hop k0 k1 k2 k3 k4 k5 k6 k7 k8 k9 k10 k11 k12 k13 k14 m0 m14;unfold Mq leB;simp_all;done)|(symm;rw [←hR2];clear hR2 hR hF f1 f2 f3 f4 f5 f6 f7 hn K hw htg hb ht hu hli hna hop k0 k1 k2 k3 k4 k5 k6 k7 k8 k9 k10 k11 k12 k13 k14 m0 m14;unfold Mq leB;simp_all;omega)|skip)
def shal5:List Part→List Int→Bool
 | [],_=>true
 | n::l,rs=>if 100≤rs.length then false else shal5 l (popA (Cf n) rs)
def shallow5 (t:List Part):Bool:=shal5 t []
def OpenOk5 (rs:List Int):Prop:=(∀ x∈rs,0≤x∧x≤60)∧∀ x∈rs.tail,1≤x
def Sm:Con:=L9 (fun (t:Sl Part)=>Tame5 t.l) (fun t=>shallow5 t.l)
noncomputable def Ct:Ctx:=⟨tab,lkC [(52,Hu)],60,lkB [],[39],false⟩
theorem S4:Ct.τ=tab:=rfl
theorem ctx_shallow5_c:Ct.Γ=lkC [(52,Hu)]:=rfl
theorem Dv:Ct.dp=60:=rfl
theorem ctx_shallow5_b:Ct.Δ=lkB []:=rfl
theorem Rj:Ct.cuts=[39]:=rfl
theorem Ri:Ct.wr=false:=rfl
set_option maxRecDepth 100000 in
theorem good_shallow5:Hg Try.prog (36,Sm):=by
 refine ⟨Ke Try.func36 (by kernel_rfl) rfl,?_⟩
 have K:Gu Try.prog Ct:=Ko G7 Kw (by
  intro p hp
  simp only [bQ,bZ,or_false] at hp
  rcases hp with rfl
  ·exact good_Many5) (by simp)
 obtain ⟨c,hc⟩:∃ c,Try.f36.body=some c:=⟨_,rfl⟩
 refine Kn K Try.func36 hc [.tmp 2] rfl 51 rfl (fun cvs hpre=>?_)
 change Sm.pre cvs at hpre
 unfold Sm at hpre
 obtain ⟨⟨t⟩,rfl,⟨ht,hm⟩⟩:=Mt hpre
 simp only at ht hm
 simp only [Try.f36,aZ] at hc
 subst hc
 refine Gf 3 (of_decide_eq_true (by kernel_rfl)) ?_
 (sym=>simp [Um,Un,Uo,Up,szP,S4,Sm.eq_def,Zb,Zc,Ze,Zf,Zo,Zr,Z1,Qs,Qu,Qv,Qw,Qx,Q4,Q5,Q6,Q7,Q9,Ja,Jb,Jj,Jq,Jr,Js,Jt,Jv,Jy,J0,J6,J7,Xd,Xj,Xl,Xn,Xo,Xr,Xu,Xw,Xx,Xy,X1,X6,X7,X8,X9,Wc,Wf,Wg,Wi,Wj,Wl,Wo,Wp,Yd,Yn,Yo,Yr,Ys,Yt,Yu,Yv,Yw,Yz,Y9,Va,Vj,Vk,V0,V1,V5,V6,U5,Gq,Gp,Gd];tactic =>
  try simp only [Uq] at *;try simp only [nc2] at *
  try simp (maxSteps:=4000000) only [Um,Un,Uo,Up,szP,U6]
  refine Kk [2,6,7,8,9,10,11,12,13,14,15,16,17,18,19,20,21,22,23,24,25,26,27,28,29,30,31,32,33,34,35,36,37,38,39,40,41,42,43,44,45,46,47,48,49,50] (fun p:Nat×List Int=>[(3,.sl 5 (p.2.reverse.map enc).length),(4,.d (.int .i64 p.1)),(5,.dead)]) (fun p:Nat×List Int=>[(5,.row 1 (p.2.reverse.map enc) 0)]) (fun p:Nat×List Int=>p.1≤t.length∧p.2.length≤101∧(∀ x∈p.2,1≤x∧x≤60)∧shal5 (t.drop p.1) p.2=shallow5 t) (fun p:Nat×List Int=>t.length-p.1) (0,[]) ?_ ?_ ?_
  ·exact ⟨Nat.zero_le _,by simp,by simp,rfl⟩
  ·exact wkq
  rintro ⟨k,rs⟩ ⟨h1,h2,h3,h4⟩
  simp only at h1 h2 h3 h4
  rcases Kt k t.length with ⟨hlt,hlb⟩|⟨hlt,hlb⟩
  ·have hmk3:=(hm (t.getD k e0) (by simp [hlt])).2.2
   have hmk:0≤Cf (t.getD k e0)∧Cf (t.getD k e0)≤60:=⟨(hm (t.getD k e0) (by simp [hlt])).1,(hm (t.getD k e0) (by simp [hlt])).2.1⟩
   have e1:shal5 (t.drop k) rs=if 100≤rs.length then false else shal5 (t.drop (k+1)) (popA (Cf (t.getD k e0)) rs):=by
    rw [List.drop_eq_getElem_cons hlt,shal5]
    simp [hlt]
   have zz1:=K7 (e0:Part) hlt
   (sym=>simp [hlb,zz1,List.length_reverse,Um,Un,Uo,Up,szP,S4,ctx_shallow5_c,Dv,ctx_shallow5_b,oW,Zb,Zc,Ze,Zf,Zg,Zo,Zp,Zq,Zr,Zv,Zy,Z1,Z4,Z5,Z6,Qb,Qd,Qf,Qg,Qh,Qp,Qq,Qr,Qs,Qu,Qv,Qw,Qx,Q1,Q4,Q5,Q6,Q7,Q8,Q9,Ja,Jb,Jc,Jd,Je,Jl,Jm,Jn,Js,Jt,Jv,Jw,Jx,Jy,Jz,J0,J1,J2,J8,Xd,Xi,Xj,Xl,Xm,Xn,Xo,Xq,Xr,Xu,Xw,Xx,Xy,Xz,X1,X6,X7,X8,X9,Wb,Wd,Wf,Wg,Wh,Wi,Wj,Wl,Wo,Wp,Wr,Wt,Wx,W1,W2,Yc,Yf,Yg,Yn,Yo,Yp,Yq,Y7,Y9,Va,Vi,Vj,Vk,Vo,Vy,V0,V1,V2,V3,V5,V6,Ui,U5,Gq,Gp,Gd];tactic =>
    try simp only [Uq] at *;try simp only [nc2] at *
    try simp (maxSteps:=4000000) only [hlb,zz1,List.length_reverse,Um,Un,Uo,Up,szP,U6]
    revert e1 hmk
    generalize Cf (t.getD k e0)=M
    intro hmk e1
    repeat' first|with_reducible assumption|with_reducible apply And.intro|intro _|omega|(rw [Uk];omega)
    ·rw [if_pos (by omega)] at e1
     rw [←h4,e1]
    ·rw [if_neg (by omega)] at e1
     have e2:rs.reverse++[M]=(M::rs).reverse:=by simp
     have hS:∀ (q:List Int),q≠[]→((q.length:Nat):Int)-1=((q.length-1:Nat):Int):=by
      intro q hq
      have:=List.length_pos_iff.2 hq
      omega
     refine Kk [23,24,25,26,27,28,29,30,31,32,33,34,35,36,37,38,39,40,41,42,43,44,45,46,47,48,49,50] (fun q:List Int=>[(3,.sl 5 (q.reverse.map enc).length),(5,.dead),(12,.dead),(15,.dead),(22,.dead)]) (fun q:List Int=>[(5,.row 1 (q.reverse.map enc) 0)]) (fun q:List Int=>OpenOk5 q∧q.length≤101∧popL q=popA M rs) (fun q:List Int=>q.length) (M::rs) ?_ ?_ ?_
     ·refine ⟨⟨fun x hx=>?_,fun x hx=>(h3 x hx).1⟩,by simp only [bJ];omega,rfl⟩
      rcases List.mem_cons.1 hx with rfl|hx
      ·exact hmk
      ·have:=h3 x hx;omega
     ·exact wkq
     rintro q ⟨⟨g1,g2⟩,g3,g4⟩
     cases q with
     | nil =>
      have hz:ltB 0 ((0:Nat):Int)=false:=rfl
      (sym=>simp [List.length_reverse,List.reverse_nil,hz,Um,Un,Uo,Up,szP,S4,Dv,Rj,Ri,Zb,Zc,Zd,Ze,Zf,Zg,Zo,Zp,Zq,Zt,Zv,Zw,Zy,Z6,Qd,Qf,Qs,Qu,Qv,Qw,Qx,Ja,Jb,Jf,Jg,Jh,Ji,Jl,Jm,Jn,Jo,Jp,Js,Jt,Ju,Jv,Jw,Jx,Jy,Jz,J2,Xi,Xj,Xl,Xm,Xn,Xp,Xr,Xu,Xw,Xx,Xy,X6,X7,X8,X9,Wi,Wl,Wm,Wn,Wo,Wp,Wq,Wr,Wt,Wx,W1,W2,W7,Yn,Yo,Yp,Yq,Y9,Vg,Vj,Vk,Vy,Vz,V0,V1,V2,V3,V5,V6,Ui,Uj,U5,Gq,Gp,Gd];tactic =>
       try simp only [Uq] at *;try simp only [nc2] at *
       try simp (maxSteps:=4000000) only [List.length_reverse,List.reverse_nil,hz,Um,Un,Uo,Up,szP,U6]
       repeat' first|with_reducible assumption|with_reducible apply And.intro|intro _|omega|(rw [Uk];omega)
       simp only [popL] at g4
       exact ⟨(k+1,[]),wkq,by simp only;omega,by simp,by simp,by simp only;rw [←h4,e1,g4],by simp only;omega⟩)
     | cons x r =>
      have hz:ltB 0 ((r.length+1:Nat):Int)=true:=by rw [Hf];omega
      have hy:((r.length+1:Nat):Int)-1=(r.length:Int):=by omega
      have hx1:=g1 x (by simp)
      have hlt':el (List.map enc (x::r).reverse) r.length=.int .i64 x:=rev_last
      have htk:List.take r.length (List.map (enc:Int→D) (x::r).reverse)=List.map enc r.reverse:=rev_take
      simp only [bJ] at g3
      by_cases hx0:x=0
      ·subst hx0
       cases r with
       | nil =>
        have hz1:ltB 0 ((0:Nat):Int)=false:=rfl
        simp only [List.length_nil] at hz hy hlt' htk
        (sym=>simp [List.length_reverse,hz,hy,hlt',htk,hz1,List.reverse_nil,Um,Un,Uo,Up,szP,S4,Dv,Rj,Ri,Zb,Zc,Zd,Ze,Zf,Zg,Zo,Zp,Zq,Zt,Zv,Zw,Zy,Z6,Qd,Qf,Qs,Qu,Qv,Qw,Qx,Ja,Jb,Jf,Jg,Jh,Ji,Jl,Jm,Jn,Jo,Jp,Js,Jt,Ju,Jv,Jw,Jx,Jy,Jz,J2,Xi,Xj,Xl,Xm,Xn,Xp,Xr,Xu,Xw,Xx,Xy,X6,X7,X8,X9,Wj,Wl,Wm,Wn,Wo,Wp,Wq,Wr,Wt,Wx,W1,W2,W7,Yn,Yo,Yp,Yq,Yu,Y8,Y9,Vg,Vh,Vj,Vk,Vy,Vz,V0,V1,V2,V3,V5,V6,Ui,Uj,U5,Gq,Gp,Gd];tactic =>
         try simp only [Uq] at *;try simp only [nc2] at *
         try simp (maxSteps:=4000000) only [List.length_reverse,hz,hy,hlt',htk,hz1,List.reverse_nil,Um,Un,Uo,Up,szP,U6]
         repeat' first|with_reducible assumption|with_reducible apply And.intro|intro _|omega|(rw [Uk];omega)
         exact ⟨[],wkq,⟨by simp,by simp⟩,by simp,by rw [←g4];rfl,by simp⟩)
       | cons y r =>
        have hy1:=g2 y (by simp)
        have hy2:=g1 y (by simp)
        have hz2:ltB 0 ((r.length+1:Nat):Int)=true:=by rw [Hf];omega
        have hy3:((r.length+1:Nat):Int)-1=(r.length:Int):=by omega
        have hl2:el (List.map enc (y::r).reverse) r.length=.int .i64 y:=rev_last
        simp only [bJ] at hz hy hlt' htk g3
        (sym=>simp [List.length_reverse,hz,hy,hlt',htk,hz2,hy3,hl2,rev_set,Um,Un,Uo,Up,szP,S4,Dv,Rj,Ri,Zb,Zc,Zd,Ze,Zf,Zg,Zo,Zp,Zq,Zt,Zv,Zw,Zy,Z6,Qd,Qf,Qs,Qu,Qv,Qw,Qx,Ja,Jb,Jf,Jg,Jh,Ji,Jl,Jm,Jn,Jo,Jp,Js,Jt,Ju,Jv,Jw,Jx,Jy,Jz,J2,Xi,Xj,Xl,Xm,Xn,Xr,Xu,Xw,Xx,Xy,X6,X7,X8,X9,Wj,Wm,Wn,Wo,Wp,Wq,Wr,Wt,Wx,W1,W2,W7,Yn,Yo,Yp,Yq,Y7,Y9,Ve,Vg,Vj,Vk,Vy,Vz,V0,V1,V2,V3,V5,V6,Ui,Uj,U5,Gq,Gp,Gd];tactic =>
         try simp only [Uq] at *;try simp only [nc2] at *
         try simp (maxSteps:=4000000) only [List.length_reverse,hz,hy,hlt',htk,hz2,hy3,hl2,rev_set,Um,Un,Uo,Up,szP,U6]
         repeat' first|with_reducible assumption|with_reducible apply And.intro|intro _|omega|(rw [Uk];omega)
         refine ⟨(y-1)::r,wkq,⟨fun z hz=>?_,fun z hz=>g2 z (List.mem_cons_of_mem _ hz)⟩,by simp only [bJ];omega,by rw [←g4];simp only [popL,popA,if_true],by simp only [bJ];omega⟩
         rcases List.mem_cons.1 hz with rfl|hz
         ·omega
         ·exact g1 z (List.mem_cons_of_mem _ (List.mem_cons_of_mem _ hz)))
      ·have hxb:(x==(0:Int))=false:=by simpa using hx0
       (sym=>simp [List.length_reverse,hz,hy,hlt',hxb,Um,Un,Uo,Up,szP,S4,Rj,Ri,Zb,Zc,Zd,Ze,Zf,Zg,Zo,Zp,Zq,Zt,Zv,Zy,Z6,Qd,Qf,Qs,Qu,Qv,Qw,Qx,Ja,Jb,Jf,Jl,Jm,Jn,Js,Jt,Jv,Jw,Jx,Jy,Jz,Xj,Xl,Xm,Xp,Xr,Xu,Xw,Xx,Xy,X6,X7,X8,X9,Wj,Wm,Wn,Wo,Wp,Wr,Wt,Wx,W1,W7,Yn,Yo,Yp,Yq,Y7,Y9,Vj,Vk,Vy,Vz,V0,V1,V2,V3,V5,V6,Ui,U5,Gq,Gp,Gd];tactic =>
        try simp only [Uq] at *;try simp only [nc2] at *
        try simp (maxSteps:=4000000) only [List.length_reverse,hz,hy,hlt',hxb,Um,Un,Uo,Up,szP,U6]
        repeat' first|with_reducible assumption|with_reducible apply And.intro|intro _|omega|(rw [Uk];omega)
        have e3:popA M rs=x::r:=by rw [←g4];exact popA_stop hx0
        refine ⟨(k+1,x::r),wkq,by simp only;omega,by simp only [bJ];omega,fun z hz=>?_,by simp only;rw [←h4,e1,e3],by simp only;omega⟩
        rcases List.mem_cons.1 hz with rfl|hz
        ·omega
        ·exact ⟨g2 z hz,(g1 z (List.mem_cons_of_mem _ hz)).2⟩))
  ·(sym=>simp [hlb,Um,Un,Uo,Up,szP,S4,Dv,Zb,Zc,Ze,Zf,Zg,Zo,Z6,Qd,Qf,Qp,Qq,Qr,Qs,Qu,Qv,Qw,Qx,Q1,Jb,Jd,Jl,Jm,Jn,Js,Jt,Jv,Jx,Jy,Jz,J2,Xj,Xl,Xm,Xp,Xq,Xr,Xu,Xw,Xx,Xy,X6,X7,X8,X9,Wo,Wp,Wr,Wt,Wx,Yf,Yg,Yn,Yo,Yp,Yq,Y9,Va,Vk,Vz,V0,V1,V2,V3,V5,V6,U5,Gq,Gp,Gd];tactic =>
    try simp only [Uq] at *;try simp only [nc2] at *
    try simp (maxSteps:=4000000) only [hlb,Um,Un,Uo,Up,szP,U6]
    rw [←h4,List.drop_eq_nil_of_le hlt]
    rfl))
def Nx (t:List Part) (l:List Int) (k:Nat):Part:=t.getD (l.getD k 0).toNat e0
def dupAt5 (t:List Part) (l:List Int) (x:Part) (k:Nat):Bool:=(List.range k).any fun j=>!(x.label==[])&&((Nx t l j).label==x.label)
def labB5 (p x:Part) (br:Bool):Bool:=((x.kind==8)==br)&&!((br&&!A7 x.label)||(((p.kind==10)&&!Lf x.label)||((!br&&!(p.kind==10))&&!(x.label==[]))))
def labAt5 (t:List Part) (p:Part) (l:List Int) (k:Nat):Bool:=labB5 p (Nx t l k) ((p.kind==7)&&ltB 0 k)&&!dupAt5 t l (Nx t l k) k
def lab5 (t:List Part) (i:Nat):Bool:=(((kids5 t i).length:Int)==Cf (t.getD i e0))&&(List.range (kids5 t i).length).all fun k=>labAt5 t (t.getD i e0) (kids5 t i) k
theorem kidsFrom5_in (t:List Part):∀ (m q:Nat),∀ x∈Le t m q,(q:Int)≤x∧x<t.length
 | 0,q,x,hx=>by simp [Le] at hx
 | m+1,q,x,hx=>by
  unfold Le at hx
  split at hx
  ·rcases List.mem_cons.1 hx with rfl|hx
   ·omega
   ·have:=kidsFrom5_in t m _ x hx
    omega
  ·cases hx
theorem kids5_in {t:List Part} {i:Nat}:∀ x∈kids5 t i,(i:Int)<x∧x<t.length:=by
 intro x hx
 unfold kids5 at hx
 split at hx
 ·cases hx
 ·have:=kidsFrom5_in t _ _ x hx
  omega
theorem kidsFrom5_len (t:List Part):∀ (m q:Nat),(Le t m q).length≤m
 | 0,q=>by simp [Le]
 | m+1,q=>by
  unfold Le
  split
  ·simp only [bJ]
   have:=kidsFrom5_len t m (q+eat5 (t.drop q) 1)
   omega
  ·simp
def Lab5 (t:List Part):Prop:=∀ n∈t,n.label.length≤9223372036854775807
theorem any_false {p:Nat→Bool} {l:List Nat} (h:∀ m∈l,p m=false):l.any p=false:=by
 rw [List.any_eq_false]
 intro x hx
 rw [h x hx]
 simp
def Bi:Con:=Ms (fun (t:Sl Part) (i:Int)=>Tame5 t.l∧Lab5 t.l∧0≤i∧i<t.l.length) (fun t i=>lab5 t.l i.toNat)
noncomputable def Tv:Ctx:=⟨tab,lkC [(40,Kj),(42,Kd),(52,Hu),(53,Mz)],60,lkB [],[],false⟩
theorem Gx:Tv.τ=tab:=rfl
theorem H3:Tv.Γ=lkC [(40,Kj),(42,Kd),(52,Hu),(53,Mz)]:=rfl
theorem N7:Tv.dp=60:=rfl
theorem H4:Tv.Δ=lkB []:=rfl
theorem P2:Tv.cuts=[]:=rfl
theorem Nh:Tv.wr=false:=rfl
set_option maxRecDepth 100000 in
theorem good_labelled5:Hg Try.prog (37,Bi):=by
 refine ⟨Ke Try.func37 (by kernel_rfl) rfl,?_⟩
 have K:Gu Try.prog Tv:=Ko G7 Kw (by
  intro p hp
  simp only [bQ,bZ,or_false] at hp
  rcases hp with rfl|rfl|rfl|rfl
  ·exact Fx
  ·exact Cr
  ·exact good_Many5
  ·exact good_Kids5) (by simp)
 obtain ⟨c,hc⟩:∃ c,Try.f37.body=some c:=⟨_,rfl⟩
 refine Kn K Try.func37 hc [.tmp 4] rfl 106 rfl (fun cvs hpre=>?_)
 change Bi.pre cvs at hpre
 unfold Bi at hpre
 obtain ⟨⟨t⟩,i,rfl,hT,hN,hi0,hi1⟩:=Bb hpre
 simp only at hT hN hi0 hi1
 clear hpre
 obtain ⟨i,rfl⟩:∃ n:Nat,i=n:=⟨i.toNat,by omega⟩
 have hil:i<t.length:=by omega
 have hlen:=hT.1
 obtain ⟨R,hR⟩:∃ R,lab5 t i=R:=⟨_,rfl⟩
 have hR2:=hR
 unfold lab5 at hR2
 obtain ⟨l,hl⟩:∃ l,kids5 t i=l:=⟨_,rfl⟩
 have hin:∀ x∈l,(i:Int)<x∧x<t.length:=by rw [←hl];exact kids5_in
 have q0:=K7 e0 hil
 have hpi:=hT.2 (t.getD i e0) (by simp [hil])
 have hll:l.length≤100000:=by
  rw [←hl]
  unfold kids5
  split
  ·simp
  ·have h1:=kidsFrom5_len t (Cf (t.getD (Int.toNat i) e0)).toNat ((Int.toNat i)+1)
   have h2:=hpi.2.1
   simp only [aX] at h1 ⊢
   omega
 rw [hl] at hR2
 obtain ⟨p,hp⟩:∃ p,t.getD i e0=p:=⟨_,rfl⟩
 rw [hp] at hR2 q0 hpi
 have hpm:=hpi.2.2
 cases hmm:((l.length:Int)==Cf p) with
 | false =>
  rw [hmm,Bool.false_and] at hR2
  subst hR2
  have hmn:((l.length:Int) != Cf p)=true:=by rw [bne,hmm];rfl
  simp only [Try.f37,aZ] at hc
  subst hc
  refine Gf 6 (of_decide_eq_true (by kernel_rfl)) ?_
  (sym=>simp [hl,q0,hmn,hR,aX,Um,Un,Uo,Up,szP,Gx,H3,N7,H4,P2,lV,lY,Mz.eq_def,oW,Bi.eq_def,Zb,Zc,Ze,Zf,Zo,Zp,Zq,Zv,Zy,Z6,Qb,Qd,Qf,Qg,Qh,Qp,Qq,Qr,Qs,Qu,Qv,Qw,Qx,Q1,Q8,Jc,Jd,Je,Jf,Jj,Jq,Jr,Js,Jt,Jv,Jw,Jy,Jz,J2,J6,J7,J8,Xd,Xe,Xj,Xl,Xm,Xq,Xr,Xu,Xw,Xx,Xy,X6,X7,X8,X9,Wb,Wc,Wd,Wf,Wj,Wl,Wo,Wp,Wt,Wx,W1,Yc,Yd,Yf,Yg,Yj,Yn,Yo,Yr,Ys,Yt,Yu,Yv,Yw,Yx,Yz,Y2,Y4,Y9,Va,Vk,Vy,Vz,V0,V1,V2,V3,V5,V6,Ui,U5,K9,Kh,Gq,Gp,Gd];tactic =>
   try simp only [Uq] at *;try simp only [nc2] at *
   try simp (maxSteps:=4000000) only [hl,q0,hmn,hR,aX,Um,Un,Uo,Up,szP,U6]
   repeat' first|with_reducible assumption|with_reducible apply And.intro|intro _|omega|(rw [Uk];omega)
   all_goals first|assumption|omega|rfl|skip)
 | true =>
 rw [hmm,Bool.true_and] at hR2
 have hmn:((l.length:Int) != Cf p)=false:=by rw [bne,hmm];rfl
 simp only [Try.f37,aZ] at hc
 subst hc
 refine Gf 6 (of_decide_eq_true (by kernel_rfl)) ?_
 (sym=>simp [hl,q0,hmn,Um,Un,Uo,Up,szP,Gx,H3,N7,H4,P2,lV,lY,Mz.eq_def,oW,Bi.eq_def,Zb,Zc,Ze,Zf,Zo,Zp,Zq,Zv,Zy,Z6,Qb,Qd,Qf,Qg,Qh,Qs,Qu,Qv,Qw,Qx,Q1,Q8,Jc,Je,Jf,Jj,Jq,Jr,Js,Jt,Jv,Jw,Jy,Jz,J2,J6,J7,J8,Xd,Xe,Xi,Xj,Xl,Xm,Xn,Xo,Xr,Xu,Xw,Xx,Xy,X6,X7,X8,X9,Wb,Wc,Wd,Wf,Wj,Wl,Wo,Wp,Wt,Wx,W1,Yc,Yd,Yf,Yg,Yj,Yn,Yo,Yr,Ys,Yt,Yu,Yv,Yw,Yx,Yz,Y2,Y4,Y7,Y9,Va,Vj,Vk,Vz,V0,V1,V2,V3,V5,V6,Ui,U5,K9,Kh,Gq,Gp,Gd];tactic =>
  try simp only [Uq] at *;try simp only [nc2] at *
  try simp (maxSteps:=4000000) only [hl,q0,hmn,Um,Un,Uo,Up,szP,U6]
  repeat' first|with_reducible assumption|with_reducible apply And.intro|intro _|omega|(rw [Uk];omega)
  all_goals try assumption
  refine Kk [4,7,8,9,10,22,23,24,25,26,27,28,29,30,31,32,33,34,35,36,37,38,39,40,41,42,43,44,45,46,47,48,49,50,51,52,53,54,55,56,57,58,59,60,61,62,63,64,65,66,67,68,69,70,71,72,73,74,75,76,77,78,79,80,81,82,83,84,85,86,87,88,89,90,91,92,93,94,95,96,97,98,99,100,101,102,103,104,105] (fun k:Nat=>[(6,.d (.int .i64 k))]) (fun k:Nat=>[]) (fun k:Nat=>k≤l.length∧∀ j,j<k→labAt5 t p l j=true) (fun k:Nat=>l.length-k) 0 ?_ ?_ ?_
  ·simp
  ·exact wkq
  rintro k ⟨hk,hno⟩
  rcases Kt k l.length with ⟨hlt,hlb⟩|⟨hlt,hlb⟩
  ·have hki:=hin (l.getD k 0) (by simp [hlt])
   have hkt:(l.getD k 0).toNat<t.length:=by omega
   have hkn:(Nx t l k).label.length≤9223372036854775807:=hN (Nx t l k) (by
    show t.getD _ e0∈t
    rw [aY,aK hkt]
    exact List.getElem_mem hkt)
   have hyes:labAt5 t p l k=true→∀ j,j<k+1→labAt5 t p l j=true:=fun h=>A1 hno h
   have hbad:labAt5 t p l k=false→R=false:=by
    intro h
    rw [←hR2,Bool.eq_false_iff]
    intro hc
    rw [List.all_eq_true] at hc
    have:=hc k (List.mem_range.2 hlt)
    rw [h] at this
    cases this
   obtain ⟨Q,hQ⟩:∃ Q,(∀ j,j<k+1→labAt5 t p l j=true)=Q:=⟨_,rfl⟩
   rw [hQ] at hyes
   unfold labAt5 at hyes hbad
   have q1:=K7 (0:Int) hlt
   have q2:=K7 e0 hkt
   change el _ _=enc (Nx t l k) at q2
   obtain ⟨v,hv⟩:∃ v,l.getD k 0=v:=⟨_,rfl⟩
   rw [hv] at q1 q2 hki hkt
   obtain ⟨v,rfl⟩:∃ n:Nat,v=n:=⟨v.toNat,by omega⟩
   rw [aX] at q2 hkt
   obtain ⟨x,hx⟩:∃ x,Nx t l k=x:=⟨_,rfl⟩
   rw [hx] at hkn hyes hbad q2
   unfold labB5 at hyes hbad
   obtain ⟨kb,hkb⟩:∃ b,ltB 0 (k:Int)=b:=⟨_,rfl⟩
   rw [hkb] at hyes hbad
   obtain ⟨a7,h7⟩:∃ b,(p.kind==7)=b:=⟨_,rfl⟩
   obtain ⟨a10,h10⟩:∃ b,(p.kind==10)=b:=⟨_,rfl⟩
   obtain ⟨a8,h8⟩:∃ b,(x.kind==8)=b:=⟨_,rfl⟩
   obtain ⟨tg,htg⟩:∃ b,A7 x.label=b:=⟨_,rfl⟩
   obtain ⟨w,hw⟩:∃ b,Lf x.label=b:=⟨_,rfl⟩
   obtain ⟨le,hle⟩:∃ b,(x.label==[])=b:=⟨_,rfl⟩
   rw [h7,h10,h8,htg,hw,hle] at hyes hbad
   have hE:a7=true→a10=false:=fun e=>by rw [←h7,cQ] at e;rw [←h10,e];rfl
   cases hA:((a8==(a7&&kb))&&!(((a7&&kb)&&!tg)||((a10&&!w)||((!(a7&&kb)&&!a10)&&!le)))) with
   | false =>
    have hr:=hbad (by rw [hA,Bool.false_and])
    subst hr
    clear hbad hyes
    (sym=>simp [hlb,hl,q0,q1,q2,hkb,h7,h10,h8,htg,hw,hle,hR,Um,Un,Uo,Up,szP,Gx,H3,N7,H4,P2,lV,lY,Mz.eq_def,oW,Zb,Zc,Zd,Ze,Zf,Zg,Zo,Zp,Zq,Zs,Zt,Zu,Zv,Zw,Zx,Zy,Z6,Qb,Qd,Qe,Qf,Qg,Qh,Qm,Qn,Qo,Qp,Qq,Qr,Qs,Qu,Qv,Qw,Qx,Q1,Q8,Ja,Jb,Jc,Jd,Je,Jf,Jl,Jm,Jn,Js,Jt,Jv,Jw,Jx,Jy,Jz,J2,J8,Xa,Xb,Xd,Xe,Xi,Xj,Xl,Xm,Xn,Xo,Xq,Xr,Xu,Xw,Xx,Xy,X0,X6,X7,X8,X9,Wb,Wd,Wf,Wg,Wh,Wi,Wj,Wl,Wm,Wn,Wo,Wp,Wr,Wt,Wu,Wv,Wx,Wy,Wz,W1,W6,W7,Yb,Yc,Yd,Yf,Yg,Yj,Yn,Yo,Yp,Yq,Ys,Yu,Yv,Yw,Yy,Y3,Y6,Y7,Y9,Va,Vj,Vk,Vl,Vn,Vy,Vz,V0,V1,V2,V3,V4,V5,V6,Ui,Uj,U5,K9,Kh,Gq,Gp,Gd];tactic =>
     try simp only [Uq] at *;try simp only [nc2] at *
     try simp (maxSteps:=4000000) only [hlb,hl,q0,q1,q2,hkb,h7,h10,h8,htg,hw,hle,hR,Um,Un,Uo,Up,szP,U6]
     repeat' first|with_reducible assumption|with_reducible apply And.intro|intro _|omega|(rw [Uk];omega)
     all_goals first|with_reducible exact okq|omega|assumption|trivial|rfl|(exfalso;clear hE hno hR hR2 hin hT hN q0 q1 q2 K hki hkt;simp_all;done)|(exfalso;clear hno hR hR2 hin hT hN q0 q1 q2 K hki hkt;simp_all;done)|skip)
   | true =>
    rw [hA,Bool.true_and,Bool.not_eq_true'] at hyes
    rw [hA,Bool.true_and,Bool.not_eq_false'] at hbad
    unfold dupAt5 at hyes hbad
    rw [hle] at hyes hbad
    have hpath:(a7=true∧kb=true∧a10=false∧a8=true∧tg=true)∨(a7=false∧a10=true∧a8=false∧w=true)∨(a7=false∧a10=false∧a8=false∧le=true)∨(a7=true∧kb=false∧a10=false∧a8=false∧le=true):=by
     clear hbad hyes hno hR hR2 hin hT hN q0 q1 q2 h7 h10 h8 htg hw hle hkb
     revert hA hE
     cases a7<;>cases kb<;>cases a10<;>cases a8<;>cases tg<;>cases w<;>cases le<;>simp
    clear hA hE
    rcases hpath with ⟨rfl,rfl,rfl,rfl,rfl⟩|⟨rfl,rfl,rfl,rfl⟩|⟨rfl,rfl,rfl,rfl⟩|⟨rfl,rfl,rfl,rfl,rfl⟩
    ·cases le with
     | true =>
      (sym=>simp [hlb,hl,q0,q1,q2,hkb,h7,h10,h8,htg,hw,hle,Um,Un,Uo,Up,szP,Gx,H3,N7,H4,P2,lV,lY,Mz.eq_def,oW,Zb,Zc,Zd,Ze,Zf,Zg,Zo,Zp,Zq,Zs,Zt,Zu,Zv,Zw,Zx,Zy,Z6,Qb,Qd,Qe,Qf,Qg,Qh,Qm,Qn,Qo,Qp,Qq,Qr,Qs,Qu,Qv,Qw,Qx,Q1,Q8,Ja,Jb,Jc,Jd,Je,Jf,Jl,Jm,Jn,Js,Jt,Jv,Jw,Jx,Jy,Jz,J2,J8,Xa,Xb,Xd,Xe,Xi,Xj,Xl,Xm,Xn,Xo,Xq,Xr,Xu,Xw,Xx,Xy,X0,X6,X7,X8,X9,Wb,Wd,Wf,Wh,Wi,Wj,Wl,Wm,Wn,Wo,Wp,Wr,Wt,Wu,Wx,Wy,W1,W6,W7,Yb,Yc,Yd,Yf,Yg,Yj,Yn,Yo,Yp,Yq,Ys,Yu,Yv,Yw,Yy,Y3,Y5,Y7,Y9,Va,Vj,Vk,Vy,Vz,V0,V1,V2,V3,V4,V5,V6,Ui,Uj,U5,K9,Kh,Gq,Gp,Gd];tactic =>
       try simp only [Uq] at *;try simp only [nc2] at *
       try simp (maxSteps:=4000000) only [hlb,hl,q0,q1,q2,hkb,h7,h10,h8,htg,hw,hle,Um,Un,Uo,Up,szP,U6]
       repeat' first|with_reducible assumption|with_reducible apply And.intro|intro _|omega|(rw [Uk];omega)
       all_goals first|with_reducible exact okq|omega|assumption|skip
       refine Kk [4,85,86,87,88,89,90,91,92,93,94,95,96,97,98,99,100,101,102,103,104,105] (fun j:Nat=>[(10,.d (.int .i64 j))]) (fun j:Nat=>[]) (fun j:Nat=>j≤k∧∀ m,m<j→(!true&&((Nx t l m).label==x.label))=false) (fun j:Nat=>k-j) 0 ?_ ?_ ?_
       ·simp
       ·exact wkq
       rintro j ⟨hj,hnj⟩
       rcases Kt j k with ⟨hjl,hjb⟩|⟨hjl,hjb⟩
       ·have hsj:(!true&&((Nx t l j).label==x.label))=false→∀ m,m<j+1→(!true&&((Nx t l m).label==x.label))=false:=fun h=>A1 hnj h
        have hbj:(!true&&((Nx t l j).label==x.label))=true→R=false:=fun h=>hbad (by rw [List.any_eq_true];exact ⟨j,List.mem_range.2 hjl,h⟩)
        have hjlt:j<l.length:=by omega
        have hji:=hin (l.getD j 0) (by simp [hjlt])
        have hjt:(l.getD j 0).toNat<t.length:=by omega
        have r1:=K7 (0:Int) hjlt
        have r2:=K7 e0 hjt
        change el _ _=enc (Nx t l j) at r2
        obtain ⟨u,hu⟩:∃ v,l.getD j 0=v:=⟨_,rfl⟩
        rw [hu] at r1 r2 hji hjt
        obtain ⟨u,rfl⟩:∃ n:Nat,u=n:=⟨u.toNat,by omega⟩
        rw [aX] at r2 hjt
        obtain ⟨y,hy⟩:∃ y,Nx t l j=y:=⟨_,rfl⟩
        rw [hy] at r2 hsj hbj
        obtain ⟨ee,hee⟩:∃ b,(y.label==x.label)=b:=⟨_,rfl⟩
        rw [hee] at hsj hbj
        (sym=>simp [hjb,hl,r1,r2,hle,hee,Um,Un,Uo,Up,szP,Gx,H3,H4,Nh,lV,lY,Mz.eq_def,oW,Zb,Zc,Zd,Ze,Zf,Zg,Zh,Zi,Zj,Zk,Zl,Zm,Zp,Zq,Zs,Zt,Zv,Zx,Qd,Qf,Qo,Qs,Qt,Qu,Qv,Qw,Qx,Qy,Qz,Ja,Jl,Jm,Jn,Js,Jt,Ju,Jv,Jw,Jx,Jy,Jz,Xd,Xe,Xi,Xj,Xk,Xl,Xm,Xn,Xr,Xs,Xt,Xu,Xv,Xw,Xx,X2,X6,X7,X8,X9,Wg,Wh,Wi,Wj,Wl,Wm,Wn,Wo,Wp,Wr,Wt,Wv,Wx,Wz,Yn,Yo,Yp,Yq,Y5,Y9,Vj,Vk,Vl,Vn,Vq,Vy,Vz,V0,V1,V4,V5,V6,V8,Ui,U5,K9,Kh,Gq,Gp,Gd];tactic =>
         try simp only [Uq] at *;try simp only [nc2] at *
         try simp (maxSteps:=4000000) only [hjb,hl,r1,r2,hle,hee,Um,Un,Uo,Up,szP,U6]
         repeat' first|with_reducible assumption|with_reducible apply And.intro|intro _|omega|(rw [Uk];omega)
         all_goals first|with_reducible exact okq|omega|exact ⟨j+1,wkq,by omega,by omega⟩|skip)
       ·have hs:=hyes (any_false fun m hm=>hnj m (by have:=List.mem_range.1 hm;omega))
        (sym=>simp [hjb,Um,Un,Uo,Up,szP,Gx,Nh,Zb,Zc,Ze,Zf,Zg,Qd,Qf,Qs,Qu,Qv,Qw,Qx,Jl,Jm,Jn,Js,Jt,Jv,Jw,Jx,Jy,Jz,Xj,Xl,Xm,Xp,Xr,Xu,Xw,Xx,X6,X7,X8,X9,Wo,Wp,Wr,Wt,Wx,Yn,Yo,Yp,Yq,Y5,Y9,Vj,Vq,Vz,V0,V1,V5,V6,U5,K9,Kh,Gq,Gp,Gd];tactic =>
         try simp only [Uq] at *;try simp only [nc2] at *
         try simp (maxSteps:=4000000) only [hjb,Um,Un,Uo,Up,szP,U6]
         repeat' first|with_reducible assumption|with_reducible apply And.intro|intro _|omega|(rw [Uk];omega)
         all_goals first|with_reducible exact okq|omega|exact ⟨k+1,wkq,by omega,Eq.mpr hQ hs,by omega⟩|skip))
     | false =>
      (sym=>simp [hlb,hl,q0,q1,q2,hkb,h7,h10,h8,htg,hw,hle,Um,Un,Uo,Up,szP,Gx,H3,N7,H4,P2,lV,lY,Mz.eq_def,oW,Zb,Zc,Zd,Ze,Zf,Zg,Zo,Zp,Zq,Zs,Zt,Zu,Zv,Zw,Zx,Zy,Z6,Qb,Qd,Qe,Qf,Qg,Qh,Qm,Qn,Qo,Qp,Qq,Qr,Qs,Qu,Qv,Qw,Qx,Q1,Q8,Ja,Jb,Jc,Jd,Je,Jf,Jl,Jm,Jn,Js,Jt,Jv,Jw,Jx,Jy,Jz,J2,J8,Xa,Xb,Xd,Xe,Xi,Xj,Xl,Xm,Xn,Xo,Xq,Xr,Xu,Xw,Xx,Xy,X0,X6,X7,X8,X9,Wb,Wd,Wf,Wh,Wi,Wj,Wl,Wm,Wn,Wo,Wp,Wr,Wt,Wu,Wx,Wy,W1,W6,W7,Yb,Yc,Yd,Yf,Yg,Yj,Yn,Yo,Yp,Yq,Ys,Yu,Yv,Yw,Yy,Y3,Y5,Y7,Y9,Va,Vj,Vk,Vy,Vz,V0,V1,V2,V3,V4,V5,V6,Ui,Uj,U5,K9,Kh,Gq,Gp,Gd];tactic =>
       try simp only [Uq] at *;try simp only [nc2] at *
       try simp (maxSteps:=4000000) only [hlb,hl,q0,q1,q2,hkb,h7,h10,h8,htg,hw,hle,Um,Un,Uo,Up,szP,U6]
       repeat' first|with_reducible assumption|with_reducible apply And.intro|intro _|omega|(rw [Uk];omega)
       all_goals first|with_reducible exact okq|omega|assumption|skip
       refine Kk [4,85,86,87,88,89,90,91,92,93,94,95,96,97,98,99,100,101,102,103,104,105] (fun j:Nat=>[(10,.d (.int .i64 j))]) (fun j:Nat=>[]) (fun j:Nat=>j≤k∧∀ m,m<j→(!false&&((Nx t l m).label==x.label))=false) (fun j:Nat=>k-j) 0 ?_ ?_ ?_
       ·simp
       ·exact wkq
       rintro j ⟨hj,hnj⟩
       rcases Kt j k with ⟨hjl,hjb⟩|⟨hjl,hjb⟩
       ·have hsj:(!false&&((Nx t l j).label==x.label))=false→∀ m,m<j+1→(!false&&((Nx t l m).label==x.label))=false:=fun h=>A1 hnj h
        have hbj:(!false&&((Nx t l j).label==x.label))=true→R=false:=fun h=>hbad (by rw [List.any_eq_true];exact ⟨j,List.mem_range.2 hjl,h⟩)
        have hjlt:j<l.length:=by omega
        have hji:=hin (l.getD j 0) (by simp [hjlt])
        have hjt:(l.getD j 0).toNat<t.length:=by omega
        have r1:=K7 (0:Int) hjlt
        have r2:=K7 e0 hjt
        change el _ _=enc (Nx t l j) at r2
        obtain ⟨u,hu⟩:∃ v,l.getD j 0=v:=⟨_,rfl⟩
        rw [hu] at r1 r2 hji hjt
        obtain ⟨u,rfl⟩:∃ n:Nat,u=n:=⟨u.toNat,by omega⟩
        rw [aX] at r2 hjt
        obtain ⟨y,hy⟩:∃ y,Nx t l j=y:=⟨_,rfl⟩
        rw [hy] at r2 hsj hbj
        obtain ⟨ee,hee⟩:∃ b,(y.label==x.label)=b:=⟨_,rfl⟩
        rw [hee] at hsj hbj
        cases ee with
        | true =>
         have hr:=hbj rfl
         subst hr
         (sym=>simp [hjb,hl,r1,r2,hle,hee,hR,Um,Un,Uo,Up,szP,Gx,H3,N7,H4,Nh,lV,lY,Mz.eq_def,oW,Zb,Zc,Zd,Ze,Zf,Zg,Zh,Zi,Zj,Zk,Zl,Zm,Zo,Zp,Zq,Zs,Zt,Zv,Zx,Zy,Qd,Qf,Qo,Qp,Qq,Qr,Qs,Qt,Qu,Qv,Qw,Qx,Qy,Qz,Q1,Ja,Jd,Jl,Jm,Jn,Js,Jt,Ju,Jv,Jw,Jx,Jy,Jz,J2,Xd,Xe,Xi,Xj,Xk,Xl,Xm,Xn,Xq,Xr,Xs,Xt,Xu,Xv,Xw,Xx,Xy,X2,X6,X7,X8,X9,Wg,Wh,Wi,Wj,Wl,Wm,Wn,Wo,Wp,Wr,Wt,Wv,Wx,Wz,W1,W7,W9,Yb,Yc,Yf,Yg,Yj,Yn,Yo,Yp,Yq,Y6,Y7,Y9,Va,Vk,Vl,Vn,Vp,Vy,Vz,V0,V1,V2,V3,V4,V5,V6,V8,Ui,U5,K9,Kh,Gq,Gp,Gd];tactic =>
          try simp only [Uq] at *;try simp only [nc2] at *
          try simp (maxSteps:=4000000) only [hjb,hl,r1,r2,hle,hee,hR,Um,Un,Uo,Up,szP,U6]
          repeat' first|with_reducible assumption|with_reducible apply And.intro|intro _|omega|(rw [Uk];omega)
          all_goals first|with_reducible exact okq|omega|rfl|skip)
        | false =>
         have h2:=hsj rfl
         (sym=>simp [hjb,hl,r1,r2,hle,hee,Um,Un,Uo,Up,szP,Gx,H3,H4,Nh,lV,lY,Mz.eq_def,oW,Zb,Zc,Zd,Ze,Zf,Zg,Zh,Zi,Zj,Zk,Zl,Zm,Zo,Zp,Zq,Zs,Zt,Zv,Zx,Zy,Qd,Qf,Qo,Qs,Qt,Qu,Qv,Qw,Qx,Qy,Qz,Ja,Jl,Jm,Jn,Js,Jt,Ju,Jv,Jw,Jx,Jy,Jz,Xd,Xe,Xi,Xj,Xk,Xl,Xm,Xn,Xr,Xs,Xt,Xu,Xv,Xw,Xx,Xy,X2,X6,X7,X8,X9,Wg,Wh,Wi,Wj,Wl,Wm,Wn,Wo,Wp,Wr,Wt,Wv,Wx,Wz,W1,W7,W9,Yb,Yc,Yf,Yg,Yj,Yn,Yo,Yp,Yq,Y6,Y7,Y9,Va,Vj,Vk,Vl,Vn,Vp,Vy,Vz,V0,V1,V2,V3,V4,V5,V6,V8,Ui,U5,K9,Kh,Gq,Gp,Gd];tactic =>
          try simp only [Uq] at *;try simp only [nc2] at *
          try simp (maxSteps:=4000000) only [hjb,hl,r1,r2,hle,hee,Um,Un,Uo,Up,szP,U6]
          repeat' first|with_reducible assumption|with_reducible apply And.intro|intro _|omega|(rw [Uk];omega)
          all_goals first|with_reducible exact okq|omega|exact ⟨j+1,wkq,by omega,fun m hm=>by simpa using h2 m hm,by omega⟩|skip)
       ·have hs:=hyes (any_false fun m hm=>hnj m (by have:=List.mem_range.1 hm;omega))
        (sym=>simp [hjb,Um,Un,Uo,Up,szP,Gx,Nh,Zb,Zc,Ze,Zf,Zg,Qd,Qf,Qs,Qu,Qv,Qw,Qx,Jl,Jm,Jn,Js,Jt,Jv,Jw,Jx,Jy,Jz,Xj,Xl,Xm,Xp,Xr,Xu,Xw,Xx,X6,X7,X8,X9,Wo,Wp,Wr,Wt,Wx,Yn,Yo,Yp,Yq,Y6,Y9,Vj,Vp,Vz,V0,V1,V2,V5,V6,U5,K9,Kh,Gq,Gp,Gd];tactic =>
         try simp only [Uq] at *;try simp only [nc2] at *
         try simp (maxSteps:=4000000) only [hjb,Um,Un,Uo,Up,szP,U6]
         repeat' first|with_reducible assumption|with_reducible apply And.intro|intro _|omega|(rw [Uk];omega)
         all_goals first|with_reducible exact okq|omega|exact ⟨k+1,wkq,by omega,Eq.mpr hQ hs,by omega⟩|skip))
    ·cases le with
     | true =>
      (sym=>simp [hlb,hl,q0,q1,q2,hkb,h7,h10,h8,htg,hw,hle,Um,Un,Uo,Up,szP,Gx,H3,N7,H4,P2,lV,lY,Mz.eq_def,oW,Zb,Zc,Zd,Ze,Zf,Zg,Zo,Zp,Zq,Zs,Zt,Zu,Zv,Zw,Zx,Zy,Z6,Qb,Qd,Qe,Qf,Qg,Qh,Qm,Qn,Qo,Qp,Qq,Qr,Qs,Qu,Qv,Qw,Qx,Q1,Q8,Ja,Jb,Jc,Jd,Je,Jf,Jl,Jm,Jn,Js,Jt,Jv,Jw,Jx,Jy,Jz,J2,J8,Xa,Xb,Xd,Xe,Xi,Xj,Xl,Xm,Xn,Xo,Xq,Xr,Xu,Xw,Xx,Xy,X0,X6,X7,X8,X9,Wb,Wd,Wf,Wh,Wi,Wj,Wl,Wm,Wn,Wo,Wp,Wr,Wt,Wu,Wx,Wy,W1,W6,W7,Yb,Yc,Yd,Yf,Yg,Yj,Yn,Yo,Yp,Yq,Ys,Yu,Yv,Yw,Yy,Y3,Y5,Y6,Y7,Y9,Va,Vj,Vk,Vy,Vz,V0,V1,V2,V3,V4,V5,V6,Ui,Uj,U5,K9,Kh,Gq,Gp,Gd];tactic =>
       try simp only [Uq] at *;try simp only [nc2] at *
       try simp (maxSteps:=4000000) only [hlb,hl,q0,q1,q2,hkb,h7,h10,h8,htg,hw,hle,Um,Un,Uo,Up,szP,U6]
       repeat' first|with_reducible assumption|with_reducible apply And.intro|intro _|omega|(rw [Uk];omega)
       all_goals first|with_reducible exact okq|omega|assumption|skip
       refine Kk [4,85,86,87,88,89,90,91,92,93,94,95,96,97,98,99,100,101,102,103,104,105] (fun j:Nat=>[(10,.d (.int .i64 j))]) (fun j:Nat=>[]) (fun j:Nat=>j≤k∧∀ m,m<j→(!true&&((Nx t l m).label==x.label))=false) (fun j:Nat=>k-j) 0 ?_ ?_ ?_
       ·simp
       ·exact wkq
       rintro j ⟨hj,hnj⟩
       rcases Kt j k with ⟨hjl,hjb⟩|⟨hjl,hjb⟩
       ·have hsj:(!true&&((Nx t l j).label==x.label))=false→∀ m,m<j+1→(!true&&((Nx t l m).label==x.label))=false:=fun h=>A1 hnj h
        have hbj:(!true&&((Nx t l j).label==x.label))=true→R=false:=fun h=>hbad (by rw [List.any_eq_true];exact ⟨j,List.mem_range.2 hjl,h⟩)
        have hjlt:j<l.length:=by omega
        have hji:=hin (l.getD j 0) (by simp [hjlt])
        have hjt:(l.getD j 0).toNat<t.length:=by omega
        have r1:=K7 (0:Int) hjlt
        have r2:=K7 e0 hjt
        change el _ _=enc (Nx t l j) at r2
        obtain ⟨u,hu⟩:∃ v,l.getD j 0=v:=⟨_,rfl⟩
        rw [hu] at r1 r2 hji hjt
        obtain ⟨u,rfl⟩:∃ n:Nat,u=n:=⟨u.toNat,by omega⟩
        rw [aX] at r2 hjt
        obtain ⟨y,hy⟩:∃ y,Nx t l j=y:=⟨_,rfl⟩
        rw [hy] at r2 hsj hbj
        obtain ⟨ee,hee⟩:∃ b,(y.label==x.label)=b:=⟨_,rfl⟩
        rw [hee] at hsj hbj
        (sym=>simp [hjb,hl,r1,r2,hle,hee,Um,Un,Uo,Up,szP,Gx,H3,H4,Nh,lV,lY,Mz.eq_def,oW,Zb,Zc,Zd,Ze,Zf,Zg,Zh,Zi,Zj,Zk,Zl,Zm,Zp,Zq,Zs,Zt,Zv,Zx,Qd,Qf,Qo,Qs,Qt,Qu,Qv,Qw,Qx,Qy,Qz,Ja,Jl,Jm,Jn,Js,Jt,Ju,Jv,Jw,Jx,Jy,Jz,Xd,Xe,Xi,Xj,Xk,Xl,Xm,Xn,Xr,Xs,Xt,Xu,Xv,Xw,Xx,X2,X6,X7,X8,X9,Wg,Wh,Wi,Wj,Wl,Wm,Wn,Wo,Wp,Wr,Wt,Wv,Wx,Wz,Yn,Yo,Yp,Yq,Y5,Y9,Vj,Vk,Vl,Vn,Vq,Vy,Vz,V0,V1,V4,V5,V6,V8,Ui,U5,K9,Kh,Gq,Gp,Gd];tactic =>
         try simp only [Uq] at *;try simp only [nc2] at *
         try simp (maxSteps:=4000000) only [hjb,hl,r1,r2,hle,hee,Um,Un,Uo,Up,szP,U6]
         repeat' first|with_reducible assumption|with_reducible apply And.intro|intro _|omega|(rw [Uk];omega)
         all_goals first|with_reducible exact okq|omega|exact ⟨j+1,wkq,by omega,by omega⟩|skip)
       ·have hs:=hyes (any_false fun m hm=>hnj m (by have:=List.mem_range.1 hm;omega))
        (sym=>simp [hjb,Um,Un,Uo,Up,szP,Gx,Nh,Zb,Zc,Ze,Zf,Zg,Qd,Qf,Qs,Qu,Qv,Qw,Qx,Jl,Jm,Jn,Js,Jt,Jv,Jw,Jx,Jy,Jz,Xj,Xl,Xm,Xp,Xr,Xu,Xw,Xx,X6,X7,X8,X9,Wo,Wp,Wr,Wt,Wx,Yn,Yo,Yp,Yq,Y5,Y9,Vj,Vq,Vz,V0,V1,V5,V6,U5,K9,Kh,Gq,Gp,Gd];tactic =>
         try simp only [Uq] at *;try simp only [nc2] at *
         try simp (maxSteps:=4000000) only [hjb,Um,Un,Uo,Up,szP,U6]
         repeat' first|with_reducible assumption|with_reducible apply And.intro|intro _|omega|(rw [Uk];omega)
         all_goals first|with_reducible exact okq|omega|exact ⟨k+1,wkq,by omega,Eq.mpr hQ hs,by omega⟩|skip))
     | false =>
      (sym=>simp [hlb,hl,q0,q1,q2,hkb,h7,h10,h8,htg,hw,hle,Um,Un,Uo,Up,szP,Gx,H3,N7,H4,P2,lV,lY,Mz.eq_def,oW,Zb,Zc,Zd,Ze,Zf,Zg,Zo,Zp,Zq,Zs,Zt,Zu,Zv,Zw,Zx,Zy,Z6,Qb,Qd,Qe,Qf,Qg,Qh,Qm,Qn,Qo,Qp,Qq,Qr,Qs,Qu,Qv,Qw,Qx,Q1,Q8,Ja,Jb,Jc,Jd,Je,Jf,Jl,Jm,Jn,Js,Jt,Jv,Jw,Jx,Jy,Jz,J2,J8,Xa,Xb,Xd,Xe,Xi,Xj,Xl,Xm,Xn,Xo,Xq,Xr,Xu,Xw,Xx,Xy,X0,X6,X7,X8,X9,Wb,Wd,Wf,Wh,Wi,Wj,Wl,Wm,Wn,Wo,Wp,Wr,Wt,Wu,Wx,Wy,W1,W6,W7,Yb,Yc,Yd,Yf,Yg,Yj,Yn,Yo,Yp,Yq,Ys,Yu,Yv,Yw,Yy,Y3,Y5,Y6,Y7,Y9,Va,Vj,Vk,Vy,Vz,V0,V1,V2,V3,V4,V5,V6,Ui,Uj,U5,K9,Kh,Gq,Gp,Gd];tactic =>
       try simp only [Uq] at *;try simp only [nc2] at *
       try simp (maxSteps:=4000000) only [hlb,hl,q0,q1,q2,hkb,h7,h10,h8,htg,hw,hle,Um,Un,Uo,Up,szP,U6]
       repeat' first|with_reducible assumption|with_reducible apply And.intro|intro _|omega|(rw [Uk];omega)
       all_goals first|with_reducible exact okq|omega|assumption|skip
       refine Kk [4,85,86,87,88,89,90,91,92,93,94,95,96,97,98,99,100,101,102,103,104,105] (fun j:Nat=>[(10,.d (.int .i64 j))]) (fun j:Nat=>[]) (fun j:Nat=>j≤k∧∀ m,m<j→(!false&&((Nx t l m).label==x.label))=false) (fun j:Nat=>k-j) 0 ?_ ?_ ?_
       ·simp
       ·exact wkq
       rintro j ⟨hj,hnj⟩
       rcases Kt j k with ⟨hjl,hjb⟩|⟨hjl,hjb⟩
       ·have hsj:(!false&&((Nx t l j).label==x.label))=false→∀ m,m<j+1→(!false&&((Nx t l m).label==x.label))=false:=fun h=>A1 hnj h
        have hbj:(!false&&((Nx t l j).label==x.label))=true→R=false:=fun h=>hbad (by rw [List.any_eq_true];exact ⟨j,List.mem_range.2 hjl,h⟩)
        have hjlt:j<l.length:=by omega
        have hji:=hin (l.getD j 0) (by simp [hjlt])
        have hjt:(l.getD j 0).toNat<t.length:=by omega
        have r1:=K7 (0:Int) hjlt
        have r2:=K7 e0 hjt
        change el _ _=enc (Nx t l j) at r2
        obtain ⟨u,hu⟩:∃ v,l.getD j 0=v:=⟨_,rfl⟩
        rw [hu] at r1 r2 hji hjt
        obtain ⟨u,rfl⟩:∃ n:Nat,u=n:=⟨u.toNat,by omega⟩
        rw [aX] at r2 hjt
        obtain ⟨y,hy⟩:∃ y,Nx t l j=y:=⟨_,rfl⟩
        rw [hy] at r2 hsj hbj
        obtain ⟨ee,hee⟩:∃ b,(y.label==x.label)=b:=⟨_,rfl⟩
        rw [hee] at hsj hbj
        cases ee with
        | true =>
         have hr:=hbj rfl
         subst hr
         (sym=>simp [hjb,hl,r1,r2,hle,hee,hR,Um,Un,Uo,Up,szP,Gx,H3,N7,H4,Nh,lV,lY,Mz.eq_def,oW,Zb,Zc,Zd,Ze,Zf,Zg,Zh,Zi,Zj,Zk,Zl,Zm,Zo,Zp,Zq,Zs,Zt,Zv,Zx,Zy,Qd,Qf,Qo,Qp,Qq,Qr,Qs,Qt,Qu,Qv,Qw,Qx,Qy,Qz,Q1,Ja,Jd,Jl,Jm,Jn,Js,Jt,Ju,Jv,Jw,Jx,Jy,Jz,J2,Xd,Xe,Xi,Xj,Xk,Xl,Xm,Xn,Xq,Xr,Xs,Xt,Xu,Xv,Xw,Xx,Xy,X2,X6,X7,X8,X9,Wg,Wh,Wi,Wj,Wl,Wm,Wn,Wo,Wp,Wr,Wt,Wv,Wx,Wz,W1,W7,W9,Yb,Yc,Yf,Yg,Yj,Yn,Yo,Yp,Yq,Y6,Y7,Y9,Va,Vk,Vl,Vn,Vp,Vy,Vz,V0,V1,V2,V3,V4,V5,V6,V8,Ui,U5,K9,Kh,Gq,Gp,Gd];tactic =>
          try simp only [Uq] at *;try simp only [nc2] at *
          try simp (maxSteps:=4000000) only [hjb,hl,r1,r2,hle,hee,hR,Um,Un,Uo,Up,szP,U6]
          repeat' first|with_reducible assumption|with_reducible apply And.intro|intro _|omega|(rw [Uk];omega)
          all_goals first|with_reducible exact okq|omega|rfl|skip)
        | false =>
         have h2:=hsj rfl
         (sym=>simp [hjb,hl,r1,r2,hle,hee,Um,Un,Uo,Up,szP,Gx,H3,H4,Nh,lV,lY,Mz.eq_def,oW,Zb,Zc,Zd,Ze,Zf,Zg,Zh,Zi,Zj,Zk,Zl,Zm,Zo,Zp,Zq,Zs,Zt,Zv,Zx,Zy,Qd,Qf,Qo,Qs,Qt,Qu,Qv,Qw,Qx,Qy,Qz,Ja,Jl,Jm,Jn,Js,Jt,Ju,Jv,Jw,Jx,Jy,Jz,Xd,Xe,Xi,Xj,Xk,Xl,Xm,Xn,Xr,Xs,Xt,Xu,Xv,Xw,Xx,Xy,X2,X6,X7,X8,X9,Wg,Wh,Wi,Wj,Wl,Wm,Wn,Wo,Wp,Wr,Wt,Wv,Wx,Wz,W1,W7,W9,Yb,Yc,Yf,Yg,Yj,Yn,Yo,Yp,Yq,Y6,Y7,Y9,Va,Vj,Vk,Vl,Vn,Vp,Vy,Vz,V0,V1,V2,V3,V4,V5,V6,V8,Ui,U5,K9,Kh,Gq,Gp,Gd];tactic =>
          try simp only [Uq] at *;try simp only [nc2] at *
          try simp (maxSteps:=4000000) only [hjb,hl,r1,r2,hle,hee,Um,Un,Uo,Up,szP,U6]
          repeat' first|with_reducible assumption|with_reducible apply And.intro|intro _|omega|(rw [Uk];omega)
          all_goals first|with_reducible exact okq|omega|exact ⟨j+1,wkq,by omega,fun m hm=>by simpa using h2 m hm,by omega⟩|skip)
       ·have hs:=hyes (any_false fun m hm=>hnj m (by have:=List.mem_range.1 hm;omega))
        (sym=>simp [hjb,Um,Un,Uo,Up,szP,Gx,Nh,Zb,Zc,Ze,Zf,Zg,Qd,Qf,Qs,Qu,Qv,Qw,Qx,Jl,Jm,Jn,Js,Jt,Jv,Jw,Jx,Jy,Jz,Xj,Xl,Xm,Xp,Xr,Xu,Xw,Xx,X6,X7,X8,X9,Wo,Wp,Wr,Wt,Wx,Yn,Yo,Yp,Yq,Y6,Y9,Vj,Vp,Vz,V0,V1,V2,V5,V6,U5,K9,Kh,Gq,Gp,Gd];tactic =>
         try simp only [Uq] at *;try simp only [nc2] at *
         try simp (maxSteps:=4000000) only [hjb,Um,Un,Uo,Up,szP,U6]
         repeat' first|with_reducible assumption|with_reducible apply And.intro|intro _|omega|(rw [Uk];omega)
         all_goals first|with_reducible exact okq|omega|exact ⟨k+1,wkq,by omega,Eq.mpr hQ hs,by omega⟩|skip))
    ·(sym=>simp [hlb,hl,q0,q1,q2,hkb,h7,h10,h8,htg,hw,hle,Um,Un,Uo,Up,szP,Gx,N7,P2,Zb,Zc,Zd,Ze,Zf,Zg,Zo,Zp,Zq,Zs,Zt,Zu,Zv,Zw,Zx,Zy,Z6,Qd,Qe,Qf,Qm,Qn,Qo,Qp,Qq,Qr,Qs,Qu,Qv,Qw,Qx,Q1,Ja,Jb,Jd,Jf,Jl,Jm,Jn,Js,Jt,Jv,Jw,Jx,Jy,Jz,J2,J8,Xa,Xb,Xi,Xj,Xl,Xm,Xn,Xo,Xq,Xr,Xu,Xw,Xx,Xy,X0,X6,X7,X8,X9,Wg,Wh,Wi,Wj,Wl,Wm,Wn,Wo,Wp,Wr,Wt,Wu,Wv,Wx,Wy,Wz,W1,W6,W7,Yb,Yc,Yf,Yg,Yj,Yn,Yo,Yp,Yq,Ys,Yu,Yv,Yw,Y5,Y6,Y7,Y9,Va,Vj,Vk,Vl,Vn,Vy,Vz,V0,V1,V2,V3,V4,V5,V6,Ui,Uj,U5,K9,Kh,Gq,Gp,Gd];tactic =>
      try simp only [Uq] at *;try simp only [nc2] at *
      try simp (maxSteps:=4000000) only [hlb,hl,q0,q1,q2,hkb,h7,h10,h8,htg,hw,hle,Um,Un,Uo,Up,szP,U6]
      repeat' first|with_reducible assumption|with_reducible apply And.intro|intro _|omega|(rw [Uk];omega)
      all_goals first|with_reducible exact okq|omega|assumption|skip
      refine Kk [4,85,86,87,88,89,90,91,92,93,94,95,96,97,98,99,100,101,102,103,104,105] (fun j:Nat=>[(10,.d (.int .i64 j))]) (fun j:Nat=>[]) (fun j:Nat=>j≤k∧∀ m,m<j→(!true&&((Nx t l m).label==x.label))=false) (fun j:Nat=>k-j) 0 ?_ ?_ ?_
      ·simp
      ·exact wkq
      rintro j ⟨hj,hnj⟩
      rcases Kt j k with ⟨hjl,hjb⟩|⟨hjl,hjb⟩
      ·have hsj:(!true&&((Nx t l j).label==x.label))=false→∀ m,m<j+1→(!true&&((Nx t l m).label==x.label))=false:=fun h=>A1 hnj h
       have hbj:(!true&&((Nx t l j).label==x.label))=true→R=false:=fun h=>hbad (by rw [List.any_eq_true];exact ⟨j,List.mem_range.2 hjl,h⟩)
       have hjlt:j<l.length:=by omega
       have hji:=hin (l.getD j 0) (by simp [hjlt])
       have hjt:(l.getD j 0).toNat<t.length:=by omega
       have r1:=K7 (0:Int) hjlt
       have r2:=K7 e0 hjt
       change el _ _=enc (Nx t l j) at r2
       obtain ⟨u,hu⟩:∃ v,l.getD j 0=v:=⟨_,rfl⟩
       rw [hu] at r1 r2 hji hjt
       obtain ⟨u,rfl⟩:∃ n:Nat,u=n:=⟨u.toNat,by omega⟩
       rw [aX] at r2 hjt
       obtain ⟨y,hy⟩:∃ y,Nx t l j=y:=⟨_,rfl⟩
       rw [hy] at r2 hsj hbj
       obtain ⟨ee,hee⟩:∃ b,(y.label==x.label)=b:=⟨_,rfl⟩
       rw [hee] at hsj hbj
       (sym=>simp [hjb,hl,r1,r2,hle,hee,Um,Un,Uo,Up,szP,Gx,H3,H4,Nh,lV,lY,Mz.eq_def,oW,Zb,Zc,Zd,Ze,Zf,Zg,Zh,Zi,Zj,Zk,Zl,Zm,Zp,Zq,Zs,Zt,Zv,Zx,Qd,Qf,Qo,Qs,Qt,Qu,Qv,Qw,Qx,Qy,Qz,Ja,Jl,Jm,Jn,Js,Jt,Ju,Jv,Jw,Jx,Jy,Jz,Xd,Xe,Xi,Xj,Xk,Xl,Xm,Xn,Xr,Xs,Xt,Xu,Xv,Xw,Xx,X2,X6,X7,X8,X9,Wg,Wh,Wi,Wj,Wl,Wm,Wn,Wo,Wp,Wr,Wt,Wv,Wx,Wz,Yn,Yo,Yp,Yq,Y5,Y9,Vj,Vk,Vl,Vn,Vq,Vy,Vz,V0,V1,V4,V5,V6,V8,Ui,U5,K9,Kh,Gq,Gp,Gd];tactic =>
        try simp only [Uq] at *;try simp only [nc2] at *
        try simp (maxSteps:=4000000) only [hjb,hl,r1,r2,hle,hee,Um,Un,Uo,Up,szP,U6]
        repeat' first|with_reducible assumption|with_reducible apply And.intro|intro _|omega|(rw [Uk];omega)
        all_goals first|with_reducible exact okq|omega|exact ⟨j+1,wkq,by omega,by omega⟩|skip)
      ·have hs:=hyes (any_false fun m hm=>hnj m (by have:=List.mem_range.1 hm;omega))
       (sym=>simp [hjb,Um,Un,Uo,Up,szP,Gx,Nh,Zb,Zc,Ze,Zf,Zg,Qd,Qf,Qs,Qu,Qv,Qw,Qx,Jl,Jm,Jn,Js,Jt,Jv,Jw,Jx,Jy,Jz,Xj,Xl,Xm,Xp,Xr,Xu,Xw,Xx,X6,X7,X8,X9,Wo,Wp,Wr,Wt,Wx,Yn,Yo,Yp,Yq,Y5,Y9,Vj,Vq,Vz,V0,V1,V5,V6,U5,K9,Kh,Gq,Gp,Gd];tactic =>
        try simp only [Uq] at *;try simp only [nc2] at *
        try simp (maxSteps:=4000000) only [hjb,Um,Un,Uo,Up,szP,U6]
        repeat' first|with_reducible assumption|with_reducible apply And.intro|intro _|omega|(rw [Uk];omega)
        all_goals first|with_reducible exact okq|omega|exact ⟨k+1,wkq,by omega,Eq.mpr hQ hs,by omega⟩|skip))
    ·(sym=>simp [hlb,hl,q0,q1,q2,hkb,h7,h10,h8,htg,hw,hle,Um,Un,Uo,Up,szP,Gx,N7,P2,Zb,Zc,Zd,Ze,Zf,Zg,Zo,Zp,Zq,Zs,Zt,Zu,Zv,Zw,Zx,Zy,Z6,Qd,Qe,Qf,Qm,Qn,Qo,Qp,Qq,Qr,Qs,Qu,Qv,Qw,Qx,Q1,Ja,Jb,Jd,Jf,Jl,Jm,Jn,Js,Jt,Jv,Jw,Jx,Jy,Jz,J2,J8,Xa,Xb,Xi,Xj,Xl,Xm,Xn,Xo,Xq,Xr,Xu,Xw,Xx,Xy,X0,X6,X7,X8,X9,Wg,Wh,Wi,Wj,Wl,Wm,Wn,Wo,Wp,Wr,Wt,Wu,Wv,Wx,Wy,Wz,W1,W6,W7,Yb,Yc,Yf,Yg,Yj,Yn,Yo,Yp,Yq,Ys,Yu,Yv,Yw,Y5,Y6,Y7,Y9,Va,Vj,Vk,Vl,Vn,Vy,Vz,V0,V1,V2,V3,V4,V5,V6,Ui,Uj,U5,K9,Kh,Gq,Gp,Gd];tactic =>
      try simp only [Uq] at *;try simp only [nc2] at *
      try simp (maxSteps:=4000000) only [hlb,hl,q0,q1,q2,hkb,h7,h10,h8,htg,hw,hle,Um,Un,Uo,Up,szP,U6]
      repeat' first|with_reducible assumption|with_reducible apply And.intro|intro _|omega|(rw [Uk];omega)
      all_goals first|with_reducible exact okq|omega|assumption|skip
      refine Kk [4,85,86,87,88,89,90,91,92,93,94,95,96,97,98,99,100,101,102,103,104,105] (fun j:Nat=>[(10,.d (.int .i64 j))]) (fun j:Nat=>[]) (fun j:Nat=>j≤k∧∀ m,m<j→(!true&&((Nx t l m).label==x.label))=false) (fun j:Nat=>k-j) 0 ?_ ?_ ?_
      ·simp
      ·exact wkq
      rintro j ⟨hj,hnj⟩
      rcases Kt j k with ⟨hjl,hjb⟩|⟨hjl,hjb⟩
      ·have hsj:(!true&&((Nx t l j).label==x.label))=false→∀ m,m<j+1→(!true&&((Nx t l m).label==x.label))=false:=fun h=>A1 hnj h
       have hbj:(!true&&((Nx t l j).label==x.label))=true→R=false:=fun h=>hbad (by rw [List.any_eq_true];exact ⟨j,List.mem_range.2 hjl,h⟩)
       have hjlt:j<l.length:=by omega
       have hji:=hin (l.getD j 0) (by simp [hjlt])
       have hjt:(l.getD j 0).toNat<t.length:=by omega
       have r1:=K7 (0:Int) hjlt
       have r2:=K7 e0 hjt
       change el _ _=enc (Nx t l j) at r2
       obtain ⟨u,hu⟩:∃ v,l.getD j 0=v:=⟨_,rfl⟩
       rw [hu] at r1 r2 hji hjt
       obtain ⟨u,rfl⟩:∃ n:Nat,u=n:=⟨u.toNat,by omega⟩
       rw [aX] at r2 hjt
       obtain ⟨y,hy⟩:∃ y,Nx t l j=y:=⟨_,rfl⟩
       rw [hy] at r2 hsj hbj
       obtain ⟨ee,hee⟩:∃ b,(y.label==x.label)=b:=⟨_,rfl⟩
       rw [hee] at hsj hbj
       (sym=>simp [hjb,hl,r1,r2,hle,hee,Um,Un,Uo,Up,szP,Gx,H3,H4,Nh,lV,lY,Mz.eq_def,oW,Zb,Zc,Zd,Ze,Zf,Zg,Zh,Zi,Zj,Zk,Zl,Zm,Zp,Zq,Zs,Zt,Zv,Zx,Qd,Qf,Qo,Qs,Qt,Qu,Qv,Qw,Qx,Qy,Qz,Ja,Jl,Jm,Jn,Js,Jt,Ju,Jv,Jw,Jx,Jy,Jz,Xd,Xe,Xi,Xj,Xk,Xl,Xm,Xn,Xr,Xs,Xt,Xu,Xv,Xw,Xx,X2,X6,X7,X8,X9,Wg,Wh,Wi,Wj,Wl,Wm,Wn,Wo,Wp,Wr,Wt,Wv,Wx,Wz,Yn,Yo,Yp,Yq,Y5,Y9,Vj,Vk,Vl,Vn,Vq,Vy,Vz,V0,V1,V4,V5,V6,V8,Ui,U5,K9,Kh,Gq,Gp,Gd];tactic =>
        try simp only [Uq] at *;try simp only [nc2] at *
        try simp (maxSteps:=4000000) only [hjb,hl,r1,r2,hle,hee,Um,Un,Uo,Up,szP,U6]
        repeat' first|with_reducible assumption|with_reducible apply And.intro|intro _|omega|(rw [Uk];omega)
        all_goals first|with_reducible exact okq|omega|exact ⟨j+1,wkq,by omega,by omega⟩|skip)
      ·have hs:=hyes (any_false fun m hm=>hnj m (by have:=List.mem_range.1 hm;omega))
       (sym=>simp [hjb,Um,Un,Uo,Up,szP,Gx,Nh,Zb,Zc,Ze,Zf,Zg,Qd,Qf,Qs,Qu,Qv,Qw,Qx,Jl,Jm,Jn,Js,Jt,Jv,Jw,Jx,Jy,Jz,Xj,Xl,Xm,Xp,Xr,Xu,Xw,Xx,X6,X7,X8,X9,Wo,Wp,Wr,Wt,Wx,Yn,Yo,Yp,Yq,Y5,Y9,Vj,Vq,Vz,V0,V1,V5,V6,U5,K9,Kh,Gq,Gp,Gd];tactic =>
        try simp only [Uq] at *;try simp only [nc2] at *
        try simp (maxSteps:=4000000) only [hjb,Um,Un,Uo,Up,szP,U6]
        repeat' first|with_reducible assumption|with_reducible apply And.intro|intro _|omega|(rw [Uk];omega)
        all_goals first|with_reducible exact okq|omega|exact ⟨k+1,wkq,by omega,Eq.mpr hQ hs,by omega⟩|skip))
  ·have hr:R=true:=by
    rw [←hR2,List.all_eq_true]
    intro j hj
    exact hno j (by have:=List.mem_range.1 hj;omega)
   subst hr
   (sym=>simp [hlb,hR,Gx,N7,Zb,Zc,Ze,Zf,Zg,Zo,Z6,Qd,Qf,Qp,Qq,Qr,Qs,Qu,Qv,Qw,Qx,Q1,Jd,Jl,Jm,Jn,Js,Jt,Jv,Jw,Jx,Jy,Jz,J2,Xj,Xl,Xm,Xp,Xq,Xr,Xu,Xw,Xx,Xy,X6,X7,X8,X9,Wo,Wp,Wr,Wt,Wx,Yf,Yg,Yj,Yn,Yo,Yp,Yq,Y9,Va,Vk,Vz,V0,V1,V2,V3,V5,V6,U5,K9,Kh,Gq,Gp,Gd]))
theorem usesB_many {p:Part} {w tg b t u li na op:Bool} (h:Mq p w tg b t u li na op=true):p.many≤50∧(p.kind=7→1≤p.many)∧(p.kind=10→0≤p.many):=by
 unfold Mq at h
 by_cases h0:p.kind≠0∧p.kind≠14∧p.num≠0
 ·rw [if_pos h0] at h;cases h
 rw [if_neg h0] at h
 by_cases h1:p.kind=0
 ·rw [if_pos h1] at h;simp only [bX,cQ] at h;omega
 rw [if_neg h1] at h
 by_cases h2:p.kind=1
 ·rw [if_pos h2] at h;simp only [bX,cQ] at h;omega
 rw [if_neg h2] at h
 by_cases h3:p.kind=2∨p.kind=4
 ·rw [if_pos h3] at h;simp only [bX,cQ] at h;omega
 rw [if_neg h3] at h
 by_cases h4:p.kind=3∨p.kind=6
 ·rw [if_pos h4] at h;simp only [bX,cQ] at h;omega
 rw [if_neg h4] at h
 by_cases h5:p.kind=5
 ·rw [if_pos h5] at h;simp only [bX,cQ] at h;omega
 rw [if_neg h5] at h
 by_cases h6:p.kind=7
 ·rw [if_pos h6] at h;simp only [bX,cQ,G4] at h;omega
 rw [if_neg h6] at h
 by_cases h7:p.kind=8
 ·rw [if_pos h7] at h;simp only [bX,cQ] at h;omega
 rw [if_neg h7] at h
 by_cases h8:p.kind=9
 ·rw [if_pos h8] at h;simp only [bX,cQ] at h;omega
 rw [if_neg h8] at h
 by_cases h9:p.kind=10
 ·rw [if_pos h9] at h;simp only [bX,cQ,G4] at h;omega
 rw [if_neg h9] at h
 by_cases ha:p.kind=11
 ·rw [if_pos ha] at h;simp only [bX,cQ] at h;omega
 rw [if_neg ha] at h
 by_cases hb:p.kind=12
 ·rw [if_pos hb] at h;simp only [bX,cQ] at h;omega
 rw [if_neg hb] at h
 by_cases hc:p.kind=13
 ·rw [if_pos hc] at h;simp only [bX,cQ] at h;omega
 rw [if_neg hc] at h
 by_cases hd:p.kind=14
 ·rw [if_pos hd] at h;simp only [bX,cQ] at h;omega
 rw [if_neg hd] at h
 cases h
theorem uses_many {n:Part} (h:uses5 n=true):n.many≤50∧(n.kind=7→1≤n.many)∧(n.kind=10→0≤n.many):=by
 unfold uses5 at h
 exact usesB_many h
theorem uses_tame {n:Part} (h:uses5 n=true):0≤Cf n∧Cf n≤60∧n.many≤1000000:=by
 obtain ⟨h1,h2,h3⟩:=uses_many h
 have hm:maxI n.many 0=if n.many<0 then 0 else n.many:=rfl
 unfold Cf
 rw [hm]
 refine ⟨?_,?_,by omega⟩
 ·repeat' (split;first|omega|skip)
  all_goals omega
 ·repeat' (split;first|omega|skip)
  all_goals omega
def A9 (t:List Part):Bool:=t.length==0||ltB 10000 t.length||!((t.getD 0 e0).label==[])||(t.getD 0 e0).kind==8
def Eo (t:List Part):Bool:=!A9 t&&(t.all uses5&&((end5 t 0==(t.length:Int)&&shallow5 t)&&(List.range t.length).all fun i=>lab5 t i))
def Fit6 (p:Part):Prop:=Fit5 p∧p.name.length≤9223372036854775806
def Lk:Con:=L9 (fun (t:Sl Part)=>t.l.length≤9223372036854775807∧∀ p∈t.l,Fit6 p) (fun t=>Eo t.l)
noncomputable def Fl:Ctx:=⟨tab,lkC [(34,Nz),(35,Tq),(36,Sm),(37,Bi)],60,lkB [],[],false⟩
theorem Ed:Fl.τ=tab:=rfl
theorem ctx_Right5_c:Fl.Γ=lkC [(34,Nz),(35,Tq),(36,Sm),(37,Bi)]:=rfl
theorem Ee:Fl.dp=60:=rfl
theorem ctx_Right5_b:Fl.Δ=lkB []:=rfl
theorem ctx_Right5_u:Fl.cuts=[]:=rfl
theorem ctx_Right5_w:Fl.wr=false:=rfl
set_option maxRecDepth 100000 in
theorem good_Right5:Hg Try.prog (25,Lk):=by
 refine ⟨Ke Try.func25 (by kernel_rfl) rfl,?_⟩
 have K:Gu Try.prog Fl:=Ko G7 Kw (by
  intro p hp
  simp only [bQ,bZ,or_false] at hp
  rcases hp with rfl|rfl|rfl|rfl
  ·exact good_uses5
  ·exact good_End5
  ·exact good_shallow5
  ·exact good_labelled5) (by simp)
 obtain ⟨c,hc⟩:∃ c,Try.f25.body=some c:=⟨_,rfl⟩
 refine Kn K Try.func25 hc [.tmp 2] rfl 59 rfl (fun cvs hpre=>?_)
 change Lk.pre cvs at hpre
 unfold Lk at hpre
 obtain ⟨⟨t⟩,rfl,ht,hN⟩:=Mt hpre
 simp only at ht hN
 simp only [Try.f25,aZ] at hc
 subst hc
 refine Gf 3 (of_decide_eq_true (by kernel_rfl)) ?_
 by_cases h0:t.length=0
 ·have hz:((t.length:Int)==0)=true:=by simp [h0]
  (sym=>simp [hz,Um,Un,Uo,Up,szP,Ed,Ee,ctx_Right5_u,Lk.eq_def,Zb,Zc,Zd,Ze,Zf,Zo,Zt,Z6,Qd,Qf,Qp,Qq,Qr,Qs,Qu,Qv,Qw,Qx,Q1,Jd,Jf,Jj,Jq,Jr,Js,Jt,Jv,Jw,Jy,Jz,J2,J6,J7,Xd,Xj,Xl,Xm,Xq,Xr,Xu,Xw,Xx,Xy,X6,X7,X8,X9,Wc,Wf,Wj,Wl,Wm,Wn,Wo,Wp,Wt,Wx,Yd,Yf,Yg,Yn,Yo,Yr,Ys,Yt,Yu,Yv,Yw,Yz,Y9,Va,Vj,Vk,Vy,Vz,V0,V1,V3,V5,V6,U5,K9,Kh,Gp,Gd];tactic =>
   try simp only [Uq] at *;try simp only [nc2] at *
   try simp (maxSteps:=4000000) only [hz,Um,Un,Uo,Up,szP,U6]
   unfold Eo A9
   simp [h0])
 have hz:((t.length:Int)==0)=false:=by rw [aQ];omega
 have hlt0:0<t.length:=by omega
 have heb:A9 t=true→false=Eo t:=by
  intro h;unfold Eo;rw [h];rfl
 have zz1:=K7 e0 hlt0
 (sym=>simp [hz,zz1,Um,Un,Uo,Up,szP,Ed,Ee,ctx_Right5_u,Lk.eq_def,Zb,Zc,Zd,Ze,Zf,Zo,Zp,Zq,Zs,Zt,Zv,Zx,Zy,Z6,Qd,Qf,Qp,Qq,Qr,Qs,Qu,Qv,Qw,Qx,Q1,Jd,Jf,Jj,Jq,Jr,Js,Jt,Jv,Jw,Jy,Jz,J2,J6,J7,Xd,Xi,Xj,Xl,Xm,Xn,Xo,Xq,Xr,Xu,Xw,Xx,Xy,X6,X7,X8,X9,Wc,Wf,Wg,Wj,Wl,Wm,Wn,Wo,Wp,Wt,Wv,Wx,Wz,W1,W7,W9,Yb,Yd,Yf,Yg,Yn,Yo,Yr,Ys,Yt,Yu,Yv,Yw,Yz,Y8,Y9,Va,Vj,Vk,Vl,Vn,Vy,Vz,V0,V1,V3,V5,V6,Ui,U5,K9,Kh,Gp,Gd];tactic =>
  try simp only [Uq] at *;try simp only [nc2] at *
  try simp (maxSteps:=4000000) only [hz,zz1,Um,Un,Uo,Up,szP,U6]
  repeat' first|with_reducible assumption|with_reducible apply And.intro|intro _|omega|(rw [Uk];omega)
  ·rename_i h1 h2 h9
   exact heb (by unfold A9;rw [show ((t.getD 0 e0).kind==8)=true by rw [cQ];exact h9];simp only [Bool.or_true])
  ·rename_i h1 h3 h9
   have hle:t.length≤10000:=by omega
   have hnb:A9 t=false:=by
    unfold A9
    simp only [Bool.or_eq_false_iff,Hm,aQ]
    refine ⟨⟨⟨by omega,by omega⟩,?_⟩,h9⟩
    simpa using h3
   have hr:Eo t=(t.all uses5&&((end5 t 0==(t.length:Int)&&shallow5 t)&&(List.range t.length).all fun i=>lab5 t i)):=by
    unfold Eo;rw [hnb];rfl
   refine Kk [2,27,28,29,30,31,32,33,34,35,36,37,38] (fun k:Nat=>[(3,.d (.int .i64 k))]) (fun k:Nat=>[]) (fun k:Nat=>k≤t.length∧∀ j,j<k→uses5 (t.getD j e0)=true) (fun k:Nat=>t.length-k) 0 ?_ ?_ ?_
   ·simp
   ·exact wkq
   rintro k ⟨hk,hno⟩
   rcases Kt k t.length with ⟨hlt,hlb⟩|⟨hlt,hlb⟩
   ·obtain ⟨hf1,hf2⟩:=hN (t.getD k e0) (by simp [hlt])
    have zz2:=K7 e0 hlt
    (sym=>simp [hlb,zz2,Um,Un,Uo,Up,szP,Ed,ctx_Right5_c,Ee,ctx_Right5_b,ctx_Right5_w,Tq.eq_def,Bi.eq_def,Sm.eq_def,oK,Zb,Zc,Ze,Zf,Zg,Zo,Zp,Zq,Zv,Zy,Z6,Qb,Qd,Qe,Qf,Qg,Qh,Qp,Qq,Qr,Qs,Qu,Qv,Qw,Qx,Q1,Q8,Jc,Jd,Je,Jl,Jm,Jn,Js,Jt,Jv,Jw,Jy,Jz,J2,J8,Xd,Xe,Xi,Xj,Xl,Xm,Xn,Xq,Xr,Xu,Xw,Xx,Xy,X6,X7,X8,X9,Wb,Wd,Wf,Wo,Wp,Wr,Wt,Wu,Wx,Wy,W1,Yd,Yf,Yg,Yn,Yo,Y7,Y9,Va,Vj,Vk,Vy,V0,V1,V2,V3,V5,V6,Ui,U5,K9,Kh,Gp,Gd];tactic =>
     try simp only [Uq] at *;try simp only [nc2] at *
     try simp (maxSteps:=4000000) only [hlb,zz2,Um,Un,Uo,Up,szP,U6]
     repeat' first|with_reducible assumption|with_reducible apply And.intro|intro _|omega|(rw [Uk];omega)
     ·rename_i hb
      rw [hr,all_not (p:=uses5) e0 k hlt hb]
      rfl
     ·rename_i hb
      refine ⟨k+1,wkq,by omega,fun j hj=>?_,by omega⟩
      by_cases hjk:j=k
      ·subst hjk;exact hb
      ·exact hno j (by omega))
   ·have hall:t.all uses5=true:=all_of_lt (p:=uses5) e0 fun j hj=>hno j (by omega)
    have hT:Tame5 t:=⟨by omega,fun n hn=>uses_tame (List.all_eq_true.1 hall n hn)⟩
    have hL:Lab5 t:=fun n hn=>(hN n hn).1.2.2.1
    rw [hall,Bool.true_and] at hr
    (sym=>simp [hlb,Um,Un,Uo,Up,szP,Ed,ctx_Right5_c,Ee,ctx_Right5_b,ctx_Right5_u,Tq.eq_def,Bi.eq_def,Sm.eq_def,oK,Zb,Zc,Zd,Ze,Zf,Zg,Zo,Zt,Z6,Qb,Qd,Qe,Qf,Qg,Qh,Qp,Qq,Qr,Qs,Qu,Qv,Qw,Qx,Q1,Q8,Jc,Jd,Je,Jf,Jl,Jm,Jn,Js,Jt,Ju,Jv,Jw,Jx,Jy,Jz,J2,Xd,Xe,Xi,Xj,Xl,Xm,Xn,Xo,Xp,Xq,Xr,Xu,Xw,Xx,Xy,X6,X7,X8,X9,Wb,Wd,Wf,Wm,Wn,Wo,Wp,Wr,Wt,Wu,Wx,Wy,Yc,Yd,Yf,Yg,Yn,Yo,Yp,Yx,Yz,Y2,Y4,Y9,Va,Vj,Vk,Vy,Vz,V0,V1,V2,V3,V5,V6,U5,K9,Kh,Gp,Gd];tactic =>
     try simp only [Uq] at *;try simp only [nc2] at *
     try simp (maxSteps:=4000000) only [hlb,Um,Un,Uo,Up,szP,U6]
     repeat' first|with_reducible assumption|with_reducible apply And.intro|intro _|omega|(rw [Uk];omega)
     ·rename_i he hs
      rw [hr,hs]
      simp
     ·rename_i he hs
      have hr2:Eo t=(List.range t.length).all fun i=>lab5 t i:=by
       rw [hr,hs,show (end5 t 0==(t.length:Int))=true by simpa using he]
       rfl
      refine Kk [2,49,50,51,52,53,54,55,56,57,58] (fun k:Nat=>[(4,.d (.int .i64 k))]) (fun k:Nat=>[]) (fun k:Nat=>k≤t.length∧∀ j,j<k→lab5 t j=true) (fun k:Nat=>t.length-k) 0 ?_ ?_ ?_
      ·simp
      ·exact wkq
      rintro k ⟨hk2,hno2⟩
      rcases Kt k t.length with ⟨hlt2,hlb2⟩|⟨hlt2,hlb2⟩
      ·(sym=>simp [hlb2,Um,Un,Uo,Up,szP,Ed,ctx_Right5_c,Ee,ctx_Right5_b,ctx_Right5_w,Tq.eq_def,Bi.eq_def,Sm.eq_def,oK,Zb,Zc,Ze,Zf,Zg,Zo,Z6,Qb,Qd,Qe,Qf,Qg,Qh,Qp,Qq,Qr,Qs,Qu,Qv,Qw,Qx,Q1,Q8,Jc,Jd,Je,Jl,Jm,Jn,Js,Jt,Ju,Jv,Jw,Jx,Jy,Jz,J2,Xd,Xe,Xi,Xj,Xl,Xm,Xn,Xq,Xr,Xu,Xw,Xx,Xy,X6,X7,X8,X9,Wb,Wd,Wf,Wo,Wp,Wr,Wt,Wu,Wx,Wy,Yd,Yf,Yg,Yn,Yo,Yp,Yq,Yx,Yz,Y2,Y4,Y7,Y9,Va,Vj,Vk,Vy,V0,V1,V2,V3,V5,V6,U5,K9,Kh,Gp,Gd];tactic =>
        try simp only [Uq] at *;try simp only [nc2] at *
        try simp (maxSteps:=4000000) only [hlb2,Um,Un,Uo,Up,szP,U6]
        repeat' first|with_reducible assumption|with_reducible apply And.intro|intro _|omega|(rw [Uk];omega)
        ·rename_i hb
         rw [hr2,Ay k hlt2 hb]
        ·rename_i hb
         refine ⟨k+1,wkq,by omega,fun j hj=>?_,by omega⟩
         by_cases hjk:j=k
         ·subst hjk;exact hb
         ·exact hno2 j (by omega))
      ·(sym=>simp [hlb2,Um,Un,Uo,Up,szP,Ed,Ee,Zb,Zc,Ze,Zf,Zg,Zo,Z6,Qd,Qf,Qp,Qq,Qr,Qs,Qu,Qv,Qw,Qx,Q1,Jd,Jl,Jm,Jn,Js,Jt,Ju,Jv,Jw,Jx,Jy,Jz,J2,Xj,Xl,Xm,Xp,Xq,Xr,Xu,Xw,Xx,Xy,X6,X7,X8,X9,Wo,Wp,Wr,Wt,Wx,Yf,Yg,Yn,Yo,Yp,Yq,Y9,Va,Vk,Vz,V0,V1,V2,V3,V5,V6,U5,K9,Kh,Gp,Gd];tactic =>
        try simp only [Uq] at *;try simp only [nc2] at *
        try simp (maxSteps:=4000000) only [hlb2,Um,Un,Uo,Up,szP,U6]
        rw [hr2,D2 fun j hj=>hno2 j (by omega)])
     ·rename_i he
      rw [hr,show (end5 t 0==(t.length:Int))=false by simpa using he]
      rfl)
  ·rename_i h1 h3
   exact heb (by unfold A9;rw [show ((t.getD 0 e0).label==[])=false by rw [aQ];exact h3];simp only [Bool.not_false,Bool.or_true,Bool.true_or])
  ·rename_i h1
   exact heb (by unfold A9;rw [show ltB 10000 (t.length:Int)=true by rw [Hf];exact h1];simp only [Bool.or_true,Bool.true_or]))
structure Ch where
 site:Int
 t:List Node
 deriving DecidableEq
instance encCh:Enc Ch:=⟨fun a=>.agg [.int .i64 a.site,.list 3 (a.t.map enc)],fun x=>match x with
 | .agg [a,b]=>⟨a.i,b.l.map dec⟩
 | _=>⟨0,[]⟩,fun a=>by
  have h:∀ l:List Node,(l.map (enc:Node→D)).map dec=l:=fun l=>Pf
  cases a
  simp [D.l,D.i,h]⟩
instance szCh:Sz Ch:=⟨2⟩
def c0:Ch:=⟨0,[]⟩
abbrev ty (l:List Ch) (k:Nat):List Node:=(l.getD k c0).t
abbrev si (l:List Ch) (k:Nat):Int:=(l.getD k c0).site
def static3 (t:List Node):Bool:=t.all fun n=>n.kind != 0
def fineT (t:List Node):Bool:=L4 t&&(plain3 t&&static3 t)
def okC (l:List Ch) (k:Nat):Bool:=!(ltB (si l k) 1||(ltB 0 (k:Int)&&leB (si l k) (si l (k-1))))&&fineT (ty l k)
def right11 (l:List Ch):Bool:=(List.range l.length).all (okC l)
section
variable {α β:Type} [BEq α]
variable [LawfulBEq α]
end
def named (s:List UInt8):List Node→List Node
 | []=>[]
 | n::r=>⟨n.kind,s,n.n⟩::r
theorem named_len {s:List UInt8} {l:List Node}:(named s l).length=l.length:=by cases l<;>rfl
theorem set_named {P:List Node} {n:Node} {r:List Node} {s:List UInt8}:((P++n::r).map (enc:Node→D)).set P.length (.agg [.int .i64 n.kind,.str s,.int .i64 n.n])=(P++named s (n::r)).map enc:=by
 rw [List.map_append,List.map_append,List.set_append]
 simp [named,Ur]
theorem el_named {P:List Node} {n:Node} {r:List Node}:el ((P++n::r).map (enc:Node→D)) P.length=enc n:=by
 unfold el
 simp
def lookC:List Ch→Int→Option (List Node)
 | [],_=>none
 | c::l,s=>if c.site=s then some c.t else lookC l s
def Rising (l:List Ch):Prop:=∀ i j,i<j→j<l.length→si l i<si l j
theorem rising_of {l:List Ch} (h:right11 l=true):Rising l:=by
 unfold right11 at h
 rw [List.all_eq_true] at h
 have step:∀ j,j+1<l.length→si l j<si l (j+1):=by
  intro j hj
  have:=h (j+1) (List.mem_range.2 hj)
  unfold okC at this
  simp only [bX,Bool.not_eq_true',Bool.or_eq_false_iff,Bool.and_eq_false_iff,Hm] at this
  have h2:=this.1.2
  simp only [Nat.add_sub_cancel] at h2
  rcases h2 with h2|h2
  ·omega
  ·rw [←Bool.not_eq_true,G4] at h2
   omega
 intro i j hij
 induction j with
 | zero=>omega
 | succ j ih =>
  intro hj
  have:=step j hj
  rcases Nat.lt_or_ge i j with h1|h1
  ·have:=ih h1 (by omega)
   omega
  ·have:i=j:=by omega
   subst this
   exact step i hj
theorem fine_of {l:List Ch} (h:right11 l=true):∀ c∈l,1≤c.site∧L4 c.t=true∧plain3 c.t=true∧static3 c.t=true:=by
 unfold right11 at h
 rw [List.all_eq_true] at h
 intro c hc
 obtain ⟨k,hk,rfl⟩:=List.mem_iff_getElem.1 hc
 have:=h k (List.mem_range.2 hk)
 unfold okC fineT si ty at this
 have hg:l.getD k c0=l[k]:=by simp [hk]
 rw [hg] at this
 simp only [bX,Bool.not_eq_true',Bool.or_eq_false_iff,Hm] at this
 exact ⟨this.1.1,this.2.1,this.2.2.1,this.2.2.2⟩
theorem right3_pos {t:List Node} (h:L4 t=true):0<t.length:=by
 unfold L4 Rg at h
 cases t with
 | nil=>simp at h
 | cons n t=>simp
def fillN (l:List Ch) (n:Node):List Node:=if n.kind=0 then (match lookC l n.n with
 | some u=>named n.name u
 | none=>[n]) else [n]
abbrev Ups (l:List Ch):Prop:=l.Pairwise fun a b=>a.site<b.site
theorem right11_of {l:List Ch} (hu:Ups l) (hf:∀ c∈l,1≤c.site∧L4 c.t=true∧plain3 c.t=true∧static3 c.t=true):right11 l=true:=by
 unfold right11
 rw [List.all_eq_true]
 intro k hk
 have hk:=List.mem_range.1 hk
 have e1:l.getD k c0=l[k]:=by simp [hk]
 obtain ⟨h1,h2,h3,h4⟩:=hf l[k] (List.getElem_mem hk)
 unfold okC si ty fineT
 rw [e1,h2,h3,h4,Bool.and_true,Bool.and_true,Bool.and_true,Bool.not_eq_true',Bool.or_eq_false_iff,Hm]
 refine ⟨h1,?_⟩
 cases k with
 | zero=>rfl
 | succ k =>
  have e2:l.getD (k+1-1) c0=l[k]:=by simp [show k<l.length by omega]
  rw [e2,Bool.and_eq_false_iff]
  right
  rw [←Bool.not_eq_true,G4]
  have:=(List.pairwise_iff_getElem.1 hu) k (k+1) (by omega) hk (by omega)
  omega
structure Mrg (l0 l1:List Ch) (i k:Nat) (B:List Ch):Prop where
 li:i≤l0.length
 lk:k≤l1.length
 len:B.length=i+k
 mem:∀ c,c∈B↔c∈l0.take i∨c∈l1.take k
 ups:Ups B
 lo0:∀ c∈B,i<l0.length→c.site<si l0 i
 lo1:∀ c∈B,k<l1.length→c.site<si l1 k
theorem Mrg.nil {l0 l1:List Ch}:Mrg l0 l1 0 0 []:=⟨by omega,by omega,rfl,by simp,List.Pairwise.nil,by simp,by simp⟩
theorem si_next {l:List Ch} (h:right11 l=true) {i:Nat} (hi:i+1<l.length):si l i<si l (i+1):=rising_of h i (i+1) (by omega) hi
theorem mem_take_snoc {l:List Ch} {i:Nat} (h:i<l.length) (c:Ch):c∈l.take (i+1)↔c∈l.take i∨c=l.getD i c0:=by
 rw [R6 c0 h,List.mem_append,bW]
theorem ups_snoc {B:List Ch} {c:Ch} (hB:Ups B) (h:∀ b∈B,b.site<c.site):Ups (B++[c]):=by
 rw [Ups,List.pairwise_append]
 exact ⟨hB,List.pairwise_singleton _ _,fun a ha b hb=>by rw [bW] at hb;subst hb;exact h a ha⟩
theorem Mrg.left {l0 l1:List Ch} (h0:right11 l0=true) {i k:Nat} {B:List Ch} (h:Mrg l0 l1 i k B) (hi:i<l0.length) (hlt:k<l1.length→si l0 i<si l1 k):Mrg l0 l1 (i+1) k (B++[l0.getD i c0]):=by
 refine ⟨hi,h.lk,by simp [h.len];omega,fun c=>?_,ups_snoc h.ups fun b hb=>h.lo0 b hb hi,fun c hc hi2=>?_,fun c hc hk=>?_⟩
 ·rw [List.mem_append,bW,h.mem,mem_take_snoc hi]
  constructor
  ·rintro ((h|h)|h)
   ·exact .inl (.inl h)
   ·exact .inr h
   ·exact .inl (.inr h)
  ·rintro ((h|h)|h)
   ·exact .inl (.inl h)
   ·exact .inr h
   ·exact .inl (.inr h)
 ·have hn:=si_next h0 hi2
  rcases List.mem_append.1 hc with hc|hc
  ·have:=h.lo0 c hc hi;omega
  ·rw [bW] at hc;subst hc;exact hn
 ·rcases List.mem_append.1 hc with hc|hc
  ·exact h.lo1 c hc hk
  ·rw [bW] at hc;subst hc;exact hlt hk
theorem Mrg.right {l0 l1:List Ch} (h1:right11 l1=true) {i k:Nat} {B:List Ch} (h:Mrg l0 l1 i k B) (hk:k<l1.length) (hlt:i<l0.length→si l1 k<si l0 i):Mrg l0 l1 i (k+1) (B++[l1.getD k c0]):=by
 refine ⟨h.li,hk,by simp [h.len];omega,fun c=>?_,ups_snoc h.ups fun b hb=>h.lo1 b hb hk,fun c hc hi=>?_,fun c hc hk2=>?_⟩
 ·rw [List.mem_append,bW,h.mem,mem_take_snoc hk,or_assoc]
 ·rcases List.mem_append.1 hc with hc|hc
  ·exact h.lo0 c hc hi
  ·rw [bW] at hc;subst hc;exact hlt hi
 ·have hn:=si_next h1 hk2
  rcases List.mem_append.1 hc with hc|hc
  ·have:=h.lo1 c hc hk;omega
  ·rw [bW] at hc;subst hc;exact hn
theorem Mrg.whole {l0 l1 B:List Ch} (h:Mrg l0 l1 l0.length l1.length B) (c:Ch):c∈B↔c∈l0∨c∈l1:=by
 have:=h.mem c
 rwa [List.take_length,List.take_length] at this
theorem Mrg.right11 {l0 l1 B:List Ch} (h0:right11 l0=true) (h1:Ty.right11 l1=true) (h:Mrg l0 l1 l0.length l1.length B):Ty.right11 B=true :=
 right11_of h.ups fun c hc=>by
  rcases (h.whole c).1 hc with hc|hc
  ·exact fine_of h0 c hc
  ·exact fine_of h1 c hc
theorem map_snoc {B:List Ch} {x:Ch}:(B++[x]).map (enc:Ch→D)=B.map enc++[.agg [.int .i64 x.site,.list 3 (x.t.map enc)]]:=by rw [List.map_append];rfl
def cn4 {A B C E R:Type} [Enc A] [Enc B] [Enc C] [Enc E] [Enc R] (p:A→B→C→E→Prop) (f:A→B→C→E→R):Con:=⟨[false,false,false,false],[false],fun c=>match c with
 | [.d x,.d y,.d z,.d w]=>isE A x∧isE B y∧isE C z∧isE E w∧p (dec x) (dec y) (dec z) (dec w)
 | _=>False,fun c=>match c with
 | [.d x,.d y,.d z,.d w]=>.d (enc (f (dec x) (dec y) (dec z) (dec w)))
 | _=>.d .nilp⟩
theorem lZ:type_of% @cn4.eq_def:=@cn4.eq_def
theorem cn4_pre {A B C E R:Type} [Enc A] [Enc B] [Enc C] [Enc E] [Enc R] {p:A→B→C→E→Prop} {f:A→B→C→E→R} {c:List CV} (h:(cn4 p f).pre c):∃ a b d e,c=[.d (enc a),.d (enc b),.d (enc d),.d (enc e)]∧p a b d e:=by
 unfold cn4 at h
 simp only at h
 split at h
 ·next x y z w=>exact ⟨dec x,dec y,dec z,dec w,by rw [←h.1,←h.2.1,←h.2.2.1,←h.2.2.2.1],h.2.2.2.2⟩
 ·exact h.elim
def Rz (s:List UInt8) (i:Int) (a b:UInt8):Bool:=ltB i s.length&&P5 (s.getD i.toNat 0) a b
def Th:Con:=cn4 (fun (s:List UInt8) (i:Int) (_ _:UInt8)=>s.length≤1000000∧0≤i∧i≤2000000) (fun s i a b=>Rz s i a b)
noncomputable def ctx_cont1:Ctx:=⟨tab,lkC [(56,Hs)],60,lkB [],[],false⟩
theorem ctx_cont1_t:ctx_cont1.τ=tab:=rfl
theorem ctx_cont1_c:ctx_cont1.Γ=lkC [(56,Hs)]:=rfl
theorem ctx_cont1_d:ctx_cont1.dp=60:=rfl
theorem ctx_cont1_b:ctx_cont1.Δ=lkB []:=rfl
set_option maxRecDepth 100000 in
theorem good_cont1:Hg Try.prog (69,Th):=by
 refine ⟨Ke Try.func69 (by kernel_rfl) rfl,?_⟩
 have K:Gu Try.prog ctx_cont1:=Ko G7 Kw (by
  intro p hp
  simp only [bQ,bZ,or_false] at hp
  rcases hp with rfl
  ·exact Fw) (by simp)
 obtain ⟨c,hc⟩:∃ c,Try.f69.body=some c:=⟨_,rfl⟩
 refine Kn K Try.func69 hc [.tmp 8] rfl 21 rfl (fun cvs hpre=>?_)
 change Th.pre cvs at hpre
 unfold Th at hpre
 obtain ⟨s,i,a,b,rfl,hs,hi0,hi1⟩:=cn4_pre hpre
 obtain ⟨i,rfl⟩:∃ n:Nat,i=n:=⟨i.toNat,by omega⟩
 obtain ⟨R,hR⟩:∃ R,Rz s i a b=R:=⟨_,rfl⟩
 have hR2:=hR
 unfold Rz at hR2
 rw [aX] at hR2
 rcases Kt i s.length with ⟨hlt,hlb⟩|⟨hlt,hlb⟩
 ·rw [hlb,Bool.true_and] at hR2
  simp only [Try.f69,aZ] at hc
  subst hc
  (sym=>simp [hlb,hR2,hR,aX,lZ,Kq,U9,G9,Kf,Kg,K8,ctx_cont1_t,ctx_cont1_c,ctx_cont1_d,ctx_cont1_b,Th.eq_def,Hs.eq_def,Za,Zb,Zc,Zd,Ze,Zf,Zt,Zz,Z6,Qb,Qd,Qf,Qg,Qh,Qp,Qq,Qr,Qs,Qu,Qv,Qw,Qx,Q1,Q8,Jc,Jd,Je,Jj,Jq,Jr,J2,Xf,Xj,Xl,Xq,Xr,Xu,Xw,Xx,X6,X7,X8,X9,Wb,Wc,Wd,Wf,Wj,Wl,Wm,Wn,Wt,Wv,Wx,Wz,W1,Yc,Yd,Ye,Yn,Yo,Yp,Yq,Yr,Ys,Yx,Yy,Yz,Y4,Vk,Vy,V0,V1,V5,V6,U5,Pd,Kh];tactic =>
   try simp only [Uq] at *;try simp only [nc2] at *
   try simp (maxSteps:=4000000) only [hlb,hR2,hR,aX,lZ,Kq,U9,G9,Kf,Kg,K8,U6]
   repeat' first|with_reducible assumption|with_reducible apply And.intro|intro _|omega|(rw [Uk];omega)
   all_goals first|with_reducible exact okq|omega|rfl|skip)
 ·rw [hlb,Bool.false_and] at hR2
  subst hR2
  simp only [Try.f69,aZ] at hc
  subst hc
  (sym=>simp [hlb,hR,aX,lZ,Kq,U9,G9,Kf,Kg,K8,ctx_cont1_t,ctx_cont1_d,Th.eq_def,Za,Zb,Zc,Zd,Ze,Zf,Zt,Z6,Qd,Qf,Qp,Qq,Qr,Qs,Qu,Qv,Qw,Qx,Q1,Jd,Jj,Jq,Jr,J2,Xj,Xl,Xq,Xr,Xu,Xw,Xx,X6,X7,X8,X9,Wc,Wf,Wj,Wl,Wm,Wn,Wt,Wv,Wx,Wz,Yc,Yd,Ye,Yn,Yo,Yp,Yq,Yr,Ys,Yx,Yy,Yz,Vk,Vz,V1,V5,V6,U5,Pd,Kh])
def longAt (s:List UInt8) (i:Nat) (c:UInt8):Nat :=
 if c<128 then 1
 else if (P5 c 194 223&&Rz s (i+1) 128 191)=true then 2
 else if (P5 c 224 239&&(Rz s (i+1) (if c=224 then 160 else 128) (if c=237 then 159 else 191)&&Rz s (i+2) 128 191))=true then 3
 else if (P5 c 240 244&&(Rz s (i+1) (if c=240 then 144 else 128) (if c=244 then 143 else 191)&&(Rz s (i+2) 128 191&&Rz s (i+3) 128 191)))=true then 4
 else 0
def long1 (s:List UInt8) (i:Nat):Nat:=longAt s i (s.getD i 0)
theorem cont1_lt {s:List UInt8} {i:Int} {a b:UInt8} (h:Rz s i a b=true):i<s.length:=by
 unfold Rz at h
 rw [bX,Hf] at h
 exact h.1
theorem long1_le {s:List UInt8} {i:Nat} (hi:i<s.length):i+long1 s i≤s.length:=by
 unfold long1 longAt
 obtain ⟨a,ha⟩:∃ a,(if s.getD i 0=224 then (160:UInt8) else 128)=a:=⟨_,rfl⟩
 obtain ⟨b,hb⟩:∃ b,(if s.getD i 0=237 then (159:UInt8) else 191)=b:=⟨_,rfl⟩
 obtain ⟨c,hc⟩:∃ c,(if s.getD i 0=240 then (144:UInt8) else 128)=c:=⟨_,rfl⟩
 obtain ⟨d,hd⟩:∃ d,(if s.getD i 0=244 then (143:UInt8) else 191)=d:=⟨_,rfl⟩
 rw [ha,hb,hc,hd]
 split
 ·omega
 split
 ·rename_i h
  rw [bX] at h
  have:=cont1_lt h.2
  omega
 split
 ·rename_i h
  simp only [bX] at h
  have:=cont1_lt h.2.2
  omega
 split
 ·rename_i h
  simp only [bX] at h
  have:=cont1_lt h.2.2.2
  omega
 ·omega
def six1 (c:UInt8):Int:=if P5 c 48 57=true then (c.toNat:Int)-48 else if P5 c 97 102=true then (c.toNat:Int)-97+10 else -1
theorem six1_le {c:UInt8}:-1≤six1 c∧six1 c≤15:=by
 unfold six1 P5
 split
 ·rename_i h
  simp only [bX,decide_eq_true_eq,UInt8.le_iff_toNat_le] at h
  have h1:(48:UInt8).toNat=48:=rfl
  have h2:(57:UInt8).toNat=57:=rfl
  omega
 split
 ·rename_i h
  simp only [bX,decide_eq_true_eq,UInt8.le_iff_toNat_le] at h
  have h1:(97:UInt8).toNat=97:=rfl
  have h2:(102:UInt8).toNat=102:=rfl
  omega
 ·omega
def escC (s:List UInt8) (i:Nat) (c:UInt8):List UInt8×Int :=
 if c=92∨c=34 then ((s.take (i+2)).drop (i+1),2)
 else if c=110 then ([10],2)
 else if c=116 then ([9],2)
 else if c=120∧i+3<s.length∧0≤six1 (s.getD (i+2) 0)∧0≤six1 (s.getD (i+3) 0) then ([UInt8.ofNat (16*six1 (s.getD (i+2) 0)+six1 (s.getD (i+3) 0)).toNat],4)
 else ([],0)
def esc1 (s:List UInt8) (i:Nat):List UInt8×Int:=if s.length≤i+1 then ([],0) else escC s i (s.getD (i+1) 0)
theorem esc1_le {s:List UInt8} {i:Nat} (hi:i<s.length):0≤(esc1 s i).2∧i+(esc1 s i).2.toNat≤s.length∧(esc1 s i).1.length≤(esc1 s i).2.toNat:=by
 unfold esc1
 split
 ·exact ⟨by simp,by simp;omega,by simp⟩
 unfold escC
 split
 ·exact ⟨by simp,by simp;omega,by simp;omega⟩
 split
 ·exact ⟨by simp,by simp;omega,by simp⟩
 split
 ·exact ⟨by simp,by simp;omega,by simp⟩
 split
 ·rename_i h
  exact ⟨by simp,by simp;omega,by simp⟩
 ·exact ⟨by simp,by simp;omega,by simp⟩
def unqL:Nat→List UInt8→Nat→List UInt8→List UInt8×Int×Int
 | 0,_,_,_=>([],0,2)
 | f+1,s,i,out =>
  if s.length≤i then ([],0,2)
  else if s.getD i 0=34 then (out,(i:Int)+1,0)
  else if long1 s i=0∨s.getD i 0<32∨s.getD i 0=127 then ([],0,2)
  else if s.getD i 0=92 then (if (esc1 s i).2=0 then ([],0,2) else unqL f s (i+(esc1 s i).2.toNat) (out++(esc1 s i).1))
  else unqL f s (i+long1 s i) (out++(s.take (i+long1 s i)).drop i)
def unq1 (s:List UInt8):List UInt8×Int×Int:=if s.length=0∨s.getD 0 0≠34 then ([],0,2) else unqL s.length s 1 []
theorem unqL_le {s:List UInt8}:∀ {f i:Nat} {out:List UInt8},1≤i→i≤s.length→out.length≤i→(unqL f s i out).2.2=0→1≤(unqL f s i out).2.1∧(unqL f s i out).2.1≤s.length∧(unqL f s i out).1.length≤s.length
 | 0,i,out,_,_,_,h=>by simp [unqL] at h
 | f+1,i,out,h1,h2,h3,h=>by
  unfold unqL at h ⊢
  split at h
  ·simp at h
  rename_i hi
  rw [if_neg hi]
  split at h
  ·rename_i h4
   rw [if_pos h4]
   exact ⟨by simp only;omega,by simp only;omega,by simp only;omega⟩
  rename_i h4
  rw [if_neg h4]
  split at h
  ·simp at h
  rename_i h5
  rw [if_neg h5]
  split at h
  ·rename_i h6
   rw [if_pos h6]
   split at h
   ·simp at h
   rename_i h7
   rw [if_neg h7]
   have hE:=esc1_le (s:=s) (i:=i) (by omega)
   exact unqL_le (by omega) hE.2.1 (by rw [bY];omega) h
  ·rename_i h6
   rw [if_neg h6]
   have hE:=long1_le (s:=s) (i:=i) (by omega)
   exact unqL_le (by omega) hE (by simp only [bY,List.length_drop,List.length_take];omega) h
theorem unq1_le {s:List UInt8} (h:(unq1 s).2.2=0):1≤(unq1 s).2.1∧(unq1 s).2.1≤s.length∧(unq1 s).1.length≤s.length:=by
 unfold unq1 at h ⊢
 split at h
 ·simp at h
 rename_i h1
 rw [if_neg h1]
 exact unqL_le (by omega) (by omega) (by simp) h
structure Tok where
 kind:Int
 text:List UInt8
 frm:Int
 to:Int
 deriving DecidableEq
instance encTok:Enc Tok:=⟨fun a=>.agg [.int .i64 a.kind,.str a.text,.int .i64 a.frm,.int .i64 a.to],fun x=>match x with
 | .agg [a,b,c,d]=>⟨a.i,b.s,c.i,d.i⟩
 | _=>⟨0,[],0,0⟩,fun a=>rfl⟩
instance szTok:Sz Tok:=⟨4⟩
theorem Gl:Sz.sz Tok=4:=rfl
theorem U1 {n:Tok}:(enc n:D)=.agg [.int .i64 n.kind,.str n.text,.int .i64 n.frm,.int .i64 n.to]:=rfl
theorem Kc {a c d:Int} {b:List UInt8}:(dec (.agg [.int .i64 a,.str b,.int .i64 c,.int .i64 d]):Tok)=⟨a,b,c,d⟩:=rfl
theorem Kb {a c d:Int} {b:List UInt8}:isE Tok (.agg [.int .i64 a,.str b,.int .i64 c,.int .i64 d])=True:=eq_true rfl
theorem Ka {n:Tok}:Tok.mk n.kind n.text n.frm n.to=n:=rfl
def Td:Tok:=⟨0,[],0,0⟩
def keys2:List (List UInt8):=[[105,109,112,111,114,116],[100,101,102],[102,117,110],[108,101,116],[114,101,99],[105,110],[105,102],[116,104,101,110],[101,108,115,101],[99,97,115,101],[111,102],[101,110,100],[116,114,117,101],[102,97,108,115,101],[117,110,105,116],[105,110,116],[98,111,111,108],[115,116,114,105,110,103]]
def signs2:List (List UInt8):=[[45,62],[61,61],[38,38],[124,124],[43,43],[40],[41],[123],[125],[91],[93],[44],[59],[58],[46],[61],[124],[43],[45],[42],[47],[60],[63],[33]]
def isKey2 (s:List UInt8):Bool:=keys2.any fun o=>o==s
def goes2 (c:UInt8):Bool:=P5 c 97 122||(P5 c 65 90||(P5 c 48 57||c==95))
def P0 (c:UInt8):Bool:=P5 c 48 57
def gap2:Bool→List UInt8→Nat
 | _,[]=>0
 | true,c::r=>if c=10 then 1+gap2 false r else 1+gap2 true r
 | false,c::r=>if c=32∨c=9∨c=10 then 1+gap2 false r else if c=35 then 1+gap2 true r else 0
def betw2 (s:List UInt8) (i:Nat):Nat:=i+gap2 false (s.drop i)
theorem gap2_le:∀ (b:Bool) (s:List UInt8),gap2 b s≤s.length
 | _,[]=>by simp [gap2]
 | true,c::r=>by
  have h1:=gap2_le true r
  have h2:=gap2_le false r
  unfold gap2
  split<;>simp only [bJ]<;>omega
 | false,c::r=>by
  have h1:=gap2_le true r
  have h2:=gap2_le false r
  unfold gap2
  split
  ·simp only [bJ];omega
  split<;>simp only [bJ]<;>omega
theorem betw2_le {s:List UInt8} {i:Nat} (h:i≤s.length):i≤betw2 s i∧betw2 s i≤s.length:=by
 unfold betw2
 have:=gap2_le false (s.drop i)
 rw [List.length_drop] at this
 omega
def signAt (s:List UInt8) (i:Nat) (x:List UInt8):Bool:=leB ((i+x.length:Nat):Int) s.length&&((s.take (i+x.length)).drop i==x)
def Ix (s:List UInt8) (i:Nat):List (List UInt8)→List UInt8
 | []=>[]
 | x::l=>cond (signAt s i x) x (Ix s i l)
def I2 (s:List UInt8) (i:Nat):List UInt8:=Ix s i signs2
def T6:List UInt8→Nat
 | []=>0
 | c::r=>cond (goes2 c) (1+T6 r) 0
theorem word2_le:∀ s:List UInt8,T6 s≤s.length
 | []=>by simp [T6]
 | c::r=>by
  have:=word2_le r
  unfold T6
  cases goes2 c
  ·exact Nat.zero_le _
  ·rw [cond_true,bJ];omega
def T9 (s:List UInt8) (i:Nat):List UInt8:=(s.take (i+T6 (s.drop i))).drop i
def one2 (s:List UInt8) (i:Nat):Tok×Bool :=
 if s.getD i 0=34 then (⟨4,(unq1 (s.drop i)).1,i,i+(unq1 (s.drop i)).2.1⟩,(unq1 (s.drop i)).2.2==0)
 else if A7 (T9 s i)=true then (⟨2,T9 s i,i,i+T6 (s.drop i)⟩,true)
 else if isKey2 (T9 s i)=true then (⟨6,T9 s i,i,i+T6 (s.drop i)⟩,true)
 else if Lf (T9 s i)=true then (⟨1,T9 s i,i,i+T6 (s.drop i)⟩,true)
 else if 0<T6 (s.drop i) then
  (if (T9 s i).all P0=true then (⟨3,T9 s i,i,i+T6 (s.drop i)⟩,leB ((T6 (s.drop i):Nat):Int) 18) else (⟨1,T9 s i,i,i+T6 (s.drop i)⟩,false))
 else (⟨5,I2 s i,i,i+(I2 s i).length⟩,!(I2 s i==[]))
def toks2L:Nat→List UInt8→Nat→List Tok→List Tok×Int×Int
 | 0,_,_,_=>([],0,2)
 | f+1,s,i,out =>
  if s.length≤i then (out++[⟨0,[],s.length,s.length⟩],0,0)
  else if (one2 s i).2=false then ([],i,2)
  else toks2L f s (betw2 s (one2 s i).1.to.toNat) (out++[(one2 s i).1])
def F9 (s:List UInt8):List Tok×Int×Int:=if 100000<s.length then ([],0,3) else toks2L (s.length+1) s (betw2 s 0) []
structure Site where
 frm:Int
 to:Int
 miss:Bool
 deriving DecidableEq
instance encSite:Enc Site:=⟨fun a=>.agg [.int .i64 a.frm,.int .i64 a.to,.bool a.miss],fun x=>match x with
 | .agg [a,b,c]=>⟨a.i,b.i,c.b⟩
 | _=>⟨0,0,false⟩,fun a=>rfl⟩
instance szSite:Sz Site:=⟨3⟩
theorem F8:Sz.sz Site=3:=rfl
structure St4 where
 at_:Int
 site:Int
 sites:List Site
 e:Int
 deriving DecidableEq
instance encSt4:Enc St4:=⟨fun a=>.agg [.int .i64 a.at_,.int .i64 a.site,.list 3 (a.sites.map enc),.int .i64 a.e],fun x=>match x with
 | .agg [a,b,c,d]=>⟨a.i,b.i,c.l.map dec,d.i⟩
 | _=>⟨0,0,[],0⟩,fun a=>by
  have h:∀ l:List Site,(l.map (enc:Site→D)).map dec=l:=fun l=>Pf
  cases a
  simp [D.l,D.i,h]⟩
theorem Cs {n:St4}:(enc n:D)=.agg [.int .i64 n.at_,.int .i64 n.site,.list 3 (n.sites.map enc),.int .i64 n.e]:=rfl
theorem K5 {a b d:Int} {c:List Site}:(dec (.agg [.int .i64 a,.int .i64 b,.list 3 (c.map enc),.int .i64 d]):St4)=⟨a,b,c,d⟩:=Enc.dec_enc (St4.mk a b c d)
theorem K4 {a b d:Int} {c:List Site}:isE St4 (.agg [.int .i64 a,.int .i64 b,.list 3 (c.map enc),.int .i64 d])=True:=eq_true (Cp (St4.mk a b c d))
theorem Cm {n:St4}:St4.mk n.at_ n.site n.sites n.e=n:=rfl
def tk (l:List Tok) (i:Int):Tok:=l.getD i.toNat Td
def is4 (l:List Tok) (i:Int) (x:List UInt8):Bool:=ltB i l.length&&((tk l i).kind==5&&(tk l i).text==x)
def Tc (s:St4) (i e:Int):St4:=⟨i,s.site,s.sites,e⟩
def base4 (t:Tok):Int:=if t.kind≠6 then -1 else if t.text=[105,110,116] then 1 else if t.text=[98,111,111,108] then 2 else if t.text=[115,116,114,105,110,103] then 3 else if t.text=[117,110,105,116] then 4 else -1
def Ld (s:St4):St4:=⟨s.at_+1,s.site,s.sites,s.e⟩
def S1 (l:List Tok) (s:St4) (x:List UInt8):St4:=if s.e≠0 then s else if is4 l s.at_ x=false then Tc s s.at_ 2 else Ld s
def S0 (labels:List (List UInt8)) (done:List UInt8):Nat→Int
 | 0=>-1
 | k+1=>cond (Op.bytesLess done (labels.getD k [])&&(ltB (S0 labels done k) 0||Op.bytesLess (labels.getD k []) (labels.getD (S0 labels done k).toNat []))) (k:Int) (S0 labels done k)
def rowL (labels:List (List UInt8)) (types:List (List Node)):Nat→List UInt8→List Node→List Node×Int
 | 0,_,out=>(out,0)
 | k+1,done,out =>
  if S0 labels done types.length<0 then ([],7)
  else rowL labels types k (labels.getD (S0 labels done types.length).toNat []) (out++named (labels.getD (S0 labels done types.length).toNat []) (types.getD (S0 labels done types.length).toNat []))
def S3 (kind:Int) (s:List UInt8):Bool:=if kind=7 then A7 s else Lf s
def row3 (kind:Int) (labels:List (List UInt8)) (types:List (List Node)):List Node×Int :=
 if ((kind≠6∧kind≠7)∨labels.length≠types.length)∨(50<types.length∨kind=7∧types.length=0) then ([],1)
 else if ((List.range types.length).all fun k=>S3 kind (labels.getD k []))=false then ([],1)
 else rowL labels types types.length [] [⟨kind,[],types.length⟩]
def want4 (kind:Int):Int:=if kind=7 then 2 else 1
def badL4 (l:List Tok) (kind:Int) (s:St4):Bool:=leB l.length s.at_||(!((tk l s.at_).kind==want4 kind)||((want4 kind==1&&!Lf (tk l s.at_).text)||(want4 kind==2&&!A7 (tk l s.at_).text)))
section
variable (w:List Tok→St4→List Node×St4)
def rows4L (l:List Tok) (kind:Int) (between fin:List UInt8):Nat→St4→List (List UInt8)→List (List Node)→List Node×St4
 | 0,s,_,_=>([],s)
 | f+1,s,labels,types =>
  if badL4 l kind s=true then ([],Tc s s.at_ 2)
  else if (labels.any fun x=>x==(tk l s.at_).text)=true then ([],Tc s s.at_ 7)
  else if labels.length=50 then ([],Tc s s.at_ 3)
  else if (w l (S1 l (Ld s) [58])).2.e≠0 then ([],(w l (S1 l (Ld s) [58])).2)
  else if is4 l (w l (S1 l (Ld s) [58])).2.at_ between=false then ((row3 kind (labels++[(tk l s.at_).text]) (types++[(w l (S1 l (Ld s) [58])).1])).1,S1 l (w l (S1 l (Ld s) [58])).2 fin)
  else rows4L l kind between fin f (Ld (w l (S1 l (Ld s) [58])).2) (labels++[(tk l s.at_).text]) (types++[(w l (S1 l (Ld s) [58])).1])
def rows4 (l:List Tok) (s:St4) (kind:Int) (between fin:List UInt8):List Node×St4:=rows4L w l kind between fin 51 s [] []
def R0 (d:Nat) (l:List Tok) (s:St4):List Node×St4 :=
 if s.e≠0 then ([],s)
 else if (l.length:Int)≤s.at_ then ([],Tc s l.length 2)
 else if is4 l s.at_ [63]=true then ([⟨0,[],s.site⟩],⟨s.at_+1,s.site+1,s.sites++[⟨(tk l s.at_).frm,(tk l s.at_).to,false⟩],0⟩)
 else if 0≤base4 (tk l s.at_) then ([⟨base4 (tk l s.at_),[],0⟩],Ld s)
 else if is4 l s.at_ [40]=false∧is4 l s.at_ [123]=false∧is4 l s.at_ [91]=false then ([],Tc s s.at_ 2)
 else if d=0 then ([],Tc s s.at_ 4)
 else if (tk l s.at_).text=[123]∧is4 l (s.at_+1) [125]=true then ([⟨6,[],0⟩],Ld (Ld s))
 else if (tk l s.at_).text=[123] then rows4 w l (Ld s) 6 [44] [125]
 else if (tk l s.at_).text=[91] then rows4 w l (Ld s) 7 [124] [93]
 else ((w l (Ld s)).1,S1 l (w l (Ld s)).2 [41])
end
def M7:Nat→List Tok→St4→List Node×St4
 | 0,_,s=>([],s)
 | d+1,l,s =>
  if (R0 (M7 d) d l s).2.e≠0∨is4 l (R0 (M7 d) d l s).2.at_ [45,62]=false then R0 (M7 d) d l s
  else if d=0 then ([],Tc (R0 (M7 d) d l s).2 (R0 (M7 d) d l s).2.at_ 4)
  else (arrow3 (R0 (M7 d) d l s).1 (M7 d l (Ld (R0 (M7 d) d l s).2)).1,(M7 d l (Ld (R0 (M7 d) d l s).2)).2)
def S9 (l:List Tok) (i site level:Int):List Node×Int×List Site×Int×Int :=
 if i<0∨site<1∨level<1 then ([],0,[],0,1)
 else
  let at_:=if (l.length:Int)<i then (l.length:Int) else i
  let r:=M7 (101-level).toNat l ⟨at_,site,[],0⟩
  if r.2.e≠0 then ([],0,[],r.2.at_,r.2.e)
  else if 10000<r.1.length then ([],0,[],at_,3)
  else if L4 r.1=false then ([],0,[],at_,4)
  else (r.1,r.2.at_,r.2.sites,0,0)
theorem lss_iff {x y:List UInt8}:Op.bytesLess x y=true↔x<y:=by rw [bytesLess_eq,decide_eq_true_eq]
theorem lss_trans {a b c:List UInt8} (h1:Op.bytesLess a b=true) (h2:Op.bytesLess b c=true):Op.bytesLess a c=true:=by
 rw [lss_iff] at *
 exact List.lt_trans h1 h2
theorem lss_irrefl (a:List UInt8):Op.bytesLess a a=false:=by
 rw [bytesLess_eq,decide_eq_false_iff_not]
 exact List.lt_irrefl a
theorem lss_total {a b:List UInt8} (h1:a≠b) (h2:Op.bytesLess b a=false):Op.bytesLess a b=true:=by
 have h:=less_not a b
 rw [h2] at h
 cases hb:Op.bytesLess a b with
 | true=>rfl
 | false=>rw [hb,beq_eq_false_iff_ne.2 h1] at h;cases h
theorem nil_lss {s:List UInt8} (h:s≠[]):Op.bytesLess [] s=true:=lss_total (Ne.symm h) (less_nil s)
def wgt (labels:List (List UInt8)) (done:List UInt8) (f:Nat→Nat):Nat→Nat
 | 0=>0
 | k+1=>wgt labels done f k+cond (Op.bytesLess done (labels.getD k [])) (f k) 0
theorem best3_spec (labels:List (List UInt8)) (done:List UInt8):∀ k,(S0 labels done k=-1∧∀ j,j<k→Op.bytesLess done (labels.getD j [])=false) ∨
  ∃ b,b<k∧S0 labels done k=(b:Int)∧Op.bytesLess done (labels.getD b [])=true∧∀ j,j<k→Op.bytesLess done (labels.getD j [])=true→Op.bytesLess (labels.getD j []) (labels.getD b [])=false
 | 0=>.inl ⟨rfl,by omega⟩
 | k+1=>by
  rw [S0]
  cases hd:Op.bytesLess done (labels.getD k []) with
  | false =>
   rw [Bool.false_and,cond_false]
   rcases best3_spec labels done k with ⟨h1,h2⟩|⟨b,h1,h2,h3,h4⟩
   ·exact .inl ⟨h1,A1 h2 hd⟩
   ·refine .inr ⟨b,by omega,h2,h3,fun j hj hq=>?_⟩
    rcases Nat.lt_or_ge j k with h|h
    ·exact h4 j h hq
    ·have:j=k:=by omega
     subst this
     rw [hd] at hq;cases hq
  | true =>
   rw [Bool.true_and]
   rcases best3_spec labels done k with ⟨h1,h2⟩|⟨b,h1,h2,h3,h4⟩
   ·rw [h1]
    refine .inr ⟨k,by omega,rfl,hd,fun j hj hq=>?_⟩
    rcases Nat.lt_or_ge j k with h|h
    ·rw [h2 j h] at hq;cases hq
    ·have:j=k:=by omega
     subst this
     exact lss_irrefl _
   ·rw [h2,aX]
    have hb0:ltB (b:Int) 0=false:=by rw [Hm];omega
    rw [hb0,Bool.false_or]
    cases hl:Op.bytesLess (labels.getD k []) (labels.getD b []) with
    | false =>
     refine .inr ⟨b,by omega,rfl,h3,fun j hj hq=>?_⟩
     rcases Nat.lt_or_ge j k with h|h
     ·exact h4 j h hq
     ·have:j=k:=by omega
      subst this
      exact hl
    | true =>
     refine .inr ⟨k,by omega,rfl,hd,fun j hj hq=>?_⟩
     rcases Nat.lt_or_ge j k with h|h
     ·cases hz:Op.bytesLess (labels.getD j []) (labels.getD k []) with
      | false=>rfl
      | true =>
       have:=lss_trans hz hl
       rw [h4 j h hq] at this
       cases this
     ·have:j=k:=by omega
      subst this
      exact lss_irrefl _
def Apart (labels:List (List UInt8)) (n:Nat):Prop:=∀ i j,i<n→j<n→labels.getD i []=labels.getD j []→i=j
theorem wgt_pick {labels:List (List UInt8)} {done:List UInt8} {b:Nat} (h3:Op.bytesLess done (labels.getD b [])=true) (f:Nat→Nat):∀ k,Apart labels (max k (b+1))→(∀ j,j<k→Op.bytesLess done (labels.getD j [])=true→Op.bytesLess (labels.getD j []) (labels.getD b [])=false) →
  wgt labels done f k=wgt labels (labels.getD b []) f k+(if b<k then f b else 0)
 | 0,_,_=>rfl
 | k+1,hA,h4=>by
  have ih:=wgt_pick h3 f k (fun i j hi hj=>hA i j (by omega) (by omega)) fun j hj=>h4 j (by omega)
  rw [wgt,wgt,ih]
  by_cases hkb:k=b
  ·subst hkb
   rw [h3,lss_irrefl,if_neg (by omega),if_pos (by omega)]
   simp
  ·have e:Op.bytesLess done (labels.getD k [])=Op.bytesLess (labels.getD b []) (labels.getD k []):=by
    cases hd:Op.bytesLess done (labels.getD k []) with
    | true =>
     have h5:=h4 k (by omega) hd
     symm
     refine lss_total (fun e=>?_) h5
     have:=hA b k (by omega) (by omega) e
     omega
    | false =>
     cases hz:Op.bytesLess (labels.getD b []) (labels.getD k []) with
     | false=>rfl
     | true=>rw [lss_trans h3 hz] at hd;cases hd
   rw [e]
   by_cases hb:b<k
   ·rw [if_pos hb,if_pos (by omega)];omega
   ·rw [if_neg hb,if_neg (by omega)];omega
theorem wgt_nil {labels:List (List UInt8)} (f:Nat→Nat):∀ k,(∀ j,j<k→labels.getD j []≠[])→wgt labels [] f k=((List.range k).map f).sum
 | 0,_=>rfl
 | k+1,h=>by
  rw [wgt,wgt_nil f k fun j hj=>h j (by omega),nil_lss (h k (by omega)),List.range_succ,List.map_append,List.sum_append]
  simp
def Hz (g:Node→Nat) (t:List Node):Nat:=(t.map g).sum
def NoName (g:Node→Nat):Prop:=∀ n s,g ⟨n.kind,s,n.n⟩=g n
theorem nodeW_append (g:Node→Nat) (a b:List Node):Hz g (a++b)=Hz g a+Hz g b:=by unfold Hz;rw [List.map_append,List.sum_append]
theorem nodeW_named {g:Node→Nat} (hg:NoName g) (s:List UInt8) (t:List Node):Hz g (named s t)=Hz g t:=by
 cases t with
 | nil=>rfl
 | cons n t=>unfold Hz named;rw [List.map_cons,List.map_cons,hg]
theorem rowL_sum {labels:List (List UInt8)} {types:List (List Node)} {n:Nat} (hn:types.length=n) (hA:Apart labels n) {g:Node→Nat} (hg:NoName g):∀ (k:Nat) (done:List UInt8) (out:List Node),wgt labels done (fun _=>1) n=k →
  (rowL labels types k done out).2=0∧Hz g (rowL labels types k done out).1=Hz g out+wgt labels done (fun j=>Hz g (types.getD j [])) n∧(out≠[]→(rowL labels types k done out).1≠[])
 | 0,done,out,hk=>by
  refine ⟨rfl,?_,fun h=>h⟩
  have:∀ (f:Nat→Nat) m,wgt labels done (fun _=>1) m=0→wgt labels done f m=0:=by
   intro f m
   induction m with
   | zero=>intro _;rfl
   | succ m ih =>
    intro h
    rw [wgt] at h ⊢
    cases hb:Op.bytesLess done (labels.getD m []) with
    | true=>rw [hb,cond_true] at h;omega
    | false=>rw [cond_false,ih (by omega)]
  show Hz g out=_
  rw [this _ n hk]
  rfl
 | k+1,done,out,hk=>by
  rw [rowL,hn]
  rcases best3_spec labels done n with ⟨h1,h2⟩|⟨b,h1,h2,h3,h4⟩
  ·exfalso
   have:∀ m,m≤n→wgt labels done (fun _=>1) m=0:=by
    intro m
    induction m with
    | zero=>intro _;rfl
    | succ m ih=>intro hm;rw [wgt,ih (by omega),h2 m (by omega)];rfl
   rw [this n (cZ _)] at hk
   omega
  ·have hA':Apart labels (max n (b+1)):=fun i j hi hj=>hA i j (by omega) (by omega)
   have p1:=wgt_pick h3 (fun _=>1) n hA' h4
   have p2:=wgt_pick h3 (fun j=>Hz g (types.getD j [])) n hA' h4
   rw [if_pos h1] at p1 p2
   rw [h2,aX,if_neg (by omega)]
   obtain ⟨r1,r2,r3⟩:=rowL_sum hn hA hg k (labels.getD b []) (out++named (labels.getD b []) (types.getD b [])) (by omega)
   refine ⟨r1,?_,fun ho=>r3 (by simp [ho])⟩
   rw [r2,nodeW_append,nodeW_named hg]
   omega
theorem isWord_ne {s:List UInt8} (h:Lf s=true):s≠[]:=by rintro rfl;cases h
theorem isTag_ne {s:List UInt8} (h:A7 s=true):s≠[]:=by rintro rfl;cases h
theorem sum_range {f:List Node→Nat}:∀ (types:List (List Node)),((List.range types.length).map fun j=>f (types.getD j [])).sum=(types.map f).sum:=by
 intro types
 congr 1
 refine List.ext_getElem (by simp) fun j h1 h2=>?_
 simp at h1 h2
 simp [h1]
theorem row3_sum {kind:Int} {labels:List (List UInt8)} {types:List (List Node)} (hk:kind=6∨kind=7) (hl:labels.length=types.length) (h50:types.length≤50) (h1:1≤types.length) (hA:Apart labels types.length)
  (hv:∀ j,j<types.length→S3 kind (labels.getD j [])=true) {g:Node→Nat} (hg:NoName g) :
  (row3 kind labels types).2=0∧Hz g (row3 kind labels types).1=g ⟨kind,[],types.length⟩+(types.map (Hz g)).sum∧(row3 kind labels types).1≠[]:=by
 unfold row3
 rw [if_neg (by omega),if_neg (by rw [D2 hv];simp)]
 have hne:∀ j,j<types.length→labels.getD j []≠[]:=fun j hj=>by
  have:=hv j hj
  unfold S3 at this
  split at this
  ·exact isTag_ne this
  ·exact isWord_ne this
 have hw:wgt labels [] (fun _=>1) types.length=types.length:=by
  rw [wgt_nil _ _ hne]
  have:∀ n:Nat,((List.range n).map fun _=>1).sum=n:=by
   intro n
   induction n with
   | zero=>rfl
   | succ n ih=>rw [List.range_succ,List.map_append,List.sum_append,ih];rfl
  exact this _
 obtain ⟨r1,r2,r3⟩:=rowL_sum rfl hA hg types.length [] [⟨kind,[],types.length⟩] hw
 refine ⟨r1,?_,r3 (by simp)⟩
 rw [r2,wgt_nil _ _ hne,sum_range (f:=Hz g)]
 rfl
def Pi (z:Int) (n:Node):Nat:=if n.kind=0∧n.n=z then 1 else 0
theorem noName_dyn (z:Int):NoName (Pi z):=fun _ _=>rfl
theorem noName_one:NoName fun _=>1:=fun _ _=>rfl
theorem nodeW_one (t:List Node):Hz (fun _=>1) t=t.length:=by
 unfold Hz
 induction t with
 | nil=>rfl
 | cons n t ih=>rw [List.map_cons,List.sum_cons,ih,bJ];omega
structure Eats (l:List Tok) (s:St4) (r:List Node×St4):Prop where
 lo:0≤r.2.at_
 hi:r.2.at_≤l.length
 err:s.e≠0→r.2.e≠0
 len:(r.1.length:Int)≤l.length-s.at_
 ok:r.2.e=0→(r.1.length:Int)≤r.2.at_-s.at_∧r.2.at_≤l.length∧r.1≠[]
 sites:r.2.e=0→s.sites.length≤r.2.sites.length∧(r.2.sites.length:Int)≤s.sites.length+(r.2.at_-s.at_)∧r.2.site=s.site+(r.2.sites.length-s.sites.length)
 cnt:r.2.e=0→∀ z,Hz (Pi z) r.1=if s.site≤z∧z<r.2.site then 1 else 0
theorem Eats.bad {l:List Tok} {s:St4} {i e:Int} (h1:s.at_≤l.length) (h2:0≤i) (h3:e≠0) {q:St4} (hq:q.at_=i) (hq2:q.e=e) (h4:i≤l.length:=by omega):Eats l s ([],q) :=
 ⟨by rw [hq];exact h2,by rw [hq];exact h4,fun _=>by rw [hq2];exact h3,by show (0:Int)≤_;omega,fun h=>absurd h (by rw [hq2];exact h3),fun h=>absurd h (by rw [hq2];exact h3),fun h=>absurd h (by rw [hq2];exact h3)⟩
theorem is4_lt {l:List Tok} {i:Int} {x:List UInt8} (h:is4 l i x=true):i<l.length:=by
 unfold is4 at h
 rw [bX,Hf] at h
 exact h.1
theorem D5 (l:List Tok) (s:St4) (x:List UInt8):(s.e≠0∧S1 l s x=s)∨(s.e=0∧S1 l s x=Tc s s.at_ 2)∨(s.e=0∧is4 l s.at_ x=true∧S1 l s x=Ld s):=by
 unfold S1
 by_cases h:s.e=0
 ·rw [if_neg (by simpa using h)]
  cases hi:is4 l s.at_ x with
  | false=>exact .inr (.inl ⟨h,if_pos rfl⟩)
  | true=>exact .inr (.inr ⟨h,rfl,if_neg (by simp)⟩)
 ·exact .inl ⟨h,if_pos h⟩
structure Had4 (l:List Tok) (kind:Int) (a s:St4) (labels:List (List UInt8)) (types:List (List Node)):Prop where
 e:s.e=0
 hi:s.at_≤l.length
 lo:0≤a.at_
 len:1+((types.map List.length).sum:Int)≤s.at_-a.at_
 s1:a.sites.length≤s.sites.length
 s2:(s.sites.length:Int)≤a.sites.length+(s.at_-a.at_)
 s3:s.site=a.site+(s.sites.length-a.sites.length)
 cnt:∀ z,(types.map (Hz (Pi z))).sum=if a.site≤z∧z<s.site then 1 else 0
 ll:labels.length=types.length
 apart:Apart labels labels.length
 ok:∀ j,j<labels.length→S3 kind (labels.getD j [])=true
theorem sum_len (types:List (List Node)):(types.map (Hz fun _=>1)).sum=(types.map List.length).sum:=by
 congr 1
 exact List.map_congr_left fun t _=>nodeW_one t
theorem cnt_join {a b c z:Int} (h1:a≤b) (h2:b≤c):((if a≤z∧z<b then 1 else 0)+(if b≤z∧z<c then 1 else 0):Nat)=if a≤z∧z<c then 1 else 0:=by
 by_cases h3:a≤z∧z<b
 ·rw [if_pos h3,if_neg (by omega),if_pos (by omega)]
 ·rw [if_neg h3]
  by_cases h4:b≤z∧z<c
  ·rw [if_pos h4,if_pos (by omega)]
  ·rw [if_neg h4,if_neg (by omega)]
theorem apart_snoc {labels:List (List UInt8)} {x:List UInt8} (h:Apart labels labels.length) (hx:(labels.any fun y=>y==x)=false):Apart (labels++[x]) (labels++[x]).length:=by
 rw [List.any_eq_false] at hx
 have hno:∀ i,i<labels.length→labels.getD i []≠x:=fun i hi e=>by
  have:=hx (labels.getD i []) (by simp [hi])
  rw [e,beq_self_eq_true] at this
  exact this rfl
 have g1:∀ i,i<labels.length→(labels++[x]).getD i []=labels.getD i []:=fun i hi=>by simp [aY,List.getElem?_append_left hi]
 have g2:(labels++[x]).getD labels.length []=x:=by simp
 intro i j hi hj hij
 rw [bY,List.length_singleton] at hi hj
 rcases Nat.lt_or_ge i labels.length with h1|h1
 ·rcases Nat.lt_or_ge j labels.length with h2|h2
  ·rw [g1 i h1,g1 j h2] at hij
   exact h i j h1 h2 hij
  ·have:j=labels.length:=by omega
   subst this
   rw [g1 i h1,g2] at hij
   exact absurd hij (hno i h1)
 ·have e1:i=labels.length:=by omega
  subst e1
  rcases Nat.lt_or_ge j labels.length with h2|h2
  ·rw [g1 j h2,g2] at hij
   exact absurd hij.symm (hno j h2)
  ·omega
theorem badL_not {l:List Tok} {kind:Int} (hk:kind=6∨kind=7) {s:St4} (h:badL4 l kind s=false):s.at_<l.length∧S3 kind (tk l s.at_).text=true:=by
 unfold badL4 at h
 have h1:leB l.length s.at_=false:=by
  cases hb:leB l.length s.at_ with
  | false=>rfl
  | true=>rw [hb,Bool.true_or] at h;cases h
 rw [h1,Bool.false_or,Bool.or_eq_false_iff,Bool.or_eq_false_iff] at h
 refine ⟨by rw [←Bool.not_eq_true,G4] at h1;omega,?_⟩
 unfold S3 want4 at *
 rcases hk with rfl|rfl
 ·rw [if_neg (by decide)] at h ⊢
  have:=h.2.1
  simpa using this
 ·rw [if_pos rfl] at h ⊢
  have:=h.2.2
  simpa using this
section
variable {w:List Tok→St4→List Node×St4} {l:List Tok}
theorem eats_rows (hw:∀ s:St4,0≤s.at_→s.at_≤l.length→Eats l s (w l s)) {kind:Int} (hk:kind=6∨kind=7) {between fin:List UInt8} {a:St4} (ha:a.e=0):∀ (f:Nat) (s:St4) (labels:List (List UInt8)) (types:List (List Node)),
  Had4 l kind a s labels types→labels.length≤50→f+labels.length=51→Eats l a (rows4L w l kind between fin f s labels types)
 | 0,s,labels,types,h,h51,hf=>by omega
 | f+1,s,labels,types,h,h51,hf=>by
  have hlo:=h.lo
  have hhi:=h.hi
  have hsum:=h.len
  have hs1:a.at_≤l.length:=by omega
  have h0:0≤s.at_:=by omega
  rw [rows4L]
  cases hb:badL4 l kind s with
  | true=>rw [if_pos rfl];exact Eats.bad (e:=2) hs1 h0 (by decide) rfl rfl
  | false =>
  rw [if_neg (by simp)]
  obtain ⟨hlt,hlab⟩:=badL_not hk hb
  cases hany:labels.any fun x=>x==(tk l s.at_).text with
  | true=>rw [if_pos rfl];exact Eats.bad (e:=7) hs1 h0 (by decide) rfl rfl
  | false =>
  rw [if_neg (by simp)]
  by_cases h50:labels.length=50
  ·rw [if_pos h50];exact Eats.bad (e:=3) hs1 h0 (by decide) rfl rfl
  rw [if_neg h50]
  have hA:(Ld s).at_=s.at_+1:=rfl
  have hAe:(Ld s).e=0:=h.e
  have hAs:(Ld s).sites=s.sites:=rfl
  have hAi:(Ld s).site=s.site:=rfl
  obtain ⟨N,hN⟩:∃ N,S1 l (Ld s) [58]=N:=⟨_,rfl⟩
  have hc:=D5 l (Ld s) [58]
  rw [hN] at hc ⊢
  have hNat:0≤N.at_∧N.at_≤l.length:=by
   rcases hc with ⟨h1,_⟩|⟨_,h2⟩|⟨_,h2,h3⟩
   ·exact absurd hAe h1
   ·rw [h2];exact ⟨by show 0≤(Ld s).at_;omega,by show (Ld s).at_≤_;omega⟩
   ·have:=is4_lt h2
    rw [h3];exact ⟨by show 0≤(Ld s).at_+1;omega,by show (Ld s).at_+1≤_;omega⟩
  have hE:=hw N hNat.1 hNat.2
  obtain ⟨r,hr⟩:∃ r,w l N=r:=⟨_,rfl⟩
  rw [hr] at hE ⊢
  by_cases hre:r.2.e=0
  case neg=>rw [if_pos hre];exact Eats.bad hs1 hE.lo hre rfl rfl hE.hi
  rw [if_neg (by simpa using hre)]
  have hNe:N.e=0:=Classical.byContradiction fun e=>hE.err e hre
  have hN3:is4 l (Ld s).at_ [58]=true∧N=Ld (Ld s):=by
   rcases hc with ⟨h1,_⟩|⟨_,h2⟩|⟨_,h2,h3⟩
   ·exact absurd hAe h1
   ·rw [h2] at hNe;exact absurd hNe (by show (2:Int)≠0;decide)
   ·exact ⟨h2,h3⟩
  have e1:N.at_=s.at_+2:=by rw [hN3.2];show s.at_+1+1=_;omega
  have e2:N.sites=s.sites:=by rw [hN3.2];rfl
  have e3:N.site=s.site:=by rw [hN3.2];rfl
  obtain ⟨k1,k2,k3⟩:=hE.ok hre
  obtain ⟨g1,g2,g3⟩:=hE.sites hre
  have g4:=hE.cnt hre
  rw [e1] at k1
  rw [e2] at g1 g2 g3
  rw [e1] at g2
  rw [e3] at g3 g4
  have m1:=h.s1
  have m2:=h.s2
  have m3:=h.s3
  have hsl:((types++[r.1]).map List.length).sum=(types.map List.length).sum+r.1.length:=by simp
  have hH:Had4 l kind a r.2 (labels++[(tk l s.at_).text]) (types++[r.1]):=by
   refine ⟨hre,k2,hlo,?_,by omega,by omega,by omega,fun z=>?_,by simp [h.ll],apart_snoc h.apart hany,fun j hj=>?_⟩
   ·rw [hsl];omega
   ·rw [List.map_append,List.sum_append,h.cnt,List.map_singleton,List.sum_singleton,g4]
    exact cnt_join (by omega) (by omega)
   ·rw [bY,List.length_singleton] at hj
    rcases Nat.lt_or_ge j labels.length with h1|h1
    ·have:(labels++[(tk l s.at_).text]).getD j []=labels.getD j []:=by simp [aY,List.getElem?_append_left h1]
     rw [this]
     exact h.ok j h1
    ·have:j=labels.length:=by omega
     subst this
     have:(labels++[(tk l s.at_).text]).getD labels.length []=(tk l s.at_).text:=by simp
     rw [this]
     exact hlab
  have hll:(labels++[(tk l s.at_).text]).length=(types++[r.1]).length:=hH.ll
  have hllen:(labels++[(tk l s.at_).text]).length=labels.length+1:=by simp
  cases hbt:is4 l r.2.at_ between with
  | false =>
   rw [if_pos rfl]
   have hR:=fun {g:Node→Nat} (hg:NoName g)=>row3_sum (labels:=labels++[(tk l s.at_).text]) (types:=types++[r.1]) hk hll (by omega) (by omega) (by rw [←hll];exact hH.apart) (by rw [←hll];exact hH.ok) hg
   have hone:=(hR noName_one).2.1
   rw [nodeW_one,sum_len,hsl] at hone
   obtain ⟨row,hrow⟩:∃ row,row3 kind (labels++[(tk l s.at_).text]) (types++[r.1])=row:=⟨_,rfl⟩
   rw [hrow] at hone ⊢
   have hz:=fun z=>(hR (noName_dyn z)).2.1
   rw [hrow] at hz
   have hne:=(hR noName_one).2.2
   rw [hrow] at hne
   have hdk:∀ z,Pi z ⟨kind,[],(types++[r.1]).length⟩=0:=by
    intro z
    unfold Pi
    rw [if_neg (by intro hh;simp only at hh;omega)]
   have hcz:=fun z=>hH.cnt z
   rcases D5 l r.2 fin with ⟨q1,q2⟩|⟨q1,q2⟩|⟨q1,q2,q3⟩
   ·exact absurd hre q1
   ·rw [q2]
    refine ⟨hE.lo,hE.hi,fun _=>by show (2:Int)≠0;decide,by show (row.1.length:Int)≤_;omega,fun h=>absurd h (by show (2:Int)≠0;decide),fun h=>absurd h (by show (2:Int)≠0;decide),fun h=>absurd h (by show (2:Int)≠0;decide)⟩
   ·have q4:=is4_lt q2
    rw [q3]
    refine ⟨by show 0≤r.2.at_+1;have:=hE.lo;omega,by show r.2.at_+1≤_;omega,fun h=>absurd ha h,by show (row.1.length:Int)≤_;omega,fun _=>⟨by show (row.1.length:Int)≤r.2.at_+1-a.at_;omega,by show r.2.at_+1≤_;omega,hne⟩,fun _=>⟨hH.s1,by show (r.2.sites.length:Int)≤_+(r.2.at_+1-a.at_);have:=hH.s2;omega,hH.s3⟩,fun _ z=>?_⟩
    show Hz (Pi z) row.1=_
    rw [hz z,hdk,Nat.zero_add]
    exact hcz z
  | true =>
   rw [if_neg (by simp)]
   have q4:=is4_lt hbt
   refine eats_rows hw hk ha f (Ld r.2) _ _ ?_ (by rw [hllen];omega) (by rw [hllen];omega)
   exact ⟨hre,by show r.2.at_+1≤_;omega,hlo,by show _≤r.2.at_+1-a.at_;have:=hH.len;omega,hH.s1,by show (r.2.sites.length:Int)≤_+(r.2.at_+1-a.at_);have:=hH.s2;omega,hH.s3,hH.cnt,hH.ll,hH.apart,hH.ok⟩
theorem eats_atom {d:Nat} (hw:d≠0→∀ s:St4,0≤s.at_→s.at_≤l.length→Eats l s (w l s)) {s:St4} (h0:0≤s.at_) (hL:s.at_≤l.length):Eats l s (R0 w d l s):=by
 unfold R0
 by_cases he:s.e=0
 case neg=>rw [if_pos he];exact Eats.bad hL h0 he rfl rfl
 rw [if_neg (by simpa using he)]
 by_cases hlt:(l.length:Int)≤s.at_
 ·rw [if_pos hlt];exact Eats.bad (e:=2) hL (show (0:Int)≤l.length by omega) (by decide) rfl rfl (Int.le_refl _)
 rw [if_neg hlt]
 have hz:∀ (k:Int) z,k≠0→Hz (Pi z) [⟨k,[],0⟩]=0:=by
  intro k z hk
  unfold Hz Pi
  simp [hk]
 cases h1:is4 l s.at_ [63] with
 | true =>
  rw [if_pos rfl]
  refine ⟨by show 0≤s.at_+1;omega,by show s.at_+1≤(l.length:Int);omega,fun h=>absurd he h,by show (1:Int)≤_;omega,fun _=>⟨by show (1:Int)≤s.at_+1-s.at_;omega,by show s.at_+1≤_;omega,by simp⟩,fun _=>⟨by show _≤(s.sites++_).length;simp,by show ((s.sites++_).length:Int)≤_+(s.at_+1-s.at_);simp;omega,by show s.site+1=s.site+(((s.sites++_).length:Int)-_);simp;omega⟩,fun _ z=>?_⟩
  show Hz (Pi z) [⟨0,[],s.site⟩]=if s.site≤z∧z<s.site+1 then 1 else 0
  unfold Hz Pi
  simp only [List.map_cons,List.map_nil,List.sum_cons,List.sum_nil,true_and,Nat.add_zero]
  by_cases hq:s.site=z
  ·rw [if_pos hq,if_pos (by omega)]
  ·rw [if_neg hq,if_neg (by omega)]
 | false =>
 rw [if_neg (by simp)]
 have hone:∀ (k n:Int) (q:St4),k≠0→q.e=0→s.at_<q.at_→q.at_≤l.length→q.sites=s.sites→q.site=s.site→Eats l s ([⟨k,[],n⟩],q):=by
  intro k n q hk hq1 hq2 hq3 hq4 hq5
  refine ⟨by show 0≤q.at_;omega,hq3,fun h=>absurd he h,by show (1:Int)≤_;omega,fun _=>⟨by show (1:Int)≤q.at_-s.at_;omega,hq3,by simp⟩,fun _=>⟨by show _≤q.sites.length;rw [hq4];omega,by show (q.sites.length:Int)≤_+(q.at_-s.at_);rw [hq4];omega,by show q.site=s.site+((q.sites.length:Int)-_);rw [hq4,hq5];omega⟩,fun _ z=>?_⟩
  show Hz (Pi z) [⟨k,[],n⟩]=if s.site≤z∧z<q.site then 1 else 0
  rw [if_neg (by omega)]
  unfold Hz Pi
  simp [hk]
 by_cases hb:0≤base4 (tk l s.at_)
 ·rw [if_pos hb]
  refine hone _ _ _ ?_ he (by show s.at_<s.at_+1;omega) (by show s.at_+1≤_;omega) rfl rfl
  unfold base4 at hb ⊢
  repeat' split
  all_goals first|decide|(exfalso;simp_all;done)
 rw [if_neg hb]
 by_cases ho:is4 l s.at_ [40]=false∧is4 l s.at_ [123]=false∧is4 l s.at_ [91]=false
 ·rw [if_pos ho];exact Eats.bad (e:=2) hL h0 (by decide) rfl rfl
 rw [if_neg ho]
 by_cases hd:d=0
 ·rw [if_pos hd];exact Eats.bad (e:=4) hL h0 (by decide) rfl rfl
 rw [if_neg hd]
 have hw':=hw hd
 by_cases hr:(tk l s.at_).text=[123]∧is4 l (s.at_+1) [125]=true
 ·rw [if_pos hr]
  have:=is4_lt hr.2
  exact hone _ _ _ (by decide) he (by show s.at_<s.at_+1+1;omega) (by show s.at_+1+1≤_;omega) rfl rfl
 rw [if_neg hr]
 have hH:∀ kind,Had4 l kind s (Ld s) [] []:=fun kind=>⟨he,by show s.at_+1≤_;omega,h0,by show (1:Int)+0≤s.at_+1-s.at_;omega,cZ _,by show (s.sites.length:Int)≤_+(s.at_+1-s.at_);omega,by show s.site=s.site+((s.sites.length:Int)-_);omega,
  fun z=>by show 0=if s.site≤z∧z<s.site then 1 else 0;rw [if_neg (by omega)],rfl,fun i j hi=>absurd hi (by simp),fun j hj=>absurd hj (by simp)⟩
 by_cases h123:(tk l s.at_).text=[123]
 ·rw [if_pos h123]
  exact eats_rows hw' (.inl rfl) he 51 (Ld s) [] [] (hH 6) (by simp) rfl
 rw [if_neg h123]
 by_cases h91:(tk l s.at_).text=[91]
 ·rw [if_pos h91]
  exact eats_rows hw' (.inr rfl) he 51 (Ld s) [] [] (hH 7) (by simp) rfl
 rw [if_neg h91]
 have hE:=hw' (Ld s) (by show 0≤s.at_+1;omega) (by show s.at_+1≤_;omega)
 obtain ⟨r,hrr⟩:∃ r,w l (Ld s)=r:=⟨_,rfl⟩
 rw [hrr] at hE ⊢
 have e1:(Ld s).at_=s.at_+1:=rfl
 have e2:(Ld s).sites=s.sites:=rfl
 have e3:(Ld s).site=s.site:=rfl
 have hlen:=hE.len
 rw [e1] at hlen
 rcases D5 l r.2 [41] with ⟨q1,q2⟩|⟨q1,q2⟩|⟨q1,q2,q3⟩
 ·rw [q2]
  exact ⟨hE.lo,hE.hi,fun h=>absurd he h,by show (r.1.length:Int)≤_;omega,fun h=>absurd h q1,fun h=>absurd h q1,fun h=>absurd h q1⟩
 ·rw [q2]
  exact ⟨hE.lo,hE.hi,fun h=>absurd he h,by show (r.1.length:Int)≤_;omega,fun h=>absurd h (by show (2:Int)≠0;decide),fun h=>absurd h (by show (2:Int)≠0;decide),fun h=>absurd h (by show (2:Int)≠0;decide)⟩
 ·rw [q3]
  have q4:=is4_lt q2
  obtain ⟨k1,k2,k3⟩:=hE.ok q1
  obtain ⟨g1,g2,g3⟩:=hE.sites q1
  have g4:=hE.cnt q1
  rw [e1] at k1 g2
  rw [e2] at g1 g2 g3
  rw [e3] at g3 g4
  exact ⟨by show 0≤r.2.at_+1;have:=hE.lo;omega,by show r.2.at_+1≤(l.length:Int);omega,fun h=>absurd he h,by show (r.1.length:Int)≤_;omega,fun _=>⟨by show (r.1.length:Int)≤r.2.at_+1-s.at_;omega,by show r.2.at_+1≤_;omega,k3⟩,fun _=>⟨g1,by show (r.2.sites.length:Int)≤_+(r.2.at_+1-s.at_);omega,g3⟩,fun _=>g4⟩
end
theorem arrow3_W (g:Node→Nat) (a b:List Node):Hz g (arrow3 a b)=g ⟨5,[],0⟩+Hz g a+Hz g b:=by
 unfold arrow3 Hz
 rw [List.map_cons,List.sum_cons,List.map_append,List.sum_append]
 omega
theorem Dt {l:List Tok}:∀ (d:Nat) (s:St4),d≠0→0≤s.at_→s.at_≤l.length→Eats l s (M7 d l s)
 | 0,s,h,_,_=>absurd rfl h
 | d+1,s,_,h0,hL=>by
  have hA:=eats_atom (w:=M7 d) (d:=d) (fun hd s' h1 h2=>Dt d s' hd h1 h2) h0 hL
  rw [M7]
  obtain ⟨r,hr⟩:∃ r,R0 (M7 d) d l s=r:=⟨_,rfl⟩
  rw [hr] at hA ⊢
  by_cases h1:r.2.e≠0∨is4 l r.2.at_ [45,62]=false
  ·rw [if_pos h1];exact hA
  rw [if_neg h1]
  have hre:r.2.e=0:=Classical.byContradiction fun e=>h1 (.inl e)
  have his:is4 l r.2.at_ [45,62]=true:=by
   cases hb:is4 l r.2.at_ [45,62] with
   | true=>rfl
   | false=>exact absurd (.inr hb) h1
  have hlt:=is4_lt his
  obtain ⟨k1,k2,k3⟩:=hA.ok hre
  obtain ⟨g1,g2,g3⟩:=hA.sites hre
  have g4:=hA.cnt hre
  have hse:s.e=0:=Classical.byContradiction fun e=>hA.err e hre
  have hlo:=hA.lo
  by_cases hd:d=0
  ·rw [if_pos hd];exact Eats.bad (e:=4) hL hlo (by decide) rfl rfl hA.hi
  rw [if_neg hd]
  have hB:=Dt d (Ld r.2) hd (by show 0≤r.2.at_+1;omega) (by show r.2.at_+1≤(l.length:Int);omega)
  obtain ⟨q,hq⟩:∃ q,M7 d l (Ld r.2)=q:=⟨_,rfl⟩
  rw [hq] at hB ⊢
  have hlen:=hB.len
  have e1:(Ld r.2).at_=r.2.at_+1:=rfl
  have e2:(Ld r.2).sites=r.2.sites:=rfl
  have e3:(Ld r.2).site=r.2.site:=rfl
  rw [e1] at hlen
  have hal:((arrow3 r.1 q.1).length:Int)=r.1.length+q.1.length+1:=by unfold arrow3;simp
  refine ⟨hB.lo,hB.hi,fun h=>absurd hse h,by show ((arrow3 r.1 q.1).length:Int)≤l.length-s.at_;omega,fun hqe=>?_,fun hqe=>?_,fun hqe z=>?_⟩
  ·obtain ⟨j1,j2,j3⟩:=hB.ok hqe
   rw [e1] at j1
   exact ⟨by show ((arrow3 r.1 q.1).length:Int)≤q.2.at_-s.at_;omega,j2,by unfold arrow3;simp⟩
  ·obtain ⟨j1,j2,j3⟩:=hB.sites hqe
   rw [e2] at j1 j2 j3
   rw [e1] at j2
   rw [e3] at j3
   have j5:=(hB.ok hqe).2.1
   exact ⟨by show s.sites.length≤q.2.sites.length;omega,by show (q.2.sites.length:Int)≤s.sites.length+(q.2.at_-s.at_);omega,by show q.2.site=s.site+((q.2.sites.length:Int)-s.sites.length);omega⟩
  ·obtain ⟨j1,j2,j3⟩:=hB.sites hqe
   have j4:=hB.cnt hqe
   rw [e3] at j4 j3
   rw [e2] at j1 j3
   show Hz (Pi z) (arrow3 r.1 q.1)=_
   rw [arrow3_W,g4,j4]
   have:Pi z ⟨5,[],0⟩=0:=by unfold Pi;rw [if_neg (fun h=>absurd h.1 (by decide))]
   rw [this,Nat.zero_add]
   exact cnt_join (by omega) (by omega)
theorem lt_u8 {a b:UInt8}:ltB (a.toNat:Int) (b.toNat:Int)=decide (a<b):=by
 unfold ltB
 congr 1
 rw [UInt8.lt_iff_toNat_lt]
 exact propext (by omega)
theorem b128:D.int .u8 128=enc (128:UInt8):=rfl
theorem b191:D.int .u8 191=enc (191:UInt8):=rfl
theorem b160:D.int .u8 160=enc (160:UInt8):=rfl
theorem b159:D.int .u8 159=enc (159:UInt8):=rfl
theorem b144:D.int .u8 144=enc (144:UInt8):=rfl
theorem b143:D.int .u8 143=enc (143:UInt8):=rfl
theorem b194:D.int .u8 194=enc (194:UInt8):=rfl
theorem b223:D.int .u8 223=enc (223:UInt8):=rfl
theorem b224:D.int .u8 224=enc (224:UInt8):=rfl
theorem b239:D.int .u8 239=enc (239:UInt8):=rfl
theorem b240:D.int .u8 240=enc (240:UInt8):=rfl
theorem b102:D.int .u8 102=enc (102:UInt8):=rfl
theorem b244':D.int .u8 244=enc (244:UInt8):=rfl
def Ba:Con:=Ms (fun (s:List UInt8) (i:Int)=>s.length≤1000000∧0≤i∧i<s.length) (fun s i=>(long1 s i.toNat:Int))
noncomputable def As:Ctx:=⟨tab,lkC [(56,Hs),(69,Th)],60,lkB [],[],false⟩
theorem F4:As.τ=tab:=rfl
theorem Ip:As.Γ=lkC [(56,Hs),(69,Th)]:=rfl
theorem F5:As.dp=60:=rfl
theorem Iq:As.Δ=lkB []:=rfl
theorem Io:As.cuts=[]:=rfl
theorem Im:As.wr=false:=rfl
set_option maxRecDepth 100000 in
theorem good_Long1:Hg Try.prog (54,Ba):=by
 refine ⟨Ke Try.func54 (by kernel_rfl) rfl,?_⟩
 have K:Gu Try.prog As:=Ko G7 Kw (by
  intro p hp
  simp only [bQ,bZ,or_false] at hp
  rcases hp with rfl|rfl
  ·exact Fw
  ·exact good_cont1) (by simp)
 obtain ⟨c,hc⟩:∃ c,Try.f54.body=some c:=⟨_,rfl⟩
 refine Kn K Try.func54 hc [.tmp 4] rfl 67 rfl (fun cvs hpre=>?_)
 change Ba.pre cvs at hpre
 unfold Ba at hpre
 obtain ⟨s,i,rfl,hs,hi0,hi1⟩:=Bb hpre
 obtain ⟨i,rfl⟩:∃ n:Nat,i=n:=⟨i.toNat,by omega⟩
 have hlb:ltB (i:Int) (s.length:Int)=true:=by rw [Hf];exact hi1
 clear hpre
 obtain ⟨R,hR⟩:∃ R,long1 s i=R:=⟨_,rfl⟩
 have hR2:=hR
 unfold long1 longAt at hR2
 obtain ⟨c,hc'⟩:∃ c,s.getD i 0=c:=⟨_,rfl⟩
 rw [hc'] at hR2
 have z0:ltB (c.toNat:Int) 128=decide (c<128):=lt_u8 (b:=128)
 have z1:((c.toNat:Int)==224)=(c==224):=Ds (b:=224)
 have z2:((c.toNat:Int)==237)=(c==237):=Ds (b:=237)
 have z3:((c.toNat:Int)==240)=(c==240):=Ds (b:=240)
 have z4:((c.toNat:Int)==244)=(c==244):=Ds (b:=244)
 have y0:ltB (c.toNat:Int) ((128:UInt8).toNat:Int)=decide (c<128):=lt_u8
 have y1:((c.toNat:Int)==((224:UInt8).toNat:Int))=(c==224):=Ds
 have y3:((c.toNat:Int)==((240:UInt8).toNat:Int))=(c==240):=Ds
 by_cases h128:c<128
 ·rw [if_pos h128] at hR2
  subst hR2
  have w0:decide (c<128)=true:=decide_eq_true h128
  simp only [Try.f54,aZ] at hc
  subst hc
  refine Gf 4 (of_decide_eq_true (by kernel_rfl)) ?_
  (sym=>simp [hlb,hc',z0,w0,hR,aX,Kq,U9,G9,Kf,Kg,K8,F4,F5,Ba.eq_def,Zb,Zc,Ze,Zf,Zz,Qd,Qf,Qp,Qq,Qr,Qs,Qu,Qv,Qw,Qx,Q1,Jd,Jj,Jq,Jr,Js,Jt,Jv,Jy,J2,J6,J7,Xe,Xj,Xl,Xm,Xq,Xr,Xu,Xw,Xx,X6,X7,X8,X9,Wc,Wf,Wj,Wl,Wo,Wp,Wt,Wv,Wx,Wz,W1,Yc,Ye,Yn,Yo,Yr,Ys,Yt,Yu,Yv,Yw,Yx,Yy,Y9,Vh,Vj,Vy,V0,V1,V2,V5,V6,U5,Pd,Kh];tactic =>
   try simp only [Uq] at *;try simp only [nc2] at *
   try simp (maxSteps:=4000000) only [hlb,hc',z0,w0,hR,aX,Kq,U9,G9,Kf,Kg,K8,U6]
   repeat' first|with_reducible assumption|with_reducible apply And.intro|intro _|omega|(rw [Uk];omega)
   all_goals first|with_reducible exact okq|omega|rfl|skip)
 rw [if_neg h128] at hR2
 have w0:decide (c<128)=false:=decide_eq_false h128
 obtain ⟨p2,g2⟩:∃ b,P5 c 194 223=b:=⟨_,rfl⟩
 obtain ⟨q2,k2⟩:∃ b,Rz s ((i:Int)+1) 128 191=b:=⟨_,rfl⟩
 obtain ⟨p3,g3⟩:∃ b,P5 c 224 239=b:=⟨_,rfl⟩
 obtain ⟨r3,m3⟩:∃ b,Rz s ((i:Int)+2) 128 191=b:=⟨_,rfl⟩
 obtain ⟨p4,g4⟩:∃ b,P5 c 240 244=b:=⟨_,rfl⟩
 obtain ⟨t4,n4⟩:∃ b,Rz s ((i:Int)+3) 128 191=b:=⟨_,rfl⟩
 rw [g2,k2,g3,m3,g4,n4] at hR2
 by_cases h224:c=224
 ·have v224:(c==224)=true:=beq_iff_eq.2 h224
  have v237:(c==237)=false:=beq_eq_false_iff_ne.2 (by rw [h224];decide)
  have v240:(c==240)=false:=beq_eq_false_iff_ne.2 (by rw [h224];decide)
  have v244:(c==244)=false:=beq_eq_false_iff_ne.2 (by rw [h224];decide)
  rw [if_pos h224] at hR2
  rw [if_neg (show ¬ c=237 by rw [h224];decide)] at hR2
  rw [if_neg (show ¬ c=240 by rw [h224];decide)] at hR2
  rw [if_neg (show ¬ c=244 by rw [h224];decide)] at hR2
  obtain ⟨q3,k3⟩:∃ b,Rz s ((i:Int)+1) 160 191=b:=⟨_,rfl⟩
  rw [k3] at hR2
  try rw [k2] at hR2
  simp only [Try.f54,aZ] at hc
  subst hc
  refine Gf 4 (of_decide_eq_true (by kernel_rfl)) ?_
  (sym=>simp [hlb,hc',z0,w0,z1,z2,z3,z4,y0,y1,y3,v224,v237,v240,v244,g2,k2,g3,m3,g4,n4,k3,hR,aX,lZ,b128,b191,b160,b159,b144,b143,b194,b223,b224,b239,b240,b244',Kq,U9,G9,Kf,Kg,K8,F4,Ip,F5,Iq,Io,Im,Ba.eq_def,Th.eq_def,Hs.eq_def,Zb,Zc,Zd,Ze,Zf,Zt,Zz,Qb,Qd,Qf,Qg,Qh,Qp,Qq,Qr,Qs,Qu,Qv,Qw,Qx,Q1,Q8,Jc,Jd,Je,Jf,Jj,Jq,Jr,Js,Jt,Ju,Jv,Jw,Jx,Jy,Jz,J2,J6,J7,Xe,Xf,Xi,Xj,Xl,Xm,Xq,Xr,Xu,Xw,Xx,X6,X7,X8,X9,Wb,Wc,Wd,Wf,Wj,Wl,Wm,Wn,Wo,Wp,Wt,Wv,Wx,Wz,W1,Yc,Yd,Ye,Yn,Yo,Yp,Yq,Yr,Ys,Yt,Yu,Yv,Yw,Yx,Yy,Yz,Y2,Y3,Y4,Y9,Vj,Vk,Vy,Vz,V0,V1,V2,V5,V6,U5,Pd,Kh];tactic =>
   try simp only [Uq] at *;try simp only [nc2] at *
   try simp (maxSteps:=4000000) only [hlb,hc',z0,w0,z1,z2,z3,z4,y0,y1,y3,v224,v237,v240,v244,g2,k2,g3,m3,g4,n4,k3,hR,aX,lZ,b128,b191,b160,b159,b144,b143,b194,b223,b224,b239,b240,b244',Kq,U9,G9,Kf,Kg,K8,U6]
   repeat' first|with_reducible assumption|with_reducible apply And.intro|intro _|omega|(rw [Uk];omega)
   all_goals first|with_reducible exact okq|omega|(rw [Uk];omega)|(symm;rw [←hR2];clear hR2 hR K;simp_all;done)|(rw [←hR2];clear hR2 hR K;simp_all;done)|skip)
 by_cases h237:c=237
 ·have v224:(c==224)=false:=beq_eq_false_iff_ne.2 (by rw [h237];decide)
  have v237:(c==237)=true:=beq_iff_eq.2 h237
  have v240:(c==240)=false:=beq_eq_false_iff_ne.2 (by rw [h237];decide)
  have v244:(c==244)=false:=beq_eq_false_iff_ne.2 (by rw [h237];decide)
  rw [if_neg (show ¬ c=224 by rw [h237];decide)] at hR2
  rw [if_pos h237] at hR2
  rw [if_neg (show ¬ c=240 by rw [h237];decide)] at hR2
  rw [if_neg (show ¬ c=244 by rw [h237];decide)] at hR2
  obtain ⟨q3,k3⟩:∃ b,Rz s ((i:Int)+1) 128 159=b:=⟨_,rfl⟩
  rw [k3] at hR2
  try rw [k2] at hR2
  simp only [Try.f54,aZ] at hc
  subst hc
  refine Gf 4 (of_decide_eq_true (by kernel_rfl)) ?_
  (sym=>simp [hlb,hc',z0,w0,z1,z2,z3,z4,y0,y1,y3,v224,v237,v240,v244,g2,k2,g3,m3,g4,n4,k3,hR,aX,lZ,b128,b191,b160,b159,b144,b143,b194,b223,b224,b239,b240,b244',Kq,U9,G9,Kf,Kg,K8,F4,Ip,F5,Iq,Io,Im,Ba.eq_def,Th.eq_def,Hs.eq_def,Zb,Zc,Zd,Ze,Zf,Zt,Zz,Qb,Qd,Qf,Qg,Qh,Qp,Qq,Qr,Qs,Qu,Qv,Qw,Qx,Q1,Q8,Jc,Jd,Je,Jf,Jj,Jq,Jr,Js,Jt,Ju,Jv,Jw,Jx,Jy,Jz,J2,J6,J7,Xe,Xf,Xi,Xj,Xl,Xm,Xq,Xr,Xu,Xw,Xx,X6,X7,X8,X9,Wb,Wc,Wd,Wf,Wj,Wl,Wm,Wn,Wo,Wp,Wt,Wv,Wx,Wz,W1,Yc,Yd,Ye,Yn,Yo,Yp,Yq,Yr,Ys,Yt,Yu,Yv,Yw,Yx,Yy,Yz,Y2,Y3,Y4,Y9,Vj,Vk,Vy,Vz,V0,V1,V2,V5,V6,U5,Pd,Kh];tactic =>
   try simp only [Uq] at *;try simp only [nc2] at *
   try simp (maxSteps:=4000000) only [hlb,hc',z0,w0,z1,z2,z3,z4,y0,y1,y3,v224,v237,v240,v244,g2,k2,g3,m3,g4,n4,k3,hR,aX,lZ,b128,b191,b160,b159,b144,b143,b194,b223,b224,b239,b240,b244',Kq,U9,G9,Kf,Kg,K8,U6]
   repeat' first|with_reducible assumption|with_reducible apply And.intro|intro _|omega|(rw [Uk];omega)
   all_goals first|with_reducible exact okq|omega|(rw [Uk];omega)|(symm;rw [←hR2];clear hR2 hR K;simp_all;done)|(rw [←hR2];clear hR2 hR K;simp_all;done)|skip)
 by_cases h240:c=240
 ·have v224:(c==224)=false:=beq_eq_false_iff_ne.2 (by rw [h240];decide)
  have v237:(c==237)=false:=beq_eq_false_iff_ne.2 (by rw [h240];decide)
  have v240:(c==240)=true:=beq_iff_eq.2 h240
  have v244:(c==244)=false:=beq_eq_false_iff_ne.2 (by rw [h240];decide)
  rw [if_neg (show ¬ c=224 by rw [h240];decide)] at hR2
  rw [if_neg (show ¬ c=237 by rw [h240];decide)] at hR2
  rw [if_pos h240] at hR2
  rw [if_neg (show ¬ c=244 by rw [h240];decide)] at hR2
  obtain ⟨q4,k4⟩:∃ b,Rz s ((i:Int)+1) 144 191=b:=⟨_,rfl⟩
  rw [k4] at hR2
  try rw [k2] at hR2
  simp only [Try.f54,aZ] at hc
  subst hc
  refine Gf 4 (of_decide_eq_true (by kernel_rfl)) ?_
  (sym=>simp [hlb,hc',z0,w0,z1,z2,z3,z4,y0,y1,y3,v224,v237,v240,v244,g2,k2,g3,m3,g4,n4,k4,hR,aX,lZ,b128,b191,b160,b159,b144,b143,b194,b223,b224,b239,b240,b244',Kq,U9,G9,Kf,Kg,K8,F4,Ip,F5,Iq,Io,Im,Ba.eq_def,Th.eq_def,Hs.eq_def,Zb,Zc,Zd,Ze,Zf,Zt,Zz,Qb,Qd,Qf,Qg,Qh,Qp,Qq,Qr,Qs,Qu,Qv,Qw,Qx,Q1,Q8,Jc,Jd,Je,Jf,Jj,Jq,Jr,Js,Jt,Ju,Jv,Jw,Jx,Jy,Jz,J2,J6,J7,Xe,Xf,Xi,Xj,Xl,Xm,Xq,Xr,Xu,Xw,Xx,X6,X7,X8,X9,Wb,Wc,Wd,Wf,Wj,Wl,Wm,Wn,Wo,Wp,Wt,Wv,Wx,Wz,W1,Yc,Yd,Ye,Yn,Yo,Yp,Yq,Yr,Ys,Yt,Yu,Yv,Yw,Yx,Yy,Yz,Y2,Y3,Y4,Y9,Vj,Vk,Vy,Vz,V0,V1,V2,V5,V6,U5,Pd,Kh];tactic =>
   try simp only [Uq] at *;try simp only [nc2] at *
   try simp (maxSteps:=4000000) only [hlb,hc',z0,w0,z1,z2,z3,z4,y0,y1,y3,v224,v237,v240,v244,g2,k2,g3,m3,g4,n4,k4,hR,aX,lZ,b128,b191,b160,b159,b144,b143,b194,b223,b224,b239,b240,b244',Kq,U9,G9,Kf,Kg,K8,U6]
   repeat' first|with_reducible assumption|with_reducible apply And.intro|intro _|omega|(rw [Uk];omega)
   all_goals first|with_reducible exact okq|omega|(rw [Uk];omega)|(symm;rw [←hR2];clear hR2 hR K;simp_all;done)|(rw [←hR2];clear hR2 hR K;simp_all;done)|skip)
 by_cases h244:c=244
 ·have v224:(c==224)=false:=beq_eq_false_iff_ne.2 (by rw [h244];decide)
  have v237:(c==237)=false:=beq_eq_false_iff_ne.2 (by rw [h244];decide)
  have v240:(c==240)=false:=beq_eq_false_iff_ne.2 (by rw [h244];decide)
  have v244:(c==244)=true:=beq_iff_eq.2 h244
  rw [if_neg (show ¬ c=224 by rw [h244];decide)] at hR2
  rw [if_neg (show ¬ c=237 by rw [h244];decide)] at hR2
  rw [if_neg (show ¬ c=240 by rw [h244];decide)] at hR2
  rw [if_pos h244] at hR2
  obtain ⟨q4,k4⟩:∃ b,Rz s ((i:Int)+1) 128 143=b:=⟨_,rfl⟩
  rw [k4] at hR2
  try rw [k2] at hR2
  simp only [Try.f54,aZ] at hc
  subst hc
  refine Gf 4 (of_decide_eq_true (by kernel_rfl)) ?_
  (sym=>simp [hlb,hc',z0,w0,z1,z2,z3,z4,y0,y1,y3,v224,v237,v240,v244,g2,k2,g3,m3,g4,n4,k4,hR,aX,lZ,b128,b191,b160,b159,b144,b143,b194,b223,b224,b239,b240,b244',Kq,U9,G9,Kf,Kg,K8,F4,Ip,F5,Iq,Io,Im,Ba.eq_def,Th.eq_def,Hs.eq_def,Zb,Zc,Zd,Ze,Zf,Zt,Zz,Qb,Qd,Qf,Qg,Qh,Qp,Qq,Qr,Qs,Qu,Qv,Qw,Qx,Q1,Q8,Jc,Jd,Je,Jf,Jj,Jq,Jr,Js,Jt,Ju,Jv,Jw,Jx,Jy,Jz,J2,J6,J7,Xe,Xf,Xi,Xj,Xl,Xm,Xq,Xr,Xu,Xw,Xx,X6,X7,X8,X9,Wb,Wc,Wd,Wf,Wj,Wl,Wm,Wn,Wo,Wp,Wt,Wv,Wx,Wz,W1,Yc,Yd,Ye,Yn,Yo,Yp,Yq,Yr,Ys,Yt,Yu,Yv,Yw,Yx,Yy,Yz,Y2,Y3,Y4,Y9,Vj,Vk,Vy,Vz,V0,V1,V2,V5,V6,U5,Pd,Kh];tactic =>
   try simp only [Uq] at *;try simp only [nc2] at *
   try simp (maxSteps:=4000000) only [hlb,hc',z0,w0,z1,z2,z3,z4,y0,y1,y3,v224,v237,v240,v244,g2,k2,g3,m3,g4,n4,k4,hR,aX,lZ,b128,b191,b160,b159,b144,b143,b194,b223,b224,b239,b240,b244',Kq,U9,G9,Kf,Kg,K8,U6]
   repeat' first|with_reducible assumption|with_reducible apply And.intro|intro _|omega|(rw [Uk];omega)
   all_goals first|with_reducible exact okq|omega|(rw [Uk];omega)|(symm;rw [←hR2];clear hR2 hR K;simp_all;done)|(rw [←hR2];clear hR2 hR K;simp_all;done)|skip)
 have v224:(c==224)=false:=beq_eq_false_iff_ne.2 h224
 have v237:(c==237)=false:=beq_eq_false_iff_ne.2 h237
 have v240:(c==240)=false:=beq_eq_false_iff_ne.2 h240
 have v244:(c==244)=false:=beq_eq_false_iff_ne.2 h244
 rw [if_neg h224] at hR2
 rw [if_neg h237] at hR2
 rw [if_neg h240] at hR2
 rw [if_neg h244] at hR2
 try rw [k2] at hR2
 simp only [Try.f54,aZ] at hc
 subst hc
 refine Gf 4 (of_decide_eq_true (by kernel_rfl)) ?_
 (sym=>simp [hlb,hc',z0,w0,z1,z2,z3,z4,y0,y1,y3,v224,v237,v240,v244,g2,k2,g3,m3,g4,n4,hR,aX,lZ,b128,b191,b160,b159,b144,b143,b194,b223,b224,b239,b240,b244',Kq,U9,G9,Kf,Kg,K8,F4,Ip,F5,Iq,Io,Im,Ba.eq_def,Th.eq_def,Hs.eq_def,Zb,Zc,Zd,Ze,Zf,Zt,Zz,Qb,Qd,Qf,Qg,Qh,Qp,Qq,Qr,Qs,Qu,Qv,Qw,Qx,Q1,Q8,Jc,Jd,Je,Jf,Jj,Jq,Jr,Js,Jt,Ju,Jv,Jw,Jx,Jy,Jz,J2,J6,J7,Xe,Xf,Xi,Xj,Xl,Xm,Xq,Xr,Xu,Xw,Xx,X6,X7,X8,X9,Wb,Wc,Wd,Wf,Wj,Wl,Wm,Wn,Wo,Wp,Wt,Wv,Wx,Wz,W1,Yc,Yd,Ye,Yn,Yo,Yp,Yq,Yr,Ys,Yt,Yu,Yv,Yw,Yx,Yy,Yz,Y2,Y3,Y4,Y9,Vj,Vk,Vy,Vz,V0,V1,V2,V5,V6,U5,Pd,Kh];tactic =>
  try simp only [Uq] at *;try simp only [nc2] at *
  try simp (maxSteps:=4000000) only [hlb,hc',z0,w0,z1,z2,z3,z4,y0,y1,y3,v224,v237,v240,v244,g2,k2,g3,m3,g4,n4,hR,aX,lZ,b128,b191,b160,b159,b144,b143,b194,b223,b224,b239,b240,b244',Kq,U9,G9,Kf,Kg,K8,U6]
  repeat' first|with_reducible assumption|with_reducible apply And.intro|intro _|omega|(rw [Uk];omega)
  all_goals first|with_reducible exact okq|omega|(rw [Uk];omega)|(symm;rw [←hR2];clear hR2 hR K;simp_all;done)|(rw [←hR2];clear hR2 hR K;simp_all;done)|skip)
theorem inR_u8 {n:Int}:inR .u8 n↔0≤n∧n≤255:=by
 unfold inR
 have h1:IntKind.min .u8=0:=by decide
 have h2:IntKind.max .u8=255:=by decide
 rw [h1,h2]
def Br:Con:=L9 (fun (_:UInt8)=>True) (fun c=>six1 c)
noncomputable def Eb:Ctx:=⟨tab,lkC [(56,Hs)],60,lkB [],[],false⟩
theorem ctx_sixteen1_t:Eb.τ=tab:=rfl
theorem ctx_sixteen1_c:Eb.Γ=lkC [(56,Hs)]:=rfl
theorem ctx_sixteen1_d:Eb.dp=60:=rfl
theorem ctx_sixteen1_b:Eb.Δ=lkB []:=rfl
theorem ctx_sixteen1_w:Eb.wr=false:=rfl
set_option maxRecDepth 100000 in
theorem good_sixteen1:Hg Try.prog (70,Br):=by
 refine ⟨Ke Try.func70 (by kernel_rfl) rfl,?_⟩
 have K:Gu Try.prog Eb:=Ko G7 Kw (by
  intro p hp
  simp only [bQ,bZ,or_false] at hp
  rcases hp with rfl
  ·exact Fw) (by simp)
 obtain ⟨c,hc⟩:∃ c,Try.f70.body=some c:=⟨_,rfl⟩
 refine Kn K Try.func70 hc [.tmp 2] rfl 14 rfl (fun cvs hpre=>?_)
 change Br.pre cvs at hpre
 unfold Br at hpre
 obtain ⟨c,rfl,-⟩:=Mt hpre
 clear hpre
 obtain ⟨R,hR⟩:∃ R,six1 c=R:=⟨_,rfl⟩
 have hR2:=hR
 unfold six1 at hR2
 have n48:((48:UInt8).toNat:Int)=48:=rfl
 have n97:((97:UInt8).toNat:Int)=97:=rfl
 have w1:P5 c 48 57=true→48≤c.toNat∧c.toNat≤57:=fun h=>by
  unfold P5 at h
  simp only [bX,decide_eq_true_eq,UInt8.le_iff_toNat_le] at h
  exact h
 have w2:P5 c 97 102=true→97≤c.toNat∧c.toNat≤102:=fun h=>by
  unfold P5 at h
  simp only [bX,decide_eq_true_eq,UInt8.le_iff_toNat_le] at h
  exact h
 cases h1:P5 c 48 57 with
 | true =>
  have w3:=w1 h1
  rw [if_pos h1] at hR2
  simp only [Try.f70,aZ] at hc
  subst hc
  (sym=>simp [h1,n48,hR,b48,b57,Kq,U9,G9,Kf,Kg,K8,ctx_sixteen1_t,ctx_sixteen1_c,ctx_sixteen1_d,ctx_sixteen1_b,ctx_sixteen1_w,Br.eq_def,Hs.eq_def,Za,Zb,Zc,Ze,Zf,Z9,Qb,Qd,Qf,Qg,Qh,Qp,Qq,Qr,Qs,Qu,Qv,Qw,Qx,Q1,Q8,Jc,Jd,Je,Jj,Jq,Jr,J2,Xd,Xf,Xj,Xl,Xm,Xq,Xr,Xu,Xw,Xx,X6,X7,X8,X9,Wb,Wc,Wd,Wf,Wj,Wl,Wt,Wx,Yc,Yd,Yn,Yo,Yp,Yq,Yr,Ys,Yz,Y4,Vj,Vy,V0,V1,V5,V6,V9,U5,Pd];tactic =>
   try simp only [Uq] at *;try simp only [nc2] at *
   try simp (maxSteps:=4000000) only [h1,n48,hR,b48,b57,Kq,U9,G9,Kf,Kg,K8,U6]
   repeat' first|with_reducible assumption|with_reducible apply And.intro|intro _|omega|(rw [Uk];omega)
   all_goals first|omega|(rw [inR_u8];omega)|skip)
 | false =>
  rw [if_neg (by rw [h1];simp)] at hR2
  cases h2:P5 c 97 102 with
  | true =>
   have w3:=w2 h2
   rw [if_pos h2] at hR2
   simp only [Try.f70,aZ] at hc
   subst hc
   (sym=>simp [h1,h2,n97,hR,b48,b57,b97,b102,Kq,U9,G9,Kf,Kg,K8,ctx_sixteen1_t,ctx_sixteen1_c,ctx_sixteen1_d,ctx_sixteen1_b,ctx_sixteen1_w,Br.eq_def,Hs.eq_def,Za,Zb,Zc,Ze,Zf,Z9,Qb,Qd,Qf,Qg,Qh,Qp,Qq,Qr,Qs,Qu,Qv,Qw,Qx,Q1,Q8,Jc,Jd,Je,Jj,Jq,Jr,J2,Xd,Xf,Xi,Xj,Xl,Xm,Xq,Xr,Xu,Xw,Xx,X6,X7,X8,X9,Wb,Wc,Wd,Wf,Wj,Wl,Wt,Wx,Yc,Yd,Yn,Yo,Yp,Yq,Yr,Ys,Yz,Y4,Vj,Vy,Vz,V0,V1,V5,V6,V9,U5,Pd];tactic =>
    try simp only [Uq] at *;try simp only [nc2] at *
    try simp (maxSteps:=4000000) only [h1,h2,n97,hR,b48,b57,b97,b102,Kq,U9,G9,Kf,Kg,K8,U6]
    repeat' first|with_reducible assumption|with_reducible apply And.intro|intro _|omega|(rw [Uk];omega)
    all_goals first|omega|(rw [inR_u8];omega)|skip)
  | false =>
   rw [if_neg (by rw [h2];simp)] at hR2
   subst hR2
   simp only [Try.f70,aZ] at hc
   subst hc
   (sym=>simp [h1,h2,hR,b48,b57,b97,b102,Kq,U9,G9,Kf,Kg,K8,ctx_sixteen1_c,ctx_sixteen1_d,ctx_sixteen1_b,Br.eq_def,Hs.eq_def,Za,Zb,Zc,Ze,Zf,Qb,Qg,Qh,Qp,Qq,Qr,Qs,Qu,Qv,Qw,Qx,Q1,Q8,Jc,Jd,Je,Jj,Jq,Jr,J2,Xd,Xf,Xi,Xj,Xl,Xm,Xq,Xr,Xu,Xw,X6,X7,X8,X9,Wb,Wc,Wd,Wf,Wj,Wl,Yc,Yd,Yn,Yo,Yp,Yq,Yr,Ys,Yz,Y4,Vj,Vz,V0,V1,V5,V6,U5,Pd])
def Hx:Con:=con2t (fun (s:List UInt8) (i:Int)=>s.length≤1000000∧0≤i∧i<s.length) (fun s i=>esc1 s i.toNat)
noncomputable def Cv:Ctx:=⟨tab,lkC [(70,Br)],60,lkB [],[],false⟩
theorem Pw:Cv.τ=tab:=rfl
theorem ctx_escaped1_c:Cv.Γ=lkC [(70,Br)]:=rfl
theorem Px:Cv.dp=60:=rfl
theorem ctx_escaped1_b:Cv.Δ=lkB []:=rfl
theorem Bo:Cv.cuts=[]:=rfl
theorem Pv:Cv.wr=false:=rfl
set_option maxRecDepth 100000 in
theorem good_escaped1:Hg Try.prog (55,Hx):=by
 refine ⟨Ke Try.func55 (by kernel_rfl) rfl,?_⟩
 have K:Gu Try.prog Cv:=Ko G7 Kw (by
  intro p hp
  simp only [bQ,bZ,or_false] at hp
  rcases hp with rfl
  ·exact good_sixteen1) (by simp)
 obtain ⟨c,hc⟩:∃ c,Try.f55.body=some c:=⟨_,rfl⟩
 refine Kn K Try.func55 hc [.tmp 4,.tmp 5] rfl 66 rfl (fun cvs hpre=>?_)
 change Hx.pre cvs at hpre
 unfold Hx at hpre
 obtain ⟨s,i,rfl,hs,hi0,hi1⟩:=con2t_pre hpre
 obtain ⟨i,rfl⟩:∃ n:Nat,i=n:=⟨i.toNat,by omega⟩
 clear hpre
 obtain ⟨R,hR⟩:∃ R,esc1 s i=R:=⟨_,rfl⟩
 have hR2:=hR
 unfold esc1 at hR2
 have k1:(i:Int)+1=((i+1:Nat):Int):=rfl
 have k2:(i:Int)+2=((i+2:Nat):Int):=rfl
 have k3:(i:Int)+3=((i+3:Nat):Int):=rfl
 by_cases h1:s.length≤i+1
 ·rw [if_pos h1] at hR2
  have hge:leB (s.length:Int) ((i+1:Nat):Int)=true:=by rw [G4];omega
  subst hR2
  simp only [Try.f55,aZ] at hc
  subst hc
  refine Gf 4 (of_decide_eq_true (by kernel_rfl)) ?_
  (sym=>simp [k1,hge,hR,aX,Kq,U9,G9,Kf,Kg,K8,Pw,Px,Pv,Hx.eq_def,Zb,Zc,Ze,Zf,Z6,Qd,Qf,Qp,Qq,Qr,Qs,Qu,Qv,Qw,Qx,Q1,Jd,Jj,Jq,Jr,Js,Jt,Jv,Jy,J2,J6,J7,Xg,Xj,Xl,Xm,Xq,Xr,Xu,Xw,Xx,X6,X7,X8,X9,Wc,Wf,Wg,Wj,Wl,Wo,Wp,Wt,Wv,Wx,Wz,Yc,Ye,Yn,Yo,Yr,Ys,Yt,Yu,Yv,Yw,Yx,Yy,Y9,Vj,Vl,Vn,Vy,V0,V1,V5,V6,U5,Pd,Kh,tab113];tactic =>
   try simp only [Uq] at *;try simp only [nc2] at *
   try simp (maxSteps:=4000000) only [k1,hge,hR,aX,Kq,U9,G9,Kf,Kg,K8,U6]
   repeat' first|with_reducible assumption|with_reducible apply And.intro|intro _|omega|(rw [Uk];omega)
   all_goals first|omega|rfl|skip)
 rw [if_neg h1] at hR2
 have hge:leB (s.length:Int) ((i+1:Nat):Int)=false:=by rw [←Bool.not_eq_true,G4];omega
 unfold escC at hR2
 obtain ⟨c,hc'⟩:∃ c,s.getD (i+1) 0=c:=⟨_,rfl⟩
 rw [hc'] at hR2
 have z1:((c.toNat:Int)==92)=(c==92):=Ds (b:=92)
 have z2:((c.toNat:Int)==34)=(c==34):=Ds (b:=34)
 have z3:((c.toNat:Int)==110)=(c==110):=Ds (b:=110)
 have z4:((c.toNat:Int)==116)=(c==116):=Ds (b:=116)
 have z5:((c.toNat:Int)==120)=(c==120):=Ds (b:=120)
 have hlt1:i+1<s.length:=by omega
 by_cases h92:c=92
 ·rw [if_pos (.inl h92)] at hR2
  have v1:(c==92)=true:=beq_iff_eq.2 h92
  subst hR2
  simp only [Try.f55,aZ] at hc
  subst hc
  refine Gf 4 (of_decide_eq_true (by kernel_rfl)) ?_
  (sym=>simp [k1,k2,hge,hc',z1,v1,hR,aX,Kq,U9,G9,Kf,Kg,K8,Pw,Px,Bo,Pv,Hx.eq_def,Zb,Zc,Ze,Zf,Zg,Zz,Z0,Z6,Qd,Qf,Ql,Qp,Qq,Qr,Qs,Qu,Qv,Qw,Qx,Q1,Jd,Jf,Jj,Jq,Jr,Js,Jt,Jv,Jw,Jy,Jz,J2,J6,J7,Xg,Xi,Xj,Xl,Xm,Xn,Xq,Xr,Xu,Xw,Xx,X6,X7,X8,X9,Wc,Wf,Wg,Wj,Wl,Wo,Wp,Wt,Wv,Wx,Wz,W1,Yc,Ye,Yn,Yo,Yr,Ys,Yt,Yu,Yv,Yw,Yx,Yy,Y9,Vj,Vl,Vn,Vy,Vz,V0,V1,V2,V5,V6,U5,Pd,Kh,tab113];tactic =>
   try simp only [Uq] at *;try simp only [nc2] at *
   try simp (maxSteps:=4000000) only [k1,k2,hge,hc',z1,v1,hR,aX,Kq,U9,G9,Kf,Kg,K8,U6]
   repeat' first|with_reducible assumption|with_reducible apply And.intro|intro _|omega|(rw [Uk];omega)
   all_goals first|omega|rfl|skip)
 have v1:(c==92)=false:=beq_eq_false_iff_ne.2 h92
 by_cases h34:c=34
 ·rw [if_pos (.inr h34)] at hR2
  have v2:(c==34)=true:=beq_iff_eq.2 h34
  subst hR2
  simp only [Try.f55,aZ] at hc
  subst hc
  refine Gf 4 (of_decide_eq_true (by kernel_rfl)) ?_
  (sym=>simp [k1,k2,hge,hc',z1,v1,z2,v2,hR,aX,Kq,U9,G9,Kf,Kg,K8,Pw,Px,Bo,Pv,Hx.eq_def,Zb,Zc,Ze,Zf,Zg,Zz,Z0,Z6,Qd,Qf,Ql,Qp,Qq,Qr,Qs,Qu,Qv,Qw,Qx,Q1,Jd,Jf,Jj,Jq,Jr,Js,Jt,Jv,Jw,Jy,Jz,J2,J6,J7,Xg,Xi,Xj,Xl,Xm,Xn,Xq,Xr,Xu,Xw,Xx,X6,X7,X8,X9,Wc,Wf,Wg,Wj,Wl,Wo,Wp,Wt,Wv,Wx,Wz,W1,Yc,Ye,Yn,Yo,Yr,Ys,Yt,Yu,Yv,Yw,Yx,Yy,Y9,Vj,Vl,Vn,Vy,Vz,V0,V1,V2,V5,V6,U5,Pd,Kh,tab113];tactic =>
   try simp only [Uq] at *;try simp only [nc2] at *
   try simp (maxSteps:=4000000) only [k1,k2,hge,hc',z1,v1,z2,v2,hR,aX,Kq,U9,G9,Kf,Kg,K8,U6]
   repeat' first|with_reducible assumption|with_reducible apply And.intro|intro _|omega|(rw [Uk];omega)
   all_goals first|omega|rfl|skip)
 have v2:(c==34)=false:=beq_eq_false_iff_ne.2 h34
 rw [if_neg (by simp [h92,h34])] at hR2
 by_cases h110:c=110
 ·rw [if_pos h110] at hR2
  have v3:(c==110)=true:=beq_iff_eq.2 h110
  subst hR2
  simp only [Try.f55,aZ] at hc
  subst hc
  refine Gf 4 (of_decide_eq_true (by kernel_rfl)) ?_
  (sym=>simp [k1,k2,hge,hc',z1,v1,z2,v2,z3,v3,hR,aX,Kq,U9,G9,Kf,Kg,K8,Pw,Px,Bo,Pv,Hx.eq_def,Zb,Zc,Ze,Zf,Zg,Zz,Z6,Qd,Qf,Qp,Qq,Qr,Qs,Qu,Qv,Qw,Qx,Q1,Jd,Jf,Jj,Jq,Jr,Js,Jt,Jv,Jw,Jy,Jz,J2,J6,J7,Xg,Xi,Xj,Xl,Xm,Xn,Xq,Xr,Xu,Xw,Xx,X6,X7,X8,X9,Wc,Wf,Wg,Wj,Wl,Wo,Wp,Wt,Wv,Wx,Wz,W1,Yc,Ye,Yn,Yo,Yr,Ys,Yt,Yu,Yv,Yw,Yx,Yy,Y9,Vj,Vl,Vn,Vy,Vz,V0,V1,V2,V5,V6,U5,Pd,Kh,tab113];tactic =>
   try simp only [Uq] at *;try simp only [nc2] at *
   try simp (maxSteps:=4000000) only [k1,k2,hge,hc',z1,v1,z2,v2,z3,v3,hR,aX,Kq,U9,G9,Kf,Kg,K8,U6]
   repeat' first|with_reducible assumption|with_reducible apply And.intro|intro _|omega|(rw [Uk];omega)
   all_goals first|omega|rfl|skip)
 have v3:(c==110)=false:=beq_eq_false_iff_ne.2 h110
 rw [if_neg h110] at hR2
 by_cases h116:c=116
 ·rw [if_pos h116] at hR2
  have v4:(c==116)=true:=beq_iff_eq.2 h116
  subst hR2
  simp only [Try.f55,aZ] at hc
  subst hc
  refine Gf 4 (of_decide_eq_true (by kernel_rfl)) ?_
  (sym=>simp [k1,k2,hge,hc',z1,v1,z2,v2,z3,v3,z4,v4,hR,aX,Kq,U9,G9,Kf,Kg,K8,Pw,Px,Bo,Pv,Hx.eq_def,Zb,Zc,Ze,Zf,Zg,Zz,Z6,Qd,Qf,Qp,Qq,Qr,Qs,Qu,Qv,Qw,Qx,Q1,Jd,Jf,Jj,Jq,Jr,Js,Jt,Jv,Jw,Jy,Jz,J2,J6,J7,Xg,Xi,Xj,Xl,Xm,Xn,Xq,Xr,Xu,Xw,Xx,X6,X7,X8,X9,Wc,Wf,Wg,Wj,Wl,Wo,Wp,Wt,Wv,Wx,Wz,W1,Yc,Ye,Yn,Yo,Yr,Ys,Yt,Yu,Yv,Yw,Yx,Yy,Y9,Vj,Vl,Vn,Vy,Vz,V0,V1,V2,V5,V6,U5,Pd,Kh,tab113];tactic =>
   try simp only [Uq] at *;try simp only [nc2] at *
   try simp (maxSteps:=4000000) only [k1,k2,hge,hc',z1,v1,z2,v2,z3,v3,z4,v4,hR,aX,Kq,U9,G9,Kf,Kg,K8,U6]
   repeat' first|with_reducible assumption|with_reducible apply And.intro|intro _|omega|(rw [Uk];omega)
   all_goals first|omega|rfl|skip)
 have v4:(c==116)=false:=beq_eq_false_iff_ne.2 h116
 rw [if_neg h116] at hR2
 by_cases h120:c=120
 case neg =>
  have v5:(c==120)=false:=beq_eq_false_iff_ne.2 h120
  rw [if_neg (fun h=>h120 h.1)] at hR2
  subst hR2
  simp only [Try.f55,aZ] at hc
  subst hc
  refine Gf 4 (of_decide_eq_true (by kernel_rfl)) ?_
  (sym=>simp [k1,k2,hge,hc',z1,v1,z2,v2,z3,v3,z4,v4,z5,v5,hR,aX,Kq,U9,G9,Kf,Kg,K8,Pw,Px,Bo,Pv,Hx.eq_def,Zb,Zc,Ze,Zf,Zg,Zz,Z6,Qd,Qf,Qp,Qq,Qr,Qs,Qu,Qv,Qw,Qx,Q1,Jd,Jf,Jj,Jq,Jr,Js,Jt,Jv,Jw,Jy,Jz,J2,J6,J7,Xg,Xi,Xj,Xl,Xm,Xn,Xq,Xr,Xu,Xw,Xx,X6,X7,X8,X9,Wc,Wf,Wg,Wj,Wl,Wo,Wp,Wt,Wv,Wx,Wz,W1,Yc,Ye,Yn,Yo,Yr,Ys,Yt,Yu,Yv,Yw,Yx,Yy,Y9,Vj,Vl,Vn,Vz,V0,V1,V2,V5,V6,U5,Pd,Kh,tab113];tactic =>
   try simp only [Uq] at *;try simp only [nc2] at *
   try simp (maxSteps:=4000000) only [k1,k2,hge,hc',z1,v1,z2,v2,z3,v3,z4,v4,z5,v5,hR,aX,Kq,U9,G9,Kf,Kg,K8,U6]
   repeat' first|with_reducible assumption|with_reducible apply And.intro|intro _|omega|(rw [Uk];omega)
   all_goals first|omega|rfl|skip)
 have v5:(c==120)=true:=beq_iff_eq.2 h120
 by_cases h3:i+3<s.length
 case neg =>
  have hl3:ltB ((i+3:Nat):Int) (s.length:Int)=false:=by rw [Hm];omega
  rw [if_neg (fun h=>h3 h.2.1)] at hR2
  subst hR2
  simp only [Try.f55,aZ] at hc
  subst hc
  refine Gf 4 (of_decide_eq_true (by kernel_rfl)) ?_
  (sym=>simp [k1,k2,k3,hge,hl3,hc',z1,v1,z2,v2,z3,v3,z4,v4,z5,v5,hR,aX,Kq,U9,G9,Kf,Kg,K8,Pw,Px,Bo,Pv,Hx.eq_def,Zb,Zc,Zd,Ze,Zf,Zg,Zt,Zz,Z6,Qd,Qf,Qp,Qq,Qr,Qs,Qu,Qv,Qw,Qx,Q1,Jd,Jf,Jj,Jq,Jr,Js,Jt,Jv,Jw,Jy,Jz,J2,J6,J7,Xg,Xi,Xj,Xl,Xm,Xn,Xq,Xr,Xu,Xw,Xx,X6,X7,X8,X9,Wc,Wf,Wg,Wj,Wl,Wm,Wn,Wo,Wp,Wt,Wv,Wx,Wz,W1,Yc,Ye,Yn,Yo,Yr,Ys,Yt,Yu,Yv,Yw,Yx,Yy,Y9,Vj,Vk,Vl,Vn,Vy,Vz,V0,V1,V2,V5,V6,U5,Pd,Kh,tab113];tactic =>
   try simp only [Uq] at *;try simp only [nc2] at *
   try simp (maxSteps:=4000000) only [k1,k2,k3,hge,hl3,hc',z1,v1,z2,v2,z3,v3,z4,v4,z5,v5,hR,aX,Kq,U9,G9,Kf,Kg,K8,U6]
   repeat' first|with_reducible assumption|with_reducible apply And.intro|intro _|omega|(rw [Uk];omega)
   all_goals first|omega|rfl|skip)
 have hl3:ltB ((i+3:Nat):Int) (s.length:Int)=true:=by rw [Hf];omega
 obtain ⟨a,ha⟩:∃ c,s.getD (i+2) 0=c:=⟨_,rfl⟩
 obtain ⟨b,hb⟩:∃ c,s.getD (i+3) 0=c:=⟨_,rfl⟩
 rw [ha,hb] at hR2
 have ga:=six1_le (c:=a)
 have gb:=six1_le (c:=b)
 obtain ⟨x,hx⟩:∃ x,six1 a=x:=⟨_,rfl⟩
 obtain ⟨y,hy⟩:∃ y,six1 b=y:=⟨_,rfl⟩
 rw [hx] at ga
 rw [hy] at gb
 rw [hx,hy] at hR2
 by_cases hx0:0≤x
 case neg =>
  have lx:leB 0 x=false:=by rw [←Bool.not_eq_true,G4];exact hx0
  rw [if_neg (fun h=>hx0 h.2.2.1)] at hR2
  subst hR2
  simp only [Try.f55,aZ] at hc
  subst hc
  refine Gf 4 (of_decide_eq_true (by kernel_rfl)) ?_
  (sym=>simp [k1,k2,k3,hge,hl3,hc',ha,hb,hx,lx,z1,v1,z2,v2,z3,v3,z4,v4,z5,v5,hR,aX,Kq,U9,G9,Kf,Kg,K8,Pw,ctx_escaped1_c,Px,ctx_escaped1_b,Bo,Pv,Hx.eq_def,Br.eq_def,Zb,Zc,Zd,Ze,Zf,Zg,Zt,Zz,Z6,Qb,Qd,Qf,Qg,Qh,Qp,Qq,Qr,Qs,Qu,Qv,Qw,Qx,Q1,Q8,Jc,Jd,Je,Jf,Jj,Jq,Jr,Js,Jt,Jv,Jw,Jy,Jz,J2,J6,J7,Xd,Xg,Xi,Xj,Xl,Xm,Xn,Xq,Xr,Xu,Xw,Xx,X6,X7,X8,X9,Wb,Wc,Wd,Wf,Wg,Wj,Wl,Wm,Wn,Wo,Wp,Wt,Wv,Wx,Wz,W1,Yc,Ye,Yn,Yo,Yr,Ys,Yt,Yu,Yv,Yw,Yx,Yy,Yz,Y4,Y9,Vj,Vk,Vl,Vn,Vy,Vz,V0,V1,V2,V5,V6,U5,Pd,Kh,tab113];tactic =>
   try simp only [Uq] at *;try simp only [nc2] at *
   try simp (maxSteps:=4000000) only [k1,k2,k3,hge,hl3,hc',ha,hb,hx,lx,z1,v1,z2,v2,z3,v3,z4,v4,z5,v5,hR,aX,Kq,U9,G9,Kf,Kg,K8,U6]
   repeat' first|with_reducible assumption|with_reducible apply And.intro|intro _|omega|(rw [Uk];omega)
   all_goals first|omega|rfl|skip)
 have lx:leB 0 x=true:=by rw [G4];exact hx0
 by_cases hy0:0≤y
 case neg =>
  have ly:leB 0 y=false:=by rw [←Bool.not_eq_true,G4];exact hy0
  rw [if_neg (fun h=>hy0 h.2.2.2)] at hR2
  subst hR2
  simp only [Try.f55,aZ] at hc
  subst hc
  refine Gf 4 (of_decide_eq_true (by kernel_rfl)) ?_
  (sym=>simp [k1,k2,k3,hge,hl3,hc',ha,hb,hx,hy,lx,ly,z1,v1,z2,v2,z3,v3,z4,v4,z5,v5,hR,aX,Kq,U9,G9,Kf,Kg,K8,Pw,ctx_escaped1_c,Px,ctx_escaped1_b,Bo,Pv,Hx.eq_def,Br.eq_def,Zb,Zc,Zd,Ze,Zf,Zg,Zt,Zz,Z6,Qb,Qd,Qf,Qg,Qh,Qp,Qq,Qr,Qs,Qu,Qv,Qw,Qx,Q1,Q8,Jc,Jd,Je,Jf,Jj,Jq,Jr,Js,Jt,Jv,Jw,Jy,Jz,J2,J6,J7,Xd,Xg,Xi,Xj,Xl,Xm,Xn,Xq,Xr,Xu,Xw,Xx,X6,X7,X8,X9,Wb,Wc,Wd,Wf,Wg,Wj,Wl,Wm,Wn,Wo,Wp,Wt,Wv,Wx,Wz,W1,Yc,Ye,Yn,Yo,Yr,Ys,Yt,Yu,Yv,Yw,Yx,Yy,Yz,Y4,Y9,Vj,Vk,Vl,Vn,Vy,Vz,V0,V1,V2,V5,V6,U5,Pd,Kh,tab113];tactic =>
   try simp only [Uq] at *;try simp only [nc2] at *
   try simp (maxSteps:=4000000) only [k1,k2,k3,hge,hl3,hc',ha,hb,hx,hy,lx,ly,z1,v1,z2,v2,z3,v3,z4,v4,z5,v5,hR,aX,Kq,U9,G9,Kf,Kg,K8,U6]
   repeat' first|with_reducible assumption|with_reducible apply And.intro|intro _|omega|(rw [Uk];omega)
   all_goals first|omega|rfl|skip)
 have ly:leB 0 y=true:=by rw [G4];exact hy0
 rw [if_pos ⟨h120,h3,hx0,hy0⟩] at hR2
 subst hR2
 simp only [Try.f55,aZ] at hc
 subst hc
 refine Gf 4 (of_decide_eq_true (by kernel_rfl)) ?_
 (sym=>simp [k1,k2,k3,hge,hl3,hc',ha,hb,hx,hy,lx,ly,z1,v1,z2,v2,z3,v3,z4,v4,z5,v5,hR,aX,Kq,U9,G9,Kf,Kg,K8,Pw,ctx_escaped1_c,Px,ctx_escaped1_b,Bo,Pv,Hx.eq_def,Br.eq_def,Zb,Zc,Zd,Ze,Zf,Zg,Zh,Zi,Zj,Zk,Zl,Zm,Zo,Zr,Zt,Zz,Z1,Z4,Z6,Z9,Qb,Qd,Qf,Qg,Qh,Qp,Qq,Qr,Qs,Qt,Qu,Qv,Qw,Qx,Qy,Qz,Q1,Q4,Q5,Q6,Q7,Q8,Q9,Ja,Jb,Jc,Jd,Je,Jf,Jj,Jq,Jr,Js,Jt,Ju,Jv,Jw,Jx,Jy,Jz,J0,J1,J2,J6,J7,Xd,Xg,Xi,Xj,Xk,Xl,Xm,Xn,Xq,Xr,Xs,Xt,Xu,Xv,Xw,Xx,Xy,X1,X2,X3,X4,X5,X6,X7,X8,X9,Wb,Wc,Wd,Wf,Wg,Wh,Wi,Wj,Wl,Wm,Wn,Wo,Wp,Wt,Wv,Wx,Wz,W1,W2,Yc,Ye,Yn,Yo,Yp,Yq,Yr,Ys,Yt,Yu,Yv,Yw,Yx,Yy,Yz,Y4,Y9,Vi,Vj,Vk,Vl,Vn,Vo,Vy,Vz,V0,V1,V2,V4,V5,V6,V8,V9,Ua,Ub,Uc,Ud,U5,Pd,Kh,tab113];tactic =>
  try simp only [Uq] at *;try simp only [nc2] at *
  try simp (maxSteps:=4000000) only [k1,k2,k3,hge,hl3,hc',ha,hb,hx,hy,lx,ly,z1,v1,z2,v2,z3,v3,z4,v4,z5,v5,hR,aX,Kq,U9,G9,Kf,Kg,K8,U6]
  repeat' first|with_reducible assumption|with_reducible apply And.intro|intro _|omega|(rw [Uk];omega)
  all_goals first|with_reducible exact okq|omega|(rw [Uk];omega)|(rw [inR_u8];omega)|rfl|skip)
def Hl:Con:=Ng (fun (s:List UInt8)=>s.length≤1000000) (fun s=>unq1 s)
theorem pZ:type_of% @Hl.eq_def:=@Hl.eq_def
noncomputable def Cx:Ctx:=⟨tab,lkC [(54,Ba),(55,Hx)],60,lkB [],[],false⟩
theorem Ph:Cx.τ=tab:=rfl
theorem Cb:Cx.Γ=lkC [(54,Ba),(55,Hx)]:=rfl
theorem Pz:Cx.dp=60:=rfl
theorem Cc:Cx.Δ=lkB []:=rfl
theorem Py:Cx.cuts=[]:=rfl
theorem Rp:Cx.wr=false:=rfl
set_option maxRecDepth 100000 in
theorem good_Unquote1:Hg Try.prog (38,Hl):=by
 refine ⟨Ke Try.func38 (by kernel_rfl) rfl,?_⟩
 have K:Gu Try.prog Cx:=Ko G7 Kw (by
  intro p hp
  simp only [bQ,bZ,or_false] at hp
  rcases hp with rfl|rfl
  ·exact good_Long1
  ·exact good_escaped1) (by simp)
 obtain ⟨c,hc⟩:∃ c,Try.f38.body=some c:=⟨_,rfl⟩
 refine Kn K Try.func38 hc [.tmp 2,.tmp 3,.tmp 4] rfl 73 rfl (fun cvs hpre=>?_)
 change Hl.pre cvs at hpre
 unfold Hl at hpre
 obtain ⟨s,rfl,hs⟩:=con1tt_pre hpre
 clear hpre
 obtain ⟨R,hR⟩:∃ R,unq1 s=R:=⟨_,rfl⟩
 have hR2:=hR
 unfold unq1 at hR2
 by_cases h0:s.length=0
 ·rw [if_pos (.inl h0)] at hR2
  have hz:((s.length:Int)==0)=true:=by rw [cQ];omega
  subst hR2
  simp only [Try.f38,aZ] at hc
  subst hc
  refine Gf 4 (of_decide_eq_true (by kernel_rfl)) ?_
  (sym=>simp [hz,hR,mY,Kq,U9,G9,Kf,Kg,K8,Ph,Pz,Py,pZ,Zb,Zc,Zd,Ze,Zf,Zt,Z6,Qd,Qf,Qp,Qq,Qr,Qs,Qu,Qv,Qw,Qx,Q1,Jd,Jf,Jj,Jq,Jr,Js,Jt,Jv,Jw,Jy,Jz,J2,J6,J7,Xj,Xl,Xm,Xq,Xr,Xu,Xw,Xx,X6,X7,X8,X9,Wc,Wf,Wg,Wj,Wl,Wm,Wn,Wo,Wp,Wt,Wv,Wx,Wz,Yc,Ye,Yn,Yo,Yr,Ys,Yt,Yu,Yv,Yw,Yy,Y9,Vj,Vk,Vl,Vn,Vy,Vz,V0,V1,V5,V6,U5,Pd,Kh])
 have hz:((s.length:Int)==0)=false:=by rw [aQ];omega
 obtain ⟨c,hc'⟩:∃ c,s.getD 0 0=c:=⟨_,rfl⟩
 rw [hc'] at hR2
 have z1:((c.toNat:Int) != 34)=(c != 34):=by rw [bne,bne];exact congrArg _ (Ds (b:=34))
 by_cases h34:c=34
 case neg =>
  rw [if_pos (.inr h34)] at hR2
  have v1:(c != 34)=true:=bne_iff_ne.2 h34
  subst hR2
  simp only [Try.f38,aZ] at hc
  subst hc
  refine Gf 4 (of_decide_eq_true (by kernel_rfl)) ?_
  (sym=>simp [hz,hc',z1,v1,hR,mY,Int.toNat_zero,Kq,U9,G9,Kf,Kg,K8,Ph,Pz,Py,pZ,Zb,Zc,Zd,Ze,Zf,Zt,Zz,Z6,Qd,Qf,Qp,Qq,Qr,Qs,Qu,Qv,Qw,Qx,Q1,Jd,Jf,Jj,Jq,Jr,Js,Jt,Jv,Jw,Jy,Jz,J2,J6,J7,Xj,Xl,Xm,Xq,Xr,Xu,Xw,Xx,X6,X7,X8,X9,Wc,Wf,Wg,Wj,Wl,Wm,Wn,Wo,Wp,Wt,Wv,Wx,Wz,W1,Yc,Ye,Yn,Yo,Yr,Ys,Yt,Yu,Yv,Yw,Yy,Y9,Vj,Vk,Vl,Vn,Vy,Vz,V0,V1,V5,V6,U5,Pd,Kh];tactic =>
   try simp only [Uq] at *;try simp only [nc2] at *
   try simp (maxSteps:=4000000) only [hz,hc',z1,v1,hR,mY,Int.toNat_zero,Kq,U9,G9,Kf,Kg,K8,U6]
   repeat' first|with_reducible assumption|with_reducible apply And.intro|intro _|omega|(rw [Uk];omega)
   all_goals first|omega|rfl|skip)
 rw [if_neg (by simp [h0,h34])] at hR2
 have v1:(c != 34)=false:=by rw [h34];rfl
 simp only [Try.f38,aZ] at hc
 subst hc
 refine Gf 4 (of_decide_eq_true (by kernel_rfl)) ?_
 (sym=>simp [hz,hc',z1,v1,mY,Int.toNat_zero,Kq,U9,G9,Kf,Kg,K8,Ph,Py,pZ,Zb,Zc,Zd,Ze,Zf,Zt,Zz,Z6,Qd,Qf,Qs,Qu,Qv,Qw,Qx,Jf,Jj,Jq,Jr,Js,Jt,Jv,Jw,Jy,Jz,J6,J7,Xi,Xj,Xl,Xm,Xn,Xo,Xr,Xu,Xw,Xx,X6,X7,X8,X9,Wc,Wf,Wg,Wj,Wl,Wm,Wn,Wo,Wp,Wt,Wv,Wx,Wz,W1,Yc,Ye,Yn,Yo,Yr,Ys,Yt,Yu,Yv,Yw,Yy,Y9,Vj,Vk,Vl,Vn,Vz,V0,V1,V5,V6,U5,Pd,Kh];tactic =>
  try simp only [Uq] at *;try simp only [nc2] at *
  try simp (maxSteps:=4000000) only [hz,hc',z1,v1,mY,Int.toNat_zero,Kq,U9,G9,Kf,Kg,K8,U6]
  repeat' first|with_reducible assumption|with_reducible apply And.intro|intro _|omega|(rw [Uk];omega)
  all_goals try omega
  refine Kk [2,3,4,7,8,9,10,19,20,21,22,23,24,25,26,27,28,29,30,31,32,33,34,35,36,37,38,39,40,41,42,43,44,45,46,47,48,49,50,51,52,53,54,55,56,57,58,59,60,61,62,63,64,65,66,67,68,69,70,71,72] (fun p:Nat×Nat×List UInt8=>[(5,.d (.str p.2.2)),(6,.d (.int .i64 p.2.1))]) (fun p:Nat×Nat×List UInt8=>[]) (fun p:Nat×Nat×List UInt8=>s.length≤p.1+p.2.1∧1≤p.2.1∧p.2.1≤s.length∧p.2.2.length≤p.2.1∧unqL p.1 s p.2.1 p.2.2=R) (fun p:Nat×Nat×List UInt8=>s.length-p.2.1) (s.length,1,[]) ?_ ?_ ?_
  ·exact ⟨by simp,by simp,by simp only;omega,by simp,hR2⟩
  ·exact wkq
  rintro ⟨f,i,out⟩ ⟨h1,h2,h3,h4,h5⟩
  simp only at h1 h2 h3 h4 h5
  rcases Kt i s.length with ⟨hlt,hlb⟩|⟨hlt,hlb⟩
  ·obtain ⟨f,rfl⟩:∃ g,f=g+1:=⟨f-1,by omega⟩
   rw [unqL,if_neg (by omega)] at h5
   have hlo:=long1_le hlt
   have hes:=esc1_le (s:=s) hlt
   obtain ⟨x,hx⟩:∃ c,s.getD i 0=c:=⟨_,rfl⟩
   rw [hx] at h5
   have y1:((x.toNat:Int)==34)=(x==34):=Ds (b:=34)
   have y2:ltB (x.toNat:Int) 32=decide (x<32):=lt_u8 (b:=32)
   have y3:((x.toNat:Int)==127)=(x==127):=Ds (b:=127)
   have y4:((x.toNat:Int)==92)=(x==92):=Ds (b:=92)
   by_cases hq:x=34
   ·rw [if_pos hq] at h5
    have w1:(x==34)=true:=beq_iff_eq.2 hq
    subst h5
    (sym=>simp [hlb,hx,y1,w1,hR,mY,aX,Kq,U9,G9,Kf,Kg,K8,Ph,Pz,Py,Rp,Zb,Zc,Ze,Zf,Zg,Zz,Z6,Qd,Qf,Qp,Qq,Qr,Qs,Qu,Qv,Qw,Qx,Q1,Jd,Jf,Jl,Jm,Jn,Js,Jt,Jv,Jw,Jx,Jy,Jz,J2,Xi,Xj,Xl,Xm,Xn,Xq,Xr,Xu,Xw,Xx,X6,X7,X8,X9,Wo,Wp,Wr,Wt,Wv,Wx,Wz,W1,Yn,Yo,Yp,Yq,Y9,Vj,Vy,Vz,V0,V1,V2,V5,V6,U5,Pd,Kh];tactic =>
     try simp only [Uq] at *;try simp only [nc2] at *
     try simp (maxSteps:=4000000) only [hlb,hx,y1,w1,hR,mY,aX,Kq,U9,G9,Kf,Kg,K8,U6]
     repeat' first|with_reducible assumption|with_reducible apply And.intro|intro _|omega|(rw [Uk];omega)
     all_goals first|omega|rfl|skip)
   rw [if_neg hq] at h5
   have w1:(x==34)=false:=beq_eq_false_iff_ne.2 hq
   obtain ⟨n,hn⟩:∃ n,long1 s i=n:=⟨_,rfl⟩
   rw [hn] at h5 hlo
   by_cases hbad:n=0∨x<32∨x=127
   ·rw [if_pos hbad] at h5
    subst h5
    by_cases b1:n=0
    ·have w2:((n:Int)==0)=true:=by rw [cQ];omega
     (sym=>simp [hlb,hx,y1,w1,hn,w2,hR,mY,aX,Kq,U9,G9,Kf,Kg,K8,Ph,Cb,Pz,Cc,Py,Ba.eq_def,Hx.eq_def,Zb,Zc,Zd,Ze,Zf,Zg,Zt,Zz,Z6,Qb,Qd,Qf,Qg,Qh,Qp,Qq,Qr,Qs,Qu,Qv,Qw,Qx,Q1,Q8,Jc,Jd,Je,Jf,Jl,Jm,Jn,Js,Jt,Jv,Jw,Jx,Jy,Jz,J2,Xe,Xg,Xi,Xj,Xl,Xm,Xn,Xq,Xr,Xu,Xw,Xx,X6,X7,X8,X9,Wb,Wd,Wf,Wg,Wm,Wn,Wo,Wp,Wr,Wt,Wv,Wx,Wz,W1,Yc,Yn,Yo,Yp,Yq,Yx,Yy,Y2,Y3,Y9,Vj,Vk,Vl,Vn,Vy,Vz,V0,V1,V2,V5,V6,U5,Pd,Kh];tactic =>
      try simp only [Uq] at *;try simp only [nc2] at *
      try simp (maxSteps:=4000000) only [hlb,hx,y1,w1,hn,w2,hR,mY,aX,Kq,U9,G9,Kf,Kg,K8,U6]
      repeat' first|with_reducible assumption|with_reducible apply And.intro|intro _|omega|(rw [Uk];omega)
      all_goals first|omega|rfl|skip)
    have w2:((n:Int)==0)=false:=by rw [aQ];omega
    by_cases b2:x<32
    ·have w3:decide (x<32)=true:=decide_eq_true b2
     (sym=>simp [hlb,hx,y1,w1,hn,w2,y2,w3,hR,mY,aX,Kq,U9,G9,Kf,Kg,K8,Ph,Cb,Pz,Cc,Py,Ba.eq_def,Hx.eq_def,Zb,Zc,Zd,Ze,Zf,Zg,Zt,Zz,Z6,Qb,Qd,Qf,Qg,Qh,Qp,Qq,Qr,Qs,Qu,Qv,Qw,Qx,Q1,Q8,Jc,Jd,Je,Jf,Jl,Jm,Jn,Js,Jt,Jv,Jw,Jx,Jy,Jz,J2,Xe,Xg,Xi,Xj,Xl,Xm,Xn,Xq,Xr,Xu,Xw,Xx,X6,X7,X8,X9,Wb,Wd,Wf,Wg,Wm,Wn,Wo,Wp,Wr,Wt,Wv,Wx,Wz,W1,Yc,Yn,Yo,Yp,Yq,Yx,Yy,Y2,Y3,Y9,Vj,Vk,Vl,Vn,Vy,Vz,V0,V1,V2,V5,V6,U5,Pd,Kh];tactic =>
      try simp only [Uq] at *;try simp only [nc2] at *
      try simp (maxSteps:=4000000) only [hlb,hx,y1,w1,hn,w2,y2,w3,hR,mY,aX,Kq,U9,G9,Kf,Kg,K8,U6]
      repeat' first|with_reducible assumption|with_reducible apply And.intro|intro _|omega|(rw [Uk];omega)
      all_goals first|omega|rfl|skip)
    have w3:decide (x<32)=false:=decide_eq_false b2
    have b3:x=127:=by rcases hbad with h|h|h<;>first|exact h|contradiction
    have w4:(x==127)=true:=beq_iff_eq.2 b3
    (sym=>simp [hlb,hx,y1,w1,hn,w2,y2,w3,y3,w4,hR,mY,aX,Kq,U9,G9,Kf,Kg,K8,Ph,Cb,Pz,Cc,Py,Ba.eq_def,Hx.eq_def,Zb,Zc,Zd,Ze,Zf,Zg,Zt,Zz,Z6,Qb,Qd,Qf,Qg,Qh,Qp,Qq,Qr,Qs,Qu,Qv,Qw,Qx,Q1,Q8,Jc,Jd,Je,Jf,Jl,Jm,Jn,Js,Jt,Jv,Jw,Jx,Jy,Jz,J2,Xe,Xg,Xi,Xj,Xl,Xm,Xn,Xq,Xr,Xu,Xw,Xx,X6,X7,X8,X9,Wb,Wd,Wf,Wg,Wm,Wn,Wo,Wp,Wr,Wt,Wv,Wx,Wz,W1,Yc,Yn,Yo,Yp,Yq,Yx,Yy,Y2,Y3,Y9,Vj,Vk,Vl,Vn,Vy,Vz,V0,V1,V2,V5,V6,U5,Pd,Kh];tactic =>
     try simp only [Uq] at *;try simp only [nc2] at *
     try simp (maxSteps:=4000000) only [hlb,hx,y1,w1,hn,w2,y2,w3,y3,w4,hR,mY,aX,Kq,U9,G9,Kf,Kg,K8,U6]
     repeat' first|with_reducible assumption|with_reducible apply And.intro|intro _|omega|(rw [Uk];omega)
     all_goals first|omega|rfl|skip)
   ·rw [if_neg hbad] at h5
    have w2:((n:Int)==0)=false:=by rw [aQ];intro e;exact hbad (.inl (by omega))
    have w3:decide (x<32)=false:=decide_eq_false fun h=>hbad (.inr (.inl h))
    have w4:(x==127)=false:=beq_eq_false_iff_ne.2 fun h=>hbad (.inr (.inr h))
    have hn1:1≤n:=by have:n≠0:=fun e=>hbad (.inl e);omega
    have kin:(i:Int)+(n:Int)=((i+n:Nat):Int):=rfl
    by_cases he:x=92
    ·rw [if_pos he] at h5
     have w5:(x==92)=true:=beq_iff_eq.2 he
     obtain ⟨⟨et,en⟩,hee⟩:∃ q,esc1 s i=q:=⟨_,rfl⟩
     rw [hee] at h5 hes
     simp only at h5 hes
     by_cases hz0:en=0
     ·rw [if_pos hz0] at h5
      have w6:(en==0)=true:=beq_iff_eq.2 hz0
      subst h5
      (sym=>simp [hlb,hx,y1,w1,hn,w2,y2,w3,y3,w4,y4,w5,hee,w6,kin,hR,mY,aX,Kq,U9,G9,Kf,Kg,K8,Ph,Cb,Pz,Cc,Py,Rp,Ba.eq_def,Hx.eq_def,Zb,Zc,Zd,Ze,Zf,Zg,Zt,Zz,Z0,Z6,Qa,Qb,Qd,Qf,Qg,Qh,Qi,Ql,Qp,Qq,Qr,Qs,Qu,Qv,Qw,Qx,Q1,Q2,Q3,Q8,Jc,Jd,Je,Jf,Jl,Jm,Jn,Js,Jt,Ju,Jv,Jw,Jx,Jy,Jz,J2,Xe,Xg,Xi,Xj,Xl,Xm,Xn,Xq,Xr,Xu,Xw,Xx,X6,X7,X8,X9,Wb,Wd,Wf,Wg,Wj,Wl,Wm,Wn,Wo,Wp,Wr,Wt,Wv,Wx,Wz,W1,Yc,Ye,Yn,Yo,Yp,Yq,Yx,Yy,Y2,Y3,Y9,Vj,Vk,Vl,Vn,Vy,Vz,V0,V1,V2,V5,V6,U5,Pd,Kh];tactic =>
       try simp only [Uq] at *;try simp only [nc2] at *
       try simp (maxSteps:=4000000) only [hlb,hx,y1,w1,hn,w2,y2,w3,y3,w4,y4,w5,hee,w6,kin,hR,mY,aX,Kq,U9,G9,Kf,Kg,K8,U6]
       repeat' first|with_reducible assumption|with_reducible apply And.intro|intro _|omega|(rw [Uk];omega)
       all_goals first|omega|rfl|skip)
     rw [if_neg hz0] at h5
     have w6:(en==0)=false:=beq_eq_false_iff_ne.2 hz0
     obtain ⟨en,rfl⟩:∃ m:Nat,en=m:=⟨en.toNat,by omega⟩
     rw [aX] at h5 hes
     (sym=>simp [hlb,hx,y1,w1,hn,w2,y2,w3,y3,w4,y4,w5,hee,w6,kin,mY,aX,Kq,U9,G9,Kf,Kg,K8,Ph,Cb,Pz,Cc,Py,Rp,Ba.eq_def,Hx.eq_def,Zb,Zc,Zd,Ze,Zf,Zg,Zt,Zz,Z0,Z6,Qa,Qb,Qd,Qf,Qg,Qh,Qi,Ql,Qs,Qu,Qv,Qw,Qx,Q1,Q2,Q3,Q8,Jc,Je,Jf,Jl,Jm,Jn,Js,Jt,Ju,Jv,Jw,Jx,Jy,Jz,J2,Xe,Xg,Xi,Xj,Xl,Xm,Xn,Xr,Xu,Xw,Xx,X6,X7,X8,X9,Wb,Wd,Wf,Wj,Wl,Wm,Wn,Wo,Wp,Wr,Wt,Wv,Wx,Wz,W1,Yc,Ye,Yn,Yo,Yp,Yq,Yx,Yy,Y2,Y3,Y9,Vj,Vk,Vy,Vz,V0,V1,V2,V5,V6,U5,Pd,Kh];tactic =>
      try simp only [Uq] at *;try simp only [nc2] at *
      try simp (maxSteps:=4000000) only [hlb,hx,y1,w1,hn,w2,y2,w3,y3,w4,y4,w5,hee,w6,kin,mY,aX,Kq,U9,G9,Kf,Kg,K8,U6]
      repeat' first|with_reducible assumption|with_reducible apply And.intro|intro _|omega|(rw [Uk];omega)
      all_goals first|omega|(rw [Uk];omega)|(simp only [bY];omega)|exact ⟨(f,i+en,out++et),wkq,by simp only;omega,by simp only;omega,by simp only;omega,by simp only [bY];omega,h5,by simp only;omega⟩|skip)
    ·rw [if_neg he] at h5
     have w5:(x==92)=false:=beq_eq_false_iff_ne.2 he
     have hpl:((s.take (i+n)).drop i).length=n:=by rw [List.length_drop,List.length_take];omega
     (sym=>simp [hlb,hx,y1,w1,hn,w2,y2,w3,y3,w4,y4,w5,kin,mY,aX,Kq,U9,G9,Kf,Kg,K8,Ph,Cb,Pz,Cc,Py,Rp,Ba.eq_def,Hx.eq_def,Zb,Zc,Zd,Ze,Zf,Zg,Zt,Zz,Z0,Z6,Qb,Qd,Qf,Qg,Qh,Ql,Qs,Qu,Qv,Qw,Qx,Q1,Q8,Jc,Je,Jf,Jl,Jm,Jn,Js,Jt,Ju,Jv,Jw,Jx,Jy,Jz,J2,Xe,Xg,Xi,Xj,Xl,Xm,Xn,Xr,Xu,Xw,Xx,X6,X7,X8,X9,Wb,Wd,Wf,Wm,Wn,Wo,Wp,Wr,Wt,Wv,Wx,Wz,W1,Yc,Yn,Yo,Yp,Yq,Yx,Yy,Y2,Y3,Y9,Vj,Vk,Vy,Vz,V0,V1,V2,V5,V6,U5,Pd,Kh];tactic =>
      try simp only [Uq] at *;try simp only [nc2] at *
      try simp (maxSteps:=4000000) only [hlb,hx,y1,w1,hn,w2,y2,w3,y3,w4,y4,w5,kin,mY,aX,Kq,U9,G9,Kf,Kg,K8,U6]
      repeat' first|with_reducible assumption|with_reducible apply And.intro|intro _|omega|(rw [Uk];omega)
      all_goals first|omega|(rw [Uk];omega)|(rw [bY,hpl];omega)|exact ⟨(f,i+n,out++(s.take (i+n)).drop i),wkq,by simp only;omega,by simp only;omega,by simp only;omega,by simp only [bY,hpl];omega,h5,by simp only;omega⟩|skip)
  ·have hil:i=s.length:=by omega
   have hr:R=([],0,2):=by
    rw [←h5]
    cases f with
    | zero=>rfl
    | succ f=>rw [unqL,if_pos (by omega)]
   subst hr
   (sym=>simp [hlb,hR,mY,aX,Kq,U9,G9,Kf,Kg,K8,Ph,Pz,Zb,Zc,Ze,Zf,Zg,Z6,Qd,Qf,Qp,Qq,Qr,Qs,Qu,Qv,Qw,Qx,Q1,Jd,Jl,Jm,Jn,Js,Jt,Jv,Jw,Jx,Jy,Jz,J2,Xj,Xl,Xm,Xp,Xq,Xr,Xu,Xw,Xx,X6,X7,X8,X9,Wg,Wo,Wp,Wr,Wt,Wv,Wx,Wz,Yn,Yo,Yp,Yq,Y9,Vj,Vl,Vn,Vz,V0,V1,V2,V5,V6,U5,Pd,Kh]))
def Au:Con:=Em (Sl.mk keys2)
noncomputable def ctx_keys2:Ctx:=⟨tab,lkC [],60,lkB [],[],false⟩
theorem ctx_keys2_t:ctx_keys2.τ=tab:=rfl
theorem ctx_keys2_d:ctx_keys2.dp=60:=rfl
set_option maxRecDepth 100000 in
theorem good_keys2:Hg Try.prog (58,Au):=by
 refine ⟨Ke Try.func58 (by kernel_rfl) rfl,?_⟩
 have K:Gu Try.prog ctx_keys2:=Ko G7 Kw (by simp) (by simp)
 obtain ⟨c,hc⟩:∃ c,Try.f58.body=some c:=⟨_,rfl⟩
 refine Kn K Try.func58 hc [.tmp 0] rfl 2 rfl (fun cvs hpre=>?_)
 change Au.pre cvs at hpre
 unfold Au at hpre
 obtain rfl:=con0_pre hpre
 simp only [Try.f58,aZ] at hc
 subst hc
 (sym=>simp [ctx_keys2_t,ctx_keys2_d,Au.eq_def,Za,Zb,Zc,Ze,Zf,Zn,Zo,Zr,Z1,Qp,Qq,Qr,Qs,Qu,Qv,Qw,Qx,Q1,Q4,Q5,Q6,Q7,Q9,Ja,Jb,Jd,Jj,Jq,Jr,J0,J1,J2,J4,Xc,Xj,Xl,Xq,Xr,Xu,Xw,Xx,Xy,X1,X6,X7,X8,X9,Wc,Wf,Wg,Wh,Wi,Wj,Wl,W4,Yn,Yo,Yp,Yq,Ys,Vi,Vl,Vm,Vn,Vo,V0,V1,V5,V6,Kh,Gg];tactic =>
  try simp only [Uq] at *;try simp only [nc2] at *
  try simp (maxSteps:=4000000) only [U6]
  repeat' first|with_reducible assumption|with_reducible apply And.intro|intro _|omega|(rw [Uk];omega)
  all_goals first|rfl|skip)
def T1:Con:=Em (Sl.mk signs2)
noncomputable def ctx_signs2:Ctx:=⟨tab,lkC [],60,lkB [],[],false⟩
theorem ctx_signs2_t:ctx_signs2.τ=tab:=rfl
theorem ctx_signs2_d:ctx_signs2.dp=60:=rfl
set_option maxRecDepth 100000 in
theorem good_signs2:Hg Try.prog (59,T1):=by
 refine ⟨Ke Try.func59 (by kernel_rfl) rfl,?_⟩
 have K:Gu Try.prog ctx_signs2:=Ko G7 Kw (by simp) (by simp)
 obtain ⟨c,hc⟩:∃ c,Try.f59.body=some c:=⟨_,rfl⟩
 refine Kn K Try.func59 hc [.tmp 0] rfl 2 rfl (fun cvs hpre=>?_)
 change T1.pre cvs at hpre
 unfold T1 at hpre
 obtain rfl:=con0_pre hpre
 simp only [Try.f59,aZ] at hc
 subst hc
 (sym=>simp [ctx_signs2_t,ctx_signs2_d,T1.eq_def,Za,Zb,Zc,Ze,Zf,Zn,Zo,Zr,Z1,Qp,Qq,Qr,Qs,Qu,Qv,Qw,Qx,Q1,Q4,Q5,Q6,Q7,Q9,Ja,Jb,Jd,Jj,Jq,Jr,J0,J1,J2,J4,Xc,Xj,Xl,Xq,Xr,Xu,Xw,Xx,Xy,X1,X6,X7,X8,X9,Wc,Wf,Wg,Wh,Wi,Wj,Wl,W4,Yn,Yo,Yp,Yq,Ys,Vi,Vl,Vm,Vn,Vo,V0,V1,V5,V6,Kh,Gg];tactic =>
  try simp only [Uq] at *;try simp only [nc2] at *
  try simp (maxSteps:=4000000) only [U6]
  repeat' first|with_reducible assumption|with_reducible apply And.intro|intro _|omega|(rw [Uk];omega)
  all_goals first|rfl|skip)
def Ny:Con:=L9 (fun (_:List UInt8)=>True) (fun s=>isKey2 s)
noncomputable def Fo:Ctx:=⟨tab,lkC [(58,Au)],60,lkB [],[],false⟩
theorem ctx_IsKey2_t:Fo.τ=tab:=rfl
theorem ctx_IsKey2_c:Fo.Γ=lkC [(58,Au)]:=rfl
theorem ctx_IsKey2_d:Fo.dp=60:=rfl
theorem ctx_IsKey2_b:Fo.Δ=lkB []:=rfl
theorem ctx_IsKey2_u:Fo.cuts=[]:=rfl
theorem ctx_IsKey2_w:Fo.wr=false:=rfl
set_option maxRecDepth 100000 in
theorem good_IsKey2:Hg Try.prog (41,Ny):=by
 refine ⟨Ke Try.func41 (by kernel_rfl) rfl,?_⟩
 have K:Gu Try.prog Fo:=Ko G7 Kw (by
  intro p hp
  simp only [bQ,bZ,or_false] at hp
  rcases hp with rfl
  ·exact good_keys2) (by simp)
 obtain ⟨c,hc⟩:∃ c,Try.f41.body=some c:=⟨_,rfl⟩
 refine Kn K Try.func41 hc [.tmp 2] rfl 18 rfl (fun cvs hpre=>?_)
 change Ny.pre cvs at hpre
 unfold Ny at hpre
 obtain ⟨s,rfl,-⟩:=Mt hpre
 clear hpre
 obtain ⟨R,hR⟩:∃ R,isKey2 s=R:=⟨_,rfl⟩
 have hR2:=hR
 unfold isKey2 at hR2
 have hl:keys2.length=18:=rfl
 obtain ⟨l,hll⟩:∃ l,keys2=l:=⟨_,rfl⟩
 rw [hll] at hR2 hl
 have hl3:(l.length:Int)=18:=by rw [hl];rfl
 simp only [Try.f41,aZ] at hc
 subst hc
 (sym=>simp [hll,ctx_IsKey2_c,ctx_IsKey2_b,Ny.eq_def,Au.eq_def,Za,Zb,Zc,Ze,Zf,Qb,Qg,Qh,Qs,Qu,Qv,Qw,Qx,Q1,Q8,Jc,Je,Jj,Jq,Jr,Xc,Xd,Xj,Xl,Xn,Xo,Xr,Xu,Xw,X6,X7,X8,X9,Wb,Wc,Wd,Wf,Wj,Wl,Yd,Ye,Yn,Yo,Yp,Yq,Yr,Ys,Yy,Vj,Vk,V0,V1,V5,V6,U5,Kh,Gg];tactic =>
  try simp only [Uq] at *;try simp only [nc2] at *
  try simp (maxSteps:=4000000) only [hll,U6]
  repeat' first|with_reducible assumption|with_reducible apply And.intro|intro _|omega|(rw [Uk];omega)
  refine Kk [2,6,7,8,9,10,11,12,13,14,15,16,17] (fun k:Nat=>[(4,.d (.int .i64 k))]) (fun k:Nat=>[]) (fun k:Nat=>k≤18∧∀ j,j<k→l.getD j []≠s) (fun k:Nat=>18-k) 0 ?_ ?_ ?_
  ·simp
  ·exact wkq
  rintro k ⟨hk,hno⟩
  by_cases hlt:k<18
  ·have hlb:ltB (k:Int) 18=true:=by rw [Hf];omega
   have q1:=K7 ([]:List UInt8) (show k<l.length by omega)
   have hst:l.getD k []≠s→∀ j,j<k+1→l.getD j []≠s:=fun h=>A1 hno h
   have hit:(l.getD k []==s)=true→R=true:=fun h=>by rw [←hR2];exact any_at (p:=fun o=>o==s) [] k (by omega) h
   obtain ⟨y,hy⟩:∃ y,l.getD k []=y:=⟨_,rfl⟩
   rw [hy] at q1 hst hit
   cases hb:(y==s) with
   | true =>
    have hr:=hit hb
    subst hr
    (sym=>simp [hll,hl3,hlb,q1,hb,hR,ctx_IsKey2_t,ctx_IsKey2_d,ctx_IsKey2_u,Zb,Zc,Ze,Zf,Zg,Zo,Zp,Zq,Zv,Zy,Z6,Qd,Qf,Qp,Qq,Qr,Qs,Qu,Qv,Qw,Qx,Q1,Jd,Jf,Jl,Jm,Jn,J2,Xi,Xj,Xl,Xm,Xn,Xq,Xr,Xu,Xw,Xx,Xy,X6,X7,Wr,Wt,Wv,Wx,Wz,W1,W9,Ye,Yf,Yg,Yl,Yn,Yo,Yp,Yq,Y7,Y9,Va,Vk,Vy,Vz,V0,V1,V2,V3,V5,V6,Ui,U5,Kh,Gg];tactic =>
     try simp only [Uq] at *;try simp only [nc2] at *
     try simp (maxSteps:=4000000) only [hll,hl3,hlb,q1,hb,hR,U6]
     repeat' first|with_reducible assumption|with_reducible apply And.intro|intro _|omega|(rw [Uk];omega)
     all_goals first|with_reducible exact okq|omega|rfl|skip)
   | false =>
    have h2:=hst (beq_eq_false_iff_ne.1 hb)
    (sym=>simp [hll,hl3,hlb,q1,hb,ctx_IsKey2_t,ctx_IsKey2_u,ctx_IsKey2_w,Zb,Zc,Ze,Zf,Zg,Zo,Zp,Zq,Zv,Zy,Z6,Qd,Qf,Qs,Qu,Qv,Qw,Qx,Jf,Jl,Jm,Jn,Xi,Xj,Xl,Xm,Xn,Xr,Xu,Xw,Xx,Xy,X6,X7,Wr,Wt,Wv,Wx,Wz,W1,W9,Ye,Yf,Yg,Yl,Yn,Yo,Yp,Yq,Y7,Y9,Va,Vj,Vy,Vz,V0,V1,V2,V3,V5,V6,Ui,U5,Kh,Gg];tactic =>
     try simp only [Uq] at *;try simp only [nc2] at *
     try simp (maxSteps:=4000000) only [hll,hl3,hlb,q1,hb,U6]
     repeat' first|with_reducible assumption|with_reducible apply And.intro|intro _|omega|(rw [Uk];omega)
     all_goals first|with_reducible exact okq|omega|exact ⟨k+1,wkq,by omega,h2,by omega⟩|skip)
  ·have hlb:ltB (k:Int) 18=false:=by rw [Hm];omega
   have hr:R=false:=by rw [←hR2];exact any_not (p:=fun o=>o==s) [] fun j hj=>beq_eq_false_iff_ne.2 (hno j (by omega))
   subst hr
   (sym=>simp [hll,hl3,hlb,hR,ctx_IsKey2_t,ctx_IsKey2_d,Zb,Zc,Ze,Zf,Zg,Zo,Z6,Qd,Qf,Qp,Qq,Qr,Qs,Qu,Qv,Qw,Qx,Q1,Jd,Jl,Jm,Jn,J2,Xj,Xl,Xm,Xp,Xq,Xr,Xu,Xw,Xx,Xy,X6,X7,Wr,Wt,Wx,Yf,Yg,Yl,Yn,Yo,Yp,Yq,Y9,Va,Vk,Vz,V0,V1,V2,V3,V5,V6,U5,Kh,Gg]))
def Mw:Con:=L9 (fun (_:UInt8)=>True) (fun c=>goes2 c)
theorem within_le {c a b:UInt8}:P5 c a b=(leB (a.toNat:Int) (c.toNat:Int)&&leB (c.toNat:Int) (b.toNat:Int)):=by
 unfold P5
 rw [K8,K8]
noncomputable def ctx_goes2:Ctx:=⟨tab,lkC [],60,lkB [],[],false⟩
theorem ctx_goes2_t:ctx_goes2.τ=tab:=rfl
theorem ctx_goes2_d:ctx_goes2.dp=60:=rfl
theorem ctx_goes2_u:ctx_goes2.cuts=[]:=rfl
set_option maxRecDepth 100000 in
theorem good_goes2:Hg Try.prog (39,Mw):=by
 refine ⟨Ke Try.func39 (by kernel_rfl) rfl,?_⟩
 have K:Gu Try.prog ctx_goes2:=Ko G7 Kw (by simp) (by simp)
 obtain ⟨c,hc⟩:∃ c,Try.f39.body=some c:=⟨_,rfl⟩
 refine Kn K Try.func39 hc [.tmp 2] rfl 29 rfl (fun cvs hpre=>?_)
 change Mw.pre cvs at hpre
 unfold Mw at hpre
 obtain ⟨c,rfl,-⟩:=Mt hpre
 clear hpre
 obtain ⟨R,hR⟩:∃ R,goes2 c=R:=⟨_,rfl⟩
 have hR2:=hR
 unfold goes2 at hR2
 rw [within_le,within_le,within_le] at hR2
 have e1:leB ((97:UInt8).toNat:Int) (c.toNat:Int)=leB 97 (c.toNat:Int):=rfl
 have e2:leB (c.toNat:Int) ((122:UInt8).toNat:Int)=leB (c.toNat:Int) 122:=rfl
 have e3:leB ((65:UInt8).toNat:Int) (c.toNat:Int)=leB 65 (c.toNat:Int):=rfl
 have e4:leB (c.toNat:Int) ((90:UInt8).toNat:Int)=leB (c.toNat:Int) 90:=rfl
 have e5:leB ((48:UInt8).toNat:Int) (c.toNat:Int)=leB 48 (c.toNat:Int):=rfl
 have e6:leB (c.toNat:Int) ((57:UInt8).toNat:Int)=leB (c.toNat:Int) 57:=rfl
 rw [e1,e2,e3,e4,e5,e6] at hR2
 have z:((c.toNat:Int)==95)=(c==95):=Ds (b:=95)
 obtain ⟨b1,h1⟩:∃ b,leB 97 (c.toNat:Int)=b:=⟨_,rfl⟩
 obtain ⟨b2,h2⟩:∃ b,leB (c.toNat:Int) 122=b:=⟨_,rfl⟩
 obtain ⟨b3,h3⟩:∃ b,leB 65 (c.toNat:Int)=b:=⟨_,rfl⟩
 obtain ⟨b4,h4⟩:∃ b,leB (c.toNat:Int) 90=b:=⟨_,rfl⟩
 obtain ⟨b5,h5⟩:∃ b,leB 48 (c.toNat:Int)=b:=⟨_,rfl⟩
 obtain ⟨b6,h6⟩:∃ b,leB (c.toNat:Int) 57=b:=⟨_,rfl⟩
 obtain ⟨b7,h7⟩:∃ b,(c==95)=b:=⟨_,rfl⟩
 rw [h1,h2,h3,h4,h5,h6,h7] at hR2
 clear e1 e2 e3 e4 e5 e6
 simp only [Try.f39,aZ] at hc
 subst hc
 (sym=>simp [h1,h2,h3,h4,h5,h6,z,h7,hR,enc_U8,isE_U8,dec_U8,ctx_goes2_t,ctx_goes2_d,ctx_goes2_u,Mw.eq_def,Za,Zb,Zc,Zd,Ze,Zf,Zt,Qd,Qf,Qp,Qq,Qr,Qs,Qu,Qv,Qw,Qx,Q1,Jd,Jf,Jj,Jq,Jr,J2,Xd,Xj,Xl,Xq,Xr,Xu,Xw,Xx,X6,X7,X8,X9,Wc,Wf,Wj,Wl,Wm,Wn,Wt,Wx,Yd,Yn,Yo,Yp,Yq,Yr,Ys,Vj,Vk,Vy,Vz,V0,V1,V5,V6,Pd];tactic =>
  try simp only [Uq] at *;try simp only [nc2] at *
  try simp (maxSteps:=4000000) only [h1,h2,h3,h4,h5,h6,z,h7,hR,enc_U8,isE_U8,dec_U8,U6]
  repeat' first|with_reducible assumption|with_reducible apply And.intro|intro _|omega|(rw [Uk];omega)
  all_goals first|with_reducible exact okq|(rw [←hR2];clear hR2 hR h1 h2 h3 h4 h5 h6 h7 z K;simp_all;done)|(symm;rw [←hR2];clear hR2 hR h1 h2 h3 h4 h5 h6 h7 z K;simp_all;done)|skip)
def Nd:Con:=L9 (fun (_:UInt8)=>True) (fun c=>P0 c)
noncomputable def ctx_figure2:Ctx:=⟨tab,lkC [],60,lkB [],[],false⟩
theorem ctx_figure2_t:ctx_figure2.τ=tab:=rfl
theorem ctx_figure2_d:ctx_figure2.dp=60:=rfl
set_option maxRecDepth 100000 in
theorem good_figure2:Hg Try.prog (43,Nd):=by
 refine ⟨Ke Try.func43 (by kernel_rfl) rfl,?_⟩
 have K:Gu Try.prog ctx_figure2:=Ko G7 Kw (by simp) (by simp)
 obtain ⟨c,hc⟩:∃ c,Try.f43.body=some c:=⟨_,rfl⟩
 refine Kn K Try.func43 hc [.tmp 2] rfl 9 rfl (fun cvs hpre=>?_)
 change Nd.pre cvs at hpre
 unfold Nd at hpre
 obtain ⟨c,rfl,-⟩:=Mt hpre
 clear hpre
 obtain ⟨R,hR⟩:∃ R,P0 c=R:=⟨_,rfl⟩
 have hR2:=hR
 unfold P0 at hR2
 rw [within_le] at hR2
 have e5:leB ((48:UInt8).toNat:Int) (c.toNat:Int)=leB 48 (c.toNat:Int):=rfl
 have e6:leB (c.toNat:Int) ((57:UInt8).toNat:Int)=leB (c.toNat:Int) 57:=rfl
 rw [e5,e6] at hR2
 obtain ⟨b5,h5⟩:∃ b,leB 48 (c.toNat:Int)=b:=⟨_,rfl⟩
 obtain ⟨b6,h6⟩:∃ b,leB (c.toNat:Int) 57=b:=⟨_,rfl⟩
 rw [h5,h6] at hR2
 clear e5 e6
 simp only [Try.f43,aZ] at hc
 subst hc
 (sym=>simp [h5,h6,hR,enc_U8,isE_U8,dec_U8,ctx_figure2_t,ctx_figure2_d,Nd.eq_def,Za,Zb,Zc,Zd,Ze,Zf,Zt,Qd,Qf,Qp,Qq,Qr,Qs,Qu,Qv,Qw,Qx,Q1,Jd,Jj,Jq,Jr,J2,Xd,Xj,Xl,Xq,Xr,Xu,Xw,Xx,X6,X7,X8,X9,Wc,Wf,Wj,Wl,Wm,Wn,Wt,Wx,Yd,Yn,Yo,Yp,Yq,Yr,Ys,Vj,Vk,Vy,Vz,V0,V1,V5,V6,Pd];tactic =>
  try simp only [Uq] at *;try simp only [nc2] at *
  try simp (maxSteps:=4000000) only [h5,h6,hR,enc_U8,isE_U8,dec_U8,U6]
  repeat' first|with_reducible assumption|with_reducible apply And.intro|intro _|omega|(rw [Uk];omega)
  all_goals first|with_reducible exact okq|(rw [←hR2];clear hR2 hR h5 h6 K;simp_all;done)|(symm;rw [←hR2];clear hR2 hR h5 h6 K;simp_all;done)|skip)
theorem Aa {s:List UInt8} {k:Nat} (h:k<s.length):s.drop k=s.getD k 0::s.drop (k+1):=by
 rw [List.drop_eq_getElem_cons h]
 simp [h]
def So:Con:=Ms (fun (s:List UInt8) (i:Int)=>s.length≤1000000∧0≤i∧i≤s.length) (fun s i=>(betw2 s i.toNat:Int))
noncomputable def Rn:Ctx:=⟨tab,lkC [],60,lkB [],[],false⟩
theorem Bp:Rn.τ=tab:=rfl
theorem ctx_between2_d:Rn.dp=60:=rfl
theorem S6:Rn.cuts=[]:=rfl
theorem Rm:Rn.wr=false:=rfl
set_option maxRecDepth 100000 in
theorem good_between2:Hg Try.prog (26,So):=by
 refine ⟨Ke Try.func26 (by kernel_rfl) rfl,?_⟩
 have K:Gu Try.prog Rn:=Ko G7 Kw (by simp) (by simp)
 obtain ⟨c,hc⟩:∃ c,Try.f26.body=some c:=⟨_,rfl⟩
 refine Kn K Try.func26 hc [.tmp 4] rfl 45 rfl (fun cvs hpre=>?_)
 change So.pre cvs at hpre
 unfold So at hpre
 obtain ⟨s,i,rfl,hs,hi0,hi1⟩:=Bb hpre
 obtain ⟨i,rfl⟩:∃ n:Nat,i=n:=⟨i.toNat,by omega⟩
 clear hpre
 obtain ⟨R,hR⟩:∃ R,betw2 s i=R:=⟨_,rfl⟩
 have hR2:=hR
 unfold betw2 at hR2
 simp only [Try.f26,aZ] at hc
 subst hc
 refine Gf 2 (of_decide_eq_true (by kernel_rfl)) ?_
 (sym=>simp [Kq,U9,G9,Kf,Kg,K8,So.eq_def,Zb,Zc,Ze,Zf,Qs,Qu,Qv,Qw,Qx,Jj,Jq,Jr,Js,Jt,Jy,J6,J7,Xe,Xj,Xl,Xn,Xo,Xr,Xu,Xw,X6,X7,X8,X9,Wc,Wf,Wj,Wl,Wp,Yc,Ye,Yr,Ys,Yt,Yu,Yv,Yw,Yx,Yy,Y7,Y9,Vj,V0,V5,V6,U5,Pd,Kh];tactic =>
  try simp only [Uq] at *;try simp only [nc2] at *
  try simp (maxSteps:=4000000) only [Kq,U9,G9,Kf,Kg,K8,U6]
  repeat' first|with_reducible assumption|with_reducible apply And.intro|intro _|omega|(rw [Uk];omega)
  refine Kk [4,5,6,7,8,9,10,11,12,13,14,15,16,17,18,19,20,21,22,23,24,25,26,27,28,29,30,31,32,33,34,35,36,37,38,39,40,41,42,43] (fun k:Nat=>[(1,.d (.int .i64 k))]) (fun k:Nat=>[]) (fun k:Nat=>k≤s.length∧k+gap2 false (s.drop k)=R) (fun k:Nat=>s.length-k) i ?_ ?_ ?_
  ·exact ⟨by omega,hR2⟩
  ·exact wkq
  rintro k ⟨hk,hG⟩
  rcases Kt k s.length with ⟨hlt,hlb⟩|⟨hlt,hlb⟩
  ·rw [Aa hlt,gap2] at hG
   obtain ⟨c,hc'⟩:∃ c,s.getD k 0=c:=⟨_,rfl⟩
   rw [hc'] at hG
   have z1:((c.toNat:Int)==32)=(c==32):=Ds (b:=32)
   have z2:((c.toNat:Int)==9)=(c==9):=Ds (b:=9)
   have z3:((c.toNat:Int)==10)=(c==10):=Ds (b:=10)
   have z4:((c.toNat:Int)==35)=(c==35):=Ds (b:=35)
   have k1:(k:Int)+1=((k+1:Nat):Int):=rfl
   by_cases hg:c=32∨c=9∨c=10
   ·rw [if_pos hg] at hG
    have hst:k+1+gap2 false (s.drop (k+1))=R:=by omega
    by_cases c1:c=32
    ·have v1:(c==32)=true:=beq_iff_eq.2 c1
     (sym=>simp [hlb,hc',z1,v1,aX,Kq,U9,G9,Kf,Kg,K8,Bp,S6,Rm,Zb,Zc,Zd,Ze,Zf,Zg,Zt,Zz,Z6,Qd,Qf,Qs,Qu,Qv,Qw,Qx,Jf,Jl,Jm,Jn,Js,Jt,Jv,Jw,Jx,Jy,Jz,Xi,Xj,Xl,Xm,Xn,Xr,Xu,Xw,Xx,X6,X7,X8,X9,Wm,Wn,Wo,Wp,Wr,Wt,Wv,Wx,Wz,W1,Yn,Yo,Yp,Yq,Y9,Vj,Vk,Vy,Vz,V0,V1,V2,V5,V6,U5,Pd,Kh];tactic =>
      try simp only [Uq] at *;try simp only [nc2] at *
      try simp (maxSteps:=4000000) only [hlb,hc',z1,v1,aX,Kq,U9,G9,Kf,Kg,K8,U6]
      repeat' first|with_reducible assumption|with_reducible apply And.intro|intro _|omega|(rw [Uk];omega)
      all_goals first|with_reducible exact okq|omega|exact ⟨k+1,wkq,by omega,hst,by omega⟩|skip)
    have v1:(c==32)=false:=beq_eq_false_iff_ne.2 c1
    by_cases c2:c=9
    ·have v2:(c==9)=true:=beq_iff_eq.2 c2
     (sym=>simp [hlb,hc',z1,v1,z2,v2,aX,Kq,U9,G9,Kf,Kg,K8,Bp,S6,Rm,Zb,Zc,Zd,Ze,Zf,Zg,Zt,Zz,Z6,Qd,Qf,Qs,Qu,Qv,Qw,Qx,Jf,Jl,Jm,Jn,Js,Jt,Jv,Jw,Jx,Jy,Jz,Xi,Xj,Xl,Xm,Xn,Xr,Xu,Xw,Xx,X6,X7,X8,X9,Wm,Wn,Wo,Wp,Wr,Wt,Wv,Wx,Wz,W1,Yn,Yo,Yp,Yq,Y9,Vj,Vk,Vy,Vz,V0,V1,V2,V5,V6,U5,Pd,Kh];tactic =>
      try simp only [Uq] at *;try simp only [nc2] at *
      try simp (maxSteps:=4000000) only [hlb,hc',z1,v1,z2,v2,aX,Kq,U9,G9,Kf,Kg,K8,U6]
      repeat' first|with_reducible assumption|with_reducible apply And.intro|intro _|omega|(rw [Uk];omega)
      all_goals first|with_reducible exact okq|omega|exact ⟨k+1,wkq,by omega,hst,by omega⟩|skip)
    have v2:(c==9)=false:=beq_eq_false_iff_ne.2 c2
    have v3:(c==10)=true:=beq_iff_eq.2 (by rcases hg with h|h|h<;>first|exact h|contradiction)
    (sym=>simp [hlb,hc',z1,v1,z2,v2,z3,v3,aX,Kq,U9,G9,Kf,Kg,K8,Bp,S6,Rm,Zb,Zc,Zd,Ze,Zf,Zg,Zt,Zz,Z6,Qd,Qf,Qs,Qu,Qv,Qw,Qx,Jf,Jl,Jm,Jn,Js,Jt,Jv,Jw,Jx,Jy,Jz,Xi,Xj,Xl,Xm,Xn,Xr,Xu,Xw,Xx,X6,X7,X8,X9,Wm,Wn,Wo,Wp,Wr,Wt,Wv,Wx,Wz,W1,Yn,Yo,Yp,Yq,Y9,Vj,Vk,Vy,Vz,V0,V1,V2,V5,V6,U5,Pd,Kh];tactic =>
     try simp only [Uq] at *;try simp only [nc2] at *
     try simp (maxSteps:=4000000) only [hlb,hc',z1,v1,z2,v2,z3,v3,aX,Kq,U9,G9,Kf,Kg,K8,U6]
     repeat' first|with_reducible assumption|with_reducible apply And.intro|intro _|omega|(rw [Uk];omega)
     all_goals first|with_reducible exact okq|omega|exact ⟨k+1,wkq,by omega,hst,by omega⟩|skip)
   ·rw [if_neg hg] at hG
    have v1:(c==32)=false:=beq_eq_false_iff_ne.2 fun h=>hg (.inl h)
    have v2:(c==9)=false:=beq_eq_false_iff_ne.2 fun h=>hg (.inr (.inl h))
    have v3:(c==10)=false:=beq_eq_false_iff_ne.2 fun h=>hg (.inr (.inr h))
    by_cases c4:c=35
    case neg =>
     have v4:(c==35)=false:=beq_eq_false_iff_ne.2 c4
     rw [if_neg c4] at hG
     have hkR:R=k:=by omega
     (sym=>simp [hlb,hc',z1,v1,z2,v2,z3,v3,z4,v4,hR,hkR,aX,Kq,U9,G9,Kf,Kg,K8,Bp,ctx_between2_d,S6,Zb,Zc,Zd,Ze,Zf,Zg,Zt,Zz,Z6,Qd,Qf,Qp,Qq,Qr,Qs,Qu,Qv,Qw,Qx,Q1,Jd,Jf,Jl,Jm,Jn,Js,Jt,Ju,Jv,Jw,Jx,Jy,Jz,J2,Xi,Xj,Xl,Xm,Xn,Xq,Xr,Xu,Xw,Xx,X6,X7,X8,X9,Wm,Wn,Wo,Wp,Wr,Wt,Wv,Wx,Wz,W1,Yn,Yo,Yp,Yq,Y9,Vj,Vk,Vy,Vz,V0,V1,V2,V5,V6,U5,Pd,Kh];tactic =>
      try simp only [Uq] at *;try simp only [nc2] at *
      try simp (maxSteps:=4000000) only [hlb,hc',z1,v1,z2,v2,z3,v3,z4,v4,hR,hkR,aX,Kq,U9,G9,Kf,Kg,K8,U6]
      repeat' first|with_reducible assumption|with_reducible apply And.intro|intro _|omega|(rw [Uk];omega)
      all_goals first|with_reducible exact okq|omega|rfl|skip)
    have v4:(c==35)=true:=beq_iff_eq.2 c4
    rw [if_pos c4] at hG
    have hin:k+gap2 true (s.drop k)=R:=by
     rw [Aa hlt,hc',gap2,if_neg (by rw [c4];decide)]
     exact hG
    (sym=>simp [hlb,hc',z1,v1,z2,v2,z3,v3,z4,v4,aX,Kq,U9,G9,Kf,Kg,K8,Bp,S6,Zb,Zc,Zd,Ze,Zf,Zt,Zz,Z6,Qd,Qf,Qs,Qu,Qv,Qw,Qx,Jf,Jl,Jm,Jn,Js,Jt,Jv,Jw,Jx,Jy,Jz,Xi,Xj,Xl,Xm,Xn,Xo,Xr,Xu,Xw,Xx,X6,X7,X8,X9,Wm,Wn,Wo,Wp,Wr,Wt,Wv,Wx,Wz,W1,Yn,Yo,Yp,Yq,Y9,Vj,Vk,Vy,Vz,V0,V1,V2,V5,V6,U5,Pd,Kh];tactic =>
     try simp only [Uq] at *;try simp only [nc2] at *
     try simp (maxSteps:=4000000) only [hlb,hc',z1,v1,z2,v2,z3,v3,z4,v4,aX,Kq,U9,G9,Kf,Kg,K8,U6]
     repeat' first|with_reducible assumption|with_reducible apply And.intro|intro _|omega|(rw [Uk];omega)
     all_goals try with_reducible exact okq
     all_goals try omega
     refine Kk [31,32,33,34,35,36,37,38,39,40,41,42] (fun j:Nat=>[(1,.d (.int .i64 j))]) (fun j:Nat=>[]) (fun j:Nat=>k≤j∧j≤s.length∧j+gap2 true (s.drop j)=R) (fun j:Nat=>s.length-j) k ?_ ?_ ?_
     ·exact ⟨by omega,by omega,hin⟩
     ·exact wkq
     rintro j ⟨hkj,hj,hJ⟩
     rcases Kt j s.length with ⟨hjt,hjb⟩|⟨hjt,hjb⟩
     ·rw [Aa hjt,gap2] at hJ
      have hJ2:=Aa hjt
      obtain ⟨d,hd⟩:∃ c,s.getD j 0=c:=⟨_,rfl⟩
      rw [hd] at hJ hJ2
      have y3:((d.toNat:Int) != 10)=(d != 10):=by rw [bne,bne];exact congrArg _ (Ds (b:=10))
      by_cases hd10:d=10
      ·rw [if_pos hd10] at hJ
       have w3:(d != 10)=false:=by rw [hd10];rfl
       have hjk:k<j:=by
        rcases Nat.lt_or_ge k j with h|h
        ·exact h
        ·have:j=k:=by omega
         subst this
         rw [hc'] at hd
         rw [←hd,c4] at hd10
         exact absurd hd10 (by decide)
       have hst:j+gap2 false (s.drop j)=R:=by
        rw [hJ2,gap2,if_pos (.inr (.inr hd10))]
        omega
       (sym=>simp [hjb,hd,y3,w3,aX,Kq,U9,G9,Kf,Kg,K8,Bp,S6,Zb,Zc,Zd,Ze,Zf,Zg,Zt,Zz,Z6,Qd,Qf,Qs,Qu,Qv,Qw,Qx,Jf,Jl,Jm,Jn,Js,Jt,Ju,Jv,Jw,Jx,Jy,Jz,Xj,Xl,Xm,Xp,Xr,Xu,Xw,Xx,X6,X7,X8,X9,Wm,Wn,Wo,Wp,Wr,Wt,Wv,Wx,Wz,W1,Yn,Yo,Yp,Yq,Y9,Vj,Vk,Vy,Vz,V0,V1,V2,V5,V6,U5,Pd,Kh];tactic =>
        try simp only [Uq] at *;try simp only [nc2] at *
        try simp (maxSteps:=4000000) only [hjb,hd,y3,w3,aX,Kq,U9,G9,Kf,Kg,K8,U6]
        repeat' first|with_reducible assumption|with_reducible apply And.intro|intro _|omega|(rw [Uk];omega)
        all_goals first|with_reducible exact okq|omega|exact ⟨j,wkq,by omega,hst,by omega⟩|skip)
      ·rw [if_neg hd10] at hJ
       have w3:(d != 10)=true:=bne_iff_ne.2 hd10
       (sym=>simp [hjb,hd,y3,w3,aX,Kq,U9,G9,Kf,Kg,K8,Bp,S6,Rm,Zb,Zc,Zd,Ze,Zf,Zg,Zt,Zz,Z6,Qd,Qf,Qs,Qu,Qv,Qw,Qx,Jf,Jl,Jm,Jn,Js,Jt,Ju,Jv,Jw,Jx,Jy,Jz,Xi,Xj,Xl,Xm,Xn,Xr,Xu,Xw,Xx,X6,X7,X8,X9,Wm,Wn,Wo,Wp,Wr,Wt,Wv,Wx,Wz,W1,Yn,Yo,Yp,Yq,Y9,Vj,Vk,Vy,Vz,V0,V1,V2,V5,V6,U5,Pd,Kh];tactic =>
        try simp only [Uq] at *;try simp only [nc2] at *
        try simp (maxSteps:=4000000) only [hjb,hd,y3,w3,aX,Kq,U9,G9,Kf,Kg,K8,U6]
        repeat' first|with_reducible assumption|with_reducible apply And.intro|intro _|omega|(rw [Uk];omega)
        all_goals first|with_reducible exact okq|omega|exact ⟨j+1,wkq,by omega,by omega,by omega,by omega⟩|skip)
     ·have hje:j=s.length:=by omega
      have hst:j+gap2 false (s.drop j)=R:=by
       rw [List.drop_eq_nil_of_le hjt] at hJ ⊢
       exact hJ
      (sym=>simp [hjb,aX,Kq,U9,G9,Kf,Kg,K8,Bp,Zb,Zc,Zd,Ze,Zf,Zg,Zt,Z6,Qd,Qf,Qs,Qu,Qv,Qw,Qx,Jl,Jm,Jn,Js,Jt,Ju,Jv,Jw,Jx,Jy,Jz,Xj,Xl,Xm,Xp,Xr,Xu,Xw,Xx,X6,X7,X8,X9,Wm,Wn,Wo,Wp,Wr,Wt,Wv,Wx,Wz,Yn,Yo,Yp,Yq,Y9,Vk,Vz,V0,V1,V2,V5,V6,U5,Pd,Kh];tactic =>
       try simp only [Uq] at *;try simp only [nc2] at *
       try simp (maxSteps:=4000000) only [hjb,aX,Kq,U9,G9,Kf,Kg,K8,U6]
       repeat' first|with_reducible assumption|with_reducible apply And.intro|intro _|omega|(rw [Uk];omega)
       all_goals first|with_reducible exact okq|omega|exact ⟨j,wkq,by omega,hst,by omega⟩|skip))
  ·rw [List.drop_eq_nil_of_le hlt] at hG
   have hkR:R=k:=by simpa [gap2] using hG.symm
   (sym=>simp [hlb,hR,hkR,aX,Kq,U9,G9,Kf,Kg,K8,Bp,ctx_between2_d,Zb,Zc,Ze,Zf,Zg,Z6,Qd,Qf,Qp,Qq,Qr,Qs,Qu,Qv,Qw,Qx,Q1,Jd,Jl,Jm,Jn,Js,Jt,Ju,Jv,Jw,Jx,Jy,Jz,J2,Xj,Xl,Xm,Xp,Xq,Xr,Xu,Xw,Xx,X6,X7,X8,X9,Wo,Wp,Wr,Wt,Wv,Wx,Wz,Yn,Yo,Yp,Yq,Y9,Vz,V0,V1,V2,V5,V6,U5,Pd,Kh]))
theorem sign2L_drop {s:List UInt8} {i:Nat} {l:List (List UInt8)} {k:Nat} (h:k<l.length):Ix s i (l.drop k)=cond (signAt s i (l.getD k [])) (l.getD k []) (Ix s i (l.drop (k+1))):=by
 rw [List.drop_eq_getElem_cons h,Ix]
 simp [h]
def Mu:Con:=Ms (fun (s:List UInt8) (i:Int)=>s.length≤1000000∧0≤i∧i≤s.length) (fun s i=>I2 s i.toNat)
noncomputable def ctx_sign2:Ctx:=⟨tab,lkC [(59,T1)],60,lkB [],[],false⟩
theorem ctx_sign2_t:ctx_sign2.τ=tab:=rfl
theorem ctx_sign2_c:ctx_sign2.Γ=lkC [(59,T1)]:=rfl
theorem ctx_sign2_d:ctx_sign2.dp=60:=rfl
theorem ctx_sign2_b:ctx_sign2.Δ=lkB []:=rfl
theorem ctx_sign2_w:ctx_sign2.wr=false:=rfl
set_option maxRecDepth 100000 in
theorem good_sign2:Hg Try.prog (44,Mu):=by
 refine ⟨Ke Try.func44 (by kernel_rfl) rfl,?_⟩
 have K:Gu Try.prog ctx_sign2:=Ko G7 Kw (by
  intro p hp
  simp only [bQ,bZ,or_false] at hp
  rcases hp with rfl
  ·exact good_signs2) (by simp)
 obtain ⟨c,hc⟩:∃ c,Try.f44.body=some c:=⟨_,rfl⟩
 refine Kn K Try.func44 hc [.tmp 4] rfl 45 rfl (fun cvs hpre=>?_)
 change Mu.pre cvs at hpre
 unfold Mu at hpre
 obtain ⟨s,i,rfl,hs,hi0,hi1⟩:=Bb hpre
 obtain ⟨i,rfl⟩:∃ n:Nat,i=n:=⟨i.toNat,by omega⟩
 clear hpre
 obtain ⟨R,hR⟩:∃ R,I2 s i=R:=⟨_,rfl⟩
 have hR2:=hR
 unfold I2 at hR2
 have hl:signs2.length=24:=rfl
 have hsz:∀ x∈signs2,x.length≤2:=by decide
 obtain ⟨l,hll⟩:∃ l,signs2=l:=⟨_,rfl⟩
 rw [hll] at hR2 hl hsz
 have hl3:(l.length:Int)=24:=by rw [hl];rfl
 simp only [Try.f44,aZ] at hc
 subst hc
 refine Gf 2 (of_decide_eq_true (by kernel_rfl)) ?_
 (sym=>simp [hll,ctx_sign2_c,ctx_sign2_b,Mu.eq_def,T1.eq_def,Zb,Zc,Ze,Zf,Qb,Qg,Qh,Qs,Qu,Qv,Qw,Qx,Q1,Q8,Jc,Je,Jj,Jq,Jr,Js,Jt,Jv,Jy,J6,J7,Xc,Xe,Xj,Xl,Xn,Xo,Xr,Xu,Xw,X6,X7,X8,X9,Wb,Wc,Wd,Wf,Wg,Wj,Wl,Wo,Wp,Yc,Ye,Yn,Yo,Yr,Ys,Yt,Yu,Yv,Yw,Yx,Yy,Y7,Y9,Vj,Vl,Vn,V0,V1,V5,V6,U5,Kh,Gg];tactic =>
  try simp only [Uq] at *;try simp only [nc2] at *
  try simp (maxSteps:=4000000) only [hll,U6]
  repeat' first|with_reducible assumption|with_reducible apply And.intro|intro _|omega|(rw [Uk];omega)
  refine Kk [4,8,9,10,11,12,13,14,15,16,17,18,19,20,21,22,23,24,25,26,27,28,29,30,31,32,33,34,35,36,37,38,39,40,41,42,43,44] (fun k:Nat=>[(6,.d (.int .i64 k))]) (fun k:Nat=>[]) (fun k:Nat=>k≤24∧Ix s i (l.drop k)=R) (fun k:Nat=>24-k) 0 ?_ ?_ ?_
  ·exact ⟨by omega,hR2⟩
  ·exact wkq
  rintro k ⟨hk,hS⟩
  by_cases hlt:k<24
  ·have hlb:ltB (k:Int) 24=true:=by rw [Hf];omega
   have q1:=K7 ([]:List UInt8) (show k<l.length by omega)
   have hx2:=hsz (l.getD k []) (by simp [show k<l.length by omega])
   rw [sign2L_drop (by omega)] at hS
   obtain ⟨y,hy⟩:∃ y,l.getD k []=y:=⟨_,rfl⟩
   rw [hy] at q1 hx2 hS
   have kk:(i:Int)+(y.length:Int)=((i+y.length:Nat):Int):=rfl
   unfold signAt at hS
   cases hle:leB ((i+y.length:Nat):Int) (s.length:Int) with
   | false =>
    rw [hle,Bool.false_and,cond_false] at hS
    (sym=>simp [hll,hl3,hlb,q1,kk,hle,aX,ctx_sign2_t,ctx_sign2_c,ctx_sign2_b,ctx_sign2_w,T1.eq_def,Zb,Zc,Zd,Ze,Zf,Zg,Zh,Zi,Zj,Zk,Zl,Zm,Zo,Zp,Zq,Zt,Zv,Zy,Z6,Qd,Qf,Qs,Qt,Qu,Qv,Qw,Qx,Qy,Qz,Jl,Jm,Jn,Js,Jt,Ju,Jv,Jw,Jx,Jy,Jz,Xc,Xi,Xj,Xk,Xl,Xm,Xn,Xr,Xs,Xt,Xu,Xv,Xw,Xx,Xy,X2,X6,X7,X8,X9,Wh,Wi,Wm,Wn,Wo,Wp,Wr,Wt,Wv,Wx,Wz,W1,W9,Ye,Yf,Yg,Yl,Yn,Yo,Yp,Yq,Y9,Va,Vj,Vk,Vy,Vz,V0,V1,V2,V3,V4,V5,V6,V8,Ui,U5,Kh,Gg];tactic =>
     try simp only [Uq] at *;try simp only [nc2] at *
     try simp (maxSteps:=4000000) only [hll,hl3,hlb,q1,kk,hle,aX,U6]
     repeat' first|with_reducible assumption|with_reducible apply And.intro|intro _|omega|(rw [Uk];omega)
     all_goals first|with_reducible exact okq|omega|(rw [Uk];omega)|exact ⟨k+1,wkq,by omega,hS,by omega⟩|skip)
   | true =>
    rw [hle,Bool.true_and] at hS
    rw [G4] at hle
    have hle2:leB ((i+y.length:Nat):Int) (s.length:Int)=true:=by rw [G4];exact hle
    cases hb:((s.take (i+y.length)).drop i==y) with
    | true =>
     rw [hb,cond_true] at hS
     subst hS
     (sym=>simp [hll,hl3,hlb,q1,kk,hle2,hb,hR,aX,ctx_sign2_t,ctx_sign2_c,ctx_sign2_d,ctx_sign2_b,ctx_sign2_w,T1.eq_def,Zb,Zc,Zd,Ze,Zf,Zg,Zh,Zi,Zj,Zk,Zl,Zm,Zo,Zp,Zq,Zt,Zv,Zy,Z0,Z6,Qd,Qf,Ql,Qp,Qq,Qr,Qs,Qt,Qu,Qv,Qw,Qx,Qy,Qz,Q1,Jd,Jk,Jl,Jm,Jn,Js,Jt,Ju,Jv,Jw,Jx,Jy,Jz,J2,Xc,Xi,Xj,Xk,Xl,Xm,Xn,Xq,Xr,Xs,Xt,Xu,Xv,Xw,Xx,Xy,X2,X6,X7,X8,X9,Wh,Wi,Wm,Wn,Wo,Wp,Wr,Wt,Wv,Wx,Wz,W1,W9,Ye,Yf,Yg,Yl,Yn,Yo,Yp,Yq,Yr,Ys,Y9,Va,Vk,Vy,Vz,V0,V1,V2,V3,V4,V5,V6,V8,Ui,U5,Kh,Gg];tactic =>
      try simp only [Uq] at *;try simp only [nc2] at *
      try simp (maxSteps:=4000000) only [hll,hl3,hlb,q1,kk,hle2,hb,hR,aX,U6]
      repeat' first|with_reducible assumption|with_reducible apply And.intro|intro _|omega|(rw [Uk];omega)
      all_goals first|with_reducible exact okq|omega|(rw [Uk];omega)|rfl|skip)
    | false =>
     rw [hb,cond_false] at hS
     (sym=>simp [hll,hl3,hlb,q1,kk,hle2,hb,aX,ctx_sign2_t,ctx_sign2_c,ctx_sign2_b,ctx_sign2_w,T1.eq_def,Zb,Zc,Zd,Ze,Zf,Zg,Zh,Zi,Zj,Zk,Zl,Zm,Zo,Zp,Zq,Zt,Zv,Zy,Z0,Z6,Qd,Qf,Ql,Qs,Qt,Qu,Qv,Qw,Qx,Qy,Qz,Jk,Jl,Jm,Jn,Js,Jt,Ju,Jv,Jw,Jx,Jy,Jz,Xc,Xi,Xj,Xk,Xl,Xm,Xn,Xr,Xs,Xt,Xu,Xv,Xw,Xx,Xy,X2,X6,X7,X8,X9,Wh,Wi,Wm,Wn,Wo,Wp,Wr,Wt,Wv,Wx,Wz,W1,W9,Ye,Yf,Yg,Yl,Yn,Yo,Yp,Yq,Yr,Ys,Y9,Va,Vj,Vk,Vy,Vz,V0,V1,V2,V3,V4,V5,V6,V8,Ui,U5,Kh,Gg];tactic =>
      try simp only [Uq] at *;try simp only [nc2] at *
      try simp (maxSteps:=4000000) only [hll,hl3,hlb,q1,kk,hle2,hb,aX,U6]
      repeat' first|with_reducible assumption|with_reducible apply And.intro|intro _|omega|(rw [Uk];omega)
      all_goals first|with_reducible exact okq|omega|(rw [Uk];omega)|exact ⟨k+1,wkq,by omega,hS,by omega⟩|skip)
  ·have hlb:ltB (k:Int) 24=false:=by rw [Hm];omega
   have hr:R=[]:=by
    rw [←hS,List.drop_eq_nil_of_le (by omega)]
    rfl
   subst hr
   (sym=>simp [hll,hl3,hlb,hR,ctx_sign2_t,ctx_sign2_d,Zb,Zc,Ze,Zf,Zg,Zo,Z6,Qd,Qf,Qp,Qq,Qr,Qs,Qu,Qv,Qw,Qx,Q1,Jd,Jl,Jm,Jn,Js,Jt,Jv,Jx,Jy,Jz,J2,Xj,Xl,Xm,Xp,Xq,Xr,Xu,Xw,Xx,Xy,X6,X7,X8,X9,Wg,Wo,Wp,Wr,Wt,Wx,Yf,Yg,Yl,Yn,Yo,Yp,Yq,Y9,Va,Vl,Vn,Vz,V0,V1,V2,V3,V5,V6,U5,Kh,Gg]))
theorem unqL_bad {s:List UInt8}:∀ {f i:Nat} {out:List UInt8},(unqL f s i out).2.2≠0→(unqL f s i out).2.1=0
 | 0,_,_,_=>rfl
 | f+1,i,out,h=>by
  unfold unqL at h ⊢
  split at h
  ·rename_i a;rw [if_pos a]
  rename_i a
  rw [if_neg a]
  split at h
  ·exact absurd rfl h
  rename_i a
  rw [if_neg a]
  split at h
  ·rename_i a;rw [if_pos a]
  rename_i a
  rw [if_neg a]
  split at h
  ·rename_i a
   rw [if_pos a]
   split at h
   ·rename_i a;rw [if_pos a]
   rename_i a
   rw [if_neg a]
   exact unqL_bad h
  ·rename_i a
   rw [if_neg a]
   exact unqL_bad h
theorem piece_at {s:List UInt8} {i W:Nat} (hW:W≤s.length) {q:Nat} (hq:i+q<W):((s.take W).drop i).getD q 0=s.getD (i+q) 0:=by
 have h1:i+q<(s.take W).length:=by rw [List.length_take];omega
 rw [aY,aY,List.getElem?_drop,List.getElem?_take,if_pos hq]
theorem piece_fig {s:List UInt8} {i W:Nat} (hi:i≤W) (hW:W≤s.length) (h:∀ m,i≤m→m<W→P0 (s.getD m 0)=true):((s.take W).drop i).all P0=true:=by
 have hl:((s.take W).drop i).length=W-i:=by rw [List.length_drop,List.length_take];omega
 refine all_of_lt (p:=P0) 0 fun j hj=>?_
 rw [hl] at hj
 rw [piece_at hW (by omega)]
 exact h _ (by omega) (by omega)
theorem piece_fig_not {s:List UInt8} {i W m:Nat} (hW:W≤s.length) (h1:i≤m) (h2:m<W) (h:P0 (s.getD m 0)=false):((s.take W).drop i).all P0=false:=by
 have hl:((s.take W).drop i).length=W-i:=by rw [List.length_drop,List.length_take];omega
 refine all_not (p:=P0) 0 (m-i) (by omega) ?_
 rw [piece_at hW (by omega),show i+(m-i)=m by omega]
 exact h
theorem sign2_le {s:List UInt8} {i:Nat}:(I2 s i).length≤2:=by
 have h:∀ l:List (List UInt8),(∀ x∈l,x.length≤2)→(Ix s i l).length≤2:=by
  intro l
  induction l with
  | nil=>intro _;simp [Ix]
  | cons x l ih =>
   intro hl
   rw [Ix]
   cases signAt s i x
   ·exact ih fun y hy=>hl y (List.mem_cons_of_mem _ hy)
   ·exact hl x (by simp)
 exact h signs2 (by decide)
def Eu:Con:=con2t (fun (s:List UInt8) (i:Int)=>s.length≤1000000∧0≤i∧i<s.length) (fun s i=>one2 s i.toNat)
noncomputable def ctx_one2:Ctx:=⟨tab,lkC [(38,Hl),(39,Mw),(40,Kj),(41,Ny),(42,Kd),(43,Nd),(44,Mu)],60,lkB [],[],false⟩
theorem M9:ctx_one2.τ=tab:=rfl
theorem P7:ctx_one2.Γ=lkC [(38,Hl),(39,Mw),(40,Kj),(41,Ny),(42,Kd),(43,Nd),(44,Mu)]:=rfl
theorem Pg:ctx_one2.dp=60:=rfl
theorem P8:ctx_one2.Δ=lkB []:=rfl
theorem ctx_one2_u:ctx_one2.cuts=[]:=rfl
theorem Fc:ctx_one2.wr=false:=rfl
set_option maxRecDepth 100000 in
theorem good_one2:Hg Try.prog (27,Eu):=by
 refine ⟨Ke Try.func27 (by kernel_rfl) rfl,?_⟩
 have K:Gu Try.prog ctx_one2:=Ko G7 Kw (by
  intro p hp
  simp only [bQ,bZ,or_false] at hp
  rcases hp with rfl|rfl|rfl|rfl|rfl|rfl|rfl
  ·exact good_Unquote1
  ·exact good_goes2
  ·exact Fx
  ·exact good_IsKey2
  ·exact Cr
  ·exact good_figure2
  ·exact good_sign2) (by simp)
 obtain ⟨c,hc⟩:∃ c,Try.f27.body=some c:=⟨_,rfl⟩
 refine Kn K Try.func27 hc [.cell 4 75,.tmp 5] rfl 100 rfl (fun cvs hpre=>?_)
 change Eu.pre cvs at hpre
 unfold Eu at hpre
 obtain ⟨s,i,rfl,hs,hi0,hi1⟩:=con2t_pre hpre
 obtain ⟨i,rfl⟩:∃ n:Nat,i=n:=⟨i.toNat,by omega⟩
 clear hpre
 have hi:i<s.length:=by omega
 obtain ⟨R,hR⟩:∃ R,one2 s i=R:=⟨_,rfl⟩
 have hR2:=hR
 unfold one2 at hR2
 obtain ⟨c,hc'⟩:∃ c,s.getD i 0=c:=⟨_,rfl⟩
 rw [hc'] at hR2
 have z1:((c.toNat:Int)==34)=(c==34):=Ds (b:=34)
 by_cases h34:c=34
 ·rw [if_pos h34] at hR2
  have v1:(c==34)=true:=beq_iff_eq.2 h34
  have hdl:(s.drop i).length≤1000000:=by rw [List.length_drop];omega
  have hU:=unq1_le (s:=s.drop i)
  have hU4:(unq1 (s.drop i)).2.2≠0→(unq1 (s.drop i)).2.1=0:=by
   intro h
   unfold unq1 at h ⊢
   split at h
   ·rename_i a;rw [if_pos a]
   ·rename_i a;rw [if_neg a];exact unqL_bad h
  obtain ⟨⟨x,n,e⟩,hx⟩:∃ q,unq1 (s.drop i)=q:=⟨_,rfl⟩
  rw [hx] at hR2 hU hU4
  simp only at hR2 hU hU4
  rw [List.length_drop] at hU
  have hn:0≤n∧n≤1000000:=by
   by_cases he:e=0
   ·have:=hU he;omega
   ·have:=hU4 he;omega
  subst hR2
  simp only [Try.f27,aZ] at hc
  subst hc
  refine Gf 6 (of_decide_eq_true (by kernel_rfl)) ?_
  (sym=>simp [hc',z1,v1,hx,hR,mY,U1,aX,Kq,U9,G9,Kf,Kg,K8,M9,P7,Pg,P8,ctx_one2_u,Fc,Ny.eq_def,lV,lY,pZ,Nd.eq_def,Mw.eq_def,Eu.eq_def,Mu.eq_def,Zb,Zc,Ze,Zf,Zo,Zp,Zq,Zu,Zv,Zw,Zz,Z0,Z2,Qa,Qb,Qd,Qf,Qg,Qh,Qi,Qj,Ql,Qm,Qn,Qp,Qq,Qr,Qs,Qu,Qv,Qw,Qx,Q0,Q1,Q2,Q3,Q8,Q9,Ja,Jb,Jc,Jd,Je,Jf,Jj,Jq,Jr,Js,Jt,Jv,Jw,Jy,Jz,J2,J6,J7,Xb,Xd,Xe,Xg,Xj,Xl,Xm,Xq,Xr,Xu,Xw,Xx,Xy,X0,X6,X7,X8,X9,Wb,Wc,Wd,Wf,Wg,Wh,Wi,Wj,Wl,Wm,Wn,Wo,Wp,Wt,Wv,Wx,Wz,W1,W2,W4,W6,Yc,Yd,Ye,Yn,Yo,Yp,Yq,Yr,Ys,Yt,Yu,Yv,Yw,Yx,Yy,Y3,Y9,Vj,Vk,Vr,Vt,Vy,Vz,V0,V1,V2,V4,V5,V6,Ui,Uj,U5,K9,Pd,Kh,Ks,Ku];tactic =>
   try simp only [Uq] at *;try simp only [nc2] at *
   try simp (maxSteps:=4000000) only [hc',z1,v1,hx,hR,mY,U1,aX,Kq,U9,G9,Kf,Kg,K8,U6]
   repeat' first|with_reducible assumption|with_reducible apply And.intro|intro _|omega|(rw [Uk];omega)
   all_goals first|with_reducible exact okq|omega|(rw [Uk];omega)|exact hdl|rfl|skip)
 have v1:(c==34)=false:=beq_eq_false_iff_ne.2 h34
 rw [if_neg h34] at hR2
 have hw2:=word2_le (s.drop i)
 rw [List.length_drop] at hw2
 obtain ⟨W,hW⟩:∃ W,i+T6 (s.drop i)=W:=⟨_,rfl⟩
 have hWi:i≤W:=by omega
 have hWl:W≤s.length:=by omega
 unfold T9 at hR2
 rw [hW] at hR2
 have hW3:(i:Int)+(T6 (s.drop i):Int)=(W:Int):=by omega
 rw [hW3] at hR2
 have hlp:((s.take W).drop i).length≤9223372036854775807:=by rw [List.length_drop,List.length_take];omega
 simp only [Try.f27,aZ] at hc
 subst hc
 refine Gf 6 (of_decide_eq_true (by kernel_rfl)) ?_
 (sym=>simp [hc',z1,v1,aX,Kq,U9,G9,Kf,Kg,K8,M9,ctx_one2_u,Eu.eq_def,Zb,Zc,Ze,Zf,Zo,Zp,Zq,Zu,Zz,Qd,Qf,Qn,Qs,Qu,Qv,Qw,Qx,Ja,Jb,Jf,Jj,Jq,Jr,Js,Jt,Jv,Jw,Jy,Jz,J6,J7,Xb,Xg,Xi,Xj,Xl,Xm,Xn,Xo,Xr,Xu,Xw,Xx,Xy,X0,X6,X7,X8,X9,Wc,Wf,Wh,Wi,Wj,Wl,Wo,Wp,Wt,Wv,Wx,Wz,W1,W6,Yc,Yd,Ye,Yn,Yo,Yr,Ys,Yt,Yu,Yv,Yw,Yx,Yy,Y9,Vj,Vk,Vz,V0,V1,V2,V5,V6,U5,K9,Pd,Kh,Ks,Ku];tactic =>
  try simp only [Uq] at *;try simp only [nc2] at *
  try simp (maxSteps:=4000000) only [hc',z1,v1,aX,Kq,U9,G9,Kf,Kg,K8,U6]
  repeat' first|with_reducible assumption|with_reducible apply And.intro|intro _|omega|(rw [Uk];omega)
  refine Kk [34,35,36,37,38,39,40,41,42,43,44,45] (fun k:Nat=>[(9,.d (.int .i64 k))]) (fun k:Nat=>[]) (fun k:Nat=>i≤k∧k≤s.length∧k+T6 (s.drop k)=W) (fun k:Nat=>s.length-k) i ?_ ?_ ?_
  ·exact ⟨by omega,by omega,hW⟩
  ·exact wkq
  rintro k ⟨h1,h2,h3⟩
  rcases Kt k s.length with ⟨hlt,hlb⟩|⟨hlt,hlb⟩
  ·rw [Aa hlt,T6] at h3
   obtain ⟨d,hd⟩:∃ c,s.getD k 0=c:=⟨_,rfl⟩
   rw [hd] at h3
   cases hg:goes2 d with
   | true =>
    rw [hg,cond_true] at h3
    have h4:k+1+T6 (s.drop (k+1))=W:=by omega
    (sym=>simp [hlb,hd,hg,aX,Kq,U9,G9,Kf,Kg,K8,M9,P7,Pg,P8,Fc,Ny.eq_def,lV,lY,pZ,Nd.eq_def,Mw.eq_def,Mu.eq_def,Zb,Zc,Zd,Ze,Zf,Zg,Zt,Zz,Z6,Qb,Qd,Qf,Qg,Qh,Qs,Qu,Qv,Qw,Qx,Q1,Q8,Jc,Je,Jl,Jm,Jn,Js,Jt,Jv,Jw,Jy,Jz,J2,Xd,Xe,Xi,Xj,Xl,Xm,Xn,Xr,Xu,Xw,Xx,X6,X7,X8,X9,Wb,Wd,Wf,Wm,Wn,Wo,Wp,Wr,Wt,Wv,Wx,Wz,W1,Yd,Yn,Yo,Yz,Y4,Y9,Vj,Vk,Vy,V0,V1,V2,V5,V6,U5,K9,Pd,Kh,Ks,Ku];tactic =>
     try simp only [Uq] at *;try simp only [nc2] at *
     try simp (maxSteps:=4000000) only [hlb,hd,hg,aX,Kq,U9,G9,Kf,Kg,K8,U6]
     repeat' first|with_reducible assumption|with_reducible apply And.intro|intro _|omega|(rw [Uk];omega)
     all_goals first|with_reducible exact okq|omega|exact ⟨k+1,wkq,by omega,by omega,h4,by omega⟩|skip)
   | false =>
    rw [hg,cond_false,Nat.add_zero] at h3
    rw [h3] at hlb hd hlt
    rw [h3]
    clear h3 h1 h2
    obtain ⟨P,hP⟩:∃ P,(s.take W).drop i=P:=⟨_,rfl⟩
    rw [hP] at hR2 hlp
    have hfn:=fun {m:Nat} (a1:i≤m) (a2:m<W) (a3:P0 (s.getD m 0)=false)=>piece_fig_not hWl a1 a2 a3
    have hfy:=piece_fig (s:=s) hWi hWl
    rw [hP] at hfn hfy
    cases hT:A7 P with
    | true =>
     rw [hT,if_pos rfl] at hR2
     subst hR2
     (sym=>simp [hlb,hd,hg,hP,aX,U1,Kq,U9,G9,Kf,Kg,K8,hT,hR,M9,P7,Pg,P8,Ny.eq_def,lV,lY,pZ,Nd.eq_def,Mw.eq_def,Mu.eq_def,Zb,Zc,Zd,Ze,Zf,Zg,Zo,Zp,Zq,Zs,Zt,Zu,Zv,Zw,Zx,Zz,Z0,Z2,Z6,Qb,Qd,Qf,Qg,Qh,Qj,Ql,Qm,Qn,Qo,Qp,Qq,Qr,Qs,Qu,Qv,Qw,Qx,Q0,Q1,Q3,Q8,Q9,Ja,Jb,Jc,Jd,Je,Jl,Jm,Jn,Js,Jt,Jv,Jw,Jy,Jz,J2,Xb,Xd,Xe,Xj,Xl,Xm,Xp,Xq,Xr,Xu,Xw,Xx,Xy,X0,X6,X7,X8,X9,Wb,Wd,Wf,Wg,Wh,Wi,Wj,Wl,Wm,Wn,Wo,Wp,Wr,Wt,Wv,Wx,Wz,W1,W2,W4,W6,Yd,Yn,Yo,Yp,Yq,Yr,Ys,Yt,Yu,Yv,Yw,Yy,Yz,Y3,Y4,Y9,Vj,Vk,Vr,Vt,Vy,Vz,V0,V1,V2,V4,V5,V6,Ui,Uj,U5,K9,Pd,Kh,Ks,Ku];tactic =>
      try simp only [Uq] at *;try simp only [nc2] at *
      try simp (maxSteps:=4000000) only [hlb,hd,hg,hP,aX,U1,Kq,U9,G9,Kf,Kg,K8,hT,hR,U6]
      repeat' first|with_reducible assumption|with_reducible apply And.intro|intro _|omega|(rw [Uk];omega)
      all_goals first|with_reducible exact okq|omega|exact hlp|rfl|skip)
    | false =>
    rw [hT,if_neg (by simp)] at hR2
    cases hK:isKey2 P with
    | true =>
     rw [hK,if_pos rfl] at hR2
     subst hR2
     (sym=>simp [hlb,hd,hg,hP,aX,U1,Kq,U9,G9,Kf,Kg,K8,hT,hK,hR,M9,P7,Pg,P8,Ny.eq_def,lV,lY,pZ,Nd.eq_def,Mw.eq_def,Mu.eq_def,Zb,Zc,Zd,Ze,Zf,Zg,Zo,Zp,Zq,Zs,Zt,Zu,Zv,Zw,Zx,Zz,Z0,Z2,Z6,Qb,Qd,Qf,Qg,Qh,Qj,Ql,Qm,Qn,Qo,Qp,Qq,Qr,Qs,Qu,Qv,Qw,Qx,Q0,Q1,Q3,Q8,Q9,Ja,Jb,Jc,Jd,Je,Jl,Jm,Jn,Js,Jt,Jv,Jw,Jy,Jz,J2,Xb,Xd,Xe,Xi,Xj,Xl,Xm,Xp,Xq,Xr,Xu,Xw,Xx,Xy,X0,X6,X7,X8,X9,Wb,Wd,Wf,Wg,Wh,Wi,Wj,Wl,Wm,Wn,Wo,Wp,Wr,Wt,Wv,Wx,Wz,W1,W2,W4,W6,Yd,Yn,Yo,Yp,Yq,Yr,Ys,Yt,Yu,Yv,Yw,Yy,Yz,Y3,Y4,Y9,Vj,Vk,Vr,Vt,Vy,Vz,V0,V1,V2,V4,V5,V6,Ui,Uj,U5,K9,Pd,Kh,Ks,Ku];tactic =>
      try simp only [Uq] at *;try simp only [nc2] at *
      try simp (maxSteps:=4000000) only [hlb,hd,hg,hP,aX,U1,Kq,U9,G9,Kf,Kg,K8,hT,hK,hR,U6]
      repeat' first|with_reducible assumption|with_reducible apply And.intro|intro _|omega|(rw [Uk];omega)
      all_goals first|with_reducible exact okq|omega|exact hlp|rfl|skip)
    | false =>
    rw [hK,if_neg (by simp)] at hR2
    cases hD:Lf P with
    | true =>
     rw [hD,if_pos rfl] at hR2
     subst hR2
     (sym=>simp [hlb,hd,hg,hP,aX,U1,Kq,U9,G9,Kf,Kg,K8,hT,hK,hD,hR,M9,P7,Pg,P8,Ny.eq_def,lV,lY,pZ,Nd.eq_def,Mw.eq_def,Mu.eq_def,Zb,Zc,Zd,Ze,Zf,Zg,Zo,Zp,Zq,Zs,Zt,Zu,Zv,Zw,Zx,Zz,Z0,Z2,Z6,Qb,Qd,Qf,Qg,Qh,Qj,Ql,Qm,Qn,Qo,Qp,Qq,Qr,Qs,Qu,Qv,Qw,Qx,Q0,Q1,Q3,Q8,Q9,Ja,Jb,Jc,Jd,Je,Jl,Jm,Jn,Js,Jt,Jv,Jw,Jy,Jz,J2,Xb,Xd,Xe,Xi,Xj,Xl,Xm,Xp,Xq,Xr,Xu,Xw,Xx,Xy,X0,X6,X7,X8,X9,Wb,Wd,Wf,Wg,Wh,Wi,Wj,Wl,Wm,Wn,Wo,Wp,Wr,Wt,Wv,Wx,Wz,W1,W2,W4,W6,Yd,Yn,Yo,Yp,Yq,Ys,Yt,Yu,Yv,Yw,Yy,Yz,Y3,Y4,Y9,Vj,Vk,Vr,Vt,Vy,Vz,V0,V1,V2,V4,V5,V6,Ui,Uj,U5,K9,Pd,Kh,Ks,Ku];tactic =>
      try simp only [Uq] at *;try simp only [nc2] at *
      try simp (maxSteps:=4000000) only [hlb,hd,hg,hP,aX,U1,Kq,U9,G9,Kf,Kg,K8,hT,hK,hD,hR,U6]
      repeat' first|with_reducible assumption|with_reducible apply And.intro|intro _|omega|(rw [Uk];omega)
      all_goals first|with_reducible exact okq|omega|exact hlp|rfl|skip)
    | false =>
    rw [hD,if_neg (by simp)] at hR2
    by_cases h0:0<T6 (s.drop i)
    ·rw [if_pos h0] at hR2
     have hgt:ltB (i:Int) (W:Int)=true:=by rw [Hf];omega
     have hwi:(W:Int)-(i:Int)=(T6 (s.drop i):Int):=by omega
     (sym=>simp [hlb,hd,hg,hP,aX,U1,Kq,U9,G9,Kf,Kg,K8,hT,hK,hD,hgt,M9,P7,Pg,P8,Ny.eq_def,lV,lY,pZ,Nd.eq_def,Mw.eq_def,Mu.eq_def,Zb,Zc,Zd,Ze,Zf,Zg,Zo,Zp,Zq,Zs,Zt,Zu,Zv,Zw,Zx,Zz,Z0,Z2,Z6,Qb,Qd,Qf,Qg,Qh,Qj,Ql,Qm,Qn,Qo,Qs,Qu,Qv,Qw,Qx,Q0,Q1,Q3,Q8,Q9,Ja,Jb,Jc,Je,Jl,Jm,Jn,Js,Jt,Jv,Jw,Jy,Jz,J2,Xb,Xd,Xe,Xi,Xj,Xl,Xm,Xn,Xo,Xp,Xr,Xu,Xw,Xx,Xy,X0,X6,X7,X8,X9,Wb,Wd,Wf,Wg,Wh,Wi,Wj,Wl,Wm,Wn,Wo,Wp,Wr,Wt,Wv,Wx,Wz,W1,W2,W4,W6,Yd,Yn,Yo,Yp,Yq,Ys,Yu,Yv,Yw,Yy,Yz,Y3,Y4,Y9,Vj,Vk,Vr,Vt,Vy,Vz,V0,V1,V2,V4,V5,V6,Ui,Uj,U5,K9,Pd,Kh,Ks,Ku];tactic =>
      try simp only [Uq] at *;try simp only [nc2] at *
      try simp (maxSteps:=4000000) only [hlb,hd,hg,hP,aX,U1,Kq,U9,G9,Kf,Kg,K8,hT,hK,hD,hgt,U6]
      repeat' first|with_reducible assumption|with_reducible apply And.intro|intro _|omega|(rw [Uk];omega)
      all_goals try exact hlp
      all_goals try omega
      refine Kk [5,71,72,73,74,75,76,77,78,79,80,81] (fun j:Nat=>[(11,.d (.int .i64 j))]) (fun j:Nat=>[]) (fun j:Nat=>i≤j∧j≤W∧∀ m,i≤m→m<j→P0 (s.getD m 0)=true) (fun j:Nat=>W-j) i ?_ ?_ ?_
      ·exact ⟨by omega,by omega,fun m h1 h2=>absurd h2 (by omega)⟩
      ·exact wkq
      rintro j ⟨g1,g2,g3⟩
      rcases Kt j W with ⟨hjt,hjb⟩|⟨hjt,hjb⟩
      ·have hfnj:=hfn g1 hjt
       have hyj:P0 (s.getD j 0)=true→∀ m,i≤m→m<j+1→P0 (s.getD m 0)=true:=fun h m a b=>by
        rcases Nat.lt_or_ge m j with q|q
        ·exact g3 m a q
        ·have:m=j:=by omega
         subst this
         exact h
       obtain ⟨Q,hQ⟩:∃ Q,(∀ m,i≤m→m<j+1→P0 (s.getD m 0)=true)=Q:=⟨_,rfl⟩
       rw [hQ] at hyj
       obtain ⟨d,hd⟩:∃ c,s.getD j 0=c:=⟨_,rfl⟩
       rw [hd] at hfnj hyj
       cases hF:P0 d with
       | true =>
        have hq:=hyj hF
        (sym=>simp [hlb,hd,hg,hP,aX,U1,Kq,U9,G9,Kf,Kg,K8,hjb,hd,hF,M9,P7,Pg,P8,Fc,Ny.eq_def,lV,lY,pZ,Nd.eq_def,Mw.eq_def,Mu.eq_def,Zb,Zc,Ze,Zf,Zg,Zz,Qb,Qd,Qe,Qf,Qg,Qh,Qs,Qu,Qv,Qw,Qx,Q1,Q8,Jc,Je,Jl,Jm,Jn,Js,Jt,Jv,Jw,Jy,Jz,J2,Xd,Xe,Xi,Xj,Xl,Xm,Xn,Xr,Xu,Xw,Xx,X6,X7,X8,X9,Wb,Wd,Wf,Wo,Wp,Wr,Wt,Wu,Wv,Wx,Wy,Wz,W1,Yd,Yn,Yo,Yz,Y4,Y5,Y9,Vj,Vy,Vz,V0,V1,V2,V5,V6,U5,K9,Pd,Kh,Ks,Ku];tactic =>
         try simp only [Uq] at *;try simp only [nc2] at *
         try simp (maxSteps:=4000000) only [hlb,hd,hg,hP,aX,U1,Kq,U9,G9,Kf,Kg,K8,hjb,hd,hF,U6]
         repeat' first|with_reducible assumption|with_reducible apply And.intro|intro _|omega|(rw [Uk];omega)
         all_goals first|with_reducible exact okq|omega|exact ⟨j+1,wkq,by omega,by omega,Eq.mpr hQ hq,by omega⟩|skip)
       | false =>
        rw [hfnj hF,if_neg (by simp)] at hR2
        subst hR2
        (sym=>simp [hlb,hd,hg,hP,aX,U1,Kq,U9,G9,Kf,Kg,K8,hjb,hd,hF,hR,M9,P7,Pg,P8,Ny.eq_def,lV,lY,pZ,Nd.eq_def,Mw.eq_def,Mu.eq_def,Zb,Zc,Ze,Zf,Zg,Zo,Zp,Zq,Zv,Zw,Zz,Qb,Qd,Qe,Qf,Qg,Qh,Qj,Qm,Qn,Qp,Qq,Qr,Qs,Qu,Qv,Qw,Qx,Q1,Q3,Q8,Ja,Jb,Jc,Jd,Je,Jl,Jm,Jn,Js,Jt,Jv,Jw,Jy,Jz,J2,Xb,Xd,Xe,Xi,Xj,Xl,Xm,Xn,Xq,Xr,Xu,Xw,Xx,Xy,X6,X7,X8,X9,Wb,Wd,Wf,Wh,Wi,Wj,Wl,Wo,Wp,Wr,Wt,Wu,Wv,Wx,Wy,Wz,W1,W6,Yd,Yn,Yo,Ys,Yt,Yu,Yv,Yw,Yz,Y4,Y6,Y9,Vk,Vy,V0,V1,V2,V4,V5,V6,Ui,Uj,U5,K9,Pd,Kh,Ks,Ku];tactic =>
         try simp only [Uq] at *;try simp only [nc2] at *
         try simp (maxSteps:=4000000) only [hlb,hd,hg,hP,aX,U1,Kq,U9,G9,Kf,Kg,K8,hjb,hd,hF,hR,U6]
         repeat' first|with_reducible assumption|with_reducible apply And.intro|intro _|omega|(rw [Uk];omega)
         all_goals first|with_reducible exact okq|omega|rfl|skip)
      ·rw [hfy (fun m a b=>g3 m a (by omega)),if_pos rfl] at hR2
       subst hR2
       (sym=>simp [hlb,hd,hg,hP,aX,U1,Kq,U9,G9,Kf,Kg,K8,hjb,hwi,hR,M9,Pg,Fc,Zb,Zc,Ze,Zf,Zg,Zo,Zp,Zq,Zs,Zv,Zw,Zx,Qd,Qf,Qj,Qm,Qn,Qo,Qp,Qq,Qr,Qs,Qu,Qv,Qw,Qx,Q1,Q3,Ja,Jb,Jd,Jl,Jm,Jn,Js,Jt,Jv,Jw,Jy,Jz,J2,Xb,Xj,Xl,Xm,Xp,Xq,Xr,Xu,Xw,Xx,Xy,X6,X7,X8,X9,Wh,Wi,Wj,Wl,Wm,Wo,Wp,Wr,Wt,Wx,W2,W6,Yn,Yo,Yr,Ys,Yt,Yu,Yv,Yw,Y9,Vj,Vr,Vz,V0,V1,V2,V4,V5,V6,Ui,Uj,U5,K9,Pd,Kh,Ks,Ku];tactic =>
        try simp only [Uq] at *;try simp only [nc2] at *
        try simp (maxSteps:=4000000) only [hlb,hd,hg,hP,aX,U1,Kq,U9,G9,Kf,Kg,K8,hjb,hwi,hR,U6]
        repeat' first|with_reducible assumption|with_reducible apply And.intro|intro _|omega|(rw [Uk];omega)
        all_goals first|with_reducible exact okq|omega|(rw [Uk];omega)|rfl|skip))
    ·rw [if_neg h0] at hR2
     have hgt:ltB (i:Int) (W:Int)=false:=by rw [Hm];omega
     obtain ⟨g,hg2⟩:∃ g,I2 s i=g:=⟨_,rfl⟩
     rw [hg2] at hR2
     have hgl:g.length≤2:=by rw [←hg2];exact sign2_le
     have hne:(g != [])=!(g==[]):=rfl
     subst hR2
     (sym=>simp [hlb,hd,hg,hP,aX,U1,Kq,U9,G9,Kf,Kg,K8,hT,hK,hD,hgt,hg2,hne,hR,M9,P7,Pg,P8,ctx_one2_u,Fc,Ny.eq_def,lV,lY,pZ,Nd.eq_def,Mw.eq_def,Mu.eq_def,Zb,Zc,Zd,Ze,Zf,Zg,Zo,Zp,Zq,Zs,Zt,Zu,Zv,Zw,Zx,Zz,Z0,Z2,Z6,Qb,Qd,Qf,Qg,Qh,Qj,Ql,Qm,Qn,Qo,Qp,Qq,Qr,Qs,Qu,Qv,Qw,Qx,Q0,Q1,Q3,Q8,Q9,Ja,Jb,Jc,Jd,Je,Jf,Jl,Jm,Jn,Js,Jt,Ju,Jv,Jw,Jx,Jy,Jz,J2,Xb,Xd,Xe,Xi,Xj,Xl,Xm,Xp,Xq,Xr,Xu,Xw,Xx,Xy,X0,X6,X7,X8,X9,Wb,Wd,Wf,Wg,Wh,Wi,Wj,Wl,Wm,Wn,Wo,Wp,Wr,Wt,Wv,Wx,Wz,W1,W2,W4,W6,Yd,Ye,Yn,Yo,Yp,Yq,Ys,Yt,Yu,Yv,Yw,Yx,Yy,Yz,Y2,Y3,Y4,Y9,Vj,Vk,Vl,Vn,Vr,Vt,Vy,Vz,V0,V1,V2,V4,V5,V6,Ui,Uj,U5,K9,Pd,Kh,Ks,Ku];tactic =>
      try simp only [Uq] at *;try simp only [nc2] at *
      try simp (maxSteps:=4000000) only [hlb,hd,hg,hP,aX,U1,Kq,U9,G9,Kf,Kg,K8,hT,hK,hD,hgt,hg2,hne,hR,U6]
      repeat' first|with_reducible assumption|with_reducible apply And.intro|intro _|omega|(rw [Uk];omega)
      all_goals first|with_reducible exact okq|omega|exact hlp|(rw [Uk];omega)|rfl|skip)
  ·rw [List.drop_eq_nil_of_le hlt] at h3
   have h3':k=W:=by simpa [T6] using h3
   rw [h3'] at hlb hlt
   rw [h3']
   clear h3 h1 h2 h3'
   obtain ⟨P,hP⟩:∃ P,(s.take W).drop i=P:=⟨_,rfl⟩
   rw [hP] at hR2 hlp
   have hfn:=fun {m:Nat} (a1:i≤m) (a2:m<W) (a3:P0 (s.getD m 0)=false)=>piece_fig_not hWl a1 a2 a3
   have hfy:=piece_fig (s:=s) hWi hWl
   rw [hP] at hfn hfy
   cases hT:A7 P with
   | true =>
    rw [hT,if_pos rfl] at hR2
    subst hR2
    (sym=>simp [hlb,hP,aX,U1,Kq,U9,G9,Kf,Kg,K8,hT,hR,M9,P7,Pg,P8,Ny.eq_def,lV,lY,pZ,Nd.eq_def,Mw.eq_def,Mu.eq_def,Zb,Zc,Zd,Ze,Zf,Zg,Zo,Zp,Zq,Zs,Zt,Zu,Zv,Zw,Zx,Z0,Z2,Z6,Qb,Qd,Qf,Qg,Qh,Qj,Ql,Qm,Qn,Qo,Qp,Qq,Qr,Qs,Qu,Qv,Qw,Qx,Q0,Q1,Q3,Q8,Q9,Ja,Jb,Jc,Jd,Je,Jl,Jm,Jn,Js,Jt,Jv,Jw,Jy,Jz,J2,Xb,Xd,Xe,Xj,Xl,Xm,Xp,Xq,Xr,Xu,Xw,Xx,Xy,X0,X6,X7,X8,X9,Wb,Wd,Wf,Wg,Wh,Wi,Wj,Wl,Wm,Wn,Wo,Wp,Wr,Wt,Wv,Wx,Wz,W1,W2,W4,W6,Yd,Yn,Yo,Yp,Yq,Yr,Ys,Yt,Yu,Yv,Yw,Yy,Y3,Y9,Vj,Vk,Vr,Vt,Vy,Vz,V0,V1,V2,V4,V5,V6,Ui,Uj,U5,K9,Pd,Kh,Ks,Ku];tactic =>
     try simp only [Uq] at *;try simp only [nc2] at *
     try simp (maxSteps:=4000000) only [hlb,hP,aX,U1,Kq,U9,G9,Kf,Kg,K8,hT,hR,U6]
     repeat' first|with_reducible assumption|with_reducible apply And.intro|intro _|omega|(rw [Uk];omega)
     all_goals first|with_reducible exact okq|omega|exact hlp|rfl|skip)
   | false =>
   rw [hT,if_neg (by simp)] at hR2
   cases hK:isKey2 P with
   | true =>
    rw [hK,if_pos rfl] at hR2
    subst hR2
    (sym=>simp [hlb,hP,aX,U1,Kq,U9,G9,Kf,Kg,K8,hT,hK,hR,M9,P7,Pg,P8,Ny.eq_def,lV,lY,pZ,Nd.eq_def,Mw.eq_def,Mu.eq_def,Zb,Zc,Zd,Ze,Zf,Zg,Zo,Zp,Zq,Zs,Zt,Zu,Zv,Zw,Zx,Z0,Z2,Z6,Qb,Qd,Qf,Qg,Qh,Qj,Ql,Qm,Qn,Qo,Qp,Qq,Qr,Qs,Qu,Qv,Qw,Qx,Q0,Q1,Q3,Q8,Q9,Ja,Jb,Jc,Jd,Je,Jl,Jm,Jn,Js,Jt,Jv,Jw,Jy,Jz,J2,Xb,Xd,Xe,Xi,Xj,Xl,Xm,Xp,Xq,Xr,Xu,Xw,Xx,Xy,X0,X6,X7,X8,X9,Wb,Wd,Wf,Wg,Wh,Wi,Wj,Wl,Wm,Wn,Wo,Wp,Wr,Wt,Wv,Wx,Wz,W1,W2,W4,W6,Yd,Yn,Yo,Yp,Yq,Yr,Ys,Yt,Yu,Yv,Yw,Yy,Y3,Y9,Vj,Vk,Vr,Vt,Vy,Vz,V0,V1,V2,V4,V5,V6,Ui,Uj,U5,K9,Pd,Kh,Ks,Ku];tactic =>
     try simp only [Uq] at *;try simp only [nc2] at *
     try simp (maxSteps:=4000000) only [hlb,hP,aX,U1,Kq,U9,G9,Kf,Kg,K8,hT,hK,hR,U6]
     repeat' first|with_reducible assumption|with_reducible apply And.intro|intro _|omega|(rw [Uk];omega)
     all_goals first|with_reducible exact okq|omega|exact hlp|rfl|skip)
   | false =>
   rw [hK,if_neg (by simp)] at hR2
   cases hD:Lf P with
   | true =>
    rw [hD,if_pos rfl] at hR2
    subst hR2
    (sym=>simp [hlb,hP,aX,U1,Kq,U9,G9,Kf,Kg,K8,hT,hK,hD,hR,M9,P7,Pg,P8,Ny.eq_def,lV,lY,pZ,Nd.eq_def,Mw.eq_def,Mu.eq_def,Zb,Zc,Zd,Ze,Zf,Zg,Zo,Zp,Zq,Zs,Zt,Zu,Zv,Zw,Zx,Z0,Z2,Z6,Qb,Qd,Qf,Qg,Qh,Qj,Ql,Qm,Qn,Qo,Qp,Qq,Qr,Qs,Qu,Qv,Qw,Qx,Q0,Q1,Q3,Q8,Q9,Ja,Jb,Jc,Jd,Je,Jl,Jm,Jn,Js,Jt,Jv,Jw,Jy,Jz,J2,Xb,Xd,Xe,Xi,Xj,Xl,Xm,Xp,Xq,Xr,Xu,Xw,Xx,Xy,X0,X6,X7,X8,X9,Wb,Wd,Wf,Wg,Wh,Wi,Wj,Wl,Wm,Wn,Wo,Wp,Wr,Wt,Wv,Wx,Wz,W1,W2,W4,W6,Yd,Yn,Yo,Yp,Yq,Ys,Yt,Yu,Yv,Yw,Yy,Y3,Y9,Vj,Vk,Vr,Vt,Vy,Vz,V0,V1,V2,V4,V5,V6,Ui,Uj,U5,K9,Pd,Kh,Ks,Ku];tactic =>
     try simp only [Uq] at *;try simp only [nc2] at *
     try simp (maxSteps:=4000000) only [hlb,hP,aX,U1,Kq,U9,G9,Kf,Kg,K8,hT,hK,hD,hR,U6]
     repeat' first|with_reducible assumption|with_reducible apply And.intro|intro _|omega|(rw [Uk];omega)
     all_goals first|with_reducible exact okq|omega|exact hlp|rfl|skip)
   | false =>
   rw [hD,if_neg (by simp)] at hR2
   by_cases h0:0<T6 (s.drop i)
   ·rw [if_pos h0] at hR2
    have hgt:ltB (i:Int) (W:Int)=true:=by rw [Hf];omega
    have hwi:(W:Int)-(i:Int)=(T6 (s.drop i):Int):=by omega
    (sym=>simp [hlb,hP,aX,U1,Kq,U9,G9,Kf,Kg,K8,hT,hK,hD,hgt,M9,P7,Pg,P8,Ny.eq_def,lV,lY,pZ,Nd.eq_def,Mw.eq_def,Mu.eq_def,Zb,Zc,Zd,Ze,Zf,Zg,Zo,Zp,Zq,Zs,Zt,Zu,Zv,Zw,Zx,Z0,Z2,Z6,Qb,Qd,Qf,Qg,Qh,Qj,Ql,Qm,Qn,Qo,Qs,Qu,Qv,Qw,Qx,Q0,Q1,Q3,Q8,Q9,Ja,Jb,Jc,Je,Jl,Jm,Jn,Js,Jt,Jv,Jw,Jy,Jz,J2,Xb,Xd,Xe,Xi,Xj,Xl,Xm,Xn,Xo,Xp,Xr,Xu,Xw,Xx,Xy,X0,X6,X7,X8,X9,Wb,Wd,Wf,Wg,Wh,Wi,Wj,Wl,Wm,Wn,Wo,Wp,Wr,Wt,Wv,Wx,Wz,W1,W2,W4,W6,Yd,Yn,Yo,Yp,Yq,Ys,Yu,Yv,Yw,Yy,Y3,Y9,Vj,Vk,Vr,Vt,Vy,Vz,V0,V1,V2,V4,V5,V6,Ui,Uj,U5,K9,Pd,Kh,Ks,Ku];tactic =>
     try simp only [Uq] at *;try simp only [nc2] at *
     try simp (maxSteps:=4000000) only [hlb,hP,aX,U1,Kq,U9,G9,Kf,Kg,K8,hT,hK,hD,hgt,U6]
     repeat' first|with_reducible assumption|with_reducible apply And.intro|intro _|omega|(rw [Uk];omega)
     all_goals try exact hlp
     all_goals try omega
     refine Kk [5,71,72,73,74,75,76,77,78,79,80,81] (fun j:Nat=>[(11,.d (.int .i64 j))]) (fun j:Nat=>[]) (fun j:Nat=>i≤j∧j≤W∧∀ m,i≤m→m<j→P0 (s.getD m 0)=true) (fun j:Nat=>W-j) i ?_ ?_ ?_
     ·exact ⟨by omega,by omega,fun m h1 h2=>absurd h2 (by omega)⟩
     ·exact wkq
     rintro j ⟨g1,g2,g3⟩
     rcases Kt j W with ⟨hjt,hjb⟩|⟨hjt,hjb⟩
     ·have hfnj:=hfn g1 hjt
      have hyj:P0 (s.getD j 0)=true→∀ m,i≤m→m<j+1→P0 (s.getD m 0)=true:=fun h m a b=>by
       rcases Nat.lt_or_ge m j with q|q
       ·exact g3 m a q
       ·have:m=j:=by omega
        subst this
        exact h
      obtain ⟨Q,hQ⟩:∃ Q,(∀ m,i≤m→m<j+1→P0 (s.getD m 0)=true)=Q:=⟨_,rfl⟩
      rw [hQ] at hyj
      obtain ⟨d,hd⟩:∃ c,s.getD j 0=c:=⟨_,rfl⟩
      rw [hd] at hfnj hyj
      cases hF:P0 d with
      | true =>
       have hq:=hyj hF
       (sym=>simp [hlb,hP,aX,U1,Kq,U9,G9,Kf,Kg,K8,hjb,hd,hF,M9,P7,Pg,P8,Fc,Ny.eq_def,lV,lY,pZ,Nd.eq_def,Mw.eq_def,Mu.eq_def,Zb,Zc,Ze,Zf,Zg,Zz,Qb,Qd,Qe,Qf,Qg,Qh,Qs,Qu,Qv,Qw,Qx,Q1,Q8,Jc,Je,Jl,Jm,Jn,Js,Jt,Jv,Jw,Jy,Jz,J2,Xd,Xe,Xi,Xj,Xl,Xm,Xn,Xr,Xu,Xw,Xx,X6,X7,X8,X9,Wb,Wd,Wf,Wo,Wp,Wr,Wt,Wu,Wv,Wx,Wy,Wz,W1,Yd,Yn,Yo,Yz,Y4,Y5,Y9,Vj,Vy,Vz,V0,V1,V2,V5,V6,U5,K9,Pd,Kh,Ks,Ku];tactic =>
        try simp only [Uq] at *;try simp only [nc2] at *
        try simp (maxSteps:=4000000) only [hlb,hP,aX,U1,Kq,U9,G9,Kf,Kg,K8,hjb,hd,hF,U6]
        repeat' first|with_reducible assumption|with_reducible apply And.intro|intro _|omega|(rw [Uk];omega)
        all_goals first|with_reducible exact okq|omega|exact ⟨j+1,wkq,by omega,by omega,Eq.mpr hQ hq,by omega⟩|skip)
      | false =>
       rw [hfnj hF,if_neg (by simp)] at hR2
       subst hR2
       (sym=>simp [hlb,hP,aX,U1,Kq,U9,G9,Kf,Kg,K8,hjb,hd,hF,hR,M9,P7,Pg,P8,Ny.eq_def,lV,lY,pZ,Nd.eq_def,Mw.eq_def,Mu.eq_def,Zb,Zc,Ze,Zf,Zg,Zo,Zp,Zq,Zv,Zw,Zz,Qb,Qd,Qe,Qf,Qg,Qh,Qj,Qm,Qn,Qp,Qq,Qr,Qs,Qu,Qv,Qw,Qx,Q1,Q3,Q8,Ja,Jb,Jc,Jd,Je,Jl,Jm,Jn,Js,Jt,Jv,Jw,Jy,Jz,J2,Xb,Xd,Xe,Xi,Xj,Xl,Xm,Xn,Xq,Xr,Xu,Xw,Xx,Xy,X6,X7,X8,X9,Wb,Wd,Wf,Wh,Wi,Wj,Wl,Wo,Wp,Wr,Wt,Wu,Wv,Wx,Wy,Wz,W1,W6,Yd,Yn,Yo,Ys,Yt,Yu,Yv,Yw,Yz,Y4,Y6,Y9,Vk,Vy,V0,V1,V2,V4,V5,V6,Ui,Uj,U5,K9,Pd,Kh,Ks,Ku];tactic =>
        try simp only [Uq] at *;try simp only [nc2] at *
        try simp (maxSteps:=4000000) only [hlb,hP,aX,U1,Kq,U9,G9,Kf,Kg,K8,hjb,hd,hF,hR,U6]
        repeat' first|with_reducible assumption|with_reducible apply And.intro|intro _|omega|(rw [Uk];omega)
        all_goals first|with_reducible exact okq|omega|rfl|skip)
     ·rw [hfy (fun m a b=>g3 m a (by omega)),if_pos rfl] at hR2
      subst hR2
      (sym=>simp [hlb,hP,aX,U1,Kq,U9,G9,Kf,Kg,K8,hjb,hwi,hR,M9,Pg,Fc,Zb,Zc,Ze,Zf,Zg,Zo,Zp,Zq,Zs,Zv,Zw,Zx,Qd,Qf,Qj,Qm,Qn,Qo,Qp,Qq,Qr,Qs,Qu,Qv,Qw,Qx,Q1,Q3,Ja,Jb,Jd,Jl,Jm,Jn,Js,Jt,Jv,Jw,Jy,Jz,J2,Xb,Xj,Xl,Xm,Xp,Xq,Xr,Xu,Xw,Xx,Xy,X6,X7,X8,X9,Wh,Wi,Wj,Wl,Wm,Wo,Wp,Wr,Wt,Wx,W2,W6,Yn,Yo,Yr,Ys,Yt,Yu,Yv,Yw,Y9,Vj,Vr,Vz,V0,V1,V2,V4,V5,V6,Ui,Uj,U5,K9,Pd,Kh,Ks,Ku];tactic =>
       try simp only [Uq] at *;try simp only [nc2] at *
       try simp (maxSteps:=4000000) only [hlb,hP,aX,U1,Kq,U9,G9,Kf,Kg,K8,hjb,hwi,hR,U6]
       repeat' first|with_reducible assumption|with_reducible apply And.intro|intro _|omega|(rw [Uk];omega)
       all_goals first|with_reducible exact okq|omega|(rw [Uk];omega)|rfl|skip))
   ·rw [if_neg h0] at hR2
    have hgt:ltB (i:Int) (W:Int)=false:=by rw [Hm];omega
    obtain ⟨g,hg2⟩:∃ g,I2 s i=g:=⟨_,rfl⟩
    rw [hg2] at hR2
    have hgl:g.length≤2:=by rw [←hg2];exact sign2_le
    have hne:(g != [])=!(g==[]):=rfl
    subst hR2
    exfalso
    omega)
end Go.Am.Ty
