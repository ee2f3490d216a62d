/- Contracts of functions that the law reaches, and plain laws. Conditions: those that each contract states. -/
import Derived.Test.YtilpfkjhahnfaaaGreatH5
import Derived.Lib.OthersKept
import Derived.WalkKit
import Derived.WalkSmall
import Derived.BigCall
import Derived.Sort.Walk0
set_option maxHeartbeats 4000000
set_option linter.unusedVariables false
set_option linter.unusedSimpArgs false
variable {p:Prop}
set_option maxRecDepth 100000
namespace Go.Am.Ty
open Go.Proofs Go.Rose Go.Rose.Rose
def Mh (l:List Node):Prop:=∀ n∈l,Uq n=true
theorem Au {n:Node} (h:Uq n=true):W8 n=(ar n:Int):=(Zz5 (eN h).1).symm
theorem Zoq:∀ {l:List Node} {o k:Nat},Mh l→1≤o→Lz ar l o=some k→vW l o=k
 | [],o+1,k,_,_,h=>by simp [Lz] at h
 | n::l,o+1,k,hn,_,h=>by
  rw [Lz,Option.map_eq_some_iff] at h;obtain ⟨k',h1,rfl⟩:=h;have hm:=Au (hn n (by simp))
  have e:((o+1:Nat):Int)-1+W8 n=((o+ar n:Nat):Int):=by rw [hm];omega
  rw [vW,e];by_cases hz:o+ar n=0
  ·rw [if_pos (by omega)]
   rw [hz] at h1;cases l<;>(simp only [Lz,Zc] at h1;omega)
  ·rw [if_neg (by omega),Zoq (fun m hm=>hn m (List.mem_cons_of_mem _ hm)) (by omega) h1]
   omega
theorem Zvc {l:List Node} {i:Nat} (h:Mh l):Mh (l.drop i):=fun n hn=>h n (List.mem_of_mem_drop hn)
theorem Zrr {t:List Node} {i:Nat} {x:Rose Node} (hn:Mh t) (h:At ar t i x):vW (t.drop i) 1=(nds x).length:=Zoq (o:=1) (Zvc hn) (Zq _) (pI h)
theorem Ztq {t:List Node} {i:Nat} {x:Rose Node} (hn:Mh t) (h:At ar t i x):fC t i=((i+(nds x).length:Nat):Int):=by
 unfold fC;have:=h.lt;rw [if_neg (by omega),Zj,Zrr hn h]
 simp
theorem gU {t:List Node} (hn:Mh t):∀ {ks:List (Rose Node)} {q:Nat},Zlq ar t q ks→Xo t ks.length q=P3 q ks
 | [],_,_=>rfl
 | x::ks,q,h=>by
  have hx:=h.head;rw [Zi,Xo,if_pos hx.1.lt,Zrr hn hx.1,P3,gU hn hx.2]
theorem Zy4 {t:List Node} {i:Nat} {x:Rose Node} (hn:Mh t) (h:At ar t i x):Nd t i=P3 (i+1) x.kids:=by
 unfold Nd;have hl:=h.lt;have hk:=h.kids;have hm:=Au (hn (t.getD i n0) (by simp [hl]))
 rw [if_neg (by omega)]
 simp only [Zj];rw [show (⟨0,[],0⟩:Node)=n0 from rfl,hm,h.root n0,Zj,←hk.2,gU hn hk.1]
theorem oV {t:List Node} (hn:Mh t):∀ {m q:Nat},(Xo t m q).length=m→(∀ j,q≤j→j<t.length→∃ z,At ar t j z)→q≤t.length→∃ ks:List (Rose Node),ks.length=m∧Zlq ar t q ks
 | 0,q,_,_,hq=>⟨[],rfl,trivial,t.drop q,by simp [ndss]⟩
 | m+1,q,h,hz,hq=>by
  rw [Xo] at h;by_cases hlt:q<t.length
  ·rw [if_pos hlt] at h;obtain ⟨x,hx⟩:=hz q (Zq _) hlt;rw [Zrr hn hx] at h;obtain ⟨ks,h1,h2,r,h3⟩:=oV hn (m:=m) (q:=q+(nds x).length) (by simpa using h) (fun j hj=>hz j (by omega)) hx.le
   obtain ⟨h4,r',h5⟩:=hx;refine ⟨x::ks,by simp [h1],⟨h4,h2⟩,r,?_⟩
   rw [←List.drop_drop,h5,List.drop_left'] at h3
   ·rw [h5,h3,ndss,List.append_assoc]
   ·rfl
  ·rw [if_neg hlt] at h;simp at h
theorem dW {t:List Node} (hn:Mh t) (h:∀ i,i<t.length→((Nd t i).length:Int)=W8 (t.getD i n0)):∀ (m i:Nat),t.length-i≤m→i<t.length→∃ z,At ar t i z
 | 0,i,hm,hi=>by omega
 | m+1,i,hm,hi=>by
  have h1:=h i hi;have hmn:=Au (hn (t.getD i n0) (by simp [hi]))
  unfold Nd at h1;rw [if_neg (by omega)] at h1
  simp only [Zj] at h1;rw [show (⟨0,[],0⟩:Node)=n0 from rfl,hmn,Zj] at h1;obtain ⟨ks,k1,k2,r,k3⟩:=oV hn (m:=ar (t.getD i n0)) (q:=i+1) (by omega) (fun j hj hjl=>dW hn h m j (by omega) hjl) (by omega)
  refine ⟨mk (t.getD i n0) ks,⟨k1,k2⟩,r,?_⟩;rw [List.drop_eq_getElem_cons hi,k3,Y7];simp [hi]
def aB (r d:Nat):Bool:=decide (r+d≤100)
theorem tE {r d:Nat} (h:r+d≤100):aB r d=true:=decide_eq_true h
theorem mV {r d:Nat} (h:¬ r+d≤100):aB r d=false:=decide_eq_false h
theorem Qbx {r d r' d':Nat} (h:r+d=r'+d'):aB r d=aB r' d':=by unfold aB;rw [h]
mutual
theorem shal_tree:∀ (x:Rose Node) (l:List Node) (rs:List Int),wf ar x→Mh (nds x)→oF (nds x++l) rs=(aB rs.length (depth x)&&oF l (Og 0 rs))
 | mk n ks,l,rs,hw,hn=>by
  have hm:=Au (hn n (by simp [nds]))
  rw [Y7,List.cons_append,oF,hm,←hw.1];cases ks with
  | nil =>
   have hd:depth (mk n [])=1:=by simp [depth,depths]
   rw [hd];simp only [ndss,List.nil_append,List.length_nil];by_cases h:100≤rs.length
   ·rw [if_pos h,mV (by omega)];rfl
   ·rw [if_neg h,tE (by omega)];rfl
  | cons y ys =>
   have hd:depth (mk n (y::ys))=1+depths (y::ys):=by rw [depth]
   rw [hd,bJ (by simp only [Zi];omega),shal_forest (y::ys) l rs (by simp) hw.2 (fun m hm=>hn m (by rw [Y7];exact List.mem_cons_of_mem _ hm))]
   by_cases h:100≤rs.length
   ·rw [if_pos h,mV (by omega)];rfl
   ·rw [if_neg h]
theorem shal_forest:∀ (xs:List (Rose Node)) (l:List Node) (rs:List Int),xs≠[]→wfs ar xs→Mh (ndss xs)→oF (ndss xs++l) ((xs.length:Int)::rs)=(aB rs.length (1+depths xs)&&oF l (Og 0 rs))
 | [],_,_,h,_,_=>absurd rfl h
 | x::ts,l,rs,_,hw,hn=>by
  have h0:=shal_tree x;cases ts with
  | nil =>
   simp only [ndss,List.append_nil] at hn ⊢;have hd:depths [x]=depth x:=by simp [depths]
   rw [h0 l _ hw.1 hn,hd];simp only [Zi,List.length_nil];rw [Qbx (r:=rs.length+1) (d:=depth x) (r':=rs.length) (d':=1+depth x) (by omega)]
   rfl
  | cons y ts =>
   have h2:=shal_forest (y::ts) l rs (by simp) hw.2 (fun m hm=>hn m (by rw [ndss];exact List.mem_append_right _ hm))
   rw [ndss,List.append_assoc,h0 _ _ hw.1 (fun m hm=>hn m (by rw [ndss];exact List.mem_append_left _ hm))]
   have e:Og 0 ((((x::y::ts).length:Nat):Int)::rs)=(((y::ts).length:Nat):Int)::rs:=by
    rw [Og,if_pos rfl,show (((x::y::ts).length:Nat):Int)-1=(((y::ts).length:Nat):Int) by simp only [Zi];omega,bJ (by simp only [Zi];omega)]
   have hd:depths (x::y::ts)=max (depth x) (depths (y::ts)):=by rw [depths]
   rw [e,h2,hd];simp only [Zi];by_cases h1:rs.length+1+depth x≤100
   ·rw [tE h1,Bool.true_and];by_cases h2:rs.length+(1+depths (y::ts))≤100
    ·rw [tE h2,tE (r:=rs.length) (d:=1+max (depth x) (depths (y::ts))) (by omega)]
    ·rw [mV h2,mV (r:=rs.length) (d:=1+max (depth x) (depths (y::ts))) (by omega)]
   ·rw [mV h1,mV (r:=rs.length) (d:=1+max (depth x) (depths (y::ts))) (by omega)]
    rfl
end
theorem dC {x:Rose Node} (hw:wf ar x) (hn:Mh (nds x)):Dh (nds x)=aB 0 (depth x):=by
 have:=shal_tree x [] [] hw hn;simp only [List.append_nil,List.length_nil] at this;unfold Dh;rw [this,oF];simp
def Zyz (n:Node) (ks:List (Rose Node)):Bool:=(List.range ks.length).all fun k=>Zax n (ks.getD k (mk n0 [])).root (ks.getD (k-1) (mk n0 [])).root (X4 0 k) ((k:Int)==(ks.length:Int)-1)
mutual
def labT:Rose Node→Bool
 | mk n ks=>Zyz n ks&&labTs ks
def labTs:List (Rose Node)→Bool
 | []=>true
 | x::xs=>labT x&&labTs xs
end
theorem Qbi {t:List Node} {i:Nat} {x:Rose Node} (hn:Mh t) (h:At ar t i x):O8 t i=Zyz x.root x.kids:=by
 have hk:=h.kids;have hl:=h.lt;have hm:=Au (hn (t.getD i n0) (by simp [hl]))
 have hr:=h.root n0;unfold O8;rw [Zy4 hn h,Lw,hr];rw [hr] at hm;rw [hm,hk.2];rw [show ((ar x.root:Int)==(ar x.root:Int))=true by simp,Bool.true_and]
 unfold Zyz;rw [hk.2];apply Bool.eq_iff_iff.2;simp only [List.all_eq_true,List.mem_range];have key:∀ k,k<x.kids.length→Rc t (P3 (i+1) x.kids) k=(x.kids.getD k (mk n0 [])).root:=by
  intro k hk';unfold Rc;rw [lI _ _ k hk',Zj];have:=(uL hk.1 hk').root n0;rw [this];simp [hk']
 have e:∀ k,k<ar x.root→dL t i (P3 (i+1) x.kids) k=Zax x.root (x.kids.getD k (mk n0 [])).root (x.kids.getD (k-1) (mk n0 [])).root (X4 0 k) ((k:Int)==(ar x.root:Int)-1):=by
  intro k hk';unfold dL;rw [hr,key k (by omega),key (k-1) (by omega),Lw,hk.2]
 constructor
 ·intro g k hk';rw [←e k hk'];exact g k hk'
 ·intro g k hk';rw [e k hk'];exact g k hk'
mutual
theorem labT_at {t:List Node} (hn:Mh t):∀ {x:Rose Node} {i:Nat},At ar t i x→(labT x=true↔∀ j,i≤j→j<i+(nds x).length→O8 t j=true)
 | mk n ks,i,h=>by
  have h1:=Qbi hn h;have hk:Zlq ar t (i+1) ks:=h.kids.1;rw [labT,Zg,labTs_at hn hk,Y7,Zi];simp only [root,kids] at h1 ⊢;constructor
  ·rintro ⟨g1,g2⟩ j hj1 hj2;by_cases hji:j=i
   ·subst hji;rw [h1];exact g1
   ·exact g2 j (by omega) (by omega)
  ·intro g;exact ⟨by rw [←h1];exact g i (Zq _) (by omega),fun j hj1 hj2=>g j (by omega) (by omega)⟩
theorem labTs_at {t:List Node} (hn:Mh t):∀ {xs:List (Rose Node)} {i:Nat},Zlq ar t i xs→(labTs xs=true↔∀ j,i≤j→j<i+(ndss xs).length→O8 t j=true)
 | [],i,_=>by simp only [labTs,ndss,List.length_nil,true_iff];intro j h1 h2;omega
 | x::xs,i,h=>by
  rw [labTs,Zg,labT_at hn h.head.1,labTs_at hn h.head.2];simp only [ndss,Zf];constructor
  ·rintro ⟨g1,g2⟩ j hj1 hj2;rcases Nat.lt_or_ge j (i+(nds x).length) with hlt|hge
   ·exact g1 j hj1 hlt
   ·exact g2 j hge (by omega)
  ·intro g;exact ⟨fun j hj1 hj2=>g j hj1 (by omega),fun j hj1 hj2=>g j (by omega) (by omega)⟩
end
structure RT (x:Rose Node):Prop where
 wf:wf ar x
 numb:Mh (nds x)
 depth:depth x≤100
 lab:labT x=true
 name:x.root.name=[]
 kind:x.root.kind≠9
 len:(nds x).length≤10000
theorem wO {x:Rose Node} (h:RT x):Xz (nds x)=true:=by
 have ha:=Ti h.wf;have hp:=En x;have hr:=ha.root n0;unfold Xz;have h1:X8 (nds x)=false:=by
  unfold X8;rw [hr,h.name];have e1:((nds x).length==0)=false:=by rw [Za];omega
  have e2:X4 10000 ((nds x).length:Int)=false:=by rw [Qv];have:=h.len;omega
  have e3:(x.root.kind==9)=false:=by rw [Za];exact h.kind
  rw [e1,e2,e3];rfl
 have h2:(nds x).all Uq=true:=List.all_eq_true.2 h.numb;have h3:fC (nds x) 0=((nds x).length:Int):=by have:=Ztq h.numb ha;simpa using this
 have h4:Dh (nds x)=true:=by rw [dC h.wf h.numb];exact tE (by have:=h.depth;omega)
 have h5:((List.range (nds x).length).all fun i=>O8 (nds x) i)=true:=Uo fun j hj=>(labT_at h.numb ha).1 h.lab j (Nat.zero_le _) (by omega)
 rw [h1,h2,h3,h4,h5];simp
theorem T4 {t:List Node} (h:Xz t=true):∃ x,t=nds x∧RT x:=by
 unfold Xz at h;simp only [Zg,Bool.not_eq_true',Zk] at h;obtain ⟨h1,h2,⟨h3,h4⟩,h5⟩:=h;unfold X8 at h1;simp only [Bool.or_eq_false_iff,Za,Bool.not_eq_false',Zk,Qv] at h1;obtain ⟨⟨⟨g1,g2⟩,g3⟩,g4⟩:=h1;have hn:Mh t:=List.all_eq_true.1 h2;have hl:∀ i,i<t.length→O8 t i=true:=fun i hi=>List.all_eq_true.1 h5 i (List.mem_range.2 hi);have hk:∀ i,i<t.length→((Nd t i).length:Int)=W8 (t.getD i n0):=by
  intro i hi;have:=hl i hi;unfold O8 at this;rw [Zg,Zk] at this;exact this.1
 obtain ⟨x,hx⟩:=dW hn hk t.length 0 (by omega) (by omega)
 have he:=Ztq hn hx;have he':fC t 0=((0+(nds x).length:Nat):Int):=he;rw [h3] at he';obtain ⟨hw,r,hr⟩:=id hx;have htx:t=nds x:=by
  rw [List.drop_zero] at hr;have:=congrArg List.length hr;rw [Zf] at this;have hr0:r=[]:=List.length_eq_zero_iff.1 (by omega)
  rw [hr,hr0,List.append_nil]
 have hroot:=hx.root n0;subst htx;refine ⟨x,rfl,⟨hw,hn,?_,(labT_at hn hx).2 fun j _ hj=>hl j (by omega),by rw [←hroot];exact g3,by rw [←hroot];exact g4,by omega⟩⟩
 rw [dC hw hn] at h4;have:=of_decide_eq_true h4;omega
def Zx1 (m n:Node):Bool:=m.kind==n.kind&&(m.name==n.name&&m.n==n.n)
theorem Zyk {b:Bool} {n:Node} {ks:List (Rose Node)} {y:Rose Node}:ov b (mk n ks) y=cond (n.kind==0||y.root.kind==0) (pX b y.root) (Zx1 n y.root&&ovs b ks y.kids):=by rw [ov];rfl
mutual
theorem ov_refl (b:Bool):∀ x:Rose Node,ov b x x=true
 | mk n ks=>by
  rw [Zyk];simp only [root,kids];cases h:(n.kind==0) with
  | true=>simp [pX,h]
  | false=>simp [Zx1,ovs_refl b ks]
theorem ovs_refl (b:Bool):∀ xs:List (Rose Node),ovs b xs xs=true
 | []=>by rw [ovs]
 | x::xs=>by rw [ovs];simp [ov_refl b x,ovs_refl b xs]
end
open Enc (enc dec)
theorem Qbu {l:List Node} (h:0<l.length):el (l.map (enc:Node→D)) 0=enc (l.getD 0 n0):=Zr n0 h
open Go.Proofs
theorem Qdr {p q r:D→Prop} {ds:List D} (h:Zsg [p,q,r] ds):∃ a b c,ds=[a,b,c]∧p a∧q b∧r c:=by
 match ds,h with
 | [a,b,c],h=>exact ⟨a,b,c,rfl,h.1,h.2.1,h.2.2.1⟩
theorem Qc7:Zw2 Tryz.prog 82 3 true Node (fun n=>n.name.length≤maxLen) :=
 (lX (ps:=[_,_,_]) Tryz.underlying82 (by kernel_rfl) rfl ⟨rfl,by kernel_rfl,Zal Tryz.underlying3,rfl,by kernel_rfl,Zsv Tryz.underlying9,rfl,by kernel_rfl,Zal Tryz.underlying3,trivial⟩).mono fun x h=>by
  obtain ⟨ds,rfl,h⟩:=h;obtain ⟨a,b,c,rfl,⟨k,rfl,_⟩,⟨s,rfl,hl⟩,⟨n,rfl,_⟩⟩:=Qdr h;exact ⟨⟨k,s,n⟩,rfl,hl⟩
theorem Zsx:Zw2 Tryz.prog 45 1 false (Sl Node) (fun a=>a.l.length≤maxLen∧∀ y∈a.l,y.name.length≤maxLen):=qR Tryz.underlying45 (by kernel_rfl) rfl (by decide) Qc7
mutual
def mt:Rose Node→Rose Node→Rose Node
 | mk n ks,y=>cond (y.root.kind==0) (mk n ks) (cond (n.kind==0) y (mk n (mts ks y.kids)))
def mts:List (Rose Node)→List (Rose Node)→List (Rose Node)
 | [],_=>[]
 | _::_,[]=>[]
 | x::xs,y::ys=>mt x y::mts xs ys
end
def nU (a:List Node) (s:MS) (i:Nat):List Node:=s.out.getD []++(a.take i).drop s.done
theorem H6 {t:List Node}:Ux t=true↔∀ n∈t,n.kind≠8∧n.kind≠9:=by
 unfold Ux;simp [List.all_eq_true]
def Kg {A B:Type} [Enc A] [Enc B] [Sz B] (p:A→Prop) (f:A→List B):Con:=⟨[false],[true],fun c=>match c with
 | [.d x]=>V9 A x∧p (dec x)
 | _=>False,fun c=>match c with
 | [.d x]=>.own (Sz.sz B) ((f (dec x)).map enc)
 | _=>.d .nilp⟩
theorem Wp:type_of% @Kg.eq_def:=@Kg.eq_def
theorem cO {A B:Type} [Enc A] [Enc B] [Sz B] {p:A→Prop} {f:A→List B} {c:List CV} (h:(Kg p f).pre c):∃ a,c=[.d (enc a)]∧p a:=by
 unfold Kg at h;simp only at h;split at h
 ·next x=>exact ⟨dec x,by rw [←h.1],h.2⟩
 ·exact h.elim
theorem rC {s:Nat} {l:List D}:Qd5 (.list s l)=(l≠[]):=rfl
def Qim:List Node→List Node
 | []=>[]
 | n::r=>⟨n.kind,[],n.n⟩::r
def n5:Node:=⟨5,[],0⟩
def K4 {A B R S:Type} [Enc A] [Enc B] [Enc R] [Enc S] (p:A→Prop) (f:A→B×R×S):Con:=⟨[false],[false,false,false],fun c=>match c with
 | [.d x]=>V9 A x∧p (dec x)
 | _=>False,fun c=>match c with
 | [.d x]=>.tup [.d (enc (f (dec x)).1),.d (enc (f (dec x)).2.1),.d (enc (f (dec x)).2.2)]
 | _=>.d .nilp⟩
theorem Ub:type_of% @K4.eq_def:=@K4.eq_def
theorem uX {A B R S:Type} [Enc A] [Enc B] [Enc R] [Enc S] {p:A→Prop} {f:A→B×R×S} {c:List CV} (h:(K4 p f).pre c):∃ a,c=[.d (enc a)]∧p a:=by
 unfold K4 at h;simp only at h;split at h
 ·next x=>exact ⟨dec x,by rw [←h.1],h.2⟩
 ·exact h.elim
def H1 {A R S:Type} [Enc A] [Enc R] [Enc S] (p:A→Prop) (f:A→R×S):Con:=⟨[false],[false,false],fun c=>match c with
 | [.d x]=>V9 A x∧p (dec x)
 | _=>False,fun c=>match c with
 | [.d x]=>.tup [.d (enc (f (dec x)).1),.d (enc (f (dec x)).2)]
 | _=>.d .nilp⟩
theorem Wq:type_of% @H1.eq_def:=@H1.eq_def
theorem zY {A R S:Type} [Enc A] [Enc R] [Enc S] {p:A→Prop} {f:A→R×S} {c:List CV} (h:(H1 p f).pre c):∃ a,c=[.d (enc a)]∧p a:=by
 unfold H1 at h;simp only at h;split at h
 ·next x=>exact ⟨dec x,by rw [←h.1],h.2⟩
 ·exact h.elim
def Qgi (t:List Node):Prop:=t.length≤10000000∧Mh t∧∃ x,t=nds x∧wf ar x
def H7 (ks:List (Rose Node)):List (Sl Node):=ks.map fun k=>Sl.mk (Qim (nds k))
def Qfp (n:Node):Node:=⟨n.kind,[],n.n⟩
def Qb3:Rose Node→Rose Node
 | mk n ks=>mk (Qfp n) ks
def Qhi (f:Bool) (x y:Rose Node):Bool:=ov f (Qb3 x) (Qb3 y)
theorem Zz8 {f:Bool}:∀ {x y:Rose Node},x.root.name=y.root.name→Qhi f x y=ov f x y
 | mk n ks,mk m qs,h=>by
  simp only [root] at h;unfold Qhi;rw [Qb3,Qb3,Zyk,Zyk];simp only [root,kids,Zx1,Qfp,h,beq_self_eq_true,Bool.true_and];rfl
structure Fn0 (f:Nat) where
instance encFn0 (f:Nat):Enc (Fn0 f):=⟨fun _=>.clo f [],fun _=>⟨⟩,fun _=>rfl⟩
theorem Ye {f:Nat} {a:Fn0 f}:(enc a:D)=.clo f []:=rfl
theorem Yb {f:Nat}:V9 (Fn0 f) (.clo f [])=True:=eq_true rfl
def Zme (x y:Node):Bool:=lA x==lA y
def cF:Con:=Xc (fun (_ _:Node)=>True) Zme
structure Kbk:Prop
theorem Kbk.k (_:Kbk) (h:p:=by
 repeat' first|exact Z8|with_reducible apply Zb|intro _
 all_goals
  unfold Zme;rw [Bool.eq_iff_iff];simp only [Zk];unfold lA;obtain ⟨xk,xn,xm⟩:=x;obtain ⟨yk,yn,ym⟩:=y;simp only at *;repeat' split
  all_goals
   first|(simp only [Node.mk.injEq];done)|(simp only [Node.mk.injEq];constructor<;>(intro h;simp_all))):p:=h
theorem good_SameN:Qa Tryz.prog (171,cF):=by
 obtain ⟨Kx,Kt,Kc,Kd,Kb,Ku,Kw,K,_⟩:=Xe Zv Zn [] false Xd;have Ko:=cF.eq_def;refine Xj K Tryz.func171 [.tmp 4] rfl 21 rfl (fun c hc cvs hpre=>?_);unfold cF at hpre;obtain ⟨x,y,rfl,-⟩:=Ql hpre;cases hc;have Kq:Kbk:=⟨⟩;exact U6
def P9:Con:=Vp (fun (a b:Sl Node) (_:Fn0 171)=>a.l.length≤9223372036854775807∧b.l.length≤9223372036854775807) (fun a b _=>fS a.l b.l)
structure Kbm:Prop
theorem Kbm.k (_:Kbm) (h:p:=by
 repeat' first|exact Z8|with_reducible apply Zb|intro _
 all_goals first|with_reducible exact Jd|exact ⟨k+1,by exact Qw,by omega,hyes,by omega⟩):p:=h
structure Kbn:Prop
theorem Kbn.k (_:Kbn) (h:p:=by
 symm;unfold fS;rw [Zk];refine List.ext_getElem (by simp [hlen]) fun j h1 h2=>?_
 rw [Zl] at h1 h2;have:=hno j (by omega)
 simpa [h1,h2] using this):p:=h
structure Kbl:Prop
theorem Kbl.k (_:Kbl) (h:p:=by
 refine ⟨fun hne=>?_,fun heq=>?_⟩
 ·symm;unfold fS;rw [Za];intro h;have:=congrArg List.length h;rw [Zl,Zl] at this;exact hne (by rw [this])
 have hlen:a.length=b.length:=by omega
 refine Zm [6,7,8,9,18,19,20,21,22,23,24,25,26,27,28,29,30,31] (fun k:Nat=>[(17,.d (.int .i64 k))]) (fun k:Nat=>[]) (fun k:Nat=>k≤a.length∧∀ j,j<k→lA (a.getD j ⟨0,[],0⟩)=lA (b.getD j ⟨0,[],0⟩)) (fun k:Nat=>a.length-k) 0 ?_ ?_ ?_
 ·simp
 ·exact Qw
 rintro k ⟨hk,hno⟩;rcases Zo k a.length with ⟨hlt,Qb⟩|⟨hlt,Qb⟩
 ·have Qf:=Zr (⟨0,[],0⟩:Node) hlt;have Z9:=Zr (⟨0,[],0⟩:Node) (show k<b.length by omega)
  cases Qe:Zme (a.getD k ⟨0,[],0⟩) (b.getD k ⟨0,[],0⟩) with
  | false =>
   have hbad:false=fS a b:=by
    symm;unfold fS;rw [Za];intro e;unfold Zme at Qe;rw [Za] at Qe;apply Qe;have h1:(a.map lA).getD k ⟨0,[],0⟩=(b.map lA).getD k ⟨0,[],0⟩:=by rw [e]
    simpa [hlt,show k<b.length by omega] using h1
   have Qc:=@Ye;exact wL
  | true =>
   have hyes:∀ j,j<k+1→lA (a.getD j ⟨0,[],0⟩)=lA (b.getD j ⟨0,[],0⟩):=by
    intro j hj;unfold Zme at Qe;rw [Zk] at Qe;by_cases hjk:j=k
    ·subst hjk;exact Qe
    ·exact hno j (by omega)
   have Qc:=@Ye;have Kq:Kbm:=⟨⟩;exact U6
 ·have Kq:Kbn:=⟨⟩;exact U6):p:=h
theorem good_equalNodes:Qa Tryz.prog (170,P9):=by
 obtain ⟨Kx,Kt,Kc,Kd,Kb,Ku,Kw,K,X9,_⟩:=Xe Zv Zn [] false (Q0 good_SameN cF.eq_def Xd);have Ko:=P9.eq_def;refine Xj K Tryz.func170 [.tmp 6] rfl 32 rfl (fun c hc cvs hpre=>?_);unfold P9 at hpre;obtain ⟨⟨a⟩,⟨b⟩,f,rfl,ha,hb⟩:=Vb hpre;simp only at ha hb;cases hc;refine Y4 2 ?_;have Qc:=@Ye;have Kq:Kbl:=⟨⟩;exact U6
def cE:Con:=Xc (fun (a b:Sl Node)=>a.l.length≤9223372036854775807∧b.l.length≤9223372036854775807) (fun a b=>fS a.l b.l)
theorem Zrd:Qa Tryz.prog (127,cE):=by
 obtain ⟨Kx,Kt,Kc,Kd,Kb,Ku,Kw,K,X9,_⟩:=Xe Zv Zn [] false (Q0 good_equalNodes P9.eq_def Xd);have Ko:=cE.eq_def;refine Xj K Tryz.func127 [.tmp 4] rfl 8 rfl (fun c hc cvs hpre=>?_);unfold cE at hpre;obtain ⟨⟨a⟩,⟨b⟩,rfl,ha,hb⟩:=Ql hpre;simp only at ha hb;cases hc;have Qb:=@Yb;exact wL
def Znx {α:Type} (p:α→Bool) (l:List α):Int:=match l.findIdx? p with
 | some i=>(i:Int)
 | none=>-1
theorem Zth {α:Type} {p:α→Bool} {l:List α} {k:Nat} (d:α) (hk:k<l.length) (hno:∀ j,j<k→p (l.getD j d)=false) (hp:p (l.getD k d)=true):Znx p l=k:=by
 have h:l.findIdx? p=some k:=by
  rw [List.findIdx?_eq_some_iff_getElem];refine ⟨hk,by simpa [hk] using hp,fun j hj=>?_⟩
  have:=hno j hj;simpa [show j<l.length by omega] using this
 unfold Znx;rw [h]
theorem yX {α:Type} {p:α→Bool} {l:List α} (d:α) (hno:∀ j,j<l.length→p (l.getD j d)=false):Znx p l=-1:=by
 have h:l.findIdx? p=none:=by
  rw [List.findIdx?_eq_none_iff];intro x hx;obtain ⟨j,hj,rfl⟩:=List.getElem_of_mem hx;have:=hno j hj;simpa [hj] using this
 unfold Znx;rw [h]
theorem Znw {α:Type} {p:α→Bool} {l:List α}:Xf 0 (Znx p l)=l.any p:=by
 unfold Znx;cases h:l.findIdx? p with
 | none =>
  rw [List.findIdx?_eq_none_iff] at h;have:l.any p=false:=by rw [List.any_eq_false];intro x hx;rw [h x hx];simp
  rw [this];rfl
 | some i =>
  rw [List.findIdx?_eq_some_iff_getElem] at h;obtain ⟨hi,hp,_⟩:=h;have:l.any p=true:=by rw [List.any_eq_true];exact ⟨_,List.getElem_mem hi,hp⟩
  rw [this];simp [Xf]
def Qal (v:Int) (x:Int):Bool:=v==x
def Cj:Con:=Xc (fun (l:Sl Int) (_:Int)=>l.l.length≤9223372036854775807) (fun l v=>Znx (Qal v) l.l)
structure Kbp:Prop
theorem Kbp.k (_:Kbp) (h:p:=by
 repeat' first|exact Z8|with_reducible apply Zb|intro _
 refine ⟨k+1,by exact Qw,by omega,fun j hj=>?_,by omega⟩
 by_cases hjk:j=k
 ·subst hjk;exact hs
 ·exact hno j (by omega)):p:=h
structure Kbo:Prop
theorem Kbo.k (_:Kbo) (h:p:=by
 refine Zm [4,5,9,10,11,12,13,14,15,16,17,18] (fun k:Nat=>[(8,.d (.int .i64 k))]) (fun k:Nat=>[]) (fun k:Nat=>k≤l.length∧∀ j,j<k→Qal v (l.getD j 0)=false) (fun k:Nat=>l.length-k) 0 ?_ ?_ ?_
 ·simp
 ·exact Qw
 rintro k ⟨hk,hno⟩;rcases Zo k l.length with ⟨hlt,Qb⟩|⟨hlt,Qb⟩
 ·have Qf:=Zr (0:Int) hlt;cases hs:Qal v (l.getD k 0) with
  | false =>
   have Z9:(v==l.getD k 0)=false:=hs;have Kq:Kbp:=⟨⟩;exact U6
  | true =>
   have Z9:(v==l.getD k 0)=true:=hs;have Qe:=Zth 0 hlt hno hs;exact wL
 ·have Qe:=yX (p:=Qal v) (l:=l) 0 (fun j hj=>hno j (by omega))
  exact Zx0):p:=h
theorem good_indexInt:Qa Tryz.prog (235,Cj):=by
 obtain ⟨Kx,Kt,Kc,Kd,Kb,Ku,Kw,K,_⟩:=Xe Zv Zn [] false Xd;have Ko:=Cj.eq_def;refine Xj K Tryz.func235 [.tmp 4] rfl 19 rfl (fun c hc cvs hpre=>?_);unfold Cj at hpre;obtain ⟨⟨l⟩,v,rfl,hl⟩:=Ql hpre;simp only at hl;cases hc;have Kq:Kbo:=⟨⟩;exact U6
def Mn:Con:=Xc (fun (l:Sl Int) (_:Int)=>l.l.length≤9223372036854775807) (fun l v=>l.l.any (Qal v))
theorem lS:Qa Tryz.prog (197,Mn):=by
 obtain ⟨Kx,Kt,Kc,Kd,Kb,Ku,Kw,K,X9,_⟩:=Xe Zv Zn [] false (Q0 good_indexInt Cj.eq_def Xd);have Ko:=Mn.eq_def;refine Xj K Tryz.func197 [.tmp 4] rfl 9 rfl (fun c hc cvs hpre=>?_);unfold Mn at hpre;obtain ⟨⟨l⟩,v,rfl,hl⟩:=Ql hpre;simp only at hl;have Qb:=Znw (p:=Qal v) (l:=l);cases hc;exact wL
structure PI where
 l:List Int
instance encPI:Enc PI:=⟨fun p=>.ptr 1 (.list 1 (p.l.map enc)),fun x=>match x with
 | .ptr _ y=>⟨y.l.map dec⟩
 | _=>⟨[]⟩,fun p=>by
  have h:∀ l:List Int,(l.map (enc:Int→D)).map dec=l:=fun l=>Jq;obtain ⟨l⟩:=p;simp [D.l,h]⟩
theorem Qdj {l:List Int}:(enc (PI.mk l):D)=.ptr 1 (.list 1 (l.map enc)):=rfl
theorem Qdx {l:List Int}:(PI.mk l).l=l:=rfl
theorem Zrv {l:List Int}:(dec (.ptr 1 (.list 1 (l.map enc))):PI)=⟨l⟩:=Enc.dec_enc (PI.mk l)
theorem Zy6 {l:List Int}:V9 PI (.ptr 1 (.list 1 (l.map enc)))=True:=eq_true (Xq (PI.mk l))
structure NoneF where
 l:List Int
instance encNoneF:Enc NoneF:=⟨fun p=>.clo 196 [.ptr 1 (.list 1 (p.l.map enc))],fun x=>match x with
 | .clo _ [.ptr _ y]=>⟨y.l.map dec⟩
 | _=>⟨[]⟩,fun p=>by
  have h:∀ l:List Int,(l.map (enc:Int→D)).map dec=l:=fun l=>Jq;obtain ⟨l⟩:=p;simp [D.l,h]⟩
theorem bR {l:List Int}:(enc (NoneF.mk l):D)=.clo 196 [.ptr 1 (.list 1 (l.map enc))]:=rfl
theorem pL {l:List Int}:(NoneF.mk l).l=l:=rfl
theorem mK {l:List Int}:(dec (.clo 196 [.ptr 1 (.list 1 (l.map enc))]):NoneF)=⟨l⟩:=Enc.dec_enc (NoneF.mk l)
theorem Zv3 {l:List Int}:V9 NoneF (.clo 196 [.ptr 1 (.list 1 (l.map enc))])=True:=eq_true (Xq (NoneF.mk l))
theorem Zwj {l:List Int}:(dec (.clo 196 [.ptr 1 (enc (Sl.mk l))]):NoneF)=⟨l⟩:=Enc.dec_enc (NoneF.mk l)
theorem Zv2 {l:List Int}:V9 NoneF (.clo 196 [.ptr 1 (enc (Sl.mk l))])=True:=eq_true (Xq (NoneF.mk l))
def Ls (l:List Int) (n:Node):Bool:=l.any (Qal n.kind)
def cQ:Con:=Xc (fun (_:Node) (p:PI)=>p.l.length≤1000000) (fun n p=>Ls p.l n)
theorem Zq6:Qa Tryz.prog (196,cQ):=by
 obtain ⟨Kx,Kt,Kc,Kd,Kb,Ku,Kw,K,X9,_⟩:=Xe Zv Zn [] false (Q0 lS Mn.eq_def Xd);have Ko:=cQ.eq_def;refine Xj K Tryz.func196 [.tmp 3] rfl 8 rfl (fun c hc cvs hpre=>?_);unfold cQ at hpre;obtain ⟨n,⟨l⟩,rfl,hl⟩:=Ql hpre;simp only at hl;have Qb:Ls l n=l.any (Qal n.kind):=rfl;cases hc;have Qf:=@Qdj;have Z9:=@Zrv;have Qe:=@Qdx;exact wL
def Sp:Con:=Xc (fun (l:Sl Node) (f:NoneF)=>l.l.length≤9223372036854775807∧f.l.length≤1000000) (fun l f=>Znx (Ls f.l) l.l)
structure Kbr:Prop
theorem Kbr.k (_:Kbr) (h:p:=by
 repeat' first|exact Z8|with_reducible apply Zb|intro _
 refine ⟨k+1,by exact Qw,by omega,fun j hj=>?_,by omega⟩
 by_cases hjk:j=k
 ·subst hjk;exact Z9
 ·exact hno j (by omega)):p:=h
structure Kbq:Prop
theorem Kbq.k (_:Kbq) (h:p:=by
 refine Zm [4,5,9,10,11,12,13,14,15,16,17,18] (fun k:Nat=>[(8,.d (.int .i64 k))]) (fun k:Nat=>[]) (fun k:Nat=>k≤l.length∧∀ j,j<k→Ls v (l.getD j ⟨0,[],0⟩)=false) (fun k:Nat=>l.length-k) 0 ?_ ?_ ?_
 ·simp
 ·exact Qw
 rintro k ⟨hk,hno⟩;rcases Zo k l.length with ⟨hlt,Qb⟩|⟨hlt,Qb⟩
 ·have Qf:=Zr (⟨0,[],0⟩:Node) hlt;cases Z9:Ls v (l.getD k ⟨0,[],0⟩) with
  | false =>
   have Qc:=@bR;have Qh:=@Zrv;have Qn:=@Zy6;have Q6:=@Qdx;have Kq:Kbr:=⟨⟩;exact U6
  | true =>
   have Qe:=Zth ⟨0,[],0⟩ hlt hno Z9;have Qc:=@bR;have Qh:=@mK;have Qn:=@Zrv;have Q6:=@Zy6;have Je:=@Qdx;have Q4:=@pL;exact wL
 ·have Qe:=yX (p:=Ls v) (l:=l) ⟨0,[],0⟩ (fun j hj=>hno j (by omega))
  have Qc:=@mK;have Qh:=@pL;exact Zx0):p:=h
theorem good_indexNode:Qa Tryz.prog (234,Sp):=by
 obtain ⟨Kx,Kt,Kc,Kd,Kb,Ku,Kw,K,X9,_⟩:=Xe Zv Zn [] false (Q0 Zq6 cQ.eq_def Xd);have Ko:=Sp.eq_def;refine Xj K Tryz.func234 [.tmp 4] rfl 19 rfl (fun c hc cvs hpre=>?_);unfold Sp at hpre;obtain ⟨⟨l⟩,⟨v⟩,rfl,hl,hv⟩:=Ql hpre;simp only at hl hv;cases hc;have Qc:=@bR;have Kq:Kbq:=⟨⟩;exact U6
def N1:Con:=Xc (fun (l:Sl Node) (f:NoneF)=>l.l.length≤9223372036854775807∧f.l.length≤1000000) (fun l f=>l.l.any (Ls f.l))
theorem iC:Qa Tryz.prog (195,N1):=by
 obtain ⟨Kx,Kt,Kc,Kd,Kb,Ku,Kw,K,X9,_⟩:=Xe Zv Zn [] false (Q0 good_indexNode Sp.eq_def Xd);have Ko:=N1.eq_def;refine Xj K Tryz.func195 [.tmp 4] rfl 9 rfl (fun c hc cvs hpre=>?_);unfold N1 at hpre;obtain ⟨⟨l⟩,⟨v⟩,rfl,hl,hv⟩:=Ql hpre;simp only at hl hv;have Qb:=Znw (p:=Ls v) (l:=l);cases hc;have Qf:=@bR;have Z9:=@mK;have Qe:=@Zv3;have Qc:=@pL;exact wL
def Ro:Con:=Xc (fun (l:Sl Node) (f:Sl Int)=>l.l.length≤9223372036854775807∧f.l.length≤1000000) (fun l f=>!l.l.any (Ls f.l))
theorem sH:Qa Tryz.prog (166,Ro):=by
 obtain ⟨Kx,Kt,Kc,Kd,Kb,Ku,Kw,K,X9,_⟩:=Xe Zv Zn [] false (Q0 iC N1.eq_def Xd);have Ko:=Ro.eq_def;refine Xj K Tryz.func166 [.tmp 4] rfl 9 rfl (fun c hc cvs hpre=>?_);unfold Ro at hpre;obtain ⟨⟨l⟩,⟨v⟩,rfl,hl,hv⟩:=Ql hpre;simp only at hl hv;cases hc;have Qb:=@Zwj;have Qf:=@Zv2;have Z9:=@pL;exact wL
theorem Zqe (t:List Node):(!t.any (Ls [8,9]))=Ux t:=by
 unfold Ux;rw [List.not_any_eq_all_not]
 congr 1
 funext n
 simp [Ls,Qal,bne]
def Ik:Con:=J7 (fun (t:Sl Node)=>t.l.length≤9223372036854775807) (fun t=>Ux t.l)
theorem Zn5:Qa Tryz.prog (117,Ik):=by
 obtain ⟨Kx,Kt,Kc,Kd,Kb,Ku,Kw,K,X9,_⟩:=Xe Zv Zn [] false (Q0 sH Ro.eq_def Xd);have Ko:=Ik.eq_def;refine Xj K Tryz.func117 [.tmp 2] rfl 6 rfl (fun c hc cvs hpre=>?_);unfold Ik at hpre;obtain ⟨⟨t⟩,rfl,ht⟩:=Q2 hpre;simp only at ht;have Qb:=Zqe t;cases hc;exact wL
structure Rune where
 v:Int
instance encRune:Enc Rune:=⟨fun a=>.int .i32 a.v,fun x=>⟨x.i⟩,fun _=>rfl⟩
theorem tW {a:Rune}:(enc a:D)=.int .i32 a.v:=rfl
theorem tG {v:Int}:(dec (.int .i32 v):Rune)=⟨v⟩:=rfl
theorem sA {v:Int}:V9 Rune (.int .i32 v)=True:=eq_true rfl
theorem Qdu {v:Int}:(Rune.mk v).v=v:=rfl
theorem qI {a:Rune}:Rune.mk a.v=a:=rfl
def Lk (r:Int):Bool:=Xf 97 r&&Xf r 122
def Lx (r:Int):Bool:=Xf 65 r&&Xf r 90
def St (r:Int):Bool:=Lk r||(Lx r||((Xf 48 r&&Xf r 57)||r==95))
def Cf:Con:=J7 (fun (_:Rune)=>True) (fun a=>Lk a.v)
structure Kbs:Prop
theorem Kbs.k (_:Kbs) (h:p:=by
 unfold Lk;repeat' first|exact Z8|with_reducible apply Zb|intro _
 all_goals first|(simp_all [Xf];done)|(simp_all [Xf];omega)):p:=h
theorem good_isSmallG:Qa Tryz.prog (232,Cf):=by
 obtain ⟨Kx,Kt,Kc,Kd,Kb,Ku,Kw,K,_⟩:=Xe Zv Zn [] false Xd;have Ko:=Cf.eq_def;refine Xj K Tryz.func232 [.tmp 2] rfl 9 rfl (fun c hc cvs hpre=>?_);unfold Cf at hpre;obtain ⟨a,rfl,-⟩:=Q2 hpre;cases hc;have Qb:=@tW;have Qf:=@tG;have Z9:=@sA;have Qe:=@qI;have Kq:Kbs:=⟨⟩;exact U6
def Ci:Con:=J7 (fun (_:Rune)=>True) (fun a=>Lx a.v)
structure Kbt:Prop
theorem Kbt.k (_:Kbt) (h:p:=by
 unfold Lx;repeat' first|exact Z8|with_reducible apply Zb|intro _
 all_goals first|(simp_all [Xf];done)|(simp_all [Xf];omega)):p:=h
theorem good_isGreatG:Qa Tryz.prog (233,Ci):=by
 obtain ⟨Kx,Kt,Kc,Kd,Kb,Ku,Kw,K,_⟩:=Xe Zv Zn [] false Xd;have Ko:=Ci.eq_def;refine Xj K Tryz.func233 [.tmp 2] rfl 9 rfl (fun c hc cvs hpre=>?_);unfold Ci at hpre;obtain ⟨a,rfl,-⟩:=Q2 hpre;cases hc;have Qb:=@tW;have Qf:=@tG;have Z9:=@sA;have Qe:=@qI;have Kq:Kbt:=⟨⟩;exact U6
def Fr:Con:=J7 (fun (_:Rune)=>True) (fun a=>St a.v)
structure Kbu:Prop
theorem Kbu.k (_:Kbu) (h:p:=by
 unfold St;repeat' first|exact Z8|with_reducible apply Zb|intro _
 all_goals first|(simp_all [Xf];done)|(simp_all [Xf];omega)):p:=h
theorem good_isBehindG:Qa Tryz.prog (256,Fr):=by
 obtain ⟨Kx,Kt,Kc,Kd,Kb,Ku,Kw,K,X9,Uv,_⟩:=Xe Zv Zn [] false (Q0 good_isSmallG Cf.eq_def (Q0 good_isGreatG Ci.eq_def Xd));have Ko:=Fr.eq_def;refine Xj K Tryz.func256 [.tmp 2] rfl 21 rfl (fun c hc cvs hpre=>?_);unfold Fr at hpre;obtain ⟨a,rfl,-⟩:=Q2 hpre;cases hc;have Qb:=@tW;have Qf:=@tG;have Z9:=@sA;have Qe:=@qI;have Qc:=@Qdu;have Kq:Kbu:=⟨⟩;exact U6
theorem uW {P:Program} {f:FuncId} {con:Con} {b:Bool} (hg:Qa P (f,con)) (W:World) (xs:List D) (args:Array Value) (hR:Rs (Tz W) xs args.toList) (hpre:con.pre (xs.map .d)) (hfn:con.fn (xs.map .d)=.d (.bool b)) :
  Calls P f args W fun e W'=>e=.returned (.bool b)∧Go.RowKit.Below W.heap.size W W':=by
 have h:=hg.2 (Tz W).m W (xs.map .d) args.toList hpre (fH hR) (by rw [F3];exact List.nodup_nil) (yA W)
 rw [show args.toList.toArray=args by simp] at h
 refine h.mono ?_;rintro e W' ⟨v,m',rfl,hfr,_,_,hres⟩
 change Zpq _ _ _ (con.fn (xs.map .d)) v at hres
 rw [hfn] at hres;simp only [Zpq,Ui,zR,R] at hres;obtain ⟨⟨v1,r,hv1,rfl,rfl⟩,_⟩:=hres;injection hv1 with hv1 _
 subst hv1;refine ⟨rfl,hfr.os,hfr.tape,hfr.output,hfr.size,fun k hk=>hfr.block k hk ?_⟩;rw [F3];exact Pc
theorem eG {f:FuncId} {p:Int→Bool} (hg:Qa Tryz.prog (f,J7 (fun (_:Rune)=>True) (fun a=>p a.v))) (r:Int) (W:World) :
  Calls Tryz.prog f #[.int .i32 r] W fun e W'=>e=.returned (.bool (p r))∧Go.RowKit.Below W.heap.size W W' :=
 uW (con:=J7 (fun (_:Rune)=>True) (fun a=>p a.v)) hg W [.int .i32 r] #[.int .i32 r] ⟨_,_,rfl,rfl,rfl⟩ ⟨rfl,trivial⟩ rfl
theorem eX (r:Int) (W:World):Calls Tryz.prog 232 #[.int .i32 r] W fun e W'=>e=.returned (.bool (Lk r))∧Go.RowKit.Below W.heap.size W W':=eG good_isSmallG r W
theorem eJ (r:Int) (W:World):Calls Tryz.prog 233 #[.int .i32 r] W fun e W'=>e=.returned (.bool (Lx r))∧Go.RowKit.Below W.heap.size W W':=eG good_isGreatG r W
theorem Bf (r:Int) (W:World):Calls Tryz.prog 256 #[.int .i32 r] W fun e W'=>e=.returned (.bool (St r))∧Go.RowKit.Below W.heap.size W W':=eG good_isBehindG r W
open Go.Proofs Go.RowKit
theorem wB (s:ByteArray) (pos:Nat) (h:pos<s.size):1≤(Utf8.decode s pos).2:=by
 simp only [Utf8.decode];repeat' split
 all_goals simp
def Yy (p:Int→Bool) (s:ByteArray):Nat→Nat→Bool
 | 0,_=>true
 | n+1,pos=>if pos<s.size then (cond (pos==0) (p ((Utf8.decode s pos).1:Int)) (St ((Utf8.decode s pos).1:Int))&&Yy p s n (pos+(Utf8.decode s pos).2)) else true
theorem fK {p:Int→Bool} {s:ByteArray} {n pos:Nat} (h:¬ pos<s.size):Yy p s n pos=true:=by
 cases n with
 | zero=>rfl
 | succ n=>rw [Yy,if_neg h]
theorem Th {B B':Nat} {a b:World} (h:Below B' a b) (hl:B≤B'):Below B a b:=⟨h.os,h.tape,h.output,h.size,fun k hk=>h.block k (by omega)⟩
theorem Zrk (s:ByteArray) (w:World) :
  Calls Tryz.prog 231 #[.string s,.func (.func 232) #[] #[]] w fun e w'=>e=.returned (.bool (Yy Lk s s.size 0&&!(s.data.toList==[])))∧Below w.heap.size w w':=by
 go_enter Tryz.func231,Tryz.ntmps231
 go_wp2
 go_loopw [] (fun wr=>∃ pos fuel:Nat,wr.heap[w.heap.size]?=some (.stringIter s pos)∧Below w.heap.size w wr∧Hid (Yy Lk s fuel pos=Yy Lk s s.size 0)∧s.size≤pos+fuel) (fun wr=>s.size-wr.iterPos w.heap.size)
 case atStart=>exact ⟨0,s.size,World.iter_heap w s 0,(Below.refl _ _).alloc (Zq _) _,rfl,by omega⟩
 case round =>
  obtain ⟨pos,fuel,hit,hbw,HS,hb⟩:=hrel;have hpos0:=iterPos_of hit;by_cases hp:pos<s.size
  ·have hnx:∀ ty,(Instr.next (.pointer (some ⟨w.heap.size,0,none⟩)) true ty).run Tryz.prog wr=_:=fun ty=>Lib.run_next_any_at wr w.heap.size s pos ty hit hp;have hwd:=wB s pos hp;obtain ⟨fuel,rfl⟩:∃ f',fuel=f'+1:=⟨fuel-1,by omega⟩
   have hit2:=Lib.iterAt_heap wr w.heap.size s pos (pos+(Utf8.decode s pos).2) hit;have hbw2:=Lib.below_iterAt hbw (k:=w.heap.size) (Zq _) s (pos+(Utf8.decode s pos).2);obtain ⟨W1,hW1⟩:∃ W1,W1=wr.iterAt w.heap.size s (pos+(Utf8.decode s pos).2):=⟨_,rfl⟩;rw [←hW1] at hnx hit2 hbw2;have hlt:w.heap.size<W1.heap.size:=lt_of_block hit2;clear hW1 hit hbw;by_cases h0:pos=0
   ·subst h0;cases hr:Lk ((Utf8.decode s 0).1:Int) with
    | false =>
     go_wp2_with (go_at_call 232;refine (eX _ _).mono ?_;rintro e W2 ⟨rfl,hb2⟩;simp only [hr])
     go_ret
     refine ⟨?_,hbw2.trans (Th hb2 (by first|omega|(simp;omega)|exact hlt|exact Nat.le_of_lt hlt))⟩
     have e0:Yy Lk s s.size 0=false:=by rw [←HS.out];simp [Yy,hp,hr]
     rw [e0,Bool.false_and];rfl
    | true =>
     go_wp2_with (go_at_call 232;refine (eX _ _).mono ?_;rintro e W2 ⟨rfl,hb2⟩;simp only [hr])
     have hit3:W2.heap[w.heap.size]?=some (.stringIter s (0+(Utf8.decode s 0).2)):=(hb2.block w.heap.size (by first|omega|(simp;omega)|exact hlt|exact Nat.le_of_lt hlt)).trans hit2
     refine ⟨⟨_,fuel,hit3,hbw2.trans (Th hb2 (by first|omega|(simp;omega)|exact hlt|exact Nat.le_of_lt hlt)),?_,by omega⟩,?_⟩
     ·show _=_;rw [←HS.out];simp [Yy,hp,hr]
     ·rw [iterPos_of hit3,hpos0];omega
   ·have hpb:((pos:Int)==0)=false:=by rw [Za];omega
    have hpg:(decide ((pos:Int) > 0))=true:=by rw [decide_eq_true_eq];omega
    have hpn:(pos==0)=false:=by rw [Za];exact h0
    cases hr:St ((Utf8.decode s pos).1:Int) with
    | false =>
     go_wp2_with (go_at_call 256;refine (Bf _ _).mono ?_;rintro e W2 ⟨rfl,hb2⟩;simp only [hr])
     go_ret
     refine ⟨?_,hbw2.trans (Th hb2 (by first|omega|(simp;omega)|exact hlt|exact Nat.le_of_lt hlt))⟩
     have e0:Yy Lk s s.size 0=false:=by rw [←HS.out];simp [Yy,hp,hr,hpn]
     rw [e0,Bool.false_and];rfl
    | true =>
     go_wp2_with (go_at_call 256;refine (Bf _ _).mono ?_;rintro e W2 ⟨rfl,hb2⟩;simp only [hr])
     have hit3:W2.heap[w.heap.size]?=some (.stringIter s (pos+(Utf8.decode s pos).2)):=(hb2.block w.heap.size (by first|omega|(simp;omega)|exact hlt|exact Nat.le_of_lt hlt)).trans hit2
     refine ⟨⟨_,fuel,hit3,hbw2.trans (Th hb2 (by first|omega|(simp;omega)|exact hlt|exact Nat.le_of_lt hlt)),?_,by omega⟩,?_⟩
     ·show _=_;rw [←HS.out];simp [Yy,hp,hr,hpn]
     ·rw [iterPos_of hit3,hpos0];omega
  ·have hnx:∀ ty,(Instr.next (.pointer (some ⟨w.heap.size,0,none⟩)) true ty).run Tryz.prog wr=_:=fun ty=>Lib.run_next_end_at wr w.heap.size s pos ty hit hp
   go_wp2
   go_ret
   refine ⟨?_,hbw⟩;rw [←HS.out,fK hp,Bool.true_and]
   congr 2
   rw [ByteArray.toList_mk];cases s.data.toList<;>rfl
theorem Zrl (s:ByteArray) (w:World) :
  Calls Tryz.prog 231 #[.string s,.func (.func 233) #[] #[]] w fun e w'=>e=.returned (.bool (Yy Lx s s.size 0&&!(s.data.toList==[])))∧Below w.heap.size w w':=by
 go_enter Tryz.func231,Tryz.ntmps231
 go_wp2
 go_loopw [] (fun wr=>∃ pos fuel:Nat,wr.heap[w.heap.size]?=some (.stringIter s pos)∧Below w.heap.size w wr∧Hid (Yy Lx s fuel pos=Yy Lx s s.size 0)∧s.size≤pos+fuel) (fun wr=>s.size-wr.iterPos w.heap.size)
 case atStart=>exact ⟨0,s.size,World.iter_heap w s 0,(Below.refl _ _).alloc (Zq _) _,rfl,by omega⟩
 case round =>
  obtain ⟨pos,fuel,hit,hbw,HS,hb⟩:=hrel;have hpos0:=iterPos_of hit;by_cases hp:pos<s.size
  ·have hnx:∀ ty,(Instr.next (.pointer (some ⟨w.heap.size,0,none⟩)) true ty).run Tryz.prog wr=_:=fun ty=>Lib.run_next_any_at wr w.heap.size s pos ty hit hp;have hwd:=wB s pos hp;obtain ⟨fuel,rfl⟩:∃ f',fuel=f'+1:=⟨fuel-1,by omega⟩
   have hit2:=Lib.iterAt_heap wr w.heap.size s pos (pos+(Utf8.decode s pos).2) hit;have hbw2:=Lib.below_iterAt hbw (k:=w.heap.size) (Zq _) s (pos+(Utf8.decode s pos).2);obtain ⟨W1,hW1⟩:∃ W1,W1=wr.iterAt w.heap.size s (pos+(Utf8.decode s pos).2):=⟨_,rfl⟩;rw [←hW1] at hnx hit2 hbw2;have hlt:w.heap.size<W1.heap.size:=lt_of_block hit2;clear hW1 hit hbw;by_cases h0:pos=0
   ·subst h0;cases hr:Lx ((Utf8.decode s 0).1:Int) with
    | false =>
     go_wp2_with (go_at_call 233;refine (eJ _ _).mono ?_;rintro e W2 ⟨rfl,hb2⟩;simp only [hr])
     go_ret
     refine ⟨?_,hbw2.trans (Th hb2 (by first|omega|(simp;omega)|exact hlt|exact Nat.le_of_lt hlt))⟩
     have e0:Yy Lx s s.size 0=false:=by rw [←HS.out];simp [Yy,hp,hr]
     rw [e0,Bool.false_and];rfl
    | true =>
     go_wp2_with (go_at_call 233;refine (eJ _ _).mono ?_;rintro e W2 ⟨rfl,hb2⟩;simp only [hr])
     have hit3:W2.heap[w.heap.size]?=some (.stringIter s (0+(Utf8.decode s 0).2)):=(hb2.block w.heap.size (by first|omega|(simp;omega)|exact hlt|exact Nat.le_of_lt hlt)).trans hit2
     refine ⟨⟨_,fuel,hit3,hbw2.trans (Th hb2 (by first|omega|(simp;omega)|exact hlt|exact Nat.le_of_lt hlt)),?_,by omega⟩,?_⟩
     ·show _=_;rw [←HS.out];simp [Yy,hp,hr]
     ·rw [iterPos_of hit3,hpos0];omega
   ·have hpb:((pos:Int)==0)=false:=by rw [Za];omega
    have hpg:(decide ((pos:Int) > 0))=true:=by rw [decide_eq_true_eq];omega
    have hpn:(pos==0)=false:=by rw [Za];exact h0
    cases hr:St ((Utf8.decode s pos).1:Int) with
    | false =>
     go_wp2_with (go_at_call 256;refine (Bf _ _).mono ?_;rintro e W2 ⟨rfl,hb2⟩;simp only [hr])
     go_ret
     refine ⟨?_,hbw2.trans (Th hb2 (by first|omega|(simp;omega)|exact hlt|exact Nat.le_of_lt hlt))⟩
     have e0:Yy Lx s s.size 0=false:=by rw [←HS.out];simp [Yy,hp,hr,hpn]
     rw [e0,Bool.false_and];rfl
    | true =>
     go_wp2_with (go_at_call 256;refine (Bf _ _).mono ?_;rintro e W2 ⟨rfl,hb2⟩;simp only [hr])
     have hit3:W2.heap[w.heap.size]?=some (.stringIter s (pos+(Utf8.decode s pos).2)):=(hb2.block w.heap.size (by first|omega|(simp;omega)|exact hlt|exact Nat.le_of_lt hlt)).trans hit2
     refine ⟨⟨_,fuel,hit3,hbw2.trans (Th hb2 (by first|omega|(simp;omega)|exact hlt|exact Nat.le_of_lt hlt)),?_,by omega⟩,?_⟩
     ·show _=_;rw [←HS.out];simp [Yy,hp,hr,hpn]
     ·rw [iterPos_of hit3,hpos0];omega
  ·have hnx:∀ ty,(Instr.next (.pointer (some ⟨w.heap.size,0,none⟩)) true ty).run Tryz.prog wr=_:=fun ty=>Lib.run_next_end_at wr w.heap.size s pos ty hit hp
   go_wp2
   go_ret
   refine ⟨?_,hbw⟩;rw [←HS.out,fK hp,Bool.true_and]
   congr 2
   rw [ByteArray.toList_mk];cases s.data.toList<;>rfl
theorem Zza (s:ByteArray) (pos:Nat) (h:pos<s.size):s.get! (pos+0)=s.data.toList[pos]'(by simpa using h):=by
 show s.get! pos=_;simp [ByteArray.get!,getElem!_pos,h]
theorem tF {s:ByteArray} {pos:Nat} (h:pos<s.size) (hc:(s.data.toList[pos]'(by simpa using h)).toNat<128):Utf8.decode s pos=((s.data.toList[pos]'(by simpa using h)).toNat,1):=by
 simp only [Utf8.decode,Zza s pos h,if_pos hc]
theorem nT {s:ByteArray} {pos:Nat} (h:pos<s.size) (hc:¬ (s.data.toList[pos]'(by simpa using h)).toNat<128):128≤(Utf8.decode s pos).1:=by
 simp only [Utf8.decode,Zza s pos h,if_neg hc,Utf8.runeError];repeat' split
 all_goals simp_all
 all_goals omega
theorem Zo4 {c:UInt8} (h:c.toNat<128):St (c.toNat:Int)=behind c:=by
 have:∀ c:Fin 256,St ((c.val:Nat):Int)=behind (UInt8.ofNat c.val):=by decide +kernel
 have:=this ⟨c.toNat,c.toNat_lt⟩;simpa using this
theorem Zbj {r:Nat} (h:128≤r):St (r:Int)=false:=by
 simp [St,Lk,Lx,Xf];omega
theorem Zo3 {c:UInt8} (h:¬ c.toNat<128):behind c=false:=by
 have:∀ c:Fin 256,128≤c.val→behind (UInt8.ofNat c.val)=false:=by decide +kernel
 have:=this ⟨c.toNat,c.toNat_lt⟩ (by simp;omega)
 simpa using this
theorem dU {p:Int→Bool} {s:ByteArray}:∀ {n pos:Nat},0<pos→s.size≤pos+n→Yy p s n pos=Pj (s.data.toList.drop pos)
 | 0,pos,h0,h=>by
  rw [List.drop_eq_nil_of_le (by simpa using h)]
  rfl
 | n+1,pos,h0,h=>by
  by_cases hp:pos<s.size
  ·have hl:pos<s.data.toList.length:=by simpa using hp
   rw [Yy,if_pos hp,List.drop_eq_getElem_cons hl];have hz:(pos==0)=false:=by rw [Za];omega
   rw [hz,cond_false];unfold Pj;rw [List.all_cons];by_cases hc:(s.data.toList[pos]'hl).toNat<128
   ·rw [tF hp hc,Zo4 hc];simp only;rw [dU (by omega) (by omega)]
    rfl
   ·rw [Zbj (nT hp hc),Zo3 hc,Bool.false_and,Bool.false_and]
  ·rw [fK hp,List.drop_eq_nil_of_le (by simpa using hp)]
   rfl
theorem Ztm {p:Int→Bool} {q:UInt8→Bool} (h1:∀ c:UInt8,c.toNat<128→p (c.toNat:Int)=q c) (h2:∀ r:Nat,128≤r→p (r:Int)=false) (h3:∀ c:UInt8,¬ c.toNat<128→q c=false) (s:ByteArray) :
  (Yy p s s.size 0&&!(s.data.toList==[]))=match s.data.toList with
  | []=>false
  | c::r=>q c&&Pj r:=by
 have hsz:s.size=s.data.toList.length:=by simp
 obtain ⟨l,hl⟩:=exq (s.data.toList);cases l with
 | nil=>rw [hl];simp
 | cons c r =>
  have hn:s.size=r.length+1:=by rw [hsz,hl];simp
  have h0:0<s.size:=by omega
  have hc:s.data.toList[0]'(by rw [←hsz];exact h0)=c:=by simp [hl]
  have hd:s.data.toList.drop 1=r:=by rw [hl];rfl
  rw [show Yy p s s.size 0=Yy p s (r.length+1) 0 by rw [hn],Yy,if_pos h0,hl]
  simp only [beq_self_eq_true,cond_true];by_cases h:c.toNat<128
  ·rw [tF h0 (by rw [hc];exact h),hc,h1 c h]
   simp only [Nat.zero_add];rw [dU (by omega) (by omega),hd]
   simp
  ·rw [h2 _ (nT h0 (by rw [hc];exact h)),h3 c h]
   simp
theorem dR {f:FuncId} {con:Con} (he:Fv Tryz.prog f)
  (h:∀ cvs,con.pre cvs→∃ (xs:List D) (b:Bool),cvs=xs.map .d∧con.fn cvs=.d (.bool b)∧∀ (F:Fix) (vs:List Value) (w:World),Ui F (xs.map .d) vs→Calls Tryz.prog f vs.toArray w fun e w'=>e=.returned (.bool b)∧Below w.heap.size w w'):Qa Tryz.prog (f,con):=by
 refine ⟨he,?_⟩;intro m w cvs vs hpre hcv hnd hnew;obtain ⟨xs,b,rfl,hfn,hc⟩:=h cvs hpre;refine (hc _ vs w hcv).mono ?_;rintro e w' ⟨rfl,hb⟩;refine ⟨_,m,rfl,⟨hb.os,hb.tape,hb.output,hb.size,fun k hk _=>hb.block k hk⟩,fun _ _ _=>rfl,fun k hk=>hnew k (by have:=hb.size;omega),?_⟩
 change Zpq _ _ _ (con.fn (xs.map .d)) _
 rw [hfn];simp only [Zpq,Ui,zR,R];refine ⟨⟨_,[],rfl,rfl,rfl⟩,fun k hk=>?_⟩;have:Q1 ([D.bool b].map .d) [Value.bool b]=[]:=F3 _ _
 change k∈Q1 ([D.bool b].map .d) [Value.bool b] at hk
 rw [this] at hk;cases hk
theorem fL (a b c:UInt8):Xx c a b=(Xf (a.toNat:Int) (c.toNat:Int)&&Xf (c.toNat:Int) (b.toNat:Int)):=by rw [Kj,Kj];rfl
def yU:Con:=Xc (fun (_:List UInt8) (_:Fn0 232)=>True) (fun s _=>Wg s)
theorem Zra:Qa Tryz.prog (231,yU):=by
 refine dR (Jp Tryz.func231 (by kernel_rfl) rfl) fun cvs hpre=>?_
 obtain ⟨s,f,rfl,-⟩:=Ql hpre;refine ⟨[.str s,.clo 232 []],Wg s,rfl,rfl,fun F vs w hcv=>?_⟩;simp only [List.map,Ui,zR,R,Rs] at hcv;obtain ⟨v1,r1,rfl,rfl,v2,r2,rfl,⟨cs,rfl,rfl⟩,rfl⟩:=hcv;have h:=Ztm (p:=Lk) (q:=fun c=>Xx c 97 122) (fun c _=>(fL 97 122 c).symm) (fun r hr=>by simp [Lk,Xf];omega) (fun c hc=>by rw [fL];simp [Xf];omega) ⟨s.toArray⟩
 refine (Zrk ⟨s.toArray⟩ w).mono ?_;rintro e w' ⟨rfl,hb⟩;refine ⟨?_,hb⟩;rw [h];cases s<;>rfl
def yT:Con:=Xc (fun (_:List UInt8) (_:Fn0 233)=>True) (fun s _=>N8 s)
theorem Zq9:Qa Tryz.prog (231,yT):=by
 refine dR (Jp Tryz.func231 (by kernel_rfl) rfl) fun cvs hpre=>?_
 obtain ⟨s,f,rfl,-⟩:=Ql hpre;refine ⟨[.str s,.clo 233 []],N8 s,rfl,rfl,fun F vs w hcv=>?_⟩;simp only [List.map,Ui,zR,R,Rs] at hcv;obtain ⟨v1,r1,rfl,rfl,v2,r2,rfl,⟨cs,rfl,rfl⟩,rfl⟩:=hcv;have h:=Ztm (p:=Lx) (q:=fun c=>Xx c 65 90) (fun c _=>(fL 65 90 c).symm) (fun r hr=>by simp [Lx,Xf];omega) (fun c hc=>by rw [fL];simp [Xf];omega) ⟨s.toArray⟩
 refine (Zrl ⟨s.toArray⟩ w).mono ?_;rintro e w' ⟨rfl,hb⟩;refine ⟨?_,hb⟩;rw [h];cases s<;>rfl
def Ff:Con:=J7 (fun (_:List UInt8)=>True) (fun s=>Wg s)
theorem Za7:Qa Tryz.prog (193,Ff):=by
 obtain ⟨Kx,Kt,Kc,Kd,Kb,Ku,Kw,K,X9,_⟩:=Xe Zv Zn [] false (Q0 Zra yU.eq_def Xd);have Ko:=Ff.eq_def;refine Xj K Tryz.func193 [.tmp 2] rfl 5 rfl (fun c hc cvs hpre=>?_);unfold Ff at hpre;obtain ⟨s,rfl,-⟩:=Q2 hpre;cases hc;have Qb:=@Yb;exact Zx0
def Iq:Con:=J7 (fun (_:List UInt8)=>True) (fun s=>N8 s)
theorem Zn6:Qa Tryz.prog (194,Iq):=by
 obtain ⟨Kx,Kt,Kc,Kd,Kb,Ku,Kw,K,X9,_⟩:=Xe Zv Zn [] false (Q0 Zq9 yT.eq_def Xd);have Ko:=Iq.eq_def;refine Xj K Tryz.func194 [.tmp 2] rfl 5 rfl (fun c hc cvs hpre=>?_);unfold Iq at hpre;obtain ⟨s,rfl,-⟩:=Q2 hpre;cases hc;have Qb:=@Yb;exact Zx0
def E5:Con:=J7 (fun (_:Node)=>True) (fun n=>Uq n)
structure Kbv:Prop
theorem Kbv.k (_:Kbv) (h:p:=by
 unfold Uq;repeat' first|exact Z8|with_reducible apply Zb|intro _
 all_goals
  rw [Bool.eq_iff_iff];repeat' split
  all_goals first|(exfalso;omega)|(simp only [Xf,X4,Zg,decide_eq_true_eq,Zk,Zt];omega)|(simp only [Xf,X4,Zg,decide_eq_true_eq,Zk,Zt,false_iff];omega)|(simp only [Xf,X4,Zg,decide_eq_true_eq,Zk,Zt];done)):p:=h
theorem good_isNodeT:Qa Tryz.prog (162,E5):=by
 obtain ⟨Kx,Kt,Kc,Kd,Kb,Ku,Kw,K,_⟩:=Xe Zv Zn [] false Xd;have Ko:=E5.eq_def;refine Xj K Tryz.func162 [.tmp 2] rfl 45 rfl (fun c hc cvs hpre=>?_);unfold E5 at hpre;obtain ⟨n,rfl,-⟩:=Q2 hpre;cases hc;refine Y4 2 ?_;have Kq:Kbv:=⟨⟩;exact U6
def Zqz (k:Int) (s:List UInt8):Bool:=if k=6 then Wg s else if k=7 then N8 s else s==[]
def Cg:Con:=Xc (fun (_:Int) (_:List UInt8)=>True) Zqz
structure Kbw:Prop
theorem Kbw.k (_:Kbw) (h:p:=by
 unfold Zqz;repeat' first|exact Z8|with_reducible apply Zb|intro _
 all_goals simp_all):p:=h
theorem good_isLabelT:Qa Tryz.prog (165,Cg):=by
 obtain ⟨Kx,Kt,Kc,Kd,Kb,Ku,Kw,K,X9,Uv,_⟩:=Xe Zv Zn [] false (Q0 Za7 Ff.eq_def (Q0 Zn6 Iq.eq_def Xd));have Ko:=Cg.eq_def;refine Xj K Tryz.func165 [.tmp 4] rfl 16 rfl (fun c hc cvs hpre=>?_);unfold Cg at hpre;obtain ⟨k,s,rfl,-⟩:=Ql hpre;cases hc;have Kq:Kbw:=⟨⟩;exact U6
def Cv (p:Node) (k:Nat) (x:Node) (last:List UInt8):Bool :=
 cond (x.kind==9) (cond (!Ks p) true (cond (X4 (k:Int) (p.n-1)) true (!(x.name==[]))))
  (cond (!Zqz p.kind x.name) true (cond (Ks p) (Op.bytesLess x.name last||x.name==last) false))
def Rb (t:List Node) (tr:Nat→Bool×Nat) (p:Node):Nat→Nat→List UInt8→Nat→Bool×Nat
 | 0,_,_,at_=>(true,at_)
 | m+1,k,last,at_=>cond (Xf (t.length:Int) at_) (false,at_)
   (cond (Cv p k (t.getD at_ n0) last) (false,at_)
    (cond (tr at_).1 (Rb t tr p m (k+1) (t.getD at_ n0).name (tr at_).2) (false,(tr at_).2)))
def Ul (t:List Node):Nat→Nat→Bool×Nat
 | 0,at_=>(false,at_)
 | f+1,at_=>cond (Xf (t.length:Int) at_) (false,at_)
   (cond (Uq (t.getD at_ n0)) (Rb t (Ul t f) (t.getD at_ n0) (ar (t.getD at_ n0)) 0 [] (at_+1)) (false,at_))
structure TX where
 t:List Node
 i:Nat
 f:Nat
 d:Int
def Vl (t:List Node) (i:Nat):List Obj:=[.box false [.d (.int .i64 i)],.box false [.d (.list 3 (t.map enc))],.box false [.clo 161 [.ref 90000 0,.ref 90001 0,.ref 90002 0]]]
theorem Xv {t:List Node} {i:Nat}:Vl t i=[.box false [.d (.int .i64 i)],.box false [.d (.list 3 (t.map enc))],.box false [.clo 161 [.ref 90000 0,.ref 90001 0,.ref 90002 0]]]:=rfl
def Xw (n:Nat):BCon where
 X:=TX
 ok x:=x.t.length≤1000000∧Wu x.t∧x.f≤100∧x.d=101-x.f∧x.f<n
 args x:=[.d (.int .i64 x.d),.ref 90000 0,.ref 90001 0,.ref 90002 0]
 objs x:=Vl x.t x.i
 res x:=.bool (Ul x.t x.f x.i).1
 post x:=Vl x.t (Ul x.t x.f x.i).2
theorem pZ:∀ x,¬ (Xw 0).ok x:=by
 rintro x ⟨_,_,_,_,h⟩;omega
theorem eB {n:Nat} {t:List Node} {i f:Nat} {d:Int}:(Xw n).post ⟨t,i,f,d⟩=Vl t (Ul t f i).2:=rfl
theorem kH {n:Nat} {t:List Node} {i f:Nat} {d:Int}:(Xw n).res ⟨t,i,f,d⟩=.bool (Ul t f i).1:=rfl
theorem Zm1 {p:Node} (h:Uq p=true) (hr:Ks p=true):0≤p.n∧p.n≤50:=by
 unfold Ks at hr;rw [Bool.or_eq_true,Zk,Zk] at hr;unfold Uq at h;rw [if_neg (by omega),if_neg (by omega)] at h
 split at h
 ·simp only [Zg,decide_eq_true_eq] at h;exact h
 ·rw [if_pos (by omega)] at h
  simp only [Zg,decide_eq_true_eq] at h;omega
theorem Be:Ztx 3 [90000,90001,90002]:=by
 intro j hj
 match j,hj with
 | 0,_=>rfl
 | 1,_=>rfl
 | 2,_=>rfl
structure Kbx:Prop
theorem Kbx.k (_:Kbx) (h:p:=by
 repeat' first|exact Z8|with_reducible apply Zb|intro _
 refine ⟨[90000,90001,90002],by simp,rfl,Be,?_⟩
 simp [Q3,lk,Tq,rnA,rnAs,rk]):p:=h
structure Kby:Prop
theorem Kby.k (_:Kby) (h:p:=by
 repeat' first|exact Z8|with_reducible apply Zb|intro _
 refine ⟨[90000,90001,90002],by simp,rfl,Be,?_⟩
 simp [Q3,lk,Tq,rnA,rnAs,rk]):p:=h
structure Kbz:Prop
theorem Kbz.k (_:Kbz) (h:p:=by
 repeat' first|exact Z8|with_reducible apply Zb|intro _
 refine ⟨[90000,90001,90002],by simp,rfl,Be,?_⟩
 simp [Q3,lk,Tq,rnA,rnAs,rk]):p:=h
structure KbA:Prop
theorem KbA.k (_:KbA) (h:p:=by
 repeat' first|exact Z8|with_reducible apply Zb|intro _
 refine ⟨[90000,90001,90002],by simp,rfl,Be,?_⟩
 simp [Q3,lk,Tq,rnA,rnAs,rk]):p:=h
structure KbC:Prop
theorem KbC.k (_:KbC) (h:p:=by
 repeat' first|exact Z8|with_reducible apply Zb|intro _
 refine ⟨[90000,90001,90002],by simp,rfl,Be,?_⟩
 simp [Q3,lk,Tq,rnA,rnAs,rk]):p:=h
structure KbD:Prop
theorem KbD.k (_:KbD) (h:p:=by
 repeat' first|exact Z8|with_reducible apply Zb|intro _
 refine ⟨[90000,90001,90002],by simp,rfl,Be,?_⟩
 simp [Q3,lk,Tq,rnA,rnAs,rk]):p:=h
structure KbE:Prop
theorem KbE.k (_:KbE) (h:p:=by
 repeat' first|exact Z8|with_reducible apply Zb|intro _
 refine ⟨[90000,90001,90002],by simp,rfl,Be,?_⟩
 simp [Q3,lk,Tq,rnA,rnAs,rk]):p:=h
structure KbF:Prop
theorem KbF.k (_:KbF) (h:p:=by
 repeat' first|exact Z8|with_reducible apply Zb|intro _
 refine ⟨[90000,90001,90002],by simp,rfl,Be,?_⟩
 simp [Q3,lk,Tq,rnA,rnAs,rk]):p:=h
structure KbH:Prop
theorem KbH.k (_:KbH) (h:p:=by
 repeat' first|exact Z8|with_reducible apply Zb|intro _
 refine ⟨[90000,90001,90002],by simp,rfl,Be,?_⟩
 simp [Q3,lk,Tq,rnA,rnAs,rk]):p:=h
structure KbI:Prop
theorem KbI.k (_:KbI) (h:p:=by
 repeat' first|exact Z8|with_reducible apply Zb|intro _
 refine ⟨(k+1,x.name,w2),by exact Qw,by simp only;omega,?_,by simp only;omega⟩
 simp only;rw [show ar p-(k+1)=m by omega]
 exact hR):p:=h
structure KbG:Prop
theorem KbG.k (_:KbG) (h:p:=by
 repeat' first|exact Z8|with_reducible apply Zb|intro _
 refine Rw (bc:=Xw n) ⟨t,j,f,d+1⟩ [90000,90001,90002] ⟨ht,hN,by simp only;omega,by simp only;omega,by simp only;omega⟩ rfl (by simp) (by rw [Zx];rfl) ?_ ?_ ?_
 ·show Q3 _ _ (Vl t j) _;rw [Xv];simp [Q3,lk,Tq,rnA,rnAs,rk]
 ·show X6 (List.drop (Vl t j).length _) _;rw [Xv];simp [X6,lk]
 cases w1 with
 | false =>
  rw [cond_false] at hR;injection hR with hr1 hr2
  subst hr1;subst hr2;have Qd:=@Xv;have Kq:KbH:=⟨⟩;exact U6
 | true =>
  rw [cond_true] at hR;have Qd:=@Xv;have Kq:KbI:=⟨⟩;exact U6):p:=h
structure KbJ:Prop
theorem KbJ.k (_:KbJ) (h:p:=by
 repeat' first|exact Z8|with_reducible apply Zb|intro _
 refine ⟨[90000,90001,90002],by simp,rfl,Be,?_⟩
 simp [Q3,lk,Tq,rnA,rnAs,rk]):p:=h
structure KbL:Prop
theorem KbL.k (_:KbL) (h:p:=by
 repeat' first|exact Z8|with_reducible apply Zb|intro _
 refine ⟨[90000,90001,90002],by simp,rfl,Be,?_⟩
 simp [Q3,lk,Tq,rnA,rnAs,rk]):p:=h
structure KbM:Prop
theorem KbM.k (_:KbM) (h:p:=by
 repeat' first|exact Z8|with_reducible apply Zb|intro _
 refine ⟨(k+1,x.name,w2),by exact Qw,by simp only;omega,?_,by simp only;omega⟩
 simp only;rw [show ar p-(k+1)=m by omega]
 exact hR):p:=h
structure KbK:Prop
theorem KbK.k (_:KbK) (h:p:=by
 repeat' first|exact Z8|with_reducible apply Zb|intro _
 refine Rw (bc:=Xw n) ⟨t,j,f,d+1⟩ [90000,90001,90002] ⟨ht,hN,by simp only;omega,by simp only;omega,by simp only;omega⟩ rfl (by simp) (by rw [Zx];rfl) ?_ ?_ ?_
 ·show Q3 _ _ (Vl t j) _;rw [Xv];simp [Q3,lk,Tq,rnA,rnAs,rk]
 ·show X6 (List.drop (Vl t j).length _) _;rw [Xv];simp [X6,lk]
 cases w1 with
 | false =>
  rw [cond_false] at hR;injection hR with hr1 hr2
  subst hr1;subst hr2;have Qd:=@Xv;have Kq:KbL:=⟨⟩;exact U6
 | true =>
  rw [cond_true] at hR;have Qd:=@Xv;have Kq:KbM:=⟨⟩;exact U6):p:=h
structure KbN:Prop
theorem KbN.k (_:KbN) (h:p:=by
 repeat' first|exact Z8|with_reducible apply Zb|intro _
 refine ⟨[90000,90001,90002],by simp,rfl,Be,?_⟩
 simp [Q3,lk,Tq,rnA,rnAs,rk]):p:=h
structure KbP:Prop
theorem KbP.k (_:KbP) (h:p:=by
 repeat' first|exact Z8|with_reducible apply Zb|intro _
 refine ⟨[90000,90001,90002],by simp,rfl,Be,?_⟩
 simp [Q3,lk,Tq,rnA,rnAs,rk]):p:=h
structure KbQ:Prop
theorem KbQ.k (_:KbQ) (h:p:=by
 repeat' first|exact Z8|with_reducible apply Zb|intro _
 refine ⟨(k+1,x.name,w2),by exact Qw,by simp only;omega,?_,by simp only;omega⟩
 simp only;rw [show ar p-(k+1)=m by omega]
 exact hR):p:=h
structure KbO:Prop
theorem KbO.k (_:KbO) (h:p:=by
 repeat' first|exact Z8|with_reducible apply Zb|intro _
 refine Rw (bc:=Xw n) ⟨t,j,f,d+1⟩ [90000,90001,90002] ⟨ht,hN,by simp only;omega,by simp only;omega,by simp only;omega⟩ rfl (by simp) (by rw [Zx];rfl) ?_ ?_ ?_
 ·show Q3 _ _ (Vl t j) _;rw [Xv];simp [Q3,lk,Tq,rnA,rnAs,rk]
 ·show X6 (List.drop (Vl t j).length _) _;rw [Xv];simp [X6,lk]
 cases w1 with
 | false =>
  rw [cond_false] at hR;injection hR with hr1 hr2
  subst hr1;subst hr2;have Qd:=@Xv;have Kq:KbP:=⟨⟩;exact U6
 | true =>
  rw [cond_true] at hR;have Qd:=@Xv;have Kq:KbQ:=⟨⟩;exact U6):p:=h
structure KbR:Prop
theorem KbR.k (_:KbR) (h:p:=by
 repeat' first|exact Z8|with_reducible apply Zb|intro _
 refine ⟨[90000,90001,90002],by simp,rfl,Be,?_⟩
 simp [Q3,lk,Tq,rnA,rnAs,rk]):p:=h
structure KbB:Prop
theorem KbB.k (_:KbB) (h:p:=by
 repeat' first|exact Z8|with_reducible apply Zb|intro _
 refine Zm [5,8,9,35,36,37,38,39,40,41,42,43,44,45,46,47,48,49,50,51,52,53,54,55,56,57,58,59,60,61,62,63,64,65,66,67,68,69,70,71,72,73,74,75,76,77,78,79,80,81,82,83,84,85,86,87,88] (fun q:Nat×List UInt8×Nat=>[(7,.d (.str q.2.1)),(34,.d (.int .i64 q.1))]) (fun q:Nat×List UInt8×Nat=>[(90000,.box false [.d (.int .i64 q.2.2)])]) (fun q:Nat×List UInt8×Nat=>q.1≤ar p∧Rb t (Ul t f) p (ar p-q.1) q.1 q.2.1 q.2.2=(r1,r2)) (fun q:Nat×List UInt8×Nat=>ar p-q.1) (0,[],i+1) ?_ ?_ ?_
 ·exact ⟨Nat.zero_le _,hr⟩
 ·exact Qw
 rintro ⟨k,last,j⟩ ⟨hk,hR⟩;simp only at hk hR;rcases Zo k (ar p) with ⟨hlt,Qc⟩|⟨hlt,Qc⟩
 ·obtain ⟨m,hm⟩:∃ m,ar p-k=m+1:=⟨ar p-k-1,by omega⟩
  rw [hm,Rb] at hR;rcases C3 t.length j with ⟨hle2,Qh⟩|⟨hle2,Qh⟩
  ·rw [Qh,cond_true] at hR;injection hR with hr1 hr2
   subst hr1;subst hr2;have Kq:KbC:=⟨⟩;exact U6
  rw [Qh,cond_false] at hR;have hjl:j<t.length:=by omega
  have Qn:=Zr n0 hjl;obtain ⟨x,hx⟩:=exq (t.getD j n0);rw [hx] at Qn hR;cases Q6:(x.kind==9) with
  | true =>
   cases Je:Ks p with
   | false =>
    have hb:Cv p k x last=true:=by simp only [Cv,Q6,Je,cond_true,cond_false,Bool.not_true,Bool.not_false]
    rw [hb,cond_true] at hR;injection hR with hr1 hr2
    subst hr1;subst hr2;have Kq:KbD:=⟨⟩;exact U6
   | true =>
    have hpn:=Zm1 Qe Je;cases Q4:X4 (k:Int) (p.n-1) with
    | true =>
     have hb:Cv p k x last=true:=by simp only [Cv,Q6,Je,Q4,cond_true,cond_false,Bool.not_true,Bool.not_false]
     rw [hb,cond_true] at hR;injection hR with hr1 hr2
     subst hr1;subst hr2;have Kq:KbE:=⟨⟩;exact U6
    | false =>
     cases Zu:(x.name==[]) with
     | false =>
      have hb:Cv p k x last=true:=by simp only [Cv,Q6,Je,Q4,Zu,cond_true,cond_false,Bool.not_true,Bool.not_false]
      rw [hb,cond_true] at hR;injection hR with hr1 hr2
      subst hr1;subst hr2;have Kq:KbF:=⟨⟩;exact U6
     | true =>
      have hb:Cv p k x last=false:=by simp only [Cv,Q6,Je,Q4,Zu,cond_true,cond_false,Bool.not_true,Bool.not_false]
      rw [hb,cond_false] at hR;obtain ⟨w,hw⟩:=exq (Ul t f j);rw [hw] at hR;obtain ⟨w1,w2⟩:=w;simp only at hR;have Zx:(Xw n).post ⟨t,j,f,d+1⟩=Vl t w2:=by rw [eB,hw]
      have Zw:(Xw n).res ⟨t,j,f,d+1⟩=.bool w1:=by rw [kH,hw]
      have Kq:KbG:=⟨⟩;exact U6
  | false =>
   cases Zz:Zqz p.kind x.name with
   | false =>
    have hb:Cv p k x last=true:=by simp only [Cv,Q6,Zz,cond_true,cond_false,Bool.not_true,Bool.not_false]
    rw [hb,cond_true] at hR;injection hR with hr1 hr2
    subst hr1;subst hr2;have Kq:KbJ:=⟨⟩;exact U6
   | true =>
    cases Je:Ks p with
    | false =>
     have hb:Cv p k x last=false:=by simp only [Cv,Q6,Zz,Je,cond_true,cond_false,Bool.not_true,Bool.not_false]
     rw [hb,cond_false] at hR;obtain ⟨w,hw⟩:=exq (Ul t f j);rw [hw] at hR;obtain ⟨w1,w2⟩:=w;simp only at hR;have Zx:(Xw n).post ⟨t,j,f,d+1⟩=Vl t w2:=by rw [eB,hw]
     have Zw:(Xw n).res ⟨t,j,f,d+1⟩=.bool w1:=by rw [kH,hw]
     have Kq:KbK:=⟨⟩;exact U6
    | true =>
     cases Zy:(Op.bytesLess x.name last||x.name==last) with
     | true =>
      have hb:Cv p k x last=true:=by simp only [Cv,Q6,Zz,Je,Zy,cond_true,cond_false,Bool.not_true,Bool.not_false]
      rw [hb,cond_true] at hR;injection hR with hr1 hr2
      subst hr1;subst hr2;have Kq:KbN:=⟨⟩;exact U6
     | false =>
      have hb:Cv p k x last=false:=by simp only [Cv,Q6,Zz,Je,Zy,cond_true,cond_false,Bool.not_true,Bool.not_false]
      rw [hb,cond_false] at hR;obtain ⟨w,hw⟩:=exq (Ul t f j);rw [hw] at hR;obtain ⟨w1,w2⟩:=w;simp only at hR;have Zx:(Xw n).post ⟨t,j,f,d+1⟩=Vl t w2:=by rw [eB,hw]
      have Zw:(Xw n).res ⟨t,j,f,d+1⟩=.bool w1:=by rw [kH,hw]
      have Kq:KbO:=⟨⟩;exact U6
 ·have hz:ar p-k=0:=by omega
  rw [hz,Rb] at hR;injection hR with hr1 hr2
  subst hr1;subst hr2;have Kq:KbR:=⟨⟩;exact U6):p:=h
theorem stepb_treeT (n:Nat) (ih:Ry Tryz.prog (161,Xw n)):Ry Tryz.prog (161,(Xw (n+1))):=by
 obtain ⟨Kx,Kt,Kc,Kd,Kb,Ku,Kw,K,X9,Uv,Po,Cx,Oj,_⟩:=Xe Zv Zn [] false (Q0 good_manyT C7.eq_def (Q0 good_isRowT D6.eq_def (Q0 good_isNodeT E5.eq_def (Q0 good_isLabelT Cg.eq_def (Qd7 ih (Xw.eq_def n) Xd)))));refine Qbr K Tryz.func161 [.tmp 5] rfl 89 rfl (fun c hc x hok=>?_);obtain ⟨t,i,f,d⟩:=x;obtain ⟨ht,hN,hf,hd,hn⟩:=hok;simp only at ht hN hf hd hn;refine ⟨?_,?_,?_,?_,?_⟩
 ·show Tl [.d (.int .i64 d),.ref 90000 0,.ref 90001 0,.ref 90002 0] (Vl t i);rw [Xv];simp [Tl,Pu,Obj.tied,Jr,keptAll,AV.kept,Jc,Mq,lk]
 ·show Jr (Vl t i);rw [Xv];simp [Jr]
 ·show Tl [] (Vl t (Ul t f i).2);rw [Xv];simp [Tl,Pu,Obj.tied,Jr,keptAll,AV.kept,Jc,Mq,lk]
 ·show (Vl t i).length≤(Vl t (Ul t f i).2).length;rw [Xv,Xv];simp
 show Li Kx c (oA _ _ (Vl t i).length (.bool (Ul t f i).1) (Vl t (Ul t f i).2)) ⟨[.d (.int .i64 d),.ref 90000 0,.ref 90001 0,.ref 90002 0]++P6 85,Jc (Vl t i)⟩;rw [Xv,Xv];cases hc;refine Y4 5 ?_;cases f with
 | zero =>
  have h0:Ul t 0 i=(false,i):=rfl;rw [h0];have Qf:X4 100 d=true:=by rw [Jf];omega
  rcases C3 t.length i with ⟨hle,Qb⟩|⟨hle,Qb⟩
  ·have Kq:Kbx:=⟨⟩;exact U6
  ·have Kq:Kby:=⟨⟩;exact U6
 | succ f =>
  have Qf:X4 100 d=false:=by rw [Qv];omega
  have hfold:Ul t (f+1) i=cond (Xf (t.length:Int) i) (false,i)
   (cond (Uq (t.getD i n0)) (Rb t (Ul t f) (t.getD i n0) (ar (t.getD i n0)) 0 [] (i+1)) (false,i)):=rfl
  rcases C3 t.length i with ⟨hle,Qb⟩|⟨hle,Qb⟩
  ·rw [Qb,cond_true] at hfold;rw [hfold];have Kq:Kbz:=⟨⟩;exact U6
  rw [Qb,cond_false] at hfold;have hil:i<t.length:=by omega
  have Z9:=Zr n0 hil;obtain ⟨p,hp⟩:=exq (t.getD i n0);rw [hp] at Z9 hfold;cases Qe:Uq p with
  | false =>
   rw [Qe,cond_false] at hfold;rw [hfold];have Kq:KbA:=⟨⟩;exact U6
  | true =>
   have har:ar p≤50:=by have:=(eN Qe).2;rw [Au Qe] at this;omega
   rw [Qe,cond_true] at hfold;rw [hfold];obtain ⟨r,hr⟩:=exq (Rb t (Ul t f) p (ar p) 0 [] (i+1));rw [hr];obtain ⟨r1,r2⟩:=r;simp only;have Kq:KbB:=⟨⟩;exact U6
theorem iA:∀ n,Ry Tryz.prog (161,Xw n)
 | 0=>Zq4 (Jp Tryz.func161 (by kernel_rfl) rfl) pZ
 | n+1=>stepb_treeT n (iA n)
def Ns:BCon:=Xw 101
theorem Za3:Ry Tryz.prog (161,Ns):=iA _
theorem Zl0 {t:List Node} {i f:Nat} {d:Int}:Ns.post ⟨t,i,f,d⟩=Vl t (Ul t f i).2:=rfl
theorem Zpv {t:List Node} {i f:Nat} {d:Int}:Ns.res ⟨t,i,f,d⟩=.bool (Ul t f i).1:=rfl
def Di (t:List Node):Bool:=!X8 t&&((Ul t 100 0).1&&((Ul t 100 0).2:Int)==(t.length:Int))
def Ig:Con:=J7 (fun (t:Sl Node)=>t.l.length≤1000000∧Wu t.l) (fun t=>Di t.l)
structure KbS:Prop
theorem KbS.k (_:KbS) (h:p:=by
 repeat' first|exact Z8|with_reducible apply Zb|intro _
 refine Rw (bc:=Ns) ⟨t,0,100,1⟩ [3,1,4] ⟨ht,hN,by simp only;omega,by simp only;omega,by simp only;omega⟩ rfl (by simp) (by rw [Qn];rfl) ?_ ?_ ?_
 ·show Q3 _ _ (Vl t 0) _;rw [Xv];simp [Q3,lk,Tq,rnA,rnAs,rk];rfl
 ·show X6 (List.drop (Vl t 0).length _) _;rw [Xv];simp [X6,lk]
 cases w1 with
 | false =>
  have Qf:Di t=false:=by rw [hR];rfl
  have Je:=@Xv;exact Zx0
 | true =>
  have Qf:Di t=((w2:Int)==(t.length:Int)):=by rw [hR];rfl
  have Je:=@Xv;exact Zx0):p:=h
theorem good_RightT:Qa Tryz.prog (116,Ig):=by
 obtain ⟨Kx,Kt,Kc,Kd,Kb,Ku,Kw,K,X9,_⟩:=Xe Zv Zn [] false (Qd7 Za3 Ns.eq_def Xd);have Ko:=Ig.eq_def;refine Xj K Tryz.func116 [.tmp 2] rfl 36 rfl (fun c hc cvs hpre=>?_);unfold Ig at hpre;obtain ⟨⟨t⟩,rfl,ht,hN⟩:=Q2 hpre;simp only at ht hN;obtain ⟨w,hw⟩:=exq (Ul t 100 0);obtain ⟨w1,w2⟩:=w;have hR:Di t=(!X8 t&&(w1&&(w2:Int)==(t.length:Int))):=by unfold Di;rw [hw]
 cases hc;refine Y4 2 ?_;by_cases h0:t.length=0
 ·have hb:X8 t=true:=by unfold X8;simp [h0]
  have Qf:Di t=false:=by rw [hR,hb];rfl
  have Qb:((t.length:Int)==0)=true:=by rw [Zk];omega
  exact Zx0
 have Qb:((t.length:Int)==0)=false:=by rw [Za];omega
 have hl0:(t.length==0)=false:=by rw [Za];exact h0
 have hpos:0<t.length:=by omega
 have Qe:=Qbu hpos;rcases V5 10000 t.length with ⟨hl,Z9⟩|⟨hl,Z9⟩
 ·have hb:X8 t=true:=by unfold X8;rw [Z9];simp
  have Qf:Di t=false:=by rw [hR,hb];rfl
  exact Zx0
 cases Qc:((t.getD 0 n0).name==[]) with
 | false =>
  have hb:X8 t=true:=by unfold X8;rw [Qc];simp
  have Qf:Di t=false:=by rw [hR,hb];rfl
  exact wL
 | true =>
  cases Qh:((t.getD 0 n0).kind==9) with
  | true =>
   have hb:X8 t=true:=by unfold X8;rw [Qh];simp
   have Qf:Di t=false:=by rw [hR,hb];rfl
   exact wL
  | false =>
   have hb:X8 t=false:=by unfold X8;rw [hl0,Z9,Qc,Qh];rfl
   rw [hb,Bool.not_false,Bool.true_and] at hR;have Qn:Ns.post ⟨t,0,100,1⟩=Vl t w2:=by rw [Zl0,hw]
   have Q6:Ns.res ⟨t,0,100,1⟩=.bool w1:=by rw [Zpv,hw]
   have Kq:KbS:=⟨⟩;exact U6
theorem less_not (x y:List UInt8):(Op.bytesLess x y||x==y)=!Op.bytesLess y x:=by
 rw [bytesLess_eq,bytesLess_eq,Bool.eq_iff_iff];simp only [Bool.or_eq_true,decide_eq_true_eq,Zk,Bool.not_eq_true',decide_eq_false_iff_not,List.not_lt];constructor
 ·rintro (h|rfl)
  ·exact List.le_of_lt h
  ·exact List.le_refl _
 ·intro h;rcases List.le_iff_lt_or_eq.1 h with h|h
  ·exact .inl h
  ·exact .inr h
theorem Znl (x:List UInt8):Op.bytesLess x []=false:=by
 rw [bytesLess_eq];simp
theorem Zy5 (p:Node):lM p=Ks p:=rfl
theorem Zs9 {p x prev:Node} {k m:Nat} {last:List UInt8} (hn:Uq p=true) (hm:m=ar p) (hk:k<m) (hl0:k=0→last=[]) (hl1:0<k→last=prev.name) :
  Zax p x prev (X4 0 (k:Int)) ((k:Int)==(m:Int)-1)=!Cv p k x last:=by
 unfold Zax Cv;rw [Zy5];cases h9:(x.kind==9) with
 | true =>
  simp only [cond_true];cases hr:Ks p with
  | false=>rfl
  | true =>
   have hpn:=Zm1 hn hr;have hmn:(m:Int)=p.n:=by
    have h1:=Au hn;rw [hm,←h1];unfold W8;unfold Ks at hr;rw [Bool.or_eq_true,Zk,Zk] at hr;rw [if_neg (by omega),if_pos hr]
   rcases V5 (k:Int) (p.n-1) with ⟨h1,h2⟩|⟨h1,h2⟩
   ·have:((k:Int)==(m:Int)-1)=false:=by rw [Za];omega
    rw [h2,this];rfl
   ·have:((k:Int)==(m:Int)-1)=true:=by rw [Zk];omega
    rw [h2,this];simp
 | false =>
  simp only [cond_false];have hcore:∀ q:Bool,(q=true→x.name≠[])→(!(!q)&&(!(!true&&!(x.name==[]))&&!(true&&(X4 0 (k:Int)&&!Op.bytesLess prev.name x.name))))=!cond (!q) true (Op.bytesLess x.name last||x.name==last):=by
   intro q hq;cases q with
   | false=>rfl
   | true =>
    rcases Nat.eq_zero_or_pos k with rfl|hk0
    ·rw [hl0 rfl,Znl];have:(x.name==[])=false:=by rw [Za];exact hq rfl
     rw [this];rfl
    ·have:X4 0 (k:Int)=true:=by rw [Jf];omega
     rw [this,hl1 hk0,less_not];simp
  by_cases h6:p.kind=6
  ·have hr:Ks p=true:=by unfold Ks;simp [h6]
   have:=hcore (Wg x.name) (fun h e=>by rw [e] at h;cases h)
   simp only [Zqz,h6,hr,cond_true] at this ⊢;simpa using this
  ·by_cases h7:p.kind=7
   ·have hr:Ks p=true:=by unfold Ks;simp [h7]
    have:=hcore (N8 x.name) (fun h e=>by rw [e] at h;cases h)
    simp only [Zqz,h7,hr,cond_true] at this ⊢;simpa using this
   ·have hr:Ks p=false:=by unfold Ks;simp [h6,h7]
    simp only [Zqz,if_neg h6,if_neg h7,hr,cond_false,Za.2 h6,Za.2 h7];cases (x.name==[])<;>rfl
def Zv1 (ks:List (Rose Node)) (q:Nat):Node:=(ks.getD q (mk n0 [])).root
def dI (ks:List (Rose Node)) (last:List UInt8) (q:Nat):List UInt8:=if q=0 then last else (Zv1 ks (q-1)).name
theorem sZ {x:Rose Node} {xs:List (Rose Node)} {last:List UInt8} {q:Nat}:dI (x::xs) last (q+1)=dI xs x.root.name q:=by
 unfold dI Zv1;rw [if_neg (by omega)]
 cases q with
 | zero=>rfl
 | succ q=>rw [if_neg (by omega)];rfl
theorem Zno {p:Node} {ks:List (Rose Node)} (hn:Uq p=true) (hk:ks.length=ar p):Zyz p ks=true↔∀ q,q<ks.length→Cv p q (Zv1 ks q) (dI ks [] q)=false:=by
 unfold Zyz;rw [List.all_eq_true];constructor
 ·intro h q hq;have:=h q (List.mem_range.2 hq);rw [Zs9 hn hk hq (last:=dI ks [] q) (fun e=>by subst e;rfl) (fun e=>by unfold dI;rw [if_neg (by omega)];rfl)] at this
  rw [Bool.not_eq_true'] at this;exact this
 ·intro h q hq;have hq:=List.mem_range.1 hq;rw [Zs9 hn hk hq (last:=dI ks [] q) (fun e=>by subst e;rfl) (fun e=>by unfold dI;rw [if_neg (by omega)];rfl)]
  have:=h q hq;unfold Zv1 at this;rw [this];rfl
theorem Zyp {t:List Node} {i:Nat} (h:i<t.length):Xf (t.length:Int) (i:Int)=false:=by rw [Pg];omega
mutual
theorem treeR_ok {t:List Node} (hN:Mh t):∀ {x:Rose Node} {i f:Nat},At ar t i x→depth x≤f→labT x=true→Ul t f i=(true,i+(nds x).length)
 | mk n ks,i,f,h,hd,hl=>by
  cases f with
  | zero=>rw [depth] at hd;omega
  | succ f =>
   have hlt:=h.lt;have hroot:t.getD i n0=n:=h.root n0;obtain ⟨hks,hkl⟩:=h.kids;simp only [kids,root] at hks hkl;rw [depth] at hd;rw [labT,Zg] at hl;have hnb:Uq n=true:=by rw [←hroot];exact hN _ (by simp [hlt])
   rw [Ul,Zyp hlt,cond_false,hroot,hnb,cond_true,←hkl];rw [kidsR_ok hN hks (by omega) hl.2 (fun q hq=>by rw [Nat.zero_add];exact (Zno hnb hkl).1 hl.1 q hq),Y7,Zi]
   congr 1
   omega
theorem kidsR_ok {t:List Node} (hN:Mh t):∀ {ks:List (Rose Node)} {p:Node} {k:Nat} {last:List UInt8} {j f:Nat},Zlq ar t j ks→depths ks≤f→labTs ks=true→(∀ q,q<ks.length→Cv p (k+q) (Zv1 ks q) (dI ks last q)=false) →
  Rb t (Ul t f) p ks.length k last j=(true,j+(ndss ks).length)
 | [],p,k,last,j,f,_,_,_,_=>by rw [List.length_nil,Rb];simp [ndss]
 | x::xs,p,k,last,j,f,h,hd,hl,hb=>by
  obtain ⟨hx,hxs⟩:=h.head;have hj:=hx.lt;rw [depths] at hd;rw [labTs,Zg] at hl;have hb0:Cv p k x.root last=false:=hb 0 (by simp)
  rw [Zi,Rb,Zyp hj,cond_false,hx.root n0,hb0,cond_false,treeR_ok hN hx (by omega) hl.1]
  simp only [cond_true];rw [kidsR_ok hN hxs (by omega) hl.2 (fun q hq=>by
   have:=hb (q+1) (by simp only [Zi];omega)
   rw [sZ] at this;rw [show k+1+q=k+(q+1) by omega]
   exact this),ndss,Zf]
  congr 1
  omega
end
theorem Zz3 {t:List Node} {j:Nat} {x:Rose Node} {xs:List (Rose Node)} (hx:At ar t j x) (hxs:Zlq ar t (j+(nds x).length) xs):Zlq ar t j (x::xs):=by
 obtain ⟨h1,r,h2⟩:=hx;obtain ⟨g1,s,g2⟩:=hxs;refine ⟨⟨h1,g1⟩,s,?_⟩;rw [←List.drop_drop,h2,List.drop_left'] at g2
 ·rw [h2,g2,ndss,List.append_assoc]
 ·rfl
theorem Zwt {t:List Node} {i:Nat} {ks:List (Rose Node)} (hi:i<t.length) (hk:ks.length=ar (t.getD i n0)) (h:Zlq ar t (i+1) ks):At ar t i (mk (t.getD i n0) ks):=by
 obtain ⟨g1,s,g2⟩:=h;refine ⟨⟨hk,g1⟩,s,?_⟩;rw [List.drop_eq_getElem_cons hi,g2,Y7];simp [hi]
theorem sY {t:List Node} {p:Node} {f:Nat} {tr:Nat→Bool×Nat} (htr:∀ i j,tr i=(true,j)→∃ x,At ar t i x∧j=i+(nds x).length∧depth x≤f∧labT x=true∧Mh (nds x)):∀ {m k:Nat} {last:List UInt8} {j e:Nat},Rb t tr p m k last j=(true,e)→j≤t.length →
  ∃ ks:List (Rose Node),ks.length=m∧Zlq ar t j ks∧e=j+(ndss ks).length∧depths ks≤f∧labTs ks=true∧Mh (ndss ks)∧∀ q,q<ks.length→Cv p (k+q) (Zv1 ks q) (dI ks last q)=false
 | 0,k,last,j,e,h,hj=>by
  rw [Rb] at h;injection h with _ h
  exact ⟨[],rfl,⟨trivial,t.drop j,by simp [ndss]⟩,by simp [ndss,h],by simp [depths],rfl,fun n hn=>by simp [ndss] at hn,fun q hq=>by simp at hq⟩
 | m+1,k,last,j,e,h,hj=>by
  rw [Rb] at h;cases hl:Xf (t.length:Int) (j:Int) with
  | true=>rw [hl,cond_true] at h;cases h
  | false =>
   rw [hl,cond_false] at h;cases hb:Cv p k (t.getD j n0) last with
   | true=>rw [hb,cond_true] at h;cases h
   | false =>
    rw [hb,cond_false] at h;obtain ⟨w,hw⟩:=exq (tr j);obtain ⟨w1,w2⟩:=w;rw [hw] at h;simp only at h;cases w1 with
    | false=>rw [cond_false] at h;cases h
    | true =>
     rw [cond_true] at h;obtain ⟨x,hx,rfl,hd,hla,hn⟩:=htr j w2 hw;obtain ⟨ks,e1,e2,e3,e4,e5,e6,e7⟩:=sY htr h hx.le;have hro:=hx.root n0;refine ⟨x::ks,by simp [e1],Zz3 hx e2,?_,?_,?_,?_,fun q hq=>?_⟩
     ·rw [e3,ndss,Zf];omega
     ·rw [depths];omega
     ·rw [labTs,hla,e5];rfl
     ·intro n hm;rw [ndss,List.mem_append] at hm;rcases hm with hm|hm
      ·exact hn n hm
      ·exact e6 n hm
     ·cases q with
      | zero=>rw [hro] at hb;exact hb
      | succ q =>
       rw [sZ,←hro,show k+(q+1)=k+1+q by omega]
       exact e7 q (by simpa using hq)
theorem qX {t:List Node}:∀ {f i j:Nat},Ul t f i=(true,j)→∃ x,At ar t i x∧j=i+(nds x).length∧depth x≤f∧labT x=true∧Mh (nds x)
 | 0,i,j,h=>by rw [Ul] at h;cases h
 | f+1,i,j,h=>by
  rw [Ul] at h;cases hl:Xf (t.length:Int) (i:Int) with
  | true=>rw [hl,cond_true] at h;cases h
  | false =>
   rw [hl,cond_false] at h;rw [Pg] at hl;have hi:i<t.length:=by omega
   cases hnb:Uq (t.getD i n0) with
   | false=>rw [hnb,cond_false] at h;cases h
   | true =>
    rw [hnb,cond_true] at h;obtain ⟨ks,e1,e2,e3,e4,e5,e6,e7⟩:=sY (f:=f) (fun i j h=>qX h) h (by omega)
    refine ⟨mk (t.getD i n0) ks,Zwt hi e1 e2,?_,?_,?_,?_⟩
    ·rw [e3,Y7,Zi];omega
    ·rw [depth];omega
    ·rw [labT,Zg];exact ⟨(Zno hnb e1).2 fun q hq=>by have:=e7 q hq;rwa [Nat.zero_add] at this,e5⟩
    ·intro n hm;rw [Y7] at hm;rcases Zs.1 hm with rfl|hm
     ·exact hnb
     ·exact e6 n hm
theorem Zp8 (t:List Node):Di t=Xz t:=by
 rw [Bool.eq_iff_iff];unfold Di;constructor
 ·intro h;rw [Zg,Zg,Zk,Bool.not_eq_true'] at h;obtain ⟨h1,h2,h3⟩:=h;obtain ⟨x,hx,e,hd,hl,hn⟩:=qX (t:=t) (f:=100) (i:=0) (j:=(Ul t 100 0).2) (by rw [←h2])
  unfold X8 at h1;simp only [Bool.or_eq_false_iff,Za,Bool.not_eq_false',Zk,Qv] at h1;obtain ⟨⟨⟨g1,g2⟩,g3⟩,g4⟩:=h1;have hro:=hx.root n0;have ht:t=nds x:=by
   obtain ⟨_,r,h5⟩:=hx;rw [List.drop_zero] at h5;have h6:=congrArg List.length h5;rw [Zf] at h6;have:r=[]:=List.length_eq_zero_iff.1 (by omega)
   rw [h5,this,List.append_nil]
  rw [ht];exact wO ⟨hx.1,hn,hd,hl,by rw [←hro];exact g3,by rw [←hro];exact g4,by rw [←ht];omega⟩
 ·intro h;obtain ⟨x,rfl,hx⟩:=T4 h;have ha:=Ti hx.wf;have hro:=ha.root n0;rw [treeR_ok hx.numb ha hx.depth hx.lab];have hh:X8 (nds x)=false:=by
   unfold Xz at h;rw [Zg,Bool.not_eq_true'] at h;exact h.1
  rw [hh];simp
structure Part where
 kind:Int
 label:List UInt8
 name:List UInt8
 bind:List UInt8
 many:Int
 num:Int
 t:List Node
 u:List Node
 deriving DecidableEq
instance encPart:Enc Part:=⟨fun a=>.agg [.int .i64 a.kind,.str a.label,.str a.name,.str a.bind,.int .i64 a.many,.int .i64 a.num,.list 3 (a.t.map enc),.list 3 (a.u.map enc)],fun x=>match x with
 | .agg [a,b,c,d,e,f,g,h]=>⟨a.i,b.s,c.s,d.s,e.i,f.i,g.l.map dec,h.l.map dec⟩
 | _=>⟨0,[],[],[],0,0,[],[]⟩,fun a=>by
  have h:∀ l:List Node,(l.map (enc:Node→D)).map dec=l:=fun l=>Jq;cases a;simp [D.l,D.i,D.s,h]⟩
instance szPart:Sz Part:=⟨8⟩
theorem Sx:Sz.sz Part=8:=rfl
theorem Qg {n:Part}:(enc n:D)=.agg [.int .i64 n.kind,.str n.label,.str n.name,.str n.bind,.int .i64 n.many,.int .i64 n.num,.list 3 (n.t.map enc),.list 3 (n.u.map enc)]:=rfl
theorem Qo {a:Int} {b c d:List UInt8} {e f:Int} {g h:List Node}:(dec (.agg [.int .i64 a,.str b,.str c,.str d,.int .i64 e,.int .i64 f,.list 3 (g.map enc),.list 3 (h.map enc)]):Part)=⟨a,b,c,d,e,f,g,h⟩:=Enc.dec_enc (Part.mk a b c d e f g h)
theorem Qm {a:Int} {b c d:List UInt8} {e f:Int} {g h:List Node}:V9 Part (.agg [.int .i64 a,.str b,.str c,.str d,.int .i64 e,.int .i64 f,.list 3 (g.map enc),.list 3 (h.map enc)])=True:=eq_true (Xq (Part.mk a b c d e f g h))
theorem Qp {n:Part}:Part.mk n.kind n.label n.name n.bind n.many n.num n.t n.u=n:=rfl
def e0:Part:=⟨0,[],[],[],0,0,[],[]⟩
def Qd1 (p:Part):Prop:=(p.t.length≤9223372036854775807∧Wu p.t)∧(p.u.length≤9223372036854775807∧Wu p.u)∧p.label.length≤9223372036854775807∧p.name.length≤9223372036854775807∧p.bind.length≤9223372036854775807
theorem K6 {p:Nat→Prop} {k:Nat} (h:∀ j,j<k→p j) (hk:p k):∀ j,j<k+1→p j:=fun j hj=>by
 rcases Nat.lt_or_ge j k with h1|h1
 ·exact h j h1
 ·have:j=k:=by omega
  exact this▸hk
def Vo (p:Part):Int :=
 if p.kind=2∨p.kind=8∨p.kind=11∨p.kind=12∨p.kind=13∨p.kind=14 then 1
 else if p.kind=3∨p.kind=4∨p.kind=5∨p.kind=9 then 2
 else if p.kind=6 then 3
 else if p.kind=7 then Znd p.many 0+1
 else if p.kind=10 then Znd p.many 0
 else 0
def Sd:Con:=J7 (fun (p:Part)=>p.many≤1000000) (fun p=>Vo p)
structure KbT:Prop
theorem KbT.k (_:KbT) (h:p:=by
 repeat' first|exact Z8|with_reducible apply Zb|intro _
 all_goals first|(rw [Xr,hmx];split<;>omega)|(unfold Vo;simp_all;done)):p:=h
theorem good_Many5:Qa Tryz.prog (140,Sd):=by
 obtain ⟨Kx,Kt,Kc,Kd,Kb,Ku,Kw,K,_⟩:=Xe Zv Zn [] false Xd;have Ko:=Sd.eq_def;refine Xj K Tryz.func140 [.tmp 2] rfl 30 rfl (fun c hc cvs hpre=>?_);unfold Sd at hpre;obtain ⟨p,rfl,hm⟩:=Q2 hpre;have hmx:Znd p.many 0=if p.many<0 then 0 else p.many:=rfl
 cases hc;have Qb:=@Qg;have Qf:=@Qm;have Z9:=@Qo;have Qe:=@Qp;have Qc:=@Sx;have Kq:KbT:=⟨⟩;exact U6
def Oi:List Part→Int→Nat
 | [],_=>0
 | n::l,o=>if o-1+Vo n=0 then 1 else 1+Oi l (o-1+Vo n)
def jX (t:List Part) (i:Int):Int:=if i<0∨(t.length:Int)≤i then -1 else i+Oi (t.drop i.toNat) 1
def oK (t:List Part):Prop:=t.length≤100000∧∀ n∈t,0≤Vo n∧Vo n≤60∧n.many≤1000000
def aG:Con:=Xc (fun (t:Sl Part) (i:Int)=>oK t.l∧vV .i64 i) (fun t i=>jX t.l i)
structure KbV:Prop
theorem KbV.k (_:KbV) (h:p:=by
 repeat' first|exact Z8|with_reducible apply Zb|intro _
 ·rename_i hz;rw [if_pos hz] at he;rw [e00];omega
 ·rename_i hz;rw [if_neg hz] at he;exact ⟨(k+1,o-1+Vo x),by exact Qw,by simp only;omega,by simp only;omega,by simp only;omega,by simp only;omega,by simp only;omega,by simp only;omega⟩):p:=h
structure KbW:Prop
theorem KbW.k (_:KbW) (h:p:=by
 rw [e00];omega):p:=h
structure KbU:Prop
theorem KbU.k (_:KbU) (h:p:=by
 repeat' first|exact Z8|with_reducible apply Zb|intro _
 ·unfold jX;rw [if_pos (.inr ‹_›)]
 ·obtain ⟨i,rfl⟩:∃ n:Nat,i=n:=⟨i.toNat,by omega⟩
  have hil:i<t.length:=by omega
  have e00:jX t i=i+Oi (t.drop i) 1:=by
   unfold jX;rw [if_neg (by omega)]
   rfl
  refine Zm [4,16,17,18,19,20,21,22,23,24,25,26,27,28,29,30,31,32,33] (fun p:Nat×Int=>[(5,.d (.int .i64 p.2)),(6,.d (.int .i64 p.1))]) (fun p:Nat×Int=>[]) (fun p:Nat×Int=>i≤p.1∧p.1≤t.length∧1≤p.2∧p.2≤1+60*p.1∧i+Oi (t.drop i) 1=p.1+Oi (t.drop p.1) p.2) (fun p:Nat×Int=>t.length-p.1) (i,1) ?_ ?_ ?_
  ·exact ⟨Zq _,by simp only;omega,by simp,by simp only;omega,rfl⟩
  ·exact Qw
  rintro ⟨k,o⟩ ⟨h1,h2,h3,h4,h5⟩;simp only at h1 h2 h3 h4 h5;rcases Zo k t.length with ⟨hlt,Qb⟩|⟨hlt,Qb⟩
  ·have hmk:=hm (t.getD k e0) (by simp [hlt])
   have Qf:=Zr e0 hlt;have he:Oi (t.drop k) o=if o-1+Vo (t.getD k e0)=0 then 1 else 1+Oi (t.drop (k+1)) (o-1+Vo (t.getD k e0)):=by
    rw [List.drop_eq_getElem_cons hlt,Oi];simp [hlt]
   obtain ⟨x,hx⟩:=exq (t.getD k e0);rw [hx] at hmk Qf he;have Z9:=@Qg;have Qe:=@Qm;have Qc:=@Qo;have Qh:=@Qp;have Qn:=@Sx;have Kq:KbV:=⟨⟩;exact U6
  ·have hd:t.drop k=[]:=List.drop_eq_nil_of_le hlt;rw [hd,Oi] at h5;have Z9:=@Qg;have Qe:=@Qm;have Qc:=@Qo;have Qh:=@Qp;have Qn:=@Sx;have Kq:KbW:=⟨⟩;exact U6
 ·unfold jX;rw [if_pos (.inl ‹_›)]):p:=h
theorem good_End5:Qa Tryz.prog (141,aG):=by
 obtain ⟨Kx,Kt,Kc,Kd,Kb,Ku,Kw,K,X9,_⟩:=Xe Zv Zn [] false (Q0 good_Many5 Sd.eq_def Xd);have Ko:=aG.eq_def;refine Xj K Tryz.func141 [.tmp 4] rfl 36 rfl (fun c hc cvs hpre=>?_);unfold aG at hpre;obtain ⟨⟨t⟩,i,rfl,⟨ht,hm⟩,hi⟩:=Ql hpre;simp only at ht hm;rw [Xr] at hi;cases hc;refine Y4 2 ?_;have Z9:=@Qg;have Qe:=@Qm;have Qc:=@Qo;have Qh:=@Qp;have Qn:=@Sx;have Kq:KbU:=⟨⟩;exact U6
theorem Ztt:∀ (l:List Part) (o:Int),Oi l o≤l.length
 | [],_=>Zq _
 | n::l,o=>by
  have:=Ztt l (o-1+Vo n);simp only [Oi,Zi];split<;>omega
def X1 (t:List Part):Nat→Nat→List Int
 | 0,_=>[]
 | m+1,at_=>if at_<t.length then (at_:Int)::X1 t m (at_+Oi (t.drop at_) 1) else []
def S5 (t:List Part) (i:Int):List Int:=if i<0∨(t.length:Int)≤i then [] else X1 t (Vo (t.getD i.toNat e0)).toNat (i.toNat+1)
def Rp:Con:=Xc (fun (t:Sl Part) (i:Int)=>oK t.l∧vV .i64 i) (fun t i=>Sl.mk (S5 t.l i))
structure KbY:Prop
theorem KbY.k (_:KbY) (h:p:=by
 repeat' first|exact Z8|with_reducible apply Zb|intro _
 refine ⟨(k+1,q+Oi (t.drop q) 1,out++[(q:Int)]),by exact Qw,by simp only;omega,by simp only;omega,by simp [h3],?_,by simp only;omega⟩
 simp only;rw [←h4,show M-(k+1)=M-k-1 by omega]
 simp):p:=h
structure KbZ:Prop
theorem KbZ.k (_:KbZ) (h:p:=by
 repeat' first|exact Z8|with_reducible apply Zb|intro _
 rw [e00,h4]):p:=h
structure Kca:Prop
theorem Kca.k (_:Kca) (h:p:=by
 repeat' first|exact Z8|with_reducible apply Zb|intro _
 rw [e00,h4]):p:=h
structure KbX:Prop
theorem KbX.k (_:KbX) (h:p:=by
 repeat' first|exact Z8|with_reducible apply Zb|intro _
 ·unfold S5;rw [if_pos (.inr ‹_›)];rfl
 ·obtain ⟨i,rfl⟩:∃ n:Nat,i=n:=⟨i.toNat,by omega⟩
  have hil:i<t.length:=by omega
  have hmi:=hm (t.getD i e0) (by simp [hil])
  have Qc:=Zr e0 hil;obtain ⟨M,Z9⟩:∃ M:Nat,Vo (t.getD i e0)=M:=⟨(Vo (t.getD i e0)).toNat,by omega⟩
  have e00:S5 t i=X1 t M (i+1):=by
   unfold S5;rw [if_neg (by omega)]
   simp only [Zj,Z9]
  obtain ⟨x,hx⟩:=exq (t.getD i e0);rw [hx] at hmi Qc Z9;refine Zm [20,21,22,23,24,25,26,27,28,29,30,31,32,33,34,35,36,37,38,39,40,41] (fun p:Nat×Nat×List Int=>[(5,.sl 8 (p.2.2.map enc).length),(6,.d (.int .i64 p.2.1)),(7,.d (.int .i64 p.1))]) (fun p:Nat×Nat×List Int=>[(8,.row 1 (p.2.2.map enc) 0)]) (fun p:Nat×Nat×List Int=>p.1≤M∧p.2.1≤t.length∧p.2.2.length=p.1∧p.2.2++X1 t (M-p.1) p.2.1=X1 t M (i+1)) (fun p:Nat×Nat×List Int=>M-p.1) (0,i+1,[]) ?_ ?_ ?_
  ·exact ⟨Nat.zero_le _,hil,rfl,rfl⟩
  ·exact Qw
  rintro ⟨k,q,out⟩ ⟨h1,h2,h3,h4⟩;simp only at h1 h2 h3 h4;rcases Zo k M with ⟨hk,Qb⟩|⟨hk,Qb⟩
  ·rcases Zo q t.length with ⟨hq,Qf⟩|⟨hq,Qf⟩
   ·have e1:M-k=(M-k-1)+1:=by omega
    rw [e1,X1,if_pos hq] at h4;have hle:=Ztt (t.drop q) 1;rw [List.length_drop] at hle;have Qe:jX t q=((q+Oi (t.drop q) 1:Nat):Int):=by
     unfold jX;rw [if_neg (by omega)]
     simp
    have hT:oK t:=⟨ht,hm⟩;have Qh:=@Qg;have Qn:=@Qm;have Q6:=@Qo;have Je:=@Qp;have Q4:=@Sx;have Kq:KbY:=⟨⟩;exact U6
   ·have hz:X1 t (M-k) q=[]:=by
     cases hc:M-k with
     | zero=>rfl
     | succ c=>rw [X1,if_neg (by omega)]
    rw [hz,List.append_nil] at h4;have Qh:=@Qg;have Qn:=@Qm;have Q6:=@Qo;have Je:=@Qp;have Q4:=@Sx;have Kq:KbZ:=⟨⟩;exact U6
  ·have hz:X1 t (M-k) q=[]:=by
    rw [show M-k=0 by omega]
    rfl
   rw [hz,List.append_nil] at h4;have Qh:=@Qg;have Qn:=@Qm;have Q6:=@Qo;have Je:=@Qp;have Q4:=@Sx;have Kq:Kca:=⟨⟩;exact U6
 ·unfold S5;rw [if_pos (.inl ‹_›)];rfl):p:=h
theorem good_Kids5:Qa Tryz.prog (102,Rp):=by
 obtain ⟨Kx,Kt,Kc,Kd,Kb,Ku,Kw,K,X9,Uv,_⟩:=Xe Zv Zn [] false (Q0 good_Many5 Sd.eq_def (Q0 good_End5 aG.eq_def Xd));have Ko:=Rp.eq_def;refine Xj K Tryz.func102 [.tmp 4] rfl 43 rfl (fun c hc cvs hpre=>?_);unfold Rp at hpre;obtain ⟨⟨t⟩,i,rfl,⟨ht,hm⟩,hi⟩:=Ql hpre;simp only at ht hm;rw [Xr] at hi;cases hc;refine Y4 2 ?_;have Qh:=@Qg;have Qn:=@Qm;have Q6:=@Qo;have Je:=@Qp;have Q4:=@Sx;have Kq:KbX:=⟨⟩;exact U6
def Qa2:List (List UInt8):=[[43],[45],[42],[47],[60],[61,61],[38,38],[124,124],[43,43]]
def Qfl (s:List UInt8):Bool:=Qa2.any fun o=>o==s
theorem Qa1:([.str [43],.str [45],.str [42],.str [47],.str [60],.str [61,61],.str [38,38],.str [124,124],.str [43,43]]:List D)=Qa2.map enc:=rfl
theorem Zpg:∀ {l:List (List UInt8)},Fu 1 (l.map enc)=True
 | []=>rfl
 | x::l=>by
  show (D.fits 1 (.str x)∧Fu 1 (l.map enc))=True;rw [Zpg,and_true];exact eq_true rfl
def pH:Con:=J7 (fun (_:List UInt8)=>True) (fun s=>Qfl s)
structure Kcc:Prop
theorem Kcc.k (_:Kcc) (h:p:=by
 repeat' first|exact Z8|with_reducible apply Zb|intro _
 all_goals first|with_reducible exact Jd|omega|exact ⟨k+1,by exact Qw,by omega,h2,by omega⟩|skip):p:=h
structure Kcb:Prop
theorem Kcb.k (_:Kcb) (h:p:=by
 repeat' first|exact Z8|with_reducible apply Zb|intro _
 ·cases l with
  | nil=>trivial
  | cons x l=>exact ⟨rfl,of_eq_true Zpg⟩
 refine Zm [2,6,7,8,9,10,11,12,13,14,15,16,17] (fun k:Nat=>[(4,.d (.int .i64 k))]) (fun k:Nat=>[]) (fun k:Nat=>k≤9∧∀ j,j<k→l.getD j []≠s) (fun k:Nat=>9-k) 0 ?_ ?_ ?_
 ·simp
 ·exact Qw
 rintro k ⟨hk,hno⟩;by_cases hlt:k<9
 ·have Z9:X4 (k:Int) 9=true:=by rw [Jf];omega
  have Qe:=Zr ([]:List UInt8) (show k<l.length by omega)
  have hst:l.getD k []≠s→∀ j,j<k+1→l.getD j []≠s:=fun h=>K6 hno h;have hit:(l.getD k []==s)=true→R=true:=fun h=>by rw [←hR2];exact Ix (p:=fun o=>o==s) [] k (by omega) h
  obtain ⟨y,hy⟩:=exq (l.getD k []);rw [hy] at Qe hst hit;cases Qc:(y==s) with
  | true =>
   have hr:=hit Qc;subst hr;exact wL
  | false =>
   have h2:=hst (Za.1 Qc);have Kq:Kcc:=⟨⟩;exact U6
 ·have Z9:X4 (k:Int) 9=false:=by rw [Qv];omega
  have hr:R=false:=by rw [←hR2];exact Su (p:=fun o=>o==s) [] fun j hj=>Za.2 (hno j (by omega))
  subst hr;exact wL):p:=h
theorem good_op5:Qa Tryz.prog (190,pH):=by
 obtain ⟨Kx,Kt,Kc,Kd,Kb,Ku,Kw,K,_⟩:=Xe Zv Zn [] false Xd;have Ko:=pH.eq_def;refine Xj K Tryz.func190 [.tmp 2] rfl 18 rfl (fun c hc cvs hpre=>?_);unfold pH at hpre;obtain ⟨s,rfl,-⟩:=Q2 hpre;obtain ⟨R,Qh⟩:=exq (Qfl s);have hR2:=Qh;unfold Qfl at hR2;have hl:Qa2.length=9:=rfl;have Qb:=Qa1;obtain ⟨l,hll⟩:=exq (Qa2);rw [hll] at hR2 hl Qb;have Qf:(l.length:Int)=9:=by rw [hl];rfl
 cases hc;have Kq:Kcb:=⟨⟩;exact U6
def Zrw:List UInt8→Option Nat
 | []=>none
 | c::s=>if c=33 then some 0 else (Zrw s).map (·+1)
theorem Ztv:∀ {s:List UInt8} {k:Nat},k<s.length→(∀ j,j<k→s.getD j 0≠33)→s.getD k 0=33→Zrw s=some k
 | [],k,h,_,_=>by simp at h
 | c::s,0,_,_,h=>by
  simp only [List.getD_cons_zero] at h;simp [Zrw,h]
 | c::s,k+1,h,hno,hk=>by
  have h0:=hno 0 (by omega)
  simp only [List.getD_cons_zero] at h0;rw [Zrw,if_neg h0,Ztv (k:=k) (by simpa using h) (fun j hj=>by simpa using hno (j+1) (by omega)) (by simpa using hk)]
  rfl
theorem yR:∀ {s:List UInt8},(∀ j,j<s.length→s.getD j 0≠33)→Zrw s=none
 | [],_=>rfl
 | c::s,hno=>by
  have h0:=hno 0 (by simp)
  simp only [List.getD_cons_zero] at h0;rw [Zrw,if_neg h0,yR fun j hj=>by simpa using hno (j+1) (by simpa using hj)]
  rfl
def Zm8 (s:List UInt8):Bool:=match Zrw s with
 | some k=>Wg (s.take k)&&Wg (s.drop (k+1))
 | none=>Wg s
theorem Qcg {c:UInt8}:((c.toNat:Int)==33)=true↔c=33:=by
 rw [Zk];constructor
 ·intro h;have:c.toNat=33:=by omega
  exact UInt8.toNat_inj.1 (by rw [this];rfl)
 ·rintro rfl;rfl
def cZ:Con:=J7 (fun (s:List UInt8)=>s.length≤9223372036854775806) (fun s=>Zm8 s)
structure Kce:Prop
theorem Kce.k (_:Kce) (h:p:=by
 repeat' first|exact Z8|with_reducible apply Zb|intro _
 all_goals first|with_reducible exact Jd|omega|exact ⟨k+1,by exact Qw,by omega,h2,by omega⟩|skip):p:=h
structure Kcd:Prop
theorem Kcd.k (_:Kcd) (h:p:=by
 repeat' first|exact Z8|with_reducible apply Zb|intro _
 refine Zm [2,4,5,6,7,8,9,10,11,12,13,14,15,16,17,18,19,20,21,22,23,24] (fun k:Nat=>[(3,.d (.int .i64 k))]) (fun k:Nat=>[]) (fun k:Nat=>k≤s.length∧∀ j,j<k→s.getD j 0≠33) (fun k:Nat=>s.length-k) 0 ?_ ?_ ?_
 ·simp
 ·exact Qw
 rintro k ⟨hk,hno⟩;rcases Zo k s.length with ⟨hlt,Qb⟩|⟨hlt,Qb⟩
 ·have hst:s.getD k 0≠33→∀ j,j<k+1→s.getD j 0≠33:=fun h=>K6 hno h;have hit:s.getD k 0=33→R=(Wg (s.take k)&&Wg (s.drop (k+1))):=fun h=>by
   rw [Ztv hlt hno h] at hR2;exact hR2.symm
  obtain ⟨y,Qf⟩:=exq (s.getD k 0);rw [Qf] at hst hit;have Qc:(k:Int)+1=((k+1:Nat):Int):=rfl;cases Z9:((y.toNat:Int)==33) with
  | true =>
   have hr:=hit (Qcg.1 Z9);have l1:(s.take k).length≤9223372036854775807:=by rw [List.length_take];omega
   have l2:(s.drop (k+1)).length≤9223372036854775807:=by rw [List.length_drop];omega
   obtain ⟨w1,Qe⟩:=exq (Wg (s.take k));obtain ⟨w2,Qh⟩:=exq (Wg (s.drop (k+1)));rw [Qe,Qh] at hr;cases w1 with
   | true =>
    rw [Bool.true_and] at hr;subst hr;exact wL
   | false =>
    rw [Bool.false_and] at hr;subst hr;exact wL
  | false =>
   have h2:=hst (fun e=>by rw [Qcg.2 e] at Z9;cases Z9)
   have Kq:Kce:=⟨⟩;exact U6
 ·have hr:R=Wg s:=by
   rw [yR fun j hj=>hno j (by omega)] at hR2
   exact hR2.symm
  subst hr;exact wL):p:=h
theorem good_name5:Qa Tryz.prog (189,cZ):=by
 obtain ⟨Kx,Kt,Kc,Kd,Kb,Ku,Kw,K,X9,_⟩:=Xe Zv Zn [] false (Q0 good_IsWord1 Eg Xd);have Ko:=cZ.eq_def;refine Xj K Tryz.func189 [.tmp 2] rfl 27 rfl (fun c hc cvs hpre=>?_);unfold cZ at hpre;obtain ⟨s,rfl,hs⟩:=Q2 hpre;obtain ⟨R,Qn⟩:=exq (Zm8 s);have hR2:=Qn;unfold Zm8 at hR2;cases hc;have Kq:Kcd:=⟨⟩;exact U6
def Oz (t:List Node):Bool:=Xz t&&Ux t
def A9:Con:=J7 (fun (t:Sl Node)=>t.l.length≤9223372036854775807∧Wu t.l) (fun t=>Oz t.l)
structure Kcf:Prop
theorem Kcf.k (_:Kcf) (h:p:=by
 repeat' first|exact Z8|with_reducible apply Zb|intro _
 all_goals (unfold Oz;simp_all)):p:=h
theorem good_plain5:Qa Tryz.prog (187,A9):=by
 obtain ⟨Kx,Kt,Kc,Kd,Kb,Ku,Kw,K,X9,Uv,_⟩:=Xe Zv Zn [] false (Q0 good_Right3 M9.eq_def (Q0 good_Plain3 Sc.eq_def Xd));have Ko:=A9.eq_def;refine Xj K Tryz.func187 [.tmp 2] rfl 9 rfl (fun c hc cvs hpre=>?_);unfold A9 at hpre;obtain ⟨⟨t⟩,rfl,ht,hN⟩:=Q2 hpre;simp only at ht hN;cases hc;have Kq:Kcf:=⟨⟩;exact U6
def Zvu (p:Part) (n:Node):Bool :=
 if p.t.length≠1∨n.name≠[]∨n.n≠0∨p.num<0∨999999999999999999<p.num then false
 else if n.kind=1 then p.name==[]
 else if n.kind=2 then p.name==[]&&X4 p.num 2
 else if n.kind=3 then p.num==0
 else if n.kind=4 then p.name==[]&&p.num==0
 else false
def F9 (p:Part):Bool:=Zvu p (p.t.getD 0 n0)
def Ce:Con:=J7 (fun (p:Part)=>Qd1 p) (fun p=>F9 p)
structure Kcg:Prop
theorem Kcg.k (_:Kcg) (h:p:=by
 repeat' first|exact Z8|with_reducible apply Zb|intro _
 all_goals first|omega|(symm;rw [←hR2];clear hR2 Z9;unfold Zvu;simp_all;done)|(symm;rw [←hR2];clear hR2 Z9;unfold Zvu;simp_all;omega)|(symm;rw [←hR2];clear hR2 Z9;unfold Zvu;rw [if_neg (by simp_all;omega)];simp_all [X4];done)|skip):p:=h
theorem good_literal5:Qa Tryz.prog (188,Ce):=by
 obtain ⟨Kx,Kt,Kc,Kd,Kb,Ku,Kw,K,_⟩:=Xe Zv Zn [] false Xd;have Ko:=Ce.eq_def;refine Xj K Tryz.func188 [.tmp 2] rfl 68 rfl (fun c hc cvs hpre=>?_);unfold Ce at hpre;obtain ⟨p,rfl,hF⟩:=Q2 hpre;clear hpre;obtain ⟨R,Z9⟩:=exq (F9 p);have hR2:=Z9;unfold F9 at hR2;cases hc;refine Y4 4 ?_;by_cases h1:p.t.length=1
 ·have Qb:((p.t.length:Int) != 1)=false:=by rw [bne_eq_false_iff_eq];omega
  have Qf:=Zr n0 (show 0<p.t.length by omega)
  obtain ⟨x,hx⟩:=exq (p.t.getD 0 n0);rw [hx] at Qf hR2;clear hx;have Qe:=@Qg;have Qc:=@Qm;have Qh:=@Qo;have Qn:=@Qp;have Q6:=@Sx;have Kq:Kcg:=⟨⟩;exact U6
 ·have Qb:((p.t.length:Int) != 1)=true:=by rw [bne_iff_ne];omega
  unfold Zvu at hR2;rw [if_pos (.inl h1)] at hR2;subst hR2;have Qe:=@Qg;have Qc:=@Qm;have Qh:=@Qo;have Qn:=@Qp;have Q6:=@Sx;exact Zx0
def Xh (p:Part) (w tg b t u li na op:Bool):Bool :=
 if p.kind≠0∧p.kind≠14∧p.num≠0 then false
 else if p.kind=0 then ((p.bind==[]&&p.many==0)&&((p.u.length:Int)==0))&&li
 else if p.kind=1 then (((p.bind==[]&&p.many==0)&&((p.t.length:Int)==0))&&((p.u.length:Int)==0))&&na
 else if p.kind=2∨p.kind=4 then (((p.name==[]&&p.many==0)&&b)&&t)&&((p.u.length:Int)==0)
 else if p.kind=3∨p.kind=6 then ((p.name==[]&&(p.bind==[]&&p.many==0))&&((p.t.length:Int)==0))&&((p.u.length:Int)==0)
 else if p.kind=5 then (((w&&p.many==0)&&b)&&t)&&u
 else if p.kind=7 then ((((p.name==[]&&p.bind==[])&&Xf 1 p.many)&&Xf p.many 50)&&((p.t.length:Int)==0))&&((p.u.length:Int)==0)
 else if p.kind=8 then (((p.name==[]&&p.many==0)&&b)&&((p.t.length:Int)==0))&&((p.u.length:Int)==0)
 else if p.kind=9 then ((op&&(p.bind==[]&&p.many==0))&&((p.t.length:Int)==0))&&((p.u.length:Int)==0)
 else if p.kind=10 then ((((p.name==[]&&p.bind==[])&&Xf 0 p.many)&&Xf p.many 50)&&((p.t.length:Int)==0))&&((p.u.length:Int)==0)
 else if p.kind=11 then ((w&&(p.bind==[]&&p.many==0))&&((p.t.length:Int)==0))&&((p.u.length:Int)==0)
 else if p.kind=12 then ((tg&&(p.bind==[]&&p.many==0))&&t)&&((p.u.length:Int)==0)
 else if p.kind=13 then ((p.name==[]&&(p.bind==[]&&p.many==0))&&t)&&((p.u.length:Int)==0)
 else if p.kind=14 then (((p.name==[]&&(p.bind==[]&&p.many==0))&&t)&&u)&&Xf 0 p.num
 else false
def Eh (p:Part):Bool:=Xh p (Wg p.name) (N8 p.name) (Wg p.bind) (Oz p.t) (Oz p.u) (F9 p) (Zm8 p.name) (Qfl p.name)
def bT:Con:=J7 (fun (p:Part)=>Qd1 p∧p.name.length≤9223372036854775806) (fun p=>Eh p)
structure Kch:Prop
theorem Kch.k (_:Kch) (h:p:=by
 repeat' first|exact Z8|with_reducible apply Zb|intro _
 all_goals first|with_reducible exact Jd|omega|(symm;rw [←hR2];clear hR2 Je hF f1 f2 f3 f4 f5 f6 f7 hn K Qb Qf Z9 Qe Qc Qh Qn Q6 Q4 Zu Zx Zw Zz Zy Qd Z1 Z0 Qi Qk Qs Q8 Q5 Qy Jh Jg;unfold Xh;simp_all;done)|(symm;rw [←hR2];clear hR2 Je hF f1 f2 f3 f4 f5 f6 f7 hn K Qb Qf Z9 Qe Qc Qh Qn Q6 Q4 Zu Zx Zw Zz Zy Qd Z1 Z0 Qi Qk Qs Q8 Q5 Qy Jh Jg;unfold Xh Xf;simp_all;done)|(symm;rw [←hR2];clear hR2 Je hF f1 f2 f3 f4 f5 f6 f7 hn K Qb Qf Z9 Qe Qc Qh Qn Q6 Q4 Zu Zx Zw Zz Zy Qd Z1 Z0 Qi Qk Qs Q8 Q5 Qy Jh Jg;unfold Xh Xf;simp_all;omega)|skip):p:=h
structure Kci:Prop
theorem Kci.k (_:Kci) (h:p:=by
 repeat' first|exact Z8|with_reducible apply Zb|intro _
 all_goals first|with_reducible exact Jd|omega|(symm;rw [←hR2];clear hR2 Je hF f1 f2 f3 f4 f5 f6 f7 hn K Qb Qf Z9 Qe Qc Qh Qn Q6 Q4 Zu Zx Zw Zz Zy Qd Z1 Z0 Qi Qk Qs Q8 Q5 Qy Jh Jg;unfold Xh;simp_all;done)|(symm;rw [←hR2];clear hR2 Je hF f1 f2 f3 f4 f5 f6 f7 hn K Qb Qf Z9 Qe Qc Qh Qn Q6 Q4 Zu Zx Zw Zz Zy Qd Z1 Z0 Qi Qk Qs Q8 Q5 Qy Jh Jg;unfold Xh Xf;simp_all;done)|(symm;rw [←hR2];clear hR2 Je hF f1 f2 f3 f4 f5 f6 f7 hn K Qb Qf Z9 Qe Qc Qh Qn Q6 Q4 Zu Zx Zw Zz Zy Qd Z1 Z0 Qi Qk Qs Q8 Q5 Qy Jh Jg;unfold Xh Xf;simp_all;omega)|skip):p:=h
structure Kcj:Prop
theorem Kcj.k (_:Kcj) (h:p:=by
 repeat' first|exact Z8|with_reducible apply Zb|intro _
 all_goals first|with_reducible exact Jd|omega|(symm;rw [←hR2];clear hR2 Je hF f1 f2 f3 f4 f5 f6 f7 hn K Qb Qf Z9 Qe Qc Qh Qn Q6 Q4 Zu Zx Zw Zz Zy Qd Z1 Z0 Qi Qk Qs Q8 Q5 Qy Jh Jg;unfold Xh;simp_all;done)|(symm;rw [←hR2];clear hR2 Je hF f1 f2 f3 f4 f5 f6 f7 hn K Qb Qf Z9 Qe Qc Qh Qn Q6 Q4 Zu Zx Zw Zz Zy Qd Z1 Z0 Qi Qk Qs Q8 Q5 Qy Jh Jg;unfold Xh Xf;simp_all;done)|(symm;rw [←hR2];clear hR2 Je hF f1 f2 f3 f4 f5 f6 f7 hn K Qb Qf Z9 Qe Qc Qh Qn Q6 Q4 Zu Zx Zw Zz Zy Qd Z1 Z0 Qi Qk Qs Q8 Q5 Qy Jh Jg;unfold Xh Xf;simp_all;omega)|skip):p:=h
structure Kck:Prop
theorem Kck.k (_:Kck) (h:p:=by
 repeat' first|exact Z8|with_reducible apply Zb|intro _
 all_goals first|with_reducible exact Jd|omega|(symm;rw [←hR2];clear hR2 Je hF f1 f2 f3 f4 f5 f6 f7 hn K Qb Qf Z9 Qe Qc Qh Qn Q6 Q4 Zu Zx Zw Zz Zy Qd Z1 Z0 Qi Qk Qs Q8 Q5 Qy Jh Jg;unfold Xh;simp_all;done)|(symm;rw [←hR2];clear hR2 Je hF f1 f2 f3 f4 f5 f6 f7 hn K Qb Qf Z9 Qe Qc Qh Qn Q6 Q4 Zu Zx Zw Zz Zy Qd Z1 Z0 Qi Qk Qs Q8 Q5 Qy Jh Jg;unfold Xh Xf;simp_all;done)|(symm;rw [←hR2];clear hR2 Je hF f1 f2 f3 f4 f5 f6 f7 hn K Qb Qf Z9 Qe Qc Qh Qn Q6 Q4 Zu Zx Zw Zz Zy Qd Z1 Z0 Qi Qk Qs Q8 Q5 Qy Jh Jg;unfold Xh Xf;simp_all;omega)|skip):p:=h
structure Kcl:Prop
theorem Kcl.k (_:Kcl) (h:p:=by
 repeat' first|exact Z8|with_reducible apply Zb|intro _
 all_goals first|with_reducible exact Jd|omega|(symm;rw [←hR2];clear hR2 Je hF f1 f2 f3 f4 f5 f6 f7 hn K Qb Qf Z9 Qe Qc Qh Qn Q6 Q4 Zu Zx Zw Zz Zy Qd Z1 Z0 Qi Qk Qs Q8 Q5 Qy Jh Jg;unfold Xh;simp_all;done)|(symm;rw [←hR2];clear hR2 Je hF f1 f2 f3 f4 f5 f6 f7 hn K Qb Qf Z9 Qe Qc Qh Qn Q6 Q4 Zu Zx Zw Zz Zy Qd Z1 Z0 Qi Qk Qs Q8 Q5 Qy Jh Jg;unfold Xh Xf;simp_all;done)|(symm;rw [←hR2];clear hR2 Je hF f1 f2 f3 f4 f5 f6 f7 hn K Qb Qf Z9 Qe Qc Qh Qn Q6 Q4 Zu Zx Zw Zz Zy Qd Z1 Z0 Qi Qk Qs Q8 Q5 Qy Jh Jg;unfold Xh Xf;simp_all;omega)|skip):p:=h
structure Kcm:Prop
theorem Kcm.k (_:Kcm) (h:p:=by
 repeat' first|exact Z8|with_reducible apply Zb|intro _
 all_goals first|with_reducible exact Jd|omega|(symm;rw [←hR2];clear hR2 Je hF f1 f2 f3 f4 f5 f6 f7 hn K Qb Qf Z9 Qe Qc Qh Qn Q6 Q4 Zu Zx Zw Zz Zy Qd Z1 Z0 Qi Qk Qs Q8 Q5 Qy Jh Jg;unfold Xh;simp_all;done)|(symm;rw [←hR2];clear hR2 Je hF f1 f2 f3 f4 f5 f6 f7 hn K Qb Qf Z9 Qe Qc Qh Qn Q6 Q4 Zu Zx Zw Zz Zy Qd Z1 Z0 Qi Qk Qs Q8 Q5 Qy Jh Jg;unfold Xh Xf;simp_all;done)|(symm;rw [←hR2];clear hR2 Je hF f1 f2 f3 f4 f5 f6 f7 hn K Qb Qf Z9 Qe Qc Qh Qn Q6 Q4 Zu Zx Zw Zz Zy Qd Z1 Z0 Qi Qk Qs Q8 Q5 Qy Jh Jg;unfold Xh Xf;simp_all;omega)|skip):p:=h
structure Kcn:Prop
theorem Kcn.k (_:Kcn) (h:p:=by
 repeat' first|exact Z8|with_reducible apply Zb|intro _
 all_goals first|with_reducible exact Jd|omega|(symm;rw [←hR2];clear hR2 Je hF f1 f2 f3 f4 f5 f6 f7 hn K Qb Qf Z9 Qe Qc Qh Qn Q6 Q4 Zu Zx Zw Zz Zy Qd Z1 Z0 Qi Qk Qs Q8 Q5 Qy Jh Jg;unfold Xh;simp_all;done)|(symm;rw [←hR2];clear hR2 Je hF f1 f2 f3 f4 f5 f6 f7 hn K Qb Qf Z9 Qe Qc Qh Qn Q6 Q4 Zu Zx Zw Zz Zy Qd Z1 Z0 Qi Qk Qs Q8 Q5 Qy Jh Jg;unfold Xh Xf;simp_all;done)|(symm;rw [←hR2];clear hR2 Je hF f1 f2 f3 f4 f5 f6 f7 hn K Qb Qf Z9 Qe Qc Qh Qn Q6 Q4 Zu Zx Zw Zz Zy Qd Z1 Z0 Qi Qk Qs Q8 Q5 Qy Jh Jg;unfold Xh Xf;simp_all;omega)|skip):p:=h
structure Kco:Prop
theorem Kco.k (_:Kco) (h:p:=by
 repeat' first|exact Z8|with_reducible apply Zb|intro _
 all_goals first|with_reducible exact Jd|omega|(symm;rw [←hR2];clear hR2 Je hF f1 f2 f3 f4 f5 f6 f7 hn K Qb Qf Z9 Qe Qc Qh Qn Q6 Q4 Zu Zx Zw Zz Zy Qd Z1 Z0 Qi Qk Qs Q8 Q5 Qy Jh Jg;unfold Xh;simp_all;done)|(symm;rw [←hR2];clear hR2 Je hF f1 f2 f3 f4 f5 f6 f7 hn K Qb Qf Z9 Qe Qc Qh Qn Q6 Q4 Zu Zx Zw Zz Zy Qd Z1 Z0 Qi Qk Qs Q8 Q5 Qy Jh Jg;unfold Xh Xf;simp_all;done)|(symm;rw [←hR2];clear hR2 Je hF f1 f2 f3 f4 f5 f6 f7 hn K Qb Qf Z9 Qe Qc Qh Qn Q6 Q4 Zu Zx Zw Zz Zy Qd Z1 Z0 Qi Qk Qs Q8 Q5 Qy Jh Jg;unfold Xh Xf;simp_all;omega)|skip):p:=h
structure Kcp:Prop
theorem Kcp.k (_:Kcp) (h:p:=by
 repeat' first|exact Z8|with_reducible apply Zb|intro _
 all_goals first|with_reducible exact Jd|omega|(symm;rw [←hR2];clear hR2 Je hF f1 f2 f3 f4 f5 f6 f7 hn K Qb Qf Z9 Qe Qc Qh Qn Q6 Q4 Zu Zx Zw Zz Zy Qd Z1 Z0 Qi Qk Qs Q8 Q5 Qy Jh Jg;unfold Xh;simp_all;done)|(symm;rw [←hR2];clear hR2 Je hF f1 f2 f3 f4 f5 f6 f7 hn K Qb Qf Z9 Qe Qc Qh Qn Q6 Q4 Zu Zx Zw Zz Zy Qd Z1 Z0 Qi Qk Qs Q8 Q5 Qy Jh Jg;unfold Xh Xf;simp_all;done)|(symm;rw [←hR2];clear hR2 Je hF f1 f2 f3 f4 f5 f6 f7 hn K Qb Qf Z9 Qe Qc Qh Qn Q6 Q4 Zu Zx Zw Zz Zy Qd Z1 Z0 Qi Qk Qs Q8 Q5 Qy Jh Jg;unfold Xh Xf;simp_all;omega)|skip):p:=h
structure Kcq:Prop
theorem Kcq.k (_:Kcq) (h:p:=by
 repeat' first|exact Z8|with_reducible apply Zb|intro _
 all_goals first|with_reducible exact Jd|omega|(symm;rw [←hR2];clear hR2 Je hF f1 f2 f3 f4 f5 f6 f7 hn K Qb Qf Z9 Qe Qc Qh Qn Q6 Q4 Zu Zx Zw Zz Zy Qd Z1 Z0 Qi Qk Qs Q8 Q5 Qy Jh Jg;unfold Xh;simp_all;done)|(symm;rw [←hR2];clear hR2 Je hF f1 f2 f3 f4 f5 f6 f7 hn K Qb Qf Z9 Qe Qc Qh Qn Q6 Q4 Zu Zx Zw Zz Zy Qd Z1 Z0 Qi Qk Qs Q8 Q5 Qy Jh Jg;unfold Xh Xf;simp_all;done)|(symm;rw [←hR2];clear hR2 Je hF f1 f2 f3 f4 f5 f6 f7 hn K Qb Qf Z9 Qe Qc Qh Qn Q6 Q4 Zu Zx Zw Zz Zy Qd Z1 Z0 Qi Qk Qs Q8 Q5 Qy Jh Jg;unfold Xh Xf;simp_all;omega)|skip):p:=h
structure Kcr:Prop
theorem Kcr.k (_:Kcr) (h:p:=by
 repeat' first|exact Z8|with_reducible apply Zb|intro _
 all_goals first|with_reducible exact Jd|omega|(symm;rw [←hR2];clear hR2 Je hF f1 f2 f3 f4 f5 f6 f7 hn K Qb Qf Z9 Qe Qc Qh Qn Q6 Q4 Zu Zx Zw Zz Zy Qd Z1 Z0 Qi Qk Qs Q8 Q5 Qy Jh Jg;unfold Xh;simp_all;done)|(symm;rw [←hR2];clear hR2 Je hF f1 f2 f3 f4 f5 f6 f7 hn K Qb Qf Z9 Qe Qc Qh Qn Q6 Q4 Zu Zx Zw Zz Zy Qd Z1 Z0 Qi Qk Qs Q8 Q5 Qy Jh Jg;unfold Xh Xf;simp_all;done)|(symm;rw [←hR2];clear hR2 Je hF f1 f2 f3 f4 f5 f6 f7 hn K Qb Qf Z9 Qe Qc Qh Qn Q6 Q4 Zu Zx Zw Zz Zy Qd Z1 Z0 Qi Qk Qs Q8 Q5 Qy Jh Jg;unfold Xh Xf;simp_all;omega)|skip):p:=h
structure Kcs:Prop
theorem Kcs.k (_:Kcs) (h:p:=by
 repeat' first|exact Z8|with_reducible apply Zb|intro _
 all_goals first|with_reducible exact Jd|omega|(symm;rw [←hR2];clear hR2 Je hF f1 f2 f3 f4 f5 f6 f7 hn K Qb Qf Z9 Qe Qc Qh Qn Q6 Q4 Zu Zx Zw Zz Zy Qd Z1 Z0 Qi Qk Qs Q8 Q5 Qy Jh Jg;unfold Xh;simp_all;done)|(symm;rw [←hR2];clear hR2 Je hF f1 f2 f3 f4 f5 f6 f7 hn K Qb Qf Z9 Qe Qc Qh Qn Q6 Q4 Zu Zx Zw Zz Zy Qd Z1 Z0 Qi Qk Qs Q8 Q5 Qy Jh Jg;unfold Xh Xf;simp_all;done)|(symm;rw [←hR2];clear hR2 Je hF f1 f2 f3 f4 f5 f6 f7 hn K Qb Qf Z9 Qe Qc Qh Qn Q6 Q4 Zu Zx Zw Zz Zy Qd Z1 Z0 Qi Qk Qs Q8 Q5 Qy Jh Jg;unfold Xh Xf;simp_all;omega)|skip):p:=h
structure Kct:Prop
theorem Kct.k (_:Kct) (h:p:=by
 repeat' first|exact Z8|with_reducible apply Zb|intro _
 all_goals first|with_reducible exact Jd|omega|(symm;rw [←hR2];clear hR2 Je hF f1 f2 f3 f4 f5 f6 f7 hn K Qb Qf Z9 Qe Qc Qh Qn Q6 Q4 Zu Zx Zw Zz Zy Qd Z1 Z0 Qi Qk Qs Q8 Q5 Qy Jh Jg;unfold Xh;simp_all;done)|(symm;rw [←hR2];clear hR2 Je hF f1 f2 f3 f4 f5 f6 f7 hn K Qb Qf Z9 Qe Qc Qh Qn Q6 Q4 Zu Zx Zw Zz Zy Qd Z1 Z0 Qi Qk Qs Q8 Q5 Qy Jh Jg;unfold Xh Xf;simp_all;done)|(symm;rw [←hR2];clear hR2 Je hF f1 f2 f3 f4 f5 f6 f7 hn K Qb Qf Z9 Qe Qc Qh Qn Q6 Q4 Zu Zx Zw Zz Zy Qd Z1 Z0 Qi Qk Qs Q8 Q5 Qy Jh Jg;unfold Xh Xf;simp_all;omega)|skip):p:=h
structure Kcu:Prop
theorem Kcu.k (_:Kcu) (h:p:=by
 repeat' first|exact Z8|with_reducible apply Zb|intro _
 all_goals first|with_reducible exact Jd|omega|(symm;rw [←hR2];clear hR2 Je hF f1 f2 f3 f4 f5 f6 f7 hn K Qb Qf Z9 Qe Qc Qh Qn Q6 Q4 Zu Zx Zw Zz Zy Qd Z1 Z0 Qi Qk Qs Q8 Q5 Qy Jh Jg;unfold Xh;simp_all;done)|(symm;rw [←hR2];clear hR2 Je hF f1 f2 f3 f4 f5 f6 f7 hn K Qb Qf Z9 Qe Qc Qh Qn Q6 Q4 Zu Zx Zw Zz Zy Qd Z1 Z0 Qi Qk Qs Q8 Q5 Qy Jh Jg;unfold Xh Xf;simp_all;done)|(symm;rw [←hR2];clear hR2 Je hF f1 f2 f3 f4 f5 f6 f7 hn K Qb Qf Z9 Qe Qc Qh Qn Q6 Q4 Zu Zx Zw Zz Zy Qd Z1 Z0 Qi Qk Qs Q8 Q5 Qy Jh Jg;unfold Xh Xf;simp_all;omega)|skip):p:=h
structure Kcv:Prop
theorem Kcv.k (_:Kcv) (h:p:=by
 repeat' first|exact Z8|with_reducible apply Zb|intro _
 all_goals first|with_reducible exact Jd|omega|(symm;rw [←hR2];clear hR2 Je hF f1 f2 f3 f4 f5 f6 f7 hn K Qb Qf Z9 Qe Qc Qh Qn Q6 Q4 Zu Zx Zw Zz Zy Qd Z1 Z0 Qi Qk Qs Q8 Q5 Qy Jh Jg;unfold Xh;simp_all;done)|(symm;rw [←hR2];clear hR2 Je hF f1 f2 f3 f4 f5 f6 f7 hn K Qb Qf Z9 Qe Qc Qh Qn Q6 Q4 Zu Zx Zw Zz Zy Qd Z1 Z0 Qi Qk Qs Q8 Q5 Qy Jh Jg;unfold Xh Xf;simp_all;done)|(symm;rw [←hR2];clear hR2 Je hF f1 f2 f3 f4 f5 f6 f7 hn K Qb Qf Z9 Qe Qc Qh Qn Q6 Q4 Zu Zx Zw Zz Zy Qd Z1 Z0 Qi Qk Qs Q8 Q5 Qy Jh Jg;unfold Xh Xf;simp_all;omega)|skip):p:=h
structure Kcw:Prop
theorem Kcw.k (_:Kcw) (h:p:=by
 repeat' first|exact Z8|with_reducible apply Zb|intro _
 all_goals first|with_reducible exact Jd|omega|(symm;rw [←hR2];clear hR2 Je hF f1 f2 f3 f4 f5 f6 f7 hn K Qb Qf Z9 Qe Qc Qh Qn Q6 Q4 Zu Zx Zw Zz Zy Qd Z1 Z0 Qi Qk Qs Q8 Q5 Qy Jh Jg;unfold Xh;simp_all;done)|(symm;rw [←hR2];clear hR2 Je hF f1 f2 f3 f4 f5 f6 f7 hn K Qb Qf Z9 Qe Qc Qh Qn Q6 Q4 Zu Zx Zw Zz Zy Qd Z1 Z0 Qi Qk Qs Q8 Q5 Qy Jh Jg;unfold Xh Xf;simp_all;done)|(symm;rw [←hR2];clear hR2 Je hF f1 f2 f3 f4 f5 f6 f7 hn K Qb Qf Z9 Qe Qc Qh Qn Q6 Q4 Zu Zx Zw Zz Zy Qd Z1 Z0 Qi Qk Qs Q8 Q5 Qy Jh Jg;unfold Xh Xf;simp_all;omega)|skip):p:=h
theorem good_uses5:Qa Tryz.prog (150,bT):=by
 obtain ⟨Kx,Kt,Kc,Kd,Kb,Ku,Kw,K,X9,Uv,Po,Cx,Oj,kK,_⟩:=Xe Zv Zn [] false (Q0 good_IsTag1 pO (Q0 good_IsWord1 Eg (Q0 good_plain5 A9.eq_def (Q0 good_literal5 Ce.eq_def (Q0 good_name5 cZ.eq_def (Q0 good_op5 pH.eq_def Xd))))));have Ko:=bT.eq_def;refine Xj K Tryz.func150 [.tmp 2] rfl 275 rfl (fun c hc cvs hpre=>?_);unfold bT at hpre;obtain ⟨p,rfl,hF,hn⟩:=Q2 hpre;clear hpre;have hF2:=hF;obtain ⟨⟨f1,f2⟩,⟨f3,f4⟩,f5,f6,f7⟩:=hF2;obtain ⟨R,Je⟩:=exq (Eh p);have hR2:=Je;unfold Eh at hR2;obtain ⟨w,Qb⟩:=exq (Wg p.name);obtain ⟨tg,Qf⟩:=exq (N8 p.name);obtain ⟨b,Z9⟩:=exq (Wg p.bind);obtain ⟨t,Qe⟩:=exq (Oz p.t);obtain ⟨u,Qc⟩:=exq (Oz p.u);obtain ⟨li,Qh⟩:=exq (F9 p);obtain ⟨na,Qn⟩:=exq (Zm8 p.name);obtain ⟨op,Q6⟩:=exq (Qfl p.name);rw [Qb,Qf,Z9,Qe,Qc,Qh,Qn,Q6] at hR2;cases hc;refine Y4 17 ?_;by_cases hc:p.kind=0
 ·have Q4:(p.kind==0)=true:=Zk.2 hc;have Zu:(p.kind==1)=false:=Za.2 (by omega)
  have Zx:(p.kind==2)=false:=Za.2 (by omega)
  have Zw:(p.kind==3)=false:=Za.2 (by omega)
  have Zz:(p.kind==4)=false:=Za.2 (by omega)
  have Zy:(p.kind==5)=false:=Za.2 (by omega)
  have Qd:(p.kind==6)=false:=Za.2 (by omega)
  have Z1:(p.kind==7)=false:=Za.2 (by omega)
  have Z0:(p.kind==8)=false:=Za.2 (by omega)
  have Qi:(p.kind==9)=false:=Za.2 (by omega)
  have Qk:(p.kind==10)=false:=Za.2 (by omega)
  have Qs:(p.kind==11)=false:=Za.2 (by omega)
  have Q8:(p.kind==12)=false:=Za.2 (by omega)
  have Q5:(p.kind==13)=false:=Za.2 (by omega)
  have Qy:(p.kind==14)=false:=Za.2 (by omega)
  have Jh:(p.kind != 0)=false:=by rw [bne,Q4];rfl
  have Jg:(p.kind != 14)=true:=by rw [bne,Qy];rfl
  have Wb:=@Qg;have Wn:=@Qm;have Wx:=@Qo;have W0:=@Qp;have Wz:=@Sx;have Kq:Kch:=⟨⟩;exact U6
 have c0:=hc;clear hc;by_cases hc:p.kind=1
 ·have Q4:(p.kind==0)=false:=Za.2 (by omega)
  have Zu:(p.kind==1)=true:=Zk.2 hc;have Zx:(p.kind==2)=false:=Za.2 (by omega)
  have Zw:(p.kind==3)=false:=Za.2 (by omega)
  have Zz:(p.kind==4)=false:=Za.2 (by omega)
  have Zy:(p.kind==5)=false:=Za.2 (by omega)
  have Qd:(p.kind==6)=false:=Za.2 (by omega)
  have Z1:(p.kind==7)=false:=Za.2 (by omega)
  have Z0:(p.kind==8)=false:=Za.2 (by omega)
  have Qi:(p.kind==9)=false:=Za.2 (by omega)
  have Qk:(p.kind==10)=false:=Za.2 (by omega)
  have Qs:(p.kind==11)=false:=Za.2 (by omega)
  have Q8:(p.kind==12)=false:=Za.2 (by omega)
  have Q5:(p.kind==13)=false:=Za.2 (by omega)
  have Qy:(p.kind==14)=false:=Za.2 (by omega)
  have Jh:(p.kind != 0)=true:=by rw [bne,Q4];rfl
  have Jg:(p.kind != 14)=true:=by rw [bne,Qy];rfl
  have Wb:=@Qg;have Wn:=@Qm;have Wx:=@Qo;have W0:=@Qp;have Wz:=@Sx;have Kq:Kci:=⟨⟩;exact U6
 have c1:=hc;clear hc;by_cases hc:p.kind=2
 ·have Q4:(p.kind==0)=false:=Za.2 (by omega)
  have Zu:(p.kind==1)=false:=Za.2 (by omega)
  have Zx:(p.kind==2)=true:=Zk.2 hc;have Zw:(p.kind==3)=false:=Za.2 (by omega)
  have Zz:(p.kind==4)=false:=Za.2 (by omega)
  have Zy:(p.kind==5)=false:=Za.2 (by omega)
  have Qd:(p.kind==6)=false:=Za.2 (by omega)
  have Z1:(p.kind==7)=false:=Za.2 (by omega)
  have Z0:(p.kind==8)=false:=Za.2 (by omega)
  have Qi:(p.kind==9)=false:=Za.2 (by omega)
  have Qk:(p.kind==10)=false:=Za.2 (by omega)
  have Qs:(p.kind==11)=false:=Za.2 (by omega)
  have Q8:(p.kind==12)=false:=Za.2 (by omega)
  have Q5:(p.kind==13)=false:=Za.2 (by omega)
  have Qy:(p.kind==14)=false:=Za.2 (by omega)
  have Jh:(p.kind != 0)=true:=by rw [bne,Q4];rfl
  have Jg:(p.kind != 14)=true:=by rw [bne,Qy];rfl
  have Wb:=@Qg;have Wn:=@Qm;have Wx:=@Qo;have W0:=@Qp;have Wz:=@Sx;have Kq:Kcj:=⟨⟩;exact U6
 have c2:=hc;clear hc;by_cases hc:p.kind=3
 ·have Q4:(p.kind==0)=false:=Za.2 (by omega)
  have Zu:(p.kind==1)=false:=Za.2 (by omega)
  have Zx:(p.kind==2)=false:=Za.2 (by omega)
  have Zw:(p.kind==3)=true:=Zk.2 hc;have Zz:(p.kind==4)=false:=Za.2 (by omega)
  have Zy:(p.kind==5)=false:=Za.2 (by omega)
  have Qd:(p.kind==6)=false:=Za.2 (by omega)
  have Z1:(p.kind==7)=false:=Za.2 (by omega)
  have Z0:(p.kind==8)=false:=Za.2 (by omega)
  have Qi:(p.kind==9)=false:=Za.2 (by omega)
  have Qk:(p.kind==10)=false:=Za.2 (by omega)
  have Qs:(p.kind==11)=false:=Za.2 (by omega)
  have Q8:(p.kind==12)=false:=Za.2 (by omega)
  have Q5:(p.kind==13)=false:=Za.2 (by omega)
  have Qy:(p.kind==14)=false:=Za.2 (by omega)
  have Jh:(p.kind != 0)=true:=by rw [bne,Q4];rfl
  have Jg:(p.kind != 14)=true:=by rw [bne,Qy];rfl
  have Wb:=@Qg;have Wn:=@Qm;have Wx:=@Qo;have W0:=@Qp;have Wz:=@Sx;have Kq:Kck:=⟨⟩;exact U6
 have c3:=hc;clear hc;by_cases hc:p.kind=4
 ·have Q4:(p.kind==0)=false:=Za.2 (by omega)
  have Zu:(p.kind==1)=false:=Za.2 (by omega)
  have Zx:(p.kind==2)=false:=Za.2 (by omega)
  have Zw:(p.kind==3)=false:=Za.2 (by omega)
  have Zz:(p.kind==4)=true:=Zk.2 hc;have Zy:(p.kind==5)=false:=Za.2 (by omega)
  have Qd:(p.kind==6)=false:=Za.2 (by omega)
  have Z1:(p.kind==7)=false:=Za.2 (by omega)
  have Z0:(p.kind==8)=false:=Za.2 (by omega)
  have Qi:(p.kind==9)=false:=Za.2 (by omega)
  have Qk:(p.kind==10)=false:=Za.2 (by omega)
  have Qs:(p.kind==11)=false:=Za.2 (by omega)
  have Q8:(p.kind==12)=false:=Za.2 (by omega)
  have Q5:(p.kind==13)=false:=Za.2 (by omega)
  have Qy:(p.kind==14)=false:=Za.2 (by omega)
  have Jh:(p.kind != 0)=true:=by rw [bne,Q4];rfl
  have Jg:(p.kind != 14)=true:=by rw [bne,Qy];rfl
  have Wb:=@Qg;have Wn:=@Qm;have Wx:=@Qo;have W0:=@Qp;have Wz:=@Sx;have Kq:Kcl:=⟨⟩;exact U6
 have c4:=hc;clear hc;by_cases hc:p.kind=5
 ·have Q4:(p.kind==0)=false:=Za.2 (by omega)
  have Zu:(p.kind==1)=false:=Za.2 (by omega)
  have Zx:(p.kind==2)=false:=Za.2 (by omega)
  have Zw:(p.kind==3)=false:=Za.2 (by omega)
  have Zz:(p.kind==4)=false:=Za.2 (by omega)
  have Zy:(p.kind==5)=true:=Zk.2 hc;have Qd:(p.kind==6)=false:=Za.2 (by omega)
  have Z1:(p.kind==7)=false:=Za.2 (by omega)
  have Z0:(p.kind==8)=false:=Za.2 (by omega)
  have Qi:(p.kind==9)=false:=Za.2 (by omega)
  have Qk:(p.kind==10)=false:=Za.2 (by omega)
  have Qs:(p.kind==11)=false:=Za.2 (by omega)
  have Q8:(p.kind==12)=false:=Za.2 (by omega)
  have Q5:(p.kind==13)=false:=Za.2 (by omega)
  have Qy:(p.kind==14)=false:=Za.2 (by omega)
  have Jh:(p.kind != 0)=true:=by rw [bne,Q4];rfl
  have Jg:(p.kind != 14)=true:=by rw [bne,Qy];rfl
  have Wb:=@Qg;have Wn:=@Qm;have Wx:=@Qo;have W0:=@Qp;have Wz:=@Sx;have Kq:Kcm:=⟨⟩;exact U6
 have c5:=hc;clear hc;by_cases hc:p.kind=6
 ·have Q4:(p.kind==0)=false:=Za.2 (by omega)
  have Zu:(p.kind==1)=false:=Za.2 (by omega)
  have Zx:(p.kind==2)=false:=Za.2 (by omega)
  have Zw:(p.kind==3)=false:=Za.2 (by omega)
  have Zz:(p.kind==4)=false:=Za.2 (by omega)
  have Zy:(p.kind==5)=false:=Za.2 (by omega)
  have Qd:(p.kind==6)=true:=Zk.2 hc;have Z1:(p.kind==7)=false:=Za.2 (by omega)
  have Z0:(p.kind==8)=false:=Za.2 (by omega)
  have Qi:(p.kind==9)=false:=Za.2 (by omega)
  have Qk:(p.kind==10)=false:=Za.2 (by omega)
  have Qs:(p.kind==11)=false:=Za.2 (by omega)
  have Q8:(p.kind==12)=false:=Za.2 (by omega)
  have Q5:(p.kind==13)=false:=Za.2 (by omega)
  have Qy:(p.kind==14)=false:=Za.2 (by omega)
  have Jh:(p.kind != 0)=true:=by rw [bne,Q4];rfl
  have Jg:(p.kind != 14)=true:=by rw [bne,Qy];rfl
  have Wb:=@Qg;have Wn:=@Qm;have Wx:=@Qo;have W0:=@Qp;have Wz:=@Sx;have Kq:Kcn:=⟨⟩;exact U6
 have c6:=hc;clear hc;by_cases hc:p.kind=7
 ·have Q4:(p.kind==0)=false:=Za.2 (by omega)
  have Zu:(p.kind==1)=false:=Za.2 (by omega)
  have Zx:(p.kind==2)=false:=Za.2 (by omega)
  have Zw:(p.kind==3)=false:=Za.2 (by omega)
  have Zz:(p.kind==4)=false:=Za.2 (by omega)
  have Zy:(p.kind==5)=false:=Za.2 (by omega)
  have Qd:(p.kind==6)=false:=Za.2 (by omega)
  have Z1:(p.kind==7)=true:=Zk.2 hc;have Z0:(p.kind==8)=false:=Za.2 (by omega)
  have Qi:(p.kind==9)=false:=Za.2 (by omega)
  have Qk:(p.kind==10)=false:=Za.2 (by omega)
  have Qs:(p.kind==11)=false:=Za.2 (by omega)
  have Q8:(p.kind==12)=false:=Za.2 (by omega)
  have Q5:(p.kind==13)=false:=Za.2 (by omega)
  have Qy:(p.kind==14)=false:=Za.2 (by omega)
  have Jh:(p.kind != 0)=true:=by rw [bne,Q4];rfl
  have Jg:(p.kind != 14)=true:=by rw [bne,Qy];rfl
  have Wb:=@Qg;have Wn:=@Qm;have Wx:=@Qo;have W0:=@Qp;have Wz:=@Sx;have Kq:Kco:=⟨⟩;exact U6
 have c7:=hc;clear hc;by_cases hc:p.kind=8
 ·have Q4:(p.kind==0)=false:=Za.2 (by omega)
  have Zu:(p.kind==1)=false:=Za.2 (by omega)
  have Zx:(p.kind==2)=false:=Za.2 (by omega)
  have Zw:(p.kind==3)=false:=Za.2 (by omega)
  have Zz:(p.kind==4)=false:=Za.2 (by omega)
  have Zy:(p.kind==5)=false:=Za.2 (by omega)
  have Qd:(p.kind==6)=false:=Za.2 (by omega)
  have Z1:(p.kind==7)=false:=Za.2 (by omega)
  have Z0:(p.kind==8)=true:=Zk.2 hc;have Qi:(p.kind==9)=false:=Za.2 (by omega)
  have Qk:(p.kind==10)=false:=Za.2 (by omega)
  have Qs:(p.kind==11)=false:=Za.2 (by omega)
  have Q8:(p.kind==12)=false:=Za.2 (by omega)
  have Q5:(p.kind==13)=false:=Za.2 (by omega)
  have Qy:(p.kind==14)=false:=Za.2 (by omega)
  have Jh:(p.kind != 0)=true:=by rw [bne,Q4];rfl
  have Jg:(p.kind != 14)=true:=by rw [bne,Qy];rfl
  have Wb:=@Qg;have Wn:=@Qm;have Wx:=@Qo;have W0:=@Qp;have Wz:=@Sx;have Kq:Kcp:=⟨⟩;exact U6
 have c8:=hc;clear hc;by_cases hc:p.kind=9
 ·have Q4:(p.kind==0)=false:=Za.2 (by omega)
  have Zu:(p.kind==1)=false:=Za.2 (by omega)
  have Zx:(p.kind==2)=false:=Za.2 (by omega)
  have Zw:(p.kind==3)=false:=Za.2 (by omega)
  have Zz:(p.kind==4)=false:=Za.2 (by omega)
  have Zy:(p.kind==5)=false:=Za.2 (by omega)
  have Qd:(p.kind==6)=false:=Za.2 (by omega)
  have Z1:(p.kind==7)=false:=Za.2 (by omega)
  have Z0:(p.kind==8)=false:=Za.2 (by omega)
  have Qi:(p.kind==9)=true:=Zk.2 hc;have Qk:(p.kind==10)=false:=Za.2 (by omega)
  have Qs:(p.kind==11)=false:=Za.2 (by omega)
  have Q8:(p.kind==12)=false:=Za.2 (by omega)
  have Q5:(p.kind==13)=false:=Za.2 (by omega)
  have Qy:(p.kind==14)=false:=Za.2 (by omega)
  have Jh:(p.kind != 0)=true:=by rw [bne,Q4];rfl
  have Jg:(p.kind != 14)=true:=by rw [bne,Qy];rfl
  have Wb:=@Qg;have Wn:=@Qm;have Wx:=@Qo;have W0:=@Qp;have Wz:=@Sx;have Kq:Kcq:=⟨⟩;exact U6
 have c9:=hc;clear hc;by_cases hc:p.kind=10
 ·have Q4:(p.kind==0)=false:=Za.2 (by omega)
  have Zu:(p.kind==1)=false:=Za.2 (by omega)
  have Zx:(p.kind==2)=false:=Za.2 (by omega)
  have Zw:(p.kind==3)=false:=Za.2 (by omega)
  have Zz:(p.kind==4)=false:=Za.2 (by omega)
  have Zy:(p.kind==5)=false:=Za.2 (by omega)
  have Qd:(p.kind==6)=false:=Za.2 (by omega)
  have Z1:(p.kind==7)=false:=Za.2 (by omega)
  have Z0:(p.kind==8)=false:=Za.2 (by omega)
  have Qi:(p.kind==9)=false:=Za.2 (by omega)
  have Qk:(p.kind==10)=true:=Zk.2 hc;have Qs:(p.kind==11)=false:=Za.2 (by omega)
  have Q8:(p.kind==12)=false:=Za.2 (by omega)
  have Q5:(p.kind==13)=false:=Za.2 (by omega)
  have Qy:(p.kind==14)=false:=Za.2 (by omega)
  have Jh:(p.kind != 0)=true:=by rw [bne,Q4];rfl
  have Jg:(p.kind != 14)=true:=by rw [bne,Qy];rfl
  have Wb:=@Qg;have Wn:=@Qm;have Wx:=@Qo;have W0:=@Qp;have Wz:=@Sx;have Kq:Kcr:=⟨⟩;exact U6
 have c10:=hc;clear hc;by_cases hc:p.kind=11
 ·have Q4:(p.kind==0)=false:=Za.2 (by omega)
  have Zu:(p.kind==1)=false:=Za.2 (by omega)
  have Zx:(p.kind==2)=false:=Za.2 (by omega)
  have Zw:(p.kind==3)=false:=Za.2 (by omega)
  have Zz:(p.kind==4)=false:=Za.2 (by omega)
  have Zy:(p.kind==5)=false:=Za.2 (by omega)
  have Qd:(p.kind==6)=false:=Za.2 (by omega)
  have Z1:(p.kind==7)=false:=Za.2 (by omega)
  have Z0:(p.kind==8)=false:=Za.2 (by omega)
  have Qi:(p.kind==9)=false:=Za.2 (by omega)
  have Qk:(p.kind==10)=false:=Za.2 (by omega)
  have Qs:(p.kind==11)=true:=Zk.2 hc;have Q8:(p.kind==12)=false:=Za.2 (by omega)
  have Q5:(p.kind==13)=false:=Za.2 (by omega)
  have Qy:(p.kind==14)=false:=Za.2 (by omega)
  have Jh:(p.kind != 0)=true:=by rw [bne,Q4];rfl
  have Jg:(p.kind != 14)=true:=by rw [bne,Qy];rfl
  have Wb:=@Qg;have Wn:=@Qm;have Wx:=@Qo;have W0:=@Qp;have Wz:=@Sx;have Kq:Kcs:=⟨⟩;exact U6
 have c11:=hc;clear hc;by_cases hc:p.kind=12
 ·have Q4:(p.kind==0)=false:=Za.2 (by omega)
  have Zu:(p.kind==1)=false:=Za.2 (by omega)
  have Zx:(p.kind==2)=false:=Za.2 (by omega)
  have Zw:(p.kind==3)=false:=Za.2 (by omega)
  have Zz:(p.kind==4)=false:=Za.2 (by omega)
  have Zy:(p.kind==5)=false:=Za.2 (by omega)
  have Qd:(p.kind==6)=false:=Za.2 (by omega)
  have Z1:(p.kind==7)=false:=Za.2 (by omega)
  have Z0:(p.kind==8)=false:=Za.2 (by omega)
  have Qi:(p.kind==9)=false:=Za.2 (by omega)
  have Qk:(p.kind==10)=false:=Za.2 (by omega)
  have Qs:(p.kind==11)=false:=Za.2 (by omega)
  have Q8:(p.kind==12)=true:=Zk.2 hc;have Q5:(p.kind==13)=false:=Za.2 (by omega)
  have Qy:(p.kind==14)=false:=Za.2 (by omega)
  have Jh:(p.kind != 0)=true:=by rw [bne,Q4];rfl
  have Jg:(p.kind != 14)=true:=by rw [bne,Qy];rfl
  have Wb:=@Qg;have Wn:=@Qm;have Wx:=@Qo;have W0:=@Qp;have Wz:=@Sx;have Kq:Kct:=⟨⟩;exact U6
 have c12:=hc;clear hc;by_cases hc:p.kind=13
 ·have Q4:(p.kind==0)=false:=Za.2 (by omega)
  have Zu:(p.kind==1)=false:=Za.2 (by omega)
  have Zx:(p.kind==2)=false:=Za.2 (by omega)
  have Zw:(p.kind==3)=false:=Za.2 (by omega)
  have Zz:(p.kind==4)=false:=Za.2 (by omega)
  have Zy:(p.kind==5)=false:=Za.2 (by omega)
  have Qd:(p.kind==6)=false:=Za.2 (by omega)
  have Z1:(p.kind==7)=false:=Za.2 (by omega)
  have Z0:(p.kind==8)=false:=Za.2 (by omega)
  have Qi:(p.kind==9)=false:=Za.2 (by omega)
  have Qk:(p.kind==10)=false:=Za.2 (by omega)
  have Qs:(p.kind==11)=false:=Za.2 (by omega)
  have Q8:(p.kind==12)=false:=Za.2 (by omega)
  have Q5:(p.kind==13)=true:=Zk.2 hc;have Qy:(p.kind==14)=false:=Za.2 (by omega)
  have Jh:(p.kind != 0)=true:=by rw [bne,Q4];rfl
  have Jg:(p.kind != 14)=true:=by rw [bne,Qy];rfl
  have Wb:=@Qg;have Wn:=@Qm;have Wx:=@Qo;have W0:=@Qp;have Wz:=@Sx;have Kq:Kcu:=⟨⟩;exact U6
 have c13:=hc;clear hc;by_cases hc:p.kind=14
 ·have Q4:(p.kind==0)=false:=Za.2 (by omega)
  have Zu:(p.kind==1)=false:=Za.2 (by omega)
  have Zx:(p.kind==2)=false:=Za.2 (by omega)
  have Zw:(p.kind==3)=false:=Za.2 (by omega)
  have Zz:(p.kind==4)=false:=Za.2 (by omega)
  have Zy:(p.kind==5)=false:=Za.2 (by omega)
  have Qd:(p.kind==6)=false:=Za.2 (by omega)
  have Z1:(p.kind==7)=false:=Za.2 (by omega)
  have Z0:(p.kind==8)=false:=Za.2 (by omega)
  have Qi:(p.kind==9)=false:=Za.2 (by omega)
  have Qk:(p.kind==10)=false:=Za.2 (by omega)
  have Qs:(p.kind==11)=false:=Za.2 (by omega)
  have Q8:(p.kind==12)=false:=Za.2 (by omega)
  have Q5:(p.kind==13)=false:=Za.2 (by omega)
  have Qy:(p.kind==14)=true:=Zk.2 hc;have Jh:(p.kind != 0)=true:=by rw [bne,Q4];rfl
  have Jg:(p.kind != 14)=false:=by rw [bne,Qy];rfl
  have Wb:=@Qg;have Wn:=@Qm;have Wx:=@Qo;have W0:=@Qp;have Wz:=@Sx;have Kq:Kcv:=⟨⟩;exact U6
 have c14:=hc;clear hc;have Q4:(p.kind==0)=false:=Za.2 (by omega)
 have Zu:(p.kind==1)=false:=Za.2 (by omega)
 have Zx:(p.kind==2)=false:=Za.2 (by omega)
 have Zw:(p.kind==3)=false:=Za.2 (by omega)
 have Zz:(p.kind==4)=false:=Za.2 (by omega)
 have Zy:(p.kind==5)=false:=Za.2 (by omega)
 have Qd:(p.kind==6)=false:=Za.2 (by omega)
 have Z1:(p.kind==7)=false:=Za.2 (by omega)
 have Z0:(p.kind==8)=false:=Za.2 (by omega)
 have Qi:(p.kind==9)=false:=Za.2 (by omega)
 have Qk:(p.kind==10)=false:=Za.2 (by omega)
 have Qs:(p.kind==11)=false:=Za.2 (by omega)
 have Q8:(p.kind==12)=false:=Za.2 (by omega)
 have Q5:(p.kind==13)=false:=Za.2 (by omega)
 have Qy:(p.kind==14)=false:=Za.2 (by omega)
 have Jh:(p.kind != 0)=true:=by rw [bne,Q4];rfl
 have Jg:(p.kind != 14)=true:=by rw [bne,Qy];rfl
 have Wb:=@Qg;have Wn:=@Qm;have Wx:=@Qo;have W0:=@Qp;have Wz:=@Sx;have Kq:Kcw:=⟨⟩;exact U6
end Go.Am.Ty
