/- Contracts of functions that the law reaches, and plain laws. Conditions: those that each contract states. -/
import Derived.Test.YtilpfkjhahnfaaaGreatP2
import Derived.Deep.LoopGhost
import Derived.Laws.BytesArg
import Derived.Orders
set_option maxHeartbeats 400000
set_option linter.unusedVariables false
set_option linter.unusedSimpArgs false
variable {p:Prop}
namespace Go.Am
open Go.RowKit (Below)
theorem rG:∀ (l:List Obj) (n i:Nat),lk (Bl n l) i=if n≤i then l[i-n]? else none
 | [],n,i=>by simp [Bl,lk]
 | o::l,n,i=>by
  simp only [Bl,lk,rG l];by_cases h:i=n
  ·subst h;simp
  ·rw [if_neg h];by_cases h1:n≤i
   ·rw [if_pos (by omega),if_pos h1,show i-n=(i-(n+1))+1 by omega,List.getElem?_cons_succ]
   ·rw [if_neg (by omega),if_neg h1]
theorem Vg {l:List Obj} {i:Nat} {o:Obj} (h:lk (Jq l) i=some o):∃ j,i=90000+j∧l[j]?=some o:=by
 unfold Jq at h;rw [rG] at h;by_cases h1:90000≤i
 ·rw [if_pos h1] at h;exact ⟨i-90000,by omega,h⟩
 ·rw [if_neg h1] at h;cases h
theorem Hd {l:List Obj} {j:Nat} {o:Obj} (h:l[j]?=some o):lk (Jq l) (90000+j)=some o:=by
 unfold Jq;rw [rG,if_pos (by omega),show 90000+j-90000=j by omega]
 exact h
theorem Fs {rs:List Nat} {j k:Nat} (h:rs[j]?=some k):rk rs (90000+j)=k:=by
 unfold rk;rw [show 90000+j-90000=j by omega,Zd,h]
 rfl
theorem V4 {rs0:List Nat}:∀ {ks:List Nat} {l:List Obj} {o:Qh},Jd rs0 ks l o→∀ {j:Nat} {x:Obj},l[j]?=some x→∃ k,ks[j]?=some k∧lk o k=some (Cw rs0 x)
 | _,[],_,_,j,x,hx=>by simp at hx
 | [],_::_,_,h,_,_,_=>h.elim
 | k::ks,y::l,o,h,j,x,hx=>by
  cases j with
  | zero=>simp at hx;subst hx;exact ⟨k,rfl,h.1⟩
  | succ j=>simp only [List.getElem?_cons_succ] at hx ⊢;exact V4 h.2 hx
theorem Zd0:∀ {ks:List Nat} {o:Qh},Wi ks o→∀ {k:Nat},k∈ks→lk o k=none
 | [],_,_,_,hk=>by simp at hk
 | k::ks,o,h,k',hk=>by
  rcases Zs.1 hk with rfl|hk
  ·exact h.1
  ·exact Zd0 h.2 hk
theorem Vq {rs0:List Nat}:∀ {ks:List Nat} {l:List Obj} {o:Qh} {k:Nat},k∉ks→lk (Yu rs0 ks l o) k=lk o k
 | [],l,o,k,_=>by simp [Yu]
 | q::ks,[],o,k,_=>by simp [Yu]
 | q::ks,x::l,o,k,h=>by
  simp only [Zs,not_or] at h;simp only [Yu];rw [Vq h.2,Xw,if_neg h.1]
theorem O8 {rs0:List Nat}:∀ {ks:List Nat} {l:List Obj} {o:Qh} {j k:Nat} {x:Obj},ks.Nodup→ks[j]?=some k→l[j]?=some x→lk (Yu rs0 ks l o) k=some (Cw rs0 x)
 | [],_,_,_,_,_,_,h,_=>by simp at h
 | _::_,[],_,_,_,_,_,_,h=>by simp at h
 | q::ks,y::l,o,j,k,x,hn,hk,hx=>by
  obtain ⟨h1,h2⟩:=List.nodup_cons.1 hn;simp only [Yu];cases j with
  | zero =>
   simp at hk hx;subst hk;subst hx;rw [Vq h1,Xw,if_pos rfl]
  | succ j =>
   simp only [List.getElem?_cons_succ] at hk hx;exact O8 h2 hk hx
theorem Eh (rs:List Nat) (o:Obj):(Cw rs o).isBox=o.isBox:=by cases o<;>rfl
theorem Nj (rs:List Nat) (o:Obj):(Cw rs o).owns=o.owns:=by cases o<;>rfl
theorem Zfu {rs:List Nat} {o:Obj} {s k:Nat} {els:List D}:Cw rs o=.row s els k↔o=.row s els k:=by cases o<;>simp [Cw]
structure Alike (rs:List Nat) (l:List Obj) (G Gc:Gh) (Lc:Nat→Option Obj):Prop where
 obj:∀ i o,lk (Jq l) i=some o→Lc (rk rs i)=some (Cw rs o)
 gam:∀ i o,lk (Jq l) i=some o→G.γ i=Gc.γ (rk rs i)∧G.hd i=Gc.hd (rk rs i)
mutual
theorem rn_RA {rs:List Nat} {l:List Obj} {F:Fix} {G Gc:Gh} {Lc:Nat→Option Obj} (h:Alike rs l G Gc Lc):∀ {x:AV} {v:Value},x.kept (Jq l)→(RA F G (lk (Jq l)) x v↔RA F Gc Lc (rnA rs x) v)
 | .d x,v,_=>by simp [RA,rnA]
 | .ref i f,v,hk=>by
  simp only [AV.kept] at hk;simp only [RA,rnA];cases hi:lk (Jq l) i with
  | none=>rw [hi] at hk;cases hk
  | some o =>
   rw [h.obj i o hi,(h.gam i o hi).1];simp only [Eh]
 | .rref i n e f,v,hk=>by
  simp only [AV.kept] at hk;simp only [RA,rnA];cases hi:lk (Jq l) i with
  | none=>rw [hi] at hk;cases hk
  | some o =>
   rw [h.obj i o hi,(h.gam i o hi).1];cases o<;>simp [Cw]
 | .sl i n,v,hk=>by
  simp only [AV.kept] at hk;simp only [RA,rnA];cases hi:lk (Jq l) i with
  | none=>rw [hi] at hk;cases hk
  | some o =>
   rw [h.obj i o hi,(h.gam i o hi).2];cases o<;>simp [Cw]
 | .mpr i,v,hk=>by
  simp only [AV.kept] at hk;simp only [RA,rnA];cases hi:lk (Jq l) i with
  | none=>rw [hi] at hk;cases hk
  | some o =>
   rw [h.obj i o hi,(h.gam i o hi).1];simp only [Eh]
 | .sb i n f,v,hk=>by
  simp only [AV.kept] at hk;simp only [RA,rnA];cases hi:lk (Jq l) i with
  | none=>rw [hi] at hk;cases hk
  | some o =>
   rw [h.obj i o hi,(h.gam i o hi).2,(h.gam i o hi).1];cases o<;>simp [Cw]
 | .agg xs,v,hk=>by
  simp only [AV.kept] at hk;simp only [RA,rnA];constructor
  ·rintro ⟨cs,h1,h2,h3⟩;exact ⟨cs,h1,(rn_RAs h hk).1 h2,h3⟩
  ·rintro ⟨cs,h1,h2,h3⟩;exact ⟨cs,h1,(rn_RAs h hk).2 h2,h3⟩
 | .tup xs,v,hk=>by
  simp only [AV.kept] at hk;simp only [RA,rnA];constructor
  ·rintro ⟨cs,h1,h2⟩;exact ⟨cs,h1,(rn_RAs h hk).1 h2⟩
  ·rintro ⟨cs,h1,h2⟩;exact ⟨cs,h1,(rn_RAs h hk).2 h2⟩
 | .clo f xs,v,hk=>by
  simp only [AV.kept] at hk;simp only [RA,rnA];constructor
  ·rintro ⟨cs,h1,h2⟩;exact ⟨cs,h1,(rn_RAs h hk).1 h2⟩
  ·rintro ⟨cs,h1,h2⟩;exact ⟨cs,h1,(rn_RAs h hk).2 h2⟩
 | .nils s,v,_=>by simp [RA,rnA]
 | .dead,v,_=>by simp [RA,rnA]
theorem rn_RAs {rs:List Nat} {l:List Obj} {F:Fix} {G Gc:Gh} {Lc:Nat→Option Obj} (h:Alike rs l G Gc Lc):∀ {xs:List AV} {vs:List Value},keptAll (Jq l) xs→(RAs F G (lk (Jq l)) xs vs↔RAs F Gc Lc (rnAs rs xs) vs)
 | [],vs,_=>by simp [RAs,rnAs]
 | x::xs,vs,hk=>by
  simp only [keptAll] at hk;simp only [RAs,rnAs];constructor
  ·rintro ⟨v,r,h1,h2,h3⟩;exact ⟨v,r,h1,(rn_RA h hk.1).1 h2,(rn_RAs h hk.2).1 h3⟩
  ·rintro ⟨v,r,h1,h2,h3⟩;exact ⟨v,r,h1,(rn_RA h hk.1).2 h2,(rn_RAs h hk.2).2 h3⟩
end
theorem aD {q:Qh}:∀ {l:List Obj},Lj q l→∀ {j:Nat} {o:Obj},l[j]?=some o→o.tied q
 | [],_,_,_,h=>by simp at h
 | x::l,ht,j,o,h=>by
  cases j with
  | zero=>simp at h;subst h;exact ht.1
  | succ j=>simp only [List.getElem?_cons_succ] at h;exact aD ht.2 h
theorem nH:∀ {l:List Obj},J4 l→∀ {j s k:Nat} {els:List D},l[j]?=some (.row s els k)→k=0
 | [],_,_,_,_,_,h=>by simp at h
 | x::l,ht,j,s,k,els,h=>by
  have Zm8:J4 l:=by cases x<;>first|exact ht.2|exact ht
  cases j with
  | zero=>simp at h;subst h;exact ht.1
  | succ j=>simp only [List.getElem?_cons_succ] at h;exact nH Zm8 h
theorem jS:∀ {l:List Obj},J4 l→∀ {j:Nat} {ks vs:List D} {f:Bool},l[j]?=some (.mp ks vs f)→f=false
 | [],_,_,_,_,_,h=>by simp at h
 | x::l,ht,j,ks,vs,f,h=>by
  have Zm8:J4 l:=by cases x<;>first|exact ht.2|exact ht
  cases j with
  | zero=>simp at h;subst h;exact ht.1
  | succ j=>simp only [List.getElem?_cons_succ] at h;exact jS Zm8 h
theorem xJ {rs:List Nat} {l:List Obj} {F:Fix} {G Gc:Gh} {Lc:Nat→Option Obj} (h:Alike rs l G Gc Lc) {i:Nat} {o:Obj} (hi:lk (Jq l) i=some o) (ht:o.tied (Jq l)) :
  Ja F G (lk (Jq l)) i o↔Ja F Gc Lc (rk rs i) (Cw rs o):=by
 obtain ⟨g1,g2⟩:=h.gam i o hi;cases o with
 | box ag cells =>
  simp only [Obj.tied] at ht;simp only [Ja,Cw,g1];constructor
  ·rintro ⟨b,cs,t,h1,h2,h3,h4⟩;exact ⟨b,cs,t,h1,h2,(rn_RAs h ht).1 h3,h4⟩
  ·rintro ⟨b,cs,t,h1,h2,h3,h4⟩;exact ⟨b,cs,t,h1,h2,(rn_RAs h ht).2 h3,h4⟩
 | fbox s x=>simp only [Ja,Cw,g1]
 | row s els k=>simp only [Ja,Cw,g1,g2]
 | mp ks vs f=>simp only [Ja,Cw,g1]
 | gone=>simp only [Ja,Cw]
 | slot e f=>simp only [Ja,Cw]
 | hole j n e f x=>exact ht.elim
section
variable {P:Program} {C:Ctx} {G:Gh}
variable {base:Nat} {pass:Nat→Prop} {F0:Anc} {m:Nat→Nat} {st:AS} {a:Act} {w:World}
theorem Qrj {F:Fix} {rs:List Nat} {l:List Obj} {G1 G2:Gh} {L:Nat→Option Obj} (al:Alike rs l G1 G2 L) {j:Nat} {v:Value} (h:RA F G1 (lk (Jq l)) (.mpr (90000+j)) v):RA F G2 L (.mpr (rk rs (90000+j))) v:=by
 simp only [RA] at h ⊢;obtain ⟨h1,h2⟩:=h;refine ⟨h1,?_⟩;cases hl:lk (Jq l) (90000+j) with
 | none=>rw [hl] at h2;exact h2.elim
 | some o =>
  rw [hl] at h2;rw [al.obj _ _ hl];intro hb;rw [Eh] at hb;obtain ⟨b,e1,e2⟩:=h2 hb;exact ⟨b,by rw [←(al.gam _ _ hl).1];exact e1,e2⟩
theorem fE (K:Co P C) (h:SRg base pass F0 m G st a w) {f:FuncId} {bc:BCon} (hf:C.Δ f=some bc) {x:bc.X} {rs:List Nat} {vs:List Value} (Vt:bc.ok x)
  (hx:RAs ⟨w,m⟩ G (lk st.objs) (rnAs rs (bc.args x)) vs) (qF:rs.Nodup) (Q5:rs.length=(bc.post x).length) (Jg:Jd rs rs (bc.objs x) st.objs) (Zaz:Wi (rs.drop (bc.objs x).length) st.objs) :
  Oa P f∧Calls P f vs.toArray w fun e w'=>∃ v m' G',e=.returned v∧SRg base pass F0 m' G' ⟨st.tmps,Yu rs rs (bc.post x) st.objs⟩ a w'∧RA ⟨w',m'⟩ G' (lk (Yu rs rs (bc.post x) st.objs)) (bc.rvr rs x) v:=by
 obtain ⟨mL,Qn8⟩:=K.2.2.2 f bc hf;refine ⟨mL,?_⟩;obtain ⟨Qyz,Qzc,Qv0,Er,Qts⟩:=Qn8 x Vt;have Qla:∀ {j j' k:Nat},rs[j]?=some k→rs[j']?=some k→j=j':=by
  intro j j' k h1 h2;obtain ⟨hj,e1⟩:=List.getElem?_eq_some_iff.1 h1;obtain ⟨hj',e2⟩:=List.getElem?_eq_some_iff.1 h2;have hp:=List.pairwise_iff_getElem.1 qF;rcases Nat.lt_trichotomy j j' with Zv|Zh7|Quz
  ·exact absurd (e1.trans e2.symm) (hp j j' hj hj' Zv)
  ·exact Zh7
  ·exact absurd (e2.trans e1.symm) (hp j' j hj' hj Quz)
 let G1:Gh:=⟨fun i=>G.γ (rk rs i),fun i=>G.hd (rk rs i)⟩
 have al1:Alike rs (bc.objs x) G1 G (lk st.objs):=⟨fun i o hi=>by
  obtain ⟨j,rfl,hj⟩:=Vg hi;obtain ⟨k,hk,Zba⟩:=V4 Jg hj;rw [Fs hk];exact Zba,fun i o hi=>⟨rfl,rfl⟩⟩
 have own1:∀ {b:Nat},dJ G1 (bc.objs x) b→∃ k o,k∈rs∧lk st.objs k=some o∧o.owns=true∧G.γ k=some b:=by
  rintro b ⟨i,o,hi,ho,hg⟩;obtain ⟨j,rfl,hj⟩:=Vg hi;obtain ⟨k,hk,Zba⟩:=V4 Jg hj;have hg':G.γ (rk rs (90000+j))=some b:=hg;rw [Fs hk] at hg';exact ⟨k,_,List.mem_of_getElem? hk,Zba,by rw [Nj];exact ho,hg'⟩
 have zero1:∀ {b:Nat},dJ G1 (bc.objs x) b→m b=0:=by
  rintro b ⟨i,o,hi,ho,hg⟩;obtain ⟨j,rfl,hj⟩:=Vg hi;obtain ⟨k,hk,Zba⟩:=V4 Jg hj;have hg':G.γ (rk rs (90000+j))=some b:=hg;rw [Fs hk] at hg';have Kh:=h.objs k _ Zba;cases o with
  | box ag cells =>
   simp only [Ja,Cw] at Kh;obtain ⟨b',cs,t,h1,_,_,_,h5⟩:=Kh;rw [hg'] at h1;injection h1 with h1
   subst h1;exact h5
  | row s els k0 =>
   have:=nH Qzc hj;subst this;simp only [Ja,Cw] at Kh;rcases Kh with ⟨h1,_⟩|⟨b',cap,cs,t,h1,_,_,_,_,_,_,h8,_⟩
   ·rw [hg'] at h1;cases h1
   ·rw [hg'] at h1;injection h1 with h1
    subst h1;simpa using h8
  | mp ks vs fr =>
   have:=jS Qzc hj;subst this;simp only [Ja,Cw] at Kh;obtain ⟨b',es,cl,h1,_,_,_,h5,_⟩:=Kh;rw [hg'] at h1;injection h1 with h1
   subst h1;simpa using h5
  | fbox s y=>simp [Obj.owns] at ho
  | gone=>simp [Obj.owns] at ho
  | slot e f=>simp [Obj.owns] at ho
  | hole j' n e f x=>simp [Obj.owns] at ho
 have mF:SRg w.heap.size (dJ G1 (bc.objs x)) ⟨⟨w,m⟩,G1,lk (Jq (bc.objs x))⟩ m G1 ⟨bc.args x,Jq (bc.objs x)⟩ ⟨vs.toArray,[]⟩ w:=by
  constructor
  ·rfl
  ·simpa using (rn_RAs al1 Qyz.1).2 hx
  ·intro i o hi;obtain ⟨j,rfl,hj⟩:=Vg hi;exact (xJ al1 hi (aD Qyz.2 hj)).2 (h.objs _ _ (al1.obj _ _ hi))
  ·intro i i' o o' b hi hi' ho ho' hb hb';have e:=h.apart _ _ _ _ b (al1.obj _ _ hi) (al1.obj _ _ hi') (by rw [Nj];exact ho) (by rw [Nj];exact ho') hb hb'
   obtain ⟨j,rfl,hj⟩:=Vg hi;obtain ⟨j',rfl,hj'⟩:=Vg hi';obtain ⟨k,hk,_⟩:=V4 Jg hj;obtain ⟨k',hk',_⟩:=V4 Jg hj';rw [Fs hk,Fs hk'] at e;subst e;rw [Qla hk hk']
  ·intro i o b hi ho hb;exact ⟨(h.mine _ _ b (al1.obj _ _ hi) (by rw [Nj];exact ho) hb).1,.inr ⟨i,o,hi,ho,hb⟩⟩
  ·exact Frame.refl _ _ _
  ·exact fun _ _ _=>rfl
  ·exact h.new
  ·exact Zr _
  ·intro i o hi;obtain ⟨j,rfl,hj⟩:=Vg hi;exact ⟨by omega,o,hi,Zmk.refl _ _ _⟩
 refine (Qts m w G1 vs mF).mono ?_;rintro e w' ⟨v,m',G2,rfl,hr,aX⟩;have old2:∀ b,b<w.heap.size→¬ dJ G1 (bc.objs x) b→m' b=m b:=aX.old;have hF:Fix.le ⟨w,m⟩ ⟨w',m'⟩:=by
  refine ⟨fun b=>?_,fun b es c Zmx M9=>?_⟩;rotate_left
  ·have hp:¬ dJ G1 (bc.objs x) b:=fun hp=>by
    have hz:=zero1 hp;simp only [hz] at Zmx;omega
   rcases Nat.lt_or_ge b w.heap.size with Zv|aY
   ·rw [aX.frame.block b Zv hp];exact M9
   ·have:=h.new b aY;simp only at Zmx;omega
  by_cases hp:dJ G1 (bc.objs x) b
  ·have hz:=zero1 hp;exact ⟨by simp only [hz];exact Nat.zero_le _,fun off ho=>by simp only [hz] at ho;omega⟩
  ·rcases Nat.lt_or_ge b w.heap.size with Zv|aY
   ·exact ⟨by simp only;rw [old2 b Zv hp];exact Zr _,fun off _=>World.cell?_of_block (a:=⟨b,off,none⟩) (aX.frame.block b Zv hp)⟩
   ·have:=h.new b aY;exact ⟨by simp only;omega,fun off ho=>by simp only at ho;omega⟩
 let G':Gh:=⟨fun k=>if k∈rs then G2.γ (90000+rs.idxOf k) else G.γ k,fun k=>if k∈rs then G2.hd (90000+rs.idxOf k) else G.hd k⟩
 have Qtl:∀ {j k:Nat},rs[j]?=some k→rs.idxOf k=j:=by
  intro j k hk;have Yn:=List.mem_of_getElem? hk;have h1:rs[rs.idxOf k]?=some k:=by
   rw [Zk (List.idxOf_lt_length_of_mem Yn),List.getElem_idxOf]
  exact Qla h1 hk
 have gin:∀ {j k:Nat},rs[j]?=some k→G'.γ k=G2.γ (90000+j)∧G'.hd k=G2.hd (90000+j):=by
  intro j k hk;have Yn:=List.mem_of_getElem? hk;exact ⟨by show (if k∈rs then _ else _)=_;rw [if_pos Yn,Qtl hk],by show (if k∈rs then _ else _)=_;rw [if_pos Yn,Qtl hk]⟩
 have gout:∀ {k:Nat},k∉rs→G'.γ k=G.γ k∧G'.hd k=G.hd k:=by
  intro k hk;exact ⟨by show (if k∈rs then _ else _)=_;rw [if_neg hk],by show (if k∈rs then _ else _)=_;rw [if_neg hk]⟩
 have Iu:∀ {k:Nat},k∈rs→∃ (j:Nat) (o:Obj),rs[j]?=some k∧(bc.post x)[j]?=some o∧lk (Yu rs rs (bc.post x) st.objs) k=some (Cw rs o):=by
  intro k hk;obtain ⟨j,hj,e⟩:=List.getElem_of_mem hk;have hk':rs[j]?=some k:=by rw [Zk hj,e]
  have Qwr:j<(bc.post x).length:=by omega
  have ho:=Zk (l:=bc.post x) Qwr;exact ⟨j,_,hk',ho,O8 qF hk' ho⟩
 have al2:Alike rs (bc.post x) G2 G' (lk (Yu rs rs (bc.post x) st.objs)):=by
  constructor
  ·intro i o hi;obtain ⟨j,rfl,hj⟩:=Vg hi;have C6:j<rs.length:=by rw [Q5];exact (List.getElem?_eq_some_iff.1 hj).1
   have Qe8:=Zk (l:=rs) C6;rw [Fs Qe8];exact O8 qF Qe8 hj
  ·intro i o hi;obtain ⟨j,rfl,hj⟩:=Vg hi;have C6:j<rs.length:=by rw [Q5];exact (List.getElem?_eq_some_iff.1 hj).1
   have Qe8:=Zk (l:=rs) C6;rw [Fs Qe8];obtain ⟨g1,g2⟩:=gin Qe8;exact ⟨g1.symm,g2.symm⟩
 have aJ:G8 G (lk st.objs) G' (lk (Yu rs rs (bc.post x) st.objs)):=by
  intro k o hk;by_cases uC:k∈rs
  ·obtain ⟨j,o1,hj,Zzr,wX⟩:=Iu uC;have Qtj:j<(bc.objs x).length:=by
    rcases Nat.lt_or_ge j (bc.objs x).length with Zv|aY
    ·exact Zv
    ·have:k∈rs.drop (bc.objs x).length:=by
      refine List.mem_iff_getElem?.2 ⟨j-(bc.objs x).length,?_⟩;rw [List.getElem?_drop,show (bc.objs x).length+(j-(bc.objs x).length)=j by omega]
      exact hj
     rw [Zd0 Zaz this] at hk;cases hk
   have Kh:=Zk (l:=bc.objs x) Qtj;obtain ⟨k',hk',Zba⟩:=V4 Jg Kh;rw [hj] at hk';injection hk' with hk'
   subst hk';rw [hk] at Zba;injection Zba with Zba
   subst Zba;obtain ⟨_,o2,Zmz,Qmd⟩:=aX.lent _ _ (Hd Kh);rw [Hd Zzr] at Zmz;injection Zmz with Zmz
   subst Zmz;obtain ⟨g1,g2⟩:=gin hj;have e1:G1.γ (90000+j)=G.γ k:=by show G.γ (rk rs (90000+j))=_;rw [Fs hj]
   have e2:G1.hd (90000+j)=G.hd k:=by show G.hd (rk rs (90000+j))=_;rw [Fs hj]
   refine ⟨_,wX,fun hb=>?_,fun s els' k' he=>?_⟩
   ·rw [Eh] at hb;obtain ⟨w1,w2⟩:=Qmd.1 hb;exact ⟨by rw [Eh];exact w1,by rw [g1,←e1];exact w2⟩
   ·rw [Zfu] at he;obtain ⟨els,k0,f1,f2,f3⟩:=Qmd.2 s els' k' he;refine ⟨els,k0,by rw [Zfu];exact f1,f2,fun Zh7=>?_⟩
    obtain ⟨q1,q2⟩:=f3 Zh7;exact ⟨by rw [g1,←e1];exact q1,by rw [g2,←e2];exact q2⟩
  ·obtain ⟨g1,g2⟩:=gout uC;refine ⟨o,by rw [Vq uC];exact hk,fun hb=>⟨hb,g1⟩,fun s els' k' he=>⟨els',k',he,Zr _,fun _=>⟨g1,g2⟩⟩⟩
 have notB:∀ {k:Nat} {o:Obj} {b:Nat},k∉rs→lk st.objs k=some o→o.owns=true→G.γ k=some b→¬ dJ G1 (bc.objs x) b:=by
  intro k o b hk ho hw hg hp;obtain ⟨k',o',hm',ho',hw',hg'⟩:=own1 hp;have:=h.apart k k' o o' b ho ho' hw hw' hg hg';subst this;exact hk hm'
 refine ⟨v,m',G',rfl,?_,by
  unfold BCon.rv at hr;unfold BCon.rvr;cases ho:bc.out x with
  | none=>rw [ho] at hr;simpa only [RA] using hr
  | some j=>rw [ho] at hr;exact Qrj al2 hr⟩
 constructor
 ·exact h.defers
 ·exact RAs.mono hF aJ h.tmps
 ·intro k o hk;by_cases uC:k∈rs
  ·obtain ⟨j,o1,hj,Zzr,wX⟩:=Iu uC;simp only at hk;rw [wX] at hk;injection hk with hk
   subst hk;have:=(xJ al2 (Hd Zzr) (aD Qv0.2 Zzr)).1 (aX.objs _ _ (Hd Zzr));rw [Fs hj] at this;exact this
  ·simp only [Vq uC] at hk;obtain ⟨g1,g2⟩:=gout uC;refine Ja.mono hF aJ g1 g2 (fun ho b M9=>?_) (h.objs k o hk);have Zv:=(h.mine k o b hk ho M9).1;have Qps:=notB uC hk ho M9;exact ⟨aX.frame.block b Zv Qps,old2 b Zv Qps⟩
 ·intro k k' o o' b hk hk' ho ho' hb hb';simp only at hk hk';by_cases uC:k∈rs
  ·obtain ⟨j,o1,hj,Zzr,wX⟩:=Iu uC;rw [wX] at hk;injection hk with hk
   subst hk;rw [Nj] at ho;rw [(gin hj).1] at hb;by_cases hkr':k'∈rs
   ·obtain ⟨j',o1',hj',ho1',hb1'⟩:=Iu hkr';rw [hb1'] at hk';injection hk' with hk'
    subst hk';rw [Nj] at ho';rw [(gin hj').1] at hb';have:=aX.apart _ _ _ _ b (Hd Zzr) (Hd ho1') ho ho' hb hb';have e:j=j':=by omega
    subst e;rw [hj] at hj';injection hj'
   ·rw [Vq hkr'] at hk';rw [(gout hkr').1] at hb';have Zv:=(h.mine k' o' b hk' ho' hb').1;have Qps:=notB hkr' hk' ho' hb';rcases (aX.mine _ _ b (Hd Zzr) ho hb).2 with h1|h1
    ·omega
    ·exact absurd h1 Qps
  ·rw [Vq uC] at hk;rw [(gout uC).1] at hb;by_cases hkr':k'∈rs
   ·obtain ⟨j',o1',hj',ho1',hb1'⟩:=Iu hkr';rw [hb1'] at hk';injection hk' with hk'
    subst hk';rw [Nj] at ho';rw [(gin hj').1] at hb';have Zv:=(h.mine k o b hk ho hb).1;have Qps:=notB uC hk ho hb;rcases (aX.mine _ _ b (Hd ho1') ho' hb').2 with h1|h1
    ·omega
    ·exact absurd h1 Qps
   ·rw [Vq hkr'] at hk';rw [(gout hkr').1] at hb';exact h.apart k k' o o' b hk hk' ho ho' hb hb'
 ·intro k o b hk ho hb;simp only at hk;by_cases uC:k∈rs
  ·obtain ⟨j,o1,hj,Zzr,wX⟩:=Iu uC;rw [wX] at hk;injection hk with hk
   subst hk;rw [Nj] at ho;rw [(gin hj).1] at hb;obtain ⟨q1,q2⟩:=aX.mine _ _ b (Hd Zzr) ho hb;refine ⟨q1,?_⟩;rcases q2 with q2|q2
   ·exact .inl (Nat.le_trans h.small q2)
   ·obtain ⟨k',o',_,ho',hw',hg'⟩:=own1 q2;exact (h.mine k' o' b ho' hw' hg').2
  ·rw [Vq uC] at hk;rw [(gout uC).1] at hb;obtain ⟨q1,q2⟩:=h.mine k o b hk ho hb;exact ⟨Nat.lt_of_lt_of_le q1 aX.frame.size,q2⟩
 ·refine h.frame.trans ⟨aX.frame.os,aX.frame.tape,aX.frame.output,aX.frame.size,fun b M9 hp=>aX.frame.block b (Nat.lt_of_lt_of_le M9 h.small) (fun hB=>?_)⟩;obtain ⟨k',o',_,ho',hw',hg'⟩:=own1 hB;rcases (h.mine k' o' b ho' hw' hg').2 with h1|h1
  ·omega
  ·exact hp h1
 ·intro b M9 hp;refine (old2 b (Nat.lt_of_lt_of_le M9 h.small) (fun hB=>?_)).trans (h.old b M9 hp);obtain ⟨k',o',_,ho',hw',hg'⟩:=own1 hB;rcases (h.mine k' o' b ho' hw' hg').2 with h1|h1
  ·omega
  ·exact hp h1
 ·exact aX.new
 ·exact Nat.le_trans h.small aX.frame.size
 ·exact h.lent.goes aJ
end
mutual
theorem RA.off {F:Fix} {G G':Gh} {L L':Nat→Option Obj} {i:Nat} (hL:∀ j,j≠i→L' j=L j∧G'.γ j=G.γ j∧G'.hd j=G.hd j):∀ {x:AV} {v:Value},x.off i=true→RA F G L x v→RA F G' L' x v
 | .d x,_,_,h=>by simpa only [RA] using h
 | .ref j f,_,ho,h=>by
  simp only [AV.off,bne_iff_ne] at ho;obtain ⟨h1,h2,_⟩:=hL j ho;simp only [RA,h1,h2] at h ⊢;exact h
 | .rref j n e f,_,ho,h=>by
  simp only [AV.off,bne_iff_ne] at ho;obtain ⟨h1,h2,_⟩:=hL j ho;simp only [RA,h1,h2] at h ⊢;exact h
 | .sl j n,_,ho,h=>by
  simp only [AV.off,bne_iff_ne] at ho;obtain ⟨h1,_,h3⟩:=hL j ho;simp only [RA,h1,h3] at h ⊢;exact h
 | .mpr j,_,ho,h=>by
  simp only [AV.off,bne_iff_ne] at ho;obtain ⟨h1,h2,_⟩:=hL j ho;simp only [RA,h1,h2] at h ⊢;exact h
 | .sb j n f,_,ho,h=>by
  simp only [AV.off,bne_iff_ne] at ho;obtain ⟨h1,h2,h3⟩:=hL j ho;simp only [RA,h1,h2,h3] at h ⊢;exact h
 | .agg l,_,ho,h=>by
  simp only [AV.off] at ho;simp only [RA] at h ⊢;obtain ⟨cs,h1,h2,h3⟩:=h;exact ⟨cs,h1,RAs.off hL ho h2,h3⟩
 | .tup l,_,ho,h=>by
  simp only [AV.off] at ho;simp only [RA] at h ⊢;obtain ⟨cs,h1,h2⟩:=h;exact ⟨cs,h1,RAs.off hL ho h2⟩
 | .clo f l,_,ho,h=>by
  simp only [AV.off] at ho;simp only [RA] at h ⊢;obtain ⟨cs,h1,h2⟩:=h;exact ⟨cs,h1,RAs.off hL ho h2⟩
 | .nils _,_,_,h=>by simpa only [RA] using h
 | .dead,_,_,_=>by simp [RA]
theorem RAs.off {F:Fix} {G G':Gh} {L L':Nat→Option Obj} {i:Nat} (hL:∀ j,j≠i→L' j=L j∧G'.γ j=G.γ j∧G'.hd j=G.hd j):∀ {l:List AV} {vs:List Value},offAll i l=true→RAs F G L l vs→RAs F G' L' l vs
 | [],_,_,h=>by simpa only [RAs] using h
 | x::l,vs,ho,h=>by
  simp only [offAll,Zg] at ho;simp only [RAs] at h ⊢;obtain ⟨v,r,h1,h2,h3⟩:=h;exact ⟨v,r,h1,RA.off hL ho.1 h2,RAs.off hL ho.2 h3⟩
end
theorem RAs.kill {F:Fix} {G G':Gh} {L L':Nat→Option Obj} {i:Nat} (hL:∀ j,j≠i→L' j=L j∧G'.γ j=G.γ j∧G'.hd j=G.hd j):∀ {l:List AV} {vs:List Value},RAs F G L l vs→RAs F G' L' (Nr i l) vs
 | [],_,h=>by simpa only [RAs,Nr] using h
 | x::l,vs,h=>by
  simp only [RAs] at h;obtain ⟨v,r,h1,h2,h3⟩:=h;simp only [Nr,RAs];refine ⟨v,r,h1,?_,RAs.kill hL h3⟩;cases ho:x.off i with
  | true=>exact RA.off hL ho h2
  | false=>simp [RA]
theorem xG {i:Nat}:∀ {o:Qh},Kl i o=true→∀ {j:Nat} {ag:Bool} {cells:List AV},lk o j=some (.box ag cells)→offAll i cells=true
 | [],_,j,ag,cells,hj=>by simp [lk] at hj
 | (k,q)::r,h,j,ag,cells,hj=>by
  simp only [lk] at hj;by_cases Oe:j=k
  ·subst Oe;rw [if_pos rfl] at hj;injection hj with hj
   subst hj;simp only [Kl,Zg] at h;exact h.1
  ·rw [if_neg Oe] at hj;have hr:Kl i r=true:=by
    cases q<;>simp only [Kl,Zg] at h<;>first|exact h|exact h.2
   exact xG hr hj
theorem nF {i:Nat}:∀ {o:Qh},Kl i o=true→∀ {j k n e f:Nat} {x:AV},lk o j=some (.hole k n e f x)→k≠i∧x.off i=true
 | [],_,j,k,n,e,f,x,hj=>by simp [lk] at hj
 | (q0,q)::r,h,j,k,n,e,f,x,hj=>by
  simp only [lk] at hj;by_cases Oe:j=q0
  ·subst Oe;rw [if_pos rfl] at hj;injection hj with hj
   subst hj;simp only [Kl,Zg,bne_iff_ne] at h;exact h.1
  ·rw [if_neg Oe] at hj;have hr:Kl i r=true:=by
    cases q<;>simp only [Kl,Zg] at h<;>first|exact h|exact h.2
   exact nF hr hj
section
variable {P:Program} {C:Ctx} {G:Gh}
variable {base:Nat} {pass:Nat→Prop} {F0:Anc} {m:Nat→Nat} {st:AS} {a:Act} {w:World}
theorem SRg.cut (h:SRg base pass F0 m G st a w) {i s k c:Nat} {els:List D} (hi:lk st.objs i=some (.row s els k)) {n:Nat} (hn:n≤els.length) (hk:k≤n) (ho:Kl i st.objs=true) (hi9:i<90000) {A:Option Addr} (hd:G.hd i=.slice A els.length c) :
  SRg base pass F0 m ⟨G.γ,fun j=>if j=i then .slice A n c else G.hd j⟩ ⟨Nr i st.tmps,upd st.objs i (.row s (els.take n) k)⟩ a w:=by
 have hL:∀ j,j≠i→lk (upd st.objs i (.row s (els.take n) k)) j=lk st.objs j∧(⟨G.γ,fun j=>if j=i then .slice A n c else G.hd j⟩:Gh).γ j=G.γ j∧(⟨G.γ,fun j=>if j=i then .slice A n c else G.hd j⟩:Gh).hd j=G.hd j:=by
  intro j hj;exact ⟨by rw [Xw,if_neg hj],rfl,by simp [hj]⟩
 have own:∀ j o',lk (upd st.objs i (.row s (els.take n) k)) j=some o'→∃ o,lk st.objs j=some o∧o.owns=o'.owns:=by
  intro j o' hj;rw [Xw] at hj;by_cases Ha:j=i
  ·subst Ha;rw [if_pos rfl] at hj;injection hj with hj
   subst hj;exact ⟨_,hi,rfl⟩
  ·rw [if_neg Ha] at hj;exact ⟨o',hj,rfl⟩
 constructor
 ·exact h.defers
 ·exact RAs.kill hL h.tmps
 ·intro j o' hj;simp only at hj;by_cases Ha:j=i
  ·subst Ha;rw [Xw,if_pos rfl] at hj;injection hj with hj
   subst hj;have Kh:=h.objs j _ hi;simp only [Ja] at Kh ⊢;have Q5:(els.take n).length=n:=by rw [List.length_take];omega
   rcases Kh with ⟨h1,h2,h3,h4⟩|⟨b,cap,cs,t,h1,h2,h3,h4,h5,h6,h7,h8,h9⟩
   ·left;subst h3;simp only [List.length_nil,Nat.le_zero_eq] at hn;subst hn;rw [h2] at hd;simp only [List.length_nil,Value.slice.injEq] at hd;obtain ⟨rfl,_,rfl⟩:=hd;exact ⟨h1,by simp,by simp,h4⟩
   ·right;rw [h2] at hd;simp only [Value.slice.injEq,true_and] at hd;obtain ⟨rfl,rfl⟩:=hd;refine ⟨b,cap,cs,t,h1,by simp [Q5],by omega,h4,h5,h6,?_,h8,by omega⟩
    rw [Q5];have:=(h7.split n).1;rw [List.take_take] at this;have e:min (n*s) (els.length*s)=n*s:=Nat.min_eq_left (Nat.mul_le_mul_right _ hn);rw [e] at this;exact this
  ·rw [(hL j Ha).1] at hj;have Kh:=h.objs j _ hj;obtain ⟨e1,e2,e3⟩:=hL j Ha;cases o' with
   | box ag cells =>
    simp only [Ja] at Kh ⊢;obtain ⟨b,cs,t,h1,h2,h3,h4,h5⟩:=Kh;exact ⟨b,cs,t,h1,h2,RAs.off hL (xG ho hj) h3,h4,h5⟩
   | fbox s' x=>exact Kh
   | row s' els' k' =>
    simp only [Ja,if_neg Ha] at Kh ⊢;exact Kh
   | mp ks vs f=>exact Kh
   | gone=>trivial
   | slot e f=>trivial
   | hole j' n' e f x =>
    obtain ⟨o1,o2⟩:=nF ho hj;simp only [Ja] at Kh ⊢;obtain ⟨b,off,v,g1,g2,g3,g4⟩:=Kh;exact ⟨b,off,v,RA.off hL (by simp only [AV.off,bne_iff_ne];exact o1) g1,g2,g3,RA.off hL o2 g4⟩
 ·intro j j' o o' b hj hj' Qwf hoo' hb hb';obtain ⟨q,q1,q2⟩:=own j o hj;obtain ⟨q',q1',q2'⟩:=own j' o' hj';exact h.apart j j' q q' b q1 q1' (q2.trans Qwf) (q2'.trans hoo') hb hb'
 ·intro j o b hj Qwf hb;obtain ⟨q,q1,q2⟩:=own j o hj;exact h.mine j q b q1 (q2.trans Qwf) hb
 ·exact h.frame
 ·exact h.old
 ·exact h.new
 ·exact h.small
 ·intro j o hj;obtain ⟨h1,o1,h2,h3⟩:=h.lent j o hj;have Ha:j≠i:=by omega
  refine ⟨h1,o1,by rw [(hL j Ha).1];exact h2,?_⟩
  refine h3.trans ⟨fun hb=>⟨hb,rfl⟩,fun s' els' k' he=>⟨els',k',he,Zr _,fun _=>⟨rfl,by simp [Ha]⟩⟩⟩
theorem SRg.move (h:SRg base pass F0 m G st a w) {i d s k c:Nat} {els:List D} (hi:lk st.objs i=some (.row s els k)) (N5:lk st.objs d=none) {n:Nat} (hn:n≤els.length) (hk:k≤n) {A:Option Addr} (hd:G.hd i=.slice A els.length c) :
  SRg base pass F0 m ⟨fun j=>if j=d then G.γ i else G.γ j,fun j=>if j=d then .slice A n c else G.hd j⟩ ⟨st.tmps,upd (upd st.objs i .gone) d (.row s (els.take n) k)⟩ a w:=by
 have Qow:d≠i:=by
  intro e;rw [e,hi] at N5;cases N5
 have Jb2:lk (upd (upd st.objs i .gone) d (.row s (els.take n) k)) d=some (.row s (els.take n) k):=by rw [Xw,if_pos rfl]
 have Qt3:lk (upd (upd st.objs i .gone) d (.row s (els.take n) k)) i=some .gone:=by rw [Xw,if_neg (Ne.symm Qow),Xw,if_pos rfl]
 have Qxe:∀ j,j≠d→j≠i→lk (upd (upd st.objs i .gone) d (.row s (els.take n) k)) j=lk st.objs j:=fun j h1 h2=>by rw [Xw,if_neg h1,Xw,if_neg h2]
 have aJ:G8 G (lk st.objs) ⟨fun j=>if j=d then G.γ i else G.γ j,fun j=>if j=d then .slice A n c else G.hd j⟩ (lk (upd (upd st.objs i .gone) d (.row s (els.take n) k))):=by
  intro j o hj;have Qb8:j≠d:=by
   intro e;rw [e,N5] at hj;cases hj
  by_cases Ha:j=i
  ·subst Ha;exact ⟨.gone,Qt3,fun hb=>(by cases hb),fun s' els' k' he=>(by cases he)⟩
  ·refine ⟨o,by rw [Qxe j Qb8 Ha];exact hj,fun hb=>⟨hb,by simp [Qb8]⟩,fun s' els' k' he=>⟨els',k',he,Zr _,fun _=>⟨by simp [Qb8],by simp [Qb8]⟩⟩⟩
 have own:∀ j o',lk (upd (upd st.objs i .gone) d (.row s (els.take n) k)) j=some o'→o'.owns=true→∃ q o,lk st.objs q=some o∧o.owns=true∧(if j=d then G.γ i else G.γ j)=G.γ q∧(j=d∧q=i∨j≠d∧q=j∧q≠i):=by
  intro j o' hj ho;by_cases Qb8:j=d
  ·subst Qb8;exact ⟨i,_,hi,rfl,by simp,.inl ⟨rfl,rfl⟩⟩
  ·by_cases Ha:j=i
   ·subst Ha;rw [Qt3] at hj;injection hj with hj
    subst hj;cases ho
   ·rw [Qxe j Qb8 Ha] at hj;exact ⟨j,o',hj,ho,by simp [Qb8],.inr ⟨Qb8,rfl,Ha⟩⟩
 constructor
 ·exact h.defers
 ·exact RAs.mono (Fix.le_refl _) aJ h.tmps
 ·intro j o' hj;simp only at hj;by_cases Qb8:j=d
  ·subst Qb8;rw [Jb2] at hj;injection hj with hj
   subst hj;have Kh:=h.objs i _ hi;simp only [Ja,if_true] at Kh ⊢;have Q5:(els.take n).length=n:=by rw [List.length_take];omega
   rcases Kh with ⟨h1,h2,h3,h4⟩|⟨b,cap,cs,t,h1,h2,h3,h4,h5,h6,h7,h8,h9⟩
   ·left;subst h3;simp only [List.length_nil,Nat.le_zero_eq] at hn;subst hn;rw [h2] at hd;simp only [List.length_nil,Value.slice.injEq] at hd;obtain ⟨rfl,_,rfl⟩:=hd;exact ⟨h1,rfl,by simp,h4⟩
   ·right;rw [h2] at hd;simp only [Value.slice.injEq,true_and] at hd;obtain ⟨rfl,rfl⟩:=hd;refine ⟨b,cap,cs,t,h1,by simp [Q5],by omega,h4,h5,h6,?_,h8,by omega⟩
    rw [Q5];have:=(h7.split n).1;rw [List.take_take] at this;have e:min (n*s) (els.length*s)=n*s:=Nat.min_eq_left (Nat.mul_le_mul_right _ hn);rw [e] at this;exact this
  ·by_cases Ha:j=i
   ·subst Ha;rw [Qt3] at hj;injection hj with hj
    subst hj;simp only [Ja]
   ·rw [Qxe j Qb8 Ha] at hj;exact Ja.mono (Fix.le_refl _) aJ (by simp [Qb8]) (by simp [Qb8]) (fun _ _ _=>⟨rfl,rfl⟩) (h.objs j _ hj)
 ·intro j j' o o' b hj hj' ho ho' hb hb';obtain ⟨q,oq,g1,g2,g3,g4⟩:=own j o hj ho;obtain ⟨q',oq',g1',g2',g3',g4'⟩:=own j' o' hj' ho';simp only at hb hb';rw [g3] at hb;rw [g3'] at hb';have:=h.apart q q' oq oq' b g1 g1' g2 g2' hb hb';rcases g4 with ⟨e1,e2⟩|⟨e1,e2,e3⟩<;>rcases g4' with ⟨e1',e2'⟩|⟨e1',e2',e3'⟩
  ·rw [e1,e1']
  ·exact absurd (this.symm.trans e2) e3'
  ·exact absurd (this.trans e2') e3
  ·rw [←e2,←e2',this]
 ·intro j o b hj ho hb;obtain ⟨q,oq,g1,g2,g3,_⟩:=own j o hj ho;simp only at hb;rw [g3] at hb;exact h.mine q oq b g1 g2 hb
 ·exact h.frame
 ·exact h.old
 ·exact h.new
 ·exact h.small
 ·exact h.lent.goes aJ
end
section
variable {P:Program} {C:Ctx} {G:Gh}
variable {base:Nat} {pass:Nat→Prop} {F0:Anc} {m:Nat→Nat} {st:AS} {a:Act} {w:World}
theorem Zip {F:Fix}:∀ {xs:List D} {vs:List Value},Qls xs→RE F 1 xs vs→vs=(xs.map D.i).map (Value.int .u8)∧Qjg xs=(xs.map D.i).map fun n=>UInt8.ofNat n.toNat
 | [],vs,_,h=>by
  simp only [RE] at h;subst h;exact ⟨rfl,rfl⟩
 | x::l,vs,⟨h1,h2⟩,h=>by
  simp only [RE] at h;obtain ⟨v,r,rfl,-,-,hv,hr⟩:=h;obtain ⟨e1,e2⟩:=Zip h2 hr;have jD:=hv.of_int h1;subst jD;subst e1;exact ⟨rfl,by rw [Qjg,e2];rfl⟩
theorem Zlu (T:Yd P C.τ) (h:SRg base pass F0 m G st a w) {s t:Nat} {x z:AV} {v:Value} {c:Prop} {os:Qh} (hh:eI C s t x st.objs=some (c,z,os)) (hc:c) (hx:RA ⟨w,m⟩ G (lk st.objs) x v) :
  ∃ u,(convert s t v).run P w=.ok u w∧RA ⟨w,m⟩ G (lk st.objs) z u∧os=st.objs:=by
 unfold eI at hh;split at hh
 ·next e hk hk' =>
  split at hh
  ·next c1 xs Ni Qe7 =>
   simp only [Zb,Zc] at hh;obtain ⟨rfl,rfl,rfl⟩:=hh;obtain ⟨d,hd,X7⟩:=T.kind hk rfl;obtain ⟨d',hd',hkd'⟩:=T.kind hk' rfl;obtain ⟨d2,Qzl,Qti⟩:=T.kind Ni rfl;simp only [TK.is] at X7 hkd' Qti;obtain ⟨rfl,-⟩:=X7;subst hkd';subst Qti;obtain ⟨B,cap,rfl,hB⟩:=aH h hx Qe7 hc.1;rcases hB with rfl|⟨b,off,vs,rfl,hE,dC⟩
   ·refine ⟨.string .empty,?_,by simp only [RA,R];rfl,rfl⟩
    rw [run_convert_bytes_string w s t e B _ cap hd Qzl hd'];cases B with
    | none=>simp [Conv.bytesToString]
    | some B =>
     exact run_bytesToString w B 0 cap [] (by simp [loadCells,loadCellsFrom])
   ·obtain ⟨e1,e2⟩:=Zip hc.2 hE;refine ⟨_,run_convert_bytes_arg w s e hd Qzl b off xs.length cap (xs.map D.i) (by simp) (fun i hi=>dC i _ ?_) t hd',?_,rfl⟩
    ·rw [e1];simp [hi]
    ·simp only [RA,R,strOfNums];rw [e2]
  ·cases hh
 ·unfold Vf at hh;split at hh
  ·next c1 d hb =>
   simp only [Zb,Zc] at hh;obtain ⟨rfl,rfl,rfl⟩:=hh;obtain ⟨v,hr,hv⟩:=Zy2 (w:=w) T hb hc hx;exact ⟨v,hr,by simpa only [RA] using hv,rfl⟩
  ·cases hh
theorem Mc {F:Fix} {L:Nat→Option Obj} (h:RAs F G L st.tmps a.tmps.toList):∀ (xs:List Operand) (ts:List Nat),RAs F G L (qC C st xs ts) (xs.map a.eval)
 | [],ts=>by cases ts<;>simp [qC,RAs]
 | x::xs,[]=>by simp only [qC,List.map_cons,RAs];exact ⟨_,_,rfl,Yx h x,Mc h xs []⟩
 | x::xs,t::ts=>by simp only [qC,List.map_cons,RAs];exact ⟨_,_,rfl,Yx h x,Mc h xs ts⟩
theorem I4 {F:Fix} {L:Nat→Option Obj} (h:RAs F G L st.tmps a.tmps.toList) (hint:Nat):∀ (ps:List (Nat×Operand)) (j i:Nat) (x:AV),(Vj C st hint ps)[j]?=some (i,x) →
  ∃ v,(ps.map fun p=>(p.1,a.eval p.2))[j]?=some (i,v)∧RA F G L x v
 | [],j,i,x,hj=>by simp [Vj] at hj
 | (i0,y)::ps,0,i,x,hj=>by
  simp only [Vj,List.getElem?_cons_zero,Zb,Zc] at hj;obtain ⟨rfl,rfl⟩:=hj;exact ⟨a.eval y,rfl,Yx h y⟩
 | (i0,y)::ps,j+1,i,x,hj=>by
  simp only [Vj,List.getElem?_cons_succ] at hj;simpa using I4 h hint ps j i x hj
theorem Rd (hint:Nat):∀ (ps:List (Nat×Operand)),(Vj C st hint ps).length=ps.length
 | []=>rfl
 | (i,x)::ps=>by simp [Vj,Rd hint ps]
theorem rU {F:Fix} {L:Nat→Option Obj} (h:RAs F G L st.tmps a.tmps.toList) (t:Nat) (x:Option Operand):Uq F G L (Qbe C st t x) (x.map a.eval):=by
 cases x with
 | none=>simp [Qbe,Uq]
 | some x=>simp only [Qbe,Option.map_some,Uq];exact Yx h x
def qY (base:Nat) (pass:Nat→Prop) (F0:Anc) (a:Act) (tm:List AV) (dst:Option Tmp) (z:AV) (os:Qh) (K:Act→World→Prop):Prop :=
 ∀ v w' m' G',SRg base pass F0 m' G' ⟨tm,os⟩ a w'→RA ⟨w',m'⟩ G' (lk os) z v→K (a.put dst v) w'
theorem Jz {o:Oper} {s:Sem Value} {z:AV} {os:Qh} {K:Act→World→Prop} {Q:Exit→Act→World→Prop} (he:execOp a.eval o=(do pure (.value (←s)))) (ht:L6 P base pass F0 a st.tmps s w z os)
  (hn:qY base pass F0 a st.tmps o.dst z os K):o.wp P a w K Q:=by
 obtain ⟨v,w',m',G',hr,hs,hz⟩:=ht;unfold Oper.wp;rw [he];simp only [Sem.run_bind,hr,Result.andThen_ok,Sem.run_pure,Oper.upon];exact hn v w' m' G' hs hz
theorem Zcg {o:Oper} {s:Sem Unit} {os:Qh} {K:Act→World→Prop} {Q:Exit→Act→World→Prop} (he:execOp a.eval o=(do s;pure .skip)) (ht:Zaq P base pass F0 a st.tmps s w os)
  (hn:qY base pass F0 a st.tmps o.dst .dead os K):o.wp P a w K Q:=by
 obtain ⟨w',m',G',hr,hs⟩:=ht;unfold Oper.wp;rw [he];simp only [Sem.run_bind,hr,Result.andThen_ok,Sem.run_pure,Oper.upon];exact hn _ w' m' G' hs (by simp [RA])
theorem Eg {o:Oper} {f:FuncId} {args:Array Value} {z:AV} {os:Qh} {K:Act→World→Prop} {Q:Exit→Act→World→Prop} (he:(execOp a.eval o).run P w=.ok (.enter f args) w)
  (hc:Calls P f args w fun e w'=>∃ v m' G',e=.returned v∧SRg base pass F0 m' G' ⟨st.tmps,os⟩ a w'∧RA ⟨w',m'⟩ G' (lk os) z v) (hn:qY base pass F0 a st.tmps o.dst z os K):o.wp P a w K Q:=by
 unfold Oper.wp;rw [he];simp only [Oper.upon];refine hc.mono fun e w' ⟨v,m',G',he',hs,hz⟩=>?_;subst he';exact hn v w' m' G' hs hz
theorem jX {α:Type} {a:Array α} {x:α} (h:a.toList=[x]):a=#[x]:=by cases a;simp_all
theorem jZ {α:Type} {a:Array α} {x y:α} (h:a.toList=[x,y]):a=#[x,y]:=by cases a;simp_all
theorem Zjq (K:Co P C) (h:SRg base pass F0 m G st a w) {o:Oper} {c:Prop} {z:AV} {os:Qh} {N:Act→World→Prop} {Q:Exit→Act→World→Prop} (hh:Nn C o st=some (c,z,os)) (hc:c)
  (hn:qY base pass F0 a st.tmps o.dst z os N):o.wp P a w N Q:=by
 have T:=K.1;have ev:∀ (hint:Nat) (x:Operand),RA ⟨w,m⟩ G (lk st.objs) (st.ev C hint x) (a.eval x):=fun hint x=>Yx h.tmps x;unfold Nn at hh;split at hh
 case h_1 x Js =>
  simp only [Zb,Zc] at hh;obtain ⟨rfl,rfl,rfl⟩:=hh;exact Jz (st:=st) (s:=pure (a.eval x)) (by simp [execOp,Js]) (Qu h rfl (ev _ x)) hn
 case h_2 x Js =>
  simp only [Zb,Zc] at hh;obtain ⟨rfl,rfl,rfl⟩:=hh;exact Jz (st:=st) (s:=pure (a.eval x)) (by simp [execOp,Js]) (Qu h rfl (ev _ x)) hn
 case h_3 cnd x y Js =>
  split at hh
  ·next r hr =>
   simp only [Zb,Zc] at hh;obtain ⟨rfl,rfl,rfl⟩:=hh;have h0:=ev 0 cnd;unfold Qa8 at hr;split at hr
   ·next hb =>
    simp only [Zb] at hr;subst hr;rw [hb] at h0;simp only [RA,R] at h0;exact Jz (st:=st) (s:=pure (a.eval x)) (by simp [execOp,Js,h0,asBool]) (Qu h rfl (ev _ x)) hn
   ·next hb =>
    simp only [Zb] at hr;subst hr;rw [hb] at h0;simp only [RA,R] at h0;exact Jz (st:=st) (s:=pure (a.eval y)) (by simp [execOp,Js,h0,asBool]) (Qu h rfl (ev _ y)) hn
   ·cases hr
  ·cases hh
 case h_4 e Js =>
  split at hh
  ·next k hd=>exact Jz (st:=st) (by simp only [execOp,Js]) (Zmh T h hh hc) hn
  ·cases hh
 case h_5 e x Js =>
  split at hh
  ·next k hd=>exact Jz (st:=st) (by simp only [execOp,Js]) (Zes h (ev _ x) hh hc) hn
  ·cases hh
 case h_6 t ps Js =>
  refine Jz (st:=st) (s:=Instr.build t (ps.toList.map fun p=>(p.1,a.eval p.2)).toArray) ?_ (Zl1 T h (by rw [Rd];simp) (I4 h.tmps 0 ps.toList) hh hc) hn
  simp only [execOp,Js]
  congr 2
  cases ps;simp
 case h_7 t n ps Js =>
  split at hh
  ·next k hd =>
   refine Jz (st:=st) (s:=Instr.buildSlice t n (ps.toList.map fun p=>(p.1,a.eval p.2)).toArray) ?_ (sC T h (by rw [Rd];simp) (I4 h.tmps _ ps.toList) hh hc) hn
   simp only [execOp,Js]
   congr 2
   cases ps;simp
  ·cases hh
 case h_8 t p Js=>exact Jz (st:=st) (by simp only [execOp,Js]) (Zx0 T h (ev _ p) hh hc) hn
 case h_9 t p x Js =>
  obtain ⟨rfl,hs⟩:=Ziu (P:=P) T h (ev 0 p) (ev t x) hh hc;exact Zcg (st:=st) (by simp only [execOp,Js]) hs hn
 case h_10 op t x y ty Js =>
  unfold Vf at hh;split at hh
  ·next c1 d hb =>
   simp only [Zb,Zc] at hh;obtain ⟨rfl,rfl,rfl⟩:=hh;obtain ⟨v,hr,hv⟩:=Qer (w:=w) (ox:=x) (oy:=y) T hb hc (ev t x) (ev t y);exact Jz (st:=st) (s:=Yb op t x y (a.eval x) (a.eval y)) (by simp only [execOp,Js,Yb]) (Qu h hr (by simpa only [RA] using hv)) hn
  ·cases hh
 case h_11 op t x Js =>
  unfold Vf at hh;split at hh
  ·next c1 d hb =>
   simp only [Zb,Zc] at hh;obtain ⟨rfl,rfl,rfl⟩:=hh;obtain ⟨v,hr,hv⟩:=Qfy (P:=P) (w:=w) hb hc (ev t x);exact Jz (st:=st) (by simp only [execOp,Js]) (Qu h hr (by simpa only [RA] using hv)) hn
  ·cases hh
 case h_12 s t x Js =>
  obtain ⟨v,hr,hv,rfl⟩:=Zlu T h hh hc (ev s x);exact Jz (st:=st) (by simp only [execOp,Js]) (Qu h hr hv) hn
 case h_13 f first caps Js =>
  split at hh
  ·next hf =>
   simp only [Zb,Zc] at hh;obtain ⟨rfl,rfl,rfl⟩:=hh;refine Jz (st:=st) (s:=Instr.makeFunc (.func f) (first.map a.eval) (caps.map a.eval)) (by simp only [execOp,Js]) (Qu h (v:=.func (.func f) #[] (caps.toList.map a.eval).toArray) ?_ (Zj3 (Mc h.tmps caps.toList []))) hn
   have hf':first=#[]:=by cases first;simp_all
   subst hf';simp [Instr.makeFunc];cases caps;simp
  ·cases hh
 case h_14 t l cp Js =>
  split at hh
  ·next k hd=>exact Jz (st:=st) (by simp only [execOp,Js]) (uN T h (ev _ l) (ev _ cp) hh hc) hn
  ·cases hh
 case h_15 t x lo hi mx Js =>
  exact Jz (st:=st) (by simp only [execOp,Js]) (Ziz T h (ev _ x) (rU h.tmps _ lo) (rU h.tmps _ hi) (rU h.tmps _ mx) hh hc) hn
 case h_16 t Js =>
  split at hh
  ·next k hd=>exact Jz (st:=st) (by simp [execOp,Js]) (Zbk (t:=t) h hh) hn
  ·cases hh
 case h_17 t x i ok Js=>exact Jz (st:=st) (by simp only [execOp,Js]) (Zf8 T h (ev _ x) (ev _ i) hh hc) hn
 case h_18 t x i y Js =>
  obtain ⟨rfl,hs⟩:=uM (P:=P) T h (ev 0 x) (ev 0 i) (ev _ y) hh hc;exact Zcg (st:=st) (by simp only [execOp,Js]) hs hn
 case h_19 t p f Js=>exact Jz (st:=st) (by simp only [execOp,Js]) (uS T h (ev _ p) hh hc) hn
 case h_20 t x f Js=>exact Jz (st:=st) (by simp only [execOp,Js]) (Zlk T h (ev _ x) hh hc) hn
 case h_21 t x i Js=>exact Jz (st:=st) (by simp only [execOp,Js]) (uP T h (ev _ x) (ev _ i) hh hc) hn
 case h_22 t x i Js=>exact Jz (st:=st) (by simp only [execOp,Js]) (Zkr T h (ev _ x) (ev _ i) hh hc) hn
 case h_23 x i Js=>exact Jz (st:=st) (by simp only [execOp,Js]) (Zbq h (ev _ x) hh) hn
 case h_24 cl Js =>
  split at hh
  case h_1 hcal =>
   split at hh
   ·next x t hx ht =>
    have e1:=jX hx;have e2:=jX ht;refine Jz (st:=st) (s:=Builtin.len_ #[t] o.type #[a.eval x]) ?_ (Qds T h (ev t x) hh hc o.type) hn;simp [execOp,Js,resolve,hcal,e1,e2,invoke,builtin]
   ·cases hh
  case h_2 hcal =>
   split at hh
   ·next s x t t' k hx ht hk =>
    split at hh
    ·next Zmq =>
     subst Zmq;have e1:=jZ hx;have e2:=jZ ht;refine Jz (st:=st) (s:=Builtin.append_ #[t,t] o.type #[a.eval s,a.eval x]) ?_ (Zg8 T h (ev t s) (ev t x) hh hc o.type) hn;simp [execOp,Js,resolve,hcal,e1,e2,invoke,builtin]
    ·cases hh
   ·cases hh
  case h_3 hcal =>
   split at hh
   ·next x y t ts hx ht =>
    unfold Vf at hh;split at hh
    ·next c1 d hb =>
     simp only [Zb,Zc] at hh;obtain ⟨rfl,rfl,rfl⟩:=hh;have e1:=jZ hx;obtain ⟨v,hr,hv⟩:=Qdi (P:=P) (w:=w) hb hc (ev t x) (ev t y) cl.argTypes o.type;refine Jz (st:=st) (s:=Builtin.min_ cl.argTypes o.type #[a.eval x,a.eval y]) ?_ (Qu h hr (by simpa only [RA] using hv)) hn
     simp [execOp,Js,resolve,hcal,e1,invoke,builtin]
    ·cases hh
   ·cases hh
  case h_4 hcal =>
   split at hh
   ·next x y t ts hx ht =>
    unfold Vf at hh;split at hh
    ·next c1 d hb =>
     simp only [Zb,Zc] at hh;obtain ⟨rfl,rfl,rfl⟩:=hh;have e1:=jZ hx;obtain ⟨v,hr,hv⟩:=Qdl (P:=P) (w:=w) hb hc (ev t x) (ev t y) cl.argTypes o.type;refine Jz (st:=st) (s:=Builtin.max_ cl.argTypes o.type #[a.eval x,a.eval y]) ?_ (Qu h hr (by simpa only [RA] using hv)) hn
     simp [execOp,Js,resolve,hcal,e1,invoke,builtin]
    ·cases hh
   ·cases hh
  case h_5 f hcal =>
   split at hh
   ·next k hk =>
    obtain ⟨mL,Ab⟩:=mW K h (Mc h.tmps cl.args.toList cl.argTypes.toList) hh hc;refine Eg (st:=st) (args:=(cl.args.toList.map a.eval).toArray) ?_ Ab hn;have:=mL (cl.args.toList.map a.eval).toArray w;have e:cl.args.map a.eval=(cl.args.toList.map a.eval).toArray:=by cases cl.args;simp
    simp only [execOp,Js,resolve,hcal,Act.eval,Deferred.ofValue];simpa [invoke,e] using this
   ·cases hh
  case h_6 f hcal =>
   split at hh
   ·next k hk =>
    have hf:=ev 0 (.tmp f);unfold yI at hh;have e:cl.args.map a.eval=(cl.args.toList.map a.eval).toArray:=by cases cl.args;simp
    split at hh
    ·next g caps hfv =>
     rw [hfv] at hf;simp only [RA,R] at hf;obtain ⟨cs,Qoq,uD⟩:=hf;obtain ⟨mL,Ab⟩:=mW K h (RAs.append (Mc h.tmps cl.args.toList cl.argTypes.toList) (RAs.of_Rs uD)) hh hc;refine Eg (st:=st) (args:=(cl.args.toList.map a.eval++cs).toArray) ?_ Ab hn;have:=mL (cl.args.toList.map a.eval++cs).toArray w;simp only [execOp,Js,resolve,hcal,Qoq,Deferred.ofValue];simpa [invoke,e] using this
    ·next g caps hfv =>
     rw [hfv] at hf;simp only [RA] at hf;obtain ⟨cs,Qoq,uD⟩:=hf;obtain ⟨mL,Ab⟩:=mW K h (RAs.append (Mc h.tmps cl.args.toList cl.argTypes.toList) uD) hh hc;refine Eg (st:=st) (args:=(cl.args.toList.map a.eval++cs).toArray) ?_ Ab hn;have:=mL (cl.args.toList.map a.eval++cs).toArray w;simp only [execOp,Js,resolve,hcal,Qoq,Deferred.ofValue];simpa [invoke,e] using this
    ·cases hh
   ·cases hh
  case h_7=>cases hh
 case h_25=>cases hh
end
def Q0 {α:Type} (S:Nat→Prop) (f:Qh→Option (Prop×α×Qh)):Prop :=
 ∀ o o' c x p,(∀ k,S k→lk o k=lk o' k)→f o=some (c,x,p)→∃ p',f o'=some (c,x,p')∧(∀ k,S k→lk p k=lk p' k)∧(∀ k,¬ S k→lk p k=lk o k∧lk p' k=lk o' k)
section
variable {α β:Type} {S:Nat→Prop}
theorem Q0.ret (c:Prop) (x:α):Q0 S (fun o=>some (c,x,o)):=by
 intro o o' c' x' p h he;simp only [Zb,Zc] at he;obtain ⟨rfl,rfl,rfl⟩:=he;exact ⟨o',rfl,h,fun k _=>⟨rfl,rfl⟩⟩
theorem Q0.none:Q0 (α:=α) S (fun _=>none):=by
 intro o o' c' x' p h he;cases he
theorem Q0.upd {i:Nat} (hi:S i) (c:Prop) (x:α) (b:Obj):Q0 S (fun o=>some (c,x,upd o i b)):=by
 intro o o' c' x' p h he;simp only [Zb,Zc] at he;obtain ⟨rfl,rfl,rfl⟩:=he;refine ⟨_,rfl,fun k hk=>?_,fun k hk=>?_⟩
 ·rw [Xw,Xw,h k hk]
 ·have:k≠i:=fun e=>hk (e▸hi);rw [Xw,Xw,if_neg this,if_neg this];exact ⟨rfl,rfl⟩
theorem Q0.lk {i:Nat} (hi:S i) {g:Option Obj→Qh→Option (Prop×α×Qh)} (h:∀ v,Q0 S (g v)):Q0 S (fun o=>g (lk o i) o):=by
 intro o o' c x p ho he;have:=h (Go.Am.lk o i) o o' c x p ho he;rw [ho i hi] at this;exact this
theorem Q0.bind {f:Qh→Option (Prop×α×Qh)} {g:Prop→α→Qh→Option (Prop×β×Qh)} (hf:Q0 S f) (hg:∀ c x,Q0 S (g c x)) :
  Q0 S (fun o=>match f o with|some (c,x,p)=>g c x p|Option.none=>Option.none):=by
 intro o o' c x p ho he;simp only at he;split at he
 ·next c1 x1 p1 Zhw =>
  obtain ⟨p1',k1,k2,k3⟩:=hf o o' c1 x1 p1 ho Zhw;obtain ⟨p',j1,j2,j3⟩:=hg c1 x1 p1 p1' c x p k2 he;refine ⟨p',?_,j2,fun k hk=>⟨(j3 k hk).1.trans (k3 k hk).1,(j3 k hk).2.trans (k3 k hk).2⟩⟩;simp only [k1];exact j1
 ·cases he
theorem Q0.bindE {f:Qh→Option (Prop×α×Qh)} {g:Prop→α→Qh→Option (Prop×β×Qh)} {F:Qh→Option (Prop×β×Qh)} (hf:Q0 S f) (hg:∀ c x,Q0 S (g c x))
  (h0:∀ o,f o=Option.none→F o=Option.none) (h1:∀ o c x p,f o=some (c,x,p)→F o=g c x p):Q0 S F:=by
 have:F=fun o=>match f o with|some (c,x,p)=>g c x p|Option.none=>Option.none:=by
  funext o
  split
  ·next c x p h=>exact h1 o c x p h
  ·next h=>exact h0 o h
 rw [this];exact Q0.bind hf hg
theorem Q0.lkE {i:Nat} (hi:S i) {g:Option Obj→Qh→Option (Prop×α×Qh)} {F:Qh→Option (Prop×α×Qh)} (h:∀ v,Q0 S (g v)) (hF:∀ o v,Go.Am.lk o i=v→F o=g v o):Q0 S F:=by
 have:F=fun o=>g (Go.Am.lk o i) o:=by
  funext o
  exact hF o _ rfl
 rw [this];exact Q0.lk hi h
theorem Q0.congr {f g:Qh→Option (Prop×α×Qh)} (h:Q0 S f) (e:∀ o,f o=g o):Q0 S g:=by
 have:f=g:=funext e;exact this▸h
theorem Q0.mono {S':Nat→Prop} {f:Qh→Option (Prop×α×Qh)} (h:Q0 S f) (hs:∀ k,S k→S' k):Q0 S' f:=by
 intro o o' c x p ho he;obtain ⟨p',k1,k2,k3⟩:=h o o' c x p (fun k hk=>ho k (hs k hk)) he;refine ⟨p',k1,fun k hk=>?_,fun k hk=>k3 k (fun h=>hk (hs k h))⟩;by_cases hs:S k
 ·exact k2 k hs
 ·rw [(k3 k hs).1,(k3 k hs).2,ho k hk]
end
section
variable {C:Ctx} {S:Nat→Prop}
theorem Zev {e key:Nat} {x:AV} (hk:S key):Q0 S (bA C e key x):=by
 refine Q0.congr (Q0.lk (g:=fun v o=>match C.ag e,v with
  | some ag,none=>some (x.fits (C.size e),AV.ref key 0,upd o key (.box ag (x.cells ag (C.size e))))
  | _,_=>none) hk fun v=>?_) (fun o=>rfl)
 split
 ·exact Q0.upd hk _ _ _
 ·exact Q0.none
theorem rF {t:Nat} {p:AV} (hk:∀ k∈p.keys,S k):Q0 S (Bq C t p):=by
 cases p with
 | d x =>
  cases x with
  | ptr s x =>
   refine Q0.congr (f:=fun o=>match C.ag t with
    | some true=>if s=C.size t then some (True,.d x.asAgg,o) else none
    | some false=>if s=1 then some (True,.d (x.cell 0),o) else none
    | none=>none) ?_ (fun o=>rfl)
   repeat' split
   all_goals first|exact Q0.ret _ _|exact Q0.none
  | _=>exact Q0.none
 | ref i f =>
  have hi:=hk i (by simp [AV.keys])
  refine Q0.congr (Q0.lk (g:=fun v o=>match v with
   | some (.box _ cells)=>match C.ag t with
    | some true=>if f+C.size t≤cells.length then some (True,tK ((cells.drop f).take (C.size t)),o) else none
    | some false=>if f<cells.length then some (True,cells.getD f .dead,o) else none
    | none=>none
   | some (.fbox s x)=>match C.ag t with
    | some true=>if f=0∧s=C.size t then some (True,.d x.asAgg,o) else none
    | some false=>if f<s then some (True,.d (x.cell f),o) else none
    | none=>none
   | _=>none) hi fun v=>?_) (fun o=>rfl)
  repeat' split
  all_goals first|exact Q0.ret _ _|exact Q0.none
 | rref i n e f =>
  have hi:=hk i (by simp [AV.keys])
  refine Q0.congr (Q0.lk (g:=fun v o=>match v with
   | some (.row s els _)=>match C.ag t with
    | some true=>if f=0∧s=C.size t then some (n=els.length∧e<els.length,.d (el els e).asAgg,o) else none
    | some false=>if f<s then some (n=els.length∧e<els.length,.d ((el els e).cell f),o) else none
    | none=>none
   | _=>none) hi fun v=>?_) (fun o=>rfl)
  repeat' split
  all_goals first|exact Q0.ret _ _|exact Q0.none
 | _=>exact Q0.none
theorem Qgx {t:Nat} {p:AV} (hk:∀ k∈p.keys,S k):Q0 S (kX C t p):=by
 cases p with
 | rref i n e f =>
  have hi:=hk i (by simp [AV.keys])
  have hj:=hk (50000+i) (by simp [AV.keys])
  refine Q0.lkE hj (g:=fun v o=>match v with
   | some (.hole i' n0 e0 f0 x)=>if i'=i∧f0=f then match lk o i,C.ag t with
     | some (.row s els _),some false=>some (n=n0∧n=els.length∧e=e0,x,o)
     | _,_=>none
    else Bq C t (.rref i n e f) o
   | _=>Bq C t (.rref i n e f) o) (fun v=>?_) (fun o v h=>by simp only [kX,h];rcases v with _|(_|_|_|_|_|_|_)<;>rfl)
  split
  ·next i' n0 e0 f0 x =>
   split
   ·refine Q0.lkE hi (g:=fun v o=>match v,C.ag t with
     | some (.row s els _),some false=>some (n=n0∧n=els.length∧e=e0,x,o)
     | _,_=>none) (fun v=>?_) (fun o v h=>by simp only [h])
    split
    ·exact Q0.ret _ _
    ·exact Q0.none
   ·exact rF hk
  ·exact rF hk
 | _=>exact Q0.congr (rF (C:=C) (t:=t) hk) (fun o=>rfl)
theorem Qdt {x:AV} (hk:∀ k∈x.keys,S k):Q0 S (dV x):=by
 cases x with
 | d x=>exact Q0.ret _ _
 | nils s=>exact Q0.ret _ _
 | sl i n =>
  have hi:=hk i (by simp [AV.keys])
  refine Q0.lkE hi (g:=fun v o=>match v with
   | some (.row s els _)=>some (n=els.length,D.list s els,upd o i (.row s els els.length))
   | _=>none) (fun v=>?_) (fun o v h=>?_)
  ·split
   ·exact Q0.upd hi _ _ _
   ·exact Q0.none
  ·simp only [dV,h];rcases v with _|(_|_|_|_|_|_|_)<;>rfl
 | _=>exact Q0.none
theorem yV:∀ {l:List AV} (_:∀ k∈keysAll l,S k),Q0 S (F3 l)
 | [],_=>Q0.ret _ _
 | x::r,h=>by
  simp only [keysAll,List.mem_append] at h;refine Q0.bindE (g:=fun c y o'=>match F3 r o' with
   | some (c',l,o'')=>some (c∧c',y::l,o'')
   | none=>none) (Qdt (fun k hk=>h k (.inl hk))) (fun c y=>?_) (fun o e=>by simp only [F3,e]) (fun o c x p e=>by simp only [F3,e];try rfl)
  refine Q0.bindE (g:=fun c' l o''=>some (c∧c',y::l,o'')) (yV (fun k hk=>h k (.inr hk))) (fun c y=>Q0.ret _ _) (fun o e=>by simp only [e]) (fun o c x p e=>by simp only [e];try rfl)
theorem Oi {x:AV} (hk:∀ k∈x.keys,S k):Q0 S (pur 1 x):=by
 cases x with
 | d x=>exact Q0.ret _ _
 | nils s=>exact Q0.ret _ _
 | sl i n =>
  have hi:=hk i (by simp [AV.keys])
  refine Q0.lkE hi (g:=fun v o=>match v with
   | some (.row s els _)=>some (n=els.length,D.list s els,upd o i (.row s els els.length))
   | _=>none) (fun v=>?_) (fun o v h=>?_)
  ·split
   ·exact Q0.upd hi _ _ _
   ·exact Q0.none
  ·simp only [pur,h];rcases v with _|(_|_|_|_|_|_|_)<;>rfl
 | ref i f =>
  have hi:=hk i (by simp [AV.keys])
  cases f with
  | succ f=>exact Q0.none
  | zero =>
   refine Q0.lkE hi (g:=fun v o=>match v with
    | some (.fbox s x)=>some (True,D.ptr s x,o)
    | _=>none) (fun v=>?_) (fun o v h=>?_)
   ·split
    ·exact Q0.ret _ _
    ·exact Q0.none
   ·simp only [pur,h];cases v with
    | none=>rfl
    | some ob=>cases ob<;>simp [purs]
 | mpr i =>
  have hi:=hk i (by simp [AV.keys])
  refine Q0.lkE hi (g:=fun v o=>match v with
   | some (.mp ks vs _)=>some (True,D.map ks vs,upd o i (.mp ks vs true))
   | _=>none) (fun v=>?_) (fun o v h=>?_)
  ·split
   ·exact Q0.upd hi _ _ _
   ·exact Q0.none
  ·simp only [pur,h];rcases v with _|(_|_|_|_|_|_|_)<;>rfl
 | agg l =>
  cases hf:eO l with
  | some xs=>exact Q0.congr (Q0.ret True (D.agg xs)) (fun o=>by simp only [pur,hf])
  | none =>
   refine Q0.bindE (g:=fun c xs o'=>some (c,D.agg xs,o')) (yV (l:=l) (fun k h=>hk k (by simpa [AV.keys] using h))) (fun c y=>Q0.ret _ _) (fun o e=>by simp only [pur,hf,e];cases l<;>simp [purs]) (fun o c x p e=>by simp only [pur,hf,e])
 | tup l=>exact Q0.congr Q0.none (fun o=>by cases l<;>simp [pur,purs])
 | clo f l=>exact Q0.congr Q0.none (fun o=>by cases l<;>simp [pur,purs])
 | rref a b c d=>exact Q0.none
 | sb a b c=>exact Q0.none
 | dead=>exact Q0.none
theorem aG {C:Ctx} (hC:C.dp=1) {t:Nat} {p x:AV} (hp:∀ k∈p.keys,S k) (hx:∀ k∈x.keys,S k):Q0 S (Hq C t p x):=by
 cases p with
 | ref i f =>
  have hi:=hp i (by simp [AV.keys])
  refine Q0.lkE hi (g:=fun v o=>match v with
   | some (.box ag cells)=>match C.ag t with
    | some true=>if f+C.size t≤cells.length then some (x.fits (C.size t),AV.dead,upd o i (.box ag (Iw cells f (x.cells true (C.size t))))) else none
    | some false=>if f<cells.length then some (x.fits 1∧C.size t=1,AV.dead,upd o i (.box ag (Iw cells f (x.cells false 1)))) else none
    | none=>none
   | _=>none) (fun v=>?_) (fun o v h=>?_)
  ·repeat' split
   all_goals first|exact Q0.upd hi _ _ _|exact Q0.none
  ·simp only [Hq,h];rcases v with _|(_|_|_|_|_|_|_)<;>rfl
 | rref i n e f =>
  have hi:=hp i (by simp [AV.keys])
  refine Q0.lkE hi (g:=fun v o=>match v with
   | some (.row _ _ _)=>(match pur 1 x o with
    | some (c,y,o')=>(match lk o' i with
     | some (.row s els k)=>match C.ag t with
      | some true=>if f=0∧s=C.size t then some (c∧n=els.length∧e<els.length∧k≤e∧y.fits s,AV.dead,upd o' i (.row s (els.set e y) k)) else none
      | some false=>if f<s then some (c∧n=els.length∧e<els.length∧k≤e∧y.fits 1∧C.size t=1,AV.dead,upd o' i (.row s (els.set e ((el els e).setCell f (y.cell 0))) k)) else none
      | none=>none
     | _=>none)
    | none=>none)
   | _=>none) (fun v=>?_) (fun o v h=>?_)
  ·split
   ·refine Q0.bindE (g:=fun c y o'=>(match lk o' i with
     | some (.row s els k)=>match C.ag t with
      | some true=>if f=0∧s=C.size t then some (c∧n=els.length∧e<els.length∧k≤e∧y.fits s,AV.dead,upd o' i (.row s (els.set e y) k)) else none
      | some false=>if f<s then some (c∧n=els.length∧e<els.length∧k≤e∧y.fits 1∧C.size t=1,AV.dead,upd o' i (.row s (els.set e ((el els e).setCell f (y.cell 0))) k)) else none
      | none=>none
     | _=>none)) (Oi hx) (fun c y=>?_) (fun o h=>by simp only [h]) (fun o c x p h=>by simp only [h];try rfl)
    refine Q0.lkE hi (g:=fun v o'=>match v with
     | some (.row s els k)=>match C.ag t with
      | some true=>if f=0∧s=C.size t then some (c∧n=els.length∧e<els.length∧k≤e∧y.fits s,AV.dead,upd o' i (.row s (els.set e y) k)) else none
      | some false=>if f<s then some (c∧n=els.length∧e<els.length∧k≤e∧y.fits 1∧C.size t=1,AV.dead,upd o' i (.row s (els.set e ((el els e).setCell f (y.cell 0))) k)) else none
      | none=>none
     | _=>none) (fun v=>?_) (fun o v h=>by simp only [h];try rfl)
    repeat' split
    all_goals first|exact Q0.upd hi _ _ _|exact Q0.none
   ·exact Q0.none
  ·simp only [Hq,hC,h];cases v with
   | none=>rfl
   | some ob =>
    cases ob with
    | row s els k =>
     simp only;cases pur 1 x o with
     | none=>rfl
     | some r=>rfl
    | _=>rfl
 | _=>exact Q0.none
theorem Qcj {C:Ctx} (hC:C.dp=1) {t:Nat} {p x:AV} (hp:∀ k∈p.keys,S k) (hx:∀ k∈x.keys,S k):Q0 S (lP C t p x):=by
 cases p with
 | rref i n e f =>
  have hi:=hp i (by simp [AV.keys])
  have hj:=hp (50000+i) (by simp [AV.keys])
  cases x with
  | sl j jm =>
   refine Q0.lkE hj (g:=fun v o=>match v with
    | some (.slot e0 f0)=>if f0=f then match lk o i,C.ag t with
      | some (.row s els k),some false=>if f<s then some (e=e0∧k≤e∧n=els.length∧e<els.length∧C.size t=1,AV.dead,upd (upd o i (.row s (els.set e ((el els e).setCell f .any)) (e+1))) (50000+i) (.hole i n e f (.sl j jm))) else none
      | _,_=>none
     else Hq C t (.rref i n e f) (.sl j jm) o
    | _=>Hq C t (.rref i n e f) (.sl j jm) o) (fun v=>?_) (fun o v h=>by simp only [lP,h];rcases v with _|(_|_|_|_|_|_|_)<;>rfl)
   split
   ·next e0 f0 =>
    split
    ·refine Q0.lkE hi (g:=fun v o=>match v,C.ag t with
      | some (.row s els k),some false=>if f<s then some (e=e0∧k≤e∧n=els.length∧e<els.length∧C.size t=1,AV.dead,upd (upd o i (.row s (els.set e ((el els e).setCell f .any)) (e+1))) (50000+i) (.hole i n e f (.sl j jm))) else none
      | _,_=>none) (fun v=>?_) (fun o v h=>by simp only [h])
     split
     ·split
      ·next s els k _ _ =>
       refine Q0.bindE (f:=fun o=>some (True,(),upd o i (.row s (els.set e ((el els e).setCell f .any)) (e+1)))) (g:=fun _ _ o=>some (e=e0∧k≤e∧n=els.length∧e<els.length∧C.size t=1,AV.dead,upd o (50000+i) (.hole i n e f (.sl j jm)))) (Q0.upd hi _ _ _) (fun _ _=>Q0.upd hj _ _ _) (fun o h=>by cases h) (fun o c x p h=>by
        simp only [Zb,Zc] at h;obtain ⟨-,-,rfl⟩:=h;rfl)
      ·exact Q0.none
     ·exact Q0.none
    ·exact aG hC hp hx
   ·exact aG hC hp hx
  | _=>exact Q0.congr (aG hC (t:=t) hp hx) (fun o=>rfl)
 | _=>cases x<;>exact Q0.congr (aG hC (t:=t) hp hx) (fun o=>rfl)
theorem Zbp {t f:Nat} {p:AV} (hp:∀ k∈p.keys,S k):Q0 S (Nt C t p f):=by
 unfold Nt;split
 ·next off sz _ =>
  cases p with
  | ref i f0 =>
   have hi:=hp i (by simp [AV.keys])
   refine Q0.lkE hi (g:=fun v o=>match v with
    | some ob=>if ob.isBox=true then some (True,.ref i (f0+off),o) else none
    | none=>none) (fun v=>?_) (fun o v h=>by simp only [h];cases v<;>rfl)
   repeat' split
   all_goals first|exact Q0.ret _ _|exact Q0.none
  | rref i n e f0 =>
   have hi:=hp i (by simp [AV.keys])
   refine Q0.lkE hi (g:=fun v o=>match v with
    | some (.row _ els _)=>some (n=els.length,.rref i n e (f0+off),o)
    | _=>none) (fun v=>?_) (fun o v h=>by simp only [h];rcases v with _|(_|_|_|_|_|_|_)<;>rfl)
   repeat' split
   all_goals first|exact Q0.ret _ _|exact Q0.none
  | d x =>
   cases x with
   | ptr s x =>
    simp only;repeat' split
    all_goals first|exact Q0.ret _ _|exact Q0.none
   | _=>exact Q0.none
  | _=>exact Q0.none
 ·exact Q0.none
theorem xU {kt et:Nat} {ks vs:List D} {i:D} {ok:Bool}:Q0 S (Fw C kt et ks vs i ok):=by
 unfold Fw;repeat' split
 all_goals first|exact Q0.ret _ _|exact Q0.none
theorem Zxy {t:Nat} {x ix:AV} {ok:Bool} (hp:∀ k∈x.keys,S k):Q0 S (Ay C t x ix ok):=by
 unfold Ay;split
 ·split
  ·exact xU
  ·next j =>
   have hi:=hp j (by simp [AV.keys])
   refine Q0.lkE hi (g:=fun v o=>match v with
    | some (.mp ks vs _)=>Fw C _ _ ks vs _ ok o
    | _=>none) (fun v=>?_) (fun o v h=>by simp only [h];rcases v with _|(_|_|_|_|_|_|_)<;>rfl)
   split
   ·exact xU
   ·exact Q0.none
  ·exact Q0.none
 ·exact Q0.none
theorem Zkc {key:Nat} (hk:S key):Q0 S (Oy key):=by
 refine Q0.congr (Q0.lk (g:=fun v o=>match v with
  | none=>some (True,AV.mpr key,upd o key (.mp [] [] false))
  | some _=>none) hk fun v=>?_) (fun o=>rfl)
 split
 ·exact Q0.upd hk _ _ _
 ·exact Q0.none
theorem Zbi (hC:C.dp=1) {t:Nat} {x ix y:AV} (hp:∀ k∈x.keys,S k) (hy:∀ k∈y.keys,S k):Q0 S (Bo C t x ix y):=by
 unfold Bo;split
 ·next kt et i j _ =>
  have hi:=hp j (by simp [AV.keys])
  refine Q0.bindE (g:=fun c z o'=>(match lk o' j with
   | some (.mp ks vs false)=>some (c∧G4 (C.τ kt).kind i∧Gk (C.τ kt).kind ks,AV.dead,upd o' j (.mp (tB i ks) (Fx i z ks vs) false))
   | _=>none)) (Oi hy) (fun c z=>?_) (fun o h=>by simp only [hC,h]) (fun o c x p h=>by simp only [hC,h];try rfl)
  refine Q0.lkE hi (g:=fun v o'=>match v with
   | some (.mp ks vs false)=>some (c∧G4 (C.τ kt).kind i∧Gk (C.τ kt).kind ks,AV.dead,upd o' j (.mp (tB i ks) (Fx i z ks vs) false))
   | _=>none) (fun v=>?_) (fun o v h=>by simp only [h];try rfl)
  repeat' split
  all_goals first|exact Q0.upd hi _ _ _|exact Q0.none
 ·exact Q0.none
theorem Zbl {t:Nat} {x ix:AV} (hp:∀ k∈x.keys,S k):Q0 S (Ns C t x ix):=by
 unfold Ns;split
 ·next e i _ =>
  cases x with
  | d y=>exact Q0.ret _ _
  | sl k n =>
   have hi:=hp k (by simp [AV.keys])
   refine Q0.lkE hi (g:=fun v o=>match v with
    | some (.row s els _)=>if s=C.size e then some (n=els.length∧i.isAnyInt∧0≤i.i∧i.i<els.length,.rref k n i.i.toNat 0,o) else none
    | _=>none) (fun v=>?_) (fun o v h=>by simp only [h];rcases v with _|(_|_|_|_|_|_|_)<;>rfl)
   repeat' split
   all_goals first|exact Q0.ret _ _|exact Q0.none
  | sb k n f =>
   have hi:=hp k (by simp [AV.keys])
   refine Q0.lkE hi (g:=fun v o=>match v with
    | some (.row s els _)=>if s=C.size e then some (n=els.length∧i.isAnyInt∧0≤i.i∧(f:Int)+i.i<els.length,.rref k n (f+i.i.toNat) 0,o) else none
    | _=>none) (fun v=>?_) (fun o v h=>by simp only [h];rcases v with _|(_|_|_|_|_|_|_)<;>rfl)
   repeat' split
   all_goals first|exact Q0.ret _ _|exact Q0.none
  | _=>exact Q0.none
 ·next n e k j _ =>
  split
  ·cases x with
   | ref i f0 =>
    have hi:=hp i (by simp [AV.keys])
    refine Q0.lkE hi (g:=fun v o=>match v with
     | some ob=>if ob.isBox=true then some (True,.ref i (f0+j.toNat),o) else none
     | none=>none) (fun v=>?_) (fun o v h=>by simp only [h];cases v<;>rfl)
    repeat' split
    all_goals first|exact Q0.ret _ _|exact Q0.none
   | d y =>
    cases y with
    | ptr s y =>
     simp only;repeat' split
     all_goals first|exact Q0.ret _ _|exact Q0.none
    | _=>exact Q0.none
   | _=>exact Q0.none
  ·exact Q0.none
 ·exact Q0.none
theorem Qdz {t:Nat} {x ix:AV}:Q0 S (eG C t x ix):=by
 unfold eG;repeat' split
 all_goals first|exact Q0.ret _ _|exact Q0.none
theorem Qcm (hC:C.dp=1) {t:Nat} {x:AV} {lo hi mx:Option AV} (hp:∀ k∈x.keys,S k):Q0 S (lR C t x lo hi mx):=by
 unfold lR;split
 ·split
  ·split;all_goals first|exact Q0.ret _ _|exact Q0.none
  ·exact Q0.none
 ·next e _ =>
  refine Q0.bindE (g:=fun c y o'=>match lo,hi with
   | some (.d a),some (.d b)=>some (c∧y.isList (C.size e)∧a.isAnyInt∧b.isAnyInt∧0≤a.i∧a.i≤b.i∧b.i≤y.l.length,.d (.list (C.size e) ((y.l.take b.i.toNat).drop a.i.toNat)),o')
   | some (.d a),none=>some (c∧y.isList (C.size e)∧a.isAnyInt∧0≤a.i∧a.i≤y.l.length,.d (.list (C.size e) (y.l.drop a.i.toNat)),o')
   | none,some (.d b)=>some (c∧y.isList (C.size e)∧b.isAnyInt∧0≤b.i∧b.i≤y.l.length,.d (.list (C.size e) (y.l.take b.i.toNat)),o')
   | _,_=>none) (Oi hp) (fun c y=>?_) (fun o h=>by simp only [hC,h]) (fun o c x p h=>by simp only [hC,h];try rfl)
  split;all_goals first|exact Q0.ret _ _|exact Q0.none
 ·next e m _ =>
  refine Q0.bindE (g:=fun c y o'=>match lo,hi with
   | some (.d a),some (.d b)=>some (c∧y.isList (C.size e)∧a.isAnyInt∧b.isAnyInt∧m.isAnyInt∧0≤a.i∧a.i≤b.i∧b.i≤m.i∧m.i≤y.l.length,.d (.list (C.size e) ((y.l.take b.i.toNat).drop a.i.toNat)),o')
   | _,_=>none) (Oi hp) (fun c y=>?_) (fun o h=>by simp only [hC,h]) (fun o c x p h=>by simp only [hC,h];try rfl)
  split;all_goals first|exact Q0.ret _ _|exact Q0.none
 ·exact Q0.none
theorem Zll {x:AV} {i:Nat}:Q0 S (Cc x i):=by
 unfold Cc;split
 ·split;all_goals first|exact Q0.ret _ _|exact Q0.none
 ·split;all_goals first|exact Q0.ret _ _|exact Q0.none
 ·exact Q0.none
theorem Qd8 {t f:Nat} {x:AV}:Q0 S (eH C t x f):=by
 unfold eH;split
 ·split
  ·split
   ·exact Q0.ret _ _
   ·split;all_goals first|exact Q0.ret _ _|exact Q0.none
   ·exact Q0.none
  ·exact Q0.none
 ·exact Q0.none
theorem nW (hC:C.dp=1):∀ {ps:List (Nat×AV)} (_:∀ k∈keysAll (ps.map (·.2)),S k),Q0 S (Nl C ps)
 | [],_=>Q0.ret _ _
 | (i,x)::r,h=>by
  simp only [List.map_cons,keysAll,List.mem_append] at h;refine Q0.bindE (g:=fun c y o'=>match Nl C r o' with
   | some (c',l,o'')=>some (c∧c',(i,y)::l,o'')
   | none=>none) (Oi (fun k hk=>h k (.inl hk))) (fun c y=>?_) (fun o e=>by simp only [Nl,hC,e]) (fun o c x p e=>by simp only [Nl,hC,e];try rfl)
  refine Q0.bindE (g:=fun c' l o''=>some (c∧c',(i,y)::l,o'')) (nW hC (fun k hk=>h k (.inr hk))) (fun c y=>Q0.ret _ _) (fun o e=>by simp only [e]) (fun o c x p e=>by simp only [e];try rfl)
theorem Zag (hC:C.dp=1) {t n key:Nat} {ps:List (Nat×AV)} (hp:∀ k∈keysAll (ps.map (·.2)),S k) (hk:S key):Q0 S (Nu C t n ps key):=by
 unfold Nu;split
 ·next e _ =>
  refine Q0.bindE (g:=fun c qs o'=>match lk o' key with
   | none=>if n*C.size e≤16777216∧uV n ps=true then
     some (c∧I9 (C.size e) (qs.map (·.2)),AV.sl key n,upd o' key (.row (C.size e) (Ix (Es (C.τ e).zd n) qs) 0)) else none
   | some _=>none) (nW hC hp) (fun c y=>?_) (fun o e=>by simp only [e]) (fun o c x p e=>by simp only [e];try rfl)
  refine Q0.lkE hk (g:=fun v o'=>match v with
   | none=>if n*C.size e≤16777216∧uV n ps=true then
     some (c∧I9 (C.size e) (y.map (·.2)),AV.sl key n,upd o' key (.row (C.size e) (Ix (Es (C.τ e).zd n) y) 0)) else none
   | some _=>none) (fun v=>?_) (fun o v h=>by simp only [h];try rfl)
  repeat' split
  all_goals first|exact Q0.upd hk _ _ _|exact Q0.none
 ·exact Q0.none
theorem Zbj {t key:Nat} {l c:AV} (hk:S key):Q0 S (Bp C t l c key):=by
 unfold Bp;split
 ·next e a b _ =>
  refine Q0.lkE hk (g:=fun v o=>match v with
   | none=>some (a.isAnyInt∧b.isAnyInt∧0≤a.i∧a.i=b.i∧(C.τ e).bytes*b.i≤281474976710656∧b.i≤4294967296,
     AV.sl key a.i.toNat,upd o key (.row (C.size e) (List.replicate a.i.toNat (C.τ e).zd) 0))
   | some _=>none) (fun v=>?_) (fun o v h=>by simp only [h];cases v<;>rfl)
  repeat' split
  all_goals first|exact Q0.upd hk _ _ _|exact Q0.none
 ·exact Q0.none
theorem Zw9 {s:Nat} {x:AV} (hx:∀ k∈x.keys,S k) {o o':Qh} (h:∀ k,S k→lk o k=lk o' k):Hr s x o=Hr s x o':=by
 cases x with
 | sl i n=>simp only [Hr,h i (hx i (by simp [AV.keys]))]
 | _=>rfl
theorem Zza {t key:Nat} {s x:AV} (hs:∀ k∈s.keys,S k) (hx:∀ k∈x.keys,S k) (hk:S key):Q0 S (bK C t s x key):=by
 intro o o' c z p ho he;have Qe7:∀ s',Hr s' x o'=Hr s' x o:=fun s'=>(Zw9 hx ho).symm;unfold bK at he ⊢;simp only [Qe7];revert he;split
 ·next e _ =>
  split
  ·next c1 xs _ =>
   cases s with
   | nils s =>
    have h2:Q0 S (fun o=>match lk o key with
     | none=>some (c1∧xs.length*(C.τ e).bytes≤140737488355328∧xs.length≤4611686018427387904,AV.sl key xs.length,upd o key (.row (C.size e) xs 0))
     | some _=>none):=by
     refine Q0.lkE hk (g:=fun v o=>match v with
      | none=>some (c1∧xs.length*(C.τ e).bytes≤140737488355328∧xs.length≤4611686018427387904,AV.sl key xs.length,upd o key (.row (C.size e) xs 0))
      | some _=>none) (fun v=>?_) (fun o v h=>by simp only [h];try rfl)
     repeat' split
     all_goals first|exact Q0.upd hk _ _ _|exact Q0.none
    exact h2 o o' c z p ho
   | sl i n =>
    have hi:=hs i (by simp [AV.keys])
    have h2:Q0 S (fun o=>match lk o i with
     | some (.row s' els k)=>if s'=C.size e then
       some (c1∧n=els.length∧(els.length+xs.length)*(C.τ e).bytes≤140737488355328∧els.length+xs.length≤4611686018427387904,AV.sl i (els++xs).length,upd o i (.row s' (els++xs) k)) else none
     | _=>none):=by
     refine Q0.lkE hi (g:=fun v o=>match v with
      | some (.row s' els k)=>if s'=C.size e then
       some (c1∧n=els.length∧(els.length+xs.length)*(C.τ e).bytes≤140737488355328∧els.length+xs.length≤4611686018427387904,AV.sl i (els++xs).length,upd o i (.row s' (els++xs) k)) else none
      | _=>none) (fun v=>?_) (fun o v h=>by simp only [h];try rfl)
     repeat' split
     all_goals first|exact Q0.upd hi _ _ _|exact Q0.none
    exact h2 o o' c z p ho
   | _=>intro he;cases he
  ·intro he;cases he
 ·intro he;cases he
theorem Q0.eqf {α:Type} {f g:Qh→Option (Prop×α×Qh)} (h:∀ o,f o=g o) (hg:Q0 S g):Q0 S f:=by
 rw [show f=g from funext h];exact hg
theorem Qjk {α:Type} {x:AV} (hx:∀ k∈x.keys,S k) {n:Nat} {f:Prop×List D→Option (Prop×α)}:Q0 S (fun o=>match Hr n x o with
  | some y=>(f y).map fun z=>(z.1,z.2,o)
  | none=>none):=by
 have fM:∀ y:Prop×List D,Q0 S fun o=>(f y).map fun z=>(z.1,z.2,o):=fun y=>by
  cases f y with
  | none=>exact Q0.none
  | some z=>exact Q0.ret _ _
 unfold Hr;split
 ·exact fM _
 ·exact fM _
 ·next i n' =>
  have hi:=hx i (by simp [AV.keys])
  refine Q0.lkE hi (g:=fun v o=>match (match v with
   | some (.row s' els _)=>if s'=n then some (n'=els.length,els) else none
   | _=>none:Option (Prop×List D)) with
   | some y=>(f y).map fun z=>(z.1,z.2,o)
   | none=>none) (fun v=>?_) (fun o v h=>by simp only [h];rcases v with _|(_|_|_|_|_|_|_)<;>rfl)
  rcases v with _|(_|_|_|_|_)
  all_goals first|exact Q0.none|skip
  all_goals
   simp only;split
   ·next h=>split at h<;>first|(cases h;exact fM _)|cases h
   ·exact Q0.none
 ·exact Q0.none
theorem Qej {s t:Nat} {x:AV} (hx:∀ k∈x.keys,S k):Q0 S (eI C s t x):=by
 unfold eI;split
 ·next e _ _ =>
  by_cases hk:(C.τ e).kind=.int .u8
  ·have:=Qjk (S:=S) (α:=AV) hx (n:=1) (f:=fun y=>some (y.1∧Qls y.2,AV.d (.str (Qjg y.2))));simp only [Option.map_some] at this;rw [hk];exact Q0.eqf (fun o=>by cases Hr 1 x o<;>rfl) this
  ·refine Q0.eqf (g:=fun _=>none) (fun o=>?_) Q0.none;split
   ·next h _=>exact absurd h hk
   ·rfl
 ·unfold Vf;split<;>first|exact Q0.ret _ _|exact Q0.none
theorem Qj4 {t:Nat} {x:AV} (hx:∀ k∈x.keys,S k):Q0 S (Zkx C t x):=by
 unfold Zkx;split
 ·exact Q0.ret _ _
 ·exact Q0.ret _ _
 ·exact Q0.ret _ _
 ·next i n _ =>
  have hi:=hx i (by simp [AV.keys])
  refine Q0.lkE hi (g:=fun v o=>match v with
   | some (.row _ els _)=>some (n=els.length,AV.d (.int .i64 els.length),o)
   | _=>none) (fun v=>?_) (fun o v h=>by simp only [h];rcases v with _|(_|_|_|_|_|_|_)<;>rfl)
  repeat' split
  all_goals first|exact Q0.ret _ _|exact Q0.none
 ·next i n f _ =>
  have hi:=hx i (by simp [AV.keys])
  refine Q0.lkE hi (g:=fun v o=>match v with
   | some (.row _ els _)=>some (n=els.length,AV.d (.int .i64 (els.length-f:Nat)),o)
   | _=>none) (fun v=>?_) (fun o v h=>by simp only [h];rcases v with _|(_|_|_|_|_|_|_)<;>rfl)
  repeat' split
  all_goals first|exact Q0.ret _ _|exact Q0.none
 ·exact Q0.none
theorem lO (hC:C.dp=1):∀ {xs:List AV} {ms:List Bool} (_:∀ k∈keysAll xs,S k),Q0 S (Vv C ms xs)
 | [],ms,_=>by cases ms<;>exact Q0.ret _ _
 | x::r,[],_=>Q0.none
 | x::r,false::ms,h=>by
  simp only [keysAll,List.mem_append] at h;refine Q0.bindE (g:=fun c y o'=>match Vv C ms r o' with
   | some (c',l,o'')=>some (c∧c',CV.d y::l,o'')
   | none=>none) (Oi (fun k hk=>h k (.inl hk))) (fun c y=>?_) (fun o e=>by simp only [Vv,hC,e]) (fun o c x p e=>by simp only [Vv,hC,e];try rfl)
  refine Q0.bindE (g:=fun c' l o''=>some (c∧c',CV.d y::l,o'')) (lO hC (xs:=r) (ms:=ms) (fun k hk=>h k (.inr hk))) (fun c y=>Q0.ret _ _) (fun o e=>by simp only [e]) (fun o c x p e=>by simp only [e];try rfl)
 | x::r,true::ms,h=>by
  simp only [keysAll,List.mem_append] at h;have ih:=lO hC (ms:=ms) (fun k hk=>h k (.inr hk));cases x with
  | sl i n =>
   have hi:=h i (.inl (by simp [AV.keys]))
   refine Q0.lkE hi (g:=fun v o=>match v with
    | some (.row s els k)=>(match Vv C ms r (upd o i .gone) with
     | some (c,l,o')=>some (c∧n=els.length∧k=0∧0<s,CV.own s els::l,o')
     | none=>none)
    | _=>none) (fun v=>?_) (fun o v h=>by simp only [Vv,h];try rfl)
   split
   ·next s els k =>
    refine Q0.bindE (f:=fun o=>some (True,(),upd o i .gone)) (g:=fun _ _ o=>match Vv C ms r o with
     | some (c,l,o')=>some (c∧n=els.length∧k=0∧0<s,CV.own s els::l,o')
     | none=>none) (Q0.upd hi _ _ _) (fun _ _=>?_) (fun o e=>by cases e) (fun o c x p e=>by
      simp only [Zb,Zc] at e;obtain ⟨_,_,rfl⟩:=e;rfl)
    refine Q0.bindE (g:=fun c l o'=>some (c∧n=els.length∧k=0∧0<s,CV.own s els::l,o')) ih (fun c y=>Q0.ret _ _) (fun o e=>by simp only [e]) (fun o c x p e=>by simp only [e];try rfl)
   ·exact Q0.none
  | nils s =>
   refine Q0.bindE (g:=fun c l o'=>some (c,CV.own s []::l,o')) ih (fun c y=>Q0.ret _ _) (fun o e=>by simp only [Vv,e]) (fun o c x p e=>by simp only [Vv,e];try rfl)
  | _=>exact Q0.none
theorem xE:∀ {l:List CV} {key:Nat} (_:∀ j,S (key+4096*j)),Q0 S (fun o=>match Bk key l o with
  | some (ys,o')=>some (True,ys,o')
  | none=>none)
 | [],key,_=>Q0.congr (Q0.ret True []) (fun o=>rfl)
 | x::r,key,hk=>by
  have kH:S key:=hk 0;have ih:=xE (l:=r) (key:=key+4096) (fun j=>by have:=hk (j+1);rwa [Nat.mul_add,Nat.mul_one,Nat.add_comm (4096*j),←Nat.add_assoc] at this)
  cases x with
  | tup l=>exact Q0.congr Q0.none (fun o=>by simp only [Bk,Sn])
  | d y =>
   refine Q0.bindE (g:=fun _ ys o'=>some (True,AV.d y::ys,o')) ih (fun c y=>Q0.ret _ _) (fun o h=>?_) (fun o c x p h=>?_)
   ·simp only [Bk,Sn];split at h
    ·cases h
    ·next h2=>simp only [h2]
   ·simp only [Bk,Sn];split at h
    ·next h2 =>
     simp only [Zb,Zc] at h;obtain ⟨_,rfl,rfl⟩:=h;simp only [h2]
    ·cases h
  | own s l =>
   refine Q0.lkE kH (g:=fun v o=>match v with
    | none=>(match Bk (key+4096) r (upd o key (.row s l 0)) with
     | some (ys,o')=>some (True,AV.sl key l.length::ys,o')
     | none=>none)
    | some _=>none) (fun v=>?_) (fun o v h=>?_)
   ·split
    ·refine Q0.bindE (f:=fun o=>some (True,(),upd o key (.row s l 0))) (g:=fun _ _ o=>match Bk (key+4096) r o with
      | some (ys,o')=>some (True,AV.sl key l.length::ys,o')
      | none=>none) (Q0.upd kH _ _ _) (fun _ _=>?_) (fun o e=>by cases e) (fun o c x p e=>by
       simp only [Zb,Zc] at e;obtain ⟨_,_,rfl⟩:=e;rfl)
     refine Q0.bindE (g:=fun _ ys o'=>some (True,AV.sl key l.length::ys,o')) ih (fun c y=>Q0.ret _ _) (fun o h=>?_) (fun o c x p h=>?_)
     ·split at h
      ·cases h
      ·next h2=>simp only [h2]
     ·split at h
      ·next h2 =>
       simp only [Zb,Zc] at h;obtain ⟨_,rfl,rfl⟩:=h;simp only [h2]
      ·cases h
    ·exact Q0.none
   ·simp only [Bk,Sn,h];cases v with
    | some _=>rfl
    | none =>
     simp only;cases Bk (key+4096) r (upd o key (.row s l 0)) with
     | none=>rfl
     | some q=>rfl
theorem Qc6 {x:CV} {key:Nat} (hk:∀ j,S (key+4096*j)):Q0 S (fun o=>match nB key x o with
  | some (y,o')=>some (True,y,o')
  | none=>none):=by
 cases x with
 | tup l =>
  refine Q0.bindE (g:=fun _ ys o'=>some (True,Zc7 ys,o')) (xE (l:=l) hk) (fun c y=>Q0.ret _ _) (fun o h=>?_) (fun o c x p h=>?_)
  ·simp only [nB];split at h
   ·cases h
   ·next h2=>simp only [h2]
  ·simp only [nB];split at h
   ·next h2 =>
    simp only [Zb,Zc] at h;obtain ⟨_,rfl,rfl⟩:=h;simp only [h2]
   ·cases h
 | d y=>exact Q0.congr (Q0.ret True (AV.d y)) (fun o=>rfl)
 | own s l =>
  refine Q0.lkE (hk 0) (g:=fun v o=>match v with
   | none=>some (True,AV.sl key l.length,upd o key (.row s l 0))
   | some _=>none) (fun v=>?_) (fun o v h=>?_)
  ·split
   ·exact Q0.upd (hk 0) _ _ _
   ·exact Q0.none
  ·have h':lk o key=v:=by simpa using h
   simp only [nB,Sn,h'];cases v<;>rfl
theorem Zaf (hC:C.dp=1) {f key:Nat} {args:List AV} (ha:∀ k∈keysAll args,S k) (hk:∀ j,S (key+4096*j)):Q0 S (oA C f args key):=by
 unfold oA;split
 ·next con _ =>
  refine Q0.bindE (g:=fun c Ji o'=>match nB key (con.fn Ji) o' with
   | some (y,o'')=>some (c∧con.pre Ji,y,o'')
   | none=>none) (lO hC (ms:=con.modes) ha) (fun c Ji=>?_) (fun o h=>by simp only [h]) (fun o c x p h=>by simp only [h];try rfl)
  refine Q0.bindE (g:=fun _ y o'=>some (c∧con.pre Ji,y,o')) (Qc6 (x:=con.fn Ji) hk) (fun c y=>Q0.ret _ _) (fun o h=>?_) (fun o c x p h=>?_)
  ·split at h
   ·cases h
   ·next h2=>simp only [h2]
  ·split at h
   ·next h2 =>
    simp only [Zb,Zc] at h;obtain ⟨_,rfl,rfl⟩:=h;simp only [h2]
   ·cases h
 ·exact Q0.none
theorem F4:∀ {a b:List AV},keysAll (a++b)=keysAll a++keysAll b
 | [],b=>rfl
 | x::a,b=>by simp [keysAll,F4 (a:=a),List.append_assoc]
theorem Zdo:∀ (l:List D),keysAll (l.map .d)=[]
 | []=>rfl
 | x::l=>by simp [keysAll,AV.keys,Zdo l]
theorem Qeq (hC:C.dp=1) {f:AV} {key:Nat} {args:List AV} (hf:∀ k∈f.keys,S k) (ha:∀ k∈keysAll args,S k) (hk:∀ j,S (key+4096*j)):Q0 S (yI C f args key):=by
 cases f with
 | d x =>
  cases x with
  | clo g caps =>
   refine Zaf hC (fun k h=>?_) hk;rw [F4,Zdo,List.append_nil] at h;exact ha k h
  | _=>exact Q0.none
 | clo g caps =>
  refine Zaf hC (fun k h=>?_) hk;rw [F4,List.mem_append] at h;rcases h with h|h
  ·exact ha k h
  ·exact hf k (by simpa [AV.keys] using h)
 | _=>exact Q0.none
def Gg (l:List Nat) (k:Nat):Prop:=k % 4096∈l
theorem Zgr {st:AS} (hint:Nat) (x:Operand):(st.ev C hint x).keys=(st.ev C 0 x).keys:=by
 cases x with
 | const v =>
  simp only [AS.ev];unfold Pe;split
  ·rfl
  ·rfl
 | _=>rfl
theorem As {k:Nat}:∀ {l:List AV},k∈keysAll l↔∃ x∈l,k∈x.keys
 | []=>by simp [keysAll]
 | x::l=>by simp [keysAll,As (l:=l)]
theorem zY {st:AS}:∀ (xs:List Operand) (ts:List Nat),keysAll (qC C st xs ts)=keysAll (xs.map (st.ev C 0))
 | [],ts=>by cases ts<;>rfl
 | x::xs,[]=>by simp [qC,keysAll,zY xs []]
 | x::xs,t::ts=>by simp [qC,keysAll,zY xs ts,Zgr t x]
theorem pQ {st:AS} (h:Nat):∀ (ps:List (Nat×Operand)),keysAll ((Vj C st h ps).map (·.2))=keysAll ((ps.map (·.2)).map (st.ev C 0))
 | []=>rfl
 | (i,x)::ps=>by simp [Vj,keysAll,pQ h ps,Zgr h x]
theorem xF (hC:C.dp=1) (o:Oper) (st:AS):Q0 (Gg (Ce C o st)) (fun os=>Nn C o ⟨st.tmps,os⟩):=by
 have Zh6:∀ (hint:Nat) (x:Operand),x∈Ye o.op→∀ k∈(AS.ev C st hint x).keys,Gg (Ce C o st) k:=by
  intro hint x hx k hk;unfold Gg Ce;rw [List.mem_map];refine ⟨k,List.mem_append_left _ (As.2 ⟨_,List.mem_map.2 ⟨x,hx,rfl⟩,?_⟩),rfl⟩;rwa [Zgr] at hk
 have Zmu:∀ k,o.dst=some k→On o.op=true→∀ j,Gg (Ce C o st) (k+4096*j):=by
  intro k hk hm j;unfold Gg Ce;rw [List.mem_map];refine ⟨k,List.mem_append_right _ (by simp [hk,Zf0,hm]),by omega⟩
 have Ze4:∀ k,o.dst=some k→On o.op=true→Gg (Ce C o st) k:=fun k hk hm=>by simpa using Zmu k hk hm 0
 have E:∀ (os:Qh) (hint:Nat) (x:Operand),AS.ev C ⟨st.tmps,os⟩ hint x=AS.ev C st hint x:=fun os hint x=>by cases x<;>rfl
 have ES:∀ (os:Qh) (xs:List Operand) (ts:List Nat),qC C ⟨st.tmps,os⟩ xs ts=qC C st xs ts:=by
  intro os xs
  induction xs with
  | nil=>intro ts;cases ts<;>rfl
  | cons x xs ih=>intro ts;cases ts<;>simp [qC,ih,E]
 have EP:∀ (os:Qh) (h:Nat) (ps:List (Nat×Operand)),Vj C ⟨st.tmps,os⟩ h ps=Vj C st h ps:=by
  intro os h ps
  induction ps with
  | nil=>rfl
  | cons p ps ih=>obtain ⟨i,x⟩:=p;simp [Vj,ih,E]
 have EO:∀ (os:Qh) (t:Nat) (x:Option Operand),Qbe C ⟨st.tmps,os⟩ t x=Qbe C st t x:=by
  intro os t x;cases x<;>simp [Qbe,E]
 unfold Nn;simp only [E,ES,EP,EO];have args:∀ (xs:List Operand) (ts:List Nat),(∀ x∈xs,x∈Ye o.op)→∀ k∈keysAll (qC C st xs ts),Gg (Ce C o st) k:=by
  intro xs ts hx k hk;rw [zY,As] at hk;obtain ⟨a,ha,Qb7⟩:=hk;obtain ⟨x,Zb4,rfl⟩:=List.mem_map.1 ha;exact Zh6 0 x (hx x Zb4) k Qb7
 have W6:∀ (h:Nat) (ps:List (Nat×Operand)),(∀ x∈ps.map (·.2),x∈Ye o.op)→∀ k∈keysAll ((Vj C st h ps).map (·.2)),Gg (Ce C o st) k:=by
  intro h ps hx k hk;rw [pQ,As] at hk;obtain ⟨a,ha,Qb7⟩:=hk;obtain ⟨x,Zb4,rfl⟩:=List.mem_map.1 ha;exact Zh6 0 x (hx x Zb4) k Qb7
 split
 case h_1=>exact Q0.ret _ _
 case h_2=>exact Q0.ret _ _
 case h_3=>split<;>first|exact Q0.ret _ _|exact Q0.none
 case h_4 e Js =>
  split
  ·next k hk=>exact Zev (Ze4 k hk (by simp [Js,On]))
  ·exact Q0.none
 case h_5 e x Js =>
  split
  ·next k hk=>exact Zev (Ze4 k hk (by simp [Js,On]))
  ·exact Q0.none
 case h_6 t ps Js =>
  unfold lS;split
  ·next fs _ =>
   have:∀ (r:List (Nat×AV)) (cells:List AV) (c:Prop),Q0 (Gg (Ce C o st)) (fun os=>U9 os fs cells r c):=by
    intro r
    induction r with
    | nil=>intro cells c;exact Q0.ret _ _
    | cons p r ih =>
     intro cells c;obtain ⟨i,x⟩:=p;simp only [U9];split
     ·split
      ·exact ih _ _
      ·exact Q0.none
     ·exact Q0.none
   exact this _ _ _
  ·have:∀ (r:List (Nat×AV)) (cells:List AV) (c:Prop),Q0 (Gg (Ce C o st)) (fun os=>L4 os cells r c):=by
    intro r
    induction r with
    | nil=>intro cells c;exact Q0.ret _ _
    | cons p r ih =>
     intro cells c;obtain ⟨i,x⟩:=p;simp only [L4];split
     ·exact ih _ _
     ·exact Q0.none
   split
   ·exact this _ _ _
   ·exact Q0.none
  ·exact Q0.none
 case h_7 t n ps Js =>
  split
  ·next k hk=>exact Zag hC (W6 _ _ (fun x hx=>by simpa [Js,Ye,Jo] using hx)) (Ze4 k hk (by simp [Js,On]))
  ·exact Q0.none
 case h_8 t p Js=>exact Qgx (Zh6 0 p (by simp [Js,Ye,Jo]))
 case h_9 t p x Js=>exact Qcj hC (Zh6 0 p (by simp [Js,Ye,Jo])) (Zh6 t x (by simp [Js,Ye,Jo]))
 case h_10 =>
  unfold Vf;split<;>first|exact Q0.ret _ _|exact Q0.none
 case h_11 =>
  unfold Vf;split<;>first|exact Q0.ret _ _|exact Q0.none
 case h_12 s1 t x Js=>exact Qej (Zh6 s1 x (by simp [Js,Ye,Jo]))
 case h_13=>split<;>first|exact Q0.ret _ _|exact Q0.none
 case h_14 t l c Js =>
  split
  ·next k hk=>exact Zbj (Ze4 k hk (by simp [Js,On]))
  ·exact Q0.none
 case h_15 t x lo hi mx Js=>exact Qcm hC (Zh6 t x (by simp [Js,Ye,Jo]))
 case h_16 t Js =>
  split
  ·next k hk=>exact Zkc (Ze4 k hk (by simp [Js,On]))
  ·exact Q0.none
 case h_17 t x i ok Js=>exact Zxy (Zh6 0 x (by simp [Js,Ye,Jo]))
 case h_18 t x i y Js=>exact Zbi hC (Zh6 0 x (by simp [Js,Ye,Jo])) (Zh6 _ y (by simp [Js,Ye,Jo]))
 case h_19 t p f Js=>exact Zbp (Zh6 0 p (by simp [Js,Ye,Jo]))
 case h_20 t x f Js=>exact Qd8
 case h_21 t x i Js=>exact Zbl (Zh6 t x (by simp [Js,Ye,Jo]))
 case h_22 t x i Js=>exact Qdz
 case h_23 x i Js=>exact Zll
 case h_24 cl Js =>
  split
  case h_1 hcal =>
   split
   ·next x t hx ht=>exact Qj4 (Zh6 t x (by simp [Js,Ye,Jo,hcal,hx]))
   ·exact Q0.none
  case h_2 hcal =>
   split
   ·next s x t t' k hx ht hk =>
    split
    ·exact Zza (Zh6 t s (by simp [Js,Ye,Jo,hcal,hx])) (Zh6 t' x (by simp [Js,Ye,Jo,hcal,hx])) (Ze4 k hk (by simp [Js,On,hcal]))
    ·exact Q0.none
   ·exact Q0.none
  case h_3 =>
   split
   ·unfold Vf;split<;>first|exact Q0.ret _ _|exact Q0.none
   ·exact Q0.none
  case h_4 =>
   split
   ·unfold Vf;split<;>first|exact Q0.ret _ _|exact Q0.none
   ·exact Q0.none
  case h_5 f hcal =>
   split
   ·next k hk=>exact Zaf hC (args _ _ (fun x hx=>by simp only [Js,Ye,Jo,hcal];exact List.mem_cons_of_mem _ hx)) (Zmu k hk (by simp [Js,On,hcal]))
   ·exact Q0.none
  case h_6 f hcal =>
   split
   ·next k hk=>exact Qeq hC (Zh6 0 (.tmp f) (by simp [Js,Ye,Jo,hcal])) (args _ _ (fun x hx=>by simp only [Js,Ye,Jo,hcal];exact List.mem_cons_of_mem _ hx)) (Zmu k hk (by simp [Js,On,hcal]))
   ·exact Q0.none
  case h_7=>exact Q0.none
 case h_25=>exact Q0.none
theorem Zdf {kt et:Nat} {ks vs:List D} {i:D} {ok:Bool} {os p:Qh} {c:Prop} {x:AV} (h:Fw C kt et ks vs i ok os=some (c,x,p)):p=os:=by
 unfold Fw at h;split at h
 ·cases ok<;>simp only [Zb,Zc] at h<;>exact h.2.2.symm
 ·cases h
theorem Qc7 {o:Oper} {st:AS} {c:Prop} {x:AV} {p:Qh} (hr:Iy o.op=true) (h:Nn C o st=some (c,x,p)):p=st.objs:=by
 unfold Nn at h;split at h
 case h_1=>simp only [Zb,Zc] at h;exact h.2.2.symm
 case h_2=>simp only [Zb,Zc] at h;exact h.2.2.symm
 case h_3=>split at h<;>simp_all
 case h_4 Js=>simp [Js,Iy] at hr
 case h_5 Js=>simp [Js,Iy] at hr
 case h_6 t ps Js =>
  unfold lS at h;split at h
  ·next fs _ =>
   have:∀ (r:List (Nat×AV)) (cells:List AV) (c0:Prop),U9 st.objs fs cells r c0=some (c,x,p)→p=st.objs:=by
    intro r
    induction r with
    | nil =>
     intro cells c0 h;simp only [U9,Zb,Zc] at h;exact h.2.2.symm
    | cons q r ih =>
     intro cells c0 h;obtain ⟨i,y⟩:=q;simp only [U9] at h;split at h
     ·split at h
      ·exact ih _ _ h
      ·cases h
     ·cases h
   exact this _ _ _ h
  ·have:∀ (r:List (Nat×AV)) (cells:List AV) (c0:Prop),L4 st.objs cells r c0=some (c,x,p)→p=st.objs:=by
    intro r
    induction r with
    | nil =>
     intro cells c0 h;simp only [L4,Zb,Zc] at h;exact h.2.2.symm
    | cons q r ih =>
     intro cells c0 h;obtain ⟨i,y⟩:=q;simp only [L4] at h;split at h
     ·exact ih _ _ h
     ·cases h
   split at h
   ·exact this _ _ _ h
   ·cases h
  ·cases h
 case h_7 Js=>simp [Js,Iy] at hr
 case h_8 t q Js =>
  unfold kX Bq at h;repeat' split at h
  all_goals first|(simp only [Zb,Zc] at h;exact h.2.2.symm)|cases h
 case h_9 Js=>simp [Js,Iy] at hr
 case h_10 =>
  unfold Vf at h;split at h;all_goals first|(simp only [Zb,Zc] at h;exact h.2.2.symm)|cases h
 case h_11 =>
  unfold Vf at h;split at h;all_goals first|(simp only [Zb,Zc] at h;exact h.2.2.symm)|cases h
 case h_12 =>
  unfold eI at h;split at h
  ·split at h
   ·simp only [Zb,Zc] at h;exact h.2.2.symm
   ·cases h
  ·unfold Vf at h;split at h;all_goals first|(simp only [Zb,Zc] at h;exact h.2.2.symm)|cases h
 case h_13 =>
  split at h;all_goals first|(simp only [Zb,Zc] at h;exact h.2.2.symm)|cases h
 case h_14 Js=>simp [Js,Iy] at hr
 case h_15 Js=>simp [Js,Iy] at hr
 case h_16 Js=>simp [Js,Iy] at hr
 case h_17 =>
  unfold Ay at h;split at h
  ·split at h
   ·exact Zdf h
   ·split at h
    ·exact Zdf h
    ·cases h
   ·cases h
  ·cases h
 case h_18 Js=>simp [Js,Iy] at hr
 case h_19 =>
  unfold Nt at h;repeat' split at h
  all_goals first|(simp only [Zb,Zc] at h;exact h.2.2.symm)|cases h
 case h_20 =>
  unfold eH at h;repeat' split at h
  all_goals first|(simp only [Zb,Zc] at h;exact h.2.2.symm)|cases h
 case h_21 =>
  unfold Ns at h;repeat' split at h
  all_goals first|(simp only [Zb,Zc] at h;exact h.2.2.symm)|cases h
 case h_22 =>
  unfold eG at h;repeat' split at h
  all_goals first|(simp only [Zb,Zc] at h;exact h.2.2.symm)|cases h
 case h_23 =>
  unfold Cc at h;repeat' split at h
  all_goals first|(simp only [Zb,Zc] at h;exact h.2.2.symm)|cases h
 case h_24 cl Js =>
  split at h
  case h_1 =>
   split at h
   ·unfold Zkx at h;repeat' split at h
    all_goals first|(simp only [Zb,Zc] at h;exact h.2.2.symm)|cases h
   ·cases h
  case h_2 hcal=>simp [Js,Iy,hcal] at hr
  case h_3 hcal=>simp [Js,Iy,hcal] at hr
  case h_4 hcal=>simp [Js,Iy,hcal] at hr
  case h_5 hcal=>simp [Js,Iy,hcal] at hr
  case h_6 hcal=>simp [Js,Iy,hcal] at hr
  case h_7=>cases h
 case h_25=>cases h
theorem Zf5 {o:Oper} {s s':AS} (ho:s.objs=s'.objs) (h:∀ x∈Jo o.op,∀ hint,s.ev C hint x=s'.ev C hint x):Nn C o s=Nn C o s':=by
 have args:∀ (xs:List Operand) (ts:List Nat),(∀ x∈xs,x∈Jo o.op)→qC C s xs ts=qC C s' xs ts:=by
  intro xs
  induction xs with
  | nil=>intro ts _;cases ts<;>rfl
  | cons x xs ih =>
   intro ts hx;have h1:=fun hint=>h x (hx x (by simp)) hint
   cases ts<;>simp [qC,h1,ih _ (fun y hy=>hx y (List.mem_cons_of_mem _ hy))]
 have W6:∀ (hint:Nat) (ps:List (Nat×Operand)),(∀ x∈ps.map (·.2),x∈Jo o.op)→Vj C s hint ps=Vj C s' hint ps:=by
  intro hint ps
  induction ps with
  | nil=>intro _;rfl
  | cons q ps ih =>
   intro hx;obtain ⟨i,x⟩:=q;have h1:=h x (hx x (by simp)) hint
   simp [Vj,h1,ih (fun y hy=>hx y (by simp only [List.map_cons];exact List.mem_cons_of_mem _ hy))]
 have opt:∀ (t:Nat) (x:Option Operand),(∀ y∈x.toList,y∈Jo o.op)→Qbe C s t x=Qbe C s' t x:=by
  intro t x hx;cases x with
  | none=>rfl
  | some x=>simp [Qbe,h x (hx x (by simp))]
 unfold Nn;rw [ho];split
 case h_1 x Js=>rw [h x (by simp [Js,Jo])]
 case h_2 x Js=>rw [h x (by simp [Js,Jo])]
 case h_3 c a b Js=>rw [h c (by simp [Js,Jo]),h a (by simp [Js,Jo]),h b (by simp [Js,Jo])]
 case h_4=>rfl
 case h_5 e x Js=>rw [h x (by simp [Js,Jo])]
 case h_6 t ps Js=>rw [W6 _ _ (fun x hx=>by simpa [Js,Jo] using hx)]
 case h_7 t n ps Js=>rw [W6 _ _ (fun x hx=>by simpa [Js,Jo] using hx)]
 case h_8 t p Js=>rw [h p (by simp [Js,Jo])]
 case h_9 t p x Js=>rw [h p (by simp [Js,Jo]),h x (by simp [Js,Jo])]
 case h_10 op t x y ty Js=>rw [h x (by simp [Js,Jo]),h y (by simp [Js,Jo])]
 case h_11 op t x Js=>rw [h x (by simp [Js,Jo])]
 case h_12 s1 t x Js=>rw [h x (by simp [Js,Jo])]
 case h_13 f first caps Js=>rw [args _ _ (fun x hx=>by simpa [Js,Jo] using hx)]
 case h_14 t l c Js=>rw [h l (by simp [Js,Jo]),h c (by simp [Js,Jo])]
 case h_15 t x lo hi mx Js =>
  rw [h x (by simp [Js,Jo]),opt 0 lo (fun y hy=>by simp only [Js,Jo];simp only [Zs,List.mem_append];exact .inr (.inl (.inl hy))),
   opt 0 hi (fun y hy=>by simp only [Js,Jo];simp only [Zs,List.mem_append];exact .inr (.inl (.inr hy))),
   opt 0 mx (fun y hy=>by simp only [Js,Jo];simp only [Zs,List.mem_append];exact .inr (.inr hy))]
 case h_16=>rfl
 case h_17 t x i ok Js=>rw [h x (by simp [Js,Jo]),h i (by simp [Js,Jo])]
 case h_18 t x i y Js=>rw [h x (by simp [Js,Jo]),h i (by simp [Js,Jo]),h y (by simp [Js,Jo])]
 case h_19 t p f Js=>rw [h p (by simp [Js,Jo])]
 case h_20 t x f Js=>rw [h x (by simp [Js,Jo])]
 case h_21 t x i Js=>rw [h x (by simp [Js,Jo]),h i (by simp [Js,Jo])]
 case h_22 t x i Js=>rw [h x (by simp [Js,Jo]),h i (by simp [Js,Jo])]
 case h_23 x i Js=>rw [h x (by simp [Js,Jo])]
 case h_24 cl Js =>
  split
  case h_1 hcal =>
   split
   ·next x t hx ht=>rw [h x (by simp [Js,Jo,hcal,hx])]
   ·rfl
  case h_2 hcal =>
   split
   ·next a x t t' k hx ht hk=>rw [h a (by simp [Js,Jo,hcal,hx]),h x (by simp [Js,Jo,hcal,hx])]
   ·rfl
  case h_3 hcal =>
   split
   ·next x y t ts hx ht=>rw [h x (by simp [Js,Jo,hcal,hx]),h y (by simp [Js,Jo,hcal,hx])]
   ·rfl
  case h_4 hcal =>
   split
   ·next x y t ts hx ht=>rw [h x (by simp [Js,Jo,hcal,hx]),h y (by simp [Js,Jo,hcal,hx])]
   ·rfl
  case h_5 f hcal=>rw [args _ _ (fun x hx=>by simp only [Js,Jo,hcal];exact List.mem_cons_of_mem _ hx)]
  case h_6 f hcal=>rw [args _ _ (fun x hx=>by simp only [Js,Jo,hcal];exact List.mem_cons_of_mem _ hx),h (.tmp f) (by simp [Js,Jo,hcal])]
  case h_7=>rfl
 case h_25=>rfl
def AS.same (s s':AS):Prop:=s.tmps=s'.tmps∧∀ k,lk s.objs k=lk s'.objs k
theorem AS.same.refl (s:AS):s.same s:=⟨rfl,fun _=>rfl⟩
theorem AS.same.trans {a b c:AS} (h:a.same b) (k:b.same c):a.same c:=⟨h.1.trans k.1,fun i=>(h.2 i).trans (k.2 i)⟩
theorem AS.same.symm {a b:AS} (h:a.same b):b.same a:=⟨h.1.symm,fun i=>(h.2 i).symm⟩
theorem SRg.same {base:Nat} {pass:Nat→Prop} {F0:Anc} {m:Nat→Nat} {G:Gh} {s s':AS} {a:Act} {w:World} (h:SRg base pass F0 m G s a w) (e:s.same s'):SRg base pass F0 m G s' a w:=by
 have el:lk s.objs=lk s'.objs:=funext e.2;obtain ⟨a1,a2,a3,a4,a5,a6,a7,a8,a9,a10⟩:=h;constructor
 ·exact a1
 ·rw [←e.1,←el];exact a2
 ·rw [←el];exact a3
 ·rw [←el];exact a4
 ·rw [←el];exact a5
 ·exact a6
 ·exact a7
 ·exact a8
 ·exact a9
 ·rw [←el];exact a10
theorem SR.same {base:Nat} {pass:Nat→Prop} {F0:Anc} {s s':AS} {a:Act} {w:World} (h:SR base pass F0 s a w) (e:s.same s'):SR base pass F0 s' a w:=by
 obtain ⟨m,G,h⟩:=h;exact ⟨m,G,h.same e⟩
def Zmp (C:Ctx) (o:Oper) (s:AS) (bc:BCon) (x:bc.X) (rs:List Nat):Prop :=
 Qi9 C o s=some (bc,rnAs rs (bc.args x))∧bc.ok x∧rs.Nodup∧rs.length=(bc.post x).length∧(bc.objs x).length≤rs.length∧Jd rs rs (bc.objs x) s.objs∧Wi (rs.drop (bc.objs x).length) s.objs
theorem gM {s s':AS}:∀ (xs:List Operand) (ts:List Nat),(∀ x∈xs,∀ hint,s.ev C hint x=s'.ev C hint x)→qC C s xs ts=qC C s' xs ts
 | [],_,_=>rfl
 | x::r,[],h=>by simp only [qC];rw [h x (by simp),gM r [] (fun y hy=>h y (List.mem_cons_of_mem _ hy))]
 | x::r,t::ts,h=>by simp only [qC];rw [h x (by simp),gM r ts (fun y hy=>h y (List.mem_cons_of_mem _ hy))]
theorem Qes {o:Oper} {s s':AS} (h:∀ y∈Jo o.op,∀ hint,s.ev C hint y=s'.ev C hint y):Qi9 C o s=Qi9 C o s':=by
 unfold Qi9;cases Js:o.op with
 | call c =>
  rw [Js] at h;simp only;cases hc:c.callee with
  | value f =>
   simp only [Jo,hc] at h;have ha:∀ x∈c.args.toList,∀ hint,s.ev C hint x=s'.ev C hint x:=fun x hx=>h x (List.mem_cons_of_mem _ hx);have hf:=h f (by simp)
   cases f with
   | func f=>simp only [gM _ _ ha]
   | tmp f=>simp only [gM _ _ ha,hf]
   | _=>rfl
  | _=>rfl
 | _=>rfl
theorem jL {rs0:List Nat} {o o':Qh}:∀ {ks:List Nat} {l:List Obj},(∀ k∈ks,lk o k=lk o' k)→Jd rs0 ks l o→Jd rs0 ks l o'
 | _,[],_,_=>by unfold Jd;trivial
 | [],_::_,_,h=>by simp [Jd] at h
 | k::ks,x::l,hk,h=>by
  simp only [Jd] at h ⊢;exact ⟨by rw [←hk k (by simp)];exact h.1,jL (fun q hq=>hk q (List.mem_cons_of_mem _ hq)) h.2⟩
theorem oI {o o':Qh}:∀ {ks:List Nat},(∀ k∈ks,lk o k=lk o' k)→Wi ks o→Wi ks o'
 | [],_,_=>by unfold Wi;trivial
 | k::ks,hk,h=>by
  simp only [Wi] at h ⊢;exact ⟨by rw [←hk k (by simp)];exact h.1,oI (fun q hq=>hk q (List.mem_cons_of_mem _ hq)) h.2⟩
theorem Zmg {rs:List Nat} {k:Nat} (h:k∈rs):Gg (rs.map (· % 4096)) k:=List.mem_map.2 ⟨k,h,rfl⟩
theorem Zmp.move {o:Oper} {s s':AS} {bc:BCon} {x:bc.X} {rs:List Nat} (h:Zmp C o s bc x rs) (Js:∀ y∈Jo o.op,∀ hint,s'.ev C hint y=s.ev C hint y)
  (ho:∀ k,Gg (rs.map (· % 4096)) k→lk s.objs k=lk s'.objs k):Zmp C o s' bc x rs∧(∀ k,Gg (rs.map (· % 4096)) k→lk (Yu rs rs (bc.post x) s.objs) k=lk (Yu rs rs (bc.post x) s'.objs) k) ∧
   (∀ k,¬ Gg (rs.map (· % 4096)) k→lk (Yu rs rs (bc.post x) s.objs) k=lk s.objs k∧lk (Yu rs rs (bc.post x) s'.objs) k=lk s'.objs k):=by
 obtain ⟨h1,h2,h3,h4,h5,h6,h7⟩:=h;have hk:∀ k∈rs,lk s.objs k=lk s'.objs k:=fun k hk=>ho k (Zmg hk);refine ⟨⟨by rw [Qes Js];exact h1,h2,h3,h4,h5,jL hk h6,oI (fun k hk'=>hk k (List.mem_of_mem_drop hk')) h7⟩,fun k Qb7=>?_,fun k Qb7=>?_⟩
 ·by_cases uC:k∈rs
  ·obtain ⟨j,hj⟩:=List.getElem?_of_mem uC;have C6:j<(bc.post x).length:=by rw [←h4];exact (List.getElem?_eq_some_iff.1 hj).1
   have hp:=Zk C6;rw [O8 h3 hj hp,O8 h3 hj hp]
  ·rw [Vq uC,Vq uC];exact ho k Qb7
 ·have uC:k∉rs:=fun uC=>Qb7 (Zmg uC);exact ⟨Vq uC,Vq uC⟩
def Zb3 (C:Ctx) (ops:List Oper) (i:Nat) (fp:List Nat) (ro:Bool) (s s':AS):Prop:=∃ o,ops[i]?=some o ∧
 ((match o.guard with
  | none=>False
  | some (j,want)=>(Xu ops s j).skips want∧fp=[]∧ro=true∧s'=s.put o.dst (.d (.tup [])) s.objs) ∨
 ((match o.guard with
  | none=>True
  | some (j,want)=>(Xu ops s j).runs want)∧fp=Ce C o s∧ro=Iy o.op∧∃ c x os,Nn C o s=some (c,x,os)∧c∧s'=s.put o.dst x os) ∨
 ((match o.guard with
  | none=>True
  | some (j,want)=>(Xu ops s j).runs want)∧ro=false∧∃ (bc:BCon) (x:bc.X) (rs:List Nat),Zmp C o s bc x rs∧fp=rs.map (· % 4096)∧s'=s.put o.dst (bc.rvr rs x) (Yu rs rs (bc.post x) s.objs)))
inductive Tr (C:Ctx) (ops:List Oper):List (Nat×List Nat×Bool)→AS→AS→Prop
 | nil (s:AS):Tr C ops [] s s
 | cons {i:Nat} {fp:List Nat} {ro:Bool} {l:List (Nat×List Nat×Bool)} {s t u:AS} (h:Zb3 C ops i fp ro s t) (k:Tr C ops l t u):Tr C ops ((i,fp,ro)::l) s u
theorem Zxl {s:AS} {dst:Option Nat} {x:AV} {os:Qh} {y:Operand} {hint:Nat} (h:∀ d,dst=some d→d∉Zz8 y):(s.put dst x os).ev C hint y=s.ev C hint y:=by
 cases y with
 | tmp t =>
  cases dst with
  | none=>rfl
  | some d =>
   have:d≠t:=by simpa [Zz8] using h d rfl
   simp [AS.put,AS.ev,Zd,List.getElem?_set_ne this]
 | _=>rfl
theorem lF {ops:List Oper} {o:Oper} {d:Nat} (h:d∉tC ops o):∀ y∈Jo o.op,d∉Zz8 y:=by
 intro y hy hd;exact h (List.mem_append_left _ (List.mem_flatMap.2 ⟨y,hy,hd⟩))
theorem Zc2 {ops:List Oper} {s:AS} {o:Oper} {j:Nat} {want:Bool} (hg:o.guard=some (j,want)) {dst:Option Nat} {x:AV} {os:Qh} (h:∀ d,dst=some d→d∉tC ops o):Xu ops (s.put dst x os) j=Xu ops s j:=by
 unfold Xu;cases hj:ops[j]? with
 | none=>rfl
 | some g =>
  simp only;cases hd:g.dst with
  | none=>rfl
  | some t =>
   simp only;cases dst with
   | none=>rfl
   | some d =>
    have Tz:d≠t:=by
     intro e;exact h d rfl (by simp [tC,hg,hj,hd,e])
    simp [AS.put,Zd,List.getElem?_set_ne Tz]
theorem bC {ops:List Oper} {s s':AS} (h:s.tmps=s'.tmps) (j:Nat):Xu ops s j=Xu ops s' j:=by
 unfold Xu;rw [h]
theorem Zxs {o:Op}:∀ y∈Ye o,y∈Jo o:=by
 intro y hy;cases o<;>first|exact hy|(simp [Ye] at hy)
theorem Zla {ops:List Oper} {s:AS} {o:Oper} {dst:Option Nat} {x:AV} {os:Qh} (h:∀ d,dst=some d→d∉tC ops o):Ce C o (s.put dst x os)=Ce C o s:=by
 have:(Ye o.op).map ((s.put dst x os).ev C 0)=(Ye o.op).map (s.ev C 0):=List.map_congr_left fun y hy=>Zxl (fun d hd=>lF (h d hd) y (Zxs y hy));unfold Ce;rw [this]
theorem Qd1 {s s':AS} (h:s.tmps=s'.tmps) (o:Oper):Ce C o s=Ce C o s':=by
 have:(Ye o.op).map (s.ev C 0)=(Ye o.op).map (s'.ev C 0):=List.map_congr_left fun y hy=>by cases y<;>simp [AS.ev,h]
 unfold Ce;rw [this]
theorem Wp {s:AS} {dst:Option Nat} {x:AV} {os:Qh}:(s.put dst x os).objs=os:=by cases dst<;>rfl
theorem Qgj {s:AS} {a b:Option Nat} {x y:AV} {p q r u:Qh} (h:∀ d,a=some d→b≠some d):((s.put a x p).put b y q).tmps=((s.put b y r).put a x u).tmps:=by
 cases a with
 | none=>cases b<;>rfl
 | some d =>
  cases b with
  | none=>rfl
  | some e =>
   have Tz:d≠e:=fun he=>h d rfl (he▸rfl);simp [AS.put,List.set_comm _ _ Tz]
theorem Zb3.same (hC:C.dp=1) {ops:List Oper} {i:Nat} {fp:List Nat} {ro:Bool} {s s' t:AS} (h:Zb3 C ops i fp ro s t) (e:s.same s'):∃ t',Zb3 C ops i fp ro s' t'∧t.same t':=by
 obtain ⟨o,ho,h⟩:=h;rcases h with h|⟨hg,Ze8,uA,c,x,os,h1,hc,rfl⟩|⟨hg,uA,bc,x,rs,hb,Ze8,rfl⟩
 rotate_right
 ·have Zh6:∀ y∈Jo o.op,∀ hint,s'.ev C hint y=s.ev C hint y:=fun y _ hint=>by cases y<;>simp [AS.ev,e.1]
  obtain ⟨b1,b2,b3⟩:=hb.move Zh6 (fun k _=>e.2 k);refine ⟨s'.put o.dst (bc.rvr rs x) (Yu rs rs (bc.post x) s'.objs),⟨o,ho,.inr (.inr ⟨?_,uA,bc,x,rs,b1,Ze8,rfl⟩)⟩,?_,fun k=>?_⟩
  ·cases Oc:o.guard with
   | none=>trivial
   | some jw =>
    obtain ⟨j,want⟩:=jw;simp only [Oc] at hg ⊢;rw [←bC e.1];exact hg
  ·cases o.dst<;>simp [AS.put,e.1]
  ·rw [Wp,Wp];by_cases hk:Gg (rs.map (· % 4096)) k
   ·exact b2 k hk
   ·rw [(b3 k hk).1,(b3 k hk).2];exact e.2 k
 ·cases Oc:o.guard with
  | none=>simp only [Oc] at h
  | some jw =>
   obtain ⟨j,want⟩:=jw;simp only [Oc] at h;obtain ⟨h1,h3,h4,rfl⟩:=h;refine ⟨s'.put o.dst (.d (.tup [])) s'.objs,⟨o,ho,.inl ?_⟩,?_⟩
   ·simp only [Oc];exact ⟨by rw [←bC e.1];exact h1,h3,h4,trivial⟩
   ·refine ⟨?_,fun k=>?_⟩
    ·cases o.dst<;>simp [AS.put,e.1]
    ·rw [Wp,Wp];exact e.2 k
 ·have h1':Nn C o ⟨s.tmps,s.objs⟩=some (c,x,os):=h1;obtain ⟨os',k1,k2,k3⟩:=xF hC o s s.objs s'.objs c x os (fun k _=>e.2 k) h1';have k1':Nn C o s'=some (c,x,os'):=by
   have:s'=⟨s.tmps,s'.objs⟩:=by cases s';simp only [AS.mk.injEq,and_true];exact e.1.symm
   rw [this];exact k1
  refine ⟨s'.put o.dst x os',⟨o,ho,.inr (.inl ⟨?_,by rw [←Qd1 e.1];exact Ze8,uA,c,x,os',k1',hc,rfl⟩)⟩,?_,fun k=>?_⟩
  ·cases Oc:o.guard with
   | none=>trivial
   | some jw =>
    obtain ⟨j,want⟩:=jw;simp only [Oc] at hg ⊢;rw [←bC e.1];exact hg
  ·cases o.dst<;>simp [AS.put,e.1]
  ·rw [Wp,Wp];by_cases hk:Gg (Ce C o s) k
   ·exact k2 k hk
   ·rw [(k3 k hk).1,(k3 k hk).2];exact e.2 k
theorem Tr.same (hC:C.dp=1) {ops:List Oper} {l:List (Nat×List Nat×Bool)} {s s' t:AS} (h:Tr C ops l s t) (e:s.same s'):∃ t',Tr C ops l s' t'∧t.same t':=by
 induction h generalizing s' with
 | nil s=>exact ⟨s',.nil s',e⟩
 | cons h _ ih =>
  obtain ⟨t1,k1,k2⟩:=h.same hC e;obtain ⟨t2,j1,j2⟩:=ih k2;exact ⟨t2,.cons k1 j1,j2⟩
def Qb1 (ops:List Oper) (a b:Nat×List Nat×Bool):Prop:=(∀ x y,ops[a.1]?=some x→ops[b.1]?=some y→Fo ops x y=true)∧((∀ k,k∈a.2.1→k∉b.2.1)∨(a.2.2=true∧b.2.2=true))
theorem uG {ops:List Oper} {x y:Oper} (h:Fo ops x y=true) :
  (∀ d,x.dst=some d→d∉tC ops y)∧(∀ d,x.dst=some d→y.dst≠some d)∧(∀ d,y.dst=some d→d∉tC ops x):=by
 refine ⟨fun d hd=>?_,fun d hd=>?_,fun d hd=>?_⟩<;>simp [Fo,hd] at h
 ·exact h.1.1
 ·exact h.1.2
 ·exact h.2
def Ze0 (C:Ctx) (ops:List Oper) (o:Oper) (fp:List Nat) (ro:Bool) (s:AS) (x:AV) (os:Qh):Prop :=
 (match o.guard with
  | none=>False
  | some (j,want)=>(Xu ops s j).skips want∧fp=[]∧ro=true∧x=.d (.tup [])∧os=s.objs) ∨
 ((match o.guard with
  | none=>True
  | some (j,want)=>(Xu ops s j).runs want)∧fp=Ce C o s∧ro=Iy o.op∧∃ c,Nn C o s=some (c,x,os)∧c) ∨
 ((match o.guard with
  | none=>True
  | some (j,want)=>(Xu ops s j).runs want)∧ro=false∧∃ (bc:BCon) (q:bc.X) (rs:List Nat),Zmp C o s bc q rs∧fp=rs.map (· % 4096)∧x=bc.rvr rs q∧os=Yu rs rs (bc.post q) s.objs)
theorem mU {ops:List Oper} {i:Nat} {fp:List Nat} {ro:Bool} {s t:AS}:Zb3 C ops i fp ro s t↔∃ o x os,ops[i]?=some o∧Ze0 C ops o fp ro s x os∧t=s.put o.dst x os:=by
 constructor
 ·rintro ⟨o,ho,h⟩;rcases h with h|⟨hg,Ze8,uA,c,x,os,h1,hc,rfl⟩|⟨hg,uA,bc,x,rs,hb,Ze8,rfl⟩
  rotate_right
  ·exact ⟨o,bc.rvr rs x,Yu rs rs (bc.post x) s.objs,ho,.inr (.inr ⟨hg,uA,bc,x,rs,hb,Ze8,rfl,rfl⟩),rfl⟩
  ·refine ⟨o,.d (.tup []),s.objs,ho,.inl ?_,?_⟩
   ·cases Oc:o.guard with
    | none=>simp only [Oc] at h
    | some jw=>simp only [Oc] at h ⊢;obtain ⟨h1,h3,h4,_⟩:=h;exact ⟨h1,h3,h4,trivial,trivial⟩
   ·cases Oc:o.guard with
    | none=>simp only [Oc] at h
    | some jw=>simp only [Oc] at h;exact h.2.2.2
  ·exact ⟨o,x,os,ho,.inr (.inl ⟨hg,Ze8,uA,c,h1,hc⟩),rfl⟩
 ·rintro ⟨o,x,os,ho,h,rfl⟩;refine ⟨o,ho,?_⟩;rcases h with h|⟨hg,Ze8,uA,c,h1,hc⟩|⟨hg,uA,bc,q,rs,hb,Ze8,rfl,rfl⟩
  ·refine .inl ?_;cases Oc:o.guard with
   | none=>simp only [Oc] at h
   | some jw=>simp only [Oc] at h ⊢;obtain ⟨h1,h3,h4,rfl,rfl⟩:=h;exact ⟨h1,h3,h4,rfl⟩
  ·exact .inr (.inl ⟨hg,Ze8,uA,c,x,os,h1,hc,rfl⟩)
  ·exact .inr (.inr ⟨hg,uA,bc,q,rs,hb,Ze8,rfl⟩)
theorem Ze0.move (hC:C.dp=1) {ops:List Oper} {o:Oper} {fp:List Nat} {ro:Bool} {s:AS} {x:AV} {os:Qh} (h:Ze0 C ops o fp ro s x os) {s':AS}
  (hg:∀ j want,o.guard=some (j,want)→Xu ops s' j=Xu ops s j) (hf:Ce C o s'=Ce C o s) (Js:∀ y∈Jo o.op,∀ hint,s'.ev C hint y=s.ev C hint y)
  (ho:∀ k,Gg fp k→lk s.objs k=lk s'.objs k):∃ os',Ze0 C ops o fp ro s' x os'∧(∀ k,Gg fp k→lk os k=lk os' k)∧(∀ k,¬ Gg fp k→lk os k=lk s.objs k∧lk os' k=lk s'.objs k):=by
 rcases h with h|⟨Oc,Ze8,uA,c,h1,hc⟩|⟨Oc,uA,bc,q,rs,hb,Ze8,rfl,rfl⟩
 rotate_right
 ·subst Ze8;obtain ⟨b1,b2,b3⟩:=hb.move Js ho;refine ⟨Yu rs rs (bc.post q) s'.objs,.inr (.inr ⟨?_,uA,bc,q,rs,b1,rfl,rfl,rfl⟩),b2,b3⟩;cases hgd':o.guard with
  | none=>trivial
  | some jw =>
   obtain ⟨j,want⟩:=jw;simp only [hgd'] at Oc ⊢;rw [hg j want hgd'];exact Oc
 ·cases Oc:o.guard with
  | none=>simp only [Oc] at h
  | some jw =>
   obtain ⟨j,want⟩:=jw;simp only [Oc] at h;obtain ⟨h1,h3,h4,rfl,rfl⟩:=h;refine ⟨s'.objs,.inl ?_,fun k hk=>ho k hk,fun k _=>⟨rfl,rfl⟩⟩;simp only [Oc];exact ⟨by rw [hg j want Oc];exact h1,h3,h4,trivial,trivial⟩
 ·subst Ze8;obtain ⟨os',k1,k2,k3⟩:=xF hC o s s.objs s'.objs c x os ho h1;refine ⟨os',.inr (.inl ⟨?_,hf.symm,uA,c,?_,hc⟩),k2,k3⟩
  ·cases hgd':o.guard with
   | none=>trivial
   | some jw =>
    obtain ⟨j,want⟩:=jw;simp only [hgd'] at Oc ⊢;rw [hg j want hgd'];exact Oc
  ·rw [←k1];exact Zf5 rfl (fun y hy hint=>by rw [Js y hy hint];cases y<;>rfl)
theorem Ze0.ro {ops:List Oper} {o:Oper} {fp:List Nat} {s:AS} {x:AV} {os:Qh} (h:Ze0 C ops o fp true s x os):os=s.objs:=by
 rcases h with h|⟨_,_,uA,c,h1,_⟩|⟨_,uA,_⟩
 ·cases Oc:o.guard with
  | none=>simp only [Oc] at h
  | some jw=>simp only [Oc] at h;obtain ⟨h1,h3,h4,rfl,rfl⟩:=h;rfl
 ·exact Qc7 uA.symm h1
 ·cases uA
theorem Qcl (hC:C.dp=1) {ops:List Oper} {a b:Nat×List Nat×Bool} {s t u:AS} (h1:Zb3 C ops a.1 a.2.1 a.2.2 s t) (h2:Zb3 C ops b.1 b.2.1 b.2.2 t u) (hi:Qb1 ops a b) :
  ∃ t' u',Zb3 C ops b.1 b.2.1 b.2.2 s t'∧Zb3 C ops a.1 a.2.1 a.2.2 t' u'∧u.same u':=by
 obtain ⟨oa,xa,osa,Qza,fa,rfl⟩:=mU.1 h1;obtain ⟨ob,xb,osb,Kh,fb,rfl⟩:=mU.1 h2;obtain ⟨s1,s2,s3⟩:=uG (hi.1 oa ob Qza Kh);have key:∀ k,Gg b.2.1 k→lk (s.put oa.dst xa osa).objs k=lk s.objs k:=by
  intro k hk;rw [Wp];rcases hi.2 with hd|⟨hr,_⟩
  ·have:¬ Gg a.2.1 k:=fun Qb7=>hd _ Qb7 hk;obtain ⟨_,q1,q2,q3⟩:=fa.move hC (s':=s) (fun _ _ _=>rfl) rfl (fun _ _ _=>rfl) (fun _ _=>rfl);exact (q3 k this).1
  ·rw [hr] at fa;rw [fa.ro]
 obtain ⟨osb',fb',e1,e2⟩:=fb.move hC (s':=s) (fun j want hg=>(Zc2 hg s1).symm) (Zla s1).symm (fun y hy hint=>(Zxl (fun d hd=>lF (s1 d hd) y hy)).symm) key;have key2:∀ k,Gg a.2.1 k→lk s.objs k=lk (s.put ob.dst xb osb').objs k:=by
  intro k hk;rw [Wp];rcases hi.2 with hd|⟨_,hr⟩
  ·have:¬ Gg b.2.1 k:=fun Qiv=>hd _ hk Qiv;exact (e2 k this).2.symm
  ·rw [hr] at fb';rw [fb'.ro]
 obtain ⟨osa',fa',g1,g2⟩:=fa.move hC (s':=s.put ob.dst xb osb') (fun j want hg=>Zc2 hg s3) (Zla s3) (fun y hy hint=>Zxl (fun d hd=>lF (s3 d hd) y hy)) key2;refine ⟨s.put ob.dst xb osb',(s.put ob.dst xb osb').put oa.dst xa osa',mU.2 ⟨ob,xb,osb',Kh,fb',rfl⟩,mU.2 ⟨oa,xa,osa',Qza,fa',rfl⟩,Qgj s2,fun k=>?_⟩;simp only [Wp] at e1 e2 g1 g2 key key2 ⊢;rcases hi.2 with hd|⟨Qsx,Jar⟩
 ·by_cases Qb7:Gg a.2.1 k
  ·have Qiv:¬ Gg b.2.1 k:=fun Qiv=>hd _ Qb7 Qiv;rw [(e2 k Qiv).1,g1 k Qb7]
  ·rw [(g2 k Qb7).2];by_cases Qiv:Gg b.2.1 k
   ·exact e1 k Qiv
   ·rw [(e2 k Qiv).1,(e2 k Qiv).2,(g2 k Qb7).1]
 ·rw [Qsx] at fa fa';rw [Jar] at fb fb';rw [fb.ro,Wp,fa.ro,fa'.ro,Wp,fb'.ro]
theorem Tr.first (hC:C.dp=1) {ops:List Oper} {i:Nat×List Nat×Bool}:∀ {l1 l2:List (Nat×List Nat×Bool)} {s t:AS},Tr C ops (l1++i::l2) s t→(∀ k∈l1,Qb1 ops k i) →
  ∃ s1 t',Zb3 C ops i.1 i.2.1 i.2.2 s s1∧Tr C ops (l1++l2) s1 t'∧t.same t'
 | [],l2,s,t,h,_=>by
  simp only [List.nil_append] at h ⊢;cases h with
  | cons h k=>exact ⟨_,t,h,k,AS.same.refl t⟩
 | (k,fk,rk)::l1,l2,s,t,h,hi=>by
  simp only [List.cons_append] at h;cases h with
  | cons h1 h2 =>
   obtain ⟨u1,t',k1,k2,k3⟩:=Tr.first hC h2 (fun q hq=>hi q (List.mem_cons_of_mem _ hq));obtain ⟨s1,u',j1,j2,j3⟩:=Qcl hC (a:=(k,fk,rk)) (b:=i) h1 k1 (hi _ (by simp))
   obtain ⟨t'',q1,q2⟩:=k2.same hC j3;exact ⟨s1,t'',j1,.cons j2 q1,k3.trans q2⟩
end
end Go.Am
