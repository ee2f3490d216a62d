/- Contracts of functions that the law reaches, and plain laws. Conditions: those that each contract states. -/
import Derived.Test.YtilpfkjhahnfaaaGreatH2
import Derived.Deep.LoopGhost
import Derived.Laws.BytesArg
import Derived.Orders
set_option maxHeartbeats 400000
set_option linter.unusedVariables false
set_option linter.unusedSimpArgs false
variable {p:Prop}
namespace Go.Am
open Go.RowKit (Below)
theorem lG:∀ (l:List Obj) (n i:Nat),lk (Mq n l) i=if n≤i then l[i-n]? else none
 | [],n,i=>by simp [Mq,lk]
 | o::l,n,i=>by
  simp only [Mq,lk,lG l];by_cases h:i=n
  ·subst h;simp
  ·rw [if_neg h];by_cases h1:n≤i
   ·rw [if_pos (by omega),if_pos h1,show i-n=(i-(n+1))+1 by omega,List.getElem?_cons_succ]
   ·rw [if_neg (by omega),if_neg h1]
theorem X0 {l:List Obj} {i:Nat} {o:Obj} (h:lk (Jc l) i=some o):∃ j,i=90000+j∧l[j]?=some o:=by
 unfold Jc at h;rw [lG] at h;by_cases h1:90000≤i
 ·rw [if_pos h1] at h;exact ⟨i-90000,by omega,h⟩
 ·rw [if_neg h1] at h;cases h
theorem Uj {l:List Obj} {j:Nat} {o:Obj} (h:l[j]?=some o):lk (Jc l) (90000+j)=some o:=by
 unfold Jc;rw [lG,if_pos (by omega),show 90000+j-90000=j by omega]
 exact h
theorem Mc {rs:List Nat} {j k:Nat} (h:rs[j]?=some k):rk rs (90000+j)=k:=by
 unfold rk;rw [show 90000+j-90000=j by omega,Zd,h]
 rfl
theorem Wv {rs0:List Nat}:∀ {ks:List Nat} {l:List Obj} {o:Z3},Q3 rs0 ks l o→∀ {j:Nat} {x:Obj},l[j]?=some x→∃ k,ks[j]?=some k∧lk o k=some (Tq rs0 x)
 | _,[],_,_,j,x,hx=>by simp at hx
 | [],_::_,_,h,_,_,_=>h.elim
 | k::ks,y::l,o,h,j,x,hx=>by
  cases j with
  | zero=>simp at hx;subst hx;exact ⟨k,rfl,h.1⟩
  | succ j=>simp only [List.getElem?_cons_succ] at hx ⊢;exact Wv h.2 hx
theorem yK:∀ {ks:List Nat} {o:Z3},X6 ks o→∀ {k:Nat},k∈ks→lk o k=none
 | [],_,_,_,hk=>by simp at hk
 | k::ks,o,h,k',hk=>by
  rcases Zs.1 hk with rfl|hk
  ·exact h.1
  ·exact yK h.2 hk
theorem Vn {rs0:List Nat}:∀ {ks:List Nat} {l:List Obj} {o:Z3} {k:Nat},k∉ks→lk (Yn rs0 ks l o) k=lk o k
 | [],l,o,k,_=>by simp [Yn]
 | q::ks,[],o,k,_=>by simp [Yn]
 | q::ks,x::l,o,k,h=>by
  simp only [Zs,not_or] at h;simp only [Yn];rw [Vn h.2,Xn,if_neg h.1]
theorem Rv {rs0:List Nat}:∀ {ks:List Nat} {l:List Obj} {o:Z3} {j k:Nat} {x:Obj},ks.Nodup→ks[j]?=some k→l[j]?=some x→lk (Yn rs0 ks l o) k=some (Tq rs0 x)
 | [],_,_,_,_,_,_,h,_=>by simp at h
 | _::_,[],_,_,_,_,_,_,h=>by simp at h
 | q::ks,y::l,o,j,k,x,hn,hk,hx=>by
  obtain ⟨h1,h2⟩:=List.nodup_cons.1 hn;simp only [Yn];cases j with
  | zero =>
   simp at hk hx;subst hk;subst hx;rw [Vn h1,Xn,if_pos rfl]
  | succ j =>
   simp only [List.getElem?_cons_succ] at hk hx;exact Rv h2 hk hx
theorem Pe (rs:List Nat) (o:Obj):(Tq rs o).isBox=o.isBox:=by cases o<;>rfl
theorem Un (rs:List Nat) (o:Obj):(Tq rs o).owns=o.owns:=by cases o<;>rfl
theorem pK {rs:List Nat} {o:Obj} {s k:Nat} {els:List D}:Tq rs o=.row s els k↔o=.row s els k:=by cases o<;>simp [Tq]
structure Alike (rs:List Nat) (l:List Obj) (G Gc:Gh) (Lc:Nat→Option Obj):Prop where
 obj:∀ i o,lk (Jc l) i=some o→Lc (rk rs i)=some (Tq rs o)
 gam:∀ i o,lk (Jc l) i=some o→G.γ i=Gc.γ (rk rs i)∧G.hd i=Gc.hd (rk rs i)
mutual
theorem rn_RA {rs:List Nat} {l:List Obj} {F:Fix} {G Gc:Gh} {Lc:Nat→Option Obj} (h:Alike rs l G Gc Lc):∀ {x:AV} {v:Value},x.kept (Jc l)→(RA F G (lk (Jc l)) x v↔RA F Gc Lc (rnA rs x) v)
 | .d x,v,_=>by simp [RA,rnA]
 | .ref i f,v,hk=>by
  simp only [AV.kept] at hk;simp only [RA,rnA];cases hi:lk (Jc l) i with
  | none=>rw [hi] at hk;cases hk
  | some o =>
   rw [h.obj i o hi,(h.gam i o hi).1];simp only [Pe]
 | .rref i n e f,v,hk=>by
  simp only [AV.kept] at hk;simp only [RA,rnA];cases hi:lk (Jc l) i with
  | none=>rw [hi] at hk;cases hk
  | some o =>
   rw [h.obj i o hi,(h.gam i o hi).1];cases o<;>simp [Tq]
 | .sl i n,v,hk=>by
  simp only [AV.kept] at hk;simp only [RA,rnA];cases hi:lk (Jc l) i with
  | none=>rw [hi] at hk;cases hk
  | some o =>
   rw [h.obj i o hi,(h.gam i o hi).2];cases o<;>simp [Tq]
 | .mpr i,v,hk=>by
  simp only [AV.kept] at hk;simp only [RA,rnA];cases hi:lk (Jc l) i with
  | none=>rw [hi] at hk;cases hk
  | some o =>
   rw [h.obj i o hi,(h.gam i o hi).1];simp only [Pe]
 | .sb i n f,v,hk=>by
  simp only [AV.kept] at hk;simp only [RA,rnA];cases hi:lk (Jc l) i with
  | none=>rw [hi] at hk;cases hk
  | some o =>
   rw [h.obj i o hi,(h.gam i o hi).2,(h.gam i o hi).1];cases o<;>simp [Tq]
 | .agg xs,v,hk=>by
  simp only [AV.kept] at hk;simp only [RA,rnA];constructor
  ·rintro ⟨cs,h1,h2,h3⟩;exact ⟨cs,h1,(rn_RAs h hk).1 h2,h3⟩
  ·rintro ⟨cs,h1,h2,h3⟩;exact ⟨cs,h1,(rn_RAs h hk).2 h2,h3⟩
 | .tup xs,v,hk=>by
  simp only [AV.kept] at hk;simp only [RA,rnA];constructor
  ·rintro ⟨cs,h1,h2⟩;exact ⟨cs,h1,(rn_RAs h hk).1 h2⟩
  ·rintro ⟨cs,h1,h2⟩;exact ⟨cs,h1,(rn_RAs h hk).2 h2⟩
 | .clo f xs,v,hk=>by
  simp only [AV.kept] at hk;simp only [RA,rnA];constructor
  ·rintro ⟨cs,h1,h2⟩;exact ⟨cs,h1,(rn_RAs h hk).1 h2⟩
  ·rintro ⟨cs,h1,h2⟩;exact ⟨cs,h1,(rn_RAs h hk).2 h2⟩
 | .nils s,v,_=>by simp [RA,rnA]
 | .dead,v,_=>by simp [RA,rnA]
theorem rn_RAs {rs:List Nat} {l:List Obj} {F:Fix} {G Gc:Gh} {Lc:Nat→Option Obj} (h:Alike rs l G Gc Lc):∀ {xs:List AV} {vs:List Value},keptAll (Jc l) xs→(RAs F G (lk (Jc l)) xs vs↔RAs F Gc Lc (rnAs rs xs) vs)
 | [],vs,_=>by simp [RAs,rnAs]
 | x::xs,vs,hk=>by
  simp only [keptAll] at hk;simp only [RAs,rnAs];constructor
  ·rintro ⟨v,r,h1,h2,h3⟩;exact ⟨v,r,h1,(rn_RA h hk.1).1 h2,(rn_RAs h hk.2).1 h3⟩
  ·rintro ⟨v,r,h1,h2,h3⟩;exact ⟨v,r,h1,(rn_RA h hk.1).2 h2,(rn_RAs h hk.2).2 h3⟩
end
theorem Dd {q:Z3}:∀ {l:List Obj},Pu q l→∀ {j:Nat} {o:Obj},l[j]?=some o→o.tied q
 | [],_,_,_,h=>by simp at h
 | x::l,ht,j,o,h=>by
  cases j with
  | zero=>simp at h;subst h;exact ht.1
  | succ j=>simp only [List.getElem?_cons_succ] at h;exact Dd ht.2 h
theorem gF:∀ {l:List Obj},Jr l→∀ {j s k:Nat} {els:List D},l[j]?=some (.row s els k)→k=0
 | [],_,_,_,_,_,h=>by simp at h
 | x::l,ht,j,s,k,els,h=>by
  have htl:Jr l:=by cases x<;>first|exact ht.2|exact ht
  cases j with
  | zero=>simp at h;subst h;exact ht.1
  | succ j=>simp only [List.getElem?_cons_succ] at h;exact gF htl h
theorem dG:∀ {l:List Obj},Jr l→∀ {j:Nat} {ks vs:List D} {f:Bool},l[j]?=some (.mp ks vs f)→f=false
 | [],_,_,_,_,_,h=>by simp at h
 | x::l,ht,j,ks,vs,f,h=>by
  have htl:Jr l:=by cases x<;>first|exact ht.2|exact ht
  cases j with
  | zero=>simp at h;subst h;exact ht.1
  | succ j=>simp only [List.getElem?_cons_succ] at h;exact dG htl h
theorem gX {rs:List Nat} {l:List Obj} {F:Fix} {G Gc:Gh} {Lc:Nat→Option Obj} (h:Alike rs l G Gc Lc) {i:Nat} {o:Obj} (hi:lk (Jc l) i=some o) (ht:o.tied (Jc l)) :
  Qz F G (lk (Jc l)) i o↔Qz F Gc Lc (rk rs i) (Tq rs o):=by
 obtain ⟨g1,g2⟩:=h.gam i o hi;cases o with
 | box ag cells =>
  simp only [Obj.tied] at ht;simp only [Qz,Tq,g1];constructor
  ·rintro ⟨b,cs,t,h1,h2,h3,h4⟩;exact ⟨b,cs,t,h1,h2,(rn_RAs h ht).1 h3,h4⟩
  ·rintro ⟨b,cs,t,h1,h2,h3,h4⟩;exact ⟨b,cs,t,h1,h2,(rn_RAs h ht).2 h3,h4⟩
 | fbox s x=>simp only [Qz,Tq,g1]
 | row s els k=>simp only [Qz,Tq,g1,g2]
 | mp ks vs f=>simp only [Qz,Tq,g1]
 | gone=>simp only [Qz,Tq]
 | slot e f=>simp only [Qz,Tq]
 | hole j n e f x=>exact ht.elim
section
variable {P:Program} {C:Ctx} {G:Gh}
variable {base:Nat} {pass:Nat→Prop} {F0:Anc} {m:Nat→Nat} {st:AS} {a:Act} {w:World}
theorem Qfi {F:Fix} {rs:List Nat} {l:List Obj} {G1 G2:Gh} {L:Nat→Option Obj} (al:Alike rs l G1 G2 L) {j:Nat} {v:Value} (h:RA F G1 (lk (Jc l)) (.mpr (90000+j)) v):RA F G2 L (.mpr (rk rs (90000+j))) v:=by
 simp only [RA] at h ⊢;obtain ⟨h1,h2⟩:=h;refine ⟨h1,?_⟩;cases hl:lk (Jc l) (90000+j) with
 | none=>rw [hl] at h2;exact h2.elim
 | some o =>
  rw [hl] at h2;rw [al.obj _ _ hl];intro hb;rw [Pe] at hb;obtain ⟨b,e1,e2⟩:=h2 hb;exact ⟨b,by rw [←(al.gam _ _ hl).1];exact e1,e2⟩
theorem aO (K:Bi P C) (h:SRg base pass F0 m G st a w) {f:FuncId} {bc:BCon} (hf:C.Δ f=some bc) {x:bc.X} {rs:List Nat} {vs:List Value} (hok:bc.ok x)
  (hx:RAs ⟨w,m⟩ G (lk st.objs) (rnAs rs (bc.args x)) vs) (hnd:rs.Nodup) (hlen:rs.length=(bc.post x).length) (hst:Q3 rs rs (bc.objs x) st.objs) (hfr:X6 (rs.drop (bc.objs x).length) st.objs) :
  Fv P f∧Calls P f vs.toArray w fun e w'=>∃ v m' G',e=.returned v∧SRg base pass F0 m' G' ⟨st.tmps,Yn rs rs (bc.post x) st.objs⟩ a w'∧RA ⟨w',m'⟩ G' (lk (Yn rs rs (bc.post x) st.objs)) (bc.rvr rs x) v:=by
 obtain ⟨hent,hsnd⟩:=K.2.2.2 f bc hf;refine ⟨hent,?_⟩;obtain ⟨ht1,hnf,ht2,hle,hcall⟩:=hsnd x hok;have hinj:∀ {j j' k:Nat},rs[j]?=some k→rs[j']?=some k→j=j':=by
  intro j j' k h1 h2;obtain ⟨hj,e1⟩:=List.getElem?_eq_some_iff.1 h1;obtain ⟨hj',e2⟩:=List.getElem?_eq_some_iff.1 h2;have hp:=List.pairwise_iff_getElem.1 hnd;rcases Nat.lt_trichotomy j j' with hlt|heq|hgt
  ·exact absurd (e1.trans e2.symm) (hp j j' hj hj' hlt)
  ·exact heq
  ·exact absurd (e2.trans e1.symm) (hp j' j hj' hj hgt)
 let G1:Gh:=⟨fun i=>G.γ (rk rs i),fun i=>G.hd (rk rs i)⟩
 have al1:Alike rs (bc.objs x) G1 G (lk st.objs):=⟨fun i o hi=>by
  obtain ⟨j,rfl,hj⟩:=X0 hi;obtain ⟨k,hk,hkk⟩:=Wv hst hj;rw [Mc hk];exact hkk,fun i o hi=>⟨rfl,rfl⟩⟩
 have own1:∀ {b:Nat},Dk G1 (bc.objs x) b→∃ k o,k∈rs∧lk st.objs k=some o∧o.owns=true∧G.γ k=some b:=by
  rintro b ⟨i,o,hi,ho,hg⟩;obtain ⟨j,rfl,hj⟩:=X0 hi;obtain ⟨k,hk,hkk⟩:=Wv hst hj;have hg':G.γ (rk rs (90000+j))=some b:=hg;rw [Mc hk] at hg';exact ⟨k,_,List.mem_of_getElem? hk,hkk,by rw [Un];exact ho,hg'⟩
 have zero1:∀ {b:Nat},Dk G1 (bc.objs x) b→m b=0:=by
  rintro b ⟨i,o,hi,ho,hg⟩;obtain ⟨j,rfl,hj⟩:=X0 hi;obtain ⟨k,hk,hkk⟩:=Wv hst hj;have hg':G.γ (rk rs (90000+j))=some b:=hg;rw [Mc hk] at hg';have hob:=h.objs k _ hkk;cases o with
  | box ag cells =>
   simp only [Qz,Tq] at hob;obtain ⟨b',cs,t,h1,_,_,_,h5⟩:=hob;rw [hg'] at h1;injection h1 with h1
   subst h1;exact h5
  | row s els k0 =>
   have:=gF hnf hj;subst this;simp only [Qz,Tq] at hob;rcases hob with ⟨h1,_⟩|⟨b',cap,cs,t,h1,_,_,_,_,_,_,h8,_⟩
   ·rw [hg'] at h1;cases h1
   ·rw [hg'] at h1;injection h1 with h1
    subst h1;simpa using h8
  | mp ks vs fr =>
   have:=dG hnf hj;subst this;simp only [Qz,Tq] at hob;obtain ⟨b',es,cl,h1,_,_,_,h5,_⟩:=hob;rw [hg'] at h1;injection h1 with h1
   subst h1;simpa using h5
  | fbox s y=>simp [Obj.owns] at ho
  | gone=>simp [Obj.owns] at ho
  | slot e f=>simp [Obj.owns] at ho
  | hole j' n e f x=>simp [Obj.owns] at ho
 have hs1:SRg w.heap.size (Dk G1 (bc.objs x)) ⟨⟨w,m⟩,G1,lk (Jc (bc.objs x))⟩ m G1 ⟨bc.args x,Jc (bc.objs x)⟩ ⟨vs.toArray,[]⟩ w:=by
  constructor
  ·rfl
  ·simpa using (rn_RAs al1 ht1.1).2 hx
  ·intro i o hi;obtain ⟨j,rfl,hj⟩:=X0 hi;exact (gX al1 hi (Dd ht1.2 hj)).2 (h.objs _ _ (al1.obj _ _ hi))
  ·intro i i' o o' b hi hi' ho ho' hb hb';have e:=h.apart _ _ _ _ b (al1.obj _ _ hi) (al1.obj _ _ hi') (by rw [Un];exact ho) (by rw [Un];exact ho') hb hb'
   obtain ⟨j,rfl,hj⟩:=X0 hi;obtain ⟨j',rfl,hj'⟩:=X0 hi';obtain ⟨k,hk,_⟩:=Wv hst hj;obtain ⟨k',hk',_⟩:=Wv hst hj';rw [Mc hk,Mc hk'] at e;subst e;rw [hinj hk hk']
  ·intro i o b hi ho hb;exact ⟨(h.mine _ _ b (al1.obj _ _ hi) (by rw [Un];exact ho) hb).1,.inr ⟨i,o,hi,ho,hb⟩⟩
  ·exact Frame.refl _ _ _
  ·exact fun _ _ _=>rfl
  ·exact h.new
  ·exact Zq _
  ·intro i o hi;obtain ⟨j,rfl,hj⟩:=X0 hi;exact ⟨by omega,o,hi,Zpl.refl _ _ _⟩
 refine (hcall m w G1 vs hs1).mono ?_;rintro e w' ⟨v,m',G2,rfl,hr,hs2⟩;have old2:∀ b,b<w.heap.size→¬ Dk G1 (bc.objs x) b→m' b=m b:=hs2.old;have hF:Fix.le ⟨w,m⟩ ⟨w',m'⟩:=by
  refine ⟨fun b=>?_,fun b es c hmb hbb=>?_⟩;rotate_left
  ·have hp:¬ Dk G1 (bc.objs x) b:=fun hp=>by
    have hz:=zero1 hp;simp only [hz] at hmb;omega
   rcases Nat.lt_or_ge b w.heap.size with hlt|hge
   ·rw [hs2.frame.block b hlt hp];exact hbb
   ·have:=h.new b hge;simp only at hmb;omega
  by_cases hp:Dk G1 (bc.objs x) b
  ·have hz:=zero1 hp;exact ⟨by simp only [hz];exact Nat.zero_le _,fun off ho=>by simp only [hz] at ho;omega⟩
  ·rcases Nat.lt_or_ge b w.heap.size with hlt|hge
   ·exact ⟨by simp only;rw [old2 b hlt hp];exact Zq _,fun off _=>World.cell?_of_block (a:=⟨b,off,none⟩) (hs2.frame.block b hlt hp)⟩
   ·have:=h.new b hge;exact ⟨by simp only;omega,fun off ho=>by simp only at ho;omega⟩
 let G':Gh:=⟨fun k=>if k∈rs then G2.γ (90000+rs.idxOf k) else G.γ k,fun k=>if k∈rs then G2.hd (90000+rs.idxOf k) else G.hd k⟩
 have hidx:∀ {j k:Nat},rs[j]?=some k→rs.idxOf k=j:=by
  intro j k hk;have hmem:=List.mem_of_getElem? hk;have h1:rs[rs.idxOf k]?=some k:=by
   rw [Zh (List.idxOf_lt_length_of_mem hmem),List.getElem_idxOf]
  exact hinj h1 hk
 have gin:∀ {j k:Nat},rs[j]?=some k→G'.γ k=G2.γ (90000+j)∧G'.hd k=G2.hd (90000+j):=by
  intro j k hk;have hmem:=List.mem_of_getElem? hk;exact ⟨by show (if k∈rs then _ else _)=_;rw [if_pos hmem,hidx hk],by show (if k∈rs then _ else _)=_;rw [if_pos hmem,hidx hk]⟩
 have gout:∀ {k:Nat},k∉rs→G'.γ k=G.γ k∧G'.hd k=G.hd k:=by
  intro k hk;exact ⟨by show (if k∈rs then _ else _)=_;rw [if_neg hk],by show (if k∈rs then _ else _)=_;rw [if_neg hk]⟩
 have hat:∀ {k:Nat},k∈rs→∃ (j:Nat) (o:Obj),rs[j]?=some k∧(bc.post x)[j]?=some o∧lk (Yn rs rs (bc.post x) st.objs) k=some (Tq rs o):=by
  intro k hk;obtain ⟨j,hj,e⟩:=List.getElem_of_mem hk;have hk':rs[j]?=some k:=by rw [Zh hj,e]
  have hjp:j<(bc.post x).length:=by omega
  have ho:=Zh (l:=bc.post x) hjp;exact ⟨j,_,hk',ho,Rv hnd hk' ho⟩
 have al2:Alike rs (bc.post x) G2 G' (lk (Yn rs rs (bc.post x) st.objs)):=by
  constructor
  ·intro i o hi;obtain ⟨j,rfl,hj⟩:=X0 hi;have hjl:j<rs.length:=by rw [hlen];exact (List.getElem?_eq_some_iff.1 hj).1
   have hrs:=Zh (l:=rs) hjl;rw [Mc hrs];exact Rv hnd hrs hj
  ·intro i o hi;obtain ⟨j,rfl,hj⟩:=X0 hi;have hjl:j<rs.length:=by rw [hlen];exact (List.getElem?_eq_some_iff.1 hj).1
   have hrs:=Zh (l:=rs) hjl;rw [Mc hrs];obtain ⟨g1,g2⟩:=gin hrs;exact ⟨g1.symm,g2.symm⟩
 have hgoes:Ge G (lk st.objs) G' (lk (Yn rs rs (bc.post x) st.objs)):=by
  intro k o hk;by_cases hkr:k∈rs
  ·obtain ⟨j,o1,hj,ho1,hb1⟩:=hat hkr;have hjn:j<(bc.objs x).length:=by
    rcases Nat.lt_or_ge j (bc.objs x).length with hlt|hge
    ·exact hlt
    ·have:k∈rs.drop (bc.objs x).length:=by
      refine List.mem_iff_getElem?.2 ⟨j-(bc.objs x).length,?_⟩;rw [List.getElem?_drop,show (bc.objs x).length+(j-(bc.objs x).length)=j by omega]
      exact hj
     rw [yK hfr this] at hk;cases hk
   have hob:=Zh (l:=bc.objs x) hjn;obtain ⟨k',hk',hkk⟩:=Wv hst hob;rw [hj] at hk';injection hk' with hk'
   subst hk';rw [hk] at hkk;injection hkk with hkk
   subst hkk;obtain ⟨_,o2,hl2,hwent⟩:=hs2.lent _ _ (Uj hob);rw [Uj ho1] at hl2;injection hl2 with hl2
   subst hl2;obtain ⟨g1,g2⟩:=gin hj;have e1:G1.γ (90000+j)=G.γ k:=by show G.γ (rk rs (90000+j))=_;rw [Mc hj]
   have e2:G1.hd (90000+j)=G.hd k:=by show G.hd (rk rs (90000+j))=_;rw [Mc hj]
   refine ⟨_,hb1,fun hb=>?_,fun s els' k' he=>?_⟩
   ·rw [Pe] at hb;obtain ⟨w1,w2⟩:=hwent.1 hb;exact ⟨by rw [Pe];exact w1,by rw [g1,←e1];exact w2⟩
   ·rw [pK] at he;obtain ⟨els,k0,f1,f2,f3⟩:=hwent.2 s els' k' he;refine ⟨els,k0,by rw [pK];exact f1,f2,fun heq=>?_⟩
    obtain ⟨q1,q2⟩:=f3 heq;exact ⟨by rw [g1,←e1];exact q1,by rw [g2,←e2];exact q2⟩
  ·obtain ⟨g1,g2⟩:=gout hkr;refine ⟨o,by rw [Vn hkr];exact hk,fun hb=>⟨hb,g1⟩,fun s els' k' he=>⟨els',k',he,Zq _,fun _=>⟨g1,g2⟩⟩⟩
 have notB:∀ {k:Nat} {o:Obj} {b:Nat},k∉rs→lk st.objs k=some o→o.owns=true→G.γ k=some b→¬ Dk G1 (bc.objs x) b:=by
  intro k o b hk ho hw hg hp;obtain ⟨k',o',hm',ho',hw',hg'⟩:=own1 hp;have:=h.apart k k' o o' b ho ho' hw hw' hg hg';subst this;exact hk hm'
 refine ⟨v,m',G',rfl,?_,by
  unfold BCon.rv at hr;unfold BCon.rvr;cases ho:bc.out x with
  | none=>rw [ho] at hr;simpa only [RA] using hr
  | some j=>rw [ho] at hr;exact Qfi al2 hr⟩
 constructor
 ·exact h.defers
 ·exact RAs.mono hF hgoes h.tmps
 ·intro k o hk;by_cases hkr:k∈rs
  ·obtain ⟨j,o1,hj,ho1,hb1⟩:=hat hkr;simp only at hk;rw [hb1] at hk;injection hk with hk
   subst hk;have:=(gX al2 (Uj ho1) (Dd ht2.2 ho1)).1 (hs2.objs _ _ (Uj ho1));rw [Mc hj] at this;exact this
  ·simp only [Vn hkr] at hk;obtain ⟨g1,g2⟩:=gout hkr;refine Qz.mono hF hgoes g1 g2 (fun ho b hbb=>?_) (h.objs k o hk);have hlt:=(h.mine k o b hk ho hbb).1;have hnp:=notB hkr hk ho hbb;exact ⟨hs2.frame.block b hlt hnp,old2 b hlt hnp⟩
 ·intro k k' o o' b hk hk' ho ho' hb hb';simp only at hk hk';by_cases hkr:k∈rs
  ·obtain ⟨j,o1,hj,ho1,hb1⟩:=hat hkr;rw [hb1] at hk;injection hk with hk
   subst hk;rw [Un] at ho;rw [(gin hj).1] at hb;by_cases hkr':k'∈rs
   ·obtain ⟨j',o1',hj',ho1',hb1'⟩:=hat hkr';rw [hb1'] at hk';injection hk' with hk'
    subst hk';rw [Un] at ho';rw [(gin hj').1] at hb';have:=hs2.apart _ _ _ _ b (Uj ho1) (Uj ho1') ho ho' hb hb';have e:j=j':=by omega
    subst e;rw [hj] at hj';injection hj'
   ·rw [Vn hkr'] at hk';rw [(gout hkr').1] at hb';have hlt:=(h.mine k' o' b hk' ho' hb').1;have hnp:=notB hkr' hk' ho' hb';rcases (hs2.mine _ _ b (Uj ho1) ho hb).2 with h1|h1
    ·omega
    ·exact absurd h1 hnp
  ·rw [Vn hkr] at hk;rw [(gout hkr).1] at hb;by_cases hkr':k'∈rs
   ·obtain ⟨j',o1',hj',ho1',hb1'⟩:=hat hkr';rw [hb1'] at hk';injection hk' with hk'
    subst hk';rw [Un] at ho';rw [(gin hj').1] at hb';have hlt:=(h.mine k o b hk ho hb).1;have hnp:=notB hkr hk ho hb;rcases (hs2.mine _ _ b (Uj ho1') ho' hb').2 with h1|h1
    ·omega
    ·exact absurd h1 hnp
   ·rw [Vn hkr'] at hk';rw [(gout hkr').1] at hb';exact h.apart k k' o o' b hk hk' ho ho' hb hb'
 ·intro k o b hk ho hb;simp only at hk;by_cases hkr:k∈rs
  ·obtain ⟨j,o1,hj,ho1,hb1⟩:=hat hkr;rw [hb1] at hk;injection hk with hk
   subst hk;rw [Un] at ho;rw [(gin hj).1] at hb;obtain ⟨q1,q2⟩:=hs2.mine _ _ b (Uj ho1) ho hb;refine ⟨q1,?_⟩;rcases q2 with q2|q2
   ·exact .inl (Nat.le_trans h.small q2)
   ·obtain ⟨k',o',_,ho',hw',hg'⟩:=own1 q2;exact (h.mine k' o' b ho' hw' hg').2
  ·rw [Vn hkr] at hk;rw [(gout hkr).1] at hb;obtain ⟨q1,q2⟩:=h.mine k o b hk ho hb;exact ⟨Nat.lt_of_lt_of_le q1 hs2.frame.size,q2⟩
 ·refine h.frame.trans ⟨hs2.frame.os,hs2.frame.tape,hs2.frame.output,hs2.frame.size,fun b hbb hp=>hs2.frame.block b (Nat.lt_of_lt_of_le hbb h.small) (fun hB=>?_)⟩;obtain ⟨k',o',_,ho',hw',hg'⟩:=own1 hB;rcases (h.mine k' o' b ho' hw' hg').2 with h1|h1
  ·omega
  ·exact hp h1
 ·intro b hbb hp;refine (old2 b (Nat.lt_of_lt_of_le hbb h.small) (fun hB=>?_)).trans (h.old b hbb hp);obtain ⟨k',o',_,ho',hw',hg'⟩:=own1 hB;rcases (h.mine k' o' b ho' hw' hg').2 with h1|h1
  ·omega
  ·exact hp h1
 ·exact hs2.new
 ·exact Nat.le_trans h.small hs2.frame.size
 ·exact h.lent.goes hgoes
end
mutual
theorem RA.off {F:Fix} {G G':Gh} {L L':Nat→Option Obj} {i:Nat} (hL:∀ j,j≠i→L' j=L j∧G'.γ j=G.γ j∧G'.hd j=G.hd j):∀ {x:AV} {v:Value},x.off i=true→RA F G L x v→RA F G' L' x v
 | .d x,_,_,h=>by simpa only [RA] using h
 | .ref j f,_,ho,h=>by
  simp only [AV.off,bne_iff_ne] at ho;obtain ⟨h1,h2,_⟩:=hL j ho;simp only [RA,h1,h2] at h ⊢;exact h
 | .rref j n e f,_,ho,h=>by
  simp only [AV.off,bne_iff_ne] at ho;obtain ⟨h1,h2,_⟩:=hL j ho;simp only [RA,h1,h2] at h ⊢;exact h
 | .sl j n,_,ho,h=>by
  simp only [AV.off,bne_iff_ne] at ho;obtain ⟨h1,_,h3⟩:=hL j ho;simp only [RA,h1,h3] at h ⊢;exact h
 | .mpr j,_,ho,h=>by
  simp only [AV.off,bne_iff_ne] at ho;obtain ⟨h1,h2,_⟩:=hL j ho;simp only [RA,h1,h2] at h ⊢;exact h
 | .sb j n f,_,ho,h=>by
  simp only [AV.off,bne_iff_ne] at ho;obtain ⟨h1,h2,h3⟩:=hL j ho;simp only [RA,h1,h2,h3] at h ⊢;exact h
 | .agg l,_,ho,h=>by
  simp only [AV.off] at ho;simp only [RA] at h ⊢;obtain ⟨cs,h1,h2,h3⟩:=h;exact ⟨cs,h1,RAs.off hL ho h2,h3⟩
 | .tup l,_,ho,h=>by
  simp only [AV.off] at ho;simp only [RA] at h ⊢;obtain ⟨cs,h1,h2⟩:=h;exact ⟨cs,h1,RAs.off hL ho h2⟩
 | .clo f l,_,ho,h=>by
  simp only [AV.off] at ho;simp only [RA] at h ⊢;obtain ⟨cs,h1,h2⟩:=h;exact ⟨cs,h1,RAs.off hL ho h2⟩
 | .nils _,_,_,h=>by simpa only [RA] using h
 | .dead,_,_,_=>by simp [RA]
theorem RAs.off {F:Fix} {G G':Gh} {L L':Nat→Option Obj} {i:Nat} (hL:∀ j,j≠i→L' j=L j∧G'.γ j=G.γ j∧G'.hd j=G.hd j):∀ {l:List AV} {vs:List Value},offAll i l=true→RAs F G L l vs→RAs F G' L' l vs
 | [],_,_,h=>by simpa only [RAs] using h
 | x::l,vs,ho,h=>by
  simp only [offAll,Zg] at ho;simp only [RAs] at h ⊢;obtain ⟨v,r,h1,h2,h3⟩:=h;exact ⟨v,r,h1,RA.off hL ho.1 h2,RAs.off hL ho.2 h3⟩
end
theorem RAs.kill {F:Fix} {G G':Gh} {L L':Nat→Option Obj} {i:Nat} (hL:∀ j,j≠i→L' j=L j∧G'.γ j=G.γ j∧G'.hd j=G.hd j):∀ {l:List AV} {vs:List Value},RAs F G L l vs→RAs F G' L' (Nc i l) vs
 | [],_,h=>by simpa only [RAs,Nc] using h
 | x::l,vs,h=>by
  simp only [RAs] at h;obtain ⟨v,r,h1,h2,h3⟩:=h;simp only [Nc,RAs];refine ⟨v,r,h1,?_,RAs.kill hL h3⟩;cases ho:x.off i with
  | true=>exact RA.off hL ho h2
  | false=>simp [RA]
theorem rV {i:Nat}:∀ {o:Z3},U3 i o=true→∀ {j:Nat} {ag:Bool} {cells:List AV},lk o j=some (.box ag cells)→offAll i cells=true
 | [],_,j,ag,cells,hj=>by simp [lk] at hj
 | (k,q)::r,h,j,ag,cells,hj=>by
  simp only [lk] at hj;by_cases hjk:j=k
  ·subst hjk;rw [if_pos rfl] at hj;injection hj with hj
   subst hj;simp only [U3,Zg] at h;exact h.1
  ·rw [if_neg hjk] at hj;have hr:U3 i r=true:=by
    cases q<;>simp only [U3,Zg] at h<;>first|exact h|exact h.2
   exact rV hr hj
theorem gD {i:Nat}:∀ {o:Z3},U3 i o=true→∀ {j k n e f:Nat} {x:AV},lk o j=some (.hole k n e f x)→k≠i∧x.off i=true
 | [],_,j,k,n,e,f,x,hj=>by simp [lk] at hj
 | (q0,q)::r,h,j,k,n,e,f,x,hj=>by
  simp only [lk] at hj;by_cases hjk:j=q0
  ·subst hjk;rw [if_pos rfl] at hj;injection hj with hj
   subst hj;simp only [U3,Zg,bne_iff_ne] at h;exact h.1
  ·rw [if_neg hjk] at hj;have hr:U3 i r=true:=by
    cases q<;>simp only [U3,Zg] at h<;>first|exact h|exact h.2
   exact gD hr hj
section
variable {P:Program} {C:Ctx} {G:Gh}
variable {base:Nat} {pass:Nat→Prop} {F0:Anc} {m:Nat→Nat} {st:AS} {a:Act} {w:World}
theorem SRg.cut (h:SRg base pass F0 m G st a w) {i s k c:Nat} {els:List D} (hi:lk st.objs i=some (.row s els k)) {n:Nat} (hn:n≤els.length) (hk:k≤n) (ho:U3 i st.objs=true) (hi9:i<90000) {A:Option Addr} (hd:G.hd i=.slice A els.length c) :
  SRg base pass F0 m ⟨G.γ,fun j=>if j=i then .slice A n c else G.hd j⟩ ⟨Nc i st.tmps,upd st.objs i (.row s (els.take n) k)⟩ a w:=by
 have hL:∀ j,j≠i→lk (upd st.objs i (.row s (els.take n) k)) j=lk st.objs j∧(⟨G.γ,fun j=>if j=i then .slice A n c else G.hd j⟩:Gh).γ j=G.γ j∧(⟨G.γ,fun j=>if j=i then .slice A n c else G.hd j⟩:Gh).hd j=G.hd j:=by
  intro j hj;exact ⟨by rw [Xn,if_neg hj],rfl,by simp [hj]⟩
 have own:∀ j o',lk (upd st.objs i (.row s (els.take n) k)) j=some o'→∃ o,lk st.objs j=some o∧o.owns=o'.owns:=by
  intro j o' hj;rw [Xn] at hj;by_cases hji:j=i
  ·subst hji;rw [if_pos rfl] at hj;injection hj with hj
   subst hj;exact ⟨_,hi,rfl⟩
  ·rw [if_neg hji] at hj;exact ⟨o',hj,rfl⟩
 constructor
 ·exact h.defers
 ·exact RAs.kill hL h.tmps
 ·intro j o' hj;simp only at hj;by_cases hji:j=i
  ·subst hji;rw [Xn,if_pos rfl] at hj;injection hj with hj
   subst hj;have hob:=h.objs j _ hi;simp only [Qz] at hob ⊢;have hlen:(els.take n).length=n:=by rw [List.length_take];omega
   rcases hob with ⟨h1,h2,h3,h4⟩|⟨b,cap,cs,t,h1,h2,h3,h4,h5,h6,h7,h8,h9⟩
   ·left;subst h3;simp only [List.length_nil,Nat.le_zero_eq] at hn;subst hn;rw [h2] at hd;simp only [List.length_nil,Value.slice.injEq] at hd;obtain ⟨rfl,_,rfl⟩:=hd;exact ⟨h1,by simp,by simp,h4⟩
   ·right;rw [h2] at hd;simp only [Value.slice.injEq,true_and] at hd;obtain ⟨rfl,rfl⟩:=hd;refine ⟨b,cap,cs,t,h1,by simp [hlen],by omega,h4,h5,h6,?_,h8,by omega⟩
    rw [hlen];have:=(h7.split n).1;rw [List.take_take] at this;have e:min (n*s) (els.length*s)=n*s:=Nat.min_eq_left (Nat.mul_le_mul_right _ hn);rw [e] at this;exact this
  ·rw [(hL j hji).1] at hj;have hob:=h.objs j _ hj;obtain ⟨e1,e2,e3⟩:=hL j hji;cases o' with
   | box ag cells =>
    simp only [Qz] at hob ⊢;obtain ⟨b,cs,t,h1,h2,h3,h4,h5⟩:=hob;exact ⟨b,cs,t,h1,h2,RAs.off hL (rV ho hj) h3,h4,h5⟩
   | fbox s' x=>exact hob
   | row s' els' k' =>
    simp only [Qz,if_neg hji] at hob ⊢;exact hob
   | mp ks vs f=>exact hob
   | gone=>trivial
   | slot e f=>trivial
   | hole j' n' e f x =>
    obtain ⟨o1,o2⟩:=gD ho hj;simp only [Qz] at hob ⊢;obtain ⟨b,off,v,g1,g2,g3,g4⟩:=hob;exact ⟨b,off,v,RA.off hL (by simp only [AV.off,bne_iff_ne];exact o1) g1,g2,g3,RA.off hL o2 g4⟩
 ·intro j j' o o' b hj hj' hoo hoo' hb hb';obtain ⟨q,q1,q2⟩:=own j o hj;obtain ⟨q',q1',q2'⟩:=own j' o' hj';exact h.apart j j' q q' b q1 q1' (q2.trans hoo) (q2'.trans hoo') hb hb'
 ·intro j o b hj hoo hb;obtain ⟨q,q1,q2⟩:=own j o hj;exact h.mine j q b q1 (q2.trans hoo) hb
 ·exact h.frame
 ·exact h.old
 ·exact h.new
 ·exact h.small
 ·intro j o hj;obtain ⟨h1,o1,h2,h3⟩:=h.lent j o hj;have hji:j≠i:=by omega
  refine ⟨h1,o1,by rw [(hL j hji).1];exact h2,?_⟩
  refine h3.trans ⟨fun hb=>⟨hb,rfl⟩,fun s' els' k' he=>⟨els',k',he,Zq _,fun _=>⟨rfl,by simp [hji]⟩⟩⟩
theorem SRg.move (h:SRg base pass F0 m G st a w) {i d s k c:Nat} {els:List D} (hi:lk st.objs i=some (.row s els k)) (hnew:lk st.objs d=none) {n:Nat} (hn:n≤els.length) (hk:k≤n) {A:Option Addr} (hd:G.hd i=.slice A els.length c) :
  SRg base pass F0 m ⟨fun j=>if j=d then G.γ i else G.γ j,fun j=>if j=d then .slice A n c else G.hd j⟩ ⟨st.tmps,upd (upd st.objs i .gone) d (.row s (els.take n) k)⟩ a w:=by
 have hdi:d≠i:=by
  intro e;rw [e,hi] at hnew;cases hnew
 have hLd:lk (upd (upd st.objs i .gone) d (.row s (els.take n) k)) d=some (.row s (els.take n) k):=by rw [Xn,if_pos rfl]
 have hLi:lk (upd (upd st.objs i .gone) d (.row s (els.take n) k)) i=some .gone:=by rw [Xn,if_neg (Ne.symm hdi),Xn,if_pos rfl]
 have hLo:∀ j,j≠d→j≠i→lk (upd (upd st.objs i .gone) d (.row s (els.take n) k)) j=lk st.objs j:=fun j h1 h2=>by rw [Xn,if_neg h1,Xn,if_neg h2]
 have hgoes:Ge G (lk st.objs) ⟨fun j=>if j=d then G.γ i else G.γ j,fun j=>if j=d then .slice A n c else G.hd j⟩ (lk (upd (upd st.objs i .gone) d (.row s (els.take n) k))):=by
  intro j o hj;have hjd:j≠d:=by
   intro e;rw [e,hnew] at hj;cases hj
  by_cases hji:j=i
  ·subst hji;exact ⟨.gone,hLi,fun hb=>(by cases hb),fun s' els' k' he=>(by cases he)⟩
  ·refine ⟨o,by rw [hLo j hjd hji];exact hj,fun hb=>⟨hb,by simp [hjd]⟩,fun s' els' k' he=>⟨els',k',he,Zq _,fun _=>⟨by simp [hjd],by simp [hjd]⟩⟩⟩
 have own:∀ j o',lk (upd (upd st.objs i .gone) d (.row s (els.take n) k)) j=some o'→o'.owns=true→∃ q o,lk st.objs q=some o∧o.owns=true∧(if j=d then G.γ i else G.γ j)=G.γ q∧(j=d∧q=i∨j≠d∧q=j∧q≠i):=by
  intro j o' hj ho;by_cases hjd:j=d
  ·subst hjd;exact ⟨i,_,hi,rfl,by simp,.inl ⟨rfl,rfl⟩⟩
  ·by_cases hji:j=i
   ·subst hji;rw [hLi] at hj;injection hj with hj
    subst hj;cases ho
   ·rw [hLo j hjd hji] at hj;exact ⟨j,o',hj,ho,by simp [hjd],.inr ⟨hjd,rfl,hji⟩⟩
 constructor
 ·exact h.defers
 ·exact RAs.mono (Fix.le_refl _) hgoes h.tmps
 ·intro j o' hj;simp only at hj;by_cases hjd:j=d
  ·subst hjd;rw [hLd] at hj;injection hj with hj
   subst hj;have hob:=h.objs i _ hi;simp only [Qz,if_true] at hob ⊢;have hlen:(els.take n).length=n:=by rw [List.length_take];omega
   rcases hob with ⟨h1,h2,h3,h4⟩|⟨b,cap,cs,t,h1,h2,h3,h4,h5,h6,h7,h8,h9⟩
   ·left;subst h3;simp only [List.length_nil,Nat.le_zero_eq] at hn;subst hn;rw [h2] at hd;simp only [List.length_nil,Value.slice.injEq] at hd;obtain ⟨rfl,_,rfl⟩:=hd;exact ⟨h1,rfl,by simp,h4⟩
   ·right;rw [h2] at hd;simp only [Value.slice.injEq,true_and] at hd;obtain ⟨rfl,rfl⟩:=hd;refine ⟨b,cap,cs,t,h1,by simp [hlen],by omega,h4,h5,h6,?_,h8,by omega⟩
    rw [hlen];have:=(h7.split n).1;rw [List.take_take] at this;have e:min (n*s) (els.length*s)=n*s:=Nat.min_eq_left (Nat.mul_le_mul_right _ hn);rw [e] at this;exact this
  ·by_cases hji:j=i
   ·subst hji;rw [hLi] at hj;injection hj with hj
    subst hj;simp only [Qz]
   ·rw [hLo j hjd hji] at hj;exact Qz.mono (Fix.le_refl _) hgoes (by simp [hjd]) (by simp [hjd]) (fun _ _ _=>⟨rfl,rfl⟩) (h.objs j _ hj)
 ·intro j j' o o' b hj hj' ho ho' hb hb';obtain ⟨q,oq,g1,g2,g3,g4⟩:=own j o hj ho;obtain ⟨q',oq',g1',g2',g3',g4'⟩:=own j' o' hj' ho';simp only at hb hb';rw [g3] at hb;rw [g3'] at hb';have:=h.apart q q' oq oq' b g1 g1' g2 g2' hb hb';rcases g4 with ⟨e1,e2⟩|⟨e1,e2,e3⟩<;>rcases g4' with ⟨e1',e2'⟩|⟨e1',e2',e3'⟩
  ·rw [e1,e1']
  ·exact absurd (this.symm.trans e2) e3'
  ·exact absurd (this.trans e2') e3
  ·rw [←e2,←e2',this]
 ·intro j o b hj ho hb;obtain ⟨q,oq,g1,g2,g3,_⟩:=own j o hj ho;simp only at hb;rw [g3] at hb;exact h.mine q oq b g1 g2 hb
 ·exact h.frame
 ·exact h.old
 ·exact h.new
 ·exact h.small
 ·exact h.lent.goes hgoes
end
section
variable {P:Program} {C:Ctx} {G:Gh}
variable {base:Nat} {pass:Nat→Prop} {F0:Anc} {m:Nat→Nat} {st:AS} {a:Act} {w:World}
theorem Zly {F:Fix}:∀ {xs:List D} {vs:List Value},Qcf xs→RE F 1 xs vs→vs=(xs.map D.i).map (Value.int .u8)∧Qap xs=(xs.map D.i).map fun n=>UInt8.ofNat n.toNat
 | [],vs,_,h=>by
  simp only [RE] at h;subst h;exact ⟨rfl,rfl⟩
 | x::l,vs,⟨h1,h2⟩,h=>by
  simp only [RE] at h;obtain ⟨v,r,rfl,-,-,hv,hr⟩:=h;obtain ⟨e1,e2⟩:=Zly h2 hr;have hv2:=hv.of_int h1;subst hv2;subst e1;exact ⟨rfl,by rw [Qap,e2];rfl⟩
theorem Zos (T:W4 P C.τ) (h:SRg base pass F0 m G st a w) {s t:Nat} {x z:AV} {v:Value} {c:Prop} {os:Z3} (hh:aX C s t x st.objs=some (c,z,os)) (hc:c) (hx:RA ⟨w,m⟩ G (lk st.objs) x v) :
  ∃ u,(convert s t v).run P w=.ok u w∧RA ⟨w,m⟩ G (lk st.objs) z u∧os=st.objs:=by
 unfold aX at hh;split at hh
 ·next e hk hk' =>
  split at hh
  ·next c1 xs hke hsrc =>
   simp only [Zc,Ze] at hh;obtain ⟨rfl,rfl,rfl⟩:=hh;obtain ⟨d,hd,hkd⟩:=T.kind hk rfl;obtain ⟨d',hd',hkd'⟩:=T.kind hk' rfl;obtain ⟨d2,hd2,hkd2⟩:=T.kind hke rfl;simp only [TK.is] at hkd hkd' hkd2;obtain ⟨rfl,-⟩:=hkd;subst hkd';subst hkd2;obtain ⟨B,cap,rfl,hB⟩:=Aa h hx hsrc hc.1;rcases hB with rfl|⟨b,off,vs,rfl,hE,hcell⟩
   ·refine ⟨.string .empty,?_,by simp only [RA,R];rfl,rfl⟩
    rw [run_convert_bytes_string w s t e B _ cap hd hd2 hd'];cases B with
    | none=>simp [Conv.bytesToString]
    | some B =>
     exact run_bytesToString w B 0 cap [] (by simp [loadCells,loadCellsFrom])
   ·obtain ⟨e1,e2⟩:=Zly hc.2 hE;refine ⟨_,run_convert_bytes_arg w s e hd hd2 b off xs.length cap (xs.map D.i) (by simp) (fun i hi=>hcell i _ ?_) t hd',?_,rfl⟩
    ·rw [e1];simp [hi]
    ·simp only [RA,R,strOfNums];rw [e2]
  ·cases hh
 ·unfold Vf at hh;split at hh
  ·next c1 d hb =>
   simp only [Zc,Ze] at hh;obtain ⟨rfl,rfl,rfl⟩:=hh;obtain ⟨v,hr,hv⟩:=Zrx (w:=w) T hb hc hx;exact ⟨v,hr,by simpa only [RA] using hv,rfl⟩
  ·cases hh
theorem Ny {F:Fix} {L:Nat→Option Obj} (h:RAs F G L st.tmps a.tmps.toList):∀ (xs:List Operand) (ts:List Nat),RAs F G L (kC C st xs ts) (xs.map a.eval)
 | [],ts=>by cases ts<;>simp [kC,RAs]
 | x::xs,[]=>by simp only [kC,List.map_cons,RAs];exact ⟨_,_,rfl,Ys h x,Ny h xs []⟩
 | x::xs,t::ts=>by simp only [kC,List.map_cons,RAs];exact ⟨_,_,rfl,Ys h x,Ny h xs ts⟩
theorem Fp {F:Fix} {L:Nat→Option Obj} (h:RAs F G L st.tmps a.tmps.toList) (hint:Nat):∀ (ps:List (Nat×Operand)) (j i:Nat) (x:AV),(Vh C st hint ps)[j]?=some (i,x) →
  ∃ v,(ps.map fun p=>(p.1,a.eval p.2))[j]?=some (i,v)∧RA F G L x v
 | [],j,i,x,hj=>by simp [Vh] at hj
 | (i0,y)::ps,0,i,x,hj=>by
  simp only [Vh,List.getElem?_cons_zero,Zc,Ze] at hj;obtain ⟨rfl,rfl⟩:=hj;exact ⟨a.eval y,rfl,Ys h y⟩
 | (i0,y)::ps,j+1,i,x,hj=>by
  simp only [Vh,List.getElem?_cons_succ] at hj;simpa using Fp h hint ps j i x hj
theorem Dw (hint:Nat):∀ (ps:List (Nat×Operand)),(Vh C st hint ps).length=ps.length
 | []=>rfl
 | (i,x)::ps=>by simp [Vh,Dw hint ps]
theorem mX {F:Fix} {L:Nat→Option Obj} (h:RAs F G L st.tmps a.tmps.toList) (t:Nat) (x:Option Operand):Ua F G L (Ztn C st t x) (x.map a.eval):=by
 cases x with
 | none=>simp [Ztn,Ua]
 | some x=>simp only [Ztn,Option.map_some,Ua];exact Ys h x
def kA (base:Nat) (pass:Nat→Prop) (F0:Anc) (a:Act) (tm:List AV) (dst:Option Tmp) (z:AV) (os:Z3) (K:Act→World→Prop):Prop :=
 ∀ v w' m' G',SRg base pass F0 m' G' ⟨tm,os⟩ a w'→RA ⟨w',m'⟩ G' (lk os) z v→K (a.put dst v) w'
theorem Jv {o:Oper} {s:Sem Value} {z:AV} {os:Z3} {K:Act→World→Prop} {Q:Exit→Act→World→Prop} (he:execOp a.eval o=(do pure (.value (←s)))) (ht:Bh P base pass F0 a st.tmps s w z os)
  (hn:kA base pass F0 a st.tmps o.dst z os K):o.wp P a w K Q:=by
 obtain ⟨v,w',m',G',hr,hs,hz⟩:=ht;unfold Oper.wp;rw [he];simp only [Sem.run_bind,hr,Result.andThen_ok,Sem.run_pure,Oper.upon];exact hn v w' m' G' hs hz
theorem wW {o:Oper} {s:Sem Unit} {os:Z3} {K:Act→World→Prop} {Q:Exit→Act→World→Prop} (he:execOp a.eval o=(do s;pure .skip)) (ht:uR P base pass F0 a st.tmps s w os)
  (hn:kA base pass F0 a st.tmps o.dst .dead os K):o.wp P a w K Q:=by
 obtain ⟨w',m',G',hr,hs⟩:=ht;unfold Oper.wp;rw [he];simp only [Sem.run_bind,hr,Result.andThen_ok,Sem.run_pure,Oper.upon];exact hn _ w' m' G' hs (by simp [RA])
theorem Cz {o:Oper} {f:FuncId} {args:Array Value} {z:AV} {os:Z3} {K:Act→World→Prop} {Q:Exit→Act→World→Prop} (he:(execOp a.eval o).run P w=.ok (.enter f args) w)
  (hc:Calls P f args w fun e w'=>∃ v m' G',e=.returned v∧SRg base pass F0 m' G' ⟨st.tmps,os⟩ a w'∧RA ⟨w',m'⟩ G' (lk os) z v) (hn:kA base pass F0 a st.tmps o.dst z os K):o.wp P a w K Q:=by
 unfold Oper.wp;rw [he];simp only [Oper.upon];refine hc.mono fun e w' ⟨v,m',G',he',hs,hz⟩=>?_;subst he';exact hn v w' m' G' hs hz
theorem dX {α:Type} {a:Array α} {x:α} (h:a.toList=[x]):a=#[x]:=by cases a;simp_all
theorem dZ {α:Type} {a:Array α} {x y:α} (h:a.toList=[x,y]):a=#[x,y]:=by cases a;simp_all
theorem Zmz (K:Bi P C) (h:SRg base pass F0 m G st a w) {o:Oper} {c:Prop} {z:AV} {os:Z3} {N:Act→World→Prop} {Q:Exit→Act→World→Prop} (hh:H9 C o st=some (c,z,os)) (hc:c)
  (hn:kA base pass F0 a st.tmps o.dst z os N):o.wp P a w N Q:=by
 have T:=K.1;have ev:∀ (hint:Nat) (x:Operand),RA ⟨w,m⟩ G (lk st.objs) (st.ev C hint x) (a.eval x):=fun hint x=>Ys h.tmps x;unfold H9 at hh;split at hh
 case h_1 x hop =>
  simp only [Zc,Ze] at hh;obtain ⟨rfl,rfl,rfl⟩:=hh;exact Jv (st:=st) (s:=pure (a.eval x)) (by simp [execOp,hop]) (Qj h rfl (ev _ x)) hn
 case h_2 x hop =>
  simp only [Zc,Ze] at hh;obtain ⟨rfl,rfl,rfl⟩:=hh;exact Jv (st:=st) (s:=pure (a.eval x)) (by simp [execOp,hop]) (Qj h rfl (ev _ x)) hn
 case h_3 cnd x y hop =>
  split at hh
  ·next r hr =>
   simp only [Zc,Ze] at hh;obtain ⟨rfl,rfl,rfl⟩:=hh;have h0:=ev 0 cnd;unfold Ztj at hr;split at hr
   ·next hb =>
    simp only [Zc] at hr;subst hr;rw [hb] at h0;simp only [RA,R] at h0;exact Jv (st:=st) (s:=pure (a.eval x)) (by simp [execOp,hop,h0,asBool]) (Qj h rfl (ev _ x)) hn
   ·next hb =>
    simp only [Zc] at hr;subst hr;rw [hb] at h0;simp only [RA,R] at h0;exact Jv (st:=st) (s:=pure (a.eval y)) (by simp [execOp,hop,h0,asBool]) (Qj h rfl (ev _ y)) hn
   ·cases hr
  ·cases hh
 case h_4 e hop =>
  split at hh
  ·next k hd=>exact Jv (st:=st) (by simp only [execOp,hop]) (Zpf T h hh hc) hn
  ·cases hh
 case h_5 e x hop =>
  split at hh
  ·next k hd=>exact Jv (st:=st) (by simp only [execOp,hop]) (zC h (ev _ x) hh hc) hn
  ·cases hh
 case h_6 t ps hop =>
  refine Jv (st:=st) (s:=Instr.build t (ps.toList.map fun p=>(p.1,a.eval p.2)).toArray) ?_ (Zo0 T h (by rw [Dw];simp) (Fp h.tmps 0 ps.toList) hh hc) hn
  simp only [execOp,hop]
  congr 2
  cases ps;simp
 case h_7 t n ps hop =>
  split at hh
  ·next k hd =>
   refine Jv (st:=st) (s:=Instr.buildSlice t n (ps.toList.map fun p=>(p.1,a.eval p.2)).toArray) ?_ (mG T h (by rw [Dw];simp) (Fp h.tmps _ ps.toList) hh hc) hn
   simp only [execOp,hop]
   congr 2
   cases ps;simp
  ·cases hh
 case h_8 t p hop=>exact Jv (st:=st) (by simp only [execOp,hop]) (Zqw T h (ev _ p) hh hc) hn
 case h_9 t p x hop =>
  obtain ⟨rfl,hs⟩:=Zl4 (P:=P) T h (ev 0 p) (ev t x) hh hc;exact wW (st:=st) (by simp only [execOp,hop]) hs hn
 case h_10 op t x y ty hop =>
  unfold Vf at hh;split at hh
  ·next c1 d hb =>
   simp only [Zc,Ze] at hh;obtain ⟨rfl,rfl,rfl⟩:=hh;obtain ⟨v,hr,hv⟩:=Zwq (w:=w) (ox:=x) (oy:=y) T hb hc (ev t x) (ev t y);exact Jv (st:=st) (s:=W3 op t x y (a.eval x) (a.eval y)) (by simp only [execOp,hop,W3]) (Qj h hr (by simpa only [RA] using hv)) hn
  ·cases hh
 case h_11 op t x hop =>
  unfold Vf at hh;split at hh
  ·next c1 d hb =>
   simp only [Zc,Ze] at hh;obtain ⟨rfl,rfl,rfl⟩:=hh;obtain ⟨v,hr,hv⟩:=Zxm (P:=P) (w:=w) hb hc (ev t x);exact Jv (st:=st) (by simp only [execOp,hop]) (Qj h hr (by simpa only [RA] using hv)) hn
  ·cases hh
 case h_12 s t x hop =>
  obtain ⟨v,hr,hv,rfl⟩:=Zos T h hh hc (ev s x);exact Jv (st:=st) (by simp only [execOp,hop]) (Qj h hr hv) hn
 case h_13 f first caps hop =>
  split at hh
  ·next hf =>
   simp only [Zc,Ze] at hh;obtain ⟨rfl,rfl,rfl⟩:=hh;refine Jv (st:=st) (s:=Instr.makeFunc (.func f) (first.map a.eval) (caps.map a.eval)) (by simp only [execOp,hop]) (Qj h (v:=.func (.func f) #[] (caps.toList.map a.eval).toArray) ?_ (Zna (Ny h.tmps caps.toList []))) hn
   have hf':first=#[]:=by cases first;simp_all
   subst hf';simp [Instr.makeFunc];cases caps;simp
  ·cases hh
 case h_14 t l cp hop =>
  split at hh
  ·next k hd=>exact Jv (st:=st) (by simp only [execOp,hop]) (oH T h (ev _ l) (ev _ cp) hh hc) hn
  ·cases hh
 case h_15 t x lo hi mx hop =>
  exact Jv (st:=st) (by simp only [execOp,hop]) (Zl9 T h (ev _ x) (mX h.tmps _ lo) (mX h.tmps _ hi) (mX h.tmps _ mx) hh hc) hn
 case h_16 t hop =>
  split at hh
  ·next k hd=>exact Jv (st:=st) (by simp [execOp,hop]) (vH (t:=t) h hh) hn
  ·cases hh
 case h_17 t x i ok hop=>exact Jv (st:=st) (by simp only [execOp,hop]) (Zaw T h (ev _ x) (ev _ i) hh hc) hn
 case h_18 t x i y hop =>
  obtain ⟨rfl,hs⟩:=oG (P:=P) T h (ev 0 x) (ev 0 i) (ev _ y) hh hc;exact wW (st:=st) (by simp only [execOp,hop]) hs hn
 case h_19 t p f hop=>exact Jv (st:=st) (by simp only [execOp,hop]) (oN T h (ev _ p) hh hc) hn
 case h_20 t x f hop=>exact Jv (st:=st) (by simp only [execOp,hop]) (Zok T h (ev _ x) hh hc) hn
 case h_21 t x i hop=>exact Jv (st:=st) (by simp only [execOp,hop]) (oL T h (ev _ x) (ev _ i) hh hc) hn
 case h_22 t x i hop=>exact Jv (st:=st) (by simp only [execOp,hop]) (Znu T h (ev _ x) (ev _ i) hh hc) hn
 case h_23 x i hop=>exact Jv (st:=st) (by simp only [execOp,hop]) (vO h (ev _ x) hh) hn
 case h_24 cl hop =>
  split at hh
  case h_1 hcal =>
   split at hh
   ·next x t hx ht =>
    have e1:=dX hx;have e2:=dX ht;refine Jv (st:=st) (s:=Builtin.len_ #[t] o.type #[a.eval x]) ?_ (Zvx T h (ev t x) hh hc o.type) hn;simp [execOp,hop,resolve,hcal,e1,e2,invoke,builtin]
   ·cases hh
  case h_2 hcal =>
   split at hh
   ·next s x t t' k hx ht hk =>
    split at hh
    ·next htt =>
     subst htt;have e1:=dZ hx;have e2:=dZ ht;refine Jv (st:=st) (s:=Builtin.append_ #[t,t] o.type #[a.eval s,a.eval x]) ?_ (Zbm T h (ev t s) (ev t x) hh hc o.type) hn;simp [execOp,hop,resolve,hcal,e1,e2,invoke,builtin]
    ·cases hh
   ·cases hh
  case h_3 hcal =>
   split at hh
   ·next x y t ts hx ht =>
    unfold Vf at hh;split at hh
    ·next c1 d hb =>
     simp only [Zc,Ze] at hh;obtain ⟨rfl,rfl,rfl⟩:=hh;have e1:=dZ hx;obtain ⟨v,hr,hv⟩:=Zvk (P:=P) (w:=w) hb hc (ev t x) (ev t y) cl.argTypes o.type;refine Jv (st:=st) (s:=Builtin.min_ cl.argTypes o.type #[a.eval x,a.eval y]) ?_ (Qj h hr (by simpa only [RA] using hv)) hn
     simp [execOp,hop,resolve,hcal,e1,invoke,builtin]
    ·cases hh
   ·cases hh
  case h_4 hcal =>
   split at hh
   ·next x y t ts hx ht =>
    unfold Vf at hh;split at hh
    ·next c1 d hb =>
     simp only [Zc,Ze] at hh;obtain ⟨rfl,rfl,rfl⟩:=hh;have e1:=dZ hx;obtain ⟨v,hr,hv⟩:=Zvq (P:=P) (w:=w) hb hc (ev t x) (ev t y) cl.argTypes o.type;refine Jv (st:=st) (s:=Builtin.max_ cl.argTypes o.type #[a.eval x,a.eval y]) ?_ (Qj h hr (by simpa only [RA] using hv)) hn
     simp [execOp,hop,resolve,hcal,e1,invoke,builtin]
    ·cases hh
   ·cases hh
  case h_5 f hcal =>
   split at hh
   ·next k hk =>
    obtain ⟨hent,hcalls⟩:=fF K h (Ny h.tmps cl.args.toList cl.argTypes.toList) hh hc;refine Cz (st:=st) (args:=(cl.args.toList.map a.eval).toArray) ?_ hcalls hn;have:=hent (cl.args.toList.map a.eval).toArray w;have e:cl.args.map a.eval=(cl.args.toList.map a.eval).toArray:=by cases cl.args;simp
    simp only [execOp,hop,resolve,hcal,Act.eval,Deferred.ofValue];simpa [invoke,e] using this
   ·cases hh
  case h_6 f hcal =>
   split at hh
   ·next k hk =>
    have hf:=ev 0 (.tmp f);unfold sD at hh;have e:cl.args.map a.eval=(cl.args.toList.map a.eval).toArray:=by cases cl.args;simp
    split at hh
    ·next g caps hfv =>
     rw [hfv] at hf;simp only [RA,R] at hf;obtain ⟨cs,hfe,hcs⟩:=hf;obtain ⟨hent,hcalls⟩:=fF K h (RAs.append (Ny h.tmps cl.args.toList cl.argTypes.toList) (RAs.of_Rs hcs)) hh hc;refine Cz (st:=st) (args:=(cl.args.toList.map a.eval++cs).toArray) ?_ hcalls hn;have:=hent (cl.args.toList.map a.eval++cs).toArray w;simp only [execOp,hop,resolve,hcal,hfe,Deferred.ofValue];simpa [invoke,e] using this
    ·next g caps hfv =>
     rw [hfv] at hf;simp only [RA] at hf;obtain ⟨cs,hfe,hcs⟩:=hf;obtain ⟨hent,hcalls⟩:=fF K h (RAs.append (Ny h.tmps cl.args.toList cl.argTypes.toList) hcs) hh hc;refine Cz (st:=st) (args:=(cl.args.toList.map a.eval++cs).toArray) ?_ hcalls hn;have:=hent (cl.args.toList.map a.eval++cs).toArray w;simp only [execOp,hop,resolve,hcal,hfe,Deferred.ofValue];simpa [invoke,e] using this
    ·cases hh
   ·cases hh
  case h_7=>cases hh
 case h_25=>cases hh
end
def Qu {α:Type} (S:Nat→Prop) (f:Z3→Option (Prop×α×Z3)):Prop :=
 ∀ o o' c x p,(∀ k,S k→lk o k=lk o' k)→f o=some (c,x,p)→∃ p',f o'=some (c,x,p')∧(∀ k,S k→lk p k=lk p' k)∧(∀ k,¬ S k→lk p k=lk o k∧lk p' k=lk o' k)
section
variable {α β:Type} {S:Nat→Prop}
theorem Qu.ret (c:Prop) (x:α):Qu S (fun o=>some (c,x,o)):=by
 intro o o' c' x' p h he;simp only [Zc,Ze] at he;obtain ⟨rfl,rfl,rfl⟩:=he;exact ⟨o',rfl,h,fun k _=>⟨rfl,rfl⟩⟩
theorem Qu.none:Qu (α:=α) S (fun _=>none):=by
 intro o o' c' x' p h he;cases he
theorem Qu.upd {i:Nat} (hi:S i) (c:Prop) (x:α) (b:Obj):Qu S (fun o=>some (c,x,upd o i b)):=by
 intro o o' c' x' p h he;simp only [Zc,Ze] at he;obtain ⟨rfl,rfl,rfl⟩:=he;refine ⟨_,rfl,fun k hk=>?_,fun k hk=>?_⟩
 ·rw [Xn,Xn,h k hk]
 ·have:k≠i:=fun e=>hk (e▸hi);rw [Xn,Xn,if_neg this,if_neg this];exact ⟨rfl,rfl⟩
theorem Qu.lk {i:Nat} (hi:S i) {g:Option Obj→Z3→Option (Prop×α×Z3)} (h:∀ v,Qu S (g v)):Qu S (fun o=>g (lk o i) o):=by
 intro o o' c x p ho he;have:=h (Go.Am.lk o i) o o' c x p ho he;rw [ho i hi] at this;exact this
theorem Qu.bind {f:Z3→Option (Prop×α×Z3)} {g:Prop→α→Z3→Option (Prop×β×Z3)} (hf:Qu S f) (hg:∀ c x,Qu S (g c x)) :
  Qu S (fun o=>match f o with|some (c,x,p)=>g c x p|Option.none=>Option.none):=by
 intro o o' c x p ho he;simp only at he;split at he
 ·next c1 x1 p1 hf1 =>
  obtain ⟨p1',k1,k2,k3⟩:=hf o o' c1 x1 p1 ho hf1;obtain ⟨p',j1,j2,j3⟩:=hg c1 x1 p1 p1' c x p k2 he;refine ⟨p',?_,j2,fun k hk=>⟨(j3 k hk).1.trans (k3 k hk).1,(j3 k hk).2.trans (k3 k hk).2⟩⟩;simp only [k1];exact j1
 ·cases he
theorem Qu.bindE {f:Z3→Option (Prop×α×Z3)} {g:Prop→α→Z3→Option (Prop×β×Z3)} {F:Z3→Option (Prop×β×Z3)} (hf:Qu S f) (hg:∀ c x,Qu S (g c x))
  (h0:∀ o,f o=Option.none→F o=Option.none) (h1:∀ o c x p,f o=some (c,x,p)→F o=g c x p):Qu S F:=by
 have:F=fun o=>match f o with|some (c,x,p)=>g c x p|Option.none=>Option.none:=by
  funext o
  split
  ·next c x p h=>exact h1 o c x p h
  ·next h=>exact h0 o h
 rw [this];exact Qu.bind hf hg
theorem Qu.lkE {i:Nat} (hi:S i) {g:Option Obj→Z3→Option (Prop×α×Z3)} {F:Z3→Option (Prop×α×Z3)} (h:∀ v,Qu S (g v)) (hF:∀ o v,Go.Am.lk o i=v→F o=g v o):Qu S F:=by
 have:F=fun o=>g (Go.Am.lk o i) o:=by
  funext o
  exact hF o _ rfl
 rw [this];exact Qu.lk hi h
theorem Qu.congr {f g:Z3→Option (Prop×α×Z3)} (h:Qu S f) (e:∀ o,f o=g o):Qu S g:=by
 have:f=g:=funext e;exact this▸h
theorem Qu.mono {S':Nat→Prop} {f:Z3→Option (Prop×α×Z3)} (h:Qu S f) (hs:∀ k,S k→S' k):Qu S' f:=by
 intro o o' c x p ho he;obtain ⟨p',k1,k2,k3⟩:=h o o' c x p (fun k hk=>ho k (hs k hk)) he;refine ⟨p',k1,fun k hk=>?_,fun k hk=>k3 k (fun h=>hk (hs k h))⟩;by_cases hs:S k
 ·exact k2 k hs
 ·rw [(k3 k hs).1,(k3 k hs).2,ho k hk]
end
section
variable {C:Ctx} {S:Nat→Prop}
theorem zI {e key:Nat} {x:AV} (hk:S key):Qu S (Ay C e key x):=by
 refine Qu.congr (Qu.lk (g:=fun v o=>match C.ag e,v with
  | some ag,none=>some (x.fits (C.size e),AV.ref key 0,upd o key (.box ag (x.cells ag (C.size e))))
  | _,_=>none) hk fun v=>?_) (fun o=>rfl)
 split
 ·exact Qu.upd hk _ _ _
 ·exact Qu.none
theorem lF {t:Nat} {p:AV} (hk:∀ k∈p.keys,S k):Qu S (Mu C t p):=by
 cases p with
 | d x =>
  cases x with
  | ptr s x =>
   refine Qu.congr (f:=fun o=>match C.ag t with
    | some true=>if s=C.size t then some (True,.d x.asAgg,o) else none
    | some false=>if s=1 then some (True,.d (x.cell 0),o) else none
    | none=>none) ?_ (fun o=>rfl)
   repeat' split
   all_goals first|exact Qu.ret _ _|exact Qu.none
  | _=>exact Qu.none
 | ref i f =>
  have hi:=hk i (by simp [AV.keys])
  refine Qu.congr (Qu.lk (g:=fun v o=>match v with
   | some (.box _ cells)=>match C.ag t with
    | some true=>if f+C.size t≤cells.length then some (True,nW ((cells.drop f).take (C.size t)),o) else none
    | some false=>if f<cells.length then some (True,cells.getD f .dead,o) else none
    | none=>none
   | some (.fbox s x)=>match C.ag t with
    | some true=>if f=0∧s=C.size t then some (True,.d x.asAgg,o) else none
    | some false=>if f<s then some (True,.d (x.cell f),o) else none
    | none=>none
   | _=>none) hi fun v=>?_) (fun o=>rfl)
  repeat' split
  all_goals first|exact Qu.ret _ _|exact Qu.none
 | rref i n e f =>
  have hi:=hk i (by simp [AV.keys])
  refine Qu.congr (Qu.lk (g:=fun v o=>match v with
   | some (.row s els _)=>match C.ag t with
    | some true=>if f=0∧s=C.size t then some (n=els.length∧e<els.length,.d (el els e).asAgg,o) else none
    | some false=>if f<s then some (n=els.length∧e<els.length,.d ((el els e).cell f),o) else none
    | none=>none
   | _=>none) hi fun v=>?_) (fun o=>rfl)
  repeat' split
  all_goals first|exact Qu.ret _ _|exact Qu.none
 | _=>exact Qu.none
theorem Zyw {t:Nat} {p:AV} (hk:∀ k∈p.keys,S k):Qu S (dO C t p):=by
 cases p with
 | rref i n e f =>
  have hi:=hk i (by simp [AV.keys])
  have hj:=hk (50000+i) (by simp [AV.keys])
  refine Qu.lkE hj (g:=fun v o=>match v with
   | some (.hole i' n0 e0 f0 x)=>if i'=i∧f0=f then match lk o i,C.ag t with
     | some (.row s els _),some false=>some (n=n0∧n=els.length∧e=e0,x,o)
     | _,_=>none
    else Mu C t (.rref i n e f) o
   | _=>Mu C t (.rref i n e f) o) (fun v=>?_) (fun o v h=>by simp only [dO,h];rcases v with _|(_|_|_|_|_|_|_)<;>rfl)
  split
  ·next i' n0 e0 f0 x =>
   split
   ·refine Qu.lkE hi (g:=fun v o=>match v,C.ag t with
     | some (.row s els _),some false=>some (n=n0∧n=els.length∧e=e0,x,o)
     | _,_=>none) (fun v=>?_) (fun o v h=>by simp only [h])
    split
    ·exact Qu.ret _ _
    ·exact Qu.none
   ·exact lF hk
  ·exact lF hk
 | _=>exact Qu.congr (lF (C:=C) (t:=t) hk) (fun o=>rfl)
theorem Zvz {x:AV} (hk:∀ k∈x.keys,S k):Qu S (I5 x):=by
 cases x with
 | d x=>exact Qu.ret _ _
 | nils s=>exact Qu.ret _ _
 | sl i n =>
  have hi:=hk i (by simp [AV.keys])
  refine Qu.lkE hi (g:=fun v o=>match v with
   | some (.row s els _)=>some (n=els.length,D.list s els,upd o i (.row s els els.length))
   | _=>none) (fun v=>?_) (fun o v h=>?_)
  ·split
   ·exact Qu.upd hi _ _ _
   ·exact Qu.none
  ·simp only [I5,h];rcases v with _|(_|_|_|_|_|_|_)<;>rfl
 | _=>exact Qu.none
theorem sQ:∀ {l:List AV} (_:∀ k∈keysAll l,S k),Qu S (Dr l)
 | [],_=>Qu.ret _ _
 | x::r,h=>by
  simp only [keysAll,List.mem_append] at h;refine Qu.bindE (g:=fun c y o'=>match Dr r o' with
   | some (c',l,o'')=>some (c∧c',y::l,o'')
   | none=>none) (Zvz (fun k hk=>h k (.inl hk))) (fun c y=>?_) (fun o e=>by simp only [Dr,e]) (fun o c x p e=>by simp only [Dr,e];try rfl)
  refine Qu.bindE (g:=fun c' l o''=>some (c∧c',y::l,o'')) (sQ (fun k hk=>h k (.inr hk))) (fun c y=>Qu.ret _ _) (fun o e=>by simp only [e]) (fun o c x p e=>by simp only [e];try rfl)
theorem Fz {x:AV} (hk:∀ k∈x.keys,S k):Qu S (pur 1 x):=by
 cases x with
 | d x=>exact Qu.ret _ _
 | nils s=>exact Qu.ret _ _
 | sl i n =>
  have hi:=hk i (by simp [AV.keys])
  refine Qu.lkE hi (g:=fun v o=>match v with
   | some (.row s els _)=>some (n=els.length,D.list s els,upd o i (.row s els els.length))
   | _=>none) (fun v=>?_) (fun o v h=>?_)
  ·split
   ·exact Qu.upd hi _ _ _
   ·exact Qu.none
  ·simp only [pur,h];rcases v with _|(_|_|_|_|_|_|_)<;>rfl
 | ref i f =>
  have hi:=hk i (by simp [AV.keys])
  cases f with
  | succ f=>exact Qu.none
  | zero =>
   refine Qu.lkE hi (g:=fun v o=>match v with
    | some (.fbox s x)=>some (True,D.ptr s x,o)
    | _=>none) (fun v=>?_) (fun o v h=>?_)
   ·split
    ·exact Qu.ret _ _
    ·exact Qu.none
   ·simp only [pur,h];cases v with
    | none=>rfl
    | some ob=>cases ob<;>simp [purs]
 | mpr i =>
  have hi:=hk i (by simp [AV.keys])
  refine Qu.lkE hi (g:=fun v o=>match v with
   | some (.mp ks vs _)=>some (True,D.map ks vs,upd o i (.mp ks vs true))
   | _=>none) (fun v=>?_) (fun o v h=>?_)
  ·split
   ·exact Qu.upd hi _ _ _
   ·exact Qu.none
  ·simp only [pur,h];rcases v with _|(_|_|_|_|_|_|_)<;>rfl
 | agg l =>
  cases hf:aV l with
  | some xs=>exact Qu.congr (Qu.ret True (D.agg xs)) (fun o=>by simp only [pur,hf])
  | none =>
   refine Qu.bindE (g:=fun c xs o'=>some (c,D.agg xs,o')) (sQ (l:=l) (fun k h=>hk k (by simpa [AV.keys] using h))) (fun c y=>Qu.ret _ _) (fun o e=>by simp only [pur,hf,e];cases l<;>simp [purs]) (fun o c x p e=>by simp only [pur,hf,e])
 | tup l=>exact Qu.congr Qu.none (fun o=>by cases l<;>simp [pur,purs])
 | clo f l=>exact Qu.congr Qu.none (fun o=>by cases l<;>simp [pur,purs])
 | rref a b c d=>exact Qu.none
 | sb a b c=>exact Qu.none
 | dead=>exact Qu.none
theorem R9 {C:Ctx} (hC:C.dp=1) {t:Nat} {p x:AV} (hp:∀ k∈p.keys,S k) (hx:∀ k∈x.keys,S k):Qu S (Hy C t p x):=by
 cases p with
 | ref i f =>
  have hi:=hp i (by simp [AV.keys])
  refine Qu.lkE hi (g:=fun v o=>match v with
   | some (.box ag cells)=>match C.ag t with
    | some true=>if f+C.size t≤cells.length then some (x.fits (C.size t),AV.dead,upd o i (.box ag (Fi cells f (x.cells true (C.size t))))) else none
    | some false=>if f<cells.length then some (x.fits 1∧C.size t=1,AV.dead,upd o i (.box ag (Fi cells f (x.cells false 1)))) else none
    | none=>none
   | _=>none) (fun v=>?_) (fun o v h=>?_)
  ·repeat' split
   all_goals first|exact Qu.upd hi _ _ _|exact Qu.none
  ·simp only [Hy,h];rcases v with _|(_|_|_|_|_|_|_)<;>rfl
 | rref i n e f =>
  have hi:=hp i (by simp [AV.keys])
  refine Qu.lkE hi (g:=fun v o=>match v with
   | some (.row _ _ _)=>(match pur 1 x o with
    | some (c,y,o')=>(match lk o' i with
     | some (.row s els k)=>match C.ag t with
      | some true=>if f=0∧s=C.size t then some (c∧n=els.length∧e<els.length∧k≤e∧y.fits s,AV.dead,upd o' i (.row s (els.set e y) k)) else none
      | some false=>if f<s then some (c∧n=els.length∧e<els.length∧k≤e∧y.fits 1∧C.size t=1,AV.dead,upd o' i (.row s (els.set e ((el els e).setCell f (y.cell 0))) k)) else none
      | none=>none
     | _=>none)
    | none=>none)
   | _=>none) (fun v=>?_) (fun o v h=>?_)
  ·split
   ·refine Qu.bindE (g:=fun c y o'=>(match lk o' i with
     | some (.row s els k)=>match C.ag t with
      | some true=>if f=0∧s=C.size t then some (c∧n=els.length∧e<els.length∧k≤e∧y.fits s,AV.dead,upd o' i (.row s (els.set e y) k)) else none
      | some false=>if f<s then some (c∧n=els.length∧e<els.length∧k≤e∧y.fits 1∧C.size t=1,AV.dead,upd o' i (.row s (els.set e ((el els e).setCell f (y.cell 0))) k)) else none
      | none=>none
     | _=>none)) (Fz hx) (fun c y=>?_) (fun o h=>by simp only [h]) (fun o c x p h=>by simp only [h];try rfl)
    refine Qu.lkE hi (g:=fun v o'=>match v with
     | some (.row s els k)=>match C.ag t with
      | some true=>if f=0∧s=C.size t then some (c∧n=els.length∧e<els.length∧k≤e∧y.fits s,AV.dead,upd o' i (.row s (els.set e y) k)) else none
      | some false=>if f<s then some (c∧n=els.length∧e<els.length∧k≤e∧y.fits 1∧C.size t=1,AV.dead,upd o' i (.row s (els.set e ((el els e).setCell f (y.cell 0))) k)) else none
      | none=>none
     | _=>none) (fun v=>?_) (fun o v h=>by simp only [h];try rfl)
    repeat' split
    all_goals first|exact Qu.upd hi _ _ _|exact Qu.none
   ·exact Qu.none
  ·simp only [Hy,hC,h];cases v with
   | none=>rfl
   | some ob =>
    cases ob with
    | row s els k =>
     simp only;cases pur 1 x o with
     | none=>rfl
     | some r=>rfl
    | _=>rfl
 | _=>exact Qu.none
theorem Zuj {C:Ctx} (hC:C.dp=1) {t:Nat} {p x:AV} (hp:∀ k∈p.keys,S k) (hx:∀ k∈x.keys,S k):Qu S (fJ C t p x):=by
 cases p with
 | rref i n e f =>
  have hi:=hp i (by simp [AV.keys])
  have hj:=hp (50000+i) (by simp [AV.keys])
  cases x with
  | sl j jm =>
   refine Qu.lkE hj (g:=fun v o=>match v with
    | some (.slot e0 f0)=>if f0=f then match lk o i,C.ag t with
      | some (.row s els k),some false=>if f<s then some (e=e0∧k≤e∧n=els.length∧e<els.length∧C.size t=1,AV.dead,upd (upd o i (.row s (els.set e ((el els e).setCell f .any)) (e+1))) (50000+i) (.hole i n e f (.sl j jm))) else none
      | _,_=>none
     else Hy C t (.rref i n e f) (.sl j jm) o
    | _=>Hy C t (.rref i n e f) (.sl j jm) o) (fun v=>?_) (fun o v h=>by simp only [fJ,h];rcases v with _|(_|_|_|_|_|_|_)<;>rfl)
   split
   ·next e0 f0 =>
    split
    ·refine Qu.lkE hi (g:=fun v o=>match v,C.ag t with
      | some (.row s els k),some false=>if f<s then some (e=e0∧k≤e∧n=els.length∧e<els.length∧C.size t=1,AV.dead,upd (upd o i (.row s (els.set e ((el els e).setCell f .any)) (e+1))) (50000+i) (.hole i n e f (.sl j jm))) else none
      | _,_=>none) (fun v=>?_) (fun o v h=>by simp only [h])
     split
     ·split
      ·next s els k _ _ =>
       refine Qu.bindE (f:=fun o=>some (True,(),upd o i (.row s (els.set e ((el els e).setCell f .any)) (e+1)))) (g:=fun _ _ o=>some (e=e0∧k≤e∧n=els.length∧e<els.length∧C.size t=1,AV.dead,upd o (50000+i) (.hole i n e f (.sl j jm)))) (Qu.upd hi _ _ _) (fun _ _=>Qu.upd hj _ _ _) (fun o h=>by cases h) (fun o c x p h=>by
        simp only [Zc,Ze] at h;obtain ⟨-,-,rfl⟩:=h;rfl)
      ·exact Qu.none
     ·exact Qu.none
    ·exact R9 hC hp hx
   ·exact R9 hC hp hx
  | _=>exact Qu.congr (R9 hC (t:=t) hp hx) (fun o=>rfl)
 | _=>cases x<;>exact Qu.congr (R9 hC (t:=t) hp hx) (fun o=>rfl)
theorem vN {t f:Nat} {p:AV} (hp:∀ k∈p.keys,S k):Qu S (Nh C t p f):=by
 unfold Nh;split
 ·next off sz _ =>
  cases p with
  | ref i f0 =>
   have hi:=hp i (by simp [AV.keys])
   refine Qu.lkE hi (g:=fun v o=>match v with
    | some ob=>if ob.isBox=true then some (True,.ref i (f0+off),o) else none
    | none=>none) (fun v=>?_) (fun o v h=>by simp only [h];cases v<;>rfl)
   repeat' split
   all_goals first|exact Qu.ret _ _|exact Qu.none
  | rref i n e f0 =>
   have hi:=hp i (by simp [AV.keys])
   refine Qu.lkE hi (g:=fun v o=>match v with
    | some (.row _ els _)=>some (n=els.length,.rref i n e (f0+off),o)
    | _=>none) (fun v=>?_) (fun o v h=>by simp only [h];rcases v with _|(_|_|_|_|_|_|_)<;>rfl)
   repeat' split
   all_goals first|exact Qu.ret _ _|exact Qu.none
  | d x =>
   cases x with
   | ptr s x =>
    simp only;repeat' split
    all_goals first|exact Qu.ret _ _|exact Qu.none
   | _=>exact Qu.none
  | _=>exact Qu.none
 ·exact Qu.none
theorem rN {kt et:Nat} {ks vs:List D} {i:D} {ok:Bool}:Qu S (Dn C kt et ks vs i ok):=by
 unfold Dn;repeat' split
 all_goals first|exact Qu.ret _ _|exact Qu.none
theorem Zqu {t:Nat} {x ix:AV} {ok:Bool} (hp:∀ k∈x.keys,S k):Qu S (Ev C t x ix ok):=by
 unfold Ev;split
 ·split
  ·exact rN
  ·next j =>
   have hi:=hp j (by simp [AV.keys])
   refine Qu.lkE hi (g:=fun v o=>match v with
    | some (.mp ks vs _)=>Dn C _ _ ks vs _ ok o
    | _=>none) (fun v=>?_) (fun o v h=>by simp only [h];rcases v with _|(_|_|_|_|_|_|_)<;>rfl)
   split
   ·exact rN
   ·exact Qu.none
  ·exact Qu.none
 ·exact Qu.none
theorem Zng {key:Nat} (hk:S key):Qu S (Ri key):=by
 refine Qu.congr (Qu.lk (g:=fun v o=>match v with
  | none=>some (True,AV.mpr key,upd o key (.mp [] [] false))
  | some _=>none) hk fun v=>?_) (fun o=>rfl)
 split
 ·exact Qu.upd hk _ _ _
 ·exact Qu.none
theorem vF (hC:C.dp=1) {t:Nat} {x ix y:AV} (hp:∀ k∈x.keys,S k) (hy:∀ k∈y.keys,S k):Qu S (Ms C t x ix y):=by
 unfold Ms;split
 ·next kt et i j _ =>
  have hi:=hp j (by simp [AV.keys])
  refine Qu.bindE (g:=fun c z o'=>(match lk o' j with
   | some (.mp ks vs false)=>some (c∧K8 (C.τ kt).kind i∧Kr (C.τ kt).kind ks,AV.dead,upd o' j (.mp (nA i ks) (Dp i z ks vs) false))
   | _=>none)) (Fz hy) (fun c z=>?_) (fun o h=>by simp only [hC,h]) (fun o c x p h=>by simp only [hC,h];try rfl)
  refine Qu.lkE hi (g:=fun v o'=>match v with
   | some (.mp ks vs false)=>some (c∧K8 (C.τ kt).kind i∧Kr (C.τ kt).kind ks,AV.dead,upd o' j (.mp (nA i ks) (Dp i z ks vs) false))
   | _=>none) (fun v=>?_) (fun o v h=>by simp only [h];try rfl)
  repeat' split
  all_goals first|exact Qu.upd hi _ _ _|exact Qu.none
 ·exact Qu.none
theorem vI {t:Nat} {x ix:AV} (hp:∀ k∈x.keys,S k):Qu S (Ng C t x ix):=by
 unfold Ng;split
 ·next e i _ =>
  cases x with
  | d y=>exact Qu.ret _ _
  | sl k n =>
   have hi:=hp k (by simp [AV.keys])
   refine Qu.lkE hi (g:=fun v o=>match v with
    | some (.row s els _)=>if s=C.size e then some (n=els.length∧i.isAnyInt∧0≤i.i∧i.i<els.length,.rref k n i.i.toNat 0,o) else none
    | _=>none) (fun v=>?_) (fun o v h=>by simp only [h];rcases v with _|(_|_|_|_|_|_|_)<;>rfl)
   repeat' split
   all_goals first|exact Qu.ret _ _|exact Qu.none
  | sb k n f =>
   have hi:=hp k (by simp [AV.keys])
   refine Qu.lkE hi (g:=fun v o=>match v with
    | some (.row s els _)=>if s=C.size e then some (n=els.length∧i.isAnyInt∧0≤i.i∧(f:Int)+i.i<els.length,.rref k n (f+i.i.toNat) 0,o) else none
    | _=>none) (fun v=>?_) (fun o v h=>by simp only [h];rcases v with _|(_|_|_|_|_|_|_)<;>rfl)
   repeat' split
   all_goals first|exact Qu.ret _ _|exact Qu.none
  | _=>exact Qu.none
 ·next n e k j _ =>
  split
  ·cases x with
   | ref i f0 =>
    have hi:=hp i (by simp [AV.keys])
    refine Qu.lkE hi (g:=fun v o=>match v with
     | some ob=>if ob.isBox=true then some (True,.ref i (f0+j.toNat),o) else none
     | none=>none) (fun v=>?_) (fun o v h=>by simp only [h];cases v<;>rfl)
    repeat' split
    all_goals first|exact Qu.ret _ _|exact Qu.none
   | d y =>
    cases y with
    | ptr s y =>
     simp only;repeat' split
     all_goals first|exact Qu.ret _ _|exact Qu.none
    | _=>exact Qu.none
   | _=>exact Qu.none
  ·exact Qu.none
 ·exact Qu.none
theorem Zv4 {t:Nat} {x ix:AV}:Qu S (aQ C t x ix):=by
 unfold aQ;repeat' split
 all_goals first|exact Qu.ret _ _|exact Qu.none
theorem Zum (hC:C.dp=1) {t:Nat} {x:AV} {lo hi mx:Option AV} (hp:∀ k∈x.keys,S k):Qu S (fY C t x lo hi mx):=by
 unfold fY;split
 ·split
  ·split;all_goals first|exact Qu.ret _ _|exact Qu.none
  ·exact Qu.none
 ·next e _ =>
  refine Qu.bindE (g:=fun c y o'=>match lo,hi with
   | some (.d a),some (.d b)=>some (c∧y.isList (C.size e)∧a.isAnyInt∧b.isAnyInt∧0≤a.i∧a.i≤b.i∧b.i≤y.l.length,.d (.list (C.size e) ((y.l.take b.i.toNat).drop a.i.toNat)),o')
   | some (.d a),none=>some (c∧y.isList (C.size e)∧a.isAnyInt∧0≤a.i∧a.i≤y.l.length,.d (.list (C.size e) (y.l.drop a.i.toNat)),o')
   | none,some (.d b)=>some (c∧y.isList (C.size e)∧b.isAnyInt∧0≤b.i∧b.i≤y.l.length,.d (.list (C.size e) (y.l.take b.i.toNat)),o')
   | _,_=>none) (Fz hp) (fun c y=>?_) (fun o h=>by simp only [hC,h]) (fun o c x p h=>by simp only [hC,h];try rfl)
  split;all_goals first|exact Qu.ret _ _|exact Qu.none
 ·next e m _ =>
  refine Qu.bindE (g:=fun c y o'=>match lo,hi with
   | some (.d a),some (.d b)=>some (c∧y.isList (C.size e)∧a.isAnyInt∧b.isAnyInt∧m.isAnyInt∧0≤a.i∧a.i≤b.i∧b.i≤m.i∧m.i≤y.l.length,.d (.list (C.size e) ((y.l.take b.i.toNat).drop a.i.toNat)),o')
   | _,_=>none) (Fz hp) (fun c y=>?_) (fun o h=>by simp only [hC,h]) (fun o c x p h=>by simp only [hC,h];try rfl)
  split;all_goals first|exact Qu.ret _ _|exact Qu.none
 ·exact Qu.none
theorem Zom {x:AV} {i:Nat}:Qu S (S6 x i):=by
 unfold S6;split
 ·split;all_goals first|exact Qu.ret _ _|exact Qu.none
 ·split;all_goals first|exact Qu.ret _ _|exact Qu.none
 ·exact Qu.none
theorem Zwd {t f:Nat} {x:AV}:Qu S (aZ C t x f):=by
 unfold aZ;split
 ·split
  ·split
   ·exact Qu.ret _ _
   ·split;all_goals first|exact Qu.ret _ _|exact Qu.none
   ·exact Qu.none
  ·exact Qu.none
 ·exact Qu.none
theorem gY (hC:C.dp=1):∀ {ps:List (Nat×AV)} (_:∀ k∈keysAll (ps.map (·.2)),S k),Qu S (H5 C ps)
 | [],_=>Qu.ret _ _
 | (i,x)::r,h=>by
  simp only [List.map_cons,keysAll,List.mem_append] at h;refine Qu.bindE (g:=fun c y o'=>match H5 C r o' with
   | some (c',l,o'')=>some (c∧c',(i,y)::l,o'')
   | none=>none) (Fz (fun k hk=>h k (.inl hk))) (fun c y=>?_) (fun o e=>by simp only [H5,hC,e]) (fun o c x p e=>by simp only [H5,hC,e];try rfl)
  refine Qu.bindE (g:=fun c' l o''=>some (c∧c',(i,y)::l,o'')) (gY hC (fun k hk=>h k (.inr hk))) (fun c y=>Qu.ret _ _) (fun o e=>by simp only [e]) (fun o c x p e=>by simp only [e];try rfl)
theorem uA (hC:C.dp=1) {t n key:Nat} {ps:List (Nat×AV)} (hp:∀ k∈keysAll (ps.map (·.2)),S k) (hk:S key):Qu S (Ni C t n ps key):=by
 unfold Ni;split
 ·next e _ =>
  refine Qu.bindE (g:=fun c qs o'=>match lk o' key with
   | none=>if n*C.size e≤16777216∧oW n ps=true then
     some (c∧Fu (C.size e) (qs.map (·.2)),AV.sl key n,upd o' key (.row (C.size e) (Fj (Db (C.τ e).zd n) qs) 0)) else none
   | some _=>none) (gY hC hp) (fun c y=>?_) (fun o e=>by simp only [e]) (fun o c x p e=>by simp only [e];try rfl)
  refine Qu.lkE hk (g:=fun v o'=>match v with
   | none=>if n*C.size e≤16777216∧oW n ps=true then
     some (c∧Fu (C.size e) (y.map (·.2)),AV.sl key n,upd o' key (.row (C.size e) (Fj (Db (C.τ e).zd n) y) 0)) else none
   | some _=>none) (fun v=>?_) (fun o v h=>by simp only [h];try rfl)
  repeat' split
  all_goals first|exact Qu.upd hk _ _ _|exact Qu.none
 ·exact Qu.none
theorem vG {t key:Nat} {l c:AV} (hk:S key):Qu S (Mt C t l c key):=by
 unfold Mt;split
 ·next e a b _ =>
  refine Qu.lkE hk (g:=fun v o=>match v with
   | none=>some (a.isAnyInt∧b.isAnyInt∧0≤a.i∧a.i=b.i∧(C.τ e).bytes*b.i≤281474976710656∧b.i≤4294967296,
     AV.sl key a.i.toNat,upd o key (.row (C.size e) (List.replicate a.i.toNat (C.τ e).zd) 0))
   | some _=>none) (fun v=>?_) (fun o v h=>by simp only [h];cases v<;>rfl)
  repeat' split
  all_goals first|exact Qu.upd hk _ _ _|exact Qu.none
 ·exact Qu.none
theorem Zp1 {s:Nat} {x:AV} (hx:∀ k∈x.keys,S k) {o o':Z3} (h:∀ k,S k→lk o k=lk o' k):Hz s x o=Hz s x o':=by
 cases x with
 | sl i n=>simp only [Hz,h i (hx i (by simp [AV.keys]))]
 | _=>rfl
theorem Zr9 {t key:Nat} {s x:AV} (hs:∀ k∈s.keys,S k) (hx:∀ k∈x.keys,S k) (hk:S key):Qu S (Ax C t s x key):=by
 intro o o' c z p ho he;have hsrc:∀ s',Hz s' x o'=Hz s' x o:=fun s'=>(Zp1 hx ho).symm;unfold Ax at he ⊢;simp only [hsrc];revert he;split
 ·next e _ =>
  split
  ·next c1 xs _ =>
   cases s with
   | nils s =>
    have h2:Qu S (fun o=>match lk o key with
     | none=>some (c1∧xs.length*(C.τ e).bytes≤140737488355328∧xs.length≤4611686018427387904,AV.sl key xs.length,upd o key (.row (C.size e) xs 0))
     | some _=>none):=by
     refine Qu.lkE hk (g:=fun v o=>match v with
      | none=>some (c1∧xs.length*(C.τ e).bytes≤140737488355328∧xs.length≤4611686018427387904,AV.sl key xs.length,upd o key (.row (C.size e) xs 0))
      | some _=>none) (fun v=>?_) (fun o v h=>by simp only [h];try rfl)
     repeat' split
     all_goals first|exact Qu.upd hk _ _ _|exact Qu.none
    exact h2 o o' c z p ho
   | sl i n =>
    have hi:=hs i (by simp [AV.keys])
    have h2:Qu S (fun o=>match lk o i with
     | some (.row s' els k)=>if s'=C.size e then
       some (c1∧n=els.length∧(els.length+xs.length)*(C.τ e).bytes≤140737488355328∧els.length+xs.length≤4611686018427387904,AV.sl i (els++xs).length,upd o i (.row s' (els++xs) k)) else none
     | _=>none):=by
     refine Qu.lkE hi (g:=fun v o=>match v with
      | some (.row s' els k)=>if s'=C.size e then
       some (c1∧n=els.length∧(els.length+xs.length)*(C.τ e).bytes≤140737488355328∧els.length+xs.length≤4611686018427387904,AV.sl i (els++xs).length,upd o i (.row s' (els++xs) k)) else none
      | _=>none) (fun v=>?_) (fun o v h=>by simp only [h];try rfl)
     repeat' split
     all_goals first|exact Qu.upd hi _ _ _|exact Qu.none
    exact h2 o o' c z p ho
   | _=>intro he;cases he
  ·intro he;cases he
 ·intro he;cases he
theorem Qu.eqf {α:Type} {f g:Z3→Option (Prop×α×Z3)} (h:∀ o,f o=g o) (hg:Qu S g):Qu S f:=by
 rw [show f=g from funext h];exact hg
theorem Qat {α:Type} {x:AV} (hx:∀ k∈x.keys,S k) {n:Nat} {f:Prop×List D→Option (Prop×α)}:Qu S (fun o=>match Hz n x o with
  | some y=>(f y).map fun z=>(z.1,z.2,o)
  | none=>none):=by
 have hret:∀ y:Prop×List D,Qu S fun o=>(f y).map fun z=>(z.1,z.2,o):=fun y=>by
  cases f y with
  | none=>exact Qu.none
  | some z=>exact Qu.ret _ _
 unfold Hz;split
 ·exact hret _
 ·exact hret _
 ·next i n' =>
  have hi:=hx i (by simp [AV.keys])
  refine Qu.lkE hi (g:=fun v o=>match (match v with
   | some (.row s' els _)=>if s'=n then some (n'=els.length,els) else none
   | _=>none:Option (Prop×List D)) with
   | some y=>(f y).map fun z=>(z.1,z.2,o)
   | none=>none) (fun v=>?_) (fun o v h=>by simp only [h];rcases v with _|(_|_|_|_|_|_|_)<;>rfl)
  rcases v with _|(_|_|_|_|_)
  all_goals first|exact Qu.none|skip
  all_goals
   simp only;split
   ·next h=>split at h<;>first|(cases h;exact hret _)|cases h
   ·exact Qu.none
 ·exact Qu.none
theorem Zwk {s t:Nat} {x:AV} (hx:∀ k∈x.keys,S k):Qu S (aX C s t x):=by
 unfold aX;split
 ·next e _ _ =>
  by_cases hk:(C.τ e).kind=.int .u8
  ·have:=Qat (S:=S) (α:=AV) hx (n:=1) (f:=fun y=>some (y.1∧Qcf y.2,AV.d (.str (Qap y.2))));simp only [Option.map_some] at this;rw [hk];exact Qu.eqf (fun o=>by cases Hz 1 x o<;>rfl) this
  ·refine Qu.eqf (g:=fun _=>none) (fun o=>?_) Qu.none;split
   ·next h _=>exact absurd h hk
   ·rfl
 ·unfold Vf;split<;>first|exact Qu.ret _ _|exact Qu.none
theorem Qbf {t:Nat} {x:AV} (hx:∀ k∈x.keys,S k):Qu S (Znz C t x):=by
 unfold Znz;split
 ·exact Qu.ret _ _
 ·exact Qu.ret _ _
 ·exact Qu.ret _ _
 ·next i n _ =>
  have hi:=hx i (by simp [AV.keys])
  refine Qu.lkE hi (g:=fun v o=>match v with
   | some (.row _ els _)=>some (n=els.length,AV.d (.int .i64 els.length),o)
   | _=>none) (fun v=>?_) (fun o v h=>by simp only [h];rcases v with _|(_|_|_|_|_|_|_)<;>rfl)
  repeat' split
  all_goals first|exact Qu.ret _ _|exact Qu.none
 ·next i n f _ =>
  have hi:=hx i (by simp [AV.keys])
  refine Qu.lkE hi (g:=fun v o=>match v with
   | some (.row _ els _)=>some (n=els.length,AV.d (.int .i64 (els.length-f:Nat)),o)
   | _=>none) (fun v=>?_) (fun o v h=>by simp only [h];rcases v with _|(_|_|_|_|_|_|_)<;>rfl)
  repeat' split
  all_goals first|exact Qu.ret _ _|exact Qu.none
 ·exact Qu.none
theorem fX (hC:C.dp=1):∀ {xs:List AV} {ms:List Bool} (_:∀ k∈keysAll xs,S k),Qu S (Vs C ms xs)
 | [],ms,_=>by cases ms<;>exact Qu.ret _ _
 | x::r,[],_=>Qu.none
 | x::r,false::ms,h=>by
  simp only [keysAll,List.mem_append] at h;refine Qu.bindE (g:=fun c y o'=>match Vs C ms r o' with
   | some (c',l,o'')=>some (c∧c',CV.d y::l,o'')
   | none=>none) (Fz (fun k hk=>h k (.inl hk))) (fun c y=>?_) (fun o e=>by simp only [Vs,hC,e]) (fun o c x p e=>by simp only [Vs,hC,e];try rfl)
  refine Qu.bindE (g:=fun c' l o''=>some (c∧c',CV.d y::l,o'')) (fX hC (xs:=r) (ms:=ms) (fun k hk=>h k (.inr hk))) (fun c y=>Qu.ret _ _) (fun o e=>by simp only [e]) (fun o c x p e=>by simp only [e];try rfl)
 | x::r,true::ms,h=>by
  simp only [keysAll,List.mem_append] at h;have ih:=fX hC (ms:=ms) (fun k hk=>h k (.inr hk));cases x with
  | sl i n =>
   have hi:=h i (.inl (by simp [AV.keys]))
   refine Qu.lkE hi (g:=fun v o=>match v with
    | some (.row s els k)=>(match Vs C ms r (upd o i .gone) with
     | some (c,l,o')=>some (c∧n=els.length∧k=0∧0<s,CV.own s els::l,o')
     | none=>none)
    | _=>none) (fun v=>?_) (fun o v h=>by simp only [Vs,h];try rfl)
   split
   ·next s els k =>
    refine Qu.bindE (f:=fun o=>some (True,(),upd o i .gone)) (g:=fun _ _ o=>match Vs C ms r o with
     | some (c,l,o')=>some (c∧n=els.length∧k=0∧0<s,CV.own s els::l,o')
     | none=>none) (Qu.upd hi _ _ _) (fun _ _=>?_) (fun o e=>by cases e) (fun o c x p e=>by
      simp only [Zc,Ze] at e;obtain ⟨_,_,rfl⟩:=e;rfl)
    refine Qu.bindE (g:=fun c l o'=>some (c∧n=els.length∧k=0∧0<s,CV.own s els::l,o')) ih (fun c y=>Qu.ret _ _) (fun o e=>by simp only [e]) (fun o c x p e=>by simp only [e];try rfl)
   ·exact Qu.none
  | nils s =>
   refine Qu.bindE (g:=fun c l o'=>some (c,CV.own s []::l,o')) ih (fun c y=>Qu.ret _ _) (fun o e=>by simp only [Vs,e]) (fun o c x p e=>by simp only [Vs,e];try rfl)
  | _=>exact Qu.none
theorem rJ:∀ {l:List CV} {key:Nat} (_:∀ j,S (key+4096*j)),Qu S (fun o=>match Mp key l o with
  | some (ys,o')=>some (True,ys,o')
  | none=>none)
 | [],key,_=>Qu.congr (Qu.ret True []) (fun o=>rfl)
 | x::r,key,hk=>by
  have hk0:S key:=hk 0;have ih:=rJ (l:=r) (key:=key+4096) (fun j=>by have:=hk (j+1);rwa [Nat.mul_add,Nat.mul_one,Nat.add_comm (4096*j),←Nat.add_assoc] at this)
  cases x with
  | tup l=>exact Qu.congr Qu.none (fun o=>by simp only [Mp,Lr])
  | d y =>
   refine Qu.bindE (g:=fun _ ys o'=>some (True,AV.d y::ys,o')) ih (fun c y=>Qu.ret _ _) (fun o h=>?_) (fun o c x p h=>?_)
   ·simp only [Mp,Lr];split at h
    ·cases h
    ·next h2=>simp only [h2]
   ·simp only [Mp,Lr];split at h
    ·next h2 =>
     simp only [Zc,Ze] at h;obtain ⟨_,rfl,rfl⟩:=h;simp only [h2]
    ·cases h
  | own s l =>
   refine Qu.lkE hk0 (g:=fun v o=>match v with
    | none=>(match Mp (key+4096) r (upd o key (.row s l 0)) with
     | some (ys,o')=>some (True,AV.sl key l.length::ys,o')
     | none=>none)
    | some _=>none) (fun v=>?_) (fun o v h=>?_)
   ·split
    ·refine Qu.bindE (f:=fun o=>some (True,(),upd o key (.row s l 0))) (g:=fun _ _ o=>match Mp (key+4096) r o with
      | some (ys,o')=>some (True,AV.sl key l.length::ys,o')
      | none=>none) (Qu.upd hk0 _ _ _) (fun _ _=>?_) (fun o e=>by cases e) (fun o c x p e=>by
       simp only [Zc,Ze] at e;obtain ⟨_,_,rfl⟩:=e;rfl)
     refine Qu.bindE (g:=fun _ ys o'=>some (True,AV.sl key l.length::ys,o')) ih (fun c y=>Qu.ret _ _) (fun o h=>?_) (fun o c x p h=>?_)
     ·split at h
      ·cases h
      ·next h2=>simp only [h2]
     ·split at h
      ·next h2 =>
       simp only [Zc,Ze] at h;obtain ⟨_,rfl,rfl⟩:=h;simp only [h2]
      ·cases h
    ·exact Qu.none
   ·simp only [Mp,Lr,h];cases v with
    | some _=>rfl
    | none =>
     simp only;cases Mp (key+4096) r (upd o key (.row s l 0)) with
     | none=>rfl
     | some q=>rfl
theorem Zu8 {x:CV} {key:Nat} (hk:∀ j,S (key+4096*j)):Qu S (fun o=>match gK key x o with
  | some (y,o')=>some (True,y,o')
  | none=>none):=by
 cases x with
 | tup l =>
  refine Qu.bindE (g:=fun _ ys o'=>some (True,xV ys,o')) (rJ (l:=l) hk) (fun c y=>Qu.ret _ _) (fun o h=>?_) (fun o c x p h=>?_)
  ·simp only [gK];split at h
   ·cases h
   ·next h2=>simp only [h2]
  ·simp only [gK];split at h
   ·next h2 =>
    simp only [Zc,Ze] at h;obtain ⟨_,rfl,rfl⟩:=h;simp only [h2]
   ·cases h
 | d y=>exact Qu.congr (Qu.ret True (AV.d y)) (fun o=>rfl)
 | own s l =>
  refine Qu.lkE (hk 0) (g:=fun v o=>match v with
   | none=>some (True,AV.sl key l.length,upd o key (.row s l 0))
   | some _=>none) (fun v=>?_) (fun o v h=>?_)
  ·split
   ·exact Qu.upd (hk 0) _ _ _
   ·exact Qu.none
  ·have h':lk o key=v:=by simpa using h
   simp only [gK,Lr,h'];cases v<;>rfl
theorem uK (hC:C.dp=1) {f key:Nat} {args:List AV} (ha:∀ k∈keysAll args,S k) (hk:∀ j,S (key+4096*j)):Qu S (iK C f args key):=by
 unfold iK;split
 ·next con _ =>
  refine Qu.bindE (g:=fun c cvs o'=>match gK key (con.fn cvs) o' with
   | some (y,o'')=>some (c∧con.pre cvs,y,o'')
   | none=>none) (fX hC (ms:=con.modes) ha) (fun c cvs=>?_) (fun o h=>by simp only [h]) (fun o c x p h=>by simp only [h];try rfl)
  refine Qu.bindE (g:=fun _ y o'=>some (c∧con.pre cvs,y,o')) (Zu8 (x:=con.fn cvs) hk) (fun c y=>Qu.ret _ _) (fun o h=>?_) (fun o c x p h=>?_)
  ·split at h
   ·cases h
   ·next h2=>simp only [h2]
  ·split at h
   ·next h2 =>
    simp only [Zc,Ze] at h;obtain ⟨_,rfl,rfl⟩:=h;simp only [h2]
   ·cases h
 ·exact Qu.none
theorem Dt:∀ {a b:List AV},keysAll (a++b)=keysAll a++keysAll b
 | [],b=>rfl
 | x::a,b=>by simp [keysAll,Dt (a:=a),List.append_assoc]
theorem xR:∀ (l:List D),keysAll (l.map .d)=[]
 | []=>rfl
 | x::l=>by simp [keysAll,AV.keys,xR l]
theorem Zwp (hC:C.dp=1) {f:AV} {key:Nat} {args:List AV} (hf:∀ k∈f.keys,S k) (ha:∀ k∈keysAll args,S k) (hk:∀ j,S (key+4096*j)):Qu S (sD C f args key):=by
 cases f with
 | d x =>
  cases x with
  | clo g caps =>
   refine uK hC (fun k h=>?_) hk;rw [Dt,xR,List.append_nil] at h;exact ha k h
  | _=>exact Qu.none
 | clo g caps =>
  refine uK hC (fun k h=>?_) hk;rw [Dt,List.mem_append] at h;rcases h with h|h
  ·exact ha k h
  ·exact hf k (by simpa [AV.keys] using h)
 | _=>exact Qu.none
def Kl (l:List Nat) (k:Nat):Prop:=k % 4096∈l
theorem Zbb {st:AS} (hint:Nat) (x:Operand):(st.ev C hint x).keys=(st.ev C 0 x).keys:=by
 cases x with
 | const v =>
  simp only [AS.ev];unfold Mm;split
  ·rfl
  ·rfl
 | _=>rfl
theorem Eo {k:Nat}:∀ {l:List AV},k∈keysAll l↔∃ x∈l,k∈x.keys
 | []=>by simp [keysAll]
 | x::l=>by simp [keysAll,Eo (l:=l)]
theorem tV {st:AS}:∀ (xs:List Operand) (ts:List Nat),keysAll (kC C st xs ts)=keysAll (xs.map (st.ev C 0))
 | [],ts=>by cases ts<;>rfl
 | x::xs,[]=>by simp [kC,keysAll,tV xs []]
 | x::xs,t::ts=>by simp [kC,keysAll,tV xs ts,Zbb t x]
theorem jQ {st:AS} (h:Nat):∀ (ps:List (Nat×Operand)),keysAll ((Vh C st h ps).map (·.2))=keysAll ((ps.map (·.2)).map (st.ev C 0))
 | []=>rfl
 | (i,x)::ps=>by simp [Vh,keysAll,jQ h ps,Zbb h x]
theorem rY (hC:C.dp=1) (o:Oper) (st:AS):Qu (Kl (S9 C o st)) (fun os=>H9 C o ⟨st.tmps,os⟩):=by
 have hev:∀ (hint:Nat) (x:Operand),x∈W6 o.op→∀ k∈(AS.ev C st hint x).keys,Kl (S9 C o st) k:=by
  intro hint x hx k hk;unfold Kl S9;rw [List.mem_map];refine ⟨k,List.mem_append_left _ (Eo.2 ⟨_,List.mem_map.2 ⟨x,hx,rfl⟩,?_⟩),rfl⟩;rwa [Zbb] at hk
 have hown:∀ k,o.dst=some k→F5 o.op=true→∀ j,Kl (S9 C o st) (k+4096*j):=by
  intro k hk hm j;unfold Kl S9;rw [List.mem_map];refine ⟨k,List.mem_append_right _ (by simp [hk,Zap,hm]),by omega⟩
 have hown0:∀ k,o.dst=some k→F5 o.op=true→Kl (S9 C o st) k:=fun k hk hm=>by simpa using hown k hk hm 0
 have E:∀ (os:Z3) (hint:Nat) (x:Operand),AS.ev C ⟨st.tmps,os⟩ hint x=AS.ev C st hint x:=fun os hint x=>by cases x<;>rfl
 have ES:∀ (os:Z3) (xs:List Operand) (ts:List Nat),kC C ⟨st.tmps,os⟩ xs ts=kC C st xs ts:=by
  intro os xs
  induction xs with
  | nil=>intro ts;cases ts<;>rfl
  | cons x xs ih=>intro ts;cases ts<;>simp [kC,ih,E]
 have EP:∀ (os:Z3) (h:Nat) (ps:List (Nat×Operand)),Vh C ⟨st.tmps,os⟩ h ps=Vh C st h ps:=by
  intro os h ps
  induction ps with
  | nil=>rfl
  | cons p ps ih=>obtain ⟨i,x⟩:=p;simp [Vh,ih,E]
 have EO:∀ (os:Z3) (t:Nat) (x:Option Operand),Ztn C ⟨st.tmps,os⟩ t x=Ztn C st t x:=by
  intro os t x;cases x<;>simp [Ztn,E]
 unfold H9;simp only [E,ES,EP,EO];have args:∀ (xs:List Operand) (ts:List Nat),(∀ x∈xs,x∈W6 o.op)→∀ k∈keysAll (kC C st xs ts),Kl (S9 C o st) k:=by
  intro xs ts hx k hk;rw [tV,Eo] at hk;obtain ⟨a,ha,hka⟩:=hk;obtain ⟨x,hx1,rfl⟩:=List.mem_map.1 ha;exact hev 0 x (hx x hx1) k hka
 have H7:∀ (h:Nat) (ps:List (Nat×Operand)),(∀ x∈ps.map (·.2),x∈W6 o.op)→∀ k∈keysAll ((Vh C st h ps).map (·.2)),Kl (S9 C o st) k:=by
  intro h ps hx k hk;rw [jQ,Eo] at hk;obtain ⟨a,ha,hka⟩:=hk;obtain ⟨x,hx1,rfl⟩:=List.mem_map.1 ha;exact hev 0 x (hx x hx1) k hka
 split
 case h_1=>exact Qu.ret _ _
 case h_2=>exact Qu.ret _ _
 case h_3=>split<;>first|exact Qu.ret _ _|exact Qu.none
 case h_4 e hop =>
  split
  ·next k hk=>exact zI (hown0 k hk (by simp [hop,F5]))
  ·exact Qu.none
 case h_5 e x hop =>
  split
  ·next k hk=>exact zI (hown0 k hk (by simp [hop,F5]))
  ·exact Qu.none
 case h_6 t ps hop =>
  unfold fV;split
  ·next fs _ =>
   have:∀ (r:List (Nat×AV)) (cells:List AV) (c:Prop),Qu (Kl (S9 C o st)) (fun os=>Ut os fs cells r c):=by
    intro r
    induction r with
    | nil=>intro cells c;exact Qu.ret _ _
    | cons p r ih =>
     intro cells c;obtain ⟨i,x⟩:=p;simp only [Ut];split
     ·split
      ·exact ih _ _
      ·exact Qu.none
     ·exact Qu.none
   exact this _ _ _
  ·have:∀ (r:List (Nat×AV)) (cells:List AV) (c:Prop),Qu (Kl (S9 C o st)) (fun os=>Bg os cells r c):=by
    intro r
    induction r with
    | nil=>intro cells c;exact Qu.ret _ _
    | cons p r ih =>
     intro cells c;obtain ⟨i,x⟩:=p;simp only [Bg];split
     ·exact ih _ _
     ·exact Qu.none
   split
   ·exact this _ _ _
   ·exact Qu.none
  ·exact Qu.none
 case h_7 t n ps hop =>
  split
  ·next k hk=>exact uA hC (H7 _ _ (fun x hx=>by simpa [hop,W6,Jl] using hx)) (hown0 k hk (by simp [hop,F5]))
  ·exact Qu.none
 case h_8 t p hop=>exact Zyw (hev 0 p (by simp [hop,W6,Jl]))
 case h_9 t p x hop=>exact Zuj hC (hev 0 p (by simp [hop,W6,Jl])) (hev t x (by simp [hop,W6,Jl]))
 case h_10 =>
  unfold Vf;split<;>first|exact Qu.ret _ _|exact Qu.none
 case h_11 =>
  unfold Vf;split<;>first|exact Qu.ret _ _|exact Qu.none
 case h_12 s1 t x hop=>exact Zwk (hev s1 x (by simp [hop,W6,Jl]))
 case h_13=>split<;>first|exact Qu.ret _ _|exact Qu.none
 case h_14 t l c hop =>
  split
  ·next k hk=>exact vG (hown0 k hk (by simp [hop,F5]))
  ·exact Qu.none
 case h_15 t x lo hi mx hop=>exact Zum hC (hev t x (by simp [hop,W6,Jl]))
 case h_16 t hop =>
  split
  ·next k hk=>exact Zng (hown0 k hk (by simp [hop,F5]))
  ·exact Qu.none
 case h_17 t x i ok hop=>exact Zqu (hev 0 x (by simp [hop,W6,Jl]))
 case h_18 t x i y hop=>exact vF hC (hev 0 x (by simp [hop,W6,Jl])) (hev _ y (by simp [hop,W6,Jl]))
 case h_19 t p f hop=>exact vN (hev 0 p (by simp [hop,W6,Jl]))
 case h_20 t x f hop=>exact Zwd
 case h_21 t x i hop=>exact vI (hev t x (by simp [hop,W6,Jl]))
 case h_22 t x i hop=>exact Zv4
 case h_23 x i hop=>exact Zom
 case h_24 cl hop =>
  split
  case h_1 hcal =>
   split
   ·next x t hx ht=>exact Qbf (hev t x (by simp [hop,W6,Jl,hcal,hx]))
   ·exact Qu.none
  case h_2 hcal =>
   split
   ·next s x t t' k hx ht hk =>
    split
    ·exact Zr9 (hev t s (by simp [hop,W6,Jl,hcal,hx])) (hev t' x (by simp [hop,W6,Jl,hcal,hx])) (hown0 k hk (by simp [hop,F5,hcal]))
    ·exact Qu.none
   ·exact Qu.none
  case h_3 =>
   split
   ·unfold Vf;split<;>first|exact Qu.ret _ _|exact Qu.none
   ·exact Qu.none
  case h_4 =>
   split
   ·unfold Vf;split<;>first|exact Qu.ret _ _|exact Qu.none
   ·exact Qu.none
  case h_5 f hcal =>
   split
   ·next k hk=>exact uK hC (args _ _ (fun x hx=>by simp only [hop,W6,Jl,hcal];exact List.mem_cons_of_mem _ hx)) (hown k hk (by simp [hop,F5,hcal]))
   ·exact Qu.none
  case h_6 f hcal =>
   split
   ·next k hk=>exact Zwp hC (hev 0 (.tmp f) (by simp [hop,W6,Jl,hcal])) (args _ _ (fun x hx=>by simp only [hop,W6,Jl,hcal];exact List.mem_cons_of_mem _ hx)) (hown k hk (by simp [hop,F5,hcal]))
   ·exact Qu.none
  case h_7=>exact Qu.none
 case h_25=>exact Qu.none
theorem xD {kt et:Nat} {ks vs:List D} {i:D} {ok:Bool} {os p:Z3} {c:Prop} {x:AV} (h:Dn C kt et ks vs i ok os=some (c,x,p)):p=os:=by
 unfold Dn at h;split at h
 ·cases ok<;>simp only [Zc,Ze] at h<;>exact h.2.2.symm
 ·cases h
theorem Zu9 {o:Oper} {st:AS} {c:Prop} {x:AV} {p:Z3} (hr:Fk o.op=true) (h:H9 C o st=some (c,x,p)):p=st.objs:=by
 unfold H9 at h;split at h
 case h_1=>simp only [Zc,Ze] at h;exact h.2.2.symm
 case h_2=>simp only [Zc,Ze] at h;exact h.2.2.symm
 case h_3=>split at h<;>simp_all
 case h_4 hop=>simp [hop,Fk] at hr
 case h_5 hop=>simp [hop,Fk] at hr
 case h_6 t ps hop =>
  unfold fV at h;split at h
  ·next fs _ =>
   have:∀ (r:List (Nat×AV)) (cells:List AV) (c0:Prop),Ut st.objs fs cells r c0=some (c,x,p)→p=st.objs:=by
    intro r
    induction r with
    | nil =>
     intro cells c0 h;simp only [Ut,Zc,Ze] at h;exact h.2.2.symm
    | cons q r ih =>
     intro cells c0 h;obtain ⟨i,y⟩:=q;simp only [Ut] at h;split at h
     ·split at h
      ·exact ih _ _ h
      ·cases h
     ·cases h
   exact this _ _ _ h
  ·have:∀ (r:List (Nat×AV)) (cells:List AV) (c0:Prop),Bg st.objs cells r c0=some (c,x,p)→p=st.objs:=by
    intro r
    induction r with
    | nil =>
     intro cells c0 h;simp only [Bg,Zc,Ze] at h;exact h.2.2.symm
    | cons q r ih =>
     intro cells c0 h;obtain ⟨i,y⟩:=q;simp only [Bg] at h;split at h
     ·exact ih _ _ h
     ·cases h
   split at h
   ·exact this _ _ _ h
   ·cases h
  ·cases h
 case h_7 hop=>simp [hop,Fk] at hr
 case h_8 t q hop =>
  unfold dO Mu at h;repeat' split at h
  all_goals first|(simp only [Zc,Ze] at h;exact h.2.2.symm)|cases h
 case h_9 hop=>simp [hop,Fk] at hr
 case h_10 =>
  unfold Vf at h;split at h;all_goals first|(simp only [Zc,Ze] at h;exact h.2.2.symm)|cases h
 case h_11 =>
  unfold Vf at h;split at h;all_goals first|(simp only [Zc,Ze] at h;exact h.2.2.symm)|cases h
 case h_12 =>
  unfold aX at h;split at h
  ·split at h
   ·simp only [Zc,Ze] at h;exact h.2.2.symm
   ·cases h
  ·unfold Vf at h;split at h;all_goals first|(simp only [Zc,Ze] at h;exact h.2.2.symm)|cases h
 case h_13 =>
  split at h;all_goals first|(simp only [Zc,Ze] at h;exact h.2.2.symm)|cases h
 case h_14 hop=>simp [hop,Fk] at hr
 case h_15 hop=>simp [hop,Fk] at hr
 case h_16 hop=>simp [hop,Fk] at hr
 case h_17 =>
  unfold Ev at h;split at h
  ·split at h
   ·exact xD h
   ·split at h
    ·exact xD h
    ·cases h
   ·cases h
  ·cases h
 case h_18 hop=>simp [hop,Fk] at hr
 case h_19 =>
  unfold Nh at h;repeat' split at h
  all_goals first|(simp only [Zc,Ze] at h;exact h.2.2.symm)|cases h
 case h_20 =>
  unfold aZ at h;repeat' split at h
  all_goals first|(simp only [Zc,Ze] at h;exact h.2.2.symm)|cases h
 case h_21 =>
  unfold Ng at h;repeat' split at h
  all_goals first|(simp only [Zc,Ze] at h;exact h.2.2.symm)|cases h
 case h_22 =>
  unfold aQ at h;repeat' split at h
  all_goals first|(simp only [Zc,Ze] at h;exact h.2.2.symm)|cases h
 case h_23 =>
  unfold S6 at h;repeat' split at h
  all_goals first|(simp only [Zc,Ze] at h;exact h.2.2.symm)|cases h
 case h_24 cl hop =>
  split at h
  case h_1 =>
   split at h
   ·unfold Znz at h;repeat' split at h
    all_goals first|(simp only [Zc,Ze] at h;exact h.2.2.symm)|cases h
   ·cases h
  case h_2 hcal=>simp [hop,Fk,hcal] at hr
  case h_3 hcal=>simp [hop,Fk,hcal] at hr
  case h_4 hcal=>simp [hop,Fk,hcal] at hr
  case h_5 hcal=>simp [hop,Fk,hcal] at hr
  case h_6 hcal=>simp [hop,Fk,hcal] at hr
  case h_7=>cases h
 case h_25=>cases h
theorem Zat {o:Oper} {s s':AS} (ho:s.objs=s'.objs) (h:∀ x∈Jl o.op,∀ hint,s.ev C hint x=s'.ev C hint x):H9 C o s=H9 C o s':=by
 have args:∀ (xs:List Operand) (ts:List Nat),(∀ x∈xs,x∈Jl o.op)→kC C s xs ts=kC C s' xs ts:=by
  intro xs
  induction xs with
  | nil=>intro ts _;cases ts<;>rfl
  | cons x xs ih =>
   intro ts hx;have h1:=fun hint=>h x (hx x (by simp)) hint
   cases ts<;>simp [kC,h1,ih _ (fun y hy=>hx y (List.mem_cons_of_mem _ hy))]
 have H7:∀ (hint:Nat) (ps:List (Nat×Operand)),(∀ x∈ps.map (·.2),x∈Jl o.op)→Vh C s hint ps=Vh C s' hint ps:=by
  intro hint ps
  induction ps with
  | nil=>intro _;rfl
  | cons q ps ih =>
   intro hx;obtain ⟨i,x⟩:=q;have h1:=h x (hx x (by simp)) hint
   simp [Vh,h1,ih (fun y hy=>hx y (by simp only [List.map_cons];exact List.mem_cons_of_mem _ hy))]
 have opt:∀ (t:Nat) (x:Option Operand),(∀ y∈x.toList,y∈Jl o.op)→Ztn C s t x=Ztn C s' t x:=by
  intro t x hx;cases x with
  | none=>rfl
  | some x=>simp [Ztn,h x (hx x (by simp))]
 unfold H9;rw [ho];split
 case h_1 x hop=>rw [h x (by simp [hop,Jl])]
 case h_2 x hop=>rw [h x (by simp [hop,Jl])]
 case h_3 c a b hop=>rw [h c (by simp [hop,Jl]),h a (by simp [hop,Jl]),h b (by simp [hop,Jl])]
 case h_4=>rfl
 case h_5 e x hop=>rw [h x (by simp [hop,Jl])]
 case h_6 t ps hop=>rw [H7 _ _ (fun x hx=>by simpa [hop,Jl] using hx)]
 case h_7 t n ps hop=>rw [H7 _ _ (fun x hx=>by simpa [hop,Jl] using hx)]
 case h_8 t p hop=>rw [h p (by simp [hop,Jl])]
 case h_9 t p x hop=>rw [h p (by simp [hop,Jl]),h x (by simp [hop,Jl])]
 case h_10 op t x y ty hop=>rw [h x (by simp [hop,Jl]),h y (by simp [hop,Jl])]
 case h_11 op t x hop=>rw [h x (by simp [hop,Jl])]
 case h_12 s1 t x hop=>rw [h x (by simp [hop,Jl])]
 case h_13 f first caps hop=>rw [args _ _ (fun x hx=>by simpa [hop,Jl] using hx)]
 case h_14 t l c hop=>rw [h l (by simp [hop,Jl]),h c (by simp [hop,Jl])]
 case h_15 t x lo hi mx hop =>
  rw [h x (by simp [hop,Jl]),opt 0 lo (fun y hy=>by simp only [hop,Jl];simp only [Zs,List.mem_append];exact .inr (.inl (.inl hy))),
   opt 0 hi (fun y hy=>by simp only [hop,Jl];simp only [Zs,List.mem_append];exact .inr (.inl (.inr hy))),
   opt 0 mx (fun y hy=>by simp only [hop,Jl];simp only [Zs,List.mem_append];exact .inr (.inr hy))]
 case h_16=>rfl
 case h_17 t x i ok hop=>rw [h x (by simp [hop,Jl]),h i (by simp [hop,Jl])]
 case h_18 t x i y hop=>rw [h x (by simp [hop,Jl]),h i (by simp [hop,Jl]),h y (by simp [hop,Jl])]
 case h_19 t p f hop=>rw [h p (by simp [hop,Jl])]
 case h_20 t x f hop=>rw [h x (by simp [hop,Jl])]
 case h_21 t x i hop=>rw [h x (by simp [hop,Jl]),h i (by simp [hop,Jl])]
 case h_22 t x i hop=>rw [h x (by simp [hop,Jl]),h i (by simp [hop,Jl])]
 case h_23 x i hop=>rw [h x (by simp [hop,Jl])]
 case h_24 cl hop =>
  split
  case h_1 hcal =>
   split
   ·next x t hx ht=>rw [h x (by simp [hop,Jl,hcal,hx])]
   ·rfl
  case h_2 hcal =>
   split
   ·next a x t t' k hx ht hk=>rw [h a (by simp [hop,Jl,hcal,hx]),h x (by simp [hop,Jl,hcal,hx])]
   ·rfl
  case h_3 hcal =>
   split
   ·next x y t ts hx ht=>rw [h x (by simp [hop,Jl,hcal,hx]),h y (by simp [hop,Jl,hcal,hx])]
   ·rfl
  case h_4 hcal =>
   split
   ·next x y t ts hx ht=>rw [h x (by simp [hop,Jl,hcal,hx]),h y (by simp [hop,Jl,hcal,hx])]
   ·rfl
  case h_5 f hcal=>rw [args _ _ (fun x hx=>by simp only [hop,Jl,hcal];exact List.mem_cons_of_mem _ hx)]
  case h_6 f hcal=>rw [args _ _ (fun x hx=>by simp only [hop,Jl,hcal];exact List.mem_cons_of_mem _ hx),h (.tmp f) (by simp [hop,Jl,hcal])]
  case h_7=>rfl
 case h_25=>rfl
def AS.same (s s':AS):Prop:=s.tmps=s'.tmps∧∀ k,lk s.objs k=lk s'.objs k
theorem AS.same.refl (s:AS):s.same s:=⟨rfl,fun _=>rfl⟩
theorem AS.same.trans {a b c:AS} (h:a.same b) (k:b.same c):a.same c:=⟨h.1.trans k.1,fun i=>(h.2 i).trans (k.2 i)⟩
theorem AS.same.symm {a b:AS} (h:a.same b):b.same a:=⟨h.1.symm,fun i=>(h.2 i).symm⟩
theorem SRg.same {base:Nat} {pass:Nat→Prop} {F0:Anc} {m:Nat→Nat} {G:Gh} {s s':AS} {a:Act} {w:World} (h:SRg base pass F0 m G s a w) (e:s.same s'):SRg base pass F0 m G s' a w:=by
 have el:lk s.objs=lk s'.objs:=funext e.2;obtain ⟨a1,a2,a3,a4,a5,a6,a7,a8,a9,a10⟩:=h;constructor
 ·exact a1
 ·rw [←e.1,←el];exact a2
 ·rw [←el];exact a3
 ·rw [←el];exact a4
 ·rw [←el];exact a5
 ·exact a6
 ·exact a7
 ·exact a8
 ·exact a9
 ·rw [←el];exact a10
theorem SR.same {base:Nat} {pass:Nat→Prop} {F0:Anc} {s s':AS} {a:Act} {w:World} (h:SR base pass F0 s a w) (e:s.same s'):SR base pass F0 s' a w:=by
 obtain ⟨m,G,h⟩:=h;exact ⟨m,G,h.same e⟩
def Zpo (C:Ctx) (o:Oper) (s:AS) (bc:BCon) (x:bc.X) (rs:List Nat):Prop :=
 Qan C o s=some (bc,rnAs rs (bc.args x))∧bc.ok x∧rs.Nodup∧rs.length=(bc.post x).length∧(bc.objs x).length≤rs.length∧Q3 rs rs (bc.objs x) s.objs∧X6 (rs.drop (bc.objs x).length) s.objs
theorem bO {s s':AS}:∀ (xs:List Operand) (ts:List Nat),(∀ x∈xs,∀ hint,s.ev C hint x=s'.ev C hint x)→kC C s xs ts=kC C s' xs ts
 | [],_,_=>rfl
 | x::r,[],h=>by simp only [kC];rw [h x (by simp),bO r [] (fun y hy=>h y (List.mem_cons_of_mem _ hy))]
 | x::r,t::ts,h=>by simp only [kC];rw [h x (by simp),bO r ts (fun y hy=>h y (List.mem_cons_of_mem _ hy))]
theorem Zws {o:Oper} {s s':AS} (h:∀ y∈Jl o.op,∀ hint,s.ev C hint y=s'.ev C hint y):Qan C o s=Qan C o s':=by
 unfold Qan;cases hop:o.op with
 | call c =>
  rw [hop] at h;simp only;cases hc:c.callee with
  | value f =>
   simp only [Jl,hc] at h;have ha:∀ x∈c.args.toList,∀ hint,s.ev C hint x=s'.ev C hint x:=fun x hx=>h x (List.mem_cons_of_mem _ hx);have hf:=h f (by simp)
   cases f with
   | func f=>simp only [bO _ _ ha]
   | tmp f=>simp only [bO _ _ ha,hf]
   | _=>rfl
  | _=>rfl
 | _=>rfl
theorem dA {rs0:List Nat} {o o':Z3}:∀ {ks:List Nat} {l:List Obj},(∀ k∈ks,lk o k=lk o' k)→Q3 rs0 ks l o→Q3 rs0 ks l o'
 | _,[],_,_=>by unfold Q3;trivial
 | [],_::_,_,h=>by simp [Q3] at h
 | k::ks,x::l,hk,h=>by
  simp only [Q3] at h ⊢;exact ⟨by rw [←hk k (by simp)];exact h.1,dA (fun q hq=>hk q (List.mem_cons_of_mem _ hq)) h.2⟩
theorem iI {o o':Z3}:∀ {ks:List Nat},(∀ k∈ks,lk o k=lk o' k)→X6 ks o→X6 ks o'
 | [],_,_=>by unfold X6;trivial
 | k::ks,hk,h=>by
  simp only [X6] at h ⊢;exact ⟨by rw [←hk k (by simp)];exact h.1,iI (fun q hq=>hk q (List.mem_cons_of_mem _ hq)) h.2⟩
theorem Zpe {rs:List Nat} {k:Nat} (h:k∈rs):Kl (rs.map (· % 4096)) k:=List.mem_map.2 ⟨k,h,rfl⟩
theorem Zpo.move {o:Oper} {s s':AS} {bc:BCon} {x:bc.X} {rs:List Nat} (h:Zpo C o s bc x rs) (hop:∀ y∈Jl o.op,∀ hint,s'.ev C hint y=s.ev C hint y)
  (ho:∀ k,Kl (rs.map (· % 4096)) k→lk s.objs k=lk s'.objs k):Zpo C o s' bc x rs∧(∀ k,Kl (rs.map (· % 4096)) k→lk (Yn rs rs (bc.post x) s.objs) k=lk (Yn rs rs (bc.post x) s'.objs) k) ∧
   (∀ k,¬ Kl (rs.map (· % 4096)) k→lk (Yn rs rs (bc.post x) s.objs) k=lk s.objs k∧lk (Yn rs rs (bc.post x) s'.objs) k=lk s'.objs k):=by
 obtain ⟨h1,h2,h3,h4,h5,h6,h7⟩:=h;have hk:∀ k∈rs,lk s.objs k=lk s'.objs k:=fun k hk=>ho k (Zpe hk);refine ⟨⟨by rw [Zws hop];exact h1,h2,h3,h4,h5,dA hk h6,iI (fun k hk'=>hk k (List.mem_of_mem_drop hk')) h7⟩,fun k hka=>?_,fun k hka=>?_⟩
 ·by_cases hkr:k∈rs
  ·obtain ⟨j,hj⟩:=List.getElem?_of_mem hkr;have hjl:j<(bc.post x).length:=by rw [←h4];exact (List.getElem?_eq_some_iff.1 hj).1
   have hp:=Zh hjl;rw [Rv h3 hj hp,Rv h3 hj hp]
  ·rw [Vn hkr,Vn hkr];exact ho k hka
 ·have hkr:k∉rs:=fun hkr=>hka (Zpe hkr);exact ⟨Vn hkr,Vn hkr⟩
def wV (C:Ctx) (ops:List Oper) (i:Nat) (fp:List Nat) (ro:Bool) (s s':AS):Prop:=∃ o,ops[i]?=some o ∧
 ((match o.guard with
  | none=>False
  | some (j,want)=>(Xk ops s j).skips want∧fp=[]∧ro=true∧s'=s.put o.dst (.d (.tup [])) s.objs) ∨
 ((match o.guard with
  | none=>True
  | some (j,want)=>(Xk ops s j).runs want)∧fp=S9 C o s∧ro=Fk o.op∧∃ c x os,H9 C o s=some (c,x,os)∧c∧s'=s.put o.dst x os) ∨
 ((match o.guard with
  | none=>True
  | some (j,want)=>(Xk ops s j).runs want)∧ro=false∧∃ (bc:BCon) (x:bc.X) (rs:List Nat),Zpo C o s bc x rs∧fp=rs.map (· % 4096)∧s'=s.put o.dst (bc.rvr rs x) (Yn rs rs (bc.post x) s.objs)))
inductive Tr (C:Ctx) (ops:List Oper):List (Nat×List Nat×Bool)→AS→AS→Prop
 | nil (s:AS):Tr C ops [] s s
 | cons {i:Nat} {fp:List Nat} {ro:Bool} {l:List (Nat×List Nat×Bool)} {s t u:AS} (h:wV C ops i fp ro s t) (k:Tr C ops l t u):Tr C ops ((i,fp,ro)::l) s u
theorem Zqd {s:AS} {dst:Option Nat} {x:AV} {os:Z3} {y:Operand} {hint:Nat} (h:∀ d,dst=some d→d∉Zsn y):(s.put dst x os).ev C hint y=s.ev C hint y:=by
 cases y with
 | tmp t =>
  cases dst with
  | none=>rfl
  | some d =>
   have:d≠t:=by simpa [Zsn] using h d rfl
   simp [AS.put,AS.ev,Zd,List.getElem?_set_ne this]
 | _=>rfl
theorem eP {ops:List Oper} {o:Oper} {d:Nat} (h:d∉nB ops o):∀ y∈Jl o.op,d∉Zsn y:=by
 intro y hy hd;exact h (List.mem_append_left _ (List.mem_flatMap.2 ⟨y,hy,hd⟩))
theorem xZ {ops:List Oper} {s:AS} {o:Oper} {j:Nat} {want:Bool} (hg:o.guard=some (j,want)) {dst:Option Nat} {x:AV} {os:Z3} (h:∀ d,dst=some d→d∉nB ops o):Xk ops (s.put dst x os) j=Xk ops s j:=by
 unfold Xk;cases hj:ops[j]? with
 | none=>rfl
 | some g =>
  simp only;cases hd:g.dst with
  | none=>rfl
  | some t =>
   simp only;cases dst with
   | none=>rfl
   | some d =>
    have hne:d≠t:=by
     intro e;exact h d rfl (by simp [nB,hg,hj,hd,e])
    simp [AS.put,Zd,List.getElem?_set_ne hne]
theorem A0 {ops:List Oper} {s s':AS} (h:s.tmps=s'.tmps) (j:Nat):Xk ops s j=Xk ops s' j:=by
 unfold Xk;rw [h]
theorem Zqn {o:Op}:∀ y∈W6 o,y∈Jl o:=by
 intro y hy;cases o<;>first|exact hy|(simp [W6] at hy)
theorem Zob {ops:List Oper} {s:AS} {o:Oper} {dst:Option Nat} {x:AV} {os:Z3} (h:∀ d,dst=some d→d∉nB ops o):S9 C o (s.put dst x os)=S9 C o s:=by
 have:(W6 o.op).map ((s.put dst x os).ev C 0)=(W6 o.op).map (s.ev C 0):=List.map_congr_left fun y hy=>Zqd (fun d hd=>eP (h d hd) y (Zqn y hy));unfold S9;rw [this]
theorem Zv6 {s s':AS} (h:s.tmps=s'.tmps) (o:Oper):S9 C o s=S9 C o s':=by
 have:(W6 o.op).map (s.ev C 0)=(W6 o.op).map (s'.ev C 0):=List.map_congr_left fun y hy=>by cases y<;>simp [AS.ev,h]
 unfold S9;rw [this]
theorem Wd {s:AS} {dst:Option Nat} {x:AV} {os:Z3}:(s.put dst x os).objs=os:=by cases dst<;>rfl
theorem Zyc {s:AS} {a b:Option Nat} {x y:AV} {p q r u:Z3} (h:∀ d,a=some d→b≠some d):((s.put a x p).put b y q).tmps=((s.put b y r).put a x u).tmps:=by
 cases a with
 | none=>cases b<;>rfl
 | some d =>
  cases b with
  | none=>rfl
  | some e =>
   have hne:d≠e:=fun he=>h d rfl (he▸rfl);simp [AS.put,List.set_comm _ _ hne]
theorem wV.same (hC:C.dp=1) {ops:List Oper} {i:Nat} {fp:List Nat} {ro:Bool} {s s' t:AS} (h:wV C ops i fp ro s t) (e:s.same s'):∃ t',wV C ops i fp ro s' t'∧t.same t':=by
 obtain ⟨o,ho,h⟩:=h;rcases h with h|⟨hg,hfp,hro,c,x,os,h1,hc,rfl⟩|⟨hg,hro,bc,x,rs,hb,hfp,rfl⟩
 rotate_right
 ·have hev:∀ y∈Jl o.op,∀ hint,s'.ev C hint y=s.ev C hint y:=fun y _ hint=>by cases y<;>simp [AS.ev,e.1]
  obtain ⟨b1,b2,b3⟩:=hb.move hev (fun k _=>e.2 k);refine ⟨s'.put o.dst (bc.rvr rs x) (Yn rs rs (bc.post x) s'.objs),⟨o,ho,.inr (.inr ⟨?_,hro,bc,x,rs,b1,hfp,rfl⟩)⟩,?_,fun k=>?_⟩
  ·cases hgd:o.guard with
   | none=>trivial
   | some jw =>
    obtain ⟨j,want⟩:=jw;simp only [hgd] at hg ⊢;rw [←A0 e.1];exact hg
  ·cases o.dst<;>simp [AS.put,e.1]
  ·rw [Wd,Wd];by_cases hk:Kl (rs.map (· % 4096)) k
   ·exact b2 k hk
   ·rw [(b3 k hk).1,(b3 k hk).2];exact e.2 k
 ·cases hgd:o.guard with
  | none=>simp only [hgd] at h
  | some jw =>
   obtain ⟨j,want⟩:=jw;simp only [hgd] at h;obtain ⟨h1,h3,h4,rfl⟩:=h;refine ⟨s'.put o.dst (.d (.tup [])) s'.objs,⟨o,ho,.inl ?_⟩,?_⟩
   ·simp only [hgd];exact ⟨by rw [←A0 e.1];exact h1,h3,h4,trivial⟩
   ·refine ⟨?_,fun k=>?_⟩
    ·cases o.dst<;>simp [AS.put,e.1]
    ·rw [Wd,Wd];exact e.2 k
 ·have h1':H9 C o ⟨s.tmps,s.objs⟩=some (c,x,os):=h1;obtain ⟨os',k1,k2,k3⟩:=rY hC o s s.objs s'.objs c x os (fun k _=>e.2 k) h1';have k1':H9 C o s'=some (c,x,os'):=by
   have:s'=⟨s.tmps,s'.objs⟩:=by cases s';simp only [AS.mk.injEq,and_true];exact e.1.symm
   rw [this];exact k1
  refine ⟨s'.put o.dst x os',⟨o,ho,.inr (.inl ⟨?_,by rw [←Zv6 e.1];exact hfp,hro,c,x,os',k1',hc,rfl⟩)⟩,?_,fun k=>?_⟩
  ·cases hgd:o.guard with
   | none=>trivial
   | some jw =>
    obtain ⟨j,want⟩:=jw;simp only [hgd] at hg ⊢;rw [←A0 e.1];exact hg
  ·cases o.dst<;>simp [AS.put,e.1]
  ·rw [Wd,Wd];by_cases hk:Kl (S9 C o s) k
   ·exact k2 k hk
   ·rw [(k3 k hk).1,(k3 k hk).2];exact e.2 k
theorem Tr.same (hC:C.dp=1) {ops:List Oper} {l:List (Nat×List Nat×Bool)} {s s' t:AS} (h:Tr C ops l s t) (e:s.same s'):∃ t',Tr C ops l s' t'∧t.same t':=by
 induction h generalizing s' with
 | nil s=>exact ⟨s',.nil s',e⟩
 | cons h _ ih =>
  obtain ⟨t1,k1,k2⟩:=h.same hC e;obtain ⟨t2,j1,j2⟩:=ih k2;exact ⟨t2,.cons k1 j1,j2⟩
def Zua (ops:List Oper) (a b:Nat×List Nat×Bool):Prop:=(∀ x y,ops[a.1]?=some x→ops[b.1]?=some y→Df ops x y=true)∧((∀ k,k∈a.2.1→k∉b.2.1)∨(a.2.2=true∧b.2.2=true))
theorem oD {ops:List Oper} {x y:Oper} (h:Df ops x y=true) :
  (∀ d,x.dst=some d→d∉nB ops y)∧(∀ d,x.dst=some d→y.dst≠some d)∧(∀ d,y.dst=some d→d∉nB ops x):=by
 refine ⟨fun d hd=>?_,fun d hd=>?_,fun d hd=>?_⟩<;>simp [Df,hd] at h
 ·exact h.1.1
 ·exact h.1.2
 ·exact h.2
def zP (C:Ctx) (ops:List Oper) (o:Oper) (fp:List Nat) (ro:Bool) (s:AS) (x:AV) (os:Z3):Prop :=
 (match o.guard with
  | none=>False
  | some (j,want)=>(Xk ops s j).skips want∧fp=[]∧ro=true∧x=.d (.tup [])∧os=s.objs) ∨
 ((match o.guard with
  | none=>True
  | some (j,want)=>(Xk ops s j).runs want)∧fp=S9 C o s∧ro=Fk o.op∧∃ c,H9 C o s=some (c,x,os)∧c) ∨
 ((match o.guard with
  | none=>True
  | some (j,want)=>(Xk ops s j).runs want)∧ro=false∧∃ (bc:BCon) (q:bc.X) (rs:List Nat),Zpo C o s bc q rs∧fp=rs.map (· % 4096)∧x=bc.rvr rs q∧os=Yn rs rs (bc.post q) s.objs)
theorem fP {ops:List Oper} {i:Nat} {fp:List Nat} {ro:Bool} {s t:AS}:wV C ops i fp ro s t↔∃ o x os,ops[i]?=some o∧zP C ops o fp ro s x os∧t=s.put o.dst x os:=by
 constructor
 ·rintro ⟨o,ho,h⟩;rcases h with h|⟨hg,hfp,hro,c,x,os,h1,hc,rfl⟩|⟨hg,hro,bc,x,rs,hb,hfp,rfl⟩
  rotate_right
  ·exact ⟨o,bc.rvr rs x,Yn rs rs (bc.post x) s.objs,ho,.inr (.inr ⟨hg,hro,bc,x,rs,hb,hfp,rfl,rfl⟩),rfl⟩
  ·refine ⟨o,.d (.tup []),s.objs,ho,.inl ?_,?_⟩
   ·cases hgd:o.guard with
    | none=>simp only [hgd] at h
    | some jw=>simp only [hgd] at h ⊢;obtain ⟨h1,h3,h4,_⟩:=h;exact ⟨h1,h3,h4,trivial,trivial⟩
   ·cases hgd:o.guard with
    | none=>simp only [hgd] at h
    | some jw=>simp only [hgd] at h;exact h.2.2.2
  ·exact ⟨o,x,os,ho,.inr (.inl ⟨hg,hfp,hro,c,h1,hc⟩),rfl⟩
 ·rintro ⟨o,x,os,ho,h,rfl⟩;refine ⟨o,ho,?_⟩;rcases h with h|⟨hg,hfp,hro,c,h1,hc⟩|⟨hg,hro,bc,q,rs,hb,hfp,rfl,rfl⟩
  ·refine .inl ?_;cases hgd:o.guard with
   | none=>simp only [hgd] at h
   | some jw=>simp only [hgd] at h ⊢;obtain ⟨h1,h3,h4,rfl,rfl⟩:=h;exact ⟨h1,h3,h4,rfl⟩
  ·exact .inr (.inl ⟨hg,hfp,hro,c,x,os,h1,hc,rfl⟩)
  ·exact .inr (.inr ⟨hg,hro,bc,q,rs,hb,hfp,rfl⟩)
theorem zP.move (hC:C.dp=1) {ops:List Oper} {o:Oper} {fp:List Nat} {ro:Bool} {s:AS} {x:AV} {os:Z3} (h:zP C ops o fp ro s x os) {s':AS}
  (hg:∀ j want,o.guard=some (j,want)→Xk ops s' j=Xk ops s j) (hf:S9 C o s'=S9 C o s) (hop:∀ y∈Jl o.op,∀ hint,s'.ev C hint y=s.ev C hint y)
  (ho:∀ k,Kl fp k→lk s.objs k=lk s'.objs k):∃ os',zP C ops o fp ro s' x os'∧(∀ k,Kl fp k→lk os k=lk os' k)∧(∀ k,¬ Kl fp k→lk os k=lk s.objs k∧lk os' k=lk s'.objs k):=by
 rcases h with h|⟨hgd,hfp,hro,c,h1,hc⟩|⟨hgd,hro,bc,q,rs,hb,hfp,rfl,rfl⟩
 rotate_right
 ·subst hfp;obtain ⟨b1,b2,b3⟩:=hb.move hop ho;refine ⟨Yn rs rs (bc.post q) s'.objs,.inr (.inr ⟨?_,hro,bc,q,rs,b1,rfl,rfl,rfl⟩),b2,b3⟩;cases hgd':o.guard with
  | none=>trivial
  | some jw =>
   obtain ⟨j,want⟩:=jw;simp only [hgd'] at hgd ⊢;rw [hg j want hgd'];exact hgd
 ·cases hgd:o.guard with
  | none=>simp only [hgd] at h
  | some jw =>
   obtain ⟨j,want⟩:=jw;simp only [hgd] at h;obtain ⟨h1,h3,h4,rfl,rfl⟩:=h;refine ⟨s'.objs,.inl ?_,fun k hk=>ho k hk,fun k _=>⟨rfl,rfl⟩⟩;simp only [hgd];exact ⟨by rw [hg j want hgd];exact h1,h3,h4,trivial,trivial⟩
 ·subst hfp;obtain ⟨os',k1,k2,k3⟩:=rY hC o s s.objs s'.objs c x os ho h1;refine ⟨os',.inr (.inl ⟨?_,hf.symm,hro,c,?_,hc⟩),k2,k3⟩
  ·cases hgd':o.guard with
   | none=>trivial
   | some jw =>
    obtain ⟨j,want⟩:=jw;simp only [hgd'] at hgd ⊢;rw [hg j want hgd'];exact hgd
  ·rw [←k1];exact Zat rfl (fun y hy hint=>by rw [hop y hy hint];cases y<;>rfl)
theorem zP.ro {ops:List Oper} {o:Oper} {fp:List Nat} {s:AS} {x:AV} {os:Z3} (h:zP C ops o fp true s x os):os=s.objs:=by
 rcases h with h|⟨_,_,hro,c,h1,_⟩|⟨_,hro,_⟩
 ·cases hgd:o.guard with
  | none=>simp only [hgd] at h
  | some jw=>simp only [hgd] at h;obtain ⟨h1,h3,h4,rfl,rfl⟩:=h;rfl
 ·exact Zu9 hro.symm h1
 ·cases hro
theorem Zul (hC:C.dp=1) {ops:List Oper} {a b:Nat×List Nat×Bool} {s t u:AS} (h1:wV C ops a.1 a.2.1 a.2.2 s t) (h2:wV C ops b.1 b.2.1 b.2.2 t u) (hi:Zua ops a b) :
  ∃ t' u',wV C ops b.1 b.2.1 b.2.2 s t'∧wV C ops a.1 a.2.1 a.2.2 t' u'∧u.same u':=by
 obtain ⟨oa,xa,osa,hoa,fa,rfl⟩:=fP.1 h1;obtain ⟨ob,xb,osb,hob,fb,rfl⟩:=fP.1 h2;obtain ⟨s1,s2,s3⟩:=oD (hi.1 oa ob hoa hob);have key:∀ k,Kl b.2.1 k→lk (s.put oa.dst xa osa).objs k=lk s.objs k:=by
  intro k hk;rw [Wd];rcases hi.2 with hd|⟨hr,_⟩
  ·have:¬ Kl a.2.1 k:=fun hka=>hd _ hka hk;obtain ⟨_,q1,q2,q3⟩:=fa.move hC (s':=s) (fun _ _ _=>rfl) rfl (fun _ _ _=>rfl) (fun _ _=>rfl);exact (q3 k this).1
  ·rw [hr] at fa;rw [fa.ro]
 obtain ⟨osb',fb',e1,e2⟩:=fb.move hC (s':=s) (fun j want hg=>(xZ hg s1).symm) (Zob s1).symm (fun y hy hint=>(Zqd (fun d hd=>eP (s1 d hd) y hy)).symm) key;have key2:∀ k,Kl a.2.1 k→lk s.objs k=lk (s.put ob.dst xb osb').objs k:=by
  intro k hk;rw [Wd];rcases hi.2 with hd|⟨_,hr⟩
  ·have:¬ Kl b.2.1 k:=fun hkb=>hd _ hk hkb;exact (e2 k this).2.symm
  ·rw [hr] at fb';rw [fb'.ro]
 obtain ⟨osa',fa',g1,g2⟩:=fa.move hC (s':=s.put ob.dst xb osb') (fun j want hg=>xZ hg s3) (Zob s3) (fun y hy hint=>Zqd (fun d hd=>eP (s3 d hd) y hy)) key2;refine ⟨s.put ob.dst xb osb',(s.put ob.dst xb osb').put oa.dst xa osa',fP.2 ⟨ob,xb,osb',hob,fb',rfl⟩,fP.2 ⟨oa,xa,osa',hoa,fa',rfl⟩,Zyc s2,fun k=>?_⟩;simp only [Wd] at e1 e2 g1 g2 key key2 ⊢;rcases hi.2 with hd|⟨hra,hrb⟩
 ·by_cases hka:Kl a.2.1 k
  ·have hkb:¬ Kl b.2.1 k:=fun hkb=>hd _ hka hkb;rw [(e2 k hkb).1,g1 k hka]
  ·rw [(g2 k hka).2];by_cases hkb:Kl b.2.1 k
   ·exact e1 k hkb
   ·rw [(e2 k hkb).1,(e2 k hkb).2,(g2 k hka).1]
 ·rw [hra] at fa fa';rw [hrb] at fb fb';rw [fb.ro,Wd,fa.ro,fa'.ro,Wd,fb'.ro]
theorem Tr.first (hC:C.dp=1) {ops:List Oper} {i:Nat×List Nat×Bool}:∀ {l1 l2:List (Nat×List Nat×Bool)} {s t:AS},Tr C ops (l1++i::l2) s t→(∀ k∈l1,Zua ops k i) →
  ∃ s1 t',wV C ops i.1 i.2.1 i.2.2 s s1∧Tr C ops (l1++l2) s1 t'∧t.same t'
 | [],l2,s,t,h,_=>by
  simp only [List.nil_append] at h ⊢;cases h with
  | cons h k=>exact ⟨_,t,h,k,AS.same.refl t⟩
 | (k,fk,rk)::l1,l2,s,t,h,hi=>by
  simp only [List.cons_append] at h;cases h with
  | cons h1 h2 =>
   obtain ⟨u1,t',k1,k2,k3⟩:=Tr.first hC h2 (fun q hq=>hi q (List.mem_cons_of_mem _ hq));obtain ⟨s1,u',j1,j2,j3⟩:=Zul hC (a:=(k,fk,rk)) (b:=i) h1 k1 (hi _ (by simp))
   obtain ⟨t'',q1,q2⟩:=k2.same hC j3;exact ⟨s1,t'',j1,.cons j2 q1,k3.trans q2⟩
end
end Go.Am
