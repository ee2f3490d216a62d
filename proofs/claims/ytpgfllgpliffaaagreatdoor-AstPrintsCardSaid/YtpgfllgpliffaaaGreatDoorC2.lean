/- Contracts of functions that the law reaches, and plain laws. Conditions: those that each contract states. -/
import Derived.Test.YtpgfllgpliffaaaGreatDoorC1
import Derived.Deep.AppendSrc
set_option maxHeartbeats 400000
set_option linter.unusedVariables false
set_option linter.unusedSimpArgs false
variable {p:Prop}
namespace Go.Am
open Go.RowKit (Below)
def Kv (P:Program) (base:Nat) (pass:Nat→Prop) (F0:Anc) (a:Act) (tm:List AV) (s:Sem Value) (w:World) (z:AV) (os:Z5):Prop :=
 ∃ v w' m' G',s.run P w=.ok v w'∧SRg base pass F0 m' G' ⟨tm,os⟩ a w'∧RA ⟨w',m'⟩ G' (lk os) z v
section
variable {P:Program} {C:Ctx} {F:Fix} {G:Gh} {L:Nat→Option Obj}
theorem K1 {v:Value} (h:v.oneCell'=true):v.cells=#[v]:=by cases v<;>simp_all [Value.oneCell',Value.cells]
theorem R.oneCell {x:D} {v:Value} (h:R F x v) (h1:∀ l,x≠.agg l) (h2:∀ l,x≠.tup l):v.oneCell'=true:=by
 cases x with
 | agg l=>exact absurd rfl (h1 l)
 | tup l=>exact absurd rfl (h2 l)
 | list s l =>
  simp only [R] at h;obtain ⟨A,c,rfl,_⟩:=h;rfl
 | ptr s x =>
  simp only [R] at h;obtain ⟨b,off,u,rfl,_⟩:=h;rfl
 | clo f l =>
  simp only [R] at h;obtain ⟨cs,rfl,_⟩:=h;rfl
 | map ks vs =>
  simp only [R] at h;obtain ⟨b,es,c,rfl,_⟩:=h;rfl
 | it f ks vs =>
  simp only [R] at h;obtain ⟨bm,b,es,c,rfl,_⟩:=h;rfl
 | any=>simpa only [R] using h
 | _=>simp only [R] at h;subst h;rfl
theorem R.cellsD {x:D} {v:Value} {s:Nat} (h:R F x v) (hf:x.fits s):v.cells.size=s∧∀ u∈v.cells.toList,u.oneCell'=true:=by
 cases x with
 | agg l =>
  simp only [R] at h;obtain ⟨cs,rfl,h2,h3⟩:=h;simp only [D.fits] at hf;refine ⟨by simp [Value.cells,Rs.length h2,hf],by simpa [Value.cells] using h3⟩
 | tup l=>exact absurd hf (by simp [D.fits])
 | _ =>
  have h1:=R.oneCell h (by simp) (by simp)
  simp only [D.fits] at hf;subst hf;rw [K1 h1];simpa using h1
theorem R.cell {x:D} {v u:Value} {f:Nat} (h:R F x v) (hu:v.cells.toList[f]?=some u):R F (x.cell f) u:=by
 cases x with
 | agg l =>
  simp only [R] at h;obtain ⟨cs,rfl,h2,h3⟩:=h;simp only [Value.cells] at hu;have hf:f<l.length:=by
   rw [←Rs.length h2];exact (List.getElem?_eq_some_iff.1 hu).1
  obtain ⟨u',g1,g2⟩:=h2.at (Zh hf);rw [hu] at g1;injection g1 with g1
  subst g1;simp only [D.cell,Zk,Zh hf,Option.getD_some];exact g2
 | tup l =>
  have h0:=h;simp only [R] at h;obtain ⟨cs,rfl,_⟩:=h;simp only [Value.cells] at hu;cases f with
  | zero=>simp at hu;subst hu;exact h0
  | succ f=>simp at hu
 | _ =>
  have h1:=R.oneCell h (by simp) (by simp)
  rw [K1 h1] at hu;cases f with
  | zero=>simp at hu;subst hu;exact h
  | succ f=>simp at hu
theorem R.asAgg {x:D} {v:Value} (h:R F x v) (h1:∀ u∈v.cells.toList,u.oneCell'=true):R F x.asAgg (.agg v.cells):=by
 cases x with
 | agg l =>
  simp only [R] at h;obtain ⟨cs,rfl,h2,h3⟩:=h;simp only [D.asAgg,R,Value.cells];exact ⟨cs,rfl,h2,h3⟩
 | _ =>
  simp only [D.asAgg];have hv:v.cells=#[v]:=by
   cases v with
   | agg cs=>simp [R,Value.oneCell'] at h
   | _=>rfl
  rw [hv] at h1 ⊢;simp only [R];refine ⟨[v],rfl,?_,by simpa using h1⟩
  simp only [Rs];exact ⟨v,[],rfl,h,rfl⟩
theorem Zet (l:List AV) (T:Nat):(Zur l).head?≠some (.bad T):=by
 cases l with
 | nil=>simp [Zur]
 | cons x l=>cases x<;>simp [Zur]
theorem Zbz {l:List AV} {vs:List Value} (h:RAs F G L l vs):RAs F G L (Zur l) vs:=by
 cases l with
 | nil=>exact h
 | cons x l =>
  cases x with
  | bad t =>
   simp only [RAs] at h;obtain ⟨v,r,h1,_,h3⟩:=h;simp only [Zur,RAs,RA];exact ⟨v,r,h1,trivial,h3⟩
  | _=>exact h
theorem jO {ag:Bool} {s:Nat} {x:AV} (hf:x.fits s) (T:Nat):(x.cells ag s).head?≠some (.bad T):=by
 cases x with
 | d x =>
  cases x with
  | agg l=>cases l<;>simp [AV.cells]
  | _ =>
   cases ag
   ·simp [AV.cells]
   ·cases s<;>simp [AV.cells,He]
 | agg l=>exact Zet l T
 | bad t=>exact absurd hf (by simp [AV.fits])
 | _=>simp [AV.cells]
theorem Zd1 {cells:List AV} {cs:List Value} {t b:Nat} (h:∀ T,cells.head?≠some (.bad T)):yH cells cs t b:=fun T hT=>absurd hT (h T)
theorem Zd0 {cells cells':List AV} {cs cs':List Value} {t b:Nat} (h:yH cells cs t b) (h1:∀ T,cells'.head?=some (.bad T)→cells.head?=some (.bad T)∧cs'.head?=cs.head?):yH cells' cs' t b:=fun T hT=>by
 obtain ⟨g1,g2⟩:=h1 T hT;rw [g2];exact h T g1
theorem Hc {ag:Bool} {s:Nat} {x:AV} {v:Value} (h:RA F G L x v) (hf:x.fits s) :
  RAs F G L (x.cells ag s) v.cells.toList∧v.cells.size=s∧∀ u∈v.cells.toList,u.oneCell'=true:=by
 have one:v.oneCell'=true→s=1→RAs F G L [x] v.cells.toList∧v.cells.size=s∧∀ u∈v.cells.toList,u.oneCell'=true:=by
  intro h1 hs;subst hs;rw [K1 h1];exact ⟨by simp only [RAs];exact ⟨v,[],rfl,h,rfl⟩,rfl,by simpa using h1⟩
 cases x with
 | d x =>
  have hd:=h;simp only [RA] at h;obtain ⟨g1,g2⟩:=R.cellsD h hf;refine ⟨?_,g1,g2⟩;cases x with
  | agg l =>
   simp only [R] at h;obtain ⟨cs,rfl,h2,_⟩:=h;simp only [AV.cells,Value.cells];simpa using RAs.of_Rs h2
  | tup l=>exact absurd hf (by simp [AV.fits,D.fits])
  | _ =>
   have h1:=R.oneCell h (by simp) (by simp)
   simp only [AV.fits,D.fits] at hf;subst hf;have:=(one h1 rfl).1;cases ag
   ·simpa [AV.cells] using this
   ·simpa [AV.cells,He,D.cell] using this
 | ref i f=>simp only [RA] at h;exact one h.1 hf
 | rref i n e f=>simp only [RA] at h;exact one h.1 hf
 | sl i n=>simp only [RA] at h;exact one h.1 hf
 | sb i n f=>simp only [RA] at h;exact one h.1 hf
 | mpr i=>simp only [RA] at h;exact one h.1 hf
 | agg l =>
  simp only [RA] at h;obtain ⟨cs,rfl,h2,h3⟩:=h;simp only [AV.fits] at hf;exact ⟨by simpa [AV.cells,Value.cells] using Zbz h2,by simp [Value.cells,RAs.length h2,hf],by simpa [Value.cells] using h3⟩
 | tup l=>exact absurd hf (by simp [AV.fits])
 | clo f l =>
  have h0:=h;simp only [RA] at h;obtain ⟨cs,rfl,_⟩:=h;exact one rfl hf
 | nils k=>simp only [RA] at h;exact one (by rw [h];rfl) hf
 | dead=>exact absurd hf (by simp [AV.fits])
 | bad t=>exact absurd hf (by simp [AV.fits])
theorem Ci:∀ {l:List AV} {ds:List D} {vs:List Value},lK l=some ds→RAs F G L l vs→Rs F ds vs
 | [],ds,vs,h,hr=>by
  simp only [lK,Zc] at h;subst h;simpa only [Rs,RAs] using hr
 | x::l,ds,vs,h,hr=>by
  cases x with
  | d x =>
   simp only [lK] at h;split at h
   ·next l' hl' =>
    simp only [Zc] at h;subst h;simp only [RAs,RA] at hr;obtain ⟨v,r,h1,h2,h3⟩:=hr;simp only [Rs];exact ⟨v,r,h1,h2,Ci hl' h3⟩
   ·cases h
  | _=>simp [lK] at h
theorem dC {l:List AV} {vs:List Value} (h:RAs F G L l vs) (h1:∀ u∈vs,u.oneCell'=true):RA F G L (dD l) (.agg vs.toArray):=by
 unfold dD;split
 ·next ds hd=>simp only [RA,R];exact ⟨vs,rfl,Ci hd h,h1⟩
 ·simp only [RA];exact ⟨vs,rfl,h,h1⟩
theorem sR {l:List AV} {vs:List Value} (h:RAs F G L l vs):RA F G L (mL l) (.tuple vs.toArray):=by
 unfold mL;split
 ·next ds hd=>simp only [RA,R];exact ⟨vs,rfl,Ci hd h⟩
 ·simp only [RA];exact ⟨vs,rfl,h⟩
theorem sS {f:Nat} {l:List AV} {vs:List Value} (h:RAs F G L l vs):RA F G L (sT f l) (.func (.func f) #[] vs.toArray):=by
 unfold sT;split
 ·next ds hd=>simp only [RA,R];exact ⟨vs,rfl,Ci hd h⟩
 ·simp only [RA];exact ⟨vs,rfl,h⟩
theorem RAs.split {l:List AV} {vs:List Value} (h:RAs F G L l vs) (k:Nat):RAs F G L (l.take k) (vs.take k)∧RAs F G L (l.drop k) (vs.drop k):=by
 induction k generalizing l vs with
 | zero=>simpa [RAs] using h
 | succ k ih =>
  cases l with
  | nil=>simp only [RAs] at h;subst h;simp [RAs]
  | cons x l =>
   simp only [RAs] at h;obtain ⟨v,r,rfl,h2,h3⟩:=h;obtain ⟨g1,g2⟩:=ih h3;refine ⟨?_,by simpa using g2⟩
   simp only [List.take_succ_cons,RAs];exact ⟨v,_,rfl,h2,g1⟩
theorem Ctx.ag_some (T:Xy P C.τ) {t:Nat} {b:Bool} (h:C.ag t=some b):TyOk P C.τ t:=T t (by unfold Ctx.ag at h;rw [h];rfl)
theorem mJ (T:Xy P C.τ) {t:Nat} {b:Bool} (h:C.ag t=some b) (w:World):(isAgg t).run P w=.ok b w:=by
 obtain ⟨d,h1,h2⟩:=(Ctx.ag_some T h).und;unfold Ctx.ag at h;cases hk:(C.τ t).kind with
 | struct fs =>
  rw [hk] at h h2;simp only [TK.ag,Zc] at h;simp only [TK.is] at h2;obtain ⟨fields,rfl,_⟩:=h2;subst h;simp [isAgg,run_underlying h1]
 | array n e =>
  rw [hk] at h h2;simp only [TK.ag,Zc] at h;simp only [TK.is] at h2;obtain ⟨rfl,_⟩:=h2;subst h;simp [isAgg,run_underlying h1]
 | other=>rw [hk] at h;simp [TK.ag] at h
 | func =>
  rw [hk] at h h2;simp only [TK.ag,Zc] at h;simp only [TK.is] at h2;obtain ⟨x,y,z,rfl⟩:=h2;subst h;simp [isAgg,run_underlying h1]
 | slice e =>
  rw [hk] at h h2;simp only [TK.ag,Zc] at h;simp only [TK.is] at h2;obtain ⟨rfl,_⟩:=h2;subst h;simp [isAgg,run_underlying h1]
 | _ =>
  rw [hk] at h h2;simp only [TK.ag,Zc] at h;simp only [TK.is] at h2;subst h2;subst h;simp [isAgg,run_underlying h1]
theorem Uo {t:Nat} (h:TyOk P C.τ t) (w:World):(sizeOf t).run P w=.ok (C.size t) w:=by
 obtain ⟨i,z,h1,h2,_⟩:=h.info;simp [sizeOf,typeInfo,h1,h2,Ctx.size]
theorem mX {t:Nat} (h:TyOk P C.τ t) (w:World):∃ z,(zeroValue t).run P w=.ok z w∧(∀ F G L,RA F G L (C.τ t).zero z)∧z.cells.size=C.size t∧∀ u∈z.cells.toList,u.oneCell'=true:=by
 obtain ⟨i,z,h1,h2,h3,h4,h5,_,h6,h7⟩:=h.info;exact ⟨z,by simp [zeroValue,typeInfo,h1,h4],h5,h6,h7⟩
section
variable {base:Nat} {pass:Nat→Prop} {F0:Anc} {m:Nat→Nat} {st:AS} {a:Act} {w:World}
theorem Qd (h:SRg base pass F0 m G st a w) {s:Sem Value} {v:Value} {z:AV} (hr:s.run P w=.ok v w) (hz:RA ⟨w,m⟩ G (lk st.objs) z v) :
  Kv P base pass F0 a st.tmps s w z st.objs:=⟨v,w,m,G,hr,h,hz⟩
theorem Fix.le_alloc (h:∀ b,w.heap.size≤b→m b=0) (o:Go.Obj):Fix.le ⟨w,m⟩ ⟨w.alloc o,m⟩:=by
 refine ⟨fun b=>⟨Zl _,fun off ho=>?_⟩,fun b es c hm hb=>?_⟩
 ·rcases Nat.lt_or_ge b w.heap.size with Qg|Pj
  ·exact World.cell?_alloc_lt w o ⟨b,off,none⟩ Qg
  ·have:=h b Pj;simp only at ho;omega
 ·rcases Nat.lt_or_ge b w.heap.size with Qg|Pj
  ·rw [Below.heap_alloc w o b Qg];exact hb
  ·have:=h b Pj;simp only at hm;omega
theorem SRg.fresh (h:SRg base pass F0 m G st a w) {k:Nat} (hk:lk st.objs k=none) (o':Obj) (ob:Go.Obj) (hd:Value)
  (X5:Yo G (lk st.objs) ⟨fun j=>if j=k then some w.heap.size else G.γ j,fun j=>if j=k then hd else G.hd j⟩ (lk (upd st.objs k o'))→Fix.le ⟨w,m⟩ ⟨w.alloc ob,m⟩ →
   Qf ⟨w.alloc ob,m⟩ ⟨fun j=>if j=k then some w.heap.size else G.γ j,fun j=>if j=k then hd else G.hd j⟩ (lk (upd st.objs k o')) k o') :
  Yo G (lk st.objs) ⟨fun j=>if j=k then some w.heap.size else G.γ j,fun j=>if j=k then hd else G.hd j⟩ (lk (upd st.objs k o'))∧Fix.le ⟨w,m⟩ ⟨w.alloc ob,m⟩ ∧
  SRg base pass F0 m ⟨fun j=>if j=k then some w.heap.size else G.γ j,fun j=>if j=k then hd else G.hd j⟩ ⟨st.tmps,upd st.objs k o'⟩ a (w.alloc ob):=by
 have hF:=Fix.le_alloc h.new ob;have key:=h.objG k o' (G':=⟨fun j=>if j=k then some w.heap.size else G.γ j,fun j=>if j=k then hd else G.hd j⟩) hF (fun j hj=>by simp [hj]) (fun o ho=>by rw [hk] at ho;cases ho) (fun hg=>X5 hg hF)
  (fun j o hj hl ho b hb=>⟨Below.heap_alloc w ob b (h.mine j o b hl ho hb).1,rfl⟩) (fun ho b hb=>by
   simp only [if_true,Zc] at hb;subst hb;refine ⟨by simp,.inl h.small,fun j o hj hl ho Cr=>?_⟩
   have:=(h.mine j o _ hl ho Cr).1;omega) ⟨rfl,rfl,rfl,by simp,fun b hb _=>Below.heap_alloc w ob b (Nat.lt_of_lt_of_le hb h.small)⟩ (fun _ _ _=>rfl) (fun b hb=>h.new b (by simp at hb;omega))
 exact ⟨key.1,hF,key.2⟩
theorem oA (h:SRg base pass F0 m G st a w) {k e:Nat} {x:AV} {v:Value} {c:Prop} {z:AV} {os:Z5} (hx:RA ⟨w,m⟩ G (lk st.objs) x v)
  (hh:Th C e k x st.objs=some (c,z,os)) (hc:c):Kv P base pass F0 a st.tmps (Instr.box e v) w z os:=by
 unfold Th at hh;split at hh
 ·next ag Zeo hk =>
  simp only [Zc,Zf] at hh;obtain ⟨rfl,rfl,rfl⟩:=hh;obtain ⟨g1,g2,g3⟩:=Hc (ag:=ag) hx hc;obtain ⟨q1,q2,q3⟩:=h.fresh hk (.box ag (x.cells ag (C.size e))) (.cells v.cells e) undef (fun hg hF=>by
   simp only [Qf];refine ⟨w.heap.size,v.cells,e,by simp,heap_alloc_new w _,?_,g3,h.new _ (Zl _),Zd1 (jO hc)⟩
   exact RAs.mono hF hg g1)
  refine ⟨_,_,m,_,by simp [Instr.box,newVar,newRow];rfl,q3,?_⟩
  simp only [RA,J2,if_true];exact ⟨rfl,fun _=>⟨_,rfl,rfl⟩⟩
 ·cases hh
theorem vJ (T:Xy P C.τ) (h:SRg base pass F0 m G st a w) {k e:Nat} {c:Prop} {z:AV} {os:Z5}
  (hh:Th C e k (C.τ e).zero st.objs=some (c,z,os)) (hc:c):Kv P base pass F0 a st.tmps (Instr.alloc e true (.tuple #[])) w z os:=by
 have Zeo:∃ b,C.ag e=some b:=by
  unfold Th at hh;split at hh
  ·next ag Zeo hk=>exact ⟨ag,Zeo⟩
  ·cases hh
 obtain ⟨b,hb⟩:=Zeo;obtain ⟨zv,z1,z2,_,_⟩:=mX (Ctx.ag_some T hb) w;obtain ⟨v,w',m',G',r1,r2,r3⟩:=oA (P:=P) (C:=C) h (z2 ⟨w,m⟩ G (lk st.objs)) hh hc;refine ⟨v,w',m',G',?_,r2,r3⟩;rw [←r1];simp [Instr.alloc,Instr.box,z1]
theorem Bu (T:Xy P C.τ) {t:Nat} (ht:C.ag t=some true) {b off:Nat} {vs:List Value} (hl:vs.length=C.size t)
  (hc:∀ j u,vs[j]?=some u→w.cell? ⟨b,off+j,none⟩=some u):(Instr.loadAt t (.pointer (some ⟨b,off,none⟩))).run P w=.ok (.agg vs.toArray) w:=by
 have Ly:=run_loadCells_list (P:=P) w ⟨b,off,none⟩ vs (fun j u hu=>by
  rw [show (⟨b,off,none⟩:Addr).add j=⟨b,off+j,none⟩ by unfold Addr.add;split<;>simp_all]
  exact hc j u hu)
 rw [hl] at Ly;simp [Instr.loadAt,Instr.sureAddr,loadVar,mJ T ht,Uo (Ctx.ag_some T ht),Ly]
theorem N6 (T:Xy P C.τ) {t:Nat} (ht:C.ag t=some false) {b off:Nat} {u:Value} (hc:w.cell? ⟨b,off,none⟩=some u) :
  (Instr.loadAt t (.pointer (some ⟨b,off,none⟩))).run P w=.ok u w:=by
 simp [Instr.loadAt,Instr.sureAddr,loadVar,mJ T ht,hc]
theorem Tu {α:Type} {l:List α} {f n j:Nat} {u:α} (h:((l.drop f).take n)[j]?=some u):l[f+j]?=some u:=by
 rw [List.getElem?_take] at h;split at h
 ·rw [List.getElem?_drop] at h;exact h
 ·cases h
theorem iA (T:Xy P C.τ) (h:SRg base pass F0 m G st a w) {t:Nat} {p:AV} {v:Value} {c:Prop} {z:AV} {os:Z5} (hp:RA ⟨w,m⟩ G (lk st.objs) p v)
  (hh:G6 C t p st.objs=some (c,z,os)) (hc:c):os=st.objs∧∃ v',(Instr.loadAt t v).run P w=.ok v' w∧RA ⟨w,m⟩ G (lk st.objs) z v':=by
 cases p with
 | d p =>
  cases p with
  | ptr s x =>
   simp only [G6] at hh;simp only [RA,R] at hp;obtain ⟨b,off,u,rfl,h2,h3,h1,h4,h5⟩:=hp;split at hh
   ·next ht =>
    split at hh
    ·next hs =>
     simp only [Zc,Zf] at hh;obtain ⟨rfl,rfl,rfl⟩:=hh;have hr:=Bu (w:=w) T ht (vs:=u.cells.toList) (b:=b) (off:=off) (by simp [h3,hs]) h5
     refine ⟨rfl,_,hr,?_⟩;simp only [RA];simpa using R.asAgg h2 h1
    ·cases hh
   ·next ht =>
    split at hh
    ·next hs =>
     simp only [Zc,Zf] at hh;obtain ⟨rfl,rfl,rfl⟩:=hh;have Qg:0<u.cells.toList.length:=by simp [h3,hs]
     have hg:=Zh Qg;have hr:=N6 (w:=w) T ht (b:=b) (off:=off) (by simpa using h5 0 _ hg)
     refine ⟨rfl,_,hr,?_⟩;simp only [RA];exact R.cell h2 hg
    ·cases hh
   ·cases hh
  | _=>simp [G6] at hh
 | ref i f =>
  simp only [G6] at hh;simp only [RA] at hp;split at hh
  ·next ag cells hi =>
   rw [hi] at hp;obtain ⟨b,g1,rfl⟩:=hp.2 rfl;have X5:=h.objs i _ hi;simp only [Qf] at X5;obtain ⟨b',cs,ty,q1,q2,q3,q4,q5⟩:=X5;rw [g1] at q1;injection q1 with q1
   subst q1;have Z8:=RAs.length q3;split at hh
   ·next ht =>
    split at hh
    ·next hs =>
     simp only [Zc,Zf] at hh;obtain ⟨rfl,rfl,rfl⟩:=hh;have hr:=Bu (w:=w) T ht (vs:=(cs.toList.drop f).take (C.size t)) (b:=b) (off:=f) (by simp at Z8 ⊢;omega) (fun j u hu=>by
      rw [Um q2];simpa using Tu hu)
     refine ⟨rfl,_,hr,?_⟩;exact dC ((q3.split f).2.split (C.size t)).1 (fun u hu=>q4 u (List.mem_of_mem_drop (List.mem_of_mem_take hu)))
    ·cases hh
   ·next ht =>
    split at hh
    ·next hs =>
     simp only [Zc,Zf] at hh;obtain ⟨rfl,rfl,rfl⟩:=hh;obtain ⟨u,hu,Qbh⟩:=q3.at (Zh hs);have hr:=N6 (w:=w) T ht (b:=b) (off:=f) (by rw [Um q2];simpa using hu)
     refine ⟨rfl,_,hr,?_⟩;rw [Zk,Zh hs];exact Qbh
    ·cases hh
   ·cases hh
  ·next s x hi =>
   rw [hi] at hp;obtain ⟨b,g1,rfl⟩:=hp.2 rfl;have X5:=h.objs i _ hi;simp only [Qf] at X5;obtain ⟨b',u,q1,q2,q3,q4,q5,q6⟩:=X5;rw [g1] at q1;injection q1 with q1
   subst q1;split at hh
   ·next ht =>
    split at hh
    ·next hs =>
     simp only [Zc,Zf] at hh;obtain ⟨rfl,rfl,rfl⟩:=hh;obtain ⟨rfl,rfl⟩:=hs;have hr:=Bu (w:=w) T ht (vs:=u.cells.toList) (b:=b) (off:=0) (by simp [q3]) q6
     refine ⟨rfl,_,hr,?_⟩;simp only [RA];simpa using R.asAgg q2 q4
    ·cases hh
   ·next ht =>
    split at hh
    ·next hs =>
     simp only [Zc,Zf] at hh;obtain ⟨rfl,rfl,rfl⟩:=hh;have Qg:f<u.cells.toList.length:=by simp [q3];exact hs
     have hg:=Zh Qg;have hr:=N6 (w:=w) T ht (b:=b) (off:=f) (by simpa using q6 f _ hg)
     refine ⟨rfl,_,hr,?_⟩;simp only [RA];exact R.cell q2 hg
    ·cases hh
   ·cases hh
  ·cases hh
 | rref i n e f =>
  simp only [G6] at hh;simp only [RA] at hp;split at hh
  ·next s els k hi =>
   rw [hi] at hp;have X5:=h.objs i _ hi;simp only [Qf] at X5;have blk:n=els.length→e<els.length→∃ b cs ty vv,v=.pointer (some ⟨b,e*s+f,none⟩)∧w.heap[b]?=some (.cells cs ty (0,0))∧R ⟨w,m⟩ (el els e) vv∧vv.cells.size=s ∧
     (∀ u∈vv.cells.toList,u.oneCell'=true)∧∀ j u,vv.cells.toList[j]?=some u→cs[e*s+j]?=some u:=by
    intro hn he;obtain ⟨b,g1,g2⟩:=hp.2.2 hn;rcases X5 with ⟨h1,_,rfl,_⟩|⟨b',cap,cs,ty,h1,h2,h3,h4,h5,h6,h7,h8,h9⟩
    ·simp at he
    ·rw [g1] at h1;injection h1 with h1
     subst h1;obtain ⟨vv,r1,r2,r3,r4⟩:=h7.at (Zh he);refine ⟨b,cs,ty,vv,g2,h5,?_,r2,r3,fun j u hu=>?_⟩
     ·unfold el;rw [Zk,Zh he];exact r1
     ·rw [←r4] at hu;have:=Tu hu;rw [List.getElem?_take] at this;split at this
      ·simpa using this
      ·cases this
   split at hh
   ·next ht =>
    split at hh
    ·next hs =>
     simp only [Zc,Zf] at hh;obtain ⟨rfl,rfl,rfl⟩:=hh;obtain ⟨rfl,rfl⟩:=hs;obtain ⟨b,cs,ty,vv,rfl,r1,r2,r3,r4,r5⟩:=blk hc.1 hc.2;have hr:=Bu (w:=w) T ht (vs:=vv.cells.toList) (b:=b) (off:=e*C.size t+0) (by simp [r3]) (fun j u hu=>by rw [Um r1,Nat.add_zero];exact r5 j u hu)
     refine ⟨rfl,_,hr,?_⟩;simp only [RA];simpa using R.asAgg r2 r4
    ·cases hh
   ·next ht =>
    split at hh
    ·next hs =>
     simp only [Zc,Zf] at hh;obtain ⟨rfl,rfl,rfl⟩:=hh;obtain ⟨b,cs,ty,vv,rfl,r1,r2,r3,r4,r5⟩:=blk hc.1 hc.2;have Qg:f<vv.cells.toList.length:=by simp [r3];exact hs
     have hg:=Zh Qg;have hr:=N6 (w:=w) T ht (b:=b) (off:=e*s+f) (by rw [Um r1];exact r5 f _ hg)
     refine ⟨rfl,_,hr,?_⟩;simp only [RA];exact R.cell r2 hg
    ·cases hh
   ·cases hh
  ·cases hh
 | _=>simp [G6] at hh
theorem Zah (T:Xy P C.τ) (h:SRg base pass F0 m G st a w) {t:Nat} {p:AV} {v:Value} {c:Prop} {z:AV} {os:Z5} (hp:RA ⟨w,m⟩ G (lk st.objs) p v)
  (hh:Rr C t p st.objs=some (c,z,os)) (hc:c):os=st.objs∧∃ v',(Instr.loadAt t v).run P w=.ok v' w∧RA ⟨w,m⟩ G (lk st.objs) z v':=by
 unfold Rr at hh;split at hh
 ·next i n e f =>
  split at hh
  ·next i' n0 e0 f0 x hk =>
   split at hh
   ·next he =>
    obtain ⟨rfl,rfl⟩:=he;split at hh
    ·next s els k hi ht =>
     simp only [Zc,Zf] at hh;obtain ⟨rfl,rfl,rfl⟩:=hh;obtain ⟨rfl,hn,rfl⟩:=hc;have X5:=h.objs _ _ hk;simp only [Qf] at X5;obtain ⟨b,off,v0,h1,h2,h3,h4⟩:=X5;simp only [RA,hi] at hp h1;obtain ⟨b1,g1,rfl⟩:=hp.2.2 hn;obtain ⟨b2,g2,e2⟩:=h1.2.2 hn;rw [g1] at g2;injection g2 with g2
     subst g2;simp only [Value.pointer.injEq,Zc,Addr.mk.injEq,and_true] at e2;obtain ⟨rfl,rfl⟩:=e2;exact ⟨rfl,v0,N6 (w:=w) T ht h3,h4⟩
    ·cases hh
   ·exact iA T h hp hh hc
  ·exact iA T h hp hh hc
 ·exact iA T h hp hh hc
theorem xY (T:Xy P C.τ) (h:SRg base pass F0 m G st a w) {t:Nat} {p:AV} {v:Value} {c:Prop} {z:AV} {os:Z5} (hp:RA ⟨w,m⟩ G (lk st.objs) p v)
  (hh:Rr C t p st.objs=some (c,z,os)) (hc:c):Kv P base pass F0 a st.tmps (Instr.loadAt t v) w z os:=by
 obtain ⟨rfl,v',hr,hz⟩:=Zah (P:=P) T h hp hh hc;exact Qd h hr hz
end
end
section
variable {P:Program} {C:Ctx} {G:Gh}
variable {base:Nat} {pass:Nat→Prop} {F0:Anc} {m:Nat→Nat} {st:AS} {a:Act} {w:World}
theorem O6 {g:Nat} {cs:Array Value} {b off:Nat} (h:b≠g):(w.setRow g cs).cell? ⟨b,off,none⟩=w.cell? ⟨b,off,none⟩ :=
 World.cell?_of_block (setRow_other w g b cs h)
theorem Fix.le_setRow {g:Nat} {cur cs:Array Value} {t:TypeId} (hg:w.heap[g]?=some (.cells cur t (0,0))) (h:∀ off,off<m g→cs[off]?=cur[off]?) :
  Fix.le ⟨w,m⟩ ⟨w.setRow g cs,m⟩:=by
 refine ⟨fun b=>⟨Zl _,fun off ho=>?_⟩,fun b es c hm Gd=>?_⟩
 ·by_cases hb:b=g
  ·subst hb;rw [Um (setRow_heap w b cur cs t (0,0) hg),Um hg];exact h off ho
  ·exact O6 hb
 ·by_cases hb:b=g
  ·subst hb;rw [hg] at Gd;cases Gd
  ·rw [setRow_other w g b cs hb];exact Gd
theorem SRg.write (h:SRg base pass F0 m G st a w) {i b:Nat} {o o':Obj} {cur cs:Array Value} {t:TypeId} (hi:lk st.objs i=some o) (ho:o.owns=true) (hb:G.γ i=some b)
  (hg:w.heap[b]?=some (.cells cur t (0,0))) (hm:∀ off,off<m b→cs[off]?=cur[off]?)
  (hbox:o'.isBox=true→o.isBox=true) (aA:∀ s els' k',o'=.row s els' k'→∃ els k,o=.row s els k∧els.length=els'.length)
  (X5:Fix.le ⟨w,m⟩ ⟨w.setRow b cs,m⟩→Yo G (lk st.objs) G (lk (upd st.objs i o'))→Qf ⟨w.setRow b cs,m⟩ G (lk (upd st.objs i o')) i o') (H7:∀ t l,o'≠.brow t l:=by simp) :
  Yo G (lk st.objs) G (lk (upd st.objs i o'))∧Fix.le ⟨w,m⟩ ⟨w.setRow b cs,m⟩∧SRg base pass F0 m G ⟨st.tmps,upd st.objs i o'⟩ a (w.setRow b cs):=by
 have hF:=Fix.le_setRow hg hm;have U4:=h.mine i o b hi ho hb;have key:=h.obj i o' (G':=G) (m':=m) hF (fun _ _=>⟨rfl,rfl⟩) (fun o1 h1=>by
   rw [hi] at h1;injection h1 with h1
   subst h1;refine ⟨fun hx=>⟨hbox hx,rfl⟩,fun s els' k' he=>?_⟩;obtain ⟨els,k,e1,e2⟩:=aA s els' k' he;exact ⟨els,k,e1,by omega,fun _=>⟨rfl,rfl⟩⟩) (fun Bd=>X5 hF Bd)
  (fun j oj V8 hj C2 b' hb'=>by
   have:b'≠b:=fun e=>V8 (h.apart j i oj o b hj hi C2 ho (e▸hb') hb);exact ⟨setRow_other w b b' cs this,rfl⟩)
  (fun _ b' hb'=>by
   rw [hb] at hb';injection hb' with hb'
   subst hb';exact ⟨by simpa using U4.1,U4.2,fun j oj V8 hj C2 e=>V8 (h.apart j i oj o b hj hi C2 ho e hb)⟩)
  ⟨rfl,rfl,rfl,by simp,fun b' Qg hp=>setRow_other w b b' cs (fun e=>by
   subst e;rcases U4.2 with h1|h1
   ·omega
   ·exact hp h1)⟩ (fun _ _ _=>rfl) (fun b' Pj=>h.new b' (by simpa using Pj)) H7
 exact ⟨key.1,hF,key.2⟩
theorem Gp (T:Xy P C.τ) {t:Nat} {bb:Bool} (ht:C.ag t=some bb) {b off:Nat} {cur:Array Value} {ty:TypeId} {v:Value} (hg:w.heap[b]?=some (.cells cur ty (0,0)))
  (hs:v.cells.size=C.size t) (Sx:off+v.cells.size≤cur.size) (h1:∀ u∈v.cells.toList,u.oneCell'=true) :
  (Instr.storeAt t (.pointer (some ⟨b,off,none⟩)) v).run P w=.ok () (w.setRow b (cur.toList.take off++v.cells.toList++cur.toList.drop (off+v.cells.size)).toArray):=by
 have Us:=run_storeCells_at P b off ty v.cells.toList 0 cur w hg (by simpa using Sx) h1
 simp only [Nat.add_zero,Array.length_toList] at Us;simp [Instr.storeAt,Instr.sureAddr,storeVar,Uo (Ctx.ag_some T ht),hs,Us]
def kK (P:Program) (base:Nat) (pass:Nat→Prop) (F0:Anc) (a:Act) (tm:List AV) (s:Sem Unit) (w:World) (os:Z5):Prop :=
 ∃ w' m' G',s.run P w=.ok () w'∧SRg base pass F0 m' G' ⟨tm,os⟩ a w'
theorem lT (T:Xy P C.τ) (h:SRg base pass F0 m G st a w) {t i f:Nat} {bb:Bool} (ht:C.ag t=some bb) {ag:Bool} {cells:List AV} {x:AV} {v vx:Value}
  (hi:lk st.objs i=some (.box ag cells)) (hp:RA ⟨w,m⟩ G (lk st.objs) (.ref i f) v) (hx:RA ⟨w,m⟩ G (lk st.objs) x vx) (hf:x.fits (C.size t)) (hs:f+C.size t≤cells.length) :
  kK P base pass F0 a st.tmps (Instr.storeAt t v vx) w (upd st.objs i (.box ag (Po cells f (x.cells bb (C.size t))))):=by
 simp only [RA,hi] at hp;obtain ⟨b,g1,rfl⟩:=hp.2 rfl;have X5:=h.objs i _ hi;simp only [Qf] at X5;obtain ⟨b',cs,ty,q1,q2,q3,q4,q5,q6⟩:=X5;rw [g1] at q1;injection q1 with q1
 subst q1;have Z8:=RAs.length q3;obtain ⟨c1,c2,c3⟩:=Hc (ag:=bb) hx hf;have Ziq:(x.cells bb (C.size t)).length=C.size t:=by rw [←RAs.length c1];simpa using c2
 have Sx:f+vx.cells.size≤cs.size:=by
  rw [c2];have:=Z8;simp only [Array.length_toList] at this;omega
 have rJ:=Gp (w:=w) (off:=f) T ht q2 c2 Sx c3;obtain ⟨k1,k2,k3⟩:=h.write (o':=.box ag (Po cells f (x.cells bb (C.size t)))) (cs:=(cs.toList.take f++vx.cells.toList++cs.toList.drop (f+vx.cells.size)).toArray) hi rfl g1 q2
  (fun off ho=>by rw [show m b=0 from q5] at ho;omega) (fun _=>rfl) (by simp) (by
   intro hF hg;simp only [Qf];refine ⟨b,_,ty,g1,setRow_heap w b cs _ ty (0,0) q2,?_,?_,q5,Zd0 q6 fun T hT=>?_⟩
   ·have e:Po cells f (x.cells bb (C.size t))=cells.take f++x.cells bb (C.size t)++cells.drop (f+vx.cells.size):=by unfold Po;rw [Ziq,c2]
    have:=RAs.append (RAs.append (RAs.mono hF hg (q3.split f).1) (RAs.mono hF hg c1)) (RAs.mono hF hg (q3.split (f+vx.cells.size)).2);rw [←e] at this;exact this
   ·intro u hu;simp only [List.mem_append] at hu;rcases hu with (hu|hu)|hu
    ·exact q4 u (List.mem_of_mem_take hu)
    ·exact c3 u hu
    ·exact q4 u (List.mem_of_mem_drop hu)
   ·unfold Po at hT;have A3:cs.toList.length=cells.length:=Z8;have hn:=jO (ag:=bb) hf T;have M9:vx.cells.toList.length=(x.cells bb (C.size t)).length:=RAs.length c1;cases f with
    | zero =>
     cases hx:x.cells bb (C.size t) with
     | nil =>
      rw [hx] at hT M9;have h0:vx.cells.size=0:=by simpa using M9
      have h1:vx.cells.toList=[]:=List.eq_nil_of_length_eq_zero (by simpa using h0)
      simp only [List.take_zero,List.nil_append,List.length_nil,Nat.add_zero,List.drop_zero] at hT;exact ⟨hT,by simp [h1,h0]⟩
     | cons y r =>
      rw [hx] at hT hn;simp only [List.take_zero,List.nil_append,List.cons_append,List.head?_cons] at hT hn;exact absurd hT hn
    | succ f =>
     cases cells with
     | nil=>simp at hs
     | cons y r =>
      cases Zid:cs.toList with
      | nil=>rw [Zid] at A3;simp at A3
      | cons u q =>
       simp only [List.take_succ_cons,List.cons_append,List.head?_cons] at hT ⊢;exact ⟨hT,trivial⟩)
 exact ⟨_,m,G,rJ,k3⟩
theorem Rs.set {F:Fix}:∀ {l:List D} {vs:List Value} {k:Nat} {x:D} {v:Value},Rs F l vs→R F x v→Rs F (l.set k x) (vs.set k v)
 | [],_,_,_,_,h,_=>by simp only [Rs] at h;subst h;simp [Rs]
 | y::l,vs,k,x,v,h,hx=>by
  simp only [Rs] at h;obtain ⟨u,r,rfl,h2,h3⟩:=h;cases k with
  | zero=>simp only [Jr,Rs];exact ⟨v,r,rfl,hx,h3⟩
  | succ k=>simp only [Jx,Rs];exact ⟨u,_,rfl,h2,Rs.set h3 hx⟩
theorem R.setCell {F:Fix} {x y:D} {v u:Value} {f:Nat} (h:R F x v) (h1:∀ z∈v.cells.toList,z.oneCell'=true) (hf:f<v.cells.size) (hu:R F y u) (Zvf:u.oneCell'=true) :
  ∃ v',R F (x.setCell f y) v'∧v'.cells.toList=v.cells.toList.set f u∧∀ z∈v'.cells.toList,z.oneCell'=true:=by
 have all:∀ z∈v.cells.toList.set f u,z.oneCell'=true:=by
  intro z hz;rcases List.mem_or_eq_of_mem_set hz with hz|hz
  ·exact h1 z hz
  ·rw [hz];exact Zvf
 cases x with
 | agg l =>
  simp only [R] at h;obtain ⟨cs,rfl,h2,_⟩:=h;simp only [Value.cells] at all;refine ⟨.agg (cs.set f u).toArray,?_,by simp [Value.cells],by simpa [Value.cells] using all⟩
  simp only [D.setCell,R];exact ⟨_,rfl,Rs.set h2 hu,by simpa using all⟩
 | _ =>
  have hv:v.cells=#[v]:=by
   cases v with
   | agg cs=>simp [R,Value.oneCell'] at h
   | _=>rfl
  rw [hv] at hf ⊢;have Zem:f=0:=by simpa using hf
  subst Zem;exact ⟨u,hu,by simp [K1 Zvf],by simp [K1 Zvf,Zvf]⟩
theorem gW {α:Type} (l:List α) (k:Nat) (v:α) (hk:k<l.length):l.take k++[v]++l.drop (k+1)=l.set k v:=by
 rw [List.set_eq_take_append_cons_drop,if_pos hk];simp
theorem S2 (T:Xy P C.τ) (h:SRg base pass F0 m G st a w) {t:Nat} {p x:AV} {v vx:Value} {c:Prop} {z:AV} {os:Z5} (hp:RA ⟨w,m⟩ G (lk st.objs) p v) (hx:RA ⟨w,m⟩ G (lk st.objs) x vx)
  (hh:U2 C t p x st.objs=some (c,z,os)) (hc:c):z=.dead∧kK P base pass F0 a st.tmps (Instr.storeAt t v vx) w os:=by
 cases p with
 | ref i f =>
  simp only [U2] at hh;split at hh
  ·next ag cells hi =>
   split at hh
   ·next ht =>
    split at hh
    ·next hs =>
     simp only [Zc,Zf] at hh;obtain ⟨rfl,rfl,rfl⟩:=hh;exact ⟨rfl,lT T h ht hi hp hx hc hs⟩
    ·cases hh
   ·next ht =>
    split at hh
    ·next hs =>
     simp only [Zc,Zf] at hh;obtain ⟨rfl,rfl,rfl⟩:=hh;have hb:=lT (P:=P) T h ht hi hp hx (by rw [hc.2];exact hc.1) (by rw [hc.2];omega)
     rw [hc.2] at hb;exact ⟨rfl,hb⟩
    ·cases hh
   ·cases hh
  ·cases hh
 | rref i n e f =>
  simp only [U2] at hh;split at hh
  ·next s0 els0 k0 c1 y o1 _ hpur =>
   split at hh
   ·next s els k hi =>
    have main:c1→n=els.length→e<els.length→k≤e→∃ (m1:Nat→Nat) (b cap:Nat) (cs:Array Value) (ty:TypeId),SRg base pass F0 m1 G ⟨st.tmps,o1⟩ a w∧R ⟨w,m1⟩ y vx∧v=.pointer (some ⟨b,e*s+f,none⟩)∧G.γ i=some b ∧
      G.hd i=.slice (some ⟨b,0,none⟩) els.length cap∧els.length≤cap∧cap≤maxLen∧w.heap[b]?=some (.cells cs ty (0,0))∧cs.size=cap*s∧RE ⟨w,m1⟩ s els (cs.toList.take (els.length*s))∧m1 b=k*s∧k≤els.length:=by
     intro Eu hn he hk;obtain ⟨m1,k1,k2,k3,k4⟩:=Np h hpur Eu hx;have hp':=RA.mono k2 k3 hp;simp only [RA,hi] at hp';obtain ⟨b,g1,g2⟩:=hp'.2.2 hn;have X5:=k1.objs i _ hi;simp only [Qf] at X5;rcases X5 with ⟨_,_,rfl,_⟩|⟨b',cap,cs,ty,h1,h2,h3,h4,h5,h6,h7,h8,h9⟩
     ·simp at he
     ·rw [g1] at h1;injection h1 with h1
      subst h1;exact ⟨m1,b,cap,cs,ty,k1,k4,g2,g1,h2,h3,h4,h5,h6,h7,h8,h9⟩
    have fin:∀ (m1:Nat→Nat) (b cap:Nat) (cs:Array Value) (ty:TypeId),SRg base pass F0 m1 G ⟨st.tmps,o1⟩ a w→G.γ i=some b→G.hd i=.slice (some ⟨b,0,none⟩) els.length cap→els.length≤cap→cap≤maxLen →
      w.heap[b]?=some (.cells cs ty (0,0))→cs.size=cap*s→RE ⟨w,m1⟩ s els (cs.toList.take (els.length*s))→m1 b=k*s→k≤els.length→e<els.length→k≤e →
      ∀ (d:D) (vd:Value) (new:Array Value),R ⟨w,m1⟩ d vd→vd.cells.size=s→(∀ u∈vd.cells.toList,u.oneCell'=true) →
       new.toList=cs.toList.take (e*s)++vd.cells.toList++cs.toList.drop ((e+1)*s) →
       SRg base pass F0 m1 G ⟨st.tmps,upd o1 i (.row s (els.set e d) k)⟩ a (w.setRow b new):=by
     intro m1 b cap cs ty k1 h1 h2 h3 h4 h5 h6 h7 h8 h9 he hk d vd new hd Zya fY Vm;have Zkp:(e+1)*s≤els.length*s:=Nat.mul_le_mul_right _ (by omega)
     have A3:els.length*s≤cs.size:=by rw [h6];exact Nat.mul_le_mul_right _ h3
     have vG:(e+1)*s=e*s+s:=by rw [Nat.add_mul,Nat.one_mul]
     have K5:new.size=cs.size:=by
      rw [←Array.length_toList,Vm];simp [Zya];omega
     have Xs:k*s≤e*s:=Nat.mul_le_mul_right _ hk;refine (k1.write (o':=.row s (els.set e d) k) (cs:=new) hi rfl h1 h5 (fun off ho=>?_) (by simp [Obj.isBox]) (fun s' els' k' he'=>?_) (fun hF hg=>?_)).2.2
     ·rw [h8] at ho;have:off<e*s:=by omega
      rw [←Array.getElem?_toList,Vm,List.append_assoc,List.getElem?_append_left (by simp;omega),List.getElem?_take,if_pos this]
      simp
     ·simp only [Obj.row.injEq] at he';obtain ⟨rfl,rfl,rfl⟩:=he';exact ⟨els,k,rfl,by simp⟩
     ·simp only [Qf];refine .inr ⟨b,cap,new,ty,h1,by simpa using h2,by simpa using h3,h4,setRow_heap w b cs new ty (0,0) h5,by rw [K5,h6],?_,h8,by simpa using h9⟩
      have g:=RE.set (RE.mono hF h7) he (hd.mono hF) Zya fY;have e1:(cs.toList.take (els.length*s)).take (e*s)=cs.toList.take (e*s):=by rw [List.take_take];congr 1;omega
      have e2:new.toList.take ((els.set e d).length*s)=(cs.toList.take (els.length*s)).take (e*s)++vd.cells.toList++(cs.toList.take (els.length*s)).drop ((e+1)*s):=by
       rw [e1,Vm,List.length_set];have Mn:(cs.toList.take (e*s)++vd.cells.toList).length=(e+1)*s:=by simp [Zya];omega
       rw [List.take_append,List.take_of_length_le (by omega),Mn,List.drop_take]
      rw [e2];exact g
    split at hh
    ·next ht =>
     split at hh
     ·next hs =>
      simp only [Zc,Zf] at hh;obtain ⟨rfl,rfl,rfl⟩:=hh;obtain ⟨Eu,hn,he,hk,Sx⟩:=hc;obtain ⟨rfl,rfl⟩:=hs;obtain ⟨m1,b,cap,cs,ty,k1,k4,rfl,h1,h2,h3,h4,h5,h6,h7,h8,h9⟩:=main Eu hn he hk;obtain ⟨f1,f2⟩:=R.cellsD k4 Sx;have Zkp:(e+1)*C.size t≤els.length*C.size t:=Nat.mul_le_mul_right _ (by omega)
      have A3:els.length*C.size t≤cs.size:=by rw [h6];exact Nat.mul_le_mul_right _ h3
      have vG:(e+1)*C.size t=e*C.size t+C.size t:=by rw [Nat.add_mul,Nat.one_mul]
      have rJ:=Gp (w:=w) (off:=e*C.size t+0) T ht h5 f1 (by omega) f2
      refine ⟨rfl,_,m1,G,rJ,fin m1 b cap cs ty k1 h1 h2 h3 h4 h5 h6 h7 h8 h9 he hk y vx _ k4 f1 f2 ?_⟩;simp [f1,vG]
     ·cases hh
    ·next ht =>
     split at hh
     ·next hs =>
      simp only [Zc,Zf] at hh;obtain ⟨rfl,rfl,rfl⟩:=hh;obtain ⟨Eu,hn,he,hk,Sx,Us⟩:=hc;obtain ⟨m1,b,cap,cs,ty,k1,k4,rfl,h1,h2,h3,h4,h5,h6,h7,h8,h9⟩:=main Eu hn he hk;obtain ⟨f1,f2⟩:=R.cellsD k4 Sx;have Zkp:(e+1)*s≤els.length*s:=Nat.mul_le_mul_right _ (by omega)
      have A3:els.length*s≤cs.size:=by rw [h6];exact Nat.mul_le_mul_right _ h3
      have vG:(e+1)*s=e*s+s:=by rw [Nat.add_mul,Nat.one_mul]
      have rJ:=Gp (w:=w) (off:=e*s+f) T ht h5 (by rw [f1,Us]) (by omega) f2
      have Mn:vx.cells.toList.length=1:=by simpa using f1
      obtain ⟨u,hu⟩:∃ u,vx.cells.toList=[u]:=by
       match vx.cells.toList,Mn with
       | [u],_=>exact ⟨u,rfl⟩
      have Zvf:u.oneCell'=true:=f2 u (by rw [hu];simp)
      have Qbh:R ⟨w,m1⟩ (y.cell 0) u:=R.cell k4 (by rw [hu];rfl)
      obtain ⟨vv,r1,r2,r3,r4⟩:=h7.at (Zh he);have Zbv:el els e=els[e]:=by unfold el;rw [Zk,Zh he];rfl
      obtain ⟨v',w1,w2,w3⟩:=R.setCell (f:=f) r1 r3 (by omega) Qbh Zvf
      rw [←Zbv] at w1;refine ⟨rfl,_,m1,G,rJ,fin m1 b cap cs ty k1 h1 h2 h3 h4 h5 h6 h7 h8 h9 he hk _ v' _ w1 ?_ w3 ?_⟩
      ·rw [←Array.length_toList,w2];simpa using r2
      ·rw [w2,←r4,hu];simp only [f1];have a1:((cs.toList.take (els.length*s)).drop (e*s)).take s=(cs.toList.drop (e*s)).take s:=by
        rw [List.drop_take,List.take_take]
        congr 1
        omega
       rw [a1];have M9:((cs.toList.drop (e*s)).take s).length=s:=by simp;omega
       rw [←gW _ f u (by omega)]
       have a2:cs.toList.take (e*s+f)=cs.toList.take (e*s)++((cs.toList.drop (e*s)).take s).take f:=by
        rw [List.take_add,List.take_take]
        congr 2
        omega
       have a3:cs.toList.drop (e*s+f+1)=((cs.toList.drop (e*s)).take s).drop (f+1)++cs.toList.drop ((e+1)*s):=by
        have e1:cs.toList.drop (e*s+f+1)=(cs.toList.drop (e*s)).drop (f+1):=by rw [List.drop_drop];congr 1
        have e2:cs.toList.drop ((e+1)*s)=(cs.toList.drop (e*s)).drop s:=by rw [List.drop_drop,vG]
        rw [e1,e2]
        conv=>lhs;rw [←List.take_append_drop s (cs.toList.drop (e*s))]
        rw [List.drop_append,M9,show f+1-s=0 by omega,List.drop_zero]
       rw [a2,a3];simp [List.append_assoc]
     ·cases hh
    ·cases hh
   ·cases hh
  ·cases hh
 | _=>simp [U2] at hh
theorem zG:∀ (l:Z5) (i:Nat) (o o':Obj),upd (upd l i o) i o'=upd l i o'
 | [],i,o,o'=>by simp [upd]
 | (j,p)::r,i,o,o'=>by
  by_cases h:i=j
  ·subst h;simp [upd]
  ·simp only [upd,if_neg h,zG r i o o']
theorem SRg.note (h:SRg base pass F0 m G st a w) {K:Nat} {o':Obj} (ho:o'.owns=false) (hb:o'.isBox=false) (hr:∀ s els k,o'≠.row s els k)
  (X5:Yo G (lk st.objs) G (lk (upd st.objs K o'))→Qf ⟨w,m⟩ G (lk (upd st.objs K o')) K o'):Yo G (lk st.objs) G (lk (upd st.objs K o'))∧SRg base pass F0 m G ⟨st.tmps,upd st.objs K o'⟩ a w:=by
 refine h.obj K o' (Fix.le_refl _) (fun _ _=>⟨rfl,rfl⟩) (fun o _=>⟨fun hx=>?_,fun s els' k' he=>?_⟩) X5 (fun _ _ _ _ _ _ _=>⟨rfl,rfl⟩) (fun hx=>?_) (Frame.refl _ _ _) (fun _ _ _=>rfl) h.new (fun t l e=>by rw [e] at ho;cases ho)
 ·rw [hb] at hx;cases hx
 ·exact absurd he (hr s els' k')
 ·rw [ho] at hx;cases hx
theorem Zb7 (T:Xy P C.τ) (h:SRg base pass F0 m G st a w) {t i n e f s k:Nat} {els:List D} {v vx:Value} (hi:lk st.objs i=some (.row s els k)) (hp:RA ⟨w,m⟩ G (lk st.objs) (.rref i n e f) v) (vM:vx.oneCell'=true)
  (hn:n=els.length) (he:e<els.length) (hk:k≤e) (hs:f<s) (ht:C.ag t=some false) (Us:C.size t=1) :
  ∃ (b:Nat) (w':World),(Instr.storeAt t v vx).run P w=.ok () w'∧v=.pointer (some ⟨b,e*s+f,none⟩)∧G.γ i=some b∧w'.cell? ⟨b,e*s+f,none⟩=some vx∧Fix.le ⟨w,m⟩ ⟨w',m⟩ ∧
   Yo G (lk st.objs) G (lk (upd st.objs i (.row s (els.set e ((el els e).setCell f .any)) k)))∧SRg base pass F0 m G ⟨st.tmps,upd st.objs i (.row s (els.set e ((el els e).setCell f .any)) k)⟩ a w':=by
 have hp':=hp;simp only [RA,hi] at hp';obtain ⟨b,h1,rfl⟩:=hp'.2.2 hn;have X5:=h.objs i _ hi;simp only [Qf] at X5;rcases X5 with ⟨_,_,rfl,_⟩|⟨b',cap,cs,ty,h1',h2,h3,h4,h5,h6,h7,h8,h9⟩
 ·simp at he
 rw [h1] at h1';injection h1' with h1'
 subst h1';have C4:=K1 vM;have f1:vx.cells.size=1:=by rw [C4];rfl
 have f2:∀ u∈vx.cells.toList,u.oneCell'=true:=by rw [C4];simpa using vM
 have Zkp:(e+1)*s≤els.length*s:=Nat.mul_le_mul_right _ (by omega)
 have A3:els.length*s≤cs.size:=by rw [h6];exact Nat.mul_le_mul_right _ h3
 have vG:(e+1)*s=e*s+s:=by rw [Nat.add_mul,Nat.one_mul]
 have Xs:k*s≤e*s:=Nat.mul_le_mul_right _ hk;have rJ:=Gp (w:=w) (off:=e*s+f) T ht h5 (by rw [f1,Us]) (by rw [f1];omega) f2
 have Qbh:R ⟨w,m⟩ .any vx:=by simpa only [R] using vM
 obtain ⟨vv,r1,r2,r3,r4⟩:=h7.at (Zh he);have Zbv:el els e=els[e]:=by unfold el;rw [Zk,Zh he];rfl
 obtain ⟨v',w1,w2,w3⟩:=R.setCell (f:=f) r1 r3 (by omega) Qbh vM
 rw [←Zbv] at w1;obtain ⟨new,Vm⟩:∃ new:Array Value,new=(cs.toList.take (e*s+f)++vx.cells.toList++cs.toList.drop (e*s+f+1)).toArray:=⟨_,rfl⟩;have Zya:v'.cells.size=s:=by
  rw [←Array.length_toList,w2];simpa using r2
 have Zyo:new.toList=cs.toList.take (e*s)++v'.cells.toList++cs.toList.drop ((e+1)*s):=by
  rw [Vm,w2,←r4,C4];have a1:((cs.toList.take (els.length*s)).drop (e*s)).take s=(cs.toList.drop (e*s)).take s:=by
   rw [List.drop_take,List.take_take]
   congr 1
   omega
  rw [a1];have M9:((cs.toList.drop (e*s)).take s).length=s:=by simp;omega
  rw [←gW _ f vx (by omega)]
  have a2:cs.toList.take (e*s+f)=cs.toList.take (e*s)++((cs.toList.drop (e*s)).take s).take f:=by
   rw [List.take_add,List.take_take]
   congr 2
   omega
  have a3:cs.toList.drop (e*s+f+1)=((cs.toList.drop (e*s)).take s).drop (f+1)++cs.toList.drop ((e+1)*s):=by
   have e1:cs.toList.drop (e*s+f+1)=(cs.toList.drop (e*s)).drop (f+1):=by rw [List.drop_drop];congr 1
   have e2:cs.toList.drop ((e+1)*s)=(cs.toList.drop (e*s)).drop s:=by rw [List.drop_drop,vG]
   rw [e1,e2]
   conv=>lhs;rw [←List.take_append_drop s (cs.toList.drop (e*s))]
   rw [List.drop_append,M9,show f+1-s=0 by omega,List.drop_zero]
  rw [a2,a3];simp [List.append_assoc]
 have K5:new.size=cs.size:=by
  rw [←Array.length_toList,Zyo];simp [Zya];omega
 have Qdt:=h.write (o':=.row s (els.set e ((el els e).setCell f .any)) k) (cs:=new) hi rfl h1 h5 (fun off ho=>?_) (by simp [Obj.isBox]) (fun s' els' k' he'=>?_) (fun hF hg=>?_)
 ·refine ⟨b,w.setRow b new,?_,rfl,h1,?_,Qdt.2.1,Qdt.1,Qdt.2.2⟩
  ·rw [Vm];simpa [f1] using rJ
  ·rw [Um (setRow_heap w b cs new ty (0,0) h5)];rw [←Array.getElem?_toList,Vm,C4];simp;rw [List.getElem?_append_right (by simp;omega)]
   have:e*s+f-(cs.toList.take (e*s+f)).length=0:=by simp;omega
   rw [this];rfl
 ·rw [h8] at ho;have:off<e*s:=by omega
  rw [←Array.getElem?_toList,Zyo,List.append_assoc,List.getElem?_append_left (by simp;omega),List.getElem?_take,if_pos this]
  simp
 ·simp only [Obj.row.injEq] at he';obtain ⟨rfl,rfl,rfl⟩:=he';exact ⟨els,k,rfl,by simp⟩
 ·simp only [Qf];refine .inr ⟨b,cap,new,ty,h1,by simpa using h2,by simpa using h3,h4,setRow_heap w b cs new ty (0,0) h5,by rw [K5,h6],?_,h8,by simpa using h9⟩
  have g:=RE.set (RE.mono hF h7) he (w1.mono hF) Zya w3;have e1:(cs.toList.take (els.length*s)).take (e*s)=cs.toList.take (e*s):=by rw [List.take_take];congr 1;omega
  have e2:new.toList.take ((els.set e ((el els e).setCell f .any)).length*s)=(cs.toList.take (els.length*s)).take (e*s)++v'.cells.toList++(cs.toList.take (els.length*s)).drop ((e+1)*s):=by
   rw [e1,Zyo,List.length_set];have Mn:(cs.toList.take (e*s)++v'.cells.toList).length=(e+1)*s:=by simp [Zya];omega
   rw [List.take_append,List.take_of_length_le (by omega),Mn,List.drop_take]
  rw [e2];exact g
theorem rU (T:Xy P C.τ) (h:SRg base pass F0 m G st a w) {t:Nat} {p x:AV} {v vx:Value} {c:Prop} {z:AV} {os:Z5} (hp:RA ⟨w,m⟩ G (lk st.objs) p v) (hx:RA ⟨w,m⟩ G (lk st.objs) x vx)
  (hh:Al C t p x st.objs=some (c,z,os)) (hc:c):z=.dead∧kK P base pass F0 a st.tmps (Instr.storeAt t v vx) w os:=by
 unfold Al at hh;split at hh
 ·next i n e f j jm =>
  split at hh
  ·next e0 f0 hk =>
   split at hh
   ·next Zem =>
    split at hh
    ·next s els k hi ht =>
     split at hh
     ·next hs =>
      simp only [Zc,Zf] at hh;obtain ⟨rfl,rfl,rfl⟩:=hh;obtain ⟨rfl,Zec,hn,he,Us⟩:=hc;subst Zem;have vM:vx.oneCell'=true:=by simp only [RA] at hx;exact hx.1
      obtain ⟨b,w',rJ,rfl,hγ,C4,hF,Bd,U7⟩:=Zb7 (P:=P) T h hi hp vM hn he Zec hs ht Us;have Zbt:lk (upd st.objs i (.row s (els.set e ((el els e).setCell f0 .any)) k)) i=some (.row s (els.set e ((el els e).setCell f0 .any)) k):=by rw [J2,if_pos rfl]
      have Yd:=U7.objs i _ Zbt;simp only [Qf] at Yd;rcases Yd with ⟨q1,_⟩|⟨b',cap,cs,ty,q1,q2,q3,q4,q5,q6,q7,q8,q9⟩
      ·rw [hγ] at q1;cases q1
      rw [hγ] at q1;injection q1 with q1
      subst q1;have Mg:m b≤(e+1)*s:=by rw [q8];exact Nat.mul_le_mul_right _ (by omega)
      obtain ⟨Zko,kN⟩:=U7.bump (o':=.row s (els.set e ((el els e).setCell f0 .any)) (e+1)) (n:=(e+1)*s) Zbt rfl hγ Mg (by simp [Obj.isBox]) (by
       intro s' els' k' he';simp only [Obj.row.injEq] at he';obtain ⟨rfl,rfl,_⟩:=he';exact ⟨k,rfl⟩) (by
       intro hF' _;simp only [Qf];exact .inr ⟨b,cap,cs,ty,hγ,q2,q3,q4,q5,q6,RE.mono hF' q7,by simp,by simp;omega⟩)
      have Zys:=Fix.le_bump (w:=w') Mg;have vC:=RA.mono Zys Zko (RA.mono hF Bd hp);have Qhe:=RA.mono Zys Zko (RA.mono hF Bd hx);obtain ⟨Qjb,Qgf⟩:=kN.note (K:=50000+i) (o':=.hole i n e f0 (.sl j jm)) rfl rfl (by intro _ _ _ h;cases h) (fun hg=>by
       simp only [Qf];refine ⟨b,e*s+f0,vx,RA.mono (Fix.le_refl _) hg vC,?_,C4,RA.mono (Fix.le_refl _) hg Qhe⟩;simp only [if_true];rw [Nat.add_mul,Nat.one_mul];omega)
      have hu:upd (upd st.objs i (.row s (els.set e ((el els e).setCell f0 .any)) k)) i (.row s (els.set e ((el els e).setCell f0 .any)) (e+1))=upd st.objs i (.row s (els.set e ((el els e).setCell f0 .any)) (e+1)):=zG _ _ _ _;rw [hu] at Qgf;exact ⟨rfl,_,_,G,rJ,Qgf⟩
     ·cases hh
    ·cases hh
   ·exact S2 T h hp hx hh hc
  ·exact S2 T h hp hx hh hc
 ·exact S2 T h hp hx hh hc
theorem SRg.fill (h:SRg base pass F0 m G st a w) {K i n e f s k:Nat} {x:AV} {c:Prop} {d:D} {os:Z5} {els:List D} (hk:lk st.objs K=some (.hole i n e f x)) (hp:pur 60 x st.objs=some (c,d,os)) (hc:c)
  (hi:lk os i=some (.row s els k)) (hn:n=els.length) (he:e<els.length) (hf:f<s) :
  ∃ m',SRg base pass F0 m' G ⟨st.tmps,upd os i (.row s (els.set e ((el els e).setCell f d)) k)⟩ a w:=by
 have Yd:=h.objs K _ hk;simp only [Qf] at Yd;obtain ⟨b,off,v,g1,g2,g3,g4⟩:=Yd;have Zxp:v.oneCell'=true∨True:=.inr trivial;obtain ⟨m',h1,hF,hg,hr⟩:=Np h hp hc g4;have g1':=RA.mono hF hg g1;simp only [RA,hi] at g1';obtain ⟨b2,e1,e2⟩:=g1'.2.2 hn;simp only [Value.pointer.injEq,Zc,Addr.mk.injEq,and_true] at e2;obtain ⟨rfl,rfl⟩:=e2;have aA:=h1.objs i _ hi;simp only [Qf] at aA;rcases aA with ⟨q1,_⟩|⟨b',cap,cs,ty,q1,q2,q3,q4,q5,q6,q7,q8,q9⟩
 ·rw [e1] at q1;cases q1
 rw [e1] at q1;injection q1 with q1
 subst q1;obtain ⟨vv,r1,r2,r3,r4⟩:=q7.at (Zh he);have Zbv:el els e=els[e]:=by unfold el;rw [Zk,Zh he];rfl
 have Zkp:(e+1)*s≤els.length*s:=Nat.mul_le_mul_right _ (by omega)
 have vG:(e+1)*s=e*s+s:=by rw [Nat.add_mul,Nat.one_mul]
 rw [Um q5] at g3;have Qdw:vv.cells.toList[f]?=some v:=by
  rw [←r4,List.getElem?_take,if_pos hf,List.getElem?_drop,List.getElem?_take,if_pos (by omega)]
  simpa using g3
 have Qbf:v.oneCell'=true:=r3 v (List.mem_of_getElem? Qdw);obtain ⟨v',w1,w2,w3⟩:=R.setCell (f:=f) r1 r3 (by omega) hr Qbf
 have Ky:v'.cells.toList=vv.cells.toList:=by
  rw [w2];refine List.ext_getElem? fun j=>?_;rw [List.getElem?_set];split
  ·next hj =>
   subst hj;rw [Qdw];have:f<vv.cells.toList.length:=(List.getElem?_eq_some_iff.1 Qdw).1;rw [if_pos this]
  ·rfl
 rw [←Zbv] at w1;refine ⟨m',(h1.obj i (.row s (els.set e ((el els e).setCell f d)) k) (G':=G) (Fix.le_refl _) (fun _ _=>⟨rfl,rfl⟩) (fun o ho=>?_) (fun Bd=>?_) (fun _ _ _ _ _ _ _=>⟨rfl,rfl⟩) (fun _ b' hb'=>?_) (Frame.refl _ _ _) (fun _ _ _=>rfl) h1.new).2⟩
 ·simp only at ho;rw [hi] at ho;injection ho with ho
  subst ho;refine ⟨fun hx=>by simp [Obj.isBox] at hx,fun s' els' k' he'=>?_⟩
  simp only [Obj.row.injEq] at he';obtain ⟨rfl,rfl,rfl⟩:=he';exact ⟨els,k,rfl,by simp,fun _=>⟨rfl,rfl⟩⟩
 ·simp only [Qf];refine .inr ⟨b,cap,cs,ty,e1,by simpa using q2,by simpa using q3,q4,q5,q6,?_,q8,by simpa using q9⟩
  have g:=RE.set q7 he w1 (by rw [←Array.length_toList,Ky];simpa using r2) w3
  rw [List.length_set];rw [Ky,←r4] at g;have hl:e*s+s≤(cs.toList.take (els.length*s)).length:=by
   rw [RE.length q7];omega
  rw [vG] at g;rw [List.append_assoc] at g;have e3:(List.drop (e*s) (cs.toList.take (els.length*s))).take s++List.drop (e*s+s) (cs.toList.take (els.length*s))=List.drop (e*s) (cs.toList.take (els.length*s)):=by
   rw [←List.drop_drop];exact List.take_append_drop _ _
  rw [e3,List.take_append_drop] at g;exact g
 ·have:=h1.mine i _ b' hi rfl hb';exact ⟨this.1,this.2,fun j oj V8 hj C2 e=>V8 (h1.apart j i oj _ b' hj hi C2 rfl e hb')⟩
theorem SRg.back (h:SRg base pass F0 m G st a w) {st':AS} (hw:Qdj st st'):∃ m' G',SRg base pass F0 m' G' st' a w:=by
 rcases hw with hw|⟨k,i,j,hw⟩|⟨i,hw⟩|⟨q,i,j,hw⟩
 ·exact ⟨_,_,h.weak hw⟩
 ·unfold Qdh at hw;split at hw
  ·next i' n hk =>
   obtain ⟨rfl,h1,h2,h3,h4,h5,h6,h7⟩:=hw;exact ⟨_,_,(h.weak h1).ren hk h2 h3 h4 h5 h6 h7⟩
  ·exact hw.elim
 ·unfold Qdi at hw;split at hw
  ·next i' n e f x hk =>
   split at hw
   ·next c d os hp =>
    split at hw
    ·next s els k hi =>
     obtain ⟨hc,rfl,hn,he,hf,h1⟩:=hw;obtain ⟨m',hs⟩:=h.fill hk hp hc hi hn he hf;exact ⟨_,_,hs.weak h1⟩
    ·exact hw.elim
   ·exact hw.elim
  ·exact hw.elim
 ·unfold Qa6 at hw;split at hw
  ·next ag i' n hq =>
   obtain ⟨rfl,h1,h2,h3,h4,h5,h6,h7⟩:=hw;exact ⟨_,_,(h.weak h1).renC hq h2 h3 h4 h5 h6 h7⟩
  ·exact hw.elim
end
section
variable {P:Program} {C:Ctx} {G:Gh}
variable {base:Nat} {pass:Nat→Prop} {F0:Anc} {m:Nat→Nat} {st:AS} {a:Act} {w:World}
theorem Md (b off n:Nat):(⟨b,off,none⟩:Addr).add n=⟨b,off+n,none⟩:=by unfold Addr.add;split<;>simp_all
theorem Zef.part {F:Fix} {b off k n:Nat} {vs us:List Value} (h:Zef F b off vs) (hu:∀ j u,us[j]?=some u→vs[k+j]?=some u) (hl:us.length=n) (hk:k+n≤vs.length):Zef F b (off+k) us:=by
 obtain ⟨h1,h2⟩:=h;refine ⟨by omega,fun j u hj=>?_⟩
 rw [Nat.add_assoc];exact h2 _ _ (hu j u hj)
theorem sC {F:Fix} {b off s k:Nat} {x:D} {u:Value} (h2:R F x u) (h3:u.cells.size=s) (h1:∀ y∈u.cells.toList,y.oneCell'=true) (hm:Zef F b off u.cells.toList) (hk:k<s) :
  R F (.ptr 1 (x.cell k)) (.pointer (some ⟨b,off+k,none⟩)):=by
 have Qg:k<u.cells.toList.length:=by simp;omega
 have hg:=Zh Qg;have h1':=h1 _ (List.getElem_mem Qg);simp only [R];refine ⟨b,off+k,u.cells.toList[k],rfl,R.cell h2 hg,by rw [K1 h1'];rfl,fun y hy=>?_,?_⟩
 ·rw [K1 h1'] at hy;simp only [Qy] at hy;rw [hy];exact h1'
 rw [K1 h1'];exact hm.part (n:=1) (fun j y hj=>by
  cases j with
  | zero=>simp only [List.getElem?_cons_zero,Zc] at hj;subst hj;exact hg
  | succ j=>simp at hj) rfl (by omega)
theorem eR (T:Xy P C.τ) (h:SRg base pass F0 m G st a w) {t f:Nat} {p:AV} {v:Value} {c:Prop} {z:AV} {os:Z5} (hp:RA ⟨w,m⟩ G (lk st.objs) p v)
  (hh:Kh C t p f st.objs=some (c,z,os)) (hc:c):Kv P base pass F0 a st.tmps (Instr.fieldAt t v f) w z os:=by
 unfold Kh at hh;split at hh
 ·next off sz hf =>
  unfold Ctx.fieldAt at hf;split at hf
  ·next fs hk =>
   obtain ⟨d,hd,X4⟩:=T.kind hk rfl;simp only [TK.is] at X4;obtain ⟨fields,rfl,hl,Zx4⟩:=X4;have Qg:f<fields.size:=by
    have:=(List.getElem?_eq_some_iff.1 hf).1;omega
   obtain ⟨g1,g2,g3,g4⟩:=Zx4 f fields[f] (off,sz) (Array.getElem?_eq_getElem Qg) hf;simp only at g1 g2 g3;have run:∀ b o,(Instr.fieldAt t (.pointer (some ⟨b,o,none⟩)) f).run P w=.ok (.pointer (some ⟨b,o+off,none⟩)) w:=by
    intro b o;cases hi:P.info? fields[f].type with
    | none=>simp [hi] at g2
    | some i =>
     have K5:i.size=sz:=by simpa [hi] using g2
     have hn:i.size≠0:=by omega
     simp [Instr.fieldAt,run_underlying hd,Array.getElem?_eq_getElem Qg,Instr.sureAddr,fieldPlace,sizeOf,typeInfo,hi,hn,g1,Md]
   split at hh
   ·next i f0 =>
    split at hh
    ·next ob hi =>
     split at hh
     ·next hb =>
      simp only [Zc,Zf] at hh;obtain ⟨rfl,rfl,rfl⟩:=hh;simp only [RA,hi] at hp;obtain ⟨b,q1,rfl⟩:=hp.2 hb;refine Qd h (run b f0) ?_;simp only [RA,hi];exact ⟨rfl,fun _=>⟨b,q1,rfl⟩⟩
     ·cases hh
    ·cases hh
   ·next i n e f0 =>
    split at hh
    ·next s els k hi =>
     simp only [Zc,Zf] at hh;obtain ⟨rfl,rfl,rfl⟩:=hh;simp only [RA,hi] at hp;obtain ⟨b,q1,rfl⟩:=hp.2.2 hc;refine Qd h (run b _) ?_;simp only [RA,hi];exact ⟨rfl,hp.2.1,fun _=>⟨b,q1,by rw [Nat.add_assoc]⟩⟩
    ·cases hh
   ·next s x =>
    split at hh
    ·next hs =>
     simp only [Zc,Zf] at hh;obtain ⟨rfl,rfl,rfl⟩:=hh;simp only [RA,R] at hp;obtain ⟨b,o,u,rfl,h2,h3,h1,h4⟩:=hp;refine Qd h (run b o) ?_;simp only [RA];exact sC h2 h3 h1 h4 hs.2.2
    ·cases hh
   ·cases hh
  ·cases hf
 ·cases hh
theorem D.isAgg_R {F:Fix} {x:D} {v:Value} {s:Nat} (h:R F x v) (hx:x.isAgg s):∃ cs:Array Value,v=.agg cs∧cs.size=s∧∀ k,k<s→∃ u,cs[k]?=some u∧R F (x.cell k) u:=by
 cases x with
 | agg l =>
  have h0:=h;simp only [R] at h;obtain ⟨cs,rfl,h2,_⟩:=h;simp only [D.isAgg] at hx;refine ⟨_,rfl,by simp [Rs.length h2,hx],fun k hk=>?_⟩
  have Qg:k<cs.length:=by rw [Rs.length h2];omega
  refine ⟨cs[k],by simp [Qg],R.cell h0 (by simp [Value.cells,Qg])⟩
 | _=>simp [D.isAgg] at hx
theorem uX (T:Xy P C.τ) (h:SRg base pass F0 m G st a w) {t f:Nat} {x:AV} {v:Value} {c:Prop} {z:AV} {os:Z5} (hx:RA ⟨w,m⟩ G (lk st.objs) x v)
  (hh:D6 C t x f st.objs=some (c,z,os)) (hc:c):Kv P base pass F0 a st.tmps (Instr.field t v f) w z os:=by
 unfold D6 at hh;split at hh
 ·next off sz hf =>
  unfold Ctx.fieldAt at hf;split at hf
  ·next fs hk =>
   obtain ⟨d,hd,X4⟩:=T.kind hk rfl;simp only [TK.is] at X4;obtain ⟨fields,rfl,hl,Zx4⟩:=X4;have Qg:f<fields.size:=by
    have:=(List.getElem?_eq_some_iff.1 hf).1;omega
   obtain ⟨g1,g2,g3,g4⟩:=Zx4 f fields[f] (off,sz) (Array.getElem?_eq_getElem Qg) hf;simp only at g1 g2 g3 g4;split at hh
   ·next hs =>
    obtain ⟨d',hu,zJ⟩:=g4 hs.1;have ha:(isAgg fields[f].type).run P w=.ok false w:=by
     cases d'<;>first|(simp [Ez] at zJ;done)|simp [isAgg,run_underlying hu]
    have run:∀ (cs:Array Value) (u:Value),cs[off]?=some u→(Instr.field t (.agg cs) f).run P w=.ok u w:=by
     intro cs u A3;simp [Instr.field,run_underlying hd,Array.getElem?_eq_getElem Qg,asAgg,part,ha,g1,A3]
    split at hh
    ·next y =>
     simp only [Zc,Zf] at hh;obtain ⟨rfl,rfl,rfl⟩:=hh;simp only [RA] at hx;obtain ⟨cs,rfl,_,C4⟩:=D.isAgg_R hx hc;obtain ⟨u,hu,hr⟩:=C4 off hs.2;exact Qd h (run cs u hu) (by simp only [RA];exact hr)
    ·next l =>
     split at hh
     ·next hls =>
      simp only [Zc,Zf] at hh;obtain ⟨rfl,rfl,rfl⟩:=hh;simp only [RA] at hx;obtain ⟨cs,rfl,h2,_⟩:=hx;have Cm:off<l.length:=by omega
      obtain ⟨u,hu,hr⟩:=h2.at (Zh Cm);refine Qd h (run cs.toArray u (by simpa using hu)) ?_
      rw [Zk,Zh Cm];exact hr
     ·cases hh
    ·cases hh
   ·cases hh
  ·cases hf
 ·cases hh
theorem fD {F:Fix} {s:Nat} {l:List D} {v:Value} (h:R F (.list s l) v):∃ A c,v=.slice A l.length c∧l.length≤c∧c≤maxLen ∧
  ∀ k,k<l.length→∃ b off u,A=some ⟨b,off,none⟩∧R F (el l k) u∧u.cells.size=s∧(∀ y∈u.cells.toList,y.oneCell'=true)∧Zef F b (off+k*s) u.cells.toList:=by
 simp only [R] at h;obtain ⟨A,c,rfl,h2,h3,h4⟩:=h;refine ⟨A,c,rfl,h2,h3,fun k hk=>?_⟩;obtain ⟨b,off,vs,rfl,g1,g2⟩:=h4 (by intro e;subst e;simp at hk)
 obtain ⟨u,q1,q2,q3,q4⟩:=g1.at (Zh hk);have Zbv:el l k=l[k]:=by unfold el;rw [Zk,Zh hk];rfl
 have Z8:=g1.length;have Xs:(k+1)*s≤l.length*s:=Nat.mul_le_mul_right _ (by omega)
 have Gb:(k+1)*s=k*s+s:=by rw [Nat.add_mul,Nat.one_mul]
 refine ⟨b,off,u,rfl,by rw [Zbv];exact q1,q2,q3,g2.part (n:=s) (fun j y hj=>?_) (by simp [q2]) (by omega)⟩
 rw [←q4] at hj;exact Tu hj
theorem aS {t e sz:Nat} (hd:P.underlying t=some (.slice e)) (K5:∀ w,(sizeOf e).run P w=.ok sz w) {k:IntKind} {i:Int} {b off n c:Nat} (h0:0≤i) (h1:i<n) :
  (Instr.indexAt t (.slice (some ⟨b,off,none⟩) n c) (.int k i)).run P w=.ok (.pointer (some ⟨b,off+i.toNat*sz,none⟩)) w:=by
 simp [Instr.indexAt,asIntOf,run_underlying hd,h0,h1,K5,Md]
theorem eN (T:Xy P C.τ) (h:SRg base pass F0 m G st a w) {t:Nat} {x ix:AV} {v vi:Value} {c:Prop} {z:AV} {os:Z5} (hx:RA ⟨w,m⟩ G (lk st.objs) x v) (hix:RA ⟨w,m⟩ G (lk st.objs) ix vi)
  (hh:Kg C t x ix st.objs=some (c,z,os)) (hc:c):Kv P base pass F0 a st.tmps (Instr.indexAt t v vi) w z os:=by
 unfold Kg at hh;split at hh
 ·next e i hk =>
  obtain ⟨d,hd,X4⟩:=T.kind hk rfl;simp only [TK.is] at X4;obtain ⟨rfl,he⟩:=X4;have K5:=Uo (T e he);simp only [RA] at hix;split at hh
  ·next y =>
   simp only [Zc,Zf] at hh;obtain ⟨rfl,rfl,rfl⟩:=hh;obtain ⟨c1,c2,c3,c4⟩:=hc;obtain ⟨ik,rfl⟩:=hix.of_anyInt c2;simp only [RA] at hx;obtain ⟨A,cap,rfl,_,_,Zbv⟩:=fD (hx.of_list c1);obtain ⟨b,off,u,rfl,q1,q2,q3,q4⟩:=Zbv i.i.toNat (by omega)
   refine Qd h (aS hd K5 c3 c4) ?_;simp only [RA,R];exact ⟨b,_,u,rfl,q1,q2,q3,q4⟩
  ·next k n =>
   split at hh
   ·next s els kk hi =>
    split at hh
    ·next hs =>
     simp only [Zc,Zf] at hh;obtain ⟨rfl,rfl,rfl⟩:=hh;obtain ⟨c1,c2,c3,c4⟩:=hc;obtain ⟨ik,rfl⟩:=hix.of_anyInt c2;simp only [RA,hi] at hx;have hv:=hx.2.2 c1;have X5:=h.objs k _ hi;simp only [Qf] at X5;rcases X5 with ⟨_,_,rfl,_⟩|⟨b,cap,cs,ty,h1,h2,_⟩
     ·simp at c4;omega
     ·rw [h2] at hv;subst hv;refine Qd h (aS hd K5 c3 c4) ?_;simp only [RA,hi];exact ⟨rfl,hx.2.1,fun _=>⟨b,h1,by rw [hs];simp⟩⟩
    ·cases hh
   ·cases hh
  ·next k n f =>
   split at hh
   ·next s els kk hi =>
    split at hh
    ·next hs =>
     simp only [Zc,Zf] at hh;obtain ⟨rfl,rfl,rfl⟩:=hh;obtain ⟨c1,c2,c3,c4⟩:=hc;obtain ⟨ik,rfl⟩:=hix.of_anyInt c2;simp only [RA,hi] at hx;obtain ⟨b,cc,g1,g2,g3,rfl⟩:=hx.2.2 c1;refine Qd h (aS hd K5 c3 (by omega)) ?_
     simp only [RA,hi];refine ⟨rfl,hx.2.1,fun _=>⟨b,g1,?_⟩⟩;rw [hs,Nat.add_mul];simp
    ·cases hh
   ·cases hh
  ·cases hh
 ·next n e ik j hk =>
  obtain ⟨d,hd,X4⟩:=T.kind hk rfl;simp only [TK.is] at X4;obtain ⟨rfl,he⟩:=X4;have K5:=Uo (T e (by rw [he];rfl)) w
  simp only [RA,R] at hix;subst hix;split at hh
  ·next hj =>
   obtain ⟨j0,j1,j2⟩:=hj;have run:∀ b o,(Instr.indexAt t (.pointer (some ⟨b,o,none⟩)) (.int ik j)).run P w=.ok (.pointer (some ⟨b,o+j.toNat,none⟩)) w:=by
    intro b o;simp [Instr.indexAt,asIntOf,run_underlying hd,Instr.sureAddr,j0,j1,K5,j2,Md]
   split at hh
   ·next i f0 =>
    split at hh
    ·next ob hi =>
     split at hh
     ·next hb =>
      simp only [Zc,Zf] at hh;obtain ⟨rfl,rfl,rfl⟩:=hh;simp only [RA,hi] at hx;obtain ⟨b,q1,rfl⟩:=hx.2 hb;refine Qd h (run b f0) ?_;simp only [RA,hi];exact ⟨rfl,fun _=>⟨b,q1,rfl⟩⟩
     ·cases hh
    ·cases hh
   ·next s y =>
    split at hh
    ·next hs =>
     simp only [Zc,Zf] at hh;obtain ⟨rfl,rfl,rfl⟩:=hh;simp only [RA,R] at hx;obtain ⟨b,o,u,rfl,h2,h3,h1,h4⟩:=hx;refine Qd h (run b o) ?_;simp only [RA];exact sC h2 h3 h1 h4 (by omega)
    ·cases hh
   ·cases hh
  ·cases hh
 ·cases hh
theorem Zdf (T:Xy P C.τ) {e:Nat} (he:(C.τ e).kind.ag=some false):∃ d,P.underlying e=some d∧(match d with|.struct _|.array _ _=>true|_=>false)=false:=by
 cases hk:(C.τ e).kind with
 | int k=>obtain ⟨d,hd,X4⟩:=T.kind hk rfl;simp only [TK.is] at X4;exact ⟨d,hd,by rw [X4]⟩
 | bool=>obtain ⟨d,hd,X4⟩:=T.kind hk rfl;simp only [TK.is] at X4;exact ⟨d,hd,by rw [X4]⟩
 | str=>obtain ⟨d,hd,X4⟩:=T.kind hk rfl;simp only [TK.is] at X4;exact ⟨d,hd,by rw [X4]⟩
 | slice x=>obtain ⟨d,hd,X4⟩:=T.kind hk rfl;simp only [TK.is] at X4;exact ⟨d,hd,by rw [X4.1]⟩
 | ptr x=>obtain ⟨d,hd,X4⟩:=T.kind hk rfl;simp only [TK.is] at X4;exact ⟨d,hd,by rw [X4]⟩
 | map x y=>obtain ⟨d,hd,X4⟩:=T.kind hk rfl;simp only [TK.is] at X4;exact ⟨d,hd,by rw [X4]⟩
 | func=>obtain ⟨d,hd,X4⟩:=T.kind hk rfl;simp only [TK.is] at X4;obtain ⟨x,y,z,X4⟩:=X4;exact ⟨d,hd,by rw [X4]⟩
 | struct fs=>rw [hk] at he;cases he
 | array n x=>rw [hk] at he;cases he
 | other=>rw [hk] at he;cases he
theorem tF (T:Xy P C.τ) (h:SRg base pass F0 m G st a w) {t:Nat} {x ix:AV} {v vi:Value} {c:Prop} {z:AV} {os:Z5} (hx:RA ⟨w,m⟩ G (lk st.objs) x v) (hix:RA ⟨w,m⟩ G (lk st.objs) ix vi)
  (hh:D5 C t x ix st.objs=some (c,z,os)) (hc:c):Kv P base pass F0 a st.tmps (Instr.index t v vi) w z os:=by
 unfold D5 at hh;split at hh
 ·next y i hk =>
  obtain ⟨d,hd,X4⟩:=T.kind hk rfl;simp only [TK.is] at X4;subst X4;simp only [Zc,Zf] at hh;obtain ⟨rfl,rfl,rfl⟩:=hh;obtain ⟨c1,c2,c3,c4⟩:=hc;simp only [RA] at hx hix;obtain ⟨ik,rfl⟩:=hix.of_anyInt c2;have e:=hx.of_str c1;subst e;have Qg:i.i.toNat<(⟨y.s.toArray⟩:ByteArray).size:=by simp [ByteArray.size];omega
  refine Qd h (v:=.int .u8 ((y.s.getD i.i.toNat 0).toNat:Int)) ?_ (by simp only [RA];exact R.int)
  have hb:=ByteArray.getElem?_lt' (⟨y.s.toArray⟩:ByteArray) i.i.toNat Qg;simp only [Instr.index,asIntOf,Sem.run_bind,Sem.run_pure,Result.andThen_ok,run_underlying hd,if_pos c3,hb];have hlt':i.i.toNat<y.s.length:=by omega
  simp [Zk,Zh hlt'];rfl
 ·next n e l i hk =>
  obtain ⟨d,hd,X4⟩:=T.kind hk rfl;simp only [TK.is] at X4;obtain ⟨rfl,he⟩:=X4;split at hh
  ·next hs =>
   simp only [Zc,Zf] at hh;obtain ⟨rfl,rfl,rfl⟩:=hh;obtain ⟨c1,c2,c3,c4⟩:=hc;simp only [RA,R] at hx hix;obtain ⟨ik,rfl⟩:=hix.of_anyInt c2;obtain ⟨cs,rfl,hr,h1⟩:=hx;have Ziq:cs.length=l.length:=Rs.length hr;have Qg:i.i.toNat<l.length:=by omega
   obtain ⟨u,hu,Qd0⟩:=Rs.at hr (Zh Qg);have K5:=Uo (T e (by rw [he];rfl)) w
   rw [hs] at K5;obtain ⟨de,Qig,Zx5⟩:=Zdf T he;refine Qd h (v:=u) ?_ (by simp only [RA];unfold el;rw [Zk,Zh Qg];exact Qd0)
   have hp:(part e cs.toArray (i.i.toNat*1)).run P w=.ok u w:=S7 Qig (by revert Zx5;cases de<;>intro Zx5<;>first|rfl|cases Zx5) (by simpa using hu) w
   simp only [Instr.index,asIntOf,Sem.run_bind,Sem.run_pure,Result.andThen_ok,run_underlying hd,if_pos (show 0≤i.i∧i.i<(n:Int) from ⟨c3,c4⟩),K5,hp]
  ·cases hh
 ·cases hh
theorem Dv {t e ty:Nat} (hd:P.underlying t=some (.slice e)) (A:Option Addr) (n c:Nat):(Builtin.len_ #[t] ty #[.slice A n c]).run P w=.ok (.int .i64 n) w:=by
 simp [Builtin.len_,run_underlying hd,goInt]
theorem Zc3 (T:Xy P C.τ) (h:SRg base pass F0 m G st a w) {t:Nat} {x:AV} {v:Value} {c:Prop} {z:AV} {os:Z5} (hx:RA ⟨w,m⟩ G (lk st.objs) x v)
  (hh:tH C t x st.objs=some (c,z,os)) (hc:c) (ty:TypeId):Kv P base pass F0 a st.tmps (Builtin.len_ #[t] ty #[v]) w z os:=by
 unfold tH at hh;split at hh
 ·next y hk =>
  obtain ⟨d,hd,X4⟩:=T.kind hk rfl;simp only [TK.is] at X4;subst X4;simp only [Zc,Zf] at hh;obtain ⟨rfl,rfl,rfl⟩:=hh;simp only [RA] at hx;have e:=hx.of_str hc;subst e;exact Qd h (v:=.int .i64 y.s.length) (by rw [run_len_string w t ty _ hd];simp [ByteArray.size];rfl) (by simp only [RA];exact R.int)
 ·next e y hk =>
  obtain ⟨d,hd,X4⟩:=T.kind hk rfl;simp only [TK.is] at X4;obtain ⟨rfl,_⟩:=X4;simp only [Zc,Zf] at hh;obtain ⟨rfl,rfl,rfl⟩:=hh;simp only [RA] at hx;obtain ⟨A,cap,rfl,_⟩:=fD (hx.of_list hc);exact Qd h (v:=.int .i64 y.l.length) (Dv hd _ _ _) (by simp only [RA];exact R.int)
 ·next e s hk =>
  obtain ⟨d,hd,X4⟩:=T.kind hk rfl;simp only [TK.is] at X4;obtain ⟨rfl,_⟩:=X4;simp only [Zc,Zf] at hh;obtain ⟨rfl,rfl,rfl⟩:=hh;simp only [RA] at hx;subst hx;exact Qd h (v:=.int .i64 0) (Dv hd _ _ _) (by simp only [RA];exact R.int)
 ·next e i n hk =>
  obtain ⟨d,hd,X4⟩:=T.kind hk rfl;simp only [TK.is] at X4;obtain ⟨rfl,_⟩:=X4;split at hh
  ·next s els k hi =>
   simp only [Zc,Zf] at hh;obtain ⟨rfl,rfl,rfl⟩:=hh;simp only [RA,hi] at hx;have hv:=hx.2.2 hc;have X5:=h.objs i _ hi;simp only [Qf] at X5;rcases X5 with ⟨_,h2,rfl,_⟩|⟨b,cap,cs,ty,h1,h2,_⟩
   ·rw [h2] at hv;subst hv;exact Qd h (v:=.int .i64 0) (Dv hd _ _ _) (by simp only [RA];exact R.int)
   ·rw [h2] at hv;subst hv;exact Qd h (v:=.int .i64 els.length) (Dv hd _ _ _) (by simp only [RA];exact R.int)
  ·cases hh
 ·next e i n f hk =>
  obtain ⟨d,hd,X4⟩:=T.kind hk rfl;simp only [TK.is] at X4;obtain ⟨rfl,_⟩:=X4;split at hh
  ·next s els k hi =>
   simp only [Zc,Zf] at hh;obtain ⟨rfl,rfl,rfl⟩:=hh;simp only [RA,hi] at hx;obtain ⟨b,cc,g1,g2,g3,rfl⟩:=hx.2.2 hc;exact Qd h (v:=.int .i64 (els.length-f:Nat)) (by rw [←hc];exact Dv hd _ _ _) (by simp only [RA];exact R.int)
  ·cases hh
 ·cases hh
theorem lV (h:SRg base pass F0 m G st a w) {x:AV} {v:Value} {i:Nat} {c:Prop} {z:AV} {os:Z5} (hx:RA ⟨w,m⟩ G (lk st.objs) x v)
  (hh:Ma x i st.objs=some (c,z,os)):Kv P base pass F0 a st.tmps (Instr.extract v i) w z os:=by
 unfold Ma at hh;split at hh
 ·next l =>
  split at hh
  ·next hi =>
   simp only [Zc,Zf] at hh;obtain ⟨rfl,rfl,rfl⟩:=hh;simp only [RA] at hx;obtain ⟨cs,rfl,h2⟩:=hx;obtain ⟨u,hu,hr⟩:=h2.at (Zh hi);refine Qd h (v:=u) (by simp [Instr.extract,hu]) ?_
   rw [Zk,Zh hi];exact hr
  ·cases hh
 ·next l =>
  split at hh
  ·next hi =>
   simp only [Zc,Zf] at hh;obtain ⟨rfl,rfl,rfl⟩:=hh;simp only [RA,R] at hx;obtain ⟨cs,rfl,h2⟩:=hx;obtain ⟨u,hu,hr⟩:=h2.at (Zh hi);refine Qd h (v:=u) (by simp [Instr.extract,hu]) ?_
   simp only [RA];rw [Zk,Zh hi];exact hr
  ·cases hh
 ·cases hh
end
section
variable {P:Program} {C:Ctx} {G:Gh}
variable {base:Nat} {pass:Nat→Prop} {F0:Anc} {m:Nat→Nat} {st:AS} {a:Act} {w:World}
theorem It {F:Fix} {s lo hi:Nat} {l:List D} {A:Option Addr} {c:Nat} (h:R F (.list s l) (.slice A l.length c)) (h1:lo≤hi) (h2:hi≤l.length) :
  R F (.list s ((l.take hi).drop lo)) (.slice (if c=lo then A else A.map (·.add (lo*s))) (hi-lo) (c-lo)):=by
 simp only [R] at h ⊢;obtain ⟨A',c',e,g1,g2,g3⟩:=h;simp only [Value.slice.injEq] at e;obtain ⟨rfl,_,rfl⟩:=e;have hl:((l.take hi).drop lo).length=hi-lo:=by simp;omega
 refine ⟨_,_,by rw [hl],by rw [hl];omega,by omega,fun Hk=>?_⟩
 have Qg:lo<hi:=by
  rcases Nat.lt_or_ge lo hi with h3|h3
  ·exact h3
  ·exact absurd (List.eq_nil_of_length_eq_zero (by omega)) Hk
 obtain ⟨b,off,vs,rfl,q1,q2⟩:=g3 (by intro e;subst e;simp at h2;omega)
 have zQ:=q1.length;refine ⟨b,off+lo*s,(vs.take (hi*s)).drop (lo*s),?_,?_,?_⟩
 ·rw [if_neg (by omega)]
  simp [Md]
 ·exact (((q1.split hi).1).split lo).2
 ·have e1:hi*s≤l.length*s:=Nat.mul_le_mul_right _ h2;have e2:lo*s≤hi*s:=Nat.mul_le_mul_right _ h1;refine q2.part (n:=hi*s-lo*s) (fun j u hj=>?_) (by simp;omega) (by omega)
  rw [List.getElem?_drop,List.getElem?_take] at hj;split at hj
  ·exact hj
  ·cases hj
theorem Zc2 {F:Fix} {s lo hi mx:Nat} {l:List D} {A:Option Addr} {c:Nat} (h:R F (.list s l) (.slice A l.length c)) (h1:lo≤hi) (h2:hi≤mx) (h3:mx≤l.length) :
  R F (.list s ((l.take hi).drop lo)) (.slice (if mx=lo then A else A.map (·.add (lo*s))) (hi-lo) (mx-lo)):=by
 have hc:=It h h1 (Nat.le_trans h2 h3);simp only [R] at h hc ⊢;obtain ⟨A',c',e,g1,g2,g3⟩:=h;simp only [Value.slice.injEq] at e;obtain ⟨rfl,_,rfl⟩:=e;obtain ⟨A2,c2,e,f1,f2,f3⟩:=hc;simp only [Value.slice.injEq] at e;obtain ⟨rfl,e1,rfl⟩:=e;refine ⟨_,_,by rw [e1],by omega,by omega,fun Hk=>?_⟩
 obtain ⟨b,off,vs,q1,q2,q3⟩:=f3 Hk;have Qg:lo<hi:=by
  rcases Nat.lt_or_ge lo hi with h4|h4
  ·exact h4
  ·exact absurd (List.eq_nil_of_length_eq_zero (by omega)) Hk
 rw [if_neg (by omega)] at q1
 exact ⟨b,off,vs,by rw [if_neg (by omega)];exact q1,q2,q3⟩
theorem Lm (l:List UInt8) (lo hi:Nat) (h:hi≤l.length):(⟨l.toArray⟩:ByteArray).extract lo hi=⟨((l.take hi).drop lo).toArray⟩:=by
 apply ByteArray.ext;simp [ByteArray.data_extract,List.extract_toArray];rw [List.drop_take]
theorem Vt {k:IntKind} {i y:Nat} {code:BoundsCode} (h:i≤y):(Instr.sliceBound (.int k (i:Int)) y code).run P w=.ok i w:=by
 simp [Instr.sliceBound,asIntOf,h]
theorem Wv {t e:Nat} (hd:P.underlying t=some (.slice e)) {sz:Nat} (K5:∀ w,(sizeOf e).run P w=.ok sz w) {A:Option Addr} {n c:Nat} {lo hi:Option Value} {l h:Nat}
  (hl:(lo=none∧l=0)∨∃ k,lo=some (.int k (l:Int))) (hh:(hi=none∧h=n)∨∃ k,hi=some (.int k (h:Int))) (h1:l≤h) (h2:h≤n) (hc:n≤c) :
  (Instr.sliceAt t (.slice A n c) lo hi none).run P w=.ok (.slice (if c=l then A else A.map (·.add (l*sz))) (h-l) (c-l)) w:=by
 have hb:(Instr.sliceBounds true n c lo hi none).run P w=.ok (l,h,c) w:=by
  rcases hl with ⟨rfl,rfl⟩|⟨k,rfl⟩<;>rcases hh with ⟨rfl,rfl⟩|⟨k',rfl⟩
  ·simp [Instr.sliceBounds]
  ·simp [Instr.sliceBounds,Vt (show h≤c by omega)]
  ·simp [Instr.sliceBounds,Vt h1]
  ·simp [Instr.sliceBounds,Vt (show h≤c by omega),Vt h1]
 simp [Instr.sliceAt,run_underlying hd,Instr.slice,hb,K5]
theorem Ac {t e:Nat} (hd:P.underlying t=some (.slice e)) {sz:Nat} (K5:∀ w,(sizeOf e).run P w=.ok sz w) {A:Option Addr} {n c:Nat} {k1 k2 k3:IntKind} {l h m:Nat}
  (h1:l≤h) (h2:h≤m) (hc:m≤c) :
  (Instr.sliceAt t (.slice A n c) (some (.int k1 (l:Int))) (some (.int k2 (h:Int))) (some (.int k3 (m:Int)))).run P w=.ok (.slice (if m=l then A else A.map (·.add (l*sz))) (h-l) (m-l)) w:=by
 have hb:(Instr.sliceBounds true n c (some (.int k1 (l:Int))) (some (.int k2 (h:Int))) (some (.int k3 (m:Int)))).run P w=.ok (l,h,m) w:=by
  simp [Instr.sliceBounds,Vt h1,Vt h2,Vt hc]
 simp [Instr.sliceAt,run_underlying hd,Instr.slice,hb,K5]
theorem Gx {t:Nat} (hd:P.underlying t=some .string) {s:ByteArray} {lo hi:Option Value} {l h:Nat}
  (hl:(lo=none∧l=0)∨∃ k,lo=some (.int k (l:Int))) (hh:(hi=none∧h=s.size)∨∃ k,hi=some (.int k (h:Int))) (h1:l≤h) (h2:h≤s.size) :
  (Instr.sliceAt t (.string s) lo hi none).run P w=.ok (.string (s.extract l h)) w:=by
 have hb:(Instr.sliceBounds false s.size s.size lo hi none).run P w=.ok (l,h,s.size) w:=by
  rcases hl with ⟨rfl,rfl⟩|⟨k,rfl⟩<;>rcases hh with ⟨rfl,rfl⟩|⟨k',rfl⟩
  ·simp [Instr.sliceBounds]
  ·simp [Instr.sliceBounds,Vt h2]
  ·simp [Instr.sliceBounds,Vt h1]
  ·simp [Instr.sliceBounds,Vt h2,Vt h1]
 simp [Instr.sliceAt,run_underlying hd,Instr.slice,hb]
def Y5 (F:Fix) (G:Gh) (L:Nat→Option Obj):Option AV→Option Value→Prop
 | some x,some v=>RA F G L x v
 | none,none=>True
 | _,_=>False
theorem U0 {i:Int} (h:0≤i):((i.toNat:Nat):Int)=i:=Int.toNat_of_nonneg h
theorem sQ (T:Xy P C.τ) (h:SRg base pass F0 m G st a w) {t:Nat} {x:AV} {v:Value} {lo hi mx:Option AV} {vl vh vm:Option Value} {c:Prop} {z:AV} {os:Z5} (hx:RA ⟨w,m⟩ G (lk st.objs) x v)
  (hl:Y5 ⟨w,m⟩ G (lk st.objs) lo vl) (hhi:Y5 ⟨w,m⟩ G (lk st.objs) hi vh) (Zh7:Y5 ⟨w,m⟩ G (lk st.objs) mx vm)
  (hh:An C t x lo hi mx st.objs=some (c,z,os)) (hc:c):Kv P base pass F0 a st.tmps (Instr.sliceAt t v vl vh vm) w z os:=by
 unfold An at hh;split at hh
 ·next hk =>
  obtain ⟨d,hd,X4⟩:=T.kind hk rfl;simp only [TK.is] at X4;subst X4;cases vm with
  | some _=>simp [Y5] at Zh7
  | none =>
   split at hh
   ·next y =>
    simp only [RA] at hx;split at hh
    ·next la lb =>
     simp only [Zc,Zf] at hh;obtain ⟨rfl,rfl,rfl⟩:=hh;obtain ⟨c1,c2,c3,c4,c5,c6⟩:=hc;cases vl with
     | none=>simp [Y5] at hl
     | some vl =>
      cases vh with
      | none=>simp [Y5] at hhi
      | some vh =>
       simp only [Y5,RA] at hl hhi;obtain ⟨k1,rfl⟩:=hl.of_anyInt c2;obtain ⟨k2,rfl⟩:=hhi.of_anyInt c3;have e:=hx.of_str c1;subst e;refine Qd h (Gx hd (l:=la.i.toNat) (h:=lb.i.toNat) (.inr ⟨k1,by rw [U0 c4]⟩) (.inr ⟨k2,by rw [U0 (by omega)]⟩) (by omega) (by simp [ByteArray.size];omega)) ?_
       rw [Lm _ _ _ (by omega)]
       simp only [RA];exact R.str
    ·next la =>
     simp only [Zc,Zf] at hh;obtain ⟨rfl,rfl,rfl⟩:=hh;obtain ⟨c1,c2,c4,c5⟩:=hc;cases vl with
     | none=>simp [Y5] at hl
     | some vl =>
      cases vh with
      | some _=>simp [Y5] at hhi
      | none =>
       simp only [Y5,RA] at hl;obtain ⟨k1,rfl⟩:=hl.of_anyInt c2;have e:=hx.of_str c1;subst e;refine Qd h (Gx hd (l:=la.i.toNat) (h:=y.s.length) (.inr ⟨k1,by rw [U0 c4]⟩) (.inl ⟨rfl,by simp [ByteArray.size]⟩) (by omega) (by simp [ByteArray.size])) ?_
       rw [Lm _ _ _ (Zl _),List.take_length];simp only [RA];exact R.str
    ·next lb =>
     simp only [Zc,Zf] at hh;obtain ⟨rfl,rfl,rfl⟩:=hh;obtain ⟨c1,c3,c4,c5⟩:=hc;cases vl with
     | some _=>simp [Y5] at hl
     | none =>
      cases vh with
      | none=>simp [Y5] at hhi
      | some vh =>
       simp only [Y5,RA] at hhi;obtain ⟨k2,rfl⟩:=hhi.of_anyInt c3;have e:=hx.of_str c1;subst e;refine Qd h (Gx hd (l:=0) (h:=lb.i.toNat) (.inl ⟨rfl,rfl⟩) (.inr ⟨k2,by rw [U0 c4]⟩) (by omega) (by simp [ByteArray.size];omega)) ?_
       rw [Lm _ _ _ (by omega),List.drop_zero]
       simp only [RA];exact R.str
    ·cases hh
   ·cases hh
 ·next e hk =>
  obtain ⟨d,hd,X4⟩:=T.kind hk rfl;simp only [TK.is] at X4;obtain ⟨rfl,he⟩:=X4;have K5:=Uo (T e he);cases vm with
  | some _=>simp [Y5] at Zh7
  | none =>
   split at hh
   ·next c0 y o1 hp =>
    have main:c0→y.isList (C.size e)→∃ m1 A cap,SRg base pass F0 m1 G ⟨st.tmps,o1⟩ a w∧v=.slice A y.l.length cap∧y.l.length≤cap∧R ⟨w,m1⟩ (.list (C.size e) y.l) (.slice A y.l.length cap):=by
     intro Zye hy;obtain ⟨m1,k1,k2,k3,k4⟩:=Np h hp Zye hx;have k5:=k4.of_list hy;obtain ⟨A,cap,rfl,g1,g2,_⟩:=fD k5;exact ⟨m1,A,cap,k1,rfl,g1,k5⟩
    split at hh
    ·next la lb =>
     simp only [Zc,Zf] at hh;obtain ⟨rfl,rfl,rfl⟩:=hh;obtain ⟨c0,c1,c2,c3,c4,c5,c6⟩:=hc;obtain ⟨m1,A,cap,k1,rfl,g1,g2⟩:=main c0 c1;cases vl with
     | none=>simp [Y5] at hl
     | some vl =>
      cases vh with
      | none=>simp [Y5] at hhi
      | some vh =>
       simp only [Y5,RA] at hl hhi;obtain ⟨q1,rfl⟩:=hl.of_anyInt c2;obtain ⟨q2,rfl⟩:=hhi.of_anyInt c3;have hr:=Wv (w:=w) (A:=A) (c:=cap) hd K5 (lo:=some (.int q1 la.i)) (hi:=some (.int q2 lb.i)) (n:=y.l.length) (l:=la.i.toNat) (h:=lb.i.toNat) (.inr ⟨q1,by rw [U0 c4]⟩) (.inr ⟨q2,by rw [U0 (by omega)]⟩) (by omega) (by omega) g1
       exact ⟨_,w,m1,G,hr,k1,by simp only [RA];exact It g2 (by omega) (by omega)⟩
    ·next la =>
     simp only [Zc,Zf] at hh;obtain ⟨rfl,rfl,rfl⟩:=hh;obtain ⟨c0,c1,c2,c4,c5⟩:=hc;obtain ⟨m1,A,cap,k1,rfl,g1,g2⟩:=main c0 c1;cases vl with
     | none=>simp [Y5] at hl
     | some vl =>
      cases vh with
      | some _=>simp [Y5] at hhi
      | none =>
       simp only [Y5,RA] at hl;obtain ⟨q1,rfl⟩:=hl.of_anyInt c2;have hr:=Wv (w:=w) (A:=A) (c:=cap) hd K5 (lo:=some (.int q1 la.i)) (hi:=none) (n:=y.l.length) (l:=la.i.toNat) (h:=y.l.length) (.inr ⟨q1,by rw [U0 c4]⟩) (.inl ⟨rfl,rfl⟩) (by omega) (Zl _) g1
       have zC:=It (lo:=la.i.toNat) (hi:=y.l.length) g2 (by omega) (Zl _)
       rw [List.take_length] at zC;exact ⟨_,w,m1,G,hr,k1,by simp only [RA];exact zC⟩
    ·next lb =>
     simp only [Zc,Zf] at hh;obtain ⟨rfl,rfl,rfl⟩:=hh;obtain ⟨c0,c1,c3,c4,c5⟩:=hc;obtain ⟨m1,A,cap,k1,rfl,g1,g2⟩:=main c0 c1;cases vl with
     | some _=>simp [Y5] at hl
     | none =>
      cases vh with
      | none=>simp [Y5] at hhi
      | some vh =>
       simp only [Y5,RA] at hhi;obtain ⟨q2,rfl⟩:=hhi.of_anyInt c3;have hr:=Wv (w:=w) (A:=A) (c:=cap) hd K5 (lo:=none) (hi:=some (.int q2 lb.i)) (n:=y.l.length) (l:=0) (h:=lb.i.toNat) (.inl ⟨rfl,rfl⟩) (.inr ⟨q2,by rw [U0 c4]⟩) (by omega) (by omega) g1
       have zC:=It (lo:=0) (hi:=lb.i.toNat) g2 (by omega) (by omega)
       rw [List.drop_zero] at zC;exact ⟨_,w,m1,G,hr,k1,by simp only [RA];exact zC⟩
    ·cases hh
   ·cases hh
 ·next e mz hk =>
  obtain ⟨d,hd,X4⟩:=T.kind hk rfl;simp only [TK.is] at X4;obtain ⟨rfl,he⟩:=X4;have K5:=Uo (T e he);cases vm with
  | none=>simp [Y5] at Zh7
  | some vm =>
   split at hh
   ·next c0 y o1 hp =>
    split at hh
    ·next la lb =>
     simp only [Zc,Zf] at hh;obtain ⟨rfl,rfl,rfl⟩:=hh;obtain ⟨c0,c1,c2,c3,c3m,c4,c5,c6,c7⟩:=hc;obtain ⟨m1,k1,k2,k3,k4⟩:=Np h hp c0 hx;have k5:=k4.of_list c1;obtain ⟨A,cap,rfl,g1,g2,_⟩:=fD k5;cases vl with
     | none=>simp [Y5] at hl
     | some vl =>
      cases vh with
      | none=>simp [Y5] at hhi
      | some vh =>
       simp only [Y5,RA] at hl hhi Zh7;obtain ⟨q1,rfl⟩:=hl.of_anyInt c2;obtain ⟨q2,rfl⟩:=hhi.of_anyInt c3;obtain ⟨q3,rfl⟩:=Zh7.of_anyInt c3m;have hr:=Ac (w:=w) (A:=A) (n:=y.l.length) (c:=cap) (k1:=q1) (k2:=q2) (k3:=q3) hd K5 (l:=la.i.toNat) (h:=lb.i.toNat) (m:=mz.i.toNat) (by omega) (by omega) (by omega)
       rw [U0 c4,U0 (by omega),U0 (by omega)] at hr
       exact ⟨_,w,m1,G,hr,k1,by simp only [RA];exact Zc2 k5 (by omega) (by omega) (by omega)⟩
    ·cases hh
   ·cases hh
 ·cases hh
end
theorem jW (off:Nat):∀ (cs:List Value) (k:Nat) (acc:Array Value),off+k+cs.length≤acc.size →
  ((cs.zipIdx k).foldl (fun (a:Array Value) (p:Value×Nat)=>a.setIfInBounds (off+p.2) p.1) acc).toList=acc.toList.take (off+k)++cs++acc.toList.drop (off+k+cs.length)
 | [],k,acc,_=>by simp
 | c::cs,k,acc,h=>by
  simp only [Zd] at h;simp only [List.zipIdx_cons,List.foldl_cons];rw [jW off cs (k+1) _ (by simp;omega)]
  have e:=list_seg_step acc.toList (off+k) c cs (by simp;omega)
  simp only [Array.toList_setIfInBounds,←Nat.add_assoc,Zd];rw [←Nat.add_assoc] at e;exact e
theorem Zdh (off:Nat) (v:Value) (cells:Array Value) (h:off+v.cells.size≤cells.size) :
  (v.cells.zipIdx.foldl (fun cs (p:Value×Nat)=>cs.setIfInBounds (off+p.2) p.1) cells).toList=cells.toList.take off++v.cells.toList++cells.toList.drop (off+v.cells.size):=by
 have:=jW off v.cells.toList 0 cells (by simpa using h)
 rw [←Array.foldl_toList,Array.toList_zipIdx];simpa using this
theorem iY (z:Array Value) (n:Nat) (hz:0<z.size):(madeCells z ((n+1)*z.size)).toList=z.toList++(madeCells z (n*z.size)).toList:=by
 apply List.ext_getElem?;intro j;have e:(n+1)*z.size=z.size+n*z.size:=by rw [Nat.add_mul];omega
 rw [List.getElem?_append];simp only [Array.length_toList,Array.getElem?_toList,madeCells,Array.getElem?_map,Array.getElem?_range];by_cases h1:j<z.size
 ·rw [if_pos h1,if_pos (by omega)]
  simp [Nat.mod_eq_of_lt h1,h1]
 ·rw [if_neg h1];by_cases h2:j<(n+1)*z.size
  ·rw [if_pos h2,if_pos (by omega)]
   simp only [Option.map_some];rw [Nat.mod_eq_sub_mod (by omega)]
  ·rw [if_neg h2,if_neg (by omega)]
theorem qS {F:Fix} {d:D} {z:Value} (h:R F d z) (h1:∀ u∈z.cells.toList,u.oneCell'=true) (hz:0<z.cells.size):∀ n,RE F z.cells.size (List.replicate n d) (madeCells z.cells (n*z.cells.size)).toList
 | 0=>by simp [RE,madeCells]
 | n+1=>by
  rw [List.replicate_succ,iY _ _ hz];simp only [RE];exact ⟨z,_,rfl,rfl,h1,h,qS h h1 hz n⟩
theorem Ev (d:D):∀ n,Pk d n=List.replicate n d
 | 0=>rfl
 | n+1=>by rw [Pk,List.replicate_succ,Ev d n]
inductive Parts (F:Fix) (s n:Nat):List (Nat×D)→List (Nat×Value)→Prop
 | nil:Parts F s n [] []
 | cons {i:Nat} {d:D} {v:Value} {ds:List (Nat×D)} {vs:List (Nat×Value)}:i<n→R F d v→v.cells.size=s→(∀ u∈v.cells.toList,u.oneCell'=true)→Parts F s n ds vs→Parts F s n ((i,d)::ds) ((i,v)::vs)
theorem jA {F:Fix} {s n:Nat}:∀ {ds:List (Nat×D)} {vs:List (Nat×Value)},Parts F s n ds vs→∀ {els:List D} {cells:Array Value},els.length=n→RE F s els cells.toList →
  ∃ cells',Instr.fill (fun i=>some (i*s,s)) cells vs=some cells'∧RE F s (Lh els ds) cells'.toList
 | _,_,.nil,els,cells,_,h=>⟨cells,rfl,h⟩
 | _,_,.cons (i:=i) (d:=d) (v:=v) (ds:=ds) (vs:=vs) hi hr hs h1 hp,els,cells,hn,h=>by
  have hl:cells.size=n*s:=by
   have:=h.length;rw [hn] at this;simpa using this
  have Qja:(i+1)*s≤n*s:=Nat.mul_le_mul_right _ (by omega)
  have Qes:(i+1)*s=i*s+s:=by rw [Nat.add_mul,Nat.one_mul]
  have Sx:i*s+v.cells.size≤cells.size:=by omega
  have Qd3:=RE.set (k:=i) h (by omega) hr hs h1
  obtain ⟨cells',e,g⟩:=jA hp (els:=els.set i d) (cells:=v.cells.zipIdx.foldl (fun cs (p:Value×Nat)=>cs.setIfInBounds (i*s+p.2) p.1) cells) (by simpa using hn) (by
   rw [Zdh _ _ _ Sx,hs,←Qes];exact Qd3)
  refine ⟨cells',?_,g⟩;simp only [Instr.fill];rw [if_neg (by simp [hs];omega)]
  exact e
section
variable {P:Program} {C:Ctx} {G:Gh}
variable {base:Nat} {pass:Nat→Prop} {F0:Anc} {m:Nat→Nat} {st:AS} {a:Act} {w:World}
theorem aT (h:SRg base pass F0 m G st a w) {k:Nat} (hk:lk st.objs k=none) {s e cap:Nat} {els:List D} {cs:Array Value} (A3:cs.size=cap*s) (Zyc:els.length≤cap) (hm:cap≤maxLen)
  (Zkj:RE ⟨w,m⟩ s els (cs.toList.take (els.length*s))) :
  ∃ G',Yo G (lk st.objs) G' (lk (upd st.objs k (.row s els 0)))∧Fix.le ⟨w,m⟩ ⟨w.alloc (.cells cs e),m⟩∧SRg base pass F0 m G' ⟨st.tmps,upd st.objs k (.row s els 0)⟩ a (w.alloc (.cells cs e)) ∧
   RA ⟨w.alloc (.cells cs e),m⟩ G' (lk (upd st.objs k (.row s els 0))) (.sl k els.length) (.slice (some ⟨w.heap.size,0,none⟩) els.length cap):=by
 obtain ⟨q1,q2,q3⟩:=h.fresh hk (.row s els 0) (.cells cs e) (.slice (some ⟨w.heap.size,0,none⟩) els.length cap) (fun hg hF=>by
  simp only [Qf];exact .inr ⟨w.heap.size,cap,cs,e,by simp,by simp,Zyc,hm,heap_alloc_new w _,A3,RE.mono hF Zkj,by rw [Nat.zero_mul];exact h.new _ (Zl _),Nat.zero_le _⟩)
 refine ⟨_,q1,q2,q3,?_⟩;simp only [RA,J2,if_true];exact ⟨rfl,Zl _,fun _=>trivial⟩
theorem Dw {s n:Nat}:∀ {l:List (Nat×AV)} {vs:List (Nat×Value)} {c:Prop} {ps:List (Nat×D)} {os:Z5} {st:AS} {m:Nat→Nat},SRg base pass F0 m G st a w→U9 C l st.objs=some (c,ps,os)→c →
  eX n l=true→Lx s (ps.map (·.2))→l.length=vs.length→(∀ (j i:Nat) (x:AV),l[j]?=some (i,x)→∃ v,vs[j]?=some (i,v)∧RA ⟨w,m⟩ G (lk st.objs) x v) →
  ∃ m',SRg base pass F0 m' G ⟨st.tmps,os⟩ a w∧Fix.le ⟨w,m⟩ ⟨w,m'⟩∧Yo G (lk st.objs) G (lk os)∧Parts ⟨w,m'⟩ s n ps vs
 | [],vs,c,ps,os,st,m,h,hp,_,_,_,hl,_=>by
  simp only [U9,Zc,Zf] at hp;obtain ⟨rfl,rfl,rfl⟩:=hp;have:vs=[]:=List.eq_nil_of_length_eq_zero (by simpa using hl.symm)
  subst this;exact ⟨m,h,Fix.le_refl _,Yo.refl _ _,.nil⟩
 | (i,x)::l,vs,c,ps,os,st,m,h,hp,hc,Qg,hf,hl,hv=>by
  simp only [U9] at hp;split at hp
  ·next c1 y o1 vO =>
   split at hp
   ·next c2 ps2 o2 vC =>
    simp only [Zc,Zf] at hp;obtain ⟨rfl,rfl,rfl⟩:=hp;simp only [eX,Zg,decide_eq_true_eq] at Qg;simp only [List.map_cons,Lx] at hf;cases vs with
    | nil=>simp at hl
    | cons p vs =>
     obtain ⟨v,e1,g2⟩:=hv 0 i x rfl;simp only [List.getElem?_cons_zero,Zc] at e1;subst e1;obtain ⟨m1,k1,k2,k3,k4⟩:=Np h vO hc.1 g2;obtain ⟨m2,j1,j2,j3,j4⟩:=Dw (vs:=vs) (st:=⟨st.tmps,o1⟩) k1 vC hc.2 Qg.2 hf.2 (by simpa using hl) (fun j i x hj=>by
      obtain ⟨v',e,g⟩:=hv (j+1) i x (by simpa using hj)
      exact ⟨v',by simpa using e,RA.mono k2 k3 g⟩)
     obtain ⟨f1,f2⟩:=R.cellsD k4 hf.1;exact ⟨m2,j1,Fix.le_trans k2 j2,Yo.trans k3 j3,.cons Qg.1 (k4.mono j2) f1 f2 j4⟩
   ·cases hp
  ·cases hp
theorem Rl:∀ (ps:List (Nat×D)) (l:List D),(Lh l ps).length=l.length
 | [],l=>rfl
 | (i,x)::r,l=>by rw [Lh,Rl r];simp
theorem cQ (T : Xy P C.τ) (h : SRg base pass F0 m G st a w) {t n k : Nat} {l : List (Nat × AV)} {vs : List (Nat × Value)} {c : Prop} {z : AV} {os : Z5} (hl : l.length = vs.length)
    (hv : ∀ (j i : Nat) (x : AV), l[j]? = some (i, x) → ∃ v, vs[j]? = some (i, v) ∧ RA ⟨w, m⟩ G (lk st.objs) x v)
    (hh : Ki C t n l k st.objs = some (c, z, os)) (hc : c) : Kv P base pass F0 a st.tmps (Instr.buildSlice t n vs.toArray) w z os := by
  unfold Ki at hh
  split at hh
  · next e hk =>
    obtain ⟨d, hd, X4⟩ := T.kind hk rfl
    simp only [TK.is] at X4
    obtain ⟨rfl, he⟩ := X4
    have te := T e he
    obtain ⟨i, zv, h1, h2, h3, h4, _, h5, h6, h7⟩ := te.info
    split at hh
    · next c1 ps o1 hp =>
      split at hh
      · next V7 =>
        split at hh
        · next hs =>
          simp only [Zc, Zf] at hh
          obtain ⟨rfl, rfl, rfl⟩ := hh
          obtain ⟨m1, k1, k2, k3, k4⟩ := Dw h hp hc.1 hs.2 hc.2 hl hv
          have K5 : C.size e = zv.cells.size := h6.symm
          have hz : 0 < zv.cells.size := by rw [h6]; exact te.pos
          have Zbr := qS (h5 ⟨w, m1⟩) h7 hz n
          rw [← Ev] at Zbr
          rw [K5] at k4
          obtain ⟨cells, Qcz, Qex⟩ := jA k4 (by rw [Ev]; simp) Zbr
          have Z8 : (Lh (Pk (C.τ e).zd n) ps).length = n := by rw [Rl, Ev]; simp
          have Qb0 : cells.size = n * zv.cells.size := by
            have := Qex.length
            rw [Z8] at this
            simpa using this
          have H7 : n * zv.cells.size ≤ 16777216 := by rw [← K5]; exact hs.1
          have Ut : n ≤ maxLen := by
            have : n * 1 ≤ n * zv.cells.size := Nat.mul_le_mul_left _ hz
            simp [maxLen]
            omega
          obtain ⟨G', q1, q2, q3, q4⟩ := aT k1 V7 (e := e) (cap := n) Qb0 (by rw [Z8]; exact Zl _) Ut (by rw [Z8, ← Qb0, List.take_of_length_le (by simp)]; exact Qex)
          rw [Z8] at q4
          rw [← K5] at q3 q4
          refine ⟨_, _, m1, G', ?_, q3, q4⟩
          have hi : i.size = zv.cells.size := by rw [h2, h6]
          have Qdo : (Instr.buildSlice t n vs.toArray).run P w = (match Instr.fill (fun i => some (i * zv.cells.size, zv.cells.size)) (madeCells zv.cells (n * zv.cells.size)) vs with
              | some cells => (do pure (.slice (some (← newRow e cells)) n n) : Sem Value)
              | none => stuck "buildSlice: a part of the wrong size").run P w := by
            have Qg : ¬ (16777216 < n * zv.cells.size) := by omega
            by_cases h0 : n * zv.cells.size = 0
            · have vP : n = 0 := by
                rcases Nat.mul_eq_zero.1 h0 with h | h
                · exact h
                · omega
              subst vP
              have e0 : Array.range 0 = #[] := rfl
              simp [Instr.buildSlice, run_underlying hd, sizeOf, typeInfo, h1, hi, madeCells, e0]
              cases Instr.fill (fun i => some (i * zv.cells.size, zv.cells.size)) #[] vs <;> rfl
            · simp [Instr.buildSlice, run_underlying hd, sizeOf, typeInfo, zeroValue, h1, h4, hi, Qg, h0, madeCells]
              cases Instr.fill (fun i => some (i * zv.cells.size, zv.cells.size)) ((Array.range (n * zv.cells.size)).map fun x => zv.cells[x % zv.cells.size]!) vs <;> rfl
          rw [Qdo, Qcz]
          simp [newRow]
        · cases hh
      · cases hh
    · cases hh
  · cases hh
theorem eL (T:Xy P C.τ) (h:SRg base pass F0 m G st a w) {t k:Nat} {x y:AV} {vx vy:Value} {c:Prop} {z:AV} {os:Z5} (hx:RA ⟨w,m⟩ G (lk st.objs) x vx) (hy:RA ⟨w,m⟩ G (lk st.objs) y vy)
  (hh:G5 C t x y k st.objs=some (c,z,os)) (hc:c):Kv P base pass F0 a st.tmps (Instr.makeSlice t vx vy) w z os:=by
 unfold G5 at hh;split at hh
 ·next e la lb hk =>
  obtain ⟨d,hd,X4⟩:=T.kind hk rfl;simp only [TK.is] at X4;obtain ⟨rfl,he⟩:=X4;have te:=T e he;obtain ⟨i,zv,h1,h2,h3,h4,_,h5,h6,h7⟩:=te.info;split at hh
  ·next V7 =>
   simp only [Zc,Zf] at hh;obtain ⟨rfl,rfl,rfl⟩:=hh;obtain ⟨c1,c2,c3,c4,c5,c6⟩:=hc;simp only [RA] at hx hy;obtain ⟨k1,rfl⟩:=hx.of_anyInt c1;obtain ⟨k2,rfl⟩:=hy.of_anyInt c2;have hr:=run_make (P:=P) w t e i zv hd h1 h4 k1 k2 la.i lb.i c3 (by omega) (by rw [h3];exact c5) (by omega)
   have hi:i.size=zv.cells.size:=by rw [h2,h6]
   rw [hi,←c4] at hr;have hz:0<zv.cells.size:=by rw [h6];exact te.pos
   have Zbr:=qS (h5 ⟨w,m⟩) h7 hz la.i.toNat;have K5:C.size e=zv.cells.size:=h6.symm;obtain ⟨G',q1,q2,q3,q4⟩:=aT h V7 (s:=zv.cells.size) (e:=e) (cap:=la.i.toNat) (els:=List.replicate la.i.toNat (C.τ e).zd) (cs:=madeCells zv.cells (la.i.toNat*zv.cells.size)) (size_madeCells _ _) (by simp) (by simp [maxLen];omega) (by
    rw [List.take_of_length_le (by simp [size_madeCells])]
    exact Zbr)
   rw [←K5] at q3 q4;rw [←K5] at hr;simp only [List.length_replicate] at q4;exact ⟨_,_,m,G',by rw [←c4];exact hr,q3,q4⟩
  ·cases hh
 ·cases hh
theorem S4 (h:SRg base pass F0 m G st a w) {s:Nat} {x:AV} {v:Value} {c:Prop} {xs:List D} (hx:RA ⟨w,m⟩ G (lk st.objs) x v) (hh:U3 s x st.objs=some (c,xs)) (hc:c) :
  ∃ B cap,v=.slice B xs.length cap∧(xs=[]∨∃ b off vs,B=some ⟨b,off,none⟩∧RE ⟨w,m⟩ s xs vs∧∀ j u,vs[j]?=some u→w.cell? ⟨b,off+j,none⟩=some u):=by
 unfold U3 at hh;split at hh
 ·next y =>
  simp only [Zc,Zf] at hh;obtain ⟨rfl,rfl⟩:=hh;simp only [RA] at hx;have h2:=hx.of_list hc;simp only [R] at h2;obtain ⟨A,cap,rfl,_,_,g⟩:=h2;refine ⟨A,cap,rfl,?_⟩;by_cases hl:y.l=[]
  ·exact .inl hl
  ·obtain ⟨b,off,vs,rfl,q1,q2⟩:=g hl;exact .inr ⟨b,off,vs,rfl,q1,q2.2⟩
 ·next k =>
  simp only [Zc,Zf] at hh;obtain ⟨rfl,rfl⟩:=hh;simp only [RA] at hx;exact ⟨none,0,hx,.inl rfl⟩
 ·next i n =>
  split at hh
  ·next s' els k hi =>
   split at hh
   ·next hs =>
    simp only [Zc,Zf] at hh;obtain ⟨rfl,rfl⟩:=hh;simp only [RA,hi] at hx;have hv:=hx.2.2 hc;have X5:=h.objs i _ hi;simp only [Qf] at X5;rcases X5 with ⟨_,h2,rfl,_⟩|⟨b,cap,cs,ty,h1,h2,h3,h4,h5,h6,h7,h8,h9⟩
    ·exact ⟨none,0,by rw [hv,h2];rfl,.inl rfl⟩
    ·subst hs;refine ⟨_,cap,by rw [hv,h2],.inr ⟨b,0,_,rfl,h7,fun j u hu=>?_⟩⟩
     rw [Nat.zero_add,Um h5];rw [List.getElem?_take] at hu;split at hu
     ·simpa using hu
     ·cases hu
   ·cases hh
  ·cases hh
 ·cases hh
theorem RE.one_all {F:Fix} {s:Nat}:∀ {l:List D} {vs:List Value},RE F s l vs→∀ u∈vs,u.oneCell'=true
 | [],_,h,u,hu=>by simp only [RE] at h;subst h;cases hu
 | x::l,vs,h,u,hu=>by
  simp only [RE] at h;obtain ⟨v,r,rfl,_,h3,_,h5⟩:=h;rcases List.mem_append.1 hu with hu|hu
  ·exact h3 u hu
  ·exact RE.one_all h5 u hu
theorem Ui (z:Array Value) (n:Nat):(Builtin.zeroCells z n).size=n*z.size:=by simp [Builtin.zeroCells]
theorem Bp {P:Program} {w:World} (t tx ty e tb:TypeId) (i:TypeInfo) (ht:P.underlying t=some (.slice e)) (hi:P.info? e=some i)
  (g sLen sCap:Nat) (cur:Array Value) (hg:w.heap[g]?=some (.cells cur tb (0,0))) {x:Value} {n:Nat} {news:List Value} (hs:Src P i.size tx x n news w)
  (eW:sLen+n≤sCap) (Sx:sLen*i.size+news.length≤cur.size) :
  (Builtin.append_ #[t,tx] ty #[.slice (some ⟨g,0,none⟩) sLen sCap,x]).run P w =
   .ok (.slice (some ⟨g,0,none⟩) (sLen+n) sCap) (w.setRow g (cur.toList.take (sLen*i.size)++news++cur.toList.drop (sLen*i.size+news.length)).toArray):=by
 have Us:=run_storeCells_at P g (sLen*i.size) tb news 0 cur w hg (by simpa using Sx) hs.one
 simp only [Nat.add_zero] at Us;rcases hs.kind with ⟨e',hk⟩|hk<;>simp [Builtin.append_,run_underlying ht,run_underlying hk,sizeOf,typeInfo,hi,hs.len,eW,hs.cells,Addr.add_lit,Us]
theorem Hn {P:Program} {w:World} (t tx ty e:TypeId) (i:TypeInfo) (ht:P.underlying t=some (.slice e)) (hi:P.info? e=some i)
  (A:Option Addr) (n cap:Nat) {x:Value} (hs:Src P i.size tx x 0 [] w) (hn:n≤cap) :
  (Builtin.append_ #[t,tx] ty #[.slice A n cap,x]).run P w=.ok (.slice A n cap) w:=by
 cases A with
 | none=>rcases hs.kind with ⟨e',hk⟩|hk<;>simp [Builtin.append_,run_underlying ht,run_underlying hk,sizeOf,typeInfo,hi,hs.len,hn,hs.cells]
 | some A=>rcases hs.kind with ⟨e',hk⟩|hk<;>simp [Builtin.append_,run_underlying ht,run_underlying hk,sizeOf,typeInfo,hi,hs.len,hn,hs.cells,storeCells]
theorem qM (T:Xy P C.τ) (h:SRg base pass F0 m G st a w) {t tx k e:Nat} (hd:P.underlying t=some (.slice e)) (he:(C.τ e).kind.ag.isSome=true) (V7:lk st.objs k=none) {xs:List D} {us:List Value} {vx:Value}
  (hs:Src P (C.size e) tx vx xs.length us w) (g1:RE ⟨w,m⟩ (C.size e) xs us) (oH:xs.length*(C.τ e).bytes≤140737488355328) (Zyq:xs.length≤4611686018427387904) (ty:TypeId) :
  Kv P base pass F0 a st.tmps (Builtin.append_ #[t,tx] ty #[.slice none 0 0,vx]) w (.sl k xs.length) (upd st.objs k (.row (C.size e) xs 0)):=by
 have te:=T e he;obtain ⟨ii,zv,i1,i2,i3,i4,_,i5,i6,i7⟩:=te.info;have K5:C.size e=ii.size:=i2.symm;by_cases Aw:xs=[]
 ·subst Aw;simp only [RE] at g1;subst g1;rw [K5] at hs;have hr:=Hn (w:=w) t tx ty e ii hd i1 none 0 0 hs (Zl _);obtain ⟨q1,q2⟩:=h.obj k (.row (C.size e) [] 0) (w':=w) (m':=m) (G':=⟨fun j=>if j=k then none else G.γ j,fun j=>if j=k then .slice none 0 0 else G.hd j⟩) (Fix.le_refl _)
   (fun j hj=>by simp [hj]) (fun o ho=>by rw [V7] at ho;cases ho) (fun _=>by simp only [Qf];exact .inl (by simp))
   (fun _ _ _ _ _ _ _=>⟨rfl,rfl⟩) (fun _ b hb=>by simp at hb) (Frame.refl _ _ _) (fun _ _ _=>rfl) h.new
  refine ⟨_,w,m,_,hr,q2,?_⟩;simp only [RA,J2,if_true];exact ⟨rfl,Zl _,fun _=>trivial⟩
 ·have Rc:0<xs.length:=List.length_pos_iff.2 Aw;rw [K5] at g1 hs;have Zkh:=g1.length;have rW:xs.length*ii.bytes≤140737488355328:=by rw [i3];exact oH
  have hr:=run_append_grow_src (P:=P) w t tx ty e ii zv hd i1 i4 none 0 0 [] (run_firstCells_none w.drew ii.size 0 0 0) vx xs.length us hs (by omega) (by omega) (growslice_fits (by omega) (by simpa using rW))
  simp only [Nat.zero_add,List.nil_append] at hr;have aE:=grownCap_le_maxLen w xs.length 0 e (by simp [maxLen];omega)
  have Cq:=grownCap_ge w xs.length 0 e;obtain ⟨G',q1,q2,q3,q4⟩:=aT h.drew V7 (s:=ii.size) (e:=e) (cap:=grownCap w xs.length 0 e) (els:=xs) (cs:=us.toArray++Builtin.zeroCells zv.cells (grownCap w xs.length 0 e-xs.length))
   (by simp [Ui,Zkh,i6,←i2,←Nat.add_mul];congr 1;omega) Cq aE (by
    rw [←Zkh];simp only [Array.toList_append,List.take_left'];simpa using (RE.mono (F:=⟨w,m⟩) (F':=⟨w.drew,m⟩) ⟨fun _=>⟨Zl _,fun _ _=>rfl⟩,fun _ _ _ _ hq=>hq⟩ g1))
  rw [K5];exact ⟨_,_,m,G',hr,q3,q4⟩
theorem qL (T:Xy P C.τ) (h:SRg base pass F0 m G st a w) {t tx i e:Nat} (hd:P.underlying t=some (.slice e)) (he:(C.τ e).kind.ag.isSome=true) {els:List D} {kk:Nat} (hi:lk st.objs i=some (.row (C.size e) els kk)) {xs:List D} {us:List Value} {vs vx:Value}
  (hv:vs=G.hd i) (hs:Src P (C.size e) tx vx xs.length us w) (g1:RE ⟨w,m⟩ (C.size e) xs us) (Zyq:(els.length+xs.length)*(C.τ e).bytes≤140737488355328) (Qez:els.length+xs.length≤4611686018427387904) (ty:TypeId) :
  Kv P base pass F0 a st.tmps (Builtin.append_ #[t,tx] ty #[vs,vx]) w (.sl i (els++xs).length) (upd st.objs i (.row (C.size e) (els++xs) kk)):=by
 have te:=T e he;obtain ⟨ii,zv,i1,i2,i3,i4,_,i5,i6,i7⟩:=te.info;have K5:C.size e=ii.size:=i2.symm;have X5:=h.objs i _ hi;simp only [Qf] at X5;by_cases Aw:xs=[]
 ·
  subst Aw;simp only [RE] at g1;subst g1;rw [K5] at hs;have hu:∀ j,lk (upd st.objs i (.row (C.size e) (els++[]) kk)) j=lk st.objs j:=fun j=>by
   rw [J2];split
   ·next e=>subst e;rw [hi,List.append_nil]
   ·rfl
  have hL:lk (upd st.objs i (.row (C.size e) (els++[]) kk))=lk st.objs:=funext hu;have M8:∃ A cap',vs=.slice A els.length cap'∧els.length≤cap':=by
   rcases X5 with ⟨_,h2,rfl,_⟩|⟨b,cap',cs,tb,h1,h2,h3,_⟩
   ·exact ⟨none,0,by rw [hv,h2];rfl,Zl _⟩
   ·exact ⟨_,cap',by rw [hv,h2],h3⟩
  obtain ⟨A,cap',vN,M8⟩:=M8;have hr:=Hn (w:=w) t tx ty e ii hd i1 A els.length cap' hs M8;rw [←vN] at hr;refine ⟨_,w,m,G,hr,⟨h.defers,by simp only [hL];exact h.tmps,by simp only [hL];exact h.objs,by simp only [hL];exact h.apart,by simp only [hL];exact h.mine,h.frame,h.old,h.new,h.small,by simp only [hL];exact h.lent⟩,?_⟩
  rw [hL];simp only [RA,hi,List.append_nil];exact ⟨by rw [vN];rfl,Zl _,fun _=>hv⟩
 ·have Rc:0<xs.length:=List.length_pos_iff.2 Aw;have g1':=g1;rw [K5] at g1' hs;have Zkh:=g1'.length;have rW:(els.length+xs.length)*ii.bytes≤140737488355328:=by rw [i3];exact Zyq
  have grow:∀ (cap':Nat) (cs':Array Value),cs'.size=cap'*ii.size→(els++xs).length≤cap'→cap'≤maxLen→RE ⟨w,m⟩ ii.size (els++xs) (cs'.toList.take ((els++xs).length*ii.size))→kk=0∨0<els.length →
    ∃ G' m',SRg base pass F0 m' G' ⟨st.tmps,upd st.objs i (.row ii.size (els++xs) kk)⟩ a (w.drew.alloc (.cells cs' e)) ∧
     RA ⟨w.drew.alloc (.cells cs' e),m'⟩ G' (lk (upd st.objs i (.row ii.size (els++xs) kk))) (.sl i (els++xs).length) (.slice (some ⟨w.heap.size,0,none⟩) (els++xs).length cap'):=by
   intro cap' cs' A3 hcap' hm' Zkj Yg;have Qcx:kk≤els.length:=by
    rcases X5 with ⟨_,_,rfl,rfl⟩|⟨_,_,_,_,_,_,_,_,_,_,_,_,h9⟩
    ·simp
    ·exact h9
   have Qiw:=Fix.le_alloc (w:=w.drew) (m:=m) h.new (.cells cs' e);have Qg1:Fix.le ⟨w,m⟩ ⟨w.drew.alloc (.cells cs' e),m⟩:=Qiw;have hF:Fix.le ⟨w,m⟩ ⟨w.drew.alloc (.cells cs' e),fun x=>if x=w.heap.size then kk*ii.size else m x⟩:=by
    refine ⟨fun x=>?_,Qg1.2⟩;by_cases hx:x=w.heap.size
    ·subst hx;have:=h.new w.heap.size (Zl _);exact ⟨by simp [this],fun off ho=>by simp only [this] at ho;omega⟩
    ·exact ⟨by simp [hx],(Qg1.1 x).2⟩
   obtain ⟨q1,q2⟩:=h.obj i (.row ii.size (els++xs) kk) (w':=w.drew.alloc (.cells cs' e)) (m':=fun x=>if x=w.heap.size then kk*ii.size else m x)
    (G':=⟨fun j=>if j=i then some w.heap.size else G.γ j,fun j=>if j=i then .slice (some ⟨w.heap.size,0,none⟩) (els++xs).length cap' else G.hd j⟩) hF
    (fun j hj=>by simp [hj]) (fun o ho=>by
     rw [hi] at ho;injection ho with ho
     subst ho;refine ⟨by simp [Obj.isBox],fun s2 els2 k2 Zx9=>?_⟩
     simp only [Obj.row.injEq] at Zx9;obtain ⟨rfl,rfl,rfl⟩:=Zx9;exact ⟨els,kk,by rw [K5],by simp,fun hl=>by rw [Zb] at hl;omega⟩)
    (fun hg=>by
     simp only [Qf];exact .inr ⟨w.heap.size,cap',cs',e,by simp,by simp,hcap',hm',heap_alloc_new w.drew _,A3,RE.mono hF Zkj,by simp,by simp;omega⟩)
    (fun j o hj hl ho b' hb'=>by
     have Qg:=(h.mine j o b' hl ho hb').1;exact ⟨Below.heap_alloc w.drew _ b' Qg,by simp;intro e;omega⟩)
    (fun _ b' hb'=>by
     simp only [if_true,Zc] at hb';subst hb';refine ⟨by simp,.inl h.small,fun j o hj hl ho Cr=>?_⟩
     have:=(h.mine j o _ hl ho Cr).1;omega)
    ⟨rfl,rfl,rfl,by simp,fun b' hb' _=>Below.heap_alloc w.drew _ b' (Nat.lt_of_lt_of_le hb' h.small)⟩
    (fun b' hb' _=>by have:=h.small;simp;intro e;omega)
    (fun b' hb'=>by
     simp at hb';have:b'≠w.heap.size:=by omega
     simp [this];exact h.new b' (by omega))
   refine ⟨_,_,q2,?_⟩;simp only [RA,J2,if_true];exact ⟨rfl,Zl _,fun _=>trivial⟩
  rcases X5 with ⟨h1,h2,rfl,rfl⟩|⟨bb,cap',cs,tb,h1,h2,h3,h4,h5,h6,h7,h8,h9⟩
  ·
   rw [h2] at hv;subst hv;have hr:=run_append_grow_src (P:=P) w t tx ty e ii zv hd i1 i4 none 0 0 [] (run_firstCells_none w.drew ii.size 0 0 0) vx xs.length us hs (by omega) (by simp at Qez;omega) (growslice_fits (by omega) (by simpa using rW))
   simp only [Nat.zero_add,List.nil_append] at hr;have aE:=grownCap_le_maxLen w xs.length 0 e (by simp [maxLen];omega)
   have Cq:=grownCap_ge w xs.length 0 e;obtain ⟨G',m',q1,q2⟩:=grow (grownCap w xs.length 0 e) (us.toArray++Builtin.zeroCells zv.cells (grownCap w xs.length 0 e-xs.length))
    (by simp [Ui,Zkh,i6,←i2,←Nat.add_mul];congr 1;omega) (by simpa using Cq) aE (by
     simp only [List.nil_append];rw [←Zkh];simpa using g1') (.inl rfl)
   rw [K5];simp only [List.nil_append] at q1 q2 ⊢;exact ⟨_,_,m',G',hr,q1,q2⟩
  ·rw [h2] at hv;subst hv;by_cases eW:els.length+xs.length≤cap'
   ·
    rw [K5] at h6 h7 h8;have Sx:els.length*ii.size+us.length≤cs.size:=by rw [Zkh,h6,←Nat.add_mul];exact Nat.mul_le_mul_right _ eW
    have hr:=Bp (w:=w) t tx ty e tb ii hd i1 bb els.length cap' cs h5 hs eW Sx;have U4:=h.mine i _ bb hi rfl h1;have Xs:kk*ii.size≤els.length*ii.size:=Nat.mul_le_mul_right _ h9;have hF:Fix.le ⟨w,m⟩ ⟨w.setRow bb (cs.toList.take (els.length*ii.size)++us++cs.toList.drop (els.length*ii.size+us.length)).toArray,m⟩:=Fix.le_setRow h5 (fun o ho=>by
     rw [show m bb=kk*ii.size from h8] at ho;rw [←Array.getElem?_toList];simp only [List.append_assoc];rw [List.getElem?_append_left (by simp;omega),List.getElem?_take,if_pos (by omega)]
     simp)
    obtain ⟨q1,q2⟩:=h.obj i (.row (C.size e) (els++xs) kk) (w':=w.setRow bb (cs.toList.take (els.length*ii.size)++us++cs.toList.drop (els.length*ii.size+us.length)).toArray) (m':=m)
     (G':=⟨G.γ,fun j=>if j=i then .slice (some ⟨bb,0,none⟩) (els++xs).length cap' else G.hd j⟩) hF
     (fun j hj=>by simp [hj]) (fun o ho=>by
      rw [hi] at ho;injection ho with ho
      subst ho;refine ⟨by simp [Obj.isBox],fun s2 els2 k2 Zx9=>?_⟩
      simp only [Obj.row.injEq] at Zx9;obtain ⟨rfl,rfl,rfl⟩:=Zx9;exact ⟨els,kk,rfl,by simp,fun hl=>by rw [Zb] at hl;omega⟩)
     (fun hg=>by
      simp only [Qf];rw [K5];refine .inr ⟨bb,cap',_,tb,h1,by simp,by simpa using eW,h4,setRow_heap w bb cs _ tb (0,0) h5,?_,?_,h8,by simp;omega⟩
      ·simp;rw [h6] at Sx ⊢;omega
      ·have M9:(els++xs).length*ii.size=(cs.toList.take (els.length*ii.size)++us).length:=by
        simp [Nat.add_mul,Zkh];omega
       rw [M9];simp only [List.take_left'];exact RE.append (RE.mono hF h7) (RE.mono hF g1'))
     (fun j o hj hl ho b' hb'=>by
      have:b'≠bb:=fun e=>hj (h.apart j i o _ bb hl hi ho rfl (e▸hb') h1);exact ⟨setRow_other w bb b' _ this,rfl⟩)
     (fun _ b' hb'=>by
      simp only [h1,Zc] at hb';subst hb';exact ⟨by simpa using U4.1,U4.2,fun j o hj hl ho Cr=>hj (h.apart j i o _ bb hl hi ho rfl Cr h1)⟩)
     ⟨rfl,rfl,rfl,by simp,fun b' Qg hp=>setRow_other w bb b' _ (fun e=>by
      subst e;rcases U4.2 with h1|h1
      ·omega
      ·exact hp h1)⟩
     (fun _ _ _=>rfl) (fun b' Pj=>h.new b' (by simpa using Pj))
    refine ⟨_,_,m,_,hr,q2,?_⟩;simp only [RA,J2,if_true];exact ⟨rfl,Zl _,fun _=>by simp⟩
   ·
    have zQ:=h7.length;rw [K5] at h7 zQ;have hr:=run_append_grow_src (P:=P) w t tx ty e ii zv hd i1 i4 (some ⟨bb,0,none⟩) els.length cap' (cs.toList.take (els.length*ii.size)) (run_firstCells_some (P:=P) w.drew ii.size els.length ⟨bb,0,none⟩ els.length cap' _ zQ (fun j u hu=>by
      show w.cell? _=_;rw [Md,Nat.zero_add,Um h5];rw [List.getElem?_take] at hu;split at hu
      ·simpa using hu
      ·cases hu)) vx xs.length us hs (by omega) (by omega) (growslice_fits (by omega) rW)
    have aE:=grownCap_le_maxLen w (els.length+xs.length) cap' e (by simp [maxLen];omega)
    have Cq:=grownCap_ge w (els.length+xs.length) cap' e;have hpos':kk=0∨0<els.length:=by omega
    obtain ⟨G',m',q1,q2⟩:=grow (grownCap w (els.length+xs.length) cap' e) ((cs.toList.take (els.length*ii.size)++us).toArray++Builtin.zeroCells zv.cells (grownCap w (els.length+xs.length) cap' e-(els.length+xs.length)))
     (by
      simp only [Array.size_append,List.size_toArray,Zb,Ui,zQ,Zkh,i6,←i2,←Nat.add_mul]
      congr 1
      omega) (by simpa using Cq) aE (by
      have M9:(els++xs).length*ii.size=(cs.toList.take (els.length*ii.size)++us).length:=by
       rw [Zb,Zb,zQ,Zkh,Nat.add_mul]
      rw [M9];simp only [Array.toList_append,List.take_left'];exact RE.append h7 g1') hpos'
    rw [K5];refine ⟨_,_,m',G',hr,q1,?_⟩;simpa using q2
theorem gX (T:Xy P C.τ) {t e:Nat} (hd:P.underlying t=some (.slice e)) {s:Nat} {xs:List D} {vx:Value} {B:Option Addr} {cap:Nat} (aG:vx=.slice B xs.length cap)
  (hB:xs=[]∨∃ b off vs,B=some ⟨b,off,none⟩∧RE ⟨w,m⟩ s xs vs∧∀ j u,vs[j]?=some u→w.cell? ⟨b,off+j,none⟩=some u):∃ us,Src P s t vx xs.length us w∧RE ⟨w,m⟩ s xs us:=by
 subst aG;rcases hB with rfl|⟨b,off,us,rfl,g1,g2⟩
 ·refine ⟨[],?_,by simp only [RE]⟩
  cases B with
  | none=>exact Src.ofNil w hd cap
  | some B=>exact Src.ofSlice w hd B 0 cap [] (by simp) (by simp) (by simp)
 ·exact ⟨us,Src.ofSlice w hd ⟨b,off,none⟩ xs.length cap us g1.length (fun j u hu=>by rw [Md];exact g2 j u hu) (RE.one_all g1),g1⟩
theorem qI (T:Xy P C.τ) (h:SRg base pass F0 m G st a w) {t k:Nat} {s x:AV} {vs vx:Value} {c:Prop} {z:AV} {os:Z5} (hs:RA ⟨w,m⟩ G (lk st.objs) s vs) (hx:RA ⟨w,m⟩ G (lk st.objs) x vx)
  (hh:Tg C t s x k st.objs=some (c,z,os)) (hc:c) (ty:TypeId):Kv P base pass F0 a st.tmps (Builtin.append_ #[t,t] ty #[vs,vx]) w z os:=by
 unfold Tg at hh;split at hh
 ·next e hk =>
  obtain ⟨d,hd,X4⟩:=T.kind hk rfl;simp only [TK.is] at X4;obtain ⟨rfl,he⟩:=X4;split at hh
  ·next c1 xs kE =>
   split at hh
   ·next s0 =>
    split at hh
    ·next V7 =>
     simp only [Zc,Zf] at hh;obtain ⟨rfl,rfl,rfl⟩:=hh;obtain ⟨Eu,oH,Zyq⟩:=hc;simp only [RA] at hs;subst hs;obtain ⟨B,cap,aG,hB⟩:=S4 h hx kE Eu;obtain ⟨us,Qdz,Zkj⟩:=gX (m:=m) T hd aG hB;exact qM T h hd he V7 Qdz Zkj oH Zyq ty
    ·cases hh
   ·next i n =>
    split at hh
    ·next s' els kk hi =>
     split at hh
     ·next Qd2 =>
      simp only [Zc,Zf] at hh;obtain ⟨rfl,rfl,rfl⟩:=hh;obtain ⟨Eu,oH,Zyq,Qez⟩:=hc;subst Qd2;obtain ⟨B,cap,aG,hB⟩:=S4 h hx kE Eu;simp only [RA,hi] at hs;obtain ⟨us,Qdz,Zkj⟩:=gX (m:=m) T hd aG hB;exact qL T h hd he hi (hs.2.2 oH) Qdz Zkj Zyq Qez ty
     ·cases hh
    ·cases hh
   ·cases hh
  ·cases hh
 ·cases hh
end
section
variable {P:Program} {C:Ctx} {G:Gh}
variable {base:Nat} {pass:Nat→Prop} {F0:Anc} {m:Nat→Nat} {st:AS} {a:Act} {w:World}
theorem iJ {α β:Type} (g:α→Option β):∀ (l:List α) (fs:List β),l.length=fs.length→(∀ (j:Nat) (f:α) (p:β),l[j]?=some f→fs[j]?=some p→g f=some p)→l.mapM g=some fs
 | [],[],_,_=>rfl
 | [],_::_,h,_=>by simp at h
 | _::_,[],h,_=>by simp at h
 | x::l,p::fs,h,hg=>by
  have h0:=hg 0 x p rfl rfl;have ih:=iJ g l fs (by simpa using h) (fun j f q hj hq=>hg (j+1) f q (by simpa using hj) (by simpa using hq))
  simp [List.mapM_cons,h0,ih]
theorem M5 {o:Z5} {fs:List (Nat×Nat)}:∀ {parts:List (Nat×AV)} {cells:List AV} {c c':Prop} {z:AV} {os:Z5},Vh o fs cells parts c=some (c',z,os)→c'→c
 | [],cells,c,c',z,os,h,hc=>by
  simp only [Vh,Zc,Zf] at h;obtain ⟨rfl,_,_⟩:=h;exact hc
 | (i,x)::parts,cells,c,c',z,os,h,hc=>by
  simp only [Vh] at h;split at h
  ·split at h
   ·exact (M5 h hc).1
   ·cases h
  ·cases h
theorem Zfq {F:Fix} {L:Nat→Option Obj} {x:AV} {v:Value} (g2:RA F G L x v) (hx:x.fits 1):∃ u,v.cells=#[u]∧u.oneCell'=true∧RA F G L ((x.cells false 1).getD 0 .dead) u:=by
 obtain ⟨k1,k2,k3⟩:=Hc (ag:=false) g2 hx;obtain ⟨u,hu⟩:=Array.size_eq_one_iff.1 k2;rw [hu] at k1 k3;refine ⟨u,hu,k3 u (by simp),?_⟩
 have Z8:=RAs.length k1
 match hcx:x.cells false 1,Z8 with
 | [y],_ =>
  rw [hcx] at k1;simp only [RAs] at k1;obtain ⟨v',r,e,g,_⟩:=k1;simp only [List.cons.injEq] at e;rw [e.1];simpa using g
theorem Lv {F:Fix} {L:Nat→Option Obj} {o:Z5} {fs:List (Nat×Nat)}:∀ {parts:List (Nat×AV)} {pv:List (Nat×Value)} {cells:List AV} {vs:List Value} {c c':Prop} {z:AV} {os:Z5},
  Vh o fs cells parts c=some (c',z,os)→c'→RAs F G L cells vs→(∀ u∈vs,u.oneCell'=true)→parts.length=pv.length →
  (∀ (j i:Nat) (x:AV),parts[j]?=some (i,x)→∃ v,pv[j]?=some (i,v)∧RA F G L x v) →
  os=o∧∃ cells',Instr.fill (fs.toArray[·]?) vs.toArray pv=some cells'∧RA F G L z (.agg cells')
 | [],pv,cells,vs,c,c',z,os,h,hc,hr,h1,hl,_=>by
  simp only [Vh,Zc,Zf] at h;obtain ⟨rfl,rfl,rfl⟩:=h;have:pv=[]:=List.eq_nil_of_length_eq_zero (by simpa using hl.symm)
  subst this;exact ⟨rfl,vs.toArray,rfl,dC hr h1⟩
 | (i,x)::parts,pv,cells,vs,c,c',z,os,h,hc,hr,h1,hl,hv=>by
  simp only [Vh] at h;cases hf:fs[i]? with
  | none=>simp [hf] at h
  | some p =>
   obtain ⟨off,sz⟩:=p;simp only [hf] at h;split at h
   ·next hs =>
    have hx:=(M5 h hc).2;cases pv with
    | nil=>simp at hl
    | cons p pv =>
     obtain ⟨v,e1,g2⟩:=hv 0 i x rfl;simp only [List.getElem?_cons_zero,Zc] at e1;subst e1;obtain ⟨u,hu,Zvf,Qd0⟩:=Zfq g2 hx;obtain ⟨Qhq,cells',hf',hz⟩:=Lv (pv:=pv) (vs:=vs.set off u) h hc (RAs.set hr Qd0) (fun y hy=>by
       rcases List.mem_or_eq_of_mem_set hy with hy|hy
       ·exact h1 y hy
       ·rw [hy];exact Zvf) (by simpa using hl) (fun j i x hj=>by
       obtain ⟨v',e,g⟩:=hv (j+1) i x (by simpa using hj)
       exact ⟨v',by simpa using e,g⟩)
     refine ⟨Qhq,cells',?_,hz⟩;have zQ:=RAs.length hr;have Zx4:fs.toArray[i]?=some (off,sz):=by simpa using hf
     simp only [Instr.fill,Zx4];rw [if_neg (by simp [hu,hs.1,zQ];omega),hu]
     simpa using hf'
   ·cases h
theorem nP {pl pl':Nat→Option (Nat×Nat)} (h:∀ i p,pl i=some p→pl' i=some p):∀ {l:List (Nat×Value)} {cs r:Array Value},Instr.fill pl cs l=some r→Instr.fill pl' cs l=some r
 | [],_,_,he=>he
 | (i,v)::l,cs,r,he=>by
  simp only [Instr.fill] at he ⊢;cases hp:pl i with
  | none=>simp [hp] at he
  | some p =>
   obtain ⟨off,sz⟩:=p;rw [h i _ hp];simp only [hp] at he ⊢;split at he
   ·cases he
   ·rename_i hc;rw [if_neg hc];exact nP h he
theorem jS {o:Z5}:∀ {parts:List (Nat×AV)} {cells:List AV} {c:Prop} {r:Prop×AV×Z5},H4 o cells parts c=some r→Vh o ((List.range cells.length).map fun i=>(i,1)) cells parts c=some r
 | [],cells,c,r,h=>h
 | (i,x)::parts,cells,c,r,h=>by
  simp only [H4] at h;split at h
  ·next hi =>
   have hf:((List.range cells.length).map fun i=>(i,1))[i]?=some (i,1):=by simp [hi]
   simp only [Vh,hf];rw [if_pos ⟨trivial,hi⟩];have:=jS h;rwa [List.length_set] at this
  ·cases h
theorem uG (T:Xy P C.τ) (h:SRg base pass F0 m G st a w) {t:Nat} {l:List (Nat×AV)} {vs:List (Nat×Value)} {c:Prop} {z:AV} {os:Z5} (hl:l.length=vs.length)
  (hv:∀ (j i:Nat) (x:AV),l[j]?=some (i,x)→∃ v,vs[j]?=some (i,v)∧RA ⟨w,m⟩ G (lk st.objs) x v)
  (hh:Ao C t l st.objs=some (c,z,os)) (hc:c):Kv P base pass F0 a st.tmps (Instr.build t vs.toArray) w z os:=by
 unfold Ao at hh;split at hh
 ·next fs hk =>
  have tt:=T t (by rw [hk];rfl)
  obtain ⟨d,hd,X4⟩:=T.kind hk rfl;simp only [TK.is] at X4;obtain ⟨fields,rfl,Z8,Zx4⟩:=X4;obtain ⟨i,zv,h1,h2,h3,h4,h5,_,h6,h7⟩:=tt.info;have Sx:=M5 hh hc;obtain ⟨g1,g2,g3⟩:=Hc (ag:=true) (h5 ⟨w,m⟩ G (lk st.objs)) Sx;obtain ⟨rfl,cells',q1,q2⟩:=Lv (pv:=vs) hh hc g1 g3 hl hv;have Zkl:fields.toList.mapM (fun f=>(P.info? f.type).map fun i=>(f.offset,i.size))=some fs:=by
   refine iJ _ _ _ (by simpa using Z8.symm) (fun j f p hj hp=>?_)
   obtain ⟨e1,e2,_⟩:=Zx4 j f p (by simpa using hj) hp
   cases hi:P.info? f.type with
   | none=>simp [hi] at e2
   | some ii =>
    simp [hi] at e2;simp [e1,e2]
  have hb:P.built t vs=some cells':=by
   unfold Program.built;simp only [h1,hd,h4,Zkl];simpa using q1
  exact Qd h (run_build w t vs.toArray cells' hb) q2
 ·next n e hk =>
  split at hh
  ·next hs =>
   have tt:=T t (by rw [hk];rfl)
   obtain ⟨d,hd,X4⟩:=T.kind hk rfl;simp only [TK.is] at X4;obtain ⟨rfl,he⟩:=X4;obtain ⟨i,zv,h1,h2,h3,h4,h5,_,h6,h7⟩:=tt.info;obtain ⟨ie,ze,e1,e2,e3,e4,e5,_,e6,e7⟩:=(T e (by rw [he];rfl)).info
   have Zkp:ie.size=1:=by rw [e2];exact hs
   have hh:=jS hh;have Sx:=M5 hh hc;obtain ⟨g1,g2,g3⟩:=Hc (ag:=true) (h5 ⟨w,m⟩ G (lk st.objs)) Sx;obtain ⟨rfl,cells',q1,q2⟩:=Lv (pv:=vs) hh hc g1 g3 hl hv;have hb:P.built t vs=some cells':=by
    unfold Program.built;simp only [h1,hd,h4,e1,Zkp];refine nP (fun j p hj=>?_) (by simpa using q1)
    simp only [List.getElem?_map,List.getElem?_toArray,Option.map_eq_some_iff] at hj;obtain ⟨k,aI,rfl⟩:=hj;rw [List.getElem?_range (by
     have:=(List.getElem?_eq_some_iff.1 aI).1;simpa using this)] at aI
    injection aI with aI
    rw [aI];simp
   exact Qd h (run_build w t vs.toArray cells' hb) q2
  ·cases hh
 ·cases hh
theorem D.eqb_key {k:TK} {x y:D} (hx:Ul k x) (hy:Ul k y) (h:D.eqb x y=true):x=y:=by
 unfold Ul at hx hy;cases k<;>simp only at hx hy
 ·cases x<;>simp only [D.isInt] at hx;cases y<;>simp only [D.isInt] at hy;subst hx;subst hy;simpa [D.eqb] using h
 ·cases x<;>simp only [D.isStr] at hx;cases y<;>simp only [D.isStr] at hy;simpa [D.eqb] using h
theorem D.eqb_self {k:TK} {x:D} (hx:Ul k x):D.eqb x x=true:=by
 unfold Ul at hx;cases k<;>simp only at hx
 ·cases x<;>simp only [D.isInt] at hx;simp [D.eqb]
 ·cases x<;>simp only [D.isStr] at hx;simp [D.eqb]
def Gq:TK→TypeDesc
 | .int k=>.int k
 | _=>.string
theorem uF (s t:List UInt8):((⟨s.toArray⟩:ByteArray)==⟨t.toArray⟩)=(s==t):=by
 rw [Bool.eq_iff_iff];show (s.toArray==t.toArray)=true↔_;simp
theorem S5 {k:TK} {x y:D} {vx vy:Value} (hx:Ul k x) (hy:Ul k y) {F:Fix} (rx:R F x vx) (ry:R F y vy) :
  Instr.sameNow (Gq k) vx vy=some (D.eqb x y)∧(D.eqb x y=true→vx=vy∧Instr.sameBits 10000 vy vx=true):=by
 unfold Ul at hx hy;cases k<;>simp only at hx hy
 ·cases x<;>simp only [D.isInt] at hx;cases y<;>simp only [D.isInt] at hy;subst hx;subst hy;simp only [R] at rx ry;subst rx;subst ry;refine ⟨by simp [Instr.sameNow,Gq,D.eqb],fun h=>?_⟩
  simp only [D.eqb,Zi] at h;subst h;exact ⟨rfl,by simp [Instr.sameBits]⟩
 ·cases x<;>simp only [D.isStr] at hx;cases y<;>simp only [D.isStr] at hy;simp only [R] at rx ry;subst rx;subst ry;refine ⟨by
   simp only [Instr.sameNow,Gq,D.eqb,Zc];exact uF _ _,fun h=>?_⟩
  simp only [D.eqb,Zi] at h;subst h;refine ⟨rfl,?_⟩;show ((_:ByteArray)==_)=true;rw [uF];exact beq_self_eq_true _
theorem R.key_fun {k:TK} {x:D} (hx:Ul k x) {F:Fix} {u v:Value} (h1:R F x u) (h2:R F x v):u=v:=by
 unfold Ul at hx;cases k<;>simp only at hx
 ·exact (h1.of_int hx).trans (h2.of_int hx).symm
 ·exact (h1.of_str hx).trans (h2.of_str hx).symm
theorem tZ {k:TK} {x:D} {vx:Value} {F:Fix} (hx:Ul k x):∀ {es:List MapEntry} {ks:List D},Uc k ks→R F x vx→Rs F ks (es.map MapEntry.key)→L9 x ks=false→∀ e∈es,e.key≠vx
 | [],_,_,_,_,_,_,he=>by cases he
 | e::es,[],_,_,hr,_,_,_=>by simp [Rs] at hr
 | e::es,y::ks,hk,rx,hr,hh,e',he=>by
  simp only [Uc] at hk;simp only [List.map_cons,Rs] at hr;obtain ⟨v,r,Zve,h1,h2⟩:=hr;simp only [List.cons.injEq] at Zve;obtain ⟨rfl,rfl⟩:=Zve;simp only [L9,Bool.or_eq_false_iff] at hh;rcases Z2.1 he with rfl|he
  ·intro e0;have hs:=(S5 hx hk.1 rx h1).1;rw [hh.1,e0] at hs;have:Instr.sameNow (Gq k) vx vx=some true:=(S5 hx hx rx rx).1.trans (by rw [D.eqb_self hx])
   rw [this] at hs;cases hs
  ·exact tZ hx hk.2 rx h2 hh.2 e' he
theorem Aq {k:TK} {x:D} {vx:Value} {F:Fix} (hx:Ul k x) (rx:R F x vx):∀ {es:List MapEntry} {ks:List D} (n:Nat),Uc k ks→Rs F ks (es.map MapEntry.key)→L9 x ks=false→Instr.findNow (Gq k) vx es n=some none
 | [],_,_,_,_,_=>rfl
 | e::es,[],_,_,hr,_=>by simp [Rs] at hr
 | e::es,y::ks,n,hk,hr,hh=>by
  simp only [Uc] at hk;simp only [List.map_cons,Rs] at hr;obtain ⟨v,r,Zve,h1,h2⟩:=hr;simp only [List.cons.injEq] at Zve;obtain ⟨rfl,rfl⟩:=Zve;simp only [L9,Bool.or_eq_false_iff] at hh;have hs:=(S5 hx hk.1 rx h1).1;rw [hh.1] at hs;rw [Instr.findNow,hs];exact Aq hx rx (n+1) hk.2 h2 hh.2
theorem Ee {k:TK} {x z y:D} {vx vy:Value} {F:Fix} (hx:Ul k x) (rx:R F x vx) (ry:R F y vy):∀ {es:List MapEntry} {ks vs:List D} (n:Nat),Uc k ks→Rs F ks (es.map MapEntry.key)→Rs F vs (es.map MapEntry.val)→L9 x ks=true →
  ∃ (j:Nat) (e:MapEntry),es[j]?=some e∧Instr.findNow (Gq k) vx es n=some (some (n+j,e.val))∧Instr.sameBits 10000 e.key vx=true∧R F (eM x z ks vs) e.val ∧
   Rs F ks ((es.modify j fun e=>{ e with key:=vx,val:=vy }).map MapEntry.key)∧Rs F (Bt x y ks vs) ((es.modify j fun e=>{ e with key:=vx,val:=vy }).map MapEntry.val)∧∀ e':MapEntry,es[j]?=some e'→vx=e'.key
 | [],[],_,_,_,_,_,hh=>by simp [L9] at hh
 | [],_::_,_,_,_,hr,_,_=>by simp [Rs] at hr
 | e::es,[],_,_,_,hr,_,_=>by simp [Rs] at hr
 | e::es,d::ks,[],_,_,_,hv,_=>by simp [Rs] at hv
 | e::es,d::ks,u::vs,n,hk,hr,hv,hh=>by
  simp only [Uc] at hk;simp only [List.map_cons,Rs] at hr hv;obtain ⟨v,r,Zve,h1,h2⟩:=hr;obtain ⟨v',r',hvr',h1',h2'⟩:=hv;simp only [List.cons.injEq] at Zve hvr';obtain ⟨rfl,rfl⟩:=Zve;obtain ⟨rfl,rfl⟩:=hvr';obtain ⟨hs,Ky⟩:=S5 hx hk.1 rx h1;cases hb:D.eqb x d with
  | true =>
   rw [hb] at hs;obtain ⟨e1,e2⟩:=Ky hb;have Qgc:=D.eqb_key hx hk.1 hb;refine ⟨0,e,rfl,by rw [Instr.findNow,hs];rfl,e2,?_,?_,?_,fun e'' he''=>by
    simp only [List.getElem?_cons_zero,Zc] at he'';subst he'';exact R.key_fun hx rx (by rw [Qgc];exact h1)⟩
   ·simp only [eM,hb,cond_true];exact h1'
   ·simp only [List.modify_zero_cons,List.map_cons,Rs];exact ⟨vx,_,rfl,Qgc▸rx,h2⟩
   ·simp only [Bt,hb,cond_true,List.modify_zero_cons,List.map_cons,Rs];exact ⟨vy,_,rfl,ry,h2'⟩
  | false =>
   rw [hb] at hs;simp only [L9,hb,Bool.false_or] at hh;obtain ⟨j,e',q1,q2,q3,q4,q5,q6,q7⟩:=Ee (z:=z) hx rx ry (n+1) hk.2 h2 h2' hh;refine ⟨j+1,e',by simpa using q1,by rw [Instr.findNow,hs];simp only;rw [q2,show n+1+j=n+(j+1) by omega],q3,?_,?_,?_,fun e'' he''=>q7 e'' (by simpa using he'')⟩
   ·simp only [eM,hb,cond_false];exact q4
   ·simp only [List.modify_succ_cons,List.map_cons,Rs];exact ⟨_,_,rfl,h1,q5⟩
   ·simp only [Bt,hb,cond_false,List.modify_succ_cons,List.map_cons,Rs];exact ⟨_,_,rfl,h1',q6⟩
theorem mT {x v:D}:∀ {ks vs:List D},ks.length=vs.length→L9 x ks=false→Bt x v ks vs=vs++[v]
 | [],[],_,_=>rfl
 | [],_::_,h,_=>by simp at h
 | _::_,[],h,_=>by simp at h
 | y::ks,u::vs,h,hh=>by
  simp only [L9,Bool.or_eq_false_iff] at hh;simp only [Bt,hh.1,cond_false,mT (ks:=ks) (vs:=vs) (by simpa using h) hh.2,List.cons_append]
theorem mU {x z:D}:∀ {ks vs:List D},L9 x ks=false→eM x z ks vs=z
 | [],_,_=>by cases ‹List D›<;>rfl
 | _::_,[],_=>rfl
 | y::ks,u::vs,hh=>by
  simp only [L9,Bool.or_eq_false_iff] at hh;simp only [eM,hh.1,cond_false];exact mU hh.2
theorem nV (T:Xy P C.τ) {kt:Nat} {x:D} (h:Ul (C.τ kt).kind x):P.underlying kt=some (Gq (C.τ kt).kind):=by
 cases hk:(C.τ kt).kind with
 | int k =>
  obtain ⟨d,hd,X4⟩:=T.kind hk rfl;simp only [TK.is] at X4;subst X4;exact hd
 | str =>
  obtain ⟨d,hd,X4⟩:=T.kind hk rfl;simp only [TK.is] at X4;subst X4;exact hd
 | _=>rw [hk] at h;exact h.elim
theorem Mr {kt:Nat} {k:TK} {x:D} {v:Value} {b:Bool} (hd:P.underlying kt=some (Gq k)) (hx:Ul k x) {F:Fix} (rx:R F x v):(Instr.checkKey b 10000 kt v).run P w=.ok () w:=by
 unfold Ul at hx;unfold Instr.checkKey;cases k<;>simp only at hx
 ·have:=rx.of_int hx;subst this;simp only [Sem.run_bind,run_underlying hd,Result.andThen_ok,Gq];rfl
 ·have:=rx.of_str hx;subst this;simp only [Sem.run_bind,run_underlying hd,Result.andThen_ok,Gq];rfl
theorem Bo {kt:Nat} {k:TK} {v:Value} {es:List MapEntry} {r:Option (Nat×Value)} (hd:P.underlying kt=some (Gq k)) (h:Instr.findNow (Gq k) v es 0=some r):(Instr.findKey kt v es).run P w=.ok r w:=by
 simp [Instr.findKey,run_underlying hd,h]
theorem gD (T:Xy P C.τ) {t kt et:Nat} (ht:P.underlying t=some (.map kt et)) (h:SRg base pass F0 m G st a w) {b:Nat} {es:Array MapEntry} {cl:Nat} (hb:w.heap[b]?=some (.map es cl)) {ks vs:List D} {i:D} {vi:Value} {ok:Bool} {c:Prop} {z:AV} {os:Z5}
  (rk:Rs ⟨w,m⟩ ks (es.toList.map MapEntry.key)) (rv:Rs ⟨w,m⟩ vs (es.toList.map MapEntry.val)) (ri:R ⟨w,m⟩ i vi) (hh:Py C kt et ks vs i ok st.objs=some (c,z,os)) (hc:c) :
  Kv P base pass F0 a st.tmps (Instr.lookup t (.map (some b)) vi ok) w z os:=by
 have common:∀ ag,C.ag et=some ag→Ul (C.τ kt).kind i→Uc (C.τ kt).kind ks→∃ u,(Instr.lookup t (.map (some b)) vi ok).run P w=.ok (if ok then .tuple #[u,.bool (L9 i ks)] else u) w∧R ⟨w,m⟩ (eM i (C.τ et).zd ks vs) u:=by
  intro ag Zeo h1 h2;have hd:=nV T h1;obtain ⟨ii,zv,z1,z2,z3,z4,_,z6,_⟩:=(Ctx.ag_some T Zeo).info;have hz:(zeroValue et).run P w=.ok zv w:=by simp [zeroValue,typeInfo,z1,z4]
  cases hm:L9 i ks with
  | true =>
   obtain ⟨j,e,q1,q2,_,q4,_,_,_⟩:=Ee (z:=(C.τ et).zd) (y:=i) h1 ri ri 0 h2 rk rv hm;refine ⟨e.val,?_,q4⟩;have hf:=Bo (w:=w) hd q2;simp [Instr.lookup,run_underlying ht,getObj,hb,Sem.run,Mr hd h1 ri,hf]
  | false =>
   have hf:=Bo (w:=w) hd (Aq h1 ri 0 h2 rk hm);refine ⟨zv,?_,by rw [mU hm];exact z6 _⟩
   simp [Instr.lookup,run_underlying ht,getObj,hb,Sem.run,Mr hd h1 ri,hf,hz]
 unfold Py at hh;split at hh
 ·next ag Zeo =>
  cases ok with
  | true =>
   simp only [Zc,Zf] at hh;obtain ⟨rfl,rfl,rfl⟩:=hh;obtain ⟨u,r1,r2⟩:=common ag Zeo hc.1 hc.2;refine Qd h r1 ?_;simp only [RA,R,if_true];exact ⟨[u,.bool (L9 i ks)],by simp,by simp only [Rs,R];exact ⟨_,_,rfl,r2,_,_,rfl,rfl,rfl⟩⟩
  | false =>
   simp only [Zc,Zf] at hh;obtain ⟨rfl,rfl,rfl⟩:=hh;obtain ⟨u,r1,r2⟩:=common ag Zeo hc.1 hc.2;exact Qd h (v:=u) (by simpa using r1) (by simpa only [RA] using r2)
 ·cases hh
theorem pC (T:Xy P C.τ) (h:SRg base pass F0 m G st a w) {t:Nat} {x ix:AV} {v vi:Value} {ok:Bool} {c:Prop} {z:AV} {os:Z5} (hx:RA ⟨w,m⟩ G (lk st.objs) x v) (hix:RA ⟨w,m⟩ G (lk st.objs) ix vi)
  (hh:B1 C t x ix ok st.objs=some (c,z,os)) (hc:c):Kv P base pass F0 a st.tmps (Instr.lookup t v vi ok) w z os:=by
 unfold B1 at hh;split at hh
 ·next kt et i hk =>
  obtain ⟨d,hd,X4⟩:=T.kind hk rfl;simp only [TK.is] at X4;subst X4;simp only [RA] at hix;split at hh
  ·next ks vs =>
   simp only [RA,R] at hx;obtain ⟨b,es,cl,rfl,hb,_,rk,rv,_⟩:=hx;exact gD T hd h hb rk rv hix hh hc
  ·next j =>
   split at hh
   ·next ks vs fr hl =>
    simp only [RA,hl] at hx;obtain ⟨b,g1,rfl⟩:=hx.2 rfl;have Yd:=h.objs j _ hl;simp only [Qf] at Yd;obtain ⟨b',es,cl,h1,hb,rk,rv,_⟩:=Yd;rw [g1] at h1;injection h1 with h1
    subst h1;exact gD T hd h hb rk rv hix hh hc
   ·cases hh
  ·cases hh
 ·cases hh
theorem SRg.putMap (h:SRg base pass F0 m G st a w) {i b:Nat} {ks vs ks' vs':List D} {es es':Array MapEntry} {cl cl':Nat} (hi:lk st.objs i=some (.mp ks vs false)) (hb:G.γ i=some b) (hg:w.heap[b]?=some (.map es cl)) (hm:m b=0)
  (hk:Rs ⟨w,m⟩ ks' (es'.toList.map MapEntry.key)) (hv:Rs ⟨w,m⟩ vs' (es'.toList.map MapEntry.val)) (Us:Go.MapKept.Stamped es' cl') :
  SRg base pass F0 m G ⟨st.tmps,upd st.objs i (.mp ks' vs' false)⟩ a { w with heap:=w.heap.setIfInBounds b (.map es' cl') }:=by
 have Qg:b<w.heap.size:=(Array.getElem?_eq_some_iff.1 hg).1;have same:∀ b',b'≠b→(w.heap.setIfInBounds b (.map es' cl'))[b']?=w.heap[b']?:=fun b' Hk=>by simp [Ne.symm Hk]
 have Qey:(w.heap.setIfInBounds b (.map es' cl'))[b]?=some (.map es' cl'):=by simp [Qg]
 have hF:Fix.le ⟨w,m⟩ ⟨{ w with heap:=w.heap.setIfInBounds b (.map es' cl') },m⟩:=by
  refine ⟨fun b'=>⟨Zl _,fun off ho=>?_⟩,fun b' es2 c2 Zh8 Gd=>?_⟩
  ·by_cases Gd:b'=b
   ·subst Gd;simp only [hm] at ho;omega
   ·exact World.cell?_of_block (same b' Gd)
  ·by_cases Qb9:b'=b
   ·subst Qb9;simp only [hm] at Zh8;omega
   ·show (w.heap.setIfInBounds b (.map es' cl'))[b']?=_;rw [same b' Qb9];exact Gd
 have U4:=h.mine i _ b hi rfl hb;refine (h.obj i (.mp ks' vs' false) (G':=G) (m':=m) hF (fun _ _=>⟨rfl,rfl⟩) (fun o1 h1=>by
   rw [hi] at h1;injection h1 with h1
   subst h1;exact ⟨fun _=>⟨rfl,rfl⟩,fun s els' k' he=>by cases he⟩) (fun _=>by
   simp only [Qf];exact ⟨b,es',cl',hb,Qey,Rs.mono hF hk,Rs.mono hF hv,by simpa using hm,Us⟩)
  (fun j oj V8 hj C2 b' hb'=>by
   have:b'≠b:=fun e=>V8 (h.apart j i oj _ b hj hi C2 rfl (e▸hb') hb);exact ⟨same b' this,rfl⟩)
  (fun _ b' hb'=>by
   rw [hb] at hb';injection hb' with hb'
   subst hb';exact ⟨by simpa using U4.1,U4.2,fun j oj V8 hj C2 e=>V8 (h.apart j i oj _ b hj hi C2 rfl e hb)⟩)
  ⟨rfl,rfl,rfl,by simp,fun b' hlt' hp=>same b' (fun e=>by
   subst e;rcases U4.2 with h1|h1
   ·omega
   ·exact hp h1)⟩ (fun _ _ _=>rfl) (fun b' Pj=>h.new b' (by simpa using Pj))).2
theorem kT (h:SRg base pass F0 m G st a w) {k t:Nat} {c:Prop} {z:AV} {os:Z5} (hh:Se k st.objs=some (c,z,os)):Kv P base pass F0 a st.tmps (Instr.makeMap t none) w z os:=by
 unfold Se at hh;split at hh
 ·next hk =>
  simp only [Zc,Zf] at hh;obtain ⟨rfl,rfl,rfl⟩:=hh;obtain ⟨q1,q2,q3⟩:=h.fresh hk (.mp [] [] false) (.map #[] 0) undef (fun hg hF=>by
   simp only [Qf];exact ⟨w.heap.size,#[],0,by simp,heap_alloc_new w _,by simp [Rs],by simp [Rs],h.new _ (Zl _),Go.MapKept.stamped_empty 0⟩)
  refine ⟨.map (some w.heap.size),_,m,_,by simp [Instr.makeMap,newObj,Sem.run],q3,?_⟩
  simp only [RA,J2,if_true];exact ⟨rfl,fun _=>⟨_,rfl,rfl⟩⟩
 ·cases hh
theorem eI (T:Xy P C.τ) (h:SRg base pass F0 m G st a w) {t:Nat} {x ix y:AV} {v vi vy:Value} {c:Prop} {z:AV} {os:Z5} (hx:RA ⟨w,m⟩ G (lk st.objs) x v) (hix:RA ⟨w,m⟩ G (lk st.objs) ix vi) (hy:RA ⟨w,m⟩ G (lk st.objs) y vy)
  (hh:G4 C t x ix y st.objs=some (c,z,os)) (hc:c):z=.dead∧kK P base pass F0 a st.tmps (Instr.mapUpdate t v vi vy) w os:=by
 unfold G4 at hh;split at hh
 ·next kt et i j hk =>
  obtain ⟨d,hd,X4⟩:=T.kind hk rfl;simp only [TK.is] at X4;subst X4;simp only [RA] at hix;split at hh
  ·next c1 yd o1 hpur =>
   split at hh
   ·next ks vs hl =>
    simp only [Zc,Zf] at hh;obtain ⟨rfl,rfl,rfl⟩:=hh;obtain ⟨Eu,h1,h2⟩:=hc;obtain ⟨m1,k1,k2,k3,ry⟩:=Np h hpur Eu hy;have hx':=RA.mono k2 k3 hx;simp only [RA,hl] at hx';obtain ⟨b,g1,rfl⟩:=hx'.2 rfl;have Yd:=k1.objs j _ hl;simp only [Qf] at Yd;obtain ⟨b',es,cl,e1,hb,rk,rv,Zh8,Us⟩:=Yd;rw [g1] at e1;injection e1 with e1
    subst e1;have hmb':m1 b=0:=by simpa using Zh8
    have ri:=R.mono k2 hix;have X4:=nV T h1;refine ⟨rfl,?_⟩;have gobj:(getObj b).run P w=.ok (.map es cl) w:=by simp [getObj,Sem.run,hb]
    have sobj:∀ o,(setObj b o).run P w=.ok () { w with heap:=w.heap.setIfInBounds b o }:=fun o=>by simp [setObj,Sem.run,hb]
    cases hm:L9 i ks with
    | true =>
     obtain ⟨jj,e,q1,q2,q3,_,q5,q6,q7⟩:=Ee (z:=yd) h1 ri ry 0 h2 rk rv hm;have hf:=Bo (P:=P) (w:=w) X4 q2;have Qhk:(es[jj]?).map MapEntry.key=some e.key:=by
      rw [←Array.getElem?_toList,q1];rfl
     have Zxv:=k1.putMap (es':=es.modify jj fun e=>{ e with key:=vi,val:=vy }) (cl':=cl) hl g1 hb hmb' (by rw [Array.toList_modify];exact q5) (by rw [Array.toList_modify];exact q6) (Go.MapKept.stamped_modify Us jj _ (fun _ _=>rfl) (fun e' _ he'=>q7 e' (by rw [Array.getElem?_toList];exact he')))
     refine ⟨_,m1,G,?_,by simpa only [dE,hm,cond_true] using Zxv⟩
     have rD:(Instr.keyThatStays (((es[0+jj]?).map (·.key)).getD vi) vi).run P w=.ok vi w:=by
      rw [Nat.zero_add,show (es[jj]?).map (·.key)=some e.key from Qhk];simp [Instr.keyThatStays,q3]
     simp only [Nat.zero_add] at hf rD;simp [Instr.mapUpdate,run_underlying hd,gobj,Mr X4 h1 ri,hf,rD,sobj,Result.andThen]
    | false =>
     have hf:=Bo (P:=P) (w:=w) X4 (Aq h1 ri 0 h2 rk hm);have Z8:ks.length=vs.length:=by
      have q1:=rk.length;have q2:=rv.length;simp only [Qn] at q1 q2;omega
     have Zxv:=k1.putMap (ks':=ks++[i]) (vs':=vs++[yd]) (es':=es.push { key:=vi,val:=vy,born:=cl }) (cl':=cl+1) hl g1 hb hmb' (by
      rw [Array.toList_push,List.map_append];exact Rs.append rk (by simp only [List.map_cons,List.map_nil,Rs];exact ⟨_,_,rfl,ri,rfl⟩)) (by
      rw [Array.toList_push,List.map_append];exact Rs.append rv (by simp only [List.map_cons,List.map_nil,Rs];exact ⟨_,_,rfl,ry,rfl⟩))
      (Go.MapKept.stamped_push Us fun x Qhd=>tZ h1 h2 ri rk hm x Qhd)
     refine ⟨_,m1,G,?_,by simpa only [dE,hm,cond_false,mT Z8 hm] using Zxv⟩
     simp [Instr.mapUpdate,run_underlying hd,gobj,Mr X4 h1 ri,hf,sobj,Result.andThen]
   ·cases hh
  ·cases hh
 ·cases hh
end
end Go.Am
