/- Contracts of functions that the law reaches, and plain laws. Conditions: those that each contract states. -/
import Derived.Test.YtilpfkjhahnfaaaGreatP1
set_option maxHeartbeats 400000
set_option linter.unusedVariables false
set_option linter.unusedSimpArgs false
variable {p:Prop}
namespace Go.Am
open Go.RowKit (Below)
def L6 (P:Program) (base:Nat) (pass:Nat→Prop) (F0:Anc) (a:Act) (tm:List AV) (s:Sem Value) (w:World) (z:AV) (os:Qh):Prop :=
 ∃ v w' m' G',s.run P w=.ok v w'∧SRg base pass F0 m' G' ⟨tm,os⟩ a w'∧RA ⟨w',m'⟩ G' (lk os) z v
section
variable {P:Program} {C:Ctx} {F:Fix} {G:Gh} {L:Nat→Option Obj}
theorem N9 {v:Value} (h:v.oneCell'=true):v.cells=#[v]:=by cases v<;>simp_all [Value.oneCell',Value.cells]
theorem R.oneCell {x:D} {v:Value} (h:R F x v) (h1:∀ l,x≠.agg l) (h2:∀ l,x≠.tup l):v.oneCell'=true:=by
 cases x with
 | agg l=>exact absurd rfl (h1 l)
 | tup l=>exact absurd rfl (h2 l)
 | list s l =>
  simp only [R] at h;obtain ⟨A,c,rfl,_⟩:=h;rfl
 | ptr s x =>
  simp only [R] at h;obtain ⟨b,off,u,rfl,_⟩:=h;rfl
 | clo f l =>
  simp only [R] at h;obtain ⟨cs,rfl,_⟩:=h;rfl
 | map ks vs =>
  simp only [R] at h;obtain ⟨b,es,c,rfl,_⟩:=h;rfl
 | it f ks vs =>
  simp only [R] at h;obtain ⟨bm,b,es,c,rfl,_⟩:=h;rfl
 | any=>simpa only [R] using h
 | _=>simp only [R] at h;subst h;rfl
theorem R.cellsD {x:D} {v:Value} {s:Nat} (h:R F x v) (hf:x.fits s):v.cells.size=s∧∀ u∈v.cells.toList,u.oneCell'=true:=by
 cases x with
 | agg l =>
  simp only [R] at h;obtain ⟨cs,rfl,h2,h3⟩:=h;simp only [D.fits] at hf;refine ⟨by simp [Value.cells,Rs.length h2,hf],by simpa [Value.cells] using h3⟩
 | tup l=>exact absurd hf (by simp [D.fits])
 | _ =>
  have h1:=R.oneCell h (by simp) (by simp)
  simp only [D.fits] at hf;subst hf;rw [N9 h1];simpa using h1
theorem R.cell {x:D} {v u:Value} {f:Nat} (h:R F x v) (hu:v.cells.toList[f]?=some u):R F (x.cell f) u:=by
 cases x with
 | agg l =>
  simp only [R] at h;obtain ⟨cs,rfl,h2,h3⟩:=h;simp only [Value.cells] at hu;have hf:f<l.length:=by
   rw [←Rs.length h2];exact (List.getElem?_eq_some_iff.1 hu).1
  obtain ⟨u',g1,g2⟩:=h2.at (Zk hf);rw [hu] at g1;injection g1 with g1
  subst g1;simp only [D.cell,Zd,Zk hf,Option.getD_some];exact g2
 | tup l =>
  have h0:=h;simp only [R] at h;obtain ⟨cs,rfl,_⟩:=h;simp only [Value.cells] at hu;cases f with
  | zero=>simp at hu;subst hu;exact h0
  | succ f=>simp at hu
 | _ =>
  have h1:=R.oneCell h (by simp) (by simp)
  rw [N9 h1] at hu;cases f with
  | zero=>simp at hu;subst hu;exact h
  | succ f=>simp at hu
theorem R.asAgg {x:D} {v:Value} (h:R F x v) (h1:∀ u∈v.cells.toList,u.oneCell'=true):R F x.asAgg (.agg v.cells):=by
 cases x with
 | agg l =>
  simp only [R] at h;obtain ⟨cs,rfl,h2,h3⟩:=h;simp only [D.asAgg,R,Value.cells];exact ⟨cs,rfl,h2,h3⟩
 | _ =>
  simp only [D.asAgg];have hv:v.cells=#[v]:=by
   cases v with
   | agg cs=>simp [R,Value.oneCell'] at h
   | _=>rfl
  rw [hv] at h1 ⊢;simp only [R];refine ⟨[v],rfl,?_,by simpa using h1⟩
  simp only [Rs];exact ⟨v,[],rfl,h,rfl⟩
theorem Ck {ag:Bool} {s:Nat} {x:AV} {v:Value} (h:RA F G L x v) (hf:x.fits s) :
  RAs F G L (x.cells ag s) v.cells.toList∧v.cells.size=s∧∀ u∈v.cells.toList,u.oneCell'=true:=by
 have one:v.oneCell'=true→s=1→RAs F G L [x] v.cells.toList∧v.cells.size=s∧∀ u∈v.cells.toList,u.oneCell'=true:=by
  intro h1 hs;subst hs;rw [N9 h1];exact ⟨by simp only [RAs];exact ⟨v,[],rfl,h,rfl⟩,rfl,by simpa using h1⟩
 cases x with
 | d x =>
  have hd:=h;simp only [RA] at h;obtain ⟨g1,g2⟩:=R.cellsD h hf;refine ⟨?_,g1,g2⟩;cases x with
  | agg l =>
   simp only [R] at h;obtain ⟨cs,rfl,h2,_⟩:=h;simp only [AV.cells,Value.cells];simpa using RAs.of_Rs h2
  | tup l=>exact absurd hf (by simp [AV.fits,D.fits])
  | _ =>
   have h1:=R.oneCell h (by simp) (by simp)
   simp only [AV.fits,D.fits] at hf;subst hf;have:=(one h1 rfl).1;cases ag
   ·simpa [AV.cells] using this
   ·simpa [AV.cells,Th,D.cell] using this
 | ref i f=>simp only [RA] at h;exact one h.1 hf
 | rref i n e f=>simp only [RA] at h;exact one h.1 hf
 | sl i n=>simp only [RA] at h;exact one h.1 hf
 | sb i n f=>simp only [RA] at h;exact one h.1 hf
 | mpr i=>simp only [RA] at h;exact one h.1 hf
 | agg l =>
  simp only [RA] at h;obtain ⟨cs,rfl,h2,h3⟩:=h;simp only [AV.fits] at hf;exact ⟨by simpa [AV.cells,Value.cells] using h2,by simp [Value.cells,RAs.length h2,hf],by simpa [Value.cells] using h3⟩
 | tup l=>exact absurd hf (by simp [AV.fits])
 | clo f l =>
  have h0:=h;simp only [RA] at h;obtain ⟨cs,rfl,_⟩:=h;exact one rfl hf
 | nils k=>simp only [RA] at h;exact one (by rw [h];rfl) hf
 | dead=>exact absurd hf (by simp [AV.fits])
theorem cR:∀ {l:List AV} {ds:List D} {vs:List Value},Zbz l=some ds→RAs F G L l vs→Rs F ds vs
 | [],ds,vs,h,hr=>by
  simp only [Zbz,Zb] at h;subst h;simpa only [Rs,RAs] using hr
 | x::l,ds,vs,h,hr=>by
  cases x with
  | d x =>
   simp only [Zbz] at h;split at h
   ·next l' hl' =>
    simp only [Zb] at h;subst h;simp only [RAs,RA] at hr;obtain ⟨v,r,h1,h2,h3⟩:=hr;simp only [Rs];exact ⟨v,r,h1,h2,cR hl' h3⟩
   ·cases h
  | _=>simp [Zbz] at h
theorem tW {l:List AV} {vs:List Value} (h:RAs F G L l vs) (h1:∀ u∈vs,u.oneCell'=true):RA F G L (tK l) (.agg vs.toArray):=by
 unfold tK;split
 ·next ds hd=>simp only [RA,R];exact ⟨vs,rfl,cR hd h,h1⟩
 ·simp only [RA];exact ⟨vs,rfl,h,h1⟩
theorem Zj2 {l:List AV} {vs:List Value} (h:RAs F G L l vs):RA F G L (Zc7 l) (.tuple vs.toArray):=by
 unfold Zc7;split
 ·next ds hd=>simp only [RA,R];exact ⟨vs,rfl,cR hd h⟩
 ·simp only [RA];exact ⟨vs,rfl,h⟩
theorem Zj3 {f:Nat} {l:List AV} {vs:List Value} (h:RAs F G L l vs):RA F G L (Zj4 f l) (.func (.func f) #[] vs.toArray):=by
 unfold Zj4;split
 ·next ds hd=>simp only [RA,R];exact ⟨vs,rfl,cR hd h⟩
 ·simp only [RA];exact ⟨vs,rfl,h⟩
theorem RAs.split {l:List AV} {vs:List Value} (h:RAs F G L l vs) (k:Nat):RAs F G L (l.take k) (vs.take k)∧RAs F G L (l.drop k) (vs.drop k):=by
 induction k generalizing l vs with
 | zero=>simpa [RAs] using h
 | succ k ih =>
  cases l with
  | nil=>simp only [RAs] at h;subst h;simp [RAs]
  | cons x l =>
   simp only [RAs] at h;obtain ⟨v,r,rfl,h2,h3⟩:=h;obtain ⟨g1,g2⟩:=ih h3;refine ⟨?_,by simpa using g2⟩
   simp only [List.take_succ_cons,RAs];exact ⟨v,_,rfl,h2,g1⟩
theorem Ctx.ag_some (T:Yd P C.τ) {t:Nat} {b:Bool} (h:C.ag t=some b):TyOk P C.τ t:=T t (by unfold Ctx.ag at h;rw [h];rfl)
theorem Zcs (T:Yd P C.τ) {t:Nat} {b:Bool} (h:C.ag t=some b) (w:World):(isAgg t).run P w=.ok b w:=by
 obtain ⟨d,h1,h2⟩:=(Ctx.ag_some T h).und;unfold Ctx.ag at h;cases hk:(C.τ t).kind with
 | struct fs =>
  rw [hk] at h h2;simp only [TK.ag,Zb] at h;simp only [TK.is] at h2;obtain ⟨fields,rfl,_⟩:=h2;subst h;simp [isAgg,run_underlying h1]
 | array n e =>
  rw [hk] at h h2;simp only [TK.ag,Zb] at h;simp only [TK.is] at h2;obtain ⟨rfl,_⟩:=h2;subst h;simp [isAgg,run_underlying h1]
 | other=>rw [hk] at h;simp [TK.ag] at h
 | func =>
  rw [hk] at h h2;simp only [TK.ag,Zb] at h;simp only [TK.is] at h2;obtain ⟨x,y,z,rfl⟩:=h2;subst h;simp [isAgg,run_underlying h1]
 | slice e =>
  rw [hk] at h h2;simp only [TK.ag,Zb] at h;simp only [TK.is] at h2;obtain ⟨rfl,_⟩:=h2;subst h;simp [isAgg,run_underlying h1]
 | _ =>
  rw [hk] at h h2;simp only [TK.ag,Zb] at h;simp only [TK.is] at h2;subst h2;subst h;simp [isAgg,run_underlying h1]
theorem Hb {t:Nat} (h:TyOk P C.τ t) (w:World):(sizeOf t).run P w=.ok (C.size t) w:=by
 obtain ⟨i,z,h1,h2,_⟩:=h.info;simp [sizeOf,typeInfo,h1,h2,Ctx.size]
theorem Qcs {t:Nat} (h:TyOk P C.τ t) (w:World):∃ z,(zeroValue t).run P w=.ok z w∧(∀ F G L,RA F G L (C.τ t).zero z)∧z.cells.size=C.size t∧∀ u∈z.cells.toList,u.oneCell'=true:=by
 obtain ⟨i,z,h1,h2,h3,h4,h5,_,h6,h7⟩:=h.info;exact ⟨z,by simp [zeroValue,typeInfo,h1,h4],h5,h6,h7⟩
section
variable {base:Nat} {pass:Nat→Prop} {F0:Anc} {m:Nat→Nat} {st:AS} {a:Act} {w:World}
theorem Qu (h:SRg base pass F0 m G st a w) {s:Sem Value} {v:Value} {z:AV} (hr:s.run P w=.ok v w) (hz:RA ⟨w,m⟩ G (lk st.objs) z v) :
  L6 P base pass F0 a st.tmps s w z st.objs:=⟨v,w,m,G,hr,h,hz⟩
theorem Fix.le_alloc (h:∀ b,w.heap.size≤b→m b=0) (o:Go.Obj):Fix.le ⟨w,m⟩ ⟨w.alloc o,m⟩:=by
 refine ⟨fun b=>⟨Zr _,fun off ho=>?_⟩,fun b es c hm hb=>?_⟩
 ·rcases Nat.lt_or_ge b w.heap.size with Zv|aY
  ·exact World.cell?_alloc_lt w o ⟨b,off,none⟩ Zv
  ·have:=h b aY;simp only at ho;omega
 ·rcases Nat.lt_or_ge b w.heap.size with Zv|aY
  ·rw [Below.heap_alloc w o b Zv];exact hb
  ·have:=h b aY;simp only at hm;omega
theorem SRg.fresh (h:SRg base pass F0 m G st a w) {k:Nat} (hk:lk st.objs k=none) (o':Obj) (ob:Go.Obj) (hd:Value)
  (Vt:G8 G (lk st.objs) ⟨fun j=>if j=k then some w.heap.size else G.γ j,fun j=>if j=k then hd else G.hd j⟩ (lk (upd st.objs k o'))→Fix.le ⟨w,m⟩ ⟨w.alloc ob,m⟩ →
   Ja ⟨w.alloc ob,m⟩ ⟨fun j=>if j=k then some w.heap.size else G.γ j,fun j=>if j=k then hd else G.hd j⟩ (lk (upd st.objs k o')) k o') :
  G8 G (lk st.objs) ⟨fun j=>if j=k then some w.heap.size else G.γ j,fun j=>if j=k then hd else G.hd j⟩ (lk (upd st.objs k o'))∧Fix.le ⟨w,m⟩ ⟨w.alloc ob,m⟩ ∧
  SRg base pass F0 m ⟨fun j=>if j=k then some w.heap.size else G.γ j,fun j=>if j=k then hd else G.hd j⟩ ⟨st.tmps,upd st.objs k o'⟩ a (w.alloc ob):=by
 have hF:=Fix.le_alloc h.new ob;have key:=h.obj k o' (G':=⟨fun j=>if j=k then some w.heap.size else G.γ j,fun j=>if j=k then hd else G.hd j⟩) hF (fun j hj=>by simp [hj]) (fun o ho=>by rw [hk] at ho;cases ho) (fun hg=>Vt hg hF)
  (fun j o hj hl ho b hb=>⟨Below.heap_alloc w ob b (h.mine j o b hl ho hb).1,rfl⟩) (fun ho b hb=>by
   simp only [if_true,Zb] at hb;subst hb;refine ⟨by simp,.inl h.small,fun j o hj hl ho dD=>?_⟩
   have:=(h.mine j o _ hl ho dD).1;omega) ⟨rfl,rfl,rfl,by simp,fun b hb _=>Below.heap_alloc w ob b (Nat.lt_of_lt_of_le hb h.small)⟩ (fun _ _ _=>rfl) (fun b hb=>h.new b (by simp at hb;omega))
 exact ⟨key.1,hF,key.2⟩
theorem Zes (h:SRg base pass F0 m G st a w) {k e:Nat} {x:AV} {v:Value} {c:Prop} {z:AV} {os:Qh} (hx:RA ⟨w,m⟩ G (lk st.objs) x v)
  (hh:bA C e k x st.objs=some (c,z,os)) (hc:c):L6 P base pass F0 a st.tmps (Instr.box e v) w z os:=by
 unfold bA at hh;split at hh
 ·next ag Qlf hk =>
  simp only [Zb,Zc] at hh;obtain ⟨rfl,rfl,rfl⟩:=hh;obtain ⟨g1,g2,g3⟩:=Ck (ag:=ag) hx hc;obtain ⟨q1,q2,q3⟩:=h.fresh hk (.box ag (x.cells ag (C.size e))) (.cells v.cells e) undef (fun hg hF=>by
   simp only [Ja];refine ⟨w.heap.size,v.cells,e,by simp,heap_alloc_new w _,?_,g3,h.new _ (Zr _)⟩
   exact RAs.mono hF hg g1)
  refine ⟨_,_,m,_,by simp [Instr.box,newVar,newRow];rfl,q3,?_⟩
  simp only [RA,Xw,if_true];exact ⟨rfl,fun _=>⟨_,rfl,rfl⟩⟩
 ·cases hh
theorem Zmh (T:Yd P C.τ) (h:SRg base pass F0 m G st a w) {k e:Nat} {c:Prop} {z:AV} {os:Qh}
  (hh:bA C e k (C.τ e).zero st.objs=some (c,z,os)) (hc:c):L6 P base pass F0 a st.tmps (Instr.alloc e true (.tuple #[])) w z os:=by
 have Qlf:∃ b,C.ag e=some b:=by
  unfold bA at hh;split at hh
  ·next ag Qlf hk=>exact ⟨ag,Qlf⟩
  ·cases hh
 obtain ⟨b,hb⟩:=Qlf;obtain ⟨zv,z1,z2,_,_⟩:=Qcs (Ctx.ag_some T hb) w;obtain ⟨v,w',m',G',r1,r2,r3⟩:=Zes (P:=P) (C:=C) h (z2 ⟨w,m⟩ G (lk st.objs)) hh hc;refine ⟨v,w',m',G',?_,r2,r3⟩;rw [←r1];simp [Instr.alloc,Instr.box,z1]
theorem Au (T:Yd P C.τ) {t:Nat} (ht:C.ag t=some true) {b off:Nat} {vs:List Value} (hl:vs.length=C.size t)
  (hc:∀ j u,vs[j]?=some u→w.cell? ⟨b,off+j,none⟩=some u):(Instr.loadAt t (.pointer (some ⟨b,off,none⟩))).run P w=.ok (.agg vs.toArray) w:=by
 have Is:=run_loadCells_list (P:=P) w ⟨b,off,none⟩ vs (fun j u hu=>by
  rw [show (⟨b,off,none⟩:Addr).add j=⟨b,off+j,none⟩ by unfold Addr.add;split<;>simp_all]
  exact hc j u hu)
 rw [hl] at Is;simp [Instr.loadAt,Instr.sureAddr,loadVar,Zcs T ht,Hb (Ctx.ag_some T ht),Is]
theorem T9 (T:Yd P C.τ) {t:Nat} (ht:C.ag t=some false) {b off:Nat} {u:Value} (hc:w.cell? ⟨b,off,none⟩=some u) :
  (Instr.loadAt t (.pointer (some ⟨b,off,none⟩))).run P w=.ok u w:=by
 simp [Instr.loadAt,Instr.sureAddr,loadVar,Zcs T ht,hc]
theorem bH {α:Type} {l:List α} {f n j:Nat} {u:α} (h:((l.drop f).take n)[j]?=some u):l[f+j]?=some u:=by
 rw [List.getElem?_take] at h;split at h
 ·rw [List.getElem?_drop] at h;exact h
 ·cases h
theorem yY (T:Yd P C.τ) (h:SRg base pass F0 m G st a w) {t:Nat} {p:AV} {v:Value} {c:Prop} {z:AV} {os:Qh} (hp:RA ⟨w,m⟩ G (lk st.objs) p v)
  (hh:Bq C t p st.objs=some (c,z,os)) (hc:c):os=st.objs∧∃ v',(Instr.loadAt t v).run P w=.ok v' w∧RA ⟨w,m⟩ G (lk st.objs) z v':=by
 cases p with
 | d p =>
  cases p with
  | ptr s x =>
   simp only [Bq] at hh;simp only [RA,R] at hp;obtain ⟨b,off,u,rfl,h2,h3,h1,h4,h5⟩:=hp;split at hh
   ·next ht =>
    split at hh
    ·next hs =>
     simp only [Zb,Zc] at hh;obtain ⟨rfl,rfl,rfl⟩:=hh;have hr:=Au (w:=w) T ht (vs:=u.cells.toList) (b:=b) (off:=off) (by simp [h3,hs]) h5
     refine ⟨rfl,_,hr,?_⟩;simp only [RA];simpa using R.asAgg h2 h1
    ·cases hh
   ·next ht =>
    split at hh
    ·next hs =>
     simp only [Zb,Zc] at hh;obtain ⟨rfl,rfl,rfl⟩:=hh;have Zv:0<u.cells.toList.length:=by simp [h3,hs]
     have hg:=Zk Zv;have hr:=T9 (w:=w) T ht (b:=b) (off:=off) (by simpa using h5 0 _ hg)
     refine ⟨rfl,_,hr,?_⟩;simp only [RA];exact R.cell h2 hg
    ·cases hh
   ·cases hh
  | _=>simp [Bq] at hh
 | ref i f =>
  simp only [Bq] at hh;simp only [RA] at hp;split at hh
  ·next ag cells hi =>
   rw [hi] at hp;obtain ⟨b,g1,rfl⟩:=hp.2 rfl;have Vt:=h.objs i _ hi;simp only [Ja] at Vt;obtain ⟨b',cs,ty,q1,q2,q3,q4,q5⟩:=Vt;rw [g1] at q1;injection q1 with q1
   subst q1;have Q5:=RAs.length q3;split at hh
   ·next ht =>
    split at hh
    ·next hs =>
     simp only [Zb,Zc] at hh;obtain ⟨rfl,rfl,rfl⟩:=hh;have hr:=Au (w:=w) T ht (vs:=(cs.toList.drop f).take (C.size t)) (b:=b) (off:=f) (by simp at Q5 ⊢;omega) (fun j u hu=>by
      rw [G6 q2];simpa using bH hu)
     refine ⟨rfl,_,hr,?_⟩;exact tW ((q3.split f).2.split (C.size t)).1 (fun u hu=>q4 u (List.mem_of_mem_drop (List.mem_of_mem_take hu)))
    ·cases hh
   ·next ht =>
    split at hh
    ·next hs =>
     simp only [Zb,Zc] at hh;obtain ⟨rfl,rfl,rfl⟩:=hh;obtain ⟨u,hu,Qsw⟩:=q3.at (Zk hs);have hr:=T9 (w:=w) T ht (b:=b) (off:=f) (by rw [G6 q2];simpa using hu)
     refine ⟨rfl,_,hr,?_⟩;rw [Zd,Zk hs];exact Qsw
    ·cases hh
   ·cases hh
  ·next s x hi =>
   rw [hi] at hp;obtain ⟨b,g1,rfl⟩:=hp.2 rfl;have Vt:=h.objs i _ hi;simp only [Ja] at Vt;obtain ⟨b',u,q1,q2,q3,q4,q5,q6⟩:=Vt;rw [g1] at q1;injection q1 with q1
   subst q1;split at hh
   ·next ht =>
    split at hh
    ·next hs =>
     simp only [Zb,Zc] at hh;obtain ⟨rfl,rfl,rfl⟩:=hh;obtain ⟨rfl,rfl⟩:=hs;have hr:=Au (w:=w) T ht (vs:=u.cells.toList) (b:=b) (off:=0) (by simp [q3]) q6
     refine ⟨rfl,_,hr,?_⟩;simp only [RA];simpa using R.asAgg q2 q4
    ·cases hh
   ·next ht =>
    split at hh
    ·next hs =>
     simp only [Zb,Zc] at hh;obtain ⟨rfl,rfl,rfl⟩:=hh;have Zv:f<u.cells.toList.length:=by simp [q3];exact hs
     have hg:=Zk Zv;have hr:=T9 (w:=w) T ht (b:=b) (off:=f) (by simpa using q6 f _ hg)
     refine ⟨rfl,_,hr,?_⟩;simp only [RA];exact R.cell q2 hg
    ·cases hh
   ·cases hh
  ·cases hh
 | rref i n e f =>
  simp only [Bq] at hh;simp only [RA] at hp;split at hh
  ·next s els k hi =>
   rw [hi] at hp;have Vt:=h.objs i _ hi;simp only [Ja] at Vt;have blk:n=els.length→e<els.length→∃ b cs ty vv,v=.pointer (some ⟨b,e*s+f,none⟩)∧w.heap[b]?=some (.cells cs ty (0,0))∧R ⟨w,m⟩ (el els e) vv∧vv.cells.size=s ∧
     (∀ u∈vv.cells.toList,u.oneCell'=true)∧∀ j u,vv.cells.toList[j]?=some u→cs[e*s+j]?=some u:=by
    intro hn he;obtain ⟨b,g1,g2⟩:=hp.2.2 hn;rcases Vt with ⟨h1,_,rfl,_⟩|⟨b',cap,cs,ty,h1,h2,h3,h4,h5,h6,h7,h8,h9⟩
    ·simp at he
    ·rw [g1] at h1;injection h1 with h1
     subst h1;obtain ⟨vv,r1,r2,r3,r4⟩:=h7.at (Zk he);refine ⟨b,cs,ty,vv,g2,h5,?_,r2,r3,fun j u hu=>?_⟩
     ·unfold el;rw [Zd,Zk he];exact r1
     ·rw [←r4] at hu;have:=bH hu;rw [List.getElem?_take] at this;split at this
      ·simpa using this
      ·cases this
   split at hh
   ·next ht =>
    split at hh
    ·next hs =>
     simp only [Zb,Zc] at hh;obtain ⟨rfl,rfl,rfl⟩:=hh;obtain ⟨rfl,rfl⟩:=hs;obtain ⟨b,cs,ty,vv,rfl,r1,r2,r3,r4,r5⟩:=blk hc.1 hc.2;have hr:=Au (w:=w) T ht (vs:=vv.cells.toList) (b:=b) (off:=e*C.size t+0) (by simp [r3]) (fun j u hu=>by rw [G6 r1,Nat.add_zero];exact r5 j u hu)
     refine ⟨rfl,_,hr,?_⟩;simp only [RA];simpa using R.asAgg r2 r4
    ·cases hh
   ·next ht =>
    split at hh
    ·next hs =>
     simp only [Zb,Zc] at hh;obtain ⟨rfl,rfl,rfl⟩:=hh;obtain ⟨b,cs,ty,vv,rfl,r1,r2,r3,r4,r5⟩:=blk hc.1 hc.2;have Zv:f<vv.cells.toList.length:=by simp [r3];exact hs
     have hg:=Zk Zv;have hr:=T9 (w:=w) T ht (b:=b) (off:=e*s+f) (by rw [G6 r1];exact r5 f _ hg)
     refine ⟨rfl,_,hr,?_⟩;simp only [RA];exact R.cell r2 hg
    ·cases hh
   ·cases hh
  ·cases hh
 | _=>simp [Bq] at hh
theorem Qav (T:Yd P C.τ) (h:SRg base pass F0 m G st a w) {t:Nat} {p:AV} {v:Value} {c:Prop} {z:AV} {os:Qh} (hp:RA ⟨w,m⟩ G (lk st.objs) p v)
  (hh:kX C t p st.objs=some (c,z,os)) (hc:c):os=st.objs∧∃ v',(Instr.loadAt t v).run P w=.ok v' w∧RA ⟨w,m⟩ G (lk st.objs) z v':=by
 unfold kX at hh;split at hh
 ·next i n e f =>
  split at hh
  ·next i' n0 e0 f0 x hk =>
   split at hh
   ·next he =>
    obtain ⟨rfl,rfl⟩:=he;split at hh
    ·next s els k hi ht =>
     simp only [Zb,Zc] at hh;obtain ⟨rfl,rfl,rfl⟩:=hh;obtain ⟨rfl,hn,rfl⟩:=hc;have Vt:=h.objs _ _ hk;simp only [Ja] at Vt;obtain ⟨b,off,v0,h1,h2,h3,h4⟩:=Vt;simp only [RA,hi] at hp h1;obtain ⟨b1,g1,rfl⟩:=hp.2.2 hn;obtain ⟨b2,g2,e2⟩:=h1.2.2 hn;rw [g1] at g2;injection g2 with g2
     subst g2;simp only [Value.pointer.injEq,Zb,Addr.mk.injEq,and_true] at e2;obtain ⟨rfl,rfl⟩:=e2;exact ⟨rfl,v0,T9 (w:=w) T ht h3,h4⟩
    ·cases hh
   ·exact yY T h hp hh hc
  ·exact yY T h hp hh hc
 ·exact yY T h hp hh hc
theorem Zx0 (T:Yd P C.τ) (h:SRg base pass F0 m G st a w) {t:Nat} {p:AV} {v:Value} {c:Prop} {z:AV} {os:Qh} (hp:RA ⟨w,m⟩ G (lk st.objs) p v)
  (hh:kX C t p st.objs=some (c,z,os)) (hc:c):L6 P base pass F0 a st.tmps (Instr.loadAt t v) w z os:=by
 obtain ⟨rfl,v',hr,hz⟩:=Qav (P:=P) T h hp hh hc;exact Qu h hr hz
end
end
section
variable {P:Program} {C:Ctx} {G:Gh}
variable {base:Nat} {pass:Nat→Prop} {F0:Anc} {m:Nat→Nat} {st:AS} {a:Act} {w:World}
theorem pN {g:Nat} {cs:Array Value} {b off:Nat} (h:b≠g):(w.setRow g cs).cell? ⟨b,off,none⟩=w.cell? ⟨b,off,none⟩ :=
 World.cell?_of_block (setRow_other w g b cs h)
theorem Fix.le_setRow {g:Nat} {uQ cs:Array Value} {t:TypeId} (hg:w.heap[g]?=some (.cells uQ t (0,0))) (h:∀ off,off<m g→cs[off]?=uQ[off]?) :
  Fix.le ⟨w,m⟩ ⟨w.setRow g cs,m⟩:=by
 refine ⟨fun b=>⟨Zr _,fun off ho=>?_⟩,fun b es c hm M9=>?_⟩
 ·by_cases hb:b=g
  ·subst hb;rw [G6 (setRow_heap w b uQ cs t (0,0) hg),G6 hg];exact h off ho
  ·exact pN hb
 ·by_cases hb:b=g
  ·subst hb;rw [hg] at M9;cases M9
  ·rw [setRow_other w g b cs hb];exact M9
theorem SRg.write (h:SRg base pass F0 m G st a w) {i b:Nat} {o o':Obj} {uQ cs:Array Value} {t:TypeId} (hi:lk st.objs i=some o) (ho:o.owns=true) (hb:G.γ i=some b)
  (hg:w.heap[b]?=some (.cells uQ t (0,0))) (hm:∀ off,off<m b→cs[off]?=uQ[off]?)
  (hbox:o'.isBox=true→o.isBox=true) (mG:∀ s els' k',o'=.row s els' k'→∃ els k,o=.row s els k∧els.length=els'.length)
  (Vt:Fix.le ⟨w,m⟩ ⟨w.setRow b cs,m⟩→G8 G (lk st.objs) G (lk (upd st.objs i o'))→Ja ⟨w.setRow b cs,m⟩ G (lk (upd st.objs i o')) i o') :
  G8 G (lk st.objs) G (lk (upd st.objs i o'))∧Fix.le ⟨w,m⟩ ⟨w.setRow b cs,m⟩∧SRg base pass F0 m G ⟨st.tmps,upd st.objs i o'⟩ a (w.setRow b cs):=by
 have hF:=Fix.le_setRow hg hm;have Zb8:=h.mine i o b hi ho hb;have key:=h.obj i o' (G':=G) (m':=m) hF (fun _ _=>⟨rfl,rfl⟩) (fun o1 h1=>by
   rw [hi] at h1;injection h1 with h1
   subst h1;refine ⟨fun hx=>⟨hbox hx,rfl⟩,fun s els' k' he=>?_⟩;obtain ⟨els,k,e1,e2⟩:=mG s els' k' he;exact ⟨els,k,e1,by omega,fun _=>⟨rfl,rfl⟩⟩) (fun Cq=>Vt hF Cq)
  (fun j oj Ha hj dB b' hb'=>by
   have:b'≠b:=fun e=>Ha (h.apart j i oj o b hj hi dB ho (e▸hb') hb);exact ⟨setRow_other w b b' cs this,rfl⟩)
  (fun _ b' hb'=>by
   rw [hb] at hb';injection hb' with hb'
   subst hb';exact ⟨by simpa using Zb8.1,Zb8.2,fun j oj Ha hj dB e=>Ha (h.apart j i oj o b hj hi dB ho e hb)⟩)
  ⟨rfl,rfl,rfl,by simp,fun b' Zv hp=>setRow_other w b b' cs (fun e=>by
   subst e;rcases Zb8.2 with h1|h1
   ·omega
   ·exact hp h1)⟩ (fun _ _ _=>rfl) (fun b' aY=>h.new b' (by simpa using aY))
 exact ⟨key.1,hF,key.2⟩
theorem Pa (T:Yd P C.τ) {t:Nat} {bb:Bool} (ht:C.ag t=some bb) {b off:Nat} {uQ:Array Value} {ty:TypeId} {v:Value} (hg:w.heap[b]?=some (.cells uQ ty (0,0)))
  (hs:v.cells.size=C.size t) (M8:off+v.cells.size≤uQ.size) (h1:∀ u∈v.cells.toList,u.oneCell'=true) :
  (Instr.storeAt t (.pointer (some ⟨b,off,none⟩)) v).run P w=.ok () (w.setRow b (uQ.toList.take off++v.cells.toList++uQ.toList.drop (off+v.cells.size)).toArray):=by
 have Jg:=run_storeCells_at P b off ty v.cells.toList 0 uQ w hg (by simpa using M8) h1
 simp only [Nat.add_zero,Array.length_toList] at Jg;simp [Instr.storeAt,Instr.sureAddr,storeVar,Hb (Ctx.ag_some T ht),hs,Jg]
def Zaq (P:Program) (base:Nat) (pass:Nat→Prop) (F0:Anc) (a:Act) (tm:List AV) (s:Sem Unit) (w:World) (os:Qh):Prop :=
 ∃ w' m' G',s.run P w=.ok () w'∧SRg base pass F0 m' G' ⟨tm,os⟩ a w'
theorem Zco (T:Yd P C.τ) (h:SRg base pass F0 m G st a w) {t i f:Nat} {bb:Bool} (ht:C.ag t=some bb) {ag:Bool} {cells:List AV} {x:AV} {v vx:Value}
  (hi:lk st.objs i=some (.box ag cells)) (hp:RA ⟨w,m⟩ G (lk st.objs) (.ref i f) v) (hx:RA ⟨w,m⟩ G (lk st.objs) x vx) (hf:x.fits (C.size t)) (hs:f+C.size t≤cells.length) :
  Zaq P base pass F0 a st.tmps (Instr.storeAt t v vx) w (upd st.objs i (.box ag (Iw cells f (x.cells bb (C.size t))))):=by
 simp only [RA,hi] at hp;obtain ⟨b,g1,rfl⟩:=hp.2 rfl;have Vt:=h.objs i _ hi;simp only [Ja] at Vt;obtain ⟨b',cs,ty,q1,q2,q3,q4,q5⟩:=Vt;rw [g1] at q1;injection q1 with q1
 subst q1;have Q5:=RAs.length q3;obtain ⟨c1,c2,c3⟩:=Ck (ag:=bb) hx hf;have Qmt:(x.cells bb (C.size t)).length=C.size t:=by rw [←RAs.length c1];simpa using c2
 have M8:f+vx.cells.size≤cs.size:=by
  rw [c2];have:=Q5;simp only [Array.length_toList] at this;omega
 have Zhm:=Pa (w:=w) (off:=f) T ht q2 c2 M8 c3;obtain ⟨k1,k2,k3⟩:=h.write (o':=.box ag (Iw cells f (x.cells bb (C.size t)))) (cs:=(cs.toList.take f++vx.cells.toList++cs.toList.drop (f+vx.cells.size)).toArray) hi rfl g1 q2
  (fun off ho=>by rw [show m b=0 from q5] at ho;omega) (fun _=>rfl) (by simp) (by
   intro hF hg;simp only [Ja];refine ⟨b,_,ty,g1,setRow_heap w b cs _ ty (0,0) q2,?_,?_,q5⟩
   ·have e:Iw cells f (x.cells bb (C.size t))=cells.take f++x.cells bb (C.size t)++cells.drop (f+vx.cells.size):=by unfold Iw;rw [Qmt,c2]
    have:=RAs.append (RAs.append (RAs.mono hF hg (q3.split f).1) (RAs.mono hF hg c1)) (RAs.mono hF hg (q3.split (f+vx.cells.size)).2);rw [←e] at this;exact this
   ·intro u hu;simp only [List.mem_append] at hu;rcases hu with (hu|hu)|hu
    ·exact q4 u (List.mem_of_mem_take hu)
    ·exact c3 u hu
    ·exact q4 u (List.mem_of_mem_drop hu))
 exact ⟨_,m,G,Zhm,k3⟩
theorem Rs.set {F:Fix}:∀ {l:List D} {vs:List Value} {k:Nat} {x:D} {v:Value},Rs F l vs→R F x v→Rs F (l.set k x) (vs.set k v)
 | [],_,_,_,_,h,_=>by simp only [Rs] at h;subst h;simp [Rs]
 | y::l,vs,k,x,v,h,hx=>by
  simp only [Rs] at h;obtain ⟨u,r,rfl,h2,h3⟩:=h;cases k with
  | zero=>simp only [Jr,Rs];exact ⟨v,r,rfl,hx,h3⟩
  | succ k=>simp only [J3,Rs];exact ⟨u,_,rfl,h2,Rs.set h3 hx⟩
theorem R.setCell {F:Fix} {x y:D} {v u:Value} {f:Nat} (h:R F x v) (h1:∀ z∈v.cells.toList,z.oneCell'=true) (hf:f<v.cells.size) (hu:R F y u) (Qmg:u.oneCell'=true) :
  ∃ v',R F (x.setCell f y) v'∧v'.cells.toList=v.cells.toList.set f u∧∀ z∈v'.cells.toList,z.oneCell'=true:=by
 have all:∀ z∈v.cells.toList.set f u,z.oneCell'=true:=by
  intro z hz;rcases List.mem_or_eq_of_mem_set hz with hz|hz
  ·exact h1 z hz
  ·rw [hz];exact Qmg
 cases x with
 | agg l =>
  simp only [R] at h;obtain ⟨cs,rfl,h2,_⟩:=h;simp only [Value.cells] at all;refine ⟨.agg (cs.set f u).toArray,?_,by simp [Value.cells],by simpa [Value.cells] using all⟩
  simp only [D.setCell,R];exact ⟨_,rfl,Rs.set h2 hu,by simpa using all⟩
 | _ =>
  have hv:v.cells=#[v]:=by
   cases v with
   | agg cs=>simp [R,Value.oneCell'] at h
   | _=>rfl
  rw [hv] at hf ⊢;have Qix:f=0:=by simpa using hf
  subst Qix;exact ⟨u,hu,by simp [N9 Qmg],by simp [N9 Qmg,Qmg]⟩
theorem wR {α:Type} (l:List α) (k:Nat) (v:α) (hk:k<l.length):l.take k++[v]++l.drop (k+1)=l.set k v:=by
 rw [List.set_eq_take_append_cons_drop,if_pos hk];simp
theorem aF (T:Yd P C.τ) (h:SRg base pass F0 m G st a w) {t:Nat} {p x:AV} {v vx:Value} {c:Prop} {z:AV} {os:Qh} (hp:RA ⟨w,m⟩ G (lk st.objs) p v) (hx:RA ⟨w,m⟩ G (lk st.objs) x vx)
  (hh:Hq C t p x st.objs=some (c,z,os)) (hc:c):z=.dead∧Zaq P base pass F0 a st.tmps (Instr.storeAt t v vx) w os:=by
 cases p with
 | ref i f =>
  simp only [Hq] at hh;split at hh
  ·next ag cells hi =>
   split at hh
   ·next ht =>
    split at hh
    ·next hs =>
     simp only [Zb,Zc] at hh;obtain ⟨rfl,rfl,rfl⟩:=hh;exact ⟨rfl,Zco T h ht hi hp hx hc hs⟩
    ·cases hh
   ·next ht =>
    split at hh
    ·next hs =>
     simp only [Zb,Zc] at hh;obtain ⟨rfl,rfl,rfl⟩:=hh;have hb:=Zco (P:=P) T h ht hi hp hx (by rw [hc.2];exact hc.1) (by rw [hc.2];omega)
     rw [hc.2] at hb;exact ⟨rfl,hb⟩
    ·cases hh
   ·cases hh
  ·cases hh
 | rref i n e f =>
  simp only [Hq] at hh;split at hh
  ·next s0 els0 k0 c1 y o1 _ hpur =>
   split at hh
   ·next s els k hi =>
    have main:c1→n=els.length→e<els.length→k≤e→∃ (m1:Nat→Nat) (b cap:Nat) (cs:Array Value) (ty:TypeId),SRg base pass F0 m1 G ⟨st.tmps,o1⟩ a w∧R ⟨w,m1⟩ y vx∧v=.pointer (some ⟨b,e*s+f,none⟩)∧G.γ i=some b ∧
      G.hd i=.slice (some ⟨b,0,none⟩) els.length cap∧els.length≤cap∧cap≤maxLen∧w.heap[b]?=some (.cells cs ty (0,0))∧cs.size=cap*s∧RE ⟨w,m1⟩ s els (cs.toList.take (els.length*s))∧m1 b=k*s∧k≤els.length:=by
     intro qG hn he hk;obtain ⟨m1,k1,k2,k3,k4⟩:=Sk h hpur qG hx;have hp':=RA.mono k2 k3 hp;simp only [RA,hi] at hp';obtain ⟨b,g1,g2⟩:=hp'.2.2 hn;have Vt:=k1.objs i _ hi;simp only [Ja] at Vt;rcases Vt with ⟨_,_,rfl,_⟩|⟨b',cap,cs,ty,h1,h2,h3,h4,h5,h6,h7,h8,h9⟩
     ·simp at he
     ·rw [g1] at h1;injection h1 with h1
      subst h1;exact ⟨m1,b,cap,cs,ty,k1,k4,g2,g1,h2,h3,h4,h5,h6,h7,h8,h9⟩
    have fin:∀ (m1:Nat→Nat) (b cap:Nat) (cs:Array Value) (ty:TypeId),SRg base pass F0 m1 G ⟨st.tmps,o1⟩ a w→G.γ i=some b→G.hd i=.slice (some ⟨b,0,none⟩) els.length cap→els.length≤cap→cap≤maxLen →
      w.heap[b]?=some (.cells cs ty (0,0))→cs.size=cap*s→RE ⟨w,m1⟩ s els (cs.toList.take (els.length*s))→m1 b=k*s→k≤els.length→e<els.length→k≤e →
      ∀ (d:D) (vd:Value) (new:Array Value),R ⟨w,m1⟩ d vd→vd.cells.size=s→(∀ u∈vd.cells.toList,u.oneCell'=true) →
       new.toList=cs.toList.take (e*s)++vd.cells.toList++cs.toList.drop ((e+1)*s) →
       SRg base pass F0 m1 G ⟨st.tmps,upd o1 i (.row s (els.set e d) k)⟩ a (w.setRow b new):=by
     intro m1 b cap cs ty k1 h1 h2 h3 h4 h5 h6 h7 h8 h9 he hk d vd new hd Qou Jbn N5;have Qfa:(e+1)*s≤els.length*s:=Nat.mul_le_mul_right _ (by omega)
     have uD:els.length*s≤cs.size:=by rw [h6];exact Nat.mul_le_mul_right _ h3
     have Zm1:(e+1)*s=e*s+s:=by rw [Nat.add_mul,Nat.one_mul]
     have My:new.size=cs.size:=by
      rw [←Array.length_toList,N5];simp [Qou];omega
     have jV:k*s≤e*s:=Nat.mul_le_mul_right _ hk;refine (k1.write (o':=.row s (els.set e d) k) (cs:=new) hi rfl h1 h5 (fun off ho=>?_) (by simp [Obj.isBox]) (fun s' els' k' he'=>?_) (fun hF hg=>?_)).2.2
     ·rw [h8] at ho;have:off<e*s:=by omega
      rw [←Array.getElem?_toList,N5,List.append_assoc,List.getElem?_append_left (by simp;omega),List.getElem?_take,if_pos this]
      simp
     ·simp only [Obj.row.injEq] at he';obtain ⟨rfl,rfl,rfl⟩:=he';exact ⟨els,k,rfl,by simp⟩
     ·simp only [Ja];refine .inr ⟨b,cap,new,ty,h1,by simpa using h2,by simpa using h3,h4,setRow_heap w b cs new ty (0,0) h5,by rw [My,h6],?_,h8,by simpa using h9⟩
      have g:=RE.set (RE.mono hF h7) he (hd.mono hF) Qou Jbn;have e1:(cs.toList.take (els.length*s)).take (e*s)=cs.toList.take (e*s):=by rw [List.take_take];congr 1;omega
      have e2:new.toList.take ((els.set e d).length*s)=(cs.toList.take (els.length*s)).take (e*s)++vd.cells.toList++(cs.toList.take (els.length*s)).drop ((e+1)*s):=by
       rw [e1,N5,List.length_set];have Zhs:(cs.toList.take (e*s)++vd.cells.toList).length=(e+1)*s:=by simp [Qou];omega
       rw [List.take_append,List.take_of_length_le (by omega),Zhs,List.drop_take]
      rw [e2];exact g
    split at hh
    ·next ht =>
     split at hh
     ·next hs =>
      simp only [Zb,Zc] at hh;obtain ⟨rfl,rfl,rfl⟩:=hh;obtain ⟨qG,hn,he,hk,M8⟩:=hc;obtain ⟨rfl,rfl⟩:=hs;obtain ⟨m1,b,cap,cs,ty,k1,k4,rfl,h1,h2,h3,h4,h5,h6,h7,h8,h9⟩:=main qG hn he hk;obtain ⟨f1,f2⟩:=R.cellsD k4 M8;have Qfa:(e+1)*C.size t≤els.length*C.size t:=Nat.mul_le_mul_right _ (by omega)
      have uD:els.length*C.size t≤cs.size:=by rw [h6];exact Nat.mul_le_mul_right _ h3
      have Zm1:(e+1)*C.size t=e*C.size t+C.size t:=by rw [Nat.add_mul,Nat.one_mul]
      have Zhm:=Pa (w:=w) (off:=e*C.size t+0) T ht h5 f1 (by omega) f2
      refine ⟨rfl,_,m1,G,Zhm,fin m1 b cap cs ty k1 h1 h2 h3 h4 h5 h6 h7 h8 h9 he hk y vx _ k4 f1 f2 ?_⟩;simp [f1,Zm1]
     ·cases hh
    ·next ht =>
     split at hh
     ·next hs =>
      simp only [Zb,Zc] at hh;obtain ⟨rfl,rfl,rfl⟩:=hh;obtain ⟨qG,hn,he,hk,M8,Jg⟩:=hc;obtain ⟨m1,b,cap,cs,ty,k1,k4,rfl,h1,h2,h3,h4,h5,h6,h7,h8,h9⟩:=main qG hn he hk;obtain ⟨f1,f2⟩:=R.cellsD k4 M8;have Qfa:(e+1)*s≤els.length*s:=Nat.mul_le_mul_right _ (by omega)
      have uD:els.length*s≤cs.size:=by rw [h6];exact Nat.mul_le_mul_right _ h3
      have Zm1:(e+1)*s=e*s+s:=by rw [Nat.add_mul,Nat.one_mul]
      have Zhm:=Pa (w:=w) (off:=e*s+f) T ht h5 (by rw [f1,Jg]) (by omega) f2
      have Zhs:vx.cells.toList.length=1:=by simpa using f1
      obtain ⟨u,hu⟩:∃ u,vx.cells.toList=[u]:=by
       match vx.cells.toList,Zhs with
       | [u],_=>exact ⟨u,rfl⟩
      have Qmg:u.oneCell'=true:=f2 u (by rw [hu];simp)
      have Qsw:R ⟨w,m1⟩ (y.cell 0) u:=R.cell k4 (by rw [hu];rfl)
      obtain ⟨vv,r1,r2,r3,r4⟩:=h7.at (Zk he);have aA:el els e=els[e]:=by unfold el;rw [Zd,Zk he];rfl
      obtain ⟨v',w1,w2,w3⟩:=R.setCell (f:=f) r1 r3 (by omega) Qsw Qmg
      rw [←aA] at w1;refine ⟨rfl,_,m1,G,Zhm,fin m1 b cap cs ty k1 h1 h2 h3 h4 h5 h6 h7 h8 h9 he hk _ v' _ w1 ?_ w3 ?_⟩
      ·rw [←Array.length_toList,w2];simpa using r2
      ·rw [w2,←r4,hu];simp only [f1];have a1:((cs.toList.take (els.length*s)).drop (e*s)).take s=(cs.toList.drop (e*s)).take s:=by
        rw [List.drop_take,List.take_take]
        congr 1
        omega
       rw [a1];have Zmz:((cs.toList.drop (e*s)).take s).length=s:=by simp;omega
       rw [←wR _ f u (by omega)]
       have a2:cs.toList.take (e*s+f)=cs.toList.take (e*s)++((cs.toList.drop (e*s)).take s).take f:=by
        rw [List.take_add,List.take_take]
        congr 2
        omega
       have a3:cs.toList.drop (e*s+f+1)=((cs.toList.drop (e*s)).take s).drop (f+1)++cs.toList.drop ((e+1)*s):=by
        have e1:cs.toList.drop (e*s+f+1)=(cs.toList.drop (e*s)).drop (f+1):=by rw [List.drop_drop];congr 1
        have e2:cs.toList.drop ((e+1)*s)=(cs.toList.drop (e*s)).drop s:=by rw [List.drop_drop,Zm1]
        rw [e1,e2]
        conv=>lhs;rw [←List.take_append_drop s (cs.toList.drop (e*s))]
        rw [List.drop_append,Zmz,show f+1-s=0 by omega,List.drop_zero]
       rw [a2,a3];simp [List.append_assoc]
     ·cases hh
    ·cases hh
   ·cases hh
  ·cases hh
 | _=>simp [Hq] at hh
theorem Zz4:∀ (l:Qh) (i:Nat) (o o':Obj),upd (upd l i o) i o'=upd l i o'
 | [],i,o,o'=>by simp [upd]
 | (j,p)::r,i,o,o'=>by
  by_cases h:i=j
  ·subst h;simp [upd]
  ·simp only [upd,if_neg h,Zz4 r i o o']
theorem SRg.note (h:SRg base pass F0 m G st a w) {K:Nat} {o':Obj} (ho:o'.owns=false) (hb:o'.isBox=false) (hr:∀ s els k,o'≠.row s els k)
  (Vt:G8 G (lk st.objs) G (lk (upd st.objs K o'))→Ja ⟨w,m⟩ G (lk (upd st.objs K o')) K o'):G8 G (lk st.objs) G (lk (upd st.objs K o'))∧SRg base pass F0 m G ⟨st.tmps,upd st.objs K o'⟩ a w:=by
 refine h.obj K o' (Fix.le_refl _) (fun _ _=>⟨rfl,rfl⟩) (fun o _=>⟨fun hx=>?_,fun s els' k' he=>?_⟩) Vt (fun _ _ _ _ _ _ _=>⟨rfl,rfl⟩) (fun hx=>?_) (Frame.refl _ _ _) (fun _ _ _=>rfl) h.new
 ·rw [hb] at hx;cases hx
 ·exact absurd he (hr s els' k')
 ·rw [ho] at hx;cases hx
theorem Qck (T:Yd P C.τ) (h:SRg base pass F0 m G st a w) {t i n e f s k:Nat} {els:List D} {v vx:Value} (hi:lk st.objs i=some (.row s els k)) (hp:RA ⟨w,m⟩ G (lk st.objs) (.rref i n e f) v) (Zb4:vx.oneCell'=true)
  (hn:n=els.length) (he:e<els.length) (hk:k≤e) (hs:f<s) (ht:C.ag t=some false) (Jg:C.size t=1) :
  ∃ (b:Nat) (w':World),(Instr.storeAt t v vx).run P w=.ok () w'∧v=.pointer (some ⟨b,e*s+f,none⟩)∧G.γ i=some b∧w'.cell? ⟨b,e*s+f,none⟩=some vx∧Fix.le ⟨w,m⟩ ⟨w',m⟩ ∧
   G8 G (lk st.objs) G (lk (upd st.objs i (.row s (els.set e ((el els e).setCell f .any)) k)))∧SRg base pass F0 m G ⟨st.tmps,upd st.objs i (.row s (els.set e ((el els e).setCell f .any)) k)⟩ a w':=by
 have hp':=hp;simp only [RA,hi] at hp';obtain ⟨b,h1,rfl⟩:=hp'.2.2 hn;have Vt:=h.objs i _ hi;simp only [Ja] at Vt;rcases Vt with ⟨_,_,rfl,_⟩|⟨b',cap,cs,ty,h1',h2,h3,h4,h5,h6,h7,h8,h9⟩
 ·simp at he
 rw [h1] at h1';injection h1' with h1'
 subst h1';have dC:=N9 Zb4;have f1:vx.cells.size=1:=by rw [dC];rfl
 have f2:∀ u∈vx.cells.toList,u.oneCell'=true:=by rw [dC];simpa using Zb4
 have Qfa:(e+1)*s≤els.length*s:=Nat.mul_le_mul_right _ (by omega)
 have uD:els.length*s≤cs.size:=by rw [h6];exact Nat.mul_le_mul_right _ h3
 have Zm1:(e+1)*s=e*s+s:=by rw [Nat.add_mul,Nat.one_mul]
 have jV:k*s≤e*s:=Nat.mul_le_mul_right _ hk;have Zhm:=Pa (w:=w) (off:=e*s+f) T ht h5 (by rw [f1,Jg]) (by rw [f1];omega) f2
 have Qsw:R ⟨w,m⟩ .any vx:=by simpa only [R] using Zb4
 obtain ⟨vv,r1,r2,r3,r4⟩:=h7.at (Zk he);have aA:el els e=els[e]:=by unfold el;rw [Zd,Zk he];rfl
 obtain ⟨v',w1,w2,w3⟩:=R.setCell (f:=f) r1 r3 (by omega) Qsw Zb4
 rw [←aA] at w1;obtain ⟨new,N5⟩:∃ new:Array Value,new=(cs.toList.take (e*s+f)++vx.cells.toList++cs.toList.drop (e*s+f+1)).toArray:=⟨_,rfl⟩;have Qou:v'.cells.size=s:=by
  rw [←Array.length_toList,w2];simpa using r2
 have Qs7:new.toList=cs.toList.take (e*s)++v'.cells.toList++cs.toList.drop ((e+1)*s):=by
  rw [N5,w2,←r4,dC];have a1:((cs.toList.take (els.length*s)).drop (e*s)).take s=(cs.toList.drop (e*s)).take s:=by
   rw [List.drop_take,List.take_take]
   congr 1
   omega
  rw [a1];have Zmz:((cs.toList.drop (e*s)).take s).length=s:=by simp;omega
  rw [←wR _ f vx (by omega)]
  have a2:cs.toList.take (e*s+f)=cs.toList.take (e*s)++((cs.toList.drop (e*s)).take s).take f:=by
   rw [List.take_add,List.take_take]
   congr 2
   omega
  have a3:cs.toList.drop (e*s+f+1)=((cs.toList.drop (e*s)).take s).drop (f+1)++cs.toList.drop ((e+1)*s):=by
   have e1:cs.toList.drop (e*s+f+1)=(cs.toList.drop (e*s)).drop (f+1):=by rw [List.drop_drop];congr 1
   have e2:cs.toList.drop ((e+1)*s)=(cs.toList.drop (e*s)).drop s:=by rw [List.drop_drop,Zm1]
   rw [e1,e2]
   conv=>lhs;rw [←List.take_append_drop s (cs.toList.drop (e*s))]
   rw [List.drop_append,Zmz,show f+1-s=0 by omega,List.drop_zero]
  rw [a2,a3];simp [List.append_assoc]
 have My:new.size=cs.size:=by
  rw [←Array.length_toList,Qs7];simp [Qou];omega
 have Qvv:=h.write (o':=.row s (els.set e ((el els e).setCell f .any)) k) (cs:=new) hi rfl h1 h5 (fun off ho=>?_) (by simp [Obj.isBox]) (fun s' els' k' he'=>?_) (fun hF hg=>?_)
 ·refine ⟨b,w.setRow b new,?_,rfl,h1,?_,Qvv.2.1,Qvv.1,Qvv.2.2⟩
  ·rw [N5];simpa [f1] using Zhm
  ·rw [G6 (setRow_heap w b cs new ty (0,0) h5)];rw [←Array.getElem?_toList,N5,dC];simp;rw [List.getElem?_append_right (by simp;omega)]
   have:e*s+f-(cs.toList.take (e*s+f)).length=0:=by simp;omega
   rw [this];rfl
 ·rw [h8] at ho;have:off<e*s:=by omega
  rw [←Array.getElem?_toList,Qs7,List.append_assoc,List.getElem?_append_left (by simp;omega),List.getElem?_take,if_pos this]
  simp
 ·simp only [Obj.row.injEq] at he';obtain ⟨rfl,rfl,rfl⟩:=he';exact ⟨els,k,rfl,by simp⟩
 ·simp only [Ja];refine .inr ⟨b,cap,new,ty,h1,by simpa using h2,by simpa using h3,h4,setRow_heap w b cs new ty (0,0) h5,by rw [My,h6],?_,h8,by simpa using h9⟩
  have g:=RE.set (RE.mono hF h7) he (w1.mono hF) Qou w3;have e1:(cs.toList.take (els.length*s)).take (e*s)=cs.toList.take (e*s):=by rw [List.take_take];congr 1;omega
  have e2:new.toList.take ((els.set e ((el els e).setCell f .any)).length*s)=(cs.toList.take (els.length*s)).take (e*s)++v'.cells.toList++(cs.toList.take (els.length*s)).drop ((e+1)*s):=by
   rw [e1,Qs7,List.length_set];have Zhs:(cs.toList.take (e*s)++v'.cells.toList).length=(e+1)*s:=by simp [Qou];omega
   rw [List.take_append,List.take_of_length_le (by omega),Zhs,List.drop_take]
  rw [e2];exact g
theorem Ziu (T:Yd P C.τ) (h:SRg base pass F0 m G st a w) {t:Nat} {p x:AV} {v vx:Value} {c:Prop} {z:AV} {os:Qh} (hp:RA ⟨w,m⟩ G (lk st.objs) p v) (hx:RA ⟨w,m⟩ G (lk st.objs) x vx)
  (hh:lP C t p x st.objs=some (c,z,os)) (hc:c):z=.dead∧Zaq P base pass F0 a st.tmps (Instr.storeAt t v vx) w os:=by
 unfold lP at hh;split at hh
 ·next i n e f j jm =>
  split at hh
  ·next e0 f0 hk =>
   split at hh
   ·next Qix =>
    split at hh
    ·next s els k hi ht =>
     split at hh
     ·next hs =>
      simp only [Zb,Zc] at hh;obtain ⟨rfl,rfl,rfl⟩:=hh;obtain ⟨rfl,Ni,hn,he,Jg⟩:=hc;subst Qix;have Zb4:vx.oneCell'=true:=by simp only [RA] at hx;exact hx.1
      obtain ⟨b,w',Zhm,rfl,hγ,dC,hF,Cq,mF⟩:=Qck (P:=P) T h hi hp Zb4 hn he Ni hs ht Jg;have Zbb:lk (upd st.objs i (.row s (els.set e ((el els e).setCell f0 .any)) k)) i=some (.row s (els.set e ((el els e).setCell f0 .any)) k):=by rw [Xw,if_pos rfl]
      have Kh:=mF.objs i _ Zbb;simp only [Ja] at Kh;rcases Kh with ⟨q1,_⟩|⟨b',cap,cs,ty,q1,q2,q3,q4,q5,q6,q7,q8,q9⟩
      ·rw [hγ] at q1;cases q1
      rw [hγ] at q1;injection q1 with q1
      subst q1;have Qiu:m b≤(e+1)*s:=by rw [q8];exact Nat.mul_le_mul_right _ (by omega)
      obtain ⟨Qzj,aX⟩:=mF.bump (o':=.row s (els.set e ((el els e).setCell f0 .any)) (e+1)) (n:=(e+1)*s) Zbb rfl hγ Qiu (by simp [Obj.isBox]) (by
       intro s' els' k' he';simp only [Obj.row.injEq] at he';obtain ⟨rfl,rfl,_⟩:=he';exact ⟨k,rfl⟩) (by
       intro hF' _;simp only [Ja];exact .inr ⟨b,cap,cs,ty,hγ,q2,q3,q4,q5,q6,RE.mono hF' q7,by simp,by simp;omega⟩)
      have Qp5:=Fix.le_bump (w:=w') Qiu;have Qk4:=RA.mono Qp5 Qzj (RA.mono hF Cq hp);have aZ:=RA.mono Qp5 Qzj (RA.mono hF Cq hx);obtain ⟨Jcn,Ze2⟩:=aX.note (K:=50000+i) (o':=.hole i n e f0 (.sl j jm)) rfl rfl (by intro _ _ _ h;cases h) (fun hg=>by
       simp only [Ja];refine ⟨b,e*s+f0,vx,RA.mono (Fix.le_refl _) hg Qk4,?_,dC,RA.mono (Fix.le_refl _) hg aZ⟩;simp only [if_true];rw [Nat.add_mul,Nat.one_mul];omega)
      have hu:upd (upd st.objs i (.row s (els.set e ((el els e).setCell f0 .any)) k)) i (.row s (els.set e ((el els e).setCell f0 .any)) (e+1))=upd st.objs i (.row s (els.set e ((el els e).setCell f0 .any)) (e+1)):=Zz4 _ _ _ _;rw [hu] at Ze2;exact ⟨rfl,_,_,G,Zhm,Ze2⟩
     ·cases hh
    ·cases hh
   ·exact aF T h hp hx hh hc
  ·exact aF T h hp hx hh hc
 ·exact aF T h hp hx hh hc
theorem SRg.fill (h:SRg base pass F0 m G st a w) {K i n e f s k:Nat} {x:AV} {c:Prop} {d:D} {os:Qh} {els:List D} (hk:lk st.objs K=some (.hole i n e f x)) (hp:pur 60 x st.objs=some (c,d,os)) (hc:c)
  (hi:lk os i=some (.row s els k)) (hn:n=els.length) (he:e<els.length) (hf:f<s) :
  ∃ m',SRg base pass F0 m' G ⟨st.tmps,upd os i (.row s (els.set e ((el els e).setCell f d)) k)⟩ a w:=by
 have Kh:=h.objs K _ hk;simp only [Ja] at Kh;obtain ⟨b,off,v,g1,g2,g3,g4⟩:=Kh;have aW:v.oneCell'=true∨True:=.inr trivial;obtain ⟨m',h1,hF,hg,hr⟩:=Sk h hp hc g4;have g1':=RA.mono hF hg g1;simp only [RA,hi] at g1';obtain ⟨b2,e1,e2⟩:=g1'.2.2 hn;simp only [Value.pointer.injEq,Zb,Addr.mk.injEq,and_true] at e2;obtain ⟨rfl,rfl⟩:=e2;have mG:=h1.objs i _ hi;simp only [Ja] at mG;rcases mG with ⟨q1,_⟩|⟨b',cap,cs,ty,q1,q2,q3,q4,q5,q6,q7,q8,q9⟩
 ·rw [e1] at q1;cases q1
 rw [e1] at q1;injection q1 with q1
 subst q1;obtain ⟨vv,r1,r2,r3,r4⟩:=q7.at (Zk he);have aA:el els e=els[e]:=by unfold el;rw [Zd,Zk he];rfl
 have Qfa:(e+1)*s≤els.length*s:=Nat.mul_le_mul_right _ (by omega)
 have Zm1:(e+1)*s=e*s+s:=by rw [Nat.add_mul,Nat.one_mul]
 rw [G6 q5] at g3;have Qss:vv.cells.toList[f]?=some v:=by
  rw [←r4,List.getElem?_take,if_pos hf,List.getElem?_drop,List.getElem?_take,if_pos (by omega)]
  simpa using g3
 have Qst:v.oneCell'=true:=r3 v (List.mem_of_getElem? Qss);obtain ⟨v',w1,w2,w3⟩:=R.setCell (f:=f) r1 r3 (by omega) hr Qst
 have K8:v'.cells.toList=vv.cells.toList:=by
  rw [w2];refine List.ext_getElem? fun j=>?_;rw [List.getElem?_set];split
  ·next hj =>
   subst hj;rw [Qss];have:f<vv.cells.toList.length:=(List.getElem?_eq_some_iff.1 Qss).1;rw [if_pos this]
  ·rfl
 rw [←aA] at w1;refine ⟨m',(h1.obj i (.row s (els.set e ((el els e).setCell f d)) k) (G':=G) (Fix.le_refl _) (fun _ _=>⟨rfl,rfl⟩) (fun o ho=>?_) (fun Cq=>?_) (fun _ _ _ _ _ _ _=>⟨rfl,rfl⟩) (fun _ b' hb'=>?_) (Frame.refl _ _ _) (fun _ _ _=>rfl) h1.new).2⟩
 ·simp only at ho;rw [hi] at ho;injection ho with ho
  subst ho;refine ⟨fun hx=>by simp [Obj.isBox] at hx,fun s' els' k' he'=>?_⟩
  simp only [Obj.row.injEq] at he';obtain ⟨rfl,rfl,rfl⟩:=he';exact ⟨els,k,rfl,by simp,fun _=>⟨rfl,rfl⟩⟩
 ·simp only [Ja];refine .inr ⟨b,cap,cs,ty,e1,by simpa using q2,by simpa using q3,q4,q5,q6,?_,q8,by simpa using q9⟩
  have g:=RE.set q7 he w1 (by rw [←Array.length_toList,K8];simpa using r2) w3
  rw [List.length_set];rw [K8,←r4] at g;have hl:e*s+s≤(cs.toList.take (els.length*s)).length:=by
   rw [RE.length q7];omega
  rw [Zm1] at g;rw [List.append_assoc] at g;have e3:(List.drop (e*s) (cs.toList.take (els.length*s))).take s++List.drop (e*s+s) (cs.toList.take (els.length*s))=List.drop (e*s) (cs.toList.take (els.length*s)):=by
   rw [←List.drop_drop];exact List.take_append_drop _ _
  rw [e3,List.take_append_drop] at g;exact g
 ·have:=h1.mine i _ b' hi rfl hb';exact ⟨this.1,this.2,fun j oj Ha hj dB e=>Ha (h1.apart j i oj _ b' hj hi dB rfl e hb')⟩
theorem SRg.back (h:SRg base pass F0 m G st a w) {st':AS} (hw:Qvt st st'):∃ m' G',SRg base pass F0 m' G' st' a w:=by
 rcases hw with hw|⟨k,i,j,hw⟩|⟨i,hw⟩|⟨q,i,j,hw⟩
 ·exact ⟨_,_,h.weak hw⟩
 ·unfold Qsh at hw;split at hw
  ·next i' n hk =>
   obtain ⟨rfl,h1,h2,h3,h4,h5,h6,h7⟩:=hw;exact ⟨_,_,(h.weak h1).ren hk h2 h3 h4 h5 h6 h7⟩
  ·exact hw.elim
 ·unfold Qsi at hw;split at hw
  ·next i' n e f x hk =>
   split at hw
   ·next c d os hp =>
    split at hw
    ·next s els k hi =>
     obtain ⟨hc,rfl,hn,he,hf,h1⟩:=hw;obtain ⟨m',hs⟩:=h.fill hk hp hc hi hn he hf;exact ⟨_,_,hs.weak h1⟩
    ·exact hw.elim
   ·exact hw.elim
  ·exact hw.elim
 ·unfold Qvs at hw;split at hw
  ·next ag i' n hq =>
   obtain ⟨rfl,h1,h2,h3,h4,h5,h6,h7⟩:=hw;exact ⟨_,_,(h.weak h1).renC hq h2 h3 h4 h5 h6 h7⟩
  ·exact hw.elim
end
section
variable {P:Program} {C:Ctx} {G:Gh}
variable {base:Nat} {pass:Nat→Prop} {F0:Anc} {m:Nat→Nat} {st:AS} {a:Act} {w:World}
theorem Cm (b off n:Nat):(⟨b,off,none⟩:Addr).add n=⟨b,off+n,none⟩:=by unfold Addr.add;split<;>simp_all
theorem Qfg.part {F:Fix} {b off k n:Nat} {vs us:List Value} (h:Qfg F b off vs) (hu:∀ j u,us[j]?=some u→vs[k+j]?=some u) (hl:us.length=n) (hk:k+n≤vs.length):Qfg F b (off+k) us:=by
 obtain ⟨h1,h2⟩:=h;refine ⟨by omega,fun j u hj=>?_⟩
 rw [Nat.add_assoc];exact h2 _ _ (hu j u hj)
theorem Zjf {F:Fix} {b off s k:Nat} {x:D} {u:Value} (h2:R F x u) (h3:u.cells.size=s) (h1:∀ y∈u.cells.toList,y.oneCell'=true) (hm:Qfg F b off u.cells.toList) (hk:k<s) :
  R F (.ptr 1 (x.cell k)) (.pointer (some ⟨b,off+k,none⟩)):=by
 have Zv:k<u.cells.toList.length:=by simp;omega
 have hg:=Zk Zv;have h1':=h1 _ (List.getElem_mem Zv);simp only [R];refine ⟨b,off+k,u.cells.toList[k],rfl,R.cell h2 hg,by rw [N9 h1'];rfl,fun y hy=>?_,?_⟩
 ·rw [N9 h1'] at hy;simp only [Zt] at hy;rw [hy];exact h1'
 rw [N9 h1'];exact hm.part (n:=1) (fun j y hj=>by
  cases j with
  | zero=>simp only [List.getElem?_cons_zero,Zb] at hj;subst hj;exact hg
  | succ j=>simp at hj) rfl (by omega)
theorem uS (T:Yd P C.τ) (h:SRg base pass F0 m G st a w) {t f:Nat} {p:AV} {v:Value} {c:Prop} {z:AV} {os:Qh} (hp:RA ⟨w,m⟩ G (lk st.objs) p v)
  (hh:Nt C t p f st.objs=some (c,z,os)) (hc:c):L6 P base pass F0 a st.tmps (Instr.fieldAt t v f) w z os:=by
 unfold Nt at hh;split at hh
 ·next off sz hf =>
  unfold Ctx.fieldAt at hf;split at hf
  ·next fs hk =>
   obtain ⟨d,hd,X7⟩:=T.kind hk rfl;simp only [TK.is] at X7;obtain ⟨fields,rfl,hl,Qon⟩:=X7;have Zv:f<fields.size:=by
    have:=(List.getElem?_eq_some_iff.1 hf).1;omega
   obtain ⟨g1,g2,g3,g4⟩:=Qon f fields[f] (off,sz) (Array.getElem?_eq_getElem Zv) hf;simp only at g1 g2 g3;have run:∀ b o,(Instr.fieldAt t (.pointer (some ⟨b,o,none⟩)) f).run P w=.ok (.pointer (some ⟨b,o+off,none⟩)) w:=by
    intro b o;cases hi:P.info? fields[f].type with
    | none=>simp [hi] at g2
    | some i =>
     have My:i.size=sz:=by simpa [hi] using g2
     have hn:i.size≠0:=by omega
     simp [Instr.fieldAt,run_underlying hd,Array.getElem?_eq_getElem Zv,Instr.sureAddr,fieldPlace,sizeOf,typeInfo,hi,hn,g1,Cm]
   split at hh
   ·next i f0 =>
    split at hh
    ·next ob hi =>
     split at hh
     ·next hb =>
      simp only [Zb,Zc] at hh;obtain ⟨rfl,rfl,rfl⟩:=hh;simp only [RA,hi] at hp;obtain ⟨b,q1,rfl⟩:=hp.2 hb;refine Qu h (run b f0) ?_;simp only [RA,hi];exact ⟨rfl,fun _=>⟨b,q1,rfl⟩⟩
     ·cases hh
    ·cases hh
   ·next i n e f0 =>
    split at hh
    ·next s els k hi =>
     simp only [Zb,Zc] at hh;obtain ⟨rfl,rfl,rfl⟩:=hh;simp only [RA,hi] at hp;obtain ⟨b,q1,rfl⟩:=hp.2.2 hc;refine Qu h (run b _) ?_;simp only [RA,hi];exact ⟨rfl,hp.2.1,fun _=>⟨b,q1,by rw [Nat.add_assoc]⟩⟩
    ·cases hh
   ·next s x =>
    split at hh
    ·next hs =>
     simp only [Zb,Zc] at hh;obtain ⟨rfl,rfl,rfl⟩:=hh;simp only [RA,R] at hp;obtain ⟨b,o,u,rfl,h2,h3,h1,h4⟩:=hp;refine Qu h (run b o) ?_;simp only [RA];exact Zjf h2 h3 h1 h4 hs.2.2
    ·cases hh
   ·cases hh
  ·cases hf
 ·cases hh
theorem D.isAgg_R {F:Fix} {x:D} {v:Value} {s:Nat} (h:R F x v) (hx:x.isAgg s):∃ cs:Array Value,v=.agg cs∧cs.size=s∧∀ k,k<s→∃ u,cs[k]?=some u∧R F (x.cell k) u:=by
 cases x with
 | agg l =>
  have h0:=h;simp only [R] at h;obtain ⟨cs,rfl,h2,_⟩:=h;simp only [D.isAgg] at hx;refine ⟨_,rfl,by simp [Rs.length h2,hx],fun k hk=>?_⟩
  have Zv:k<cs.length:=by rw [Rs.length h2];omega
  refine ⟨cs[k],by simp [Zv],R.cell h0 (by simp [Value.cells,Zv])⟩
 | _=>simp [D.isAgg] at hx
theorem Zlk (T:Yd P C.τ) (h:SRg base pass F0 m G st a w) {t f:Nat} {x:AV} {v:Value} {c:Prop} {z:AV} {os:Qh} (hx:RA ⟨w,m⟩ G (lk st.objs) x v)
  (hh:eH C t x f st.objs=some (c,z,os)) (hc:c):L6 P base pass F0 a st.tmps (Instr.field t v f) w z os:=by
 unfold eH at hh;split at hh
 ·next off sz hf =>
  unfold Ctx.fieldAt at hf;split at hf
  ·next fs hk =>
   obtain ⟨d,hd,X7⟩:=T.kind hk rfl;simp only [TK.is] at X7;obtain ⟨fields,rfl,hl,Qon⟩:=X7;have Zv:f<fields.size:=by
    have:=(List.getElem?_eq_some_iff.1 hf).1;omega
   obtain ⟨g1,g2,g3,g4⟩:=Qon f fields[f] (off,sz) (Array.getElem?_eq_getElem Zv) hf;simp only at g1 g2 g3 g4;split at hh
   ·next hs =>
    obtain ⟨d',hu,qE⟩:=g4 hs.1;have ha:(isAgg fields[f].type).run P w=.ok false w:=by
     cases d'<;>first|(simp [gZ] at qE;done)|simp [isAgg,run_underlying hu]
    have run:∀ (cs:Array Value) (u:Value),cs[off]?=some u→(Instr.field t (.agg cs) f).run P w=.ok u w:=by
     intro cs u uD;simp [Instr.field,run_underlying hd,Array.getElem?_eq_getElem Zv,asAgg,part,ha,g1,uD]
    split at hh
    ·next y =>
     simp only [Zb,Zc] at hh;obtain ⟨rfl,rfl,rfl⟩:=hh;simp only [RA] at hx;obtain ⟨cs,rfl,_,dC⟩:=D.isAgg_R hx hc;obtain ⟨u,hu,hr⟩:=dC off hs.2;exact Qu h (run cs u hu) (by simp only [RA];exact hr)
    ·next l =>
     split at hh
     ·next hls =>
      simp only [Zb,Zc] at hh;obtain ⟨rfl,rfl,rfl⟩:=hh;simp only [RA] at hx;obtain ⟨cs,rfl,h2,_⟩:=hx;have Zhr:off<l.length:=by omega
      obtain ⟨u,hu,hr⟩:=h2.at (Zk Zhr);refine Qu h (run cs.toArray u (by simpa using hu)) ?_
      rw [Zd,Zk Zhr];exact hr
     ·cases hh
    ·cases hh
   ·cases hh
  ·cases hf
 ·cases hh
theorem vF {F:Fix} {s:Nat} {l:List D} {v:Value} (h:R F (.list s l) v):∃ A c,v=.slice A l.length c∧l.length≤c∧c≤maxLen ∧
  ∀ k,k<l.length→∃ b off u,A=some ⟨b,off,none⟩∧R F (el l k) u∧u.cells.size=s∧(∀ y∈u.cells.toList,y.oneCell'=true)∧Qfg F b (off+k*s) u.cells.toList:=by
 simp only [R] at h;obtain ⟨A,c,rfl,h2,h3,h4⟩:=h;refine ⟨A,c,rfl,h2,h3,fun k hk=>?_⟩;obtain ⟨b,off,vs,rfl,g1,g2⟩:=h4 (by intro e;subst e;simp at hk)
 obtain ⟨u,q1,q2,q3,q4⟩:=g1.at (Zk hk);have aA:el l k=l[k]:=by unfold el;rw [Zd,Zk hk];rfl
 have Q5:=g1.length;have jV:(k+1)*s≤l.length*s:=Nat.mul_le_mul_right _ (by omega)
 have Jbd:(k+1)*s=k*s+s:=by rw [Nat.add_mul,Nat.one_mul]
 refine ⟨b,off,u,rfl,by rw [aA];exact q1,q2,q3,g2.part (n:=s) (fun j y hj=>?_) (by simp [q2]) (by omega)⟩
 rw [←q4] at hj;exact bH hj
theorem qU {t e sz:Nat} (hd:P.underlying t=some (.slice e)) (My:∀ w,(sizeOf e).run P w=.ok sz w) {k:IntKind} {i:Int} {b off n c:Nat} (h0:0≤i) (h1:i<n) :
  (Instr.indexAt t (.slice (some ⟨b,off,none⟩) n c) (.int k i)).run P w=.ok (.pointer (some ⟨b,off+i.toNat*sz,none⟩)) w:=by
 simp [Instr.indexAt,asIntOf,run_underlying hd,h0,h1,My,Cm]
theorem uP (T:Yd P C.τ) (h:SRg base pass F0 m G st a w) {t:Nat} {x ix:AV} {v vi:Value} {c:Prop} {z:AV} {os:Qh} (hx:RA ⟨w,m⟩ G (lk st.objs) x v) (Zht:RA ⟨w,m⟩ G (lk st.objs) ix vi)
  (hh:Ns C t x ix st.objs=some (c,z,os)) (hc:c):L6 P base pass F0 a st.tmps (Instr.indexAt t v vi) w z os:=by
 unfold Ns at hh;split at hh
 ·next e i hk =>
  obtain ⟨d,hd,X7⟩:=T.kind hk rfl;simp only [TK.is] at X7;obtain ⟨rfl,he⟩:=X7;have My:=Hb (T e he);simp only [RA] at Zht;split at hh
  ·next y =>
   simp only [Zb,Zc] at hh;obtain ⟨rfl,rfl,rfl⟩:=hh;obtain ⟨c1,c2,c3,c4⟩:=hc;obtain ⟨ik,rfl⟩:=Zht.of_anyInt c2;simp only [RA] at hx;obtain ⟨A,cap,rfl,_,_,aA⟩:=vF (hx.of_list c1);obtain ⟨b,off,u,rfl,q1,q2,q3,q4⟩:=aA i.i.toNat (by omega)
   refine Qu h (qU hd My c3 c4) ?_;simp only [RA,R];exact ⟨b,_,u,rfl,q1,q2,q3,q4⟩
  ·next k n =>
   split at hh
   ·next s els kk hi =>
    split at hh
    ·next hs =>
     simp only [Zb,Zc] at hh;obtain ⟨rfl,rfl,rfl⟩:=hh;obtain ⟨c1,c2,c3,c4⟩:=hc;obtain ⟨ik,rfl⟩:=Zht.of_anyInt c2;simp only [RA,hi] at hx;have hv:=hx.2.2 c1;have Vt:=h.objs k _ hi;simp only [Ja] at Vt;rcases Vt with ⟨_,_,rfl,_⟩|⟨b,cap,cs,ty,h1,h2,_⟩
     ·simp at c4;omega
     ·rw [h2] at hv;subst hv;refine Qu h (qU hd My c3 c4) ?_;simp only [RA,hi];exact ⟨rfl,hx.2.1,fun _=>⟨b,h1,by rw [hs];simp⟩⟩
    ·cases hh
   ·cases hh
  ·next k n f =>
   split at hh
   ·next s els kk hi =>
    split at hh
    ·next hs =>
     simp only [Zb,Zc] at hh;obtain ⟨rfl,rfl,rfl⟩:=hh;obtain ⟨c1,c2,c3,c4⟩:=hc;obtain ⟨ik,rfl⟩:=Zht.of_anyInt c2;simp only [RA,hi] at hx;obtain ⟨b,cc,g1,g2,g3,rfl⟩:=hx.2.2 c1;refine Qu h (qU hd My c3 (by omega)) ?_
     simp only [RA,hi];refine ⟨rfl,hx.2.1,fun _=>⟨b,g1,?_⟩⟩;rw [hs,Nat.add_mul];simp
    ·cases hh
   ·cases hh
  ·cases hh
 ·next n e ik j hk =>
  obtain ⟨d,hd,X7⟩:=T.kind hk rfl;simp only [TK.is] at X7;obtain ⟨rfl,he⟩:=X7;have My:=Hb (T e (by rw [he];rfl)) w
  simp only [RA,R] at Zht;subst Zht;split at hh
  ·next hj =>
   obtain ⟨j0,j1,j2⟩:=hj;have run:∀ b o,(Instr.indexAt t (.pointer (some ⟨b,o,none⟩)) (.int ik j)).run P w=.ok (.pointer (some ⟨b,o+j.toNat,none⟩)) w:=by
    intro b o;simp [Instr.indexAt,asIntOf,run_underlying hd,Instr.sureAddr,j0,j1,My,j2,Cm]
   split at hh
   ·next i f0 =>
    split at hh
    ·next ob hi =>
     split at hh
     ·next hb =>
      simp only [Zb,Zc] at hh;obtain ⟨rfl,rfl,rfl⟩:=hh;simp only [RA,hi] at hx;obtain ⟨b,q1,rfl⟩:=hx.2 hb;refine Qu h (run b f0) ?_;simp only [RA,hi];exact ⟨rfl,fun _=>⟨b,q1,rfl⟩⟩
     ·cases hh
    ·cases hh
   ·next s y =>
    split at hh
    ·next hs =>
     simp only [Zb,Zc] at hh;obtain ⟨rfl,rfl,rfl⟩:=hh;simp only [RA,R] at hx;obtain ⟨b,o,u,rfl,h2,h3,h1,h4⟩:=hx;refine Qu h (run b o) ?_;simp only [RA];exact Zjf h2 h3 h1 h4 (by omega)
    ·cases hh
   ·cases hh
  ·cases hh
 ·cases hh
theorem Qd3 (T:Yd P C.τ) {e:Nat} (he:(C.τ e).kind.ag=some false):∃ d,P.underlying e=some d∧(match d with|.struct _|.array _ _=>true|_=>false)=false:=by
 cases hk:(C.τ e).kind with
 | int k=>obtain ⟨d,hd,X7⟩:=T.kind hk rfl;simp only [TK.is] at X7;exact ⟨d,hd,by rw [X7]⟩
 | bool=>obtain ⟨d,hd,X7⟩:=T.kind hk rfl;simp only [TK.is] at X7;exact ⟨d,hd,by rw [X7]⟩
 | str=>obtain ⟨d,hd,X7⟩:=T.kind hk rfl;simp only [TK.is] at X7;exact ⟨d,hd,by rw [X7]⟩
 | slice x=>obtain ⟨d,hd,X7⟩:=T.kind hk rfl;simp only [TK.is] at X7;exact ⟨d,hd,by rw [X7.1]⟩
 | ptr x=>obtain ⟨d,hd,X7⟩:=T.kind hk rfl;simp only [TK.is] at X7;exact ⟨d,hd,by rw [X7]⟩
 | map x y=>obtain ⟨d,hd,X7⟩:=T.kind hk rfl;simp only [TK.is] at X7;exact ⟨d,hd,by rw [X7]⟩
 | func=>obtain ⟨d,hd,X7⟩:=T.kind hk rfl;simp only [TK.is] at X7;obtain ⟨x,y,z,X7⟩:=X7;exact ⟨d,hd,by rw [X7]⟩
 | struct fs=>rw [hk] at he;cases he
 | array n x=>rw [hk] at he;cases he
 | other=>rw [hk] at he;cases he
theorem Zkr (T:Yd P C.τ) (h:SRg base pass F0 m G st a w) {t:Nat} {x ix:AV} {v vi:Value} {c:Prop} {z:AV} {os:Qh} (hx:RA ⟨w,m⟩ G (lk st.objs) x v) (Zht:RA ⟨w,m⟩ G (lk st.objs) ix vi)
  (hh:eG C t x ix st.objs=some (c,z,os)) (hc:c):L6 P base pass F0 a st.tmps (Instr.index t v vi) w z os:=by
 unfold eG at hh;split at hh
 ·next y i hk =>
  obtain ⟨d,hd,X7⟩:=T.kind hk rfl;simp only [TK.is] at X7;subst X7;simp only [Zb,Zc] at hh;obtain ⟨rfl,rfl,rfl⟩:=hh;obtain ⟨c1,c2,c3,c4⟩:=hc;simp only [RA] at hx Zht;obtain ⟨ik,rfl⟩:=Zht.of_anyInt c2;have e:=hx.of_str c1;subst e;have Zv:i.i.toNat<(⟨y.s.toArray⟩:ByteArray).size:=by simp [ByteArray.size];omega
  refine Qu h (v:=.int .u8 ((y.s.getD i.i.toNat 0).toNat:Int)) ?_ (by simp only [RA];exact R.int)
  have hb:=ByteArray.getElem?_lt' (⟨y.s.toArray⟩:ByteArray) i.i.toNat Zv;simp only [Instr.index,asIntOf,Sem.run_bind,Sem.run_pure,Result.andThen_ok,run_underlying hd,if_pos c3,hb];have hlt':i.i.toNat<y.s.length:=by omega
  simp [Zd,Zk hlt'];rfl
 ·next n e l i hk =>
  obtain ⟨d,hd,X7⟩:=T.kind hk rfl;simp only [TK.is] at X7;obtain ⟨rfl,he⟩:=X7;split at hh
  ·next hs =>
   simp only [Zb,Zc] at hh;obtain ⟨rfl,rfl,rfl⟩:=hh;obtain ⟨c1,c2,c3,c4⟩:=hc;simp only [RA,R] at hx Zht;obtain ⟨ik,rfl⟩:=Zht.of_anyInt c2;obtain ⟨cs,rfl,hr,h1⟩:=hx;have Qmt:cs.length=l.length:=Rs.length hr;have Zv:i.i.toNat<l.length:=by omega
   obtain ⟨u,hu,Qvz⟩:=Rs.at hr (Zk Zv);have My:=Hb (T e (by rw [he];rfl)) w
   rw [hs] at My;obtain ⟨de,Zcb,Qoo⟩:=Qd3 T he;refine Qu h (v:=u) ?_ (by simp only [RA];unfold el;rw [Zd,Zk Zv];exact Qvz)
   have hp:(part e cs.toArray (i.i.toNat*1)).run P w=.ok u w:=aN Zcb (by revert Qoo;cases de<;>intro Qoo<;>first|rfl|cases Qoo) (by simpa using hu) w
   simp only [Instr.index,asIntOf,Sem.run_bind,Sem.run_pure,Result.andThen_ok,run_underlying hd,if_pos (show 0≤i.i∧i.i<(n:Int) from ⟨c3,c4⟩),My,hp]
  ·cases hh
 ·cases hh
theorem eQ {t e ty:Nat} (hd:P.underlying t=some (.slice e)) (A:Option Addr) (n c:Nat):(Builtin.len_ #[t] ty #[.slice A n c]).run P w=.ok (.int .i64 n) w:=by
 simp [Builtin.len_,run_underlying hd,goInt]
theorem Qds (T:Yd P C.τ) (h:SRg base pass F0 m G st a w) {t:Nat} {x:AV} {v:Value} {c:Prop} {z:AV} {os:Qh} (hx:RA ⟨w,m⟩ G (lk st.objs) x v)
  (hh:Zkx C t x st.objs=some (c,z,os)) (hc:c) (ty:TypeId):L6 P base pass F0 a st.tmps (Builtin.len_ #[t] ty #[v]) w z os:=by
 unfold Zkx at hh;split at hh
 ·next y hk =>
  obtain ⟨d,hd,X7⟩:=T.kind hk rfl;simp only [TK.is] at X7;subst X7;simp only [Zb,Zc] at hh;obtain ⟨rfl,rfl,rfl⟩:=hh;simp only [RA] at hx;have e:=hx.of_str hc;subst e;exact Qu h (v:=.int .i64 y.s.length) (by rw [run_len_string w t ty _ hd];simp [ByteArray.size];rfl) (by simp only [RA];exact R.int)
 ·next e y hk =>
  obtain ⟨d,hd,X7⟩:=T.kind hk rfl;simp only [TK.is] at X7;obtain ⟨rfl,_⟩:=X7;simp only [Zb,Zc] at hh;obtain ⟨rfl,rfl,rfl⟩:=hh;simp only [RA] at hx;obtain ⟨A,cap,rfl,_⟩:=vF (hx.of_list hc);exact Qu h (v:=.int .i64 y.l.length) (eQ hd _ _ _) (by simp only [RA];exact R.int)
 ·next e s hk =>
  obtain ⟨d,hd,X7⟩:=T.kind hk rfl;simp only [TK.is] at X7;obtain ⟨rfl,_⟩:=X7;simp only [Zb,Zc] at hh;obtain ⟨rfl,rfl,rfl⟩:=hh;simp only [RA] at hx;subst hx;exact Qu h (v:=.int .i64 0) (eQ hd _ _ _) (by simp only [RA];exact R.int)
 ·next e i n hk =>
  obtain ⟨d,hd,X7⟩:=T.kind hk rfl;simp only [TK.is] at X7;obtain ⟨rfl,_⟩:=X7;split at hh
  ·next s els k hi =>
   simp only [Zb,Zc] at hh;obtain ⟨rfl,rfl,rfl⟩:=hh;simp only [RA,hi] at hx;have hv:=hx.2.2 hc;have Vt:=h.objs i _ hi;simp only [Ja] at Vt;rcases Vt with ⟨_,h2,rfl,_⟩|⟨b,cap,cs,ty,h1,h2,_⟩
   ·rw [h2] at hv;subst hv;exact Qu h (v:=.int .i64 0) (eQ hd _ _ _) (by simp only [RA];exact R.int)
   ·rw [h2] at hv;subst hv;exact Qu h (v:=.int .i64 els.length) (eQ hd _ _ _) (by simp only [RA];exact R.int)
  ·cases hh
 ·next e i n f hk =>
  obtain ⟨d,hd,X7⟩:=T.kind hk rfl;simp only [TK.is] at X7;obtain ⟨rfl,_⟩:=X7;split at hh
  ·next s els k hi =>
   simp only [Zb,Zc] at hh;obtain ⟨rfl,rfl,rfl⟩:=hh;simp only [RA,hi] at hx;obtain ⟨b,cc,g1,g2,g3,rfl⟩:=hx.2.2 hc;exact Qu h (v:=.int .i64 (els.length-f:Nat)) (by rw [←hc];exact eQ hd _ _ _) (by simp only [RA];exact R.int)
  ·cases hh
 ·cases hh
theorem Zbq (h:SRg base pass F0 m G st a w) {x:AV} {v:Value} {i:Nat} {c:Prop} {z:AV} {os:Qh} (hx:RA ⟨w,m⟩ G (lk st.objs) x v)
  (hh:Cc x i st.objs=some (c,z,os)):L6 P base pass F0 a st.tmps (Instr.extract v i) w z os:=by
 unfold Cc at hh;split at hh
 ·next l =>
  split at hh
  ·next hi =>
   simp only [Zb,Zc] at hh;obtain ⟨rfl,rfl,rfl⟩:=hh;simp only [RA] at hx;obtain ⟨cs,rfl,h2⟩:=hx;obtain ⟨u,hu,hr⟩:=h2.at (Zk hi);refine Qu h (v:=u) (by simp [Instr.extract,hu]) ?_
   rw [Zd,Zk hi];exact hr
  ·cases hh
 ·next l =>
  split at hh
  ·next hi =>
   simp only [Zb,Zc] at hh;obtain ⟨rfl,rfl,rfl⟩:=hh;simp only [RA,R] at hx;obtain ⟨cs,rfl,h2⟩:=hx;obtain ⟨u,hu,hr⟩:=h2.at (Zk hi);refine Qu h (v:=u) (by simp [Instr.extract,hu]) ?_
   simp only [RA];rw [Zd,Zk hi];exact hr
  ·cases hh
 ·cases hh
end
section
variable {P:Program} {C:Ctx} {G:Gh}
variable {base:Nat} {pass:Nat→Prop} {F0:Anc} {m:Nat→Nat} {st:AS} {a:Act} {w:World}
theorem nR {F:Fix} {s lo hi:Nat} {l:List D} {A:Option Addr} {c:Nat} (h:R F (.list s l) (.slice A l.length c)) (h1:lo≤hi) (h2:hi≤l.length) :
  R F (.list s ((l.take hi).drop lo)) (.slice (if c=lo then A else A.map (·.add (lo*s))) (hi-lo) (c-lo)):=by
 simp only [R] at h ⊢;obtain ⟨A',c',e,g1,g2,g3⟩:=h;simp only [Value.slice.injEq] at e;obtain ⟨rfl,_,rfl⟩:=e;have hl:((l.take hi).drop lo).length=hi-lo:=by simp;omega
 refine ⟨_,_,by rw [hl],by rw [hl];omega,by omega,fun Tz=>?_⟩
 have Zv:lo<hi:=by
  rcases Nat.lt_or_ge lo hi with h3|h3
  ·exact h3
  ·exact absurd (List.eq_nil_of_length_eq_zero (by omega)) Tz
 obtain ⟨b,off,vs,rfl,q1,q2⟩:=g3 (by intro e;subst e;simp at h2;omega)
 have Qb2:=q1.length;refine ⟨b,off+lo*s,(vs.take (hi*s)).drop (lo*s),?_,?_,?_⟩
 ·rw [if_neg (by omega)]
  simp [Cm]
 ·exact (((q1.split hi).1).split lo).2
 ·have e1:hi*s≤l.length*s:=Nat.mul_le_mul_right _ h2;have e2:lo*s≤hi*s:=Nat.mul_le_mul_right _ h1;refine q2.part (n:=hi*s-lo*s) (fun j u hj=>?_) (by simp;omega) (by omega)
  rw [List.getElem?_drop,List.getElem?_take] at hj;split at hj
  ·exact hj
  ·cases hj
theorem Qdq {F:Fix} {s lo hi mx:Nat} {l:List D} {A:Option Addr} {c:Nat} (h:R F (.list s l) (.slice A l.length c)) (h1:lo≤hi) (h2:hi≤mx) (h3:mx≤l.length) :
  R F (.list s ((l.take hi).drop lo)) (.slice (if mx=lo then A else A.map (·.add (lo*s))) (hi-lo) (mx-lo)):=by
 have hc:=nR h h1 (Nat.le_trans h2 h3);simp only [R] at h hc ⊢;obtain ⟨A',c',e,g1,g2,g3⟩:=h;simp only [Value.slice.injEq] at e;obtain ⟨rfl,_,rfl⟩:=e;obtain ⟨A2,c2,e,f1,f2,f3⟩:=hc;simp only [Value.slice.injEq] at e;obtain ⟨rfl,e1,rfl⟩:=e;refine ⟨_,_,by rw [e1],by omega,by omega,fun Tz=>?_⟩
 obtain ⟨b,off,vs,q1,q2,q3⟩:=f3 Tz;have Zv:lo<hi:=by
  rcases Nat.lt_or_ge lo hi with h4|h4
  ·exact h4
  ·exact absurd (List.eq_nil_of_length_eq_zero (by omega)) Tz
 rw [if_neg (by omega)] at q1
 exact ⟨b,off,vs,by rw [if_neg (by omega)];exact q1,q2,q3⟩
theorem I3 (l:List UInt8) (lo hi:Nat) (h:hi≤l.length):(⟨l.toArray⟩:ByteArray).extract lo hi=⟨((l.take hi).drop lo).toArray⟩:=by
 apply ByteArray.ext;simp [ByteArray.data_extract,List.extract_toArray];rw [List.drop_take]
theorem Kr {k:IntKind} {i y:Nat} {code:BoundsCode} (h:i≤y):(Instr.sliceBound (.int k (i:Int)) y code).run P w=.ok i w:=by
 simp [Instr.sliceBound,asIntOf,h]
theorem Ve {t e:Nat} (hd:P.underlying t=some (.slice e)) {sz:Nat} (My:∀ w,(sizeOf e).run P w=.ok sz w) {A:Option Addr} {n c:Nat} {lo hi:Option Value} {l h:Nat}
  (hl:(lo=none∧l=0)∨∃ k,lo=some (.int k (l:Int))) (hh:(hi=none∧h=n)∨∃ k,hi=some (.int k (h:Int))) (h1:l≤h) (h2:h≤n) (hc:n≤c) :
  (Instr.sliceAt t (.slice A n c) lo hi none).run P w=.ok (.slice (if c=l then A else A.map (·.add (l*sz))) (h-l) (c-l)) w:=by
 have hb:(Instr.sliceBounds true n c lo hi none).run P w=.ok (l,h,c) w:=by
  rcases hl with ⟨rfl,rfl⟩|⟨k,rfl⟩<;>rcases hh with ⟨rfl,rfl⟩|⟨k',rfl⟩
  ·simp [Instr.sliceBounds]
  ·simp [Instr.sliceBounds,Kr (show h≤c by omega)]
  ·simp [Instr.sliceBounds,Kr h1]
  ·simp [Instr.sliceBounds,Kr (show h≤c by omega),Kr h1]
 simp [Instr.sliceAt,run_underlying hd,Instr.slice,hb,My]
theorem lV {t e:Nat} (hd:P.underlying t=some (.slice e)) {sz:Nat} (My:∀ w,(sizeOf e).run P w=.ok sz w) {A:Option Addr} {n c:Nat} {k1 k2 k3:IntKind} {l h m:Nat}
  (h1:l≤h) (h2:h≤m) (hc:m≤c) :
  (Instr.sliceAt t (.slice A n c) (some (.int k1 (l:Int))) (some (.int k2 (h:Int))) (some (.int k3 (m:Int)))).run P w=.ok (.slice (if m=l then A else A.map (·.add (l*sz))) (h-l) (m-l)) w:=by
 have hb:(Instr.sliceBounds true n c (some (.int k1 (l:Int))) (some (.int k2 (h:Int))) (some (.int k3 (m:Int)))).run P w=.ok (l,h,m) w:=by
  simp [Instr.sliceBounds,Kr h1,Kr h2,Kr hc]
 simp [Instr.sliceAt,run_underlying hd,Instr.slice,hb,My]
theorem Bi {t:Nat} (hd:P.underlying t=some .string) {s:ByteArray} {lo hi:Option Value} {l h:Nat}
  (hl:(lo=none∧l=0)∨∃ k,lo=some (.int k (l:Int))) (hh:(hi=none∧h=s.size)∨∃ k,hi=some (.int k (h:Int))) (h1:l≤h) (h2:h≤s.size) :
  (Instr.sliceAt t (.string s) lo hi none).run P w=.ok (.string (s.extract l h)) w:=by
 have hb:(Instr.sliceBounds false s.size s.size lo hi none).run P w=.ok (l,h,s.size) w:=by
  rcases hl with ⟨rfl,rfl⟩|⟨k,rfl⟩<;>rcases hh with ⟨rfl,rfl⟩|⟨k',rfl⟩
  ·simp [Instr.sliceBounds]
  ·simp [Instr.sliceBounds,Kr h2]
  ·simp [Instr.sliceBounds,Kr h1]
  ·simp [Instr.sliceBounds,Kr h2,Kr h1]
 simp [Instr.sliceAt,run_underlying hd,Instr.slice,hb]
def Uq (F:Fix) (G:Gh) (L:Nat→Option Obj):Option AV→Option Value→Prop
 | some x,some v=>RA F G L x v
 | none,none=>True
 | _,_=>False
theorem Hp {i:Int} (h:0≤i):((i.toNat:Nat):Int)=i:=Int.toNat_of_nonneg h
theorem Ziz (T:Yd P C.τ) (h:SRg base pass F0 m G st a w) {t:Nat} {x:AV} {v:Value} {lo hi mx:Option AV} {vl vh vm:Option Value} {c:Prop} {z:AV} {os:Qh} (hx:RA ⟨w,m⟩ G (lk st.objs) x v)
  (hl:Uq ⟨w,m⟩ G (lk st.objs) lo vl) (Ob:Uq ⟨w,m⟩ G (lk st.objs) hi vh) (Qoh:Uq ⟨w,m⟩ G (lk st.objs) mx vm)
  (hh:lR C t x lo hi mx st.objs=some (c,z,os)) (hc:c):L6 P base pass F0 a st.tmps (Instr.sliceAt t v vl vh vm) w z os:=by
 unfold lR at hh;split at hh
 ·next hk =>
  obtain ⟨d,hd,X7⟩:=T.kind hk rfl;simp only [TK.is] at X7;subst X7;cases vm with
  | some _=>simp [Uq] at Qoh
  | none =>
   split at hh
   ·next y =>
    simp only [RA] at hx;split at hh
    ·next la lb =>
     simp only [Zb,Zc] at hh;obtain ⟨rfl,rfl,rfl⟩:=hh;obtain ⟨c1,c2,c3,c4,c5,c6⟩:=hc;cases vl with
     | none=>simp [Uq] at hl
     | some vl =>
      cases vh with
      | none=>simp [Uq] at Ob
      | some vh =>
       simp only [Uq,RA] at hl Ob;obtain ⟨k1,rfl⟩:=hl.of_anyInt c2;obtain ⟨k2,rfl⟩:=Ob.of_anyInt c3;have e:=hx.of_str c1;subst e;refine Qu h (Bi hd (l:=la.i.toNat) (h:=lb.i.toNat) (.inr ⟨k1,by rw [Hp c4]⟩) (.inr ⟨k2,by rw [Hp (by omega)]⟩) (by omega) (by simp [ByteArray.size];omega)) ?_
       rw [I3 _ _ _ (by omega)]
       simp only [RA];exact R.str
    ·next la =>
     simp only [Zb,Zc] at hh;obtain ⟨rfl,rfl,rfl⟩:=hh;obtain ⟨c1,c2,c4,c5⟩:=hc;cases vl with
     | none=>simp [Uq] at hl
     | some vl =>
      cases vh with
      | some _=>simp [Uq] at Ob
      | none =>
       simp only [Uq,RA] at hl;obtain ⟨k1,rfl⟩:=hl.of_anyInt c2;have e:=hx.of_str c1;subst e;refine Qu h (Bi hd (l:=la.i.toNat) (h:=y.s.length) (.inr ⟨k1,by rw [Hp c4]⟩) (.inl ⟨rfl,by simp [ByteArray.size]⟩) (by omega) (by simp [ByteArray.size])) ?_
       rw [I3 _ _ _ (Zr _),List.take_length];simp only [RA];exact R.str
    ·next lb =>
     simp only [Zb,Zc] at hh;obtain ⟨rfl,rfl,rfl⟩:=hh;obtain ⟨c1,c3,c4,c5⟩:=hc;cases vl with
     | some _=>simp [Uq] at hl
     | none =>
      cases vh with
      | none=>simp [Uq] at Ob
      | some vh =>
       simp only [Uq,RA] at Ob;obtain ⟨k2,rfl⟩:=Ob.of_anyInt c3;have e:=hx.of_str c1;subst e;refine Qu h (Bi hd (l:=0) (h:=lb.i.toNat) (.inl ⟨rfl,rfl⟩) (.inr ⟨k2,by rw [Hp c4]⟩) (by omega) (by simp [ByteArray.size];omega)) ?_
       rw [I3 _ _ _ (by omega),List.drop_zero]
       simp only [RA];exact R.str
    ·cases hh
   ·cases hh
 ·next e hk =>
  obtain ⟨d,hd,X7⟩:=T.kind hk rfl;simp only [TK.is] at X7;obtain ⟨rfl,he⟩:=X7;have My:=Hb (T e he);cases vm with
  | some _=>simp [Uq] at Qoh
  | none =>
   split at hh
   ·next c0 y o1 hp =>
    have main:c0→y.isList (C.size e)→∃ m1 A cap,SRg base pass F0 m1 G ⟨st.tmps,o1⟩ a w∧v=.slice A y.l.length cap∧y.l.length≤cap∧R ⟨w,m1⟩ (.list (C.size e) y.l) (.slice A y.l.length cap):=by
     intro Qu1 hy;obtain ⟨m1,k1,k2,k3,k4⟩:=Sk h hp Qu1 hx;have k5:=k4.of_list hy;obtain ⟨A,cap,rfl,g1,g2,_⟩:=vF k5;exact ⟨m1,A,cap,k1,rfl,g1,k5⟩
    split at hh
    ·next la lb =>
     simp only [Zb,Zc] at hh;obtain ⟨rfl,rfl,rfl⟩:=hh;obtain ⟨c0,c1,c2,c3,c4,c5,c6⟩:=hc;obtain ⟨m1,A,cap,k1,rfl,g1,g2⟩:=main c0 c1;cases vl with
     | none=>simp [Uq] at hl
     | some vl =>
      cases vh with
      | none=>simp [Uq] at Ob
      | some vh =>
       simp only [Uq,RA] at hl Ob;obtain ⟨q1,rfl⟩:=hl.of_anyInt c2;obtain ⟨q2,rfl⟩:=Ob.of_anyInt c3;have hr:=Ve (w:=w) (A:=A) (c:=cap) hd My (lo:=some (.int q1 la.i)) (hi:=some (.int q2 lb.i)) (n:=y.l.length) (l:=la.i.toNat) (h:=lb.i.toNat) (.inr ⟨q1,by rw [Hp c4]⟩) (.inr ⟨q2,by rw [Hp (by omega)]⟩) (by omega) (by omega) g1
       exact ⟨_,w,m1,G,hr,k1,by simp only [RA];exact nR g2 (by omega) (by omega)⟩
    ·next la =>
     simp only [Zb,Zc] at hh;obtain ⟨rfl,rfl,rfl⟩:=hh;obtain ⟨c0,c1,c2,c4,c5⟩:=hc;obtain ⟨m1,A,cap,k1,rfl,g1,g2⟩:=main c0 c1;cases vl with
     | none=>simp [Uq] at hl
     | some vl =>
      cases vh with
      | some _=>simp [Uq] at Ob
      | none =>
       simp only [Uq,RA] at hl;obtain ⟨q1,rfl⟩:=hl.of_anyInt c2;have hr:=Ve (w:=w) (A:=A) (c:=cap) hd My (lo:=some (.int q1 la.i)) (hi:=none) (n:=y.l.length) (l:=la.i.toNat) (h:=y.l.length) (.inr ⟨q1,by rw [Hp c4]⟩) (.inl ⟨rfl,rfl⟩) (by omega) (Zr _) g1
       have Zhx:=nR (lo:=la.i.toNat) (hi:=y.l.length) g2 (by omega) (Zr _)
       rw [List.take_length] at Zhx;exact ⟨_,w,m1,G,hr,k1,by simp only [RA];exact Zhx⟩
    ·next lb =>
     simp only [Zb,Zc] at hh;obtain ⟨rfl,rfl,rfl⟩:=hh;obtain ⟨c0,c1,c3,c4,c5⟩:=hc;obtain ⟨m1,A,cap,k1,rfl,g1,g2⟩:=main c0 c1;cases vl with
     | some _=>simp [Uq] at hl
     | none =>
      cases vh with
      | none=>simp [Uq] at Ob
      | some vh =>
       simp only [Uq,RA] at Ob;obtain ⟨q2,rfl⟩:=Ob.of_anyInt c3;have hr:=Ve (w:=w) (A:=A) (c:=cap) hd My (lo:=none) (hi:=some (.int q2 lb.i)) (n:=y.l.length) (l:=0) (h:=lb.i.toNat) (.inl ⟨rfl,rfl⟩) (.inr ⟨q2,by rw [Hp c4]⟩) (by omega) (by omega) g1
       have Zhx:=nR (lo:=0) (hi:=lb.i.toNat) g2 (by omega) (by omega)
       rw [List.drop_zero] at Zhx;exact ⟨_,w,m1,G,hr,k1,by simp only [RA];exact Zhx⟩
    ·cases hh
   ·cases hh
 ·next e mz hk =>
  obtain ⟨d,hd,X7⟩:=T.kind hk rfl;simp only [TK.is] at X7;obtain ⟨rfl,he⟩:=X7;have My:=Hb (T e he);cases vm with
  | none=>simp [Uq] at Qoh
  | some vm =>
   split at hh
   ·next c0 y o1 hp =>
    split at hh
    ·next la lb =>
     simp only [Zb,Zc] at hh;obtain ⟨rfl,rfl,rfl⟩:=hh;obtain ⟨c0,c1,c2,c3,c3m,c4,c5,c6,c7⟩:=hc;obtain ⟨m1,k1,k2,k3,k4⟩:=Sk h hp c0 hx;have k5:=k4.of_list c1;obtain ⟨A,cap,rfl,g1,g2,_⟩:=vF k5;cases vl with
     | none=>simp [Uq] at hl
     | some vl =>
      cases vh with
      | none=>simp [Uq] at Ob
      | some vh =>
       simp only [Uq,RA] at hl Ob Qoh;obtain ⟨q1,rfl⟩:=hl.of_anyInt c2;obtain ⟨q2,rfl⟩:=Ob.of_anyInt c3;obtain ⟨q3,rfl⟩:=Qoh.of_anyInt c3m;have hr:=lV (w:=w) (A:=A) (n:=y.l.length) (c:=cap) (k1:=q1) (k2:=q2) (k3:=q3) hd My (l:=la.i.toNat) (h:=lb.i.toNat) (m:=mz.i.toNat) (by omega) (by omega) (by omega)
       rw [Hp c4,Hp (by omega),Hp (by omega)] at hr
       exact ⟨_,w,m1,G,hr,k1,by simp only [RA];exact Qdq k5 (by omega) (by omega) (by omega)⟩
    ·cases hh
   ·cases hh
 ·cases hh
end
theorem yS (off:Nat):∀ (cs:List Value) (k:Nat) (acc:Array Value),off+k+cs.length≤acc.size →
  ((cs.zipIdx k).foldl (fun (a:Array Value) (p:Value×Nat)=>a.setIfInBounds (off+p.2) p.1) acc).toList=acc.toList.take (off+k)++cs++acc.toList.drop (off+k+cs.length)
 | [],k,acc,_=>by simp
 | c::cs,k,acc,h=>by
  simp only [Zi] at h;simp only [List.zipIdx_cons,List.foldl_cons];rw [yS off cs (k+1) _ (by simp;omega)]
  have e:=list_seg_step acc.toList (off+k) c cs (by simp;omega)
  simp only [Array.toList_setIfInBounds,←Nat.add_assoc,Zi];rw [←Nat.add_assoc] at e;exact e
theorem Qd6 (off:Nat) (v:Value) (cells:Array Value) (h:off+v.cells.size≤cells.size) :
  (v.cells.zipIdx.foldl (fun cs (p:Value×Nat)=>cs.setIfInBounds (off+p.2) p.1) cells).toList=cells.toList.take off++v.cells.toList++cells.toList.drop (off+v.cells.size):=by
 have:=yS off v.cells.toList 0 cells (by simpa using h)
 rw [←Array.foldl_toList,Array.toList_zipIdx];simpa using this
theorem yX (z:Array Value) (n:Nat) (hz:0<z.size):(madeCells z ((n+1)*z.size)).toList=z.toList++(madeCells z (n*z.size)).toList:=by
 apply List.ext_getElem?;intro j;have e:(n+1)*z.size=z.size+n*z.size:=by rw [Nat.add_mul];omega
 rw [List.getElem?_append];simp only [Array.length_toList,Array.getElem?_toList,madeCells,Array.getElem?_map,Array.getElem?_range];by_cases h1:j<z.size
 ·rw [if_pos h1,if_pos (by omega)]
  simp [Nat.mod_eq_of_lt h1,h1]
 ·rw [if_neg h1];by_cases h2:j<(n+1)*z.size
  ·rw [if_pos h2,if_pos (by omega)]
   simp only [Option.map_some];rw [Nat.mod_eq_sub_mod (by omega)]
  ·rw [if_neg h2,if_neg (by omega)]
theorem Zhh {F:Fix} {d:D} {z:Value} (h:R F d z) (h1:∀ u∈z.cells.toList,u.oneCell'=true) (hz:0<z.cells.size):∀ n,RE F z.cells.size (List.replicate n d) (madeCells z.cells (n*z.cells.size)).toList
 | 0=>by simp [RE,madeCells]
 | n+1=>by
  rw [List.replicate_succ,yX _ _ hz];simp only [RE];exact ⟨z,_,rfl,rfl,h1,h,Zhh h h1 hz n⟩
theorem fR (d:D):∀ n,Es d n=List.replicate n d
 | 0=>rfl
 | n+1=>by rw [Es,List.replicate_succ,fR d n]
inductive Parts (F:Fix) (s n:Nat):List (Nat×D)→List (Nat×Value)→Prop
 | nil:Parts F s n [] []
 | cons {i:Nat} {d:D} {v:Value} {ds:List (Nat×D)} {vs:List (Nat×Value)}:i<n→R F d v→v.cells.size=s→(∀ u∈v.cells.toList,u.oneCell'=true)→Parts F s n ds vs→Parts F s n ((i,d)::ds) ((i,v)::vs)
theorem zX {F:Fix} {s n:Nat}:∀ {ds:List (Nat×D)} {vs:List (Nat×Value)},Parts F s n ds vs→∀ {els:List D} {cells:Array Value},els.length=n→RE F s els cells.toList →
  ∃ cells',Instr.fill (fun i=>some (i*s,s)) cells vs=some cells'∧RE F s (Ix els ds) cells'.toList
 | _,_,.nil,els,cells,_,h=>⟨cells,rfl,h⟩
 | _,_,.cons (i:=i) (d:=d) (v:=v) (ds:=ds) (vs:=vs) hi hr hs h1 hp,els,cells,hn,h=>by
  have hl:cells.size=n*s:=by
   have:=h.length;rw [hn] at this;simpa using this
  have Zhv:(i+1)*s≤n*s:=Nat.mul_le_mul_right _ (by omega)
  have Qws:(i+1)*s=i*s+s:=by rw [Nat.add_mul,Nat.one_mul]
  have M8:i*s+v.cells.size≤cells.size:=by omega
  have C4:=RE.set (k:=i) h (by omega) hr hs h1
  obtain ⟨cells',e,g⟩:=zX hp (els:=els.set i d) (cells:=v.cells.zipIdx.foldl (fun cs (p:Value×Nat)=>cs.setIfInBounds (i*s+p.2) p.1) cells) (by simpa using hn) (by
   rw [Qd6 _ _ _ M8,hs,←Qws];exact C4)
  refine ⟨cells',?_,g⟩;simp only [Instr.fill];rw [if_neg (by simp [hs];omega)]
  exact e
section
variable {P:Program} {C:Ctx} {G:Gh}
variable {base:Nat} {pass:Nat→Prop} {F0:Anc} {m:Nat→Nat} {st:AS} {a:Act} {w:World}
theorem rX (h:SRg base pass F0 m G st a w) {k:Nat} (hk:lk st.objs k=none) {s e cap:Nat} {els:List D} {cs:Array Value} (uD:cs.size=cap*s) (hcap:els.length≤cap) (hm:cap≤maxLen)
  (jE:RE ⟨w,m⟩ s els (cs.toList.take (els.length*s))) :
  ∃ G',G8 G (lk st.objs) G' (lk (upd st.objs k (.row s els 0)))∧Fix.le ⟨w,m⟩ ⟨w.alloc (.cells cs e),m⟩∧SRg base pass F0 m G' ⟨st.tmps,upd st.objs k (.row s els 0)⟩ a (w.alloc (.cells cs e)) ∧
   RA ⟨w.alloc (.cells cs e),m⟩ G' (lk (upd st.objs k (.row s els 0))) (.sl k els.length) (.slice (some ⟨w.heap.size,0,none⟩) els.length cap):=by
 obtain ⟨q1,q2,q3⟩:=h.fresh hk (.row s els 0) (.cells cs e) (.slice (some ⟨w.heap.size,0,none⟩) els.length cap) (fun hg hF=>by
  simp only [Ja];exact .inr ⟨w.heap.size,cap,cs,e,by simp,by simp,hcap,hm,heap_alloc_new w _,uD,RE.mono hF jE,by rw [Nat.zero_mul];exact h.new _ (Zr _),Nat.zero_le _⟩)
 refine ⟨_,q1,q2,q3,?_⟩;simp only [RA,Xw,if_true];exact ⟨rfl,Zr _,fun _=>trivial⟩
theorem eJ {s n:Nat}:∀ {l:List (Nat×AV)} {vs:List (Nat×Value)} {c:Prop} {ps:List (Nat×D)} {os:Qh} {st:AS} {m:Nat→Nat},SRg base pass F0 m G st a w→Nl C l st.objs=some (c,ps,os)→c →
  uV n l=true→I9 s (ps.map (·.2))→l.length=vs.length→(∀ (j i:Nat) (x:AV),l[j]?=some (i,x)→∃ v,vs[j]?=some (i,v)∧RA ⟨w,m⟩ G (lk st.objs) x v) →
  ∃ m',SRg base pass F0 m' G ⟨st.tmps,os⟩ a w∧Fix.le ⟨w,m⟩ ⟨w,m'⟩∧G8 G (lk st.objs) G (lk os)∧Parts ⟨w,m'⟩ s n ps vs
 | [],vs,c,ps,os,st,m,h,hp,_,_,_,hl,_=>by
  simp only [Nl,Zb,Zc] at hp;obtain ⟨rfl,rfl,rfl⟩:=hp;have:vs=[]:=List.eq_nil_of_length_eq_zero (by simpa using hl.symm)
  subst this;exact ⟨m,h,Fix.le_refl _,G8.refl _ _,.nil⟩
 | (i,x)::l,vs,c,ps,os,st,m,h,hp,hc,Zv,hf,hl,hv=>by
  simp only [Nl] at hp;split at hp
  ·next c1 y o1 Zh4 =>
   split at hp
   ·next c2 ps2 o2 Qk4 =>
    simp only [Zb,Zc] at hp;obtain ⟨rfl,rfl,rfl⟩:=hp;simp only [uV,Zg,decide_eq_true_eq] at Zv;simp only [List.map_cons,I9] at hf;cases vs with
    | nil=>simp at hl
    | cons p vs =>
     obtain ⟨v,e1,g2⟩:=hv 0 i x rfl;simp only [List.getElem?_cons_zero,Zb] at e1;subst e1;obtain ⟨m1,k1,k2,k3,k4⟩:=Sk h Zh4 hc.1 g2;obtain ⟨m2,j1,j2,j3,j4⟩:=eJ (vs:=vs) (st:=⟨st.tmps,o1⟩) k1 Qk4 hc.2 Zv.2 hf.2 (by simpa using hl) (fun j i x hj=>by
      obtain ⟨v',e,g⟩:=hv (j+1) i x (by simpa using hj)
      exact ⟨v',by simpa using e,RA.mono k2 k3 g⟩)
     obtain ⟨f1,f2⟩:=R.cellsD k4 hf.1;refine ⟨m2,j1,Fix.le_trans k2 j2,?_,.cons Zv.1 (k4.mono j2) f1 f2 j4⟩;intro j o hj;obtain ⟨oa,a1,a2,a3⟩:=k3 j o hj;obtain ⟨ob,b1,b2,b3⟩:=j3 j oa a1;refine ⟨ob,b1,fun hb=>⟨(a2 (b2 hb).1).1,rfl⟩,fun s' els' k' he=>?_⟩;obtain ⟨els1,kk1,e1,e2,_⟩:=b3 s' els' k' he;obtain ⟨els2,kk2,f1,f2,_⟩:=a3 s' els1 kk1 e1;exact ⟨els2,kk2,f1,Nat.le_trans f2 e2,fun _=>⟨rfl,rfl⟩⟩
   ·cases hp
  ·cases hp
theorem jN:∀ (ps:List (Nat×D)) (l:List D),(Ix l ps).length=l.length
 | [],l=>rfl
 | (i,x)::r,l=>by rw [Ix,jN r];simp
theorem sC (T : Yd P C.τ) (h : SRg base pass F0 m G st a w) {t n k : Nat} {l : List (Nat × AV)} {vs : List (Nat × Value)} {c : Prop} {z : AV} {os : Qh} (hl : l.length = vs.length)
    (hv : ∀ (j i : Nat) (x : AV), l[j]? = some (i, x) → ∃ v, vs[j]? = some (i, v) ∧ RA ⟨w, m⟩ G (lk st.objs) x v)
    (hh : Nu C t n l k st.objs = some (c, z, os)) (hc : c) : L6 P base pass F0 a st.tmps (Instr.buildSlice t n vs.toArray) w z os := by
  unfold Nu at hh
  split at hh
  · next e hk =>
    obtain ⟨d, hd, X7⟩ := T.kind hk rfl
    simp only [TK.is] at X7
    obtain ⟨rfl, he⟩ := X7
    have te := T e he
    obtain ⟨i, zv, h1, h2, h3, h4, _, h5, h6, h7⟩ := te.info
    split at hh
    · next c1 ps o1 hp =>
      split at hh
      · next kH =>
        split at hh
        · next hs =>
          simp only [Zb, Zc] at hh
          obtain ⟨rfl, rfl, rfl⟩ := hh
          obtain ⟨m1, k1, k2, k3, k4⟩ := eJ h hp hc.1 hs.2 hc.2 hl hv
          have My : C.size e = zv.cells.size := h6.symm
          have hz : 0 < zv.cells.size := by rw [h6]; exact te.pos
          have Qb5 := Zhh (h5 ⟨w, m1⟩) h7 hz n
          rw [← fR] at Qb5
          rw [My] at k4
          obtain ⟨cells, Zhw, Ze9⟩ := zX k4 (by rw [fR]; simp) Qb5
          have Q5 : (Ix (Es (C.τ e).zd n) ps).length = n := by rw [jN, fR]; simp
          have Qtp : cells.size = n * zv.cells.size := by
            have := Ze9.length
            rw [Q5] at this
            simpa using this
          have uB : n * zv.cells.size ≤ 16777216 := by rw [← My]; exact hs.1
          have Qpt : n ≤ maxLen := by
            have : n * 1 ≤ n * zv.cells.size := Nat.mul_le_mul_left _ hz
            simp [maxLen]
            omega
          obtain ⟨G', q1, q2, q3, q4⟩ := rX k1 kH (e := e) (cap := n) Qtp (by rw [Q5]; exact Zr _) Qpt (by rw [Q5, ← Qtp, List.take_of_length_le (by simp)]; exact Ze9)
          rw [Q5] at q4
          rw [← My] at q3 q4
          refine ⟨_, _, m1, G', ?_, q3, q4⟩
          have hi : i.size = zv.cells.size := by rw [h2, h6]
          have Qma : (Instr.buildSlice t n vs.toArray).run P w = (match Instr.fill (fun i => some (i * zv.cells.size, zv.cells.size)) (madeCells zv.cells (n * zv.cells.size)) vs with
              | some cells => (do pure (.slice (some (← newRow e cells)) n n) : Sem Value)
              | none => stuck "buildSlice: a part of the wrong size").run P w := by
            have Zv : ¬ (16777216 < n * zv.cells.size) := by omega
            by_cases h0 : n * zv.cells.size = 0
            · have Qs9 : n = 0 := by
                rcases Nat.mul_eq_zero.1 h0 with h | h
                · exact h
                · omega
              subst Qs9
              have e0 : Array.range 0 = #[] := rfl
              simp [Instr.buildSlice, run_underlying hd, sizeOf, typeInfo, h1, hi, madeCells, e0]
              cases Instr.fill (fun i => some (i * zv.cells.size, zv.cells.size)) #[] vs <;> rfl
            · simp [Instr.buildSlice, run_underlying hd, sizeOf, typeInfo, zeroValue, h1, h4, hi, Zv, h0, madeCells]
              cases Instr.fill (fun i => some (i * zv.cells.size, zv.cells.size)) ((Array.range (n * zv.cells.size)).map fun x => zv.cells[x % zv.cells.size]!) vs <;> rfl
          rw [Qma, Zhw]
          simp [newRow]
        · cases hh
      · cases hh
    · cases hh
  · cases hh
theorem uN (T:Yd P C.τ) (h:SRg base pass F0 m G st a w) {t k:Nat} {x y:AV} {vx vy:Value} {c:Prop} {z:AV} {os:Qh} (hx:RA ⟨w,m⟩ G (lk st.objs) x vx) (hy:RA ⟨w,m⟩ G (lk st.objs) y vy)
  (hh:Bp C t x y k st.objs=some (c,z,os)) (hc:c):L6 P base pass F0 a st.tmps (Instr.makeSlice t vx vy) w z os:=by
 unfold Bp at hh;split at hh
 ·next e la lb hk =>
  obtain ⟨d,hd,X7⟩:=T.kind hk rfl;simp only [TK.is] at X7;obtain ⟨rfl,he⟩:=X7;have te:=T e he;obtain ⟨i,zv,h1,h2,h3,h4,_,h5,h6,h7⟩:=te.info;split at hh
  ·next kH =>
   simp only [Zb,Zc] at hh;obtain ⟨rfl,rfl,rfl⟩:=hh;obtain ⟨c1,c2,c3,c4,c5,c6⟩:=hc;simp only [RA] at hx hy;obtain ⟨k1,rfl⟩:=hx.of_anyInt c1;obtain ⟨k2,rfl⟩:=hy.of_anyInt c2;have hr:=run_make (P:=P) w t e i zv hd h1 h4 k1 k2 la.i lb.i c3 (by omega) (by rw [h3];exact c5) (by omega)
   have hi:i.size=zv.cells.size:=by rw [h2,h6]
   rw [hi,←c4] at hr;have hz:0<zv.cells.size:=by rw [h6];exact te.pos
   have Qb5:=Zhh (h5 ⟨w,m⟩) h7 hz la.i.toNat;have My:C.size e=zv.cells.size:=h6.symm;obtain ⟨G',q1,q2,q3,q4⟩:=rX h kH (s:=zv.cells.size) (e:=e) (cap:=la.i.toNat) (els:=List.replicate la.i.toNat (C.τ e).zd) (cs:=madeCells zv.cells (la.i.toNat*zv.cells.size)) (size_madeCells _ _) (by simp) (by simp [maxLen];omega) (by
    rw [List.take_of_length_le (by simp [size_madeCells])]
    exact Qb5)
   rw [←My] at q3 q4;rw [←My] at hr;simp only [List.length_replicate] at q4;exact ⟨_,_,m,G',by rw [←c4];exact hr,q3,q4⟩
  ·cases hh
 ·cases hh
theorem rQ {P:Program} {w:World} (t ty e tb:TypeId) (i:TypeInfo) (ht:P.underlying t=some (.slice e)) (hi:P.info? e=some i)
  (g sLen sCap:Nat) (uQ:Array Value) (hg:w.heap[g]?=some (.cells uQ tb (0,0)))
  (a:Addr) (m c:Nat) (news:List Value) (hl:news.length=m*i.size) (Zmv:∀ j u,news[j]?=some u→w.cell? (a.add j)=some u) (h1:∀ u∈news,u.oneCell'=true)
  (Sf:sLen+m≤sCap) (M8:sLen*i.size+news.length≤uQ.size) :
  (Builtin.append_ #[t,t] ty #[.slice (some ⟨g,0,none⟩) sLen sCap,.slice (some a) m c]).run P w =
   .ok (.slice (some ⟨g,0,none⟩) (sLen+m) sCap) (w.setRow g (uQ.toList.take (sLen*i.size)++news++uQ.toList.drop (sLen*i.size+news.length)).toArray):=by
 have hf:=run_firstCells_some (P:=P) w i.size m a m c news hl Zmv;have Jg:=run_storeCells_at P g (sLen*i.size) tb news 0 uQ w hg (by simpa using M8) h1
 simp only [Nat.add_zero] at Jg;simp [Builtin.append_,run_underlying ht,sizeOf,typeInfo,hi,Builtin.lenOf,Sf,hf,Addr.add_lit,Jg]
theorem dX {P:Program} {w:World} (t ty e:TypeId) (i:TypeInfo) (ht:P.underlying t=some (.slice e)) (hi:P.info? e=some i)
  (A:Option Addr) (n cap c:Nat) (B:Option Addr) (hn:n≤cap) :
  (Builtin.append_ #[t,t] ty #[.slice A n cap,.slice B 0 c]).run P w=.ok (.slice A n cap) w:=by
 cases A with
 | none=>cases B<;>simp [Builtin.append_,run_underlying ht,sizeOf,typeInfo,hi,Builtin.lenOf,hn,Builtin.firstCells,loadCells,loadCellsFrom]
 | some A=>cases B<;>simp [Builtin.append_,run_underlying ht,sizeOf,typeInfo,hi,Builtin.lenOf,hn,Builtin.firstCells,loadCells,loadCellsFrom,storeCells]
theorem aH (h:SRg base pass F0 m G st a w) {s:Nat} {x:AV} {v:Value} {c:Prop} {xs:List D} (hx:RA ⟨w,m⟩ G (lk st.objs) x v) (hh:Hr s x st.objs=some (c,xs)) (hc:c) :
  ∃ B cap,v=.slice B xs.length cap∧(xs=[]∨∃ b off vs,B=some ⟨b,off,none⟩∧RE ⟨w,m⟩ s xs vs∧∀ j u,vs[j]?=some u→w.cell? ⟨b,off+j,none⟩=some u):=by
 unfold Hr at hh;split at hh
 ·next y =>
  simp only [Zb,Zc] at hh;obtain ⟨rfl,rfl⟩:=hh;simp only [RA] at hx;have h2:=hx.of_list hc;simp only [R] at h2;obtain ⟨A,cap,rfl,_,_,g⟩:=h2;refine ⟨A,cap,rfl,?_⟩;by_cases hl:y.l=[]
  ·exact .inl hl
  ·obtain ⟨b,off,vs,rfl,q1,q2⟩:=g hl;exact .inr ⟨b,off,vs,rfl,q1,q2.2⟩
 ·next k =>
  simp only [Zb,Zc] at hh;obtain ⟨rfl,rfl⟩:=hh;simp only [RA] at hx;exact ⟨none,0,hx,.inl rfl⟩
 ·next i n =>
  split at hh
  ·next s' els k hi =>
   split at hh
   ·next hs =>
    simp only [Zb,Zc] at hh;obtain ⟨rfl,rfl⟩:=hh;simp only [RA,hi] at hx;have hv:=hx.2.2 hc;have Vt:=h.objs i _ hi;simp only [Ja] at Vt;rcases Vt with ⟨_,h2,rfl,_⟩|⟨b,cap,cs,ty,h1,h2,h3,h4,h5,h6,h7,h8,h9⟩
    ·exact ⟨none,0,by rw [hv,h2];rfl,.inl rfl⟩
    ·subst hs;refine ⟨_,cap,by rw [hv,h2],.inr ⟨b,0,_,rfl,h7,fun j u hu=>?_⟩⟩
     rw [Nat.zero_add,G6 h5];rw [List.getElem?_take] at hu;split at hu
     ·simpa using hu
     ·cases hu
   ·cases hh
  ·cases hh
 ·cases hh
theorem RE.one_all {F:Fix} {s:Nat}:∀ {l:List D} {vs:List Value},RE F s l vs→∀ u∈vs,u.oneCell'=true
 | [],_,h,u,hu=>by simp only [RE] at h;subst h;cases hu
 | x::l,vs,h,u,hu=>by
  simp only [RE] at h;obtain ⟨v,r,rfl,_,h3,_,h5⟩:=h;rcases List.mem_append.1 hu with hu|hu
  ·exact h3 u hu
  ·exact RE.one_all h5 u hu
theorem Ct (z:Array Value) (n:Nat):(Builtin.zeroCells z n).size=n*z.size:=by simp [Builtin.zeroCells]
theorem Zg8 (T:Yd P C.τ) (h:SRg base pass F0 m G st a w) {t k:Nat} {s x:AV} {vs vx:Value} {c:Prop} {z:AV} {os:Qh} (hs:RA ⟨w,m⟩ G (lk st.objs) s vs) (hx:RA ⟨w,m⟩ G (lk st.objs) x vx)
  (hh:bK C t s x k st.objs=some (c,z,os)) (hc:c) (ty:TypeId):L6 P base pass F0 a st.tmps (Builtin.append_ #[t,t] ty #[vs,vx]) w z os:=by
 unfold bK at hh;split at hh
 ·next e hk =>
  obtain ⟨d,hd,X7⟩:=T.kind hk rfl;simp only [TK.is] at X7;obtain ⟨rfl,he⟩:=X7;have te:=T e he;obtain ⟨ii,zv,i1,i2,i3,i4,_,i5,i6,i7⟩:=te.info;have My:C.size e=ii.size:=i2.symm;split at hh
  ·next c1 xs Qe7 =>
   split at hh
   ·
    next s0 =>
    split at hh
    ·next kH =>
     simp only [Zb,Zc] at hh;obtain ⟨rfl,rfl,rfl⟩:=hh;obtain ⟨qG,Qje,Qzm⟩:=hc;simp only [RA] at hs;subst hs;obtain ⟨B,cap,rfl,hB⟩:=aH h hx Qe7 qG;by_cases dM:xs=[]
     ·subst dM;have hr:=dX (w:=w) t ty e ii hd i1 none 0 0 cap B (Zr _);obtain ⟨q1,q2⟩:=h.obj k (.row (C.size e) [] 0) (w':=w) (m':=m) (G':=⟨fun j=>if j=k then none else G.γ j,fun j=>if j=k then .slice none 0 0 else G.hd j⟩) (Fix.le_refl _)
       (fun j hj=>by simp [hj]) (fun o ho=>by rw [kH] at ho;cases ho) (fun _=>by simp only [Ja];exact .inl (by simp))
       (fun _ _ _ _ _ _ _=>⟨rfl,rfl⟩) (fun _ b hb=>by simp at hb) (Frame.refl _ _ _) (fun _ _ _=>rfl) h.new
      refine ⟨_,w,m,_,hr,q2,?_⟩;simp only [RA,Xw,if_true];exact ⟨rfl,Zr _,fun _=>trivial⟩
     ·rcases hB with hB|⟨b,off,us,rfl,g1,g2⟩
      ·exact absurd hB dM
      have mH:0<xs.length:=List.length_pos_iff.2 dM;rw [My] at g1;have Qe5:=g1.length;have Zhy:xs.length*ii.bytes≤281474976710656:=by rw [i3];omega
      have hr:=run_append_nil (P:=P) w t ty e ii zv hd i1 i4 ⟨b,off,none⟩ xs.length cap us Qe5 (fun j u hu=>by rw [Cm];exact g2 j u hu) mH (by omega) Zhy
      have Zm2:=grownCap_le_maxLen w xs.length 0 e (by simp [maxLen];omega)
      have Za0:=grownCap_ge w xs.length 0 e;obtain ⟨G',q1,q2,q3,q4⟩:=rX h.drew kH (s:=ii.size) (e:=e) (cap:=grownCap w xs.length 0 e) (els:=xs) (cs:=us.toArray++Builtin.zeroCells zv.cells (grownCap w xs.length 0 e-xs.length))
       (by simp [Ct,Qe5,i6,←i2,←Nat.add_mul];congr 1;omega) Za0 Zm2 (by
        rw [←Qe5];simp only [Array.toList_append,List.take_left'];simpa using (RE.mono (F:=⟨w,m⟩) (F':=⟨w.drew,m⟩) ⟨fun _=>⟨Zr _,fun _ _=>rfl⟩,fun _ _ _ _ hq=>hq⟩ g1))
      rw [My];exact ⟨_,_,m,G',hr,q3,q4⟩
    ·cases hh
   ·next i n =>
    split at hh
    ·next s' els kk hi =>
     split at hh
     ·next Zm9 =>
      simp only [Zb,Zc] at hh;obtain ⟨rfl,rfl,rfl⟩:=hh;obtain ⟨qG,Qje,Qzm,Jcq⟩:=hc;subst Zm9;obtain ⟨B,cap,rfl,hB⟩:=aH h hx Qe7 qG;simp only [RA,hi] at hs;have hv:=hs.2.2 Qje;have Vt:=h.objs i _ hi;simp only [Ja] at Vt;by_cases dM:xs=[]
      ·
       subst dM;have hu:∀ j,lk (upd st.objs i (.row (C.size e) (els++[]) kk)) j=lk st.objs j:=fun j=>by
        rw [Xw];split
        ·next e=>subst e;rw [hi,List.append_nil]
        ·rfl
       have hL:lk (upd st.objs i (.row (C.size e) (els++[]) kk))=lk st.objs:=funext hu;have Er:∃ A cap',vs=.slice A els.length cap'∧els.length≤cap':=by
        rcases Vt with ⟨_,h2,rfl,_⟩|⟨b,cap',cs,tb,h1,h2,h3,_⟩
        ·exact ⟨none,0,by rw [hv,h2];rfl,Zr _⟩
        ·exact ⟨_,cap',by rw [hv,h2],h3⟩
       obtain ⟨A,cap',Qvx,Er⟩:=Er;have hr:=dX (w:=w) t ty e ii hd i1 A els.length cap' cap B Er;rw [←Qvx] at hr;refine ⟨_,w,m,G,hr,⟨h.defers,by simp only [hL];exact h.tmps,by simp only [hL];exact h.objs,by simp only [hL];exact h.apart,by simp only [hL];exact h.mine,h.frame,h.old,h.new,h.small,by simp only [hL];exact h.lent⟩,?_⟩
       rw [hL];simp only [RA,hi,List.append_nil];exact ⟨hs.1,Zr _,fun _=>hv⟩
      ·rcases hB with hB|⟨b,off,us,rfl,g1,g2⟩
       ·exact absurd hB dM
       have mH:0<xs.length:=List.length_pos_iff.2 dM;have g1':=g1;rw [My] at g1';have Qe5:=g1'.length;have Zhy:(els.length+xs.length)*ii.bytes≤140737488355328:=by rw [i3];exact Qzm
       have Zmv:∀ j u,us[j]?=some u→w.cell? ((⟨b,off,none⟩:Addr).add j)=some u:=fun j u hu=>by rw [Cm];exact g2 j u hu
       have grow:∀ (cap':Nat) (cs':Array Value),cs'.size=cap'*ii.size→(els++xs).length≤cap'→cap'≤maxLen→RE ⟨w,m⟩ ii.size (els++xs) (cs'.toList.take ((els++xs).length*ii.size))→kk=0∨0<els.length →
         ∃ G' m',SRg base pass F0 m' G' ⟨st.tmps,upd st.objs i (.row ii.size (els++xs) kk)⟩ a (w.drew.alloc (.cells cs' e)) ∧
          RA ⟨w.drew.alloc (.cells cs' e),m'⟩ G' (lk (upd st.objs i (.row ii.size (els++xs) kk))) (.sl i (els++xs).length) (.slice (some ⟨w.heap.size,0,none⟩) (els++xs).length cap'):=by
        intro cap' cs' uD hcap' hm' jE Zba;have Qfl:kk≤els.length:=by
         rcases Vt with ⟨_,_,rfl,rfl⟩|⟨_,_,_,_,_,_,_,_,_,_,_,_,h9⟩
         ·simp
         ·exact h9
        have Jb5:=Fix.le_alloc (w:=w.drew) (m:=m) h.new (.cells cs' e);have Qz0:Fix.le ⟨w,m⟩ ⟨w.drew.alloc (.cells cs' e),m⟩:=Jb5;have hF:Fix.le ⟨w,m⟩ ⟨w.drew.alloc (.cells cs' e),fun x=>if x=w.heap.size then kk*ii.size else m x⟩:=by
         refine ⟨fun x=>?_,Qz0.2⟩;by_cases hx:x=w.heap.size
         ·subst hx;have:=h.new w.heap.size (Zr _);exact ⟨by simp [this],fun off ho=>by simp only [this] at ho;omega⟩
         ·exact ⟨by simp [hx],(Qz0.1 x).2⟩
        obtain ⟨q1,q2⟩:=h.obj i (.row ii.size (els++xs) kk) (w':=w.drew.alloc (.cells cs' e)) (m':=fun x=>if x=w.heap.size then kk*ii.size else m x)
         (G':=⟨fun j=>if j=i then some w.heap.size else G.γ j,fun j=>if j=i then .slice (some ⟨w.heap.size,0,none⟩) (els++xs).length cap' else G.hd j⟩) hF
         (fun j hj=>by simp [hj]) (fun o ho=>by
          rw [hi] at ho;injection ho with ho
          subst ho;refine ⟨by simp [Obj.isBox],fun s2 els2 k2 Zfb=>?_⟩
          simp only [Obj.row.injEq] at Zfb;obtain ⟨rfl,rfl,rfl⟩:=Zfb;exact ⟨els,kk,by rw [My],by simp,fun hl=>by rw [Ze] at hl;omega⟩)
         (fun hg=>by
          simp only [Ja];exact .inr ⟨w.heap.size,cap',cs',e,by simp,by simp,hcap',hm',heap_alloc_new w.drew _,uD,RE.mono hF jE,by simp,by simp;omega⟩)
         (fun j o hj hl ho b' hb'=>by
          have Zv:=(h.mine j o b' hl ho hb').1;exact ⟨Below.heap_alloc w.drew _ b' Zv,by simp;intro e;omega⟩)
         (fun _ b' hb'=>by
          simp only [if_true,Zb] at hb';subst hb';refine ⟨by simp,.inl h.small,fun j o hj hl ho dD=>?_⟩
          have:=(h.mine j o _ hl ho dD).1;omega)
         ⟨rfl,rfl,rfl,by simp,fun b' hb' _=>Below.heap_alloc w.drew _ b' (Nat.lt_of_lt_of_le hb' h.small)⟩
         (fun b' hb' _=>by have:=h.small;simp;intro e;omega)
         (fun b' hb'=>by
          simp at hb';have:b'≠w.heap.size:=by omega
          simp [this];exact h.new b' (by omega))
        refine ⟨_,_,q2,?_⟩;simp only [RA,Xw,if_true];exact ⟨rfl,Zr _,fun _=>trivial⟩
       rcases Vt with ⟨h1,h2,rfl,rfl⟩|⟨bb,cap',cs,tb,h1,h2,h3,h4,h5,h6,h7,h8,h9⟩
       ·
        rw [h2] at hv;subst hv;have hr:=run_append_nil (P:=P) w t ty e ii zv hd i1 i4 ⟨b,off,none⟩ xs.length cap us Qe5 Zmv mH (by omega) (by simp at Zhy;omega)
        have Zm2:=grownCap_le_maxLen w xs.length 0 e (by simp [maxLen];omega)
        have Za0:=grownCap_ge w xs.length 0 e;obtain ⟨G',m',q1,q2⟩:=grow (grownCap w xs.length 0 e) (us.toArray++Builtin.zeroCells zv.cells (grownCap w xs.length 0 e-xs.length))
         (by simp [Ct,Qe5,i6,←i2,←Nat.add_mul];congr 1;omega) (by simpa using Za0) Zm2 (by
          simp only [List.nil_append];rw [←Qe5];simpa using g1') (.inl rfl)
        rw [My];simp only [List.nil_append] at q1 q2 ⊢;exact ⟨_,_,m',G',hr,q1,q2⟩
       ·rw [h2] at hv;subst hv;by_cases Sf:els.length+xs.length≤cap'
        ·
         rw [My] at h6 h7 h8;have M8:els.length*ii.size+us.length≤cs.size:=by rw [Qe5,h6,←Nat.add_mul];exact Nat.mul_le_mul_right _ Sf
         have Zhq:=RE.one_all g1;have hr:=rQ (w:=w) t ty e tb ii hd i1 bb els.length cap' cs h5 ⟨b,off,none⟩ xs.length cap us Qe5 Zmv Zhq Sf M8;have Zb8:=h.mine i _ bb hi rfl h1;have jV:kk*ii.size≤els.length*ii.size:=Nat.mul_le_mul_right _ h9;have hF:Fix.le ⟨w,m⟩ ⟨w.setRow bb (cs.toList.take (els.length*ii.size)++us++cs.toList.drop (els.length*ii.size+us.length)).toArray,m⟩:=Fix.le_setRow h5 (fun o ho=>by
          rw [show m bb=kk*ii.size from h8] at ho;rw [←Array.getElem?_toList];simp only [List.append_assoc];rw [List.getElem?_append_left (by simp;omega),List.getElem?_take,if_pos (by omega)]
          simp)
         obtain ⟨q1,q2⟩:=h.obj i (.row (C.size e) (els++xs) kk) (w':=w.setRow bb (cs.toList.take (els.length*ii.size)++us++cs.toList.drop (els.length*ii.size+us.length)).toArray) (m':=m)
          (G':=⟨G.γ,fun j=>if j=i then .slice (some ⟨bb,0,none⟩) (els++xs).length cap' else G.hd j⟩) hF
          (fun j hj=>by simp [hj]) (fun o ho=>by
           rw [hi] at ho;injection ho with ho
           subst ho;refine ⟨by simp [Obj.isBox],fun s2 els2 k2 Zfb=>?_⟩
           simp only [Obj.row.injEq] at Zfb;obtain ⟨rfl,rfl,rfl⟩:=Zfb;exact ⟨els,kk,rfl,by simp,fun hl=>by rw [Ze] at hl;omega⟩)
          (fun hg=>by
           simp only [Ja];rw [My];refine .inr ⟨bb,cap',_,tb,h1,by simp,by simpa using Sf,h4,setRow_heap w bb cs _ tb (0,0) h5,?_,?_,h8,by simp;omega⟩
           ·simp;rw [h6] at M8 ⊢;omega
           ·have Zmz:(els++xs).length*ii.size=(cs.toList.take (els.length*ii.size)++us).length:=by
             simp [Nat.add_mul,Qe5];omega
            rw [Zmz];simp only [List.take_left'];exact RE.append (RE.mono hF h7) (RE.mono hF g1'))
          (fun j o hj hl ho b' hb'=>by
           have:b'≠bb:=fun e=>hj (h.apart j i o _ bb hl hi ho rfl (e▸hb') h1);exact ⟨setRow_other w bb b' _ this,rfl⟩)
          (fun _ b' hb'=>by
           simp only [h1,Zb] at hb';subst hb';exact ⟨by simpa using Zb8.1,Zb8.2,fun j o hj hl ho dD=>hj (h.apart j i o _ bb hl hi ho rfl dD h1)⟩)
          ⟨rfl,rfl,rfl,by simp,fun b' Zv hp=>setRow_other w bb b' _ (fun e=>by
           subst e;rcases Zb8.2 with h1|h1
           ·omega
           ·exact hp h1)⟩
          (fun _ _ _=>rfl) (fun b' aY=>h.new b' (by simpa using aY))
         refine ⟨_,_,m,_,hr,q2,?_⟩;simp only [RA,Xw,if_true];exact ⟨rfl,Zr _,fun _=>by simp⟩
        ·
         have Qb2:=h7.length;rw [My] at h7 Qb2;have hr:=run_append_grow (P:=P) w t ty e ii zv hd i1 i4 ⟨bb,0,none⟩ els.length cap' (cs.toList.take (els.length*ii.size)) Qb2 (fun j u hu=>by
           rw [Cm,Nat.zero_add,G6 h5];rw [List.getElem?_take] at hu;split at hu
           ·simpa using hu
           ·cases hu) ⟨b,off,none⟩ xs.length cap us Qe5 Zmv (by omega) (by omega) (growslice_fits (by omega) Zhy)
         have Zm2:=grownCap_le_maxLen w (els.length+xs.length) cap' e (by simp [maxLen];omega)
         have Za0:=grownCap_ge w (els.length+xs.length) cap' e;have hpos':kk=0∨0<els.length:=by omega
         obtain ⟨G',m',q1,q2⟩:=grow (grownCap w (els.length+xs.length) cap' e) ((cs.toList.take (els.length*ii.size)).toArray++us.toArray++Builtin.zeroCells zv.cells (grownCap w (els.length+xs.length) cap' e-(els.length+xs.length)))
          (by
           simp only [Array.size_append,List.size_toArray,Ct,Qb2,Qe5,i6,←i2,←Nat.add_mul]
           congr 1
           omega) (by simpa using Za0) Zm2 (by
           have Zmz:(els++xs).length*ii.size=(cs.toList.take (els.length*ii.size)++us).length:=by
            rw [Ze,Ze,Qb2,Qe5,Nat.add_mul]
           rw [Zmz];simp only [Array.toList_append,List.take_left'];exact RE.append h7 g1') hpos'
         rw [My];refine ⟨_,_,m',G',hr,q1,?_⟩;simpa using q2
     ·cases hh
    ·cases hh
   ·cases hh
  ·cases hh
 ·cases hh
end
section
variable {P:Program} {C:Ctx} {G:Gh}
variable {base:Nat} {pass:Nat→Prop} {F0:Anc} {m:Nat→Nat} {st:AS} {a:Act} {w:World}
theorem yQ {α β:Type} (g:α→Option β):∀ (l:List α) (fs:List β),l.length=fs.length→(∀ (j:Nat) (f:α) (p:β),l[j]?=some f→fs[j]?=some p→g f=some p)→l.mapM g=some fs
 | [],[],_,_=>rfl
 | [],_::_,h,_=>by simp at h
 | _::_,[],h,_=>by simp at h
 | x::l,p::fs,h,hg=>by
  have h0:=hg 0 x p rfl rfl;have ih:=yQ g l fs (by simpa using h) (fun j f q hj hq=>hg (j+1) f q (by simpa using hj) (by simpa using hq))
  simp [List.mapM_cons,h0,ih]
theorem D9 {o:Qh} {fs:List (Nat×Nat)}:∀ {W6:List (Nat×AV)} {cells:List AV} {c c':Prop} {z:AV} {os:Qh},U9 o fs cells W6 c=some (c',z,os)→c'→c
 | [],cells,c,c',z,os,h,hc=>by
  simp only [U9,Zb,Zc] at h;obtain ⟨rfl,_,_⟩:=h;exact hc
 | (i,x)::W6,cells,c,c',z,os,h,hc=>by
  simp only [U9] at h;split at h
  ·split at h
   ·exact (D9 h hc).1
   ·cases h
  ·cases h
theorem Qgr {F:Fix} {L:Nat→Option Obj} {x:AV} {v:Value} (g2:RA F G L x v) (hx:x.fits 1):∃ u,v.cells=#[u]∧u.oneCell'=true∧RA F G L ((x.cells false 1).getD 0 .dead) u:=by
 obtain ⟨k1,k2,k3⟩:=Ck (ag:=false) g2 hx;obtain ⟨u,hu⟩:=Array.size_eq_one_iff.1 k2;rw [hu] at k1 k3;refine ⟨u,hu,k3 u (by simp),?_⟩
 have Q5:=RAs.length k1
 match hcx:x.cells false 1,Q5 with
 | [y],_ =>
  rw [hcx] at k1;simp only [RAs] at k1;obtain ⟨v',r,e,g,_⟩:=k1;simp only [List.cons.injEq] at e;rw [e.1];simpa using g
theorem I7 {F:Fix} {L:Nat→Option Obj} {o:Qh} {fs:List (Nat×Nat)}:∀ {W6:List (Nat×AV)} {pv:List (Nat×Value)} {cells:List AV} {vs:List Value} {c c':Prop} {z:AV} {os:Qh},
  U9 o fs cells W6 c=some (c',z,os)→c'→RAs F G L cells vs→(∀ u∈vs,u.oneCell'=true)→W6.length=pv.length →
  (∀ (j i:Nat) (x:AV),W6[j]?=some (i,x)→∃ v,pv[j]?=some (i,v)∧RA F G L x v) →
  os=o∧∃ cells',Instr.fill (fs.toArray[·]?) vs.toArray pv=some cells'∧RA F G L z (.agg cells')
 | [],pv,cells,vs,c,c',z,os,h,hc,hr,h1,hl,_=>by
  simp only [U9,Zb,Zc] at h;obtain ⟨rfl,rfl,rfl⟩:=h;have:pv=[]:=List.eq_nil_of_length_eq_zero (by simpa using hl.symm)
  subst this;exact ⟨rfl,vs.toArray,rfl,tW hr h1⟩
 | (i,x)::W6,pv,cells,vs,c,c',z,os,h,hc,hr,h1,hl,hv=>by
  simp only [U9] at h;cases hf:fs[i]? with
  | none=>simp [hf] at h
  | some p =>
   obtain ⟨off,sz⟩:=p;simp only [hf] at h;split at h
   ·next hs =>
    have hx:=(D9 h hc).2;cases pv with
    | nil=>simp at hl
    | cons p pv =>
     obtain ⟨v,e1,g2⟩:=hv 0 i x rfl;simp only [List.getElem?_cons_zero,Zb] at e1;subst e1;obtain ⟨u,hu,Qmg,Qvz⟩:=Qgr g2 hx;obtain ⟨Jaz,cells',hf',hz⟩:=I7 (pv:=pv) (vs:=vs.set off u) h hc (RAs.set hr Qvz) (fun y hy=>by
       rcases List.mem_or_eq_of_mem_set hy with hy|hy
       ·exact h1 y hy
       ·rw [hy];exact Qmg) (by simpa using hl) (fun j i x hj=>by
       obtain ⟨v',e,g⟩:=hv (j+1) i x (by simpa using hj)
       exact ⟨v',by simpa using e,g⟩)
     refine ⟨Jaz,cells',?_,hz⟩;have Qb2:=RAs.length hr;have Qon:fs.toArray[i]?=some (off,sz):=by simpa using hf
     simp only [Instr.fill,Qon];rw [if_neg (by simp [hu,hs.1,Qb2];omega),hu]
     simpa using hf'
   ·cases h
theorem Zd8 {pl pl':Nat→Option (Nat×Nat)} (h:∀ i p,pl i=some p→pl' i=some p):∀ {l:List (Nat×Value)} {cs r:Array Value},Instr.fill pl cs l=some r→Instr.fill pl' cs l=some r
 | [],_,_,he=>he
 | (i,v)::l,cs,r,he=>by
  simp only [Instr.fill] at he ⊢;cases hp:pl i with
  | none=>simp [hp] at he
  | some p =>
   obtain ⟨off,sz⟩:=p;rw [h i _ hp];simp only [hp] at he ⊢;split at he
   ·cases he
   ·rename_i hc;rw [if_neg hc];exact Zd8 h he
theorem Zah {o:Qh}:∀ {W6:List (Nat×AV)} {cells:List AV} {c:Prop} {r:Prop×AV×Qh},L4 o cells W6 c=some r→U9 o ((List.range cells.length).map fun i=>(i,1)) cells W6 c=some r
 | [],cells,c,r,h=>h
 | (i,x)::W6,cells,c,r,h=>by
  simp only [L4] at h;split at h
  ·next hi =>
   have hf:((List.range cells.length).map fun i=>(i,1))[i]?=some (i,1):=by simp [hi]
   simp only [U9,hf];rw [if_pos ⟨trivial,hi⟩];have:=Zah h;rwa [List.length_set] at this
  ·cases h
theorem Zl1 (T:Yd P C.τ) (h:SRg base pass F0 m G st a w) {t:Nat} {l:List (Nat×AV)} {vs:List (Nat×Value)} {c:Prop} {z:AV} {os:Qh} (hl:l.length=vs.length)
  (hv:∀ (j i:Nat) (x:AV),l[j]?=some (i,x)→∃ v,vs[j]?=some (i,v)∧RA ⟨w,m⟩ G (lk st.objs) x v)
  (hh:lS C t l st.objs=some (c,z,os)) (hc:c):L6 P base pass F0 a st.tmps (Instr.build t vs.toArray) w z os:=by
 unfold lS at hh;split at hh
 ·next fs hk =>
  have tt:=T t (by rw [hk];rfl)
  obtain ⟨d,hd,X7⟩:=T.kind hk rfl;simp only [TK.is] at X7;obtain ⟨fields,rfl,Q5,Qon⟩:=X7;obtain ⟨i,zv,h1,h2,h3,h4,h5,_,h6,h7⟩:=tt.info;have M8:=D9 hh hc;obtain ⟨g1,g2,g3⟩:=Ck (ag:=true) (h5 ⟨w,m⟩ G (lk st.objs)) M8;obtain ⟨rfl,cells',q1,q2⟩:=I7 (pv:=vs) hh hc g1 g3 hl hv;have Qk7:fields.toList.mapM (fun f=>(P.info? f.type).map fun i=>(f.offset,i.size))=some fs:=by
   refine yQ _ _ _ (by simpa using Q5.symm) (fun j f p hj hp=>?_)
   obtain ⟨e1,e2,_⟩:=Qon j f p (by simpa using hj) hp
   cases hi:P.info? f.type with
   | none=>simp [hi] at e2
   | some ii =>
    simp [hi] at e2;simp [e1,e2]
  have hb:P.built t vs=some cells':=by
   unfold Program.built;simp only [h1,hd,h4,Qk7];simpa using q1
  exact Qu h (run_build w t vs.toArray cells' hb) q2
 ·next n e hk =>
  split at hh
  ·next hs =>
   have tt:=T t (by rw [hk];rfl)
   obtain ⟨d,hd,X7⟩:=T.kind hk rfl;simp only [TK.is] at X7;obtain ⟨rfl,he⟩:=X7;obtain ⟨i,zv,h1,h2,h3,h4,h5,_,h6,h7⟩:=tt.info;obtain ⟨ie,ze,e1,e2,e3,e4,e5,_,e6,e7⟩:=(T e (by rw [he];rfl)).info
   have Qfa:ie.size=1:=by rw [e2];exact hs
   have hh:=Zah hh;have M8:=D9 hh hc;obtain ⟨g1,g2,g3⟩:=Ck (ag:=true) (h5 ⟨w,m⟩ G (lk st.objs)) M8;obtain ⟨rfl,cells',q1,q2⟩:=I7 (pv:=vs) hh hc g1 g3 hl hv;have hb:P.built t vs=some cells':=by
    unfold Program.built;simp only [h1,hd,h4,e1,Qfa];refine Zd8 (fun j p hj=>?_) (by simpa using q1)
    simp only [List.getElem?_map,List.getElem?_toArray,Option.map_eq_some_iff] at hj;obtain ⟨k,Ze7,rfl⟩:=hj;rw [List.getElem?_range (by
     have:=(List.getElem?_eq_some_iff.1 Ze7).1;simpa using this)] at Ze7
    injection Ze7 with Ze7
    rw [Ze7];simp
   exact Qu h (run_build w t vs.toArray cells' hb) q2
  ·cases hh
 ·cases hh
theorem D.eqb_key {k:TK} {x y:D} (hx:G4 k x) (hy:G4 k y) (h:D.eqb x y=true):x=y:=by
 unfold G4 at hx hy;cases k<;>simp only at hx hy
 ·cases x<;>simp only [D.isInt] at hx;cases y<;>simp only [D.isInt] at hy;subst hx;subst hy;simpa [D.eqb] using h
 ·cases x<;>simp only [D.isStr] at hx;cases y<;>simp only [D.isStr] at hy;simpa [D.eqb] using h
theorem D.eqb_self {k:TK} {x:D} (hx:G4 k x):D.eqb x x=true:=by
 unfold G4 at hx;cases k<;>simp only at hx
 ·cases x<;>simp only [D.isInt] at hx;simp [D.eqb]
 ·cases x<;>simp only [D.isStr] at hx;simp [D.eqb]
def Pb:TK→TypeDesc
 | .int k=>.int k
 | _=>.string
theorem Zl0 (s t:List UInt8):((⟨s.toArray⟩:ByteArray)==⟨t.toArray⟩)=(s==t):=by
 rw [Bool.eq_iff_iff];show (s.toArray==t.toArray)=true↔_;simp
theorem aL {k:TK} {x y:D} {vx vy:Value} (hx:G4 k x) (hy:G4 k y) {F:Fix} (rx:R F x vx) (ry:R F y vy) :
  Instr.sameNow (Pb k) vx vy=some (D.eqb x y)∧(D.eqb x y=true→vx=vy∧Instr.sameBits 10000 vy vx=true):=by
 unfold G4 at hx hy;cases k<;>simp only at hx hy
 ·cases x<;>simp only [D.isInt] at hx;cases y<;>simp only [D.isInt] at hy;subst hx;subst hy;simp only [R] at rx ry;subst rx;subst ry;refine ⟨by simp [Instr.sameNow,Pb,D.eqb],fun h=>?_⟩
  simp only [D.eqb,Zj] at h;subst h;exact ⟨rfl,by simp [Instr.sameBits]⟩
 ·cases x<;>simp only [D.isStr] at hx;cases y<;>simp only [D.isStr] at hy;simp only [R] at rx ry;subst rx;subst ry;refine ⟨by
   simp only [Instr.sameNow,Pb,D.eqb,Zb];exact Zl0 _ _,fun h=>?_⟩
  simp only [D.eqb,Zj] at h;subst h;refine ⟨rfl,?_⟩;show ((_:ByteArray)==_)=true;rw [Zl0];exact beq_self_eq_true _
theorem R.key_fun {k:TK} {x:D} (hx:G4 k x) {F:Fix} {u v:Value} (h1:R F x u) (h2:R F x v):u=v:=by
 unfold G4 at hx;cases k<;>simp only at hx
 ·exact (h1.of_int hx).trans (h2.of_int hx).symm
 ·exact (h1.of_str hx).trans (h2.of_str hx).symm
theorem Zke {k:TK} {x:D} {vx:Value} {F:Fix} (hx:G4 k x):∀ {es:List MapEntry} {ks:List D},Gk k ks→R F x vx→Rs F ks (es.map MapEntry.key)→Oo x ks=false→∀ e∈es,e.key≠vx
 | [],_,_,_,_,_,_,he=>by cases he
 | e::es,[],_,_,hr,_,_,_=>by simp [Rs] at hr
 | e::es,y::ks,hk,rx,hr,hh,e',he=>by
  simp only [Gk] at hk;simp only [List.map_cons,Rs] at hr;obtain ⟨v,r,Qmf,h1,h2⟩:=hr;simp only [List.cons.injEq] at Qmf;obtain ⟨rfl,rfl⟩:=Qmf;simp only [Oo,Bool.or_eq_false_iff] at hh;rcases Zs.1 he with rfl|he
  ·intro e0;have hs:=(aL hx hk.1 rx h1).1;rw [hh.1,e0] at hs;have:Instr.sameNow (Pb k) vx vx=some true:=(aL hx hx rx rx).1.trans (by rw [D.eqb_self hx])
   rw [this] at hs;cases hs
  ·exact Zke hx hk.2 rx h2 hh.2 e' he
theorem mQ {k:TK} {x:D} {vx:Value} {F:Fix} (hx:G4 k x) (rx:R F x vx):∀ {es:List MapEntry} {ks:List D} (n:Nat),Gk k ks→Rs F ks (es.map MapEntry.key)→Oo x ks=false→Instr.findNow (Pb k) vx es n=some none
 | [],_,_,_,_,_=>rfl
 | e::es,[],_,_,hr,_=>by simp [Rs] at hr
 | e::es,y::ks,n,hk,hr,hh=>by
  simp only [Gk] at hk;simp only [List.map_cons,Rs] at hr;obtain ⟨v,r,Qmf,h1,h2⟩:=hr;simp only [List.cons.injEq] at Qmf;obtain ⟨rfl,rfl⟩:=Qmf;simp only [Oo,Bool.or_eq_false_iff] at hh;have hs:=(aL hx hk.1 rx h1).1;rw [hh.1] at hs;rw [Instr.findNow,hs];exact mQ hx rx (n+1) hk.2 h2 hh.2
theorem eP {k:TK} {x z y:D} {vx vy:Value} {F:Fix} (hx:G4 k x) (rx:R F x vx) (ry:R F y vy):∀ {es:List MapEntry} {ks vs:List D} (n:Nat),Gk k ks→Rs F ks (es.map MapEntry.key)→Rs F vs (es.map MapEntry.val)→Oo x ks=true →
  ∃ (j:Nat) (e:MapEntry),es[j]?=some e∧Instr.findNow (Pb k) vx es n=some (some (n+j,e.val))∧Instr.sameBits 10000 e.key vx=true∧R F (uO x z ks vs) e.val ∧
   Rs F ks ((es.modify j fun e=>{ e with key:=vx,val:=vy }).map MapEntry.key)∧Rs F (Fx x y ks vs) ((es.modify j fun e=>{ e with key:=vx,val:=vy }).map MapEntry.val)∧∀ e':MapEntry,es[j]?=some e'→vx=e'.key
 | [],[],_,_,_,_,_,hh=>by simp [Oo] at hh
 | [],_::_,_,_,_,hr,_,_=>by simp [Rs] at hr
 | e::es,[],_,_,_,hr,_,_=>by simp [Rs] at hr
 | e::es,d::ks,[],_,_,_,hv,_=>by simp [Rs] at hv
 | e::es,d::ks,u::vs,n,hk,hr,hv,hh=>by
  simp only [Gk] at hk;simp only [List.map_cons,Rs] at hr hv;obtain ⟨v,r,Qmf,h1,h2⟩:=hr;obtain ⟨v',r',hvr',h1',h2'⟩:=hv;simp only [List.cons.injEq] at Qmf hvr';obtain ⟨rfl,rfl⟩:=Qmf;obtain ⟨rfl,rfl⟩:=hvr';obtain ⟨hs,K8⟩:=aL hx hk.1 rx h1;cases hb:D.eqb x d with
  | true =>
   rw [hb] at hs;obtain ⟨e1,e2⟩:=K8 hb;have Qys:=D.eqb_key hx hk.1 hb;refine ⟨0,e,rfl,by rw [Instr.findNow,hs];rfl,e2,?_,?_,?_,fun e'' he''=>by
    simp only [List.getElem?_cons_zero,Zb] at he'';subst he'';exact R.key_fun hx rx (by rw [Qys];exact h1)⟩
   ·simp only [uO,hb,cond_true];exact h1'
   ·simp only [List.modify_zero_cons,List.map_cons,Rs];exact ⟨vx,_,rfl,Qys▸rx,h2⟩
   ·simp only [Fx,hb,cond_true,List.modify_zero_cons,List.map_cons,Rs];exact ⟨vy,_,rfl,ry,h2'⟩
  | false =>
   rw [hb] at hs;simp only [Oo,hb,Bool.false_or] at hh;obtain ⟨j,e',q1,q2,q3,q4,q5,q6,q7⟩:=eP (z:=z) hx rx ry (n+1) hk.2 h2 h2' hh;refine ⟨j+1,e',by simpa using q1,by rw [Instr.findNow,hs];simp only;rw [q2,show n+1+j=n+(j+1) by omega],q3,?_,?_,?_,fun e'' he''=>q7 e'' (by simpa using he'')⟩
   ·simp only [uO,hb,cond_false];exact q4
   ·simp only [List.modify_succ_cons,List.map_cons,Rs];exact ⟨_,_,rfl,h1,q5⟩
   ·simp only [Fx,hb,cond_false,List.modify_succ_cons,List.map_cons,Rs];exact ⟨_,_,rfl,h1',q6⟩
theorem Zdh {x v:D}:∀ {ks vs:List D},ks.length=vs.length→Oo x ks=false→Fx x v ks vs=vs++[v]
 | [],[],_,_=>rfl
 | [],_::_,h,_=>by simp at h
 | _::_,[],h,_=>by simp at h
 | y::ks,u::vs,h,hh=>by
  simp only [Oo,Bool.or_eq_false_iff] at hh;simp only [Fx,hh.1,cond_false,Zdh (ks:=ks) (vs:=vs) (by simpa using h) hh.2,List.cons_append]
theorem Zdj {x z:D}:∀ {ks vs:List D},Oo x ks=false→uO x z ks vs=z
 | [],_,_=>by cases ‹List D›<;>rfl
 | _::_,[],_=>rfl
 | y::ks,u::vs,hh=>by
  simp only [Oo,Bool.or_eq_false_iff] at hh;simp only [uO,hh.1,cond_false];exact Zdj hh.2
theorem Zdp (T:Yd P C.τ) {kt:Nat} {x:D} (h:G4 (C.τ kt).kind x):P.underlying kt=some (Pb (C.τ kt).kind):=by
 cases hk:(C.τ kt).kind with
 | int k =>
  obtain ⟨d,hd,X7⟩:=T.kind hk rfl;simp only [TK.is] at X7;subst X7;exact hd
 | str =>
  obtain ⟨d,hd,X7⟩:=T.kind hk rfl;simp only [TK.is] at X7;subst X7;exact hd
 | _=>rw [hk] at h;exact h.elim
theorem Df {kt:Nat} {k:TK} {x:D} {v:Value} {b:Bool} (hd:P.underlying kt=some (Pb k)) (hx:G4 k x) {F:Fix} (rx:R F x v):(Instr.checkKey b 10000 kt v).run P w=.ok () w:=by
 unfold G4 at hx;unfold Instr.checkKey;cases k<;>simp only at hx
 ·have:=rx.of_int hx;subst this;simp only [Sem.run_bind,run_underlying hd,Result.andThen_ok,Pb];rfl
 ·have:=rx.of_str hx;subst this;simp only [Sem.run_bind,run_underlying hd,Result.andThen_ok,Pb];rfl
theorem Ao {kt:Nat} {k:TK} {v:Value} {es:List MapEntry} {r:Option (Nat×Value)} (hd:P.underlying kt=some (Pb k)) (h:Instr.findNow (Pb k) v es 0=some r):(Instr.findKey kt v es).run P w=.ok r w:=by
 simp [Instr.findKey,run_underlying hd,h]
theorem xZ (T:Yd P C.τ) {t kt et:Nat} (ht:P.underlying t=some (.map kt et)) (h:SRg base pass F0 m G st a w) {b:Nat} {es:Array MapEntry} {cl:Nat} (hb:w.heap[b]?=some (.map es cl)) {ks vs:List D} {i:D} {vi:Value} {ok:Bool} {c:Prop} {z:AV} {os:Qh}
  (rk:Rs ⟨w,m⟩ ks (es.toList.map MapEntry.key)) (rv:Rs ⟨w,m⟩ vs (es.toList.map MapEntry.val)) (ri:R ⟨w,m⟩ i vi) (hh:Fw C kt et ks vs i ok st.objs=some (c,z,os)) (hc:c) :
  L6 P base pass F0 a st.tmps (Instr.lookup t (.map (some b)) vi ok) w z os:=by
 have common:∀ ag,C.ag et=some ag→G4 (C.τ kt).kind i→Gk (C.τ kt).kind ks→∃ u,(Instr.lookup t (.map (some b)) vi ok).run P w=.ok (if ok then .tuple #[u,.bool (Oo i ks)] else u) w∧R ⟨w,m⟩ (uO i (C.τ et).zd ks vs) u:=by
  intro ag Qlf h1 h2;have hd:=Zdp T h1;obtain ⟨ii,zv,z1,z2,z3,z4,_,z6,_⟩:=(Ctx.ag_some T Qlf).info;have hz:(zeroValue et).run P w=.ok zv w:=by simp [zeroValue,typeInfo,z1,z4]
  cases hm:Oo i ks with
  | true =>
   obtain ⟨j,e,q1,q2,_,q4,_,_,_⟩:=eP (z:=(C.τ et).zd) (y:=i) h1 ri ri 0 h2 rk rv hm;refine ⟨e.val,?_,q4⟩;have hf:=Ao (w:=w) hd q2;simp [Instr.lookup,run_underlying ht,getObj,hb,Sem.run,Df hd h1 ri,hf]
  | false =>
   have hf:=Ao (w:=w) hd (mQ h1 ri 0 h2 rk hm);refine ⟨zv,?_,by rw [Zdj hm];exact z6 _⟩
   simp [Instr.lookup,run_underlying ht,getObj,hb,Sem.run,Df hd h1 ri,hf,hz]
 unfold Fw at hh;split at hh
 ·next ag Qlf =>
  cases ok with
  | true =>
   simp only [Zb,Zc] at hh;obtain ⟨rfl,rfl,rfl⟩:=hh;obtain ⟨u,r1,r2⟩:=common ag Qlf hc.1 hc.2;refine Qu h r1 ?_;simp only [RA,R,if_true];exact ⟨[u,.bool (Oo i ks)],by simp,by simp only [Rs,R];exact ⟨_,_,rfl,r2,_,_,rfl,rfl,rfl⟩⟩
  | false =>
   simp only [Zb,Zc] at hh;obtain ⟨rfl,rfl,rfl⟩:=hh;obtain ⟨u,r1,r2⟩:=common ag Qlf hc.1 hc.2;exact Qu h (v:=u) (by simpa using r1) (by simpa only [RA] using r2)
 ·cases hh
theorem Zf8 (T:Yd P C.τ) (h:SRg base pass F0 m G st a w) {t:Nat} {x ix:AV} {v vi:Value} {ok:Bool} {c:Prop} {z:AV} {os:Qh} (hx:RA ⟨w,m⟩ G (lk st.objs) x v) (Zht:RA ⟨w,m⟩ G (lk st.objs) ix vi)
  (hh:Ay C t x ix ok st.objs=some (c,z,os)) (hc:c):L6 P base pass F0 a st.tmps (Instr.lookup t v vi ok) w z os:=by
 unfold Ay at hh;split at hh
 ·next kt et i hk =>
  obtain ⟨d,hd,X7⟩:=T.kind hk rfl;simp only [TK.is] at X7;subst X7;simp only [RA] at Zht;split at hh
  ·next ks vs =>
   simp only [RA,R] at hx;obtain ⟨b,es,cl,rfl,hb,_,rk,rv,_⟩:=hx;exact xZ T hd h hb rk rv Zht hh hc
  ·next j =>
   split at hh
   ·next ks vs fr hl =>
    simp only [RA,hl] at hx;obtain ⟨b,g1,rfl⟩:=hx.2 rfl;have Kh:=h.objs j _ hl;simp only [Ja] at Kh;obtain ⟨b',es,cl,h1,hb,rk,rv,_⟩:=Kh;rw [g1] at h1;injection h1 with h1
    subst h1;exact xZ T hd h hb rk rv Zht hh hc
   ·cases hh
  ·cases hh
 ·cases hh
theorem SRg.putMap (h:SRg base pass F0 m G st a w) {i b:Nat} {ks vs ks' vs':List D} {es es':Array MapEntry} {cl cl':Nat} (hi:lk st.objs i=some (.mp ks vs false)) (hb:G.γ i=some b) (hg:w.heap[b]?=some (.map es cl)) (hm:m b=0)
  (hk:Rs ⟨w,m⟩ ks' (es'.toList.map MapEntry.key)) (hv:Rs ⟨w,m⟩ vs' (es'.toList.map MapEntry.val)) (Jg:Go.MapKept.Stamped es' cl') :
  SRg base pass F0 m G ⟨st.tmps,upd st.objs i (.mp ks' vs' false)⟩ a { w with heap:=w.heap.setIfInBounds b (.map es' cl') }:=by
 have Zv:b<w.heap.size:=(Array.getElem?_eq_some_iff.1 hg).1;have same:∀ b',b'≠b→(w.heap.setIfInBounds b (.map es' cl'))[b']?=w.heap[b']?:=fun b' Tz=>by simp [Ne.symm Tz]
 have Qww:(w.heap.setIfInBounds b (.map es' cl'))[b]?=some (.map es' cl'):=by simp [Zv]
 have hF:Fix.le ⟨w,m⟩ ⟨{ w with heap:=w.heap.setIfInBounds b (.map es' cl') },m⟩:=by
  refine ⟨fun b'=>⟨Zr _,fun off ho=>?_⟩,fun b' es2 c2 Zmx M9=>?_⟩
  ·by_cases M9:b'=b
   ·subst M9;simp only [hm] at ho;omega
   ·exact World.cell?_of_block (same b' M9)
  ·by_cases Qtv:b'=b
   ·subst Qtv;simp only [hm] at Zmx;omega
   ·show (w.heap.setIfInBounds b (.map es' cl'))[b']?=_;rw [same b' Qtv];exact M9
 have Zb8:=h.mine i _ b hi rfl hb;refine (h.obj i (.mp ks' vs' false) (G':=G) (m':=m) hF (fun _ _=>⟨rfl,rfl⟩) (fun o1 h1=>by
   rw [hi] at h1;injection h1 with h1
   subst h1;exact ⟨fun _=>⟨rfl,rfl⟩,fun s els' k' he=>by cases he⟩) (fun _=>by
   simp only [Ja];exact ⟨b,es',cl',hb,Qww,Rs.mono hF hk,Rs.mono hF hv,by simpa using hm,Jg⟩)
  (fun j oj Ha hj dB b' hb'=>by
   have:b'≠b:=fun e=>Ha (h.apart j i oj _ b hj hi dB rfl (e▸hb') hb);exact ⟨same b' this,rfl⟩)
  (fun _ b' hb'=>by
   rw [hb] at hb';injection hb' with hb'
   subst hb';exact ⟨by simpa using Zb8.1,Zb8.2,fun j oj Ha hj dB e=>Ha (h.apart j i oj _ b hj hi dB rfl e hb)⟩)
  ⟨rfl,rfl,rfl,by simp,fun b' hlt' hp=>same b' (fun e=>by
   subst e;rcases Zb8.2 with h1|h1
   ·omega
   ·exact hp h1)⟩ (fun _ _ _=>rfl) (fun b' aY=>h.new b' (by simpa using aY))).2
theorem Zbk (h:SRg base pass F0 m G st a w) {k t:Nat} {c:Prop} {z:AV} {os:Qh} (hh:Oy k st.objs=some (c,z,os)):L6 P base pass F0 a st.tmps (Instr.makeMap t none) w z os:=by
 unfold Oy at hh;split at hh
 ·next hk =>
  simp only [Zb,Zc] at hh;obtain ⟨rfl,rfl,rfl⟩:=hh;obtain ⟨q1,q2,q3⟩:=h.fresh hk (.mp [] [] false) (.map #[] 0) undef (fun hg hF=>by
   simp only [Ja];exact ⟨w.heap.size,#[],0,by simp,heap_alloc_new w _,by simp [Rs],by simp [Rs],h.new _ (Zr _),Go.MapKept.stamped_empty 0⟩)
  refine ⟨.map (some w.heap.size),_,m,_,by simp [Instr.makeMap,newObj,Sem.run],q3,?_⟩
  simp only [RA,Xw,if_true];exact ⟨rfl,fun _=>⟨_,rfl,rfl⟩⟩
 ·cases hh
theorem uM (T:Yd P C.τ) (h:SRg base pass F0 m G st a w) {t:Nat} {x ix y:AV} {v vi vy:Value} {c:Prop} {z:AV} {os:Qh} (hx:RA ⟨w,m⟩ G (lk st.objs) x v) (Zht:RA ⟨w,m⟩ G (lk st.objs) ix vi) (hy:RA ⟨w,m⟩ G (lk st.objs) y vy)
  (hh:Bo C t x ix y st.objs=some (c,z,os)) (hc:c):z=.dead∧Zaq P base pass F0 a st.tmps (Instr.mapUpdate t v vi vy) w os:=by
 unfold Bo at hh;split at hh
 ·next kt et i j hk =>
  obtain ⟨d,hd,X7⟩:=T.kind hk rfl;simp only [TK.is] at X7;subst X7;simp only [RA] at Zht;split at hh
  ·next c1 yd o1 hpur =>
   split at hh
   ·next ks vs hl =>
    simp only [Zb,Zc] at hh;obtain ⟨rfl,rfl,rfl⟩:=hh;obtain ⟨qG,h1,h2⟩:=hc;obtain ⟨m1,k1,k2,k3,ry⟩:=Sk h hpur qG hy;have hx':=RA.mono k2 k3 hx;simp only [RA,hl] at hx';obtain ⟨b,g1,rfl⟩:=hx'.2 rfl;have Kh:=k1.objs j _ hl;simp only [Ja] at Kh;obtain ⟨b',es,cl,e1,hb,rk,rv,Zmx,Jg⟩:=Kh;rw [g1] at e1;injection e1 with e1
    subst e1;have hmb':m1 b=0:=by simpa using Zmx
    have ri:=R.mono k2 Zht;have X7:=Zdp T h1;refine ⟨rfl,?_⟩;have gobj:(getObj b).run P w=.ok (.map es cl) w:=by simp [getObj,Sem.run,hb]
    have sobj:∀ o,(setObj b o).run P w=.ok () { w with heap:=w.heap.setIfInBounds b o }:=fun o=>by simp [setObj,Sem.run,hb]
    cases hm:Oo i ks with
    | true =>
     obtain ⟨jj,e,q1,q2,q3,_,q5,q6,q7⟩:=eP (z:=yd) h1 ri ry 0 h2 rk rv hm;have hf:=Ao (P:=P) (w:=w) X7 q2;have Qpp:(es[jj]?).map MapEntry.key=some e.key:=by
      rw [←Array.getElem?_toList,q1];rfl
     have Qip:=k1.putMap (es':=es.modify jj fun e=>{ e with key:=vi,val:=vy }) (cl':=cl) hl g1 hb hmb' (by rw [Array.toList_modify];exact q5) (by rw [Array.toList_modify];exact q6) (Go.MapKept.stamped_modify Jg jj _ (fun _ _=>rfl) (fun e' _ he'=>q7 e' (by rw [Array.getElem?_toList];exact he')))
     refine ⟨_,m1,G,?_,by simpa only [tB,hm,cond_true] using Qip⟩
     have Zh5:(Instr.keyThatStays (((es[0+jj]?).map (·.key)).getD vi) vi).run P w=.ok vi w:=by
      rw [Nat.zero_add,show (es[jj]?).map (·.key)=some e.key from Qpp];simp [Instr.keyThatStays,q3]
     simp only [Nat.zero_add] at hf Zh5;simp [Instr.mapUpdate,run_underlying hd,gobj,Df X7 h1 ri,hf,Zh5,sobj,Result.andThen]
    | false =>
     have hf:=Ao (P:=P) (w:=w) X7 (mQ h1 ri 0 h2 rk hm);have Q5:ks.length=vs.length:=by
      have q1:=rk.length;have q2:=rv.length;simp only [Zf] at q1 q2;omega
     have Qip:=k1.putMap (ks':=ks++[i]) (vs':=vs++[yd]) (es':=es.push { key:=vi,val:=vy,born:=cl }) (cl':=cl+1) hl g1 hb hmb' (by
      rw [Array.toList_push,List.map_append];exact Rs.append rk (by simp only [List.map_cons,List.map_nil,Rs];exact ⟨_,_,rfl,ri,rfl⟩)) (by
      rw [Array.toList_push,List.map_append];exact Rs.append rv (by simp only [List.map_cons,List.map_nil,Rs];exact ⟨_,_,rfl,ry,rfl⟩))
      (Go.MapKept.stamped_push Jg fun x Jal=>Zke h1 h2 ri rk hm x Jal)
     refine ⟨_,m1,G,?_,by simpa only [tB,hm,cond_false,Zdh Q5 hm] using Qip⟩
     simp [Instr.mapUpdate,run_underlying hd,gobj,Df X7 h1 ri,hf,sobj,Result.andThen]
   ·cases hh
  ·cases hh
 ·cases hh
end
def Zat (F:Fix) (s:Nat) (l:List D) (v:Value):Prop :=
 (v=.slice none 0 0∧l=[])∨∃ (b cap:Nat) (cs:Array Value) (t:TypeId),v=.slice (some ⟨b,0,none⟩) l.length cap∧l.length≤cap∧cap≤maxLen ∧
  F.w.heap[b]?=some (.cells cs t (0,0))∧cs.size=cap*s∧RE F s l (cs.toList.take (l.length*s))∧F.m b=0∧0<s
def Ze1 (F:Fix):CV→Value→Prop
 | .d x,v=>R F x v
 | .own s l,v=>Zat F s l v
 | .tup _,_=>False
def Uw (F:Fix):List CV→List Value→Prop
 | [],vs=>vs=[]
 | x::l,vs=>∃ v r,vs=v::r∧Ze1 F x v∧Uw F l r
def Jc:List CV→List Value→List Nat
 | .own _ _::l,v::vs=>v.ownBlock.toList++Jc l vs
 | _::l,_::vs=>Jc l vs
 | _,_=>[]
def Zm5 (F:Fix) (base:Nat) (pass:Nat→Prop):CV→Value→Prop
 | .tup l,v=>∃ cs:List Value,v=.tuple cs.toArray∧Uw F l cs∧(Jc l cs).Nodup∧∀ b∈Jc l cs,base≤b∨pass b
 | x,v=>Uw F [x] [v]∧∀ b∈Jc [x] [v],base≤b∨pass b
def Qie (P:Program) (f:FuncId) (con:Con):Prop :=
 ∀ (m:Nat→Nat) (w:World) (Ji:List CV) (vs:List Value),con.pre Ji→Uw ⟨w,m⟩ Ji vs→(Jc Ji vs).Nodup→(∀ b,w.heap.size≤b→m b=0) →
  Calls P f vs.toArray w fun e w'=>∃ v m',e=.returned v∧Frame w.heap.size (·∈Jc Ji vs) w w'∧(∀ b,b<w.heap.size→b∉Jc Ji vs→m' b=m b)∧(∀ b,w'.heap.size≤b→m' b=0) ∧
   Zm5 ⟨w',m'⟩ w.heap.size (·∈Jc Ji vs) (con.fn Ji) v
def Oa (P:Program) (f:FuncId):Prop:=∀ (args:Array Value) (w:World),(callFunc f args).run P w=.ok (.enter f args) w
def Bl:Nat→List Obj→Qh
 | _,[]=>[]
 | n,o::l=>(n,o)::Bl (n+1) l
def Jq (l:List Obj):Qh:=Bl 90000 l
def Obj.tied (o:Qh):Obj→Prop
 | .box _ cells=>keptAll o cells
 | .hole ..=>False
 | _=>True
def Lj (o:Qh):List Obj→Prop
 | []=>True
 | x::l=>x.tied o∧Lj o l
def J4:List Obj→Prop
 | []=>True
 | .row _ _ k::l=>k=0∧J4 l
 | .mp _ _ f::l=>f=false∧J4 l
 | _::l=>J4 l
def Ah (args:List AV) (l:List Obj):Prop:=keptAll (Jq l) args∧Lj (Jq l) l
def dJ (G:Gh) (l:List Obj) (b:Nat):Prop:=∃ i o,lk (Jq l) i=some o∧o.owns=true∧G.γ i=some b
def Zzg (P:Program) (f:FuncId) (bc:BCon):Prop:=∀ x,bc.ok x→Ah (bc.args x) (bc.objs x)∧J4 (bc.objs x)∧Ah [] (bc.post x)∧(bc.objs x).length≤(bc.post x).length ∧
 ∀ (m:Nat→Nat) (w:World) (G:Gh) (vs:List Value),SRg w.heap.size (dJ G (bc.objs x)) ⟨⟨w,m⟩,G,lk (Jq (bc.objs x))⟩ m G ⟨bc.args x,Jq (bc.objs x)⟩ ⟨vs.toArray,[]⟩ w →
  Calls P f vs.toArray w fun e w'=>∃ v m' G',e=.returned v∧RA ⟨w',m'⟩ G' (lk (Jq (bc.post x))) (bc.rv x) v∧SRg w.heap.size (dJ G (bc.objs x)) ⟨⟨w,m⟩,G,lk (Jq (bc.objs x))⟩ m' G' ⟨[],Jq (bc.post x)⟩ ⟨#[],[]⟩ w'
def Co (P:Program) (C:Ctx):Prop:=Yd P C.τ∧(∀ f con,C.Γ f=some con→Oa P f∧Qie P f con)∧P.follows .mixedOrders=true∧∀ f bc,C.Δ f=some bc→Oa P f∧Zzg P f bc
section
variable {P:Program} {C:Ctx} {G:Gh}
variable {base:Nat} {pass:Nat→Prop} {F0:Anc} {m:Nat→Nat} {st:AS} {a:Act} {w:World}
theorem Zat.lt {F:Fix} {s:Nat} {l:List D} {v:Value} (h:Zat F s l v) {b:Nat} (hb:v.ownBlock=some b):b<F.w.heap.size∧F.m b=0:=by
 rcases h with ⟨rfl,_⟩|⟨b',cap,cs,t,rfl,_,_,h3,_,_,h6,_⟩
 ·simp [Value.ownBlock] at hb
 ·simp [Value.ownBlock] at hb;subst hb;refine ⟨?_,h6⟩;rcases Nat.lt_or_ge b' F.w.heap.size with Zv|aY
  ·exact Zv
  ·rw [Array.getElem?_eq_none aY] at h3;cases h3
theorem SRg.behind (h:SRg base pass F0 m G st a w) {m':Nat→Nat} {w':World} (S:List Nat) (hf:Frame w.heap.size (·∈S) w w') (hm:∀ b,b<w.heap.size→b∉S→m' b=m b) (N5:∀ b,w'.heap.size≤b→m' b=0)
  (hS:∀ b∈S,m b=0∧(base≤b∨pass b)∧∀ i oi,lk st.objs i=some oi→oi.owns=true→G.γ i≠some b) :
  Fix.le ⟨w,m⟩ ⟨w',m'⟩∧SRg base pass F0 m' G st a w':=by
 have hF:Fix.le ⟨w,m⟩ ⟨w',m'⟩:=by
  refine ⟨fun b=>?_,fun b es c Zmx M9=>?_⟩;rotate_left
  ·have Qfc:b∉S:=fun Qfc=>by
    have:=(hS b Qfc).1;simp only at Zmx;omega
   rcases Nat.lt_or_ge b w.heap.size with Zv|aY
   ·rw [hf.block b Zv Qfc];exact M9
   ·have:=h.new b aY;simp only at Zmx;omega
  by_cases Qfc:b∈S
  ·have:=(hS b Qfc).1;exact ⟨by simp only [this];exact Nat.zero_le _,fun off ho=>by simp only [this] at ho;omega⟩
  ·rcases Nat.lt_or_ge b w.heap.size with Zv|aY
   ·exact ⟨by simp only;rw [hm b Zv Qfc];exact Zr _,fun off _=>World.cell?_of_block (a:=⟨b,off,none⟩) (hf.block b Zv Qfc)⟩
   ·have:=h.new b aY;exact ⟨by simp only;omega,fun off ho=>by simp only at ho;omega⟩
 refine ⟨hF,?_⟩;constructor
 ·exact h.defers
 ·exact RAs.mono hF (G8.refl _ _) h.tmps
 ·intro i o hi;refine Ja.mono hF (G8.refl _ _) rfl rfl (fun ho b M9=>?_) (h.objs i o hi);have Zv:=(h.mine i o b hi ho M9).1;have Qzd:b∉S:=fun Qfc=>(hS b Qfc).2.2 i o hi ho M9;exact ⟨hf.block b Zv Qzd,hm b Zv Qzd⟩
 ·exact h.apart
 ·intro i o b hi ho M9;obtain ⟨q1,q2⟩:=h.mine i o b hi ho M9;exact ⟨Nat.lt_of_lt_of_le q1 hf.size,q2⟩
 ·refine h.frame.trans ⟨hf.os,hf.tape,hf.output,hf.size,fun b M9 hp=>hf.block b (Nat.lt_of_lt_of_le M9 h.small) (fun Qfc=>?_)⟩;rcases (hS b Qfc).2.1 with h1|h1
  ·omega
  ·exact hp h1
 ·intro b M9 hp;refine (hm b (Nat.lt_of_lt_of_le M9 h.small) (fun Qfc=>?_)).trans (h.old b M9 hp);rcases (hS b Qfc).2.1 with h1|h1
  ·omega
  ·exact hp h1
 ·exact N5
 ·exact Nat.le_trans h.small hf.size
 ·exact h.lent
theorem SRg.adopt (h:SRg base pass F0 m G st a w) {k s:Nat} {l:List D} {v:Value} (hk:lk st.objs k=none) (hv:Zat ⟨w,m⟩ s l v)
  (hb:∀ b,v.ownBlock=some b→(base≤b∨pass b)∧∀ i oi,lk st.objs i=some oi→oi.owns=true→G.γ i≠some b) :
  ∃ G',G8 G (lk st.objs) G' (lk (upd st.objs k (.row s l 0)))∧SRg base pass F0 m G' ⟨st.tmps,upd st.objs k (.row s l 0)⟩ a w∧RA ⟨w,m⟩ G' (lk (upd st.objs k (.row s l 0))) (.sl k l.length) v ∧
   (∀ j,j≠k→G'.γ j=G.γ j)∧(∀ b,G'.γ k=some b→v.ownBlock=some b):=by
 have Zv:=fun b M9=>hv.lt (b:=b) M9;have Zhq:v.oneCell'=true:=by
  rcases hv with ⟨rfl,_⟩|⟨_,_,_,_,rfl,_⟩<;>rfl
 obtain ⟨q1,q2⟩:=h.obj k (.row s l 0) (w':=w) (m':=m) (G':=⟨fun j=>if j=k then v.ownBlock else G.γ j,fun j=>if j=k then v else G.hd j⟩) (Fix.le_refl _)
  (fun j hj=>by simp [hj]) (fun o ho=>by rw [hk] at ho;cases ho) (fun _=>by
   simp only [Ja];rcases hv with ⟨rfl,rfl⟩|⟨b,cap,cs,t,rfl,h1,h2,h3,h4,h5,h6,_⟩
   ·exact .inl (by simp [Value.ownBlock])
   ·exact .inr ⟨b,cap,cs,t,by simp [Value.ownBlock],by simp,h1,h2,h3,h4,h5,by rw [Nat.zero_mul];exact h6,Nat.zero_le _⟩)
  (fun _ _ _ _ _ _ _=>⟨rfl,rfl⟩) (fun _ b M9=>by
   simp only [if_true] at M9;obtain ⟨g1,g2⟩:=hb b M9;exact ⟨(Zv b M9).1,g1,fun j o _ hj ho=>g2 j o hj ho⟩)
  (Frame.refl _ _ _) (fun _ _ _=>rfl) h.new
 refine ⟨_,q1,q2,?_,fun j hj=>by simp [hj],fun b M9=>by simpa using M9⟩
 simp only [RA,Xw,if_true];exact ⟨Zhq,Zr _,fun _=>trivial⟩
theorem kF {F:Fix} {s:Nat}:Zat F s [] (.slice none 0 0):=.inl ⟨rfl,rfl⟩
theorem Zat.mono {F F':Fix} {s:Nat} {l:List D} {v:Value} (h:F.le F') (hb:∀ b,v.ownBlock=some b→F'.w.heap[b]?=F.w.heap[b]?∧F'.m b=F.m b) (hv:Zat F s l v):Zat F' s l v:=by
 rcases hv with h1|⟨b,cap,cs,t,rfl,h1,h2,h3,h4,h5,h6,h7⟩
 ·exact .inl h1
 ·obtain ⟨q1,q2⟩:=hb b (by simp [Value.ownBlock])
  exact .inr ⟨b,cap,cs,t,rfl,h1,h2,by rw [q1];exact h3,h4,RE.mono h h5,by rw [q2];exact h6,h7⟩
theorem oK:∀ {ms:List Bool} {xs:List AV} {c:Prop} {Ji:List CV} {os:Qh} {st:AS} {m:Nat→Nat} {vs:List Value},SRg base pass F0 m G st a w→Vv C ms xs st.objs=some (c,Ji,os)→c →
  RAs ⟨w,m⟩ G (lk st.objs) xs vs→∃ m',SRg base pass F0 m' G ⟨st.tmps,os⟩ a w∧PurOk G st.objs os ⟨w,m⟩ ⟨w,m'⟩∧Uw ⟨w,m'⟩ Ji vs∧(Jc Ji vs).Nodup ∧
   ∀ b∈Jc Ji vs,(base≤b∨pass b)∧(∃ i oi,lk st.objs i=some oi∧oi.owns=true∧G.γ i=some b)∧∀ i oi,lk os i=some oi→oi.owns=true→G.γ i≠some b:=by
 intro ms xs
 induction xs generalizing ms with
 | nil =>
  intro c Ji os st m vs h hi hc hr;have hi':some (True,([]:List CV),st.objs)=some (c,Ji,os):=by cases ms<;>simpa [Vv] using hi
  simp only [Zb,Zc] at hi';obtain ⟨rfl,rfl,rfl⟩:=hi';simp only [RAs] at hr;subst hr;exact ⟨m,h,PurOk.refl _ _ _,by simp [Uw],by simp [Jc],by simp [Jc]⟩
 | cons x xs ih =>
  intro c Ji os st m vs h hi hc hr;simp only [RAs] at hr;obtain ⟨v,r,rfl,hx,dM⟩:=hr;have datum:∀ {ms':List Bool} {c1 c2:Prop} {y:D} {o1:Qh} {l:List CV},pur C.dp x st.objs=some (c1,y,o1)→Vv C ms' xs o1=some (c2,l,os)→c1∧c2 →
    ∃ m',SRg base pass F0 m' G ⟨st.tmps,os⟩ a w∧PurOk G st.objs os ⟨w,m⟩ ⟨w,m'⟩∧Uw ⟨w,m'⟩ (.d y::l) (v::r)∧(Jc (.d y::l) (v::r)).Nodup ∧
     ∀ b∈Jc (.d y::l) (v::r),(base≤b∨pass b)∧(∃ i oi,lk st.objs i=some oi∧oi.owns=true∧G.γ i=some b)∧∀ i oi,lk os i=some oi→oi.owns=true→G.γ i≠some b:=by
   intro ms' c1 c2 y o1 l hp Qtm Qp1;obtain ⟨m1,k1,k2,k3⟩:=pur_sound' h hp Qp1.1 hx;obtain ⟨m2,j1,j2,j3,j4,j5⟩:=ih (st:=⟨st.tmps,o1⟩) k1 Qtm Qp1.2 (RAs.mono k2.le k2.goes dM);refine ⟨m2,j1,k2.trans j2,?_,by simpa [Jc] using j4,fun b hb=>?_⟩
   ·simp only [Uw,Ze1];exact ⟨v,r,rfl,k3.mono j2.le,j3⟩
   ·obtain ⟨q1,⟨i,oi,q2,q3,q4⟩,q5⟩:=j5 b (by simpa [Jc] using hb)
    obtain ⟨oj,p1,p2⟩:=k2.sub i oi q2 q3;exact ⟨q1,⟨i,oj,p1,p2,q4⟩,q5⟩
  cases ms with
  | nil=>simp [Vv] at hi
  | cons b0 ms =>
   cases b0 with
   | false =>
    simp only [Vv] at hi;split at hi
    ·next c1 y o1 hp =>
     split at hi
     ·next c2 l o2 hi3 =>
      simp only [Zb,Zc] at hi;obtain ⟨rfl,rfl,rfl⟩:=hi;exact datum hp hi3 hc
     ·cases hi
    ·cases hi
   | true =>
    cases x with
    | sl i n =>
     simp only [Vv] at hi;split at hi
     ·next s els k hl =>
      split at hi
      ·next c2 l o2 Qtm =>
       simp only [Zb,Zc] at hi;obtain ⟨rfl,rfl,rfl⟩:=hi;obtain ⟨Qje,hn,kH,Zb6⟩:=hc;subst kH;simp only [RA,hl] at hx;have hv:=hx.2.2 hn;have Vt:=h.objs i _ hl;simp only [Ja] at Vt;obtain ⟨q1,q2⟩:=h.obj i .gone (w':=w) (m':=m) (G':=G) (Fix.le_refl _) (fun _ _=>⟨rfl,rfl⟩) (fun o ho=>⟨by simp [Obj.isBox],by simp⟩) (fun _=>trivial)
        (fun _ _ _ _ _ _ _=>⟨rfl,rfl⟩) (fun ho=>by simp [Obj.owns] at ho) (Frame.refl _ _ _) (fun _ _ _=>rfl) h.new
       have pk:PurOk G st.objs (upd st.objs i .gone) ⟨w,m⟩ ⟨w,m⟩:=⟨Fix.le_refl _,q1,vE hl rfl,fun _ _=>rfl⟩;obtain ⟨m2,j1,j2,j3,j4,j5⟩:=ih (st:=⟨st.tmps,upd st.objs i .gone⟩) q2 Qtm Qje (RAs.mono (Fix.le_refl _) q1 dM);have free:∀ b,G.γ i=some b→∀ j oj,lk (upd st.objs i .gone) j=some oj→oj.owns=true→G.γ j≠some b:=by
        intro b hb j oj hj dB dD;rw [Xw] at hj;by_cases Ha:j=i
        ·subst Ha;rw [if_pos rfl] at hj;injection hj with hj
         subst hj;simp [Obj.owns] at dB
        ·rw [if_neg Ha] at hj;exact Ha (h.apart j i oj _ b hj hl dB rfl dD hb)
       have free2:∀ b,G.γ i=some b→∀ j oj,lk o2 j=some oj→oj.owns=true→G.γ j≠some b:=by
        intro b hb j oj hj dB;obtain ⟨ok,p1,p2⟩:=j2.sub j oj hj dB;exact free b hb j ok p1 p2
       rcases Vt with ⟨h1,h2,rfl,_⟩|⟨b,cap,cs,t,h1,h2,h3,h4,h5,h6,h7,h8,h9⟩
       ·rw [h2] at hv;subst hv;refine ⟨m2,j1,pk.trans j2,?_,by simpa [Jc,Value.ownBlock] using j4,fun b hb=>?_⟩
        ·simp only [Uw,Ze1];exact ⟨_,r,rfl,kF,j3⟩
        ·obtain ⟨p1,⟨i',oi,p2,p3,p4⟩,p5⟩:=j5 b (by simpa [Jc,Value.ownBlock] using hb)
         obtain ⟨oj,u1,u2⟩:=pk.sub i' oi p2 p3;exact ⟨p1,⟨i',oj,u1,u2,p4⟩,p5⟩
       ·rw [h2] at hv;subst hv;have Ja7:m2 b=m b:=j2.same b (fun j oj hj dB=>free b h1 j oj hj dB);have Zmu:Zat ⟨w,m2⟩ s els (.slice (some ⟨b,0,none⟩) els.length cap):=.inr ⟨b,cap,cs,t,rfl,h3,h4,h5,h6,RE.mono j2.le h7,by simp only [Ja7];simpa using h8,Zb6⟩
        have Ze6:=h.mine i _ b hl rfl h1;refine ⟨m2,j1,pk.trans j2,?_,?_,fun b' hb'=>?_⟩
        ·simp only [Uw,Ze1];exact ⟨_,r,rfl,Zmu,j3⟩
        ·simp only [Jc,Value.ownBlock,Option.toList,List.singleton_append,List.nodup_cons];refine ⟨fun Yn=>?_,j4⟩;obtain ⟨_,⟨i',oi,p2,p3,p4⟩,_⟩:=j5 b Yn;exact free b h1 i' oi p2 p3 p4
        ·simp only [Jc,Value.ownBlock,Option.toList,List.singleton_append,Zs] at hb';rcases hb' with rfl|hb'
         ·exact ⟨Ze6.2,⟨i,_,hl,rfl,h1⟩,free2 b' h1⟩
         ·obtain ⟨p1,⟨i',oi,p2,p3,p4⟩,p5⟩:=j5 b' hb';obtain ⟨oj,u1,u2⟩:=pk.sub i' oi p2 p3;exact ⟨p1,⟨i',oj,u1,u2,p4⟩,p5⟩
      ·cases hi
     ·cases hi
    | nils s =>
     simp only [Vv] at hi;split at hi
     ·next c2 l o2 Qtm =>
      simp only [Zb,Zc] at hi;obtain ⟨rfl,rfl,rfl⟩:=hi;simp only [RA] at hx;subst hx;obtain ⟨m2,j1,j2,j3,j4,j5⟩:=ih h Qtm hc dM;refine ⟨m2,j1,j2,?_,by simpa [Jc,Value.ownBlock] using j4,fun b hb=>j5 b (by simpa [Jc,Value.ownBlock] using hb)⟩
      simp only [Uw,Ze1];exact ⟨_,r,rfl,kF,j3⟩
     ·cases hi
    | _=>simp [Vv] at hi
theorem nA (h:SRg base pass F0 m G st a w) {k:Nat} {x:CV} {v:Value} {y:AV} {os:Qh} (hx:Ze1 ⟨w,m⟩ x v) (hh:Sn k x st.objs=some (y,os))
  (hb:∀ b∈Jc [x] [v],(base≤b∨pass b)∧∀ i oi,lk st.objs i=some oi→oi.owns=true→G.γ i≠some b) :
  ∃ G',G8 G (lk st.objs) G' (lk os)∧SRg base pass F0 m G' ⟨st.tmps,os⟩ a w∧RA ⟨w,m⟩ G' (lk os) y v ∧
   ∀ i oi b,lk os i=some oi→oi.owns=true→G'.γ i=some b→(∃ oj,lk st.objs i=some oj∧oj.owns=true∧G.γ i=some b)∨b∈Jc [x] [v]:=by
 cases x with
 | d x =>
  simp only [Sn,Zb,Zc] at hh;obtain ⟨rfl,rfl⟩:=hh;exact ⟨G,G8.refl _ _,h,by simpa only [RA,Ze1] using hx,fun i oi b hi ho hg=>.inl ⟨oi,hi,ho,hg⟩⟩
 | own s l =>
  simp only [Sn] at hh;split at hh
  ·next hk =>
   simp only [Zb,Zc] at hh;obtain ⟨rfl,rfl⟩:=hh;obtain ⟨G',q1,q2,q3,q4,q5⟩:=h.adopt hk hx (fun b M9=>hb b (by simp [Jc,M9]))
   refine ⟨G',q1,q2,q3,fun i oi b hi ho hg=>?_⟩;by_cases Qom:i=k
   ·subst Qom;exact .inr (by simp [Jc,q5 b hg])
   ·rw [Xw,if_neg Qom] at hi;rw [q4 i Qom] at hg;exact .inl ⟨oi,hi,ho,hg⟩
  ·cases hh
 | tup l=>simp [Sn] at hh
theorem nC:∀ {l:List CV} {k:Nat} {ys:List AV} {vs:List Value} {os:Qh} {G:Gh} {st:AS},SRg base pass F0 m G st a w→Uw ⟨w,m⟩ l vs→Bk k l st.objs=some (ys,os)→(Jc l vs).Nodup →
  (∀ b∈Jc l vs,(base≤b∨pass b)∧∀ i oi,lk st.objs i=some oi→oi.owns=true→G.γ i≠some b) →
  ∃ G',G8 G (lk st.objs) G' (lk os)∧SRg base pass F0 m G' ⟨st.tmps,os⟩ a w∧RAs ⟨w,m⟩ G' (lk os) ys vs
 | [],k,ys,vs,os,G,st,h,hc,hh,_,_=>by
  simp only [Bk,Zb,Zc] at hh;obtain ⟨rfl,rfl⟩:=hh;simp only [Uw] at hc;exact ⟨G,G8.refl _ _,h,by simpa only [RAs] using hc⟩
 | x::l,k,ys,vs,os,G,st,h,hc,hh,qF,hb=>by
  simp only [Uw] at hc;obtain ⟨v,r,rfl,hx,dM⟩:=hc;simp only [Bk] at hh;split at hh
  ·next y o1 h1 =>
   split at hh
   ·next ys2 o2 h2 =>
    simp only [Zb,Zc] at hh;obtain ⟨rfl,rfl⟩:=hh;have mE:Jc (x::l) (v::r)=Jc [x] [v]++Jc l r:=by cases x<;>simp [Jc]
    rw [mE] at qF hb;obtain ⟨n1,n2,n3⟩:=List.nodup_append.1 qF;obtain ⟨G1,q1,q2,q3,q4⟩:=nA h hx h1 (fun b M9=>hb b (List.mem_append_left _ M9));obtain ⟨G2,p1,p2,p3⟩:=nC (st:=⟨st.tmps,o1⟩) q2 dM h2 n2 (fun b M9=>by
     refine ⟨(hb b (List.mem_append_right _ M9)).1,fun i oi hi ho hg=>?_⟩;rcases q4 i oi b hi ho hg with ⟨oj,w1,w2,w3⟩|Yn
     ·exact (hb b (List.mem_append_right _ M9)).2 i oj w1 w2 w3
     ·exact n3 b Yn b M9 rfl)
    refine ⟨G2,?_,p2,?_⟩
    ·intro j o hj;obtain ⟨oa,a1,a2,a3⟩:=q1 j o hj;obtain ⟨ob,b1,b2,b3⟩:=p1 j oa a1;refine ⟨ob,b1,fun Qlb=>?_,fun s' els' k' he=>?_⟩
     ·obtain ⟨u1,u2⟩:=b2 Qlb;obtain ⟨u3,u4⟩:=a2 u1;exact ⟨u3,u2.trans u4⟩
     ·obtain ⟨els1,kk1,e1,e2,e3⟩:=b3 s' els' k' he;obtain ⟨els2,kk2,f1,f2,f3⟩:=a3 s' els1 kk1 e1;refine ⟨els2,kk2,f1,Nat.le_trans f2 e2,fun hl=>?_⟩;obtain ⟨u1,u2⟩:=e3 (by omega)
      obtain ⟨u3,u4⟩:=f3 (by omega)
      exact ⟨u1.trans u3,u2.trans u4⟩
    ·simp only [RAs];exact ⟨v,r,rfl,RA.mono (Fix.le_refl _) p1 q3,p3⟩
   ·cases hh
  ·cases hh
theorem mW (K:Co P C) (h:SRg base pass F0 m G st a w) {f k:Nat} {xs:List AV} {vs:List Value} {c:Prop} {z:AV} {os:Qh} (hx:RAs ⟨w,m⟩ G (lk st.objs) xs vs)
  (hh:oA C f xs k st.objs=some (c,z,os)) (hc:c) :
  Oa P f∧Calls P f vs.toArray w fun e w'=>∃ v m' G',e=.returned v∧SRg base pass F0 m' G' ⟨st.tmps,os⟩ a w'∧RA ⟨w',m'⟩ G' (lk os) z v:=by
 unfold oA at hh;split at hh
 ·next con hcon =>
  split at hh
  ·next c1 Ji o1 fN =>
   split at hh
   ·next y o2 C5 =>
    simp only [Zb,Zc] at hh;obtain ⟨rfl,rfl,rfl⟩:=hh;obtain ⟨mL,Qn8⟩:=K.2.1 f con hcon;refine ⟨mL,?_⟩;obtain ⟨m1,k1,k2,k3,k4,k5⟩:=oK h fN hc.1 hx;refine (Qn8 m1 w Ji vs hc.2 k3 k4 k1.new).mono fun e w' hw=>?_;obtain ⟨v,m',rfl,g1,g2,g3,g4⟩:=hw;have hz:∀ b∈Jc Ji vs,m1 b=0:=by
     have:∀ (l:List CV) (us:List Value),Uw ⟨w,m1⟩ l us→∀ b∈Jc l us,m1 b=0:=by
      intro l
      induction l with
      | nil=>intro us hu b hb;simp [Jc] at hb
      | cons x l ih =>
       intro us hu b hb;simp only [Uw] at hu;obtain ⟨u,r,rfl,Zb4,Qn1⟩:=hu;have mE:Jc (x::l) (u::r)=Jc [x] [u]++Jc l r:=by cases x<;>simp [Jc]
       rw [mE] at hb;rcases List.mem_append.1 hb with hb|hb
       ·cases x with
        | own s els =>
         simp [Jc] at hb;exact (Zat.lt Zb4 hb).2
        | _=>simp [Jc] at hb
       ·exact ih r Qn1 b hb
     exact this Ji vs k3
    obtain ⟨hF,hs⟩:=k1.behind (Jc Ji vs) g1 g2 g3 (fun b hb=>⟨hz b hb,(k5 b hb).1,(k5 b hb).2.2⟩);have Qmq:∀ b,w.heap.size≤b∨b∈Jc Ji vs→(base≤b∨pass b)∧∀ i oi,lk o1 i=some oi→oi.owns=true→G.γ i≠some b:=by
     intro b hb;rcases hb with hb|hb
     ·refine ⟨.inl (Nat.le_trans k1.small hb),fun i oi hi ho hg=>?_⟩;have:=(k1.mine i oi b hi ho hg).1;omega
     ·exact ⟨(k5 b hb).1,(k5 b hb).2.2⟩
    unfold nB at C5;split at C5
    ·next l sN =>
     split at C5
     ·next ys o3 Od =>
      simp only [Zb,Zc] at C5;obtain ⟨rfl,rfl⟩:=C5;rw [sN] at g4;simp only [Zm5] at g4;obtain ⟨cs,rfl,e1,e2,e3⟩:=g4;obtain ⟨G',p1,p2,p3⟩:=nC hs e1 Od e2 (fun b hb=>Qmq b (e3 b hb));exact ⟨_,m',G',rfl,p2,Zj2 p3⟩
     ·cases C5
    ·next x hnt =>
     have g4':Uw ⟨w',m'⟩ [con.fn Ji] [v]∧∀ b∈Jc [con.fn Ji] [v],w.heap.size≤b∨b∈Jc Ji vs:=by
      revert g4;cases hq:con.fn Ji with
      | tup l=>exact absurd hq (hnt l)
      | _=>exact fun g=>g
     obtain ⟨e1,e2⟩:=g4';simp only [Uw] at e1;obtain ⟨v',r,ev,hv',_⟩:=e1;simp only [List.cons.injEq] at ev;rw [←ev.1] at hv';obtain ⟨G',p1,p2,p3,_⟩:=nA hs hv' C5 (fun b hb=>Qmq b (e2 b hb));exact ⟨v,m',G',rfl,p2,p3⟩
   ·cases hh
  ·cases hh
 ·cases hh
end
end Go.Am
