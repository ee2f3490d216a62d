/- Contracts of functions that the law reaches, and plain laws. Conditions: those that each contract states. -/
import Derived.WalkKit
import Derived.Laws.StructEq
import Derived.Shelf.Abstract
set_option maxHeartbeats 400000
set_option linter.unusedVariables false
set_option linter.unusedSimpArgs false
variable {p:Prop}
theorem Za:type_of% @beq_eq_false_iff_ne.{0}:=@beq_eq_false_iff_ne.{0}
theorem Zb:type_of% @Option.some.injEq.{0}:=@Option.some.injEq.{0}
theorem Zc:type_of% @Prod.mk.injEq.{0,0}:=@Prod.mk.injEq.{0,0}
theorem Zd:type_of% @List.getElem?_eq_getElem.{0}:=@List.getElem?_eq_getElem.{0}
theorem Ze:type_of% @Bool.and_eq_true:=@Bool.and_eq_true
theorem Zf:type_of% @List.length_cons.{0}:=@List.length_cons.{0}
theorem Zg:type_of% @List.getD_eq_getElem?_getD.{0}:=@List.getD_eq_getElem?_getD.{0}
theorem Zi:type_of% @beq_iff_eq.{0}:=@beq_iff_eq.{0}
theorem Zj:type_of% @List.length_append.{0}:=@List.length_append.{0}
theorem Zk:type_of% @Nat.le_refl:=@Nat.le_refl
theorem Z3:type_of% @And.intro:=@And.intro
theorem Zl:type_of% @Bool.false_eq_true:=@Bool.false_eq_true
theorem Zm:type_of% @List.mem_cons.{0}:=@List.mem_cons.{0}
theorem Zn:type_of% @Int.toNat_natCast:=@Int.toNat_natCast
theorem Qo:type_of% @List.mem_singleton.{0}:=@List.mem_singleton.{0}
theorem Qq:type_of% @List.length_map.{0,0}:=@List.length_map.{0,0}
theorem Q2:type_of% @List.set_cons_zero.{0}:=@List.set_cons_zero.{0}
theorem Q7:type_of% @List.set_cons_succ.{0}:=@List.set_cons_succ.{0}
theorem Wp:type_of% @List.not_mem_nil.{0}:=@List.not_mem_nil.{0}
theorem exq {α : Type} (a : α) : ∃ x, a = x := ⟨a, rfl⟩
namespace Go.Am
inductive D where
 | int (k:IntKind) (n:Int)
 | bool (b:Bool)
 | str (s:List UInt8)
 | nilf
 | nilp
 | agg (l:List D)
 | tup (l:List D)
 | list (s:Nat) (l:List D)
 | ptr (s:Nat) (x:D)
 | clo (f:Nat) (l:List D)
 | nilm
 | map (ks vs:List D)
 | it (f:Nat) (ks vs:List D)
 | any
 deriving Inhabited
structure Fix where
 w:World
 m:Nat→Nat
def xO (F:Fix) (b off:Nat) (vs:List Value):Prop :=
 off+vs.length≤F.m b∧∀ (j:Nat) (u:Value),vs[j]?=some u→F.w.cell? ⟨b,off+j,none⟩=some u
mutual
def R (F:Fix):D→Value→Prop
 | .int k n,v=>v=.int k n
 | .bool b,v=>v=.bool b
 | .str s,v=>v=.string ⟨s.toArray⟩
 | .nilf,v=>v=.nilFunc
 | .nilp,v=>v=.pointer none
 | .agg l,v=>∃ cs:List Value,v=.agg cs.toArray∧Rs F l cs∧∀ u∈cs,u.oneCell'=true
 | .tup l,v=>∃ cs:List Value,v=.tuple cs.toArray∧Rs F l cs
 | .list s l,v=>∃ (A:Option Addr) (c:Nat),v=.slice A l.length c∧l.length≤c∧c≤maxLen ∧
   (l≠[]→∃ (b off:Nat) (vs:List Value),A=some ⟨b,off,none⟩∧RE F s l vs∧xO F b off vs)
 | .ptr s x,v=>∃ (b off:Nat) (u:Value),v=.pointer (some ⟨b,off,none⟩)∧R F x u∧u.cells.size=s∧(∀ y∈u.cells.toList,y.oneCell'=true)∧xO F b off u.cells.toList
 | .clo f l,v=>∃ cs:List Value,v=.func (.func f) #[] cs.toArray∧Rs F l cs
 | .nilm,v=>v=.map none
 | .map ks vs,v=>∃ (b:Nat) (es:Array MapEntry) (c:Nat),v=.map (some b)∧F.w.heap[b]?=some (.map es c)∧0<F.m b∧Rs F ks (es.toList.map MapEntry.key)∧Rs F vs (es.toList.map MapEntry.val)∧Go.MapKept.Stamped es c
 | .it f ks vs,v=>∃ (bm b:Nat) (es:Array MapEntry) (c:Nat),v=.func (.func f) #[] #[.pointer (some ⟨bm,0,none⟩)]∧F.w.cell? ⟨bm,0,none⟩=some (.map (some b))∧0<F.m bm∧F.w.heap[b]?=some (.map es c)∧0<F.m b ∧
   Rs F ks (es.toList.map MapEntry.key)∧Rs F vs (es.toList.map MapEntry.val)∧Go.MapKept.Stamped es c
 | .any,v=>v.oneCell'=true
def Rs (F:Fix):List D→List Value→Prop
 | [],vs=>vs=[]
 | x::l,vs=>∃ v r,vs=v::r∧R F x v∧Rs F l r
def RE (F:Fix) (s:Nat):List D→List Value→Prop
 | [],vs=>vs=[]
 | x::l,vs=>∃ v r,vs=v.cells.toList++r∧v.cells.size=s∧(∀ u∈v.cells.toList,u.oneCell'=true)∧R F x v∧RE F s l r
end
def Fix.le (F F':Fix):Prop:=(∀ b,F.m b≤F'.m b∧∀ off,off<F.m b→F'.w.cell? ⟨b,off,none⟩=F.w.cell? ⟨b,off,none⟩) ∧
 ∀ (b:Nat) (es:Array MapEntry) (c:Nat),0<F.m b→F.w.heap[b]?=some (.map es c)→F'.w.heap[b]?=some (.map es c)
theorem Fix.le_refl (F:Fix):F.le F:=⟨fun _=>⟨Zk _,fun _ _=>rfl⟩,fun _ _ _ _ h=>h⟩
theorem Fix.le_trans {F G H:Fix} (h:F.le G) (k:G.le H):F.le H:=⟨fun b =>
 ⟨Nat.le_trans (h.1 b).1 (k.1 b).1,fun off ho=>((k.1 b).2 off (Nat.lt_of_lt_of_le ho (h.1 b).1)).trans ((h.1 b).2 off ho)⟩,
 fun b es c hm hb=>k.2 b es c (Nat.lt_of_lt_of_le hm (h.1 b).1) (h.2 b es c hm hb)⟩
theorem xO.mono {F F':Fix} (h:F.le F') {b off:Nat} {vs:List Value} (hm:xO F b off vs):xO F' b off vs:=by
 obtain ⟨h1,h2⟩:=hm;refine ⟨Nat.le_trans h1 (h.1 b).1,fun j u hu=>?_⟩;have hj:j<vs.length:=(List.getElem?_eq_some_iff.1 hu).1;rw [(h.1 b).2 (off+j) (by omega)]
 exact h2 j u hu
mutual
theorem R.mono {F F':Fix} (h:F.le F'):∀ {x:D} {v:Value},R F x v→R F' x v
 | .int ..,_,hr=>by simpa [R] using hr
 | .bool ..,_,hr=>by simpa [R] using hr
 | .str ..,_,hr=>by simpa [R] using hr
 | .nilf,_,hr=>by simpa [R] using hr
 | .nilp,_,hr=>by simpa [R] using hr
 | .agg l,v,hr=>by
  simp only [R] at hr ⊢;obtain ⟨cs,h1,h2,h3⟩:=hr;exact ⟨cs,h1,Rs.mono h h2,h3⟩
 | .tup l,v,hr=>by
  simp only [R] at hr ⊢;obtain ⟨cs,h1,h2⟩:=hr;exact ⟨cs,h1,Rs.mono h h2⟩
 | .list s l,v,hr=>by
  simp only [R] at hr ⊢;obtain ⟨A,c,h1,h2,h3,h4⟩:=hr;refine ⟨A,c,h1,h2,h3,fun hl=>?_⟩;obtain ⟨b,off,vs,g1,g2,g3⟩:=h4 hl;exact ⟨b,off,vs,g1,RE.mono h g2,g3.mono h⟩
 | .ptr s x,v,hr=>by
  simp only [R] at hr ⊢;obtain ⟨b,off,u,h1,h2,h3,h4,h5⟩:=hr;exact ⟨b,off,u,h1,R.mono h h2,h3,h4,h5.mono h⟩
 | .clo f l,v,hr=>by
  simp only [R] at hr ⊢;obtain ⟨cs,h1,h2⟩:=hr;exact ⟨cs,h1,Rs.mono h h2⟩
 | .nilm,_,hr=>by simpa [R] using hr
 | .any,_,hr=>by simpa [R] using hr
 | .map ks vs,v,hr=>by
  simp only [R] at hr ⊢;obtain ⟨b,es,c,h1,h2,h3,h4,h5,h6⟩:=hr;exact ⟨b,es,c,h1,h.2 b es c h3 h2,Nat.lt_of_lt_of_le h3 (h.1 b).1,Rs.mono h h4,Rs.mono h h5,h6⟩
 | .it f ks vs,v,hr=>by
  simp only [R] at hr ⊢;obtain ⟨bm,b,es,c,h1,a1,a2,h2,h3,h4,h5,h6⟩:=hr;exact ⟨bm,b,es,c,h1,((h.1 bm).2 0 a2).trans a1,Nat.lt_of_lt_of_le a2 (h.1 bm).1,h.2 b es c h3 h2,Nat.lt_of_lt_of_le h3 (h.1 b).1,Rs.mono h h4,Rs.mono h h5,h6⟩
theorem Rs.mono {F F':Fix} (h:F.le F'):∀ {l:List D} {vs:List Value},Rs F l vs→Rs F' l vs
 | [],_,hr=>by simpa [Rs] using hr
 | x::l,vs,hr=>by
  simp only [Rs] at hr ⊢;obtain ⟨v,r,h1,h2,h3⟩:=hr;exact ⟨v,r,h1,R.mono h h2,Rs.mono h h3⟩
theorem RE.mono {F F':Fix} (h:F.le F'):∀ {s:Nat} {l:List D} {vs:List Value},RE F s l vs→RE F' s l vs
 | _,[],_,hr=>by simpa [RE] using hr
 | s,x::l,vs,hr=>by
  simp only [RE] at hr ⊢;obtain ⟨v,r,h1,h2,h3,h4,h5⟩:=hr;exact ⟨v,r,h1,h2,h3,R.mono h h4,RE.mono h h5⟩
end
theorem Rs.length {F:Fix}:∀ {l:List D} {vs:List Value},Rs F l vs→vs.length=l.length
 | [],_,h=>by simp only [Rs] at h;simp [h]
 | _::l,_,h=>by
  simp only [Rs] at h;obtain ⟨v,r,rfl,_,h3⟩:=h;simp [Rs.length h3]
theorem Rs.at {F:Fix}:∀ {l:List D} {vs:List Value},Rs F l vs→∀ {k:Nat} {x:D},l[k]?=some x→∃ u,vs[k]?=some u∧R F x u
 | [],_,_,k,x,hk=>by simp at hk
 | y::l,vs,h,k,x,hk=>by
  simp only [Rs] at h;obtain ⟨v,r,rfl,h2,h3⟩:=h;cases k with
  | zero=>simp at hk;subst hk;exact ⟨v,rfl,h2⟩
  | succ k=>simp only [List.getElem?_cons_succ] at hk ⊢;exact Rs.at h3 hk
theorem Rs.append {F:Fix}:∀ {l l':List D} {vs vs':List Value},Rs F l vs→Rs F l' vs'→Rs F (l++l') (vs++vs')
 | [],_,_,_,h,h'=>by simp only [Rs] at h;subst h;simpa using h'
 | x::l,l',vs,vs',h,h'=>by
  simp only [Rs] at h;obtain ⟨v,r,rfl,h2,h3⟩:=h;simp only [List.cons_append,Rs];exact ⟨v,r++vs',rfl,h2,Rs.append h3 h'⟩
theorem RE.length {F:Fix} {s:Nat}:∀ {l:List D} {vs:List Value},RE F s l vs→vs.length=l.length*s
 | [],_,h=>by simp only [RE] at h;simp [h]
 | _::l,_,h=>by
  simp only [RE] at h;obtain ⟨v,r,rfl,h2,_,_,h5⟩:=h;simp [RE.length h5,Nat.add_mul,h2];omega
theorem RE.append {F:Fix} {s:Nat}:∀ {l l':List D} {vs vs':List Value},RE F s l vs→RE F s l' vs'→RE F s (l++l') (vs++vs')
 | [],_,_,_,h,h'=>by simp only [RE] at h;subst h;simpa using h'
 | x::l,l',vs,vs',h,h'=>by
  simp only [RE] at h;obtain ⟨v,r,rfl,h2,h3,h4,h5⟩:=h;simp only [List.cons_append,RE];exact ⟨v,r++vs',by simp,h2,h3,h4,RE.append h5 h'⟩
theorem RE.split {F:Fix} {s:Nat}:∀ {l:List D} {vs:List Value} (k:Nat),RE F s l vs→RE F s (l.take k) (vs.take (k*s))∧RE F s (l.drop k) (vs.drop (k*s))
 | [],vs,k,h=>by simp only [RE] at h;subst h;simp [RE]
 | x::l,vs,0,h=>by simp only [List.take_zero,Nat.zero_mul,List.drop_zero];exact ⟨by simp [RE],h⟩
 | x::l,vs,k+1,h=>by
  simp only [RE] at h;obtain ⟨v,r,rfl,h2,h3,h4,h5⟩:=h;obtain ⟨g1,g2⟩:=RE.split k h5;have hl:v.cells.toList.length=s:=by simpa using h2
  have e:(k+1)*s=v.cells.toList.length+k*s:=by rw [hl,Nat.add_mul];omega
  constructor
  ·rw [e,List.take_length_add_append,List.take_succ_cons];simp only [RE];exact ⟨v,_,rfl,h2,h3,h4,g1⟩
  ·rw [e,List.drop_length_add_append,List.drop_succ_cons];exact g2
theorem RE.at {F:Fix} {s:Nat} {l:List D} {vs:List Value} (h:RE F s l vs) {k:Nat} {x:D} (hk:l[k]?=some x) :
  ∃ v:Value,R F x v∧v.cells.size=s∧(∀ u∈v.cells.toList,u.oneCell'=true)∧(vs.drop (k*s)).take s=v.cells.toList:=by
 have h2:=(h.split k).2;have Qd:k<l.length:=(List.getElem?_eq_some_iff.1 hk).1;rw [List.drop_eq_getElem_cons Qd] at h2;have e:l[k]=x:=by rw [Zd Qd] at hk;injection hk
 simp only [RE] at h2;obtain ⟨v,r,h3,h4,h5,h6,h7⟩:=h2;refine ⟨v,e▸h6,h4,h5,?_⟩;rw [h3,List.take_append_of_le_length (by simp [h4]),List.take_of_length_le (by simp [h4])]
theorem RE.one {F:Fix} {s:Nat} {x:D} {v:Value} (h:R F x v) (hs:v.cells.size=s) (h1:∀ u∈v.cells.toList,u.oneCell'=true):RE F s [x] v.cells.toList:=by
 simp only [RE];exact ⟨v,[],by simp,hs,h1,h,rfl⟩
theorem RE.set {F:Fix} {s:Nat}:∀ {l:List D} {vs:List Value} {k:Nat} {x:D} {v:Value},RE F s l vs→k<l.length→R F x v→v.cells.size=s →
  (∀ u∈v.cells.toList,u.oneCell'=true)→RE F s (l.set k x) (vs.take (k*s)++v.cells.toList++vs.drop ((k+1)*s))
 | [],_,_,_,_,_,hk,_,_,_=>by simp at hk
 | y::l,vs,0,x,v,h,_,hr,hs,h1=>by
  have h2:=(h.split 1).2;simp only [Q2,Nat.zero_mul,List.take_zero,List.nil_append,Nat.zero_add,RE];refine ⟨v,_,rfl,hs,h1,hr,?_⟩;simpa using h2
 | y::l,vs,k+1,x,v,h,hk,hr,hs,h1=>by
  simp only [RE] at h;obtain ⟨u,r,rfl,h2,h3,h4,h5⟩:=h;have g:=RE.set (k:=k) h5 (by simpa using hk) hr hs h1
  have hl:u.cells.toList.length=s:=by simpa using h2
  simp only [Q7,RE];refine ⟨u,_,?_,h2,h3,h4,g⟩;rw [show (k+1)*s=u.cells.toList.length+k*s by rw [hl,Nat.add_mul];omega,
   show (k+1+1)*s=u.cells.toList.length+(k+1)*s by rw [hl];simp only [Nat.add_mul];omega,
   List.take_length_add_append,List.drop_length_add_append]
  simp;rw [h2,Nat.succ_mul,Nat.add_comm]
open Go.RowKit (Below)
inductive AV where
 | d (x:D)
 | ref (i f:Nat)
 | rref (i n e f:Nat)
 | sl (i n:Nat)
 | sb (i n o:Nat)
 | mpr (i:Nat)
 | agg (l:List AV)
 | tup (l:List AV)
 | clo (f:Nat) (l:List AV)
 | nils (s:Nat)
 | dead
 | bad (t:Nat)
 deriving Inhabited
inductive Obj where
 | box (ag:Bool) (cells:List AV)
 | fbox (s:Nat) (x:D)
 | row (s:Nat) (els:List D) (k:Nat)
 | mp (ks vs:List D) (fr:Bool)
 | gone
 | hole (i n e f:Nat) (x:AV)
 | slot (e f:Nat)
 | brow (t:Nat) (l:List UInt8)
 deriving Inhabited
def Obj.owns:Obj→Bool
 | .box ..=>true
 | .row ..=>true
 | .mp ..=>true
 | .brow ..=>true
 | _=>false
def Obj.isBox:Obj→Bool
 | .box ..=>true
 | .fbox ..=>true
 | .mp ..=>true
 | _=>false
structure AS where
 tmps:List AV
 objs:List (Nat×Obj)
 deriving Inhabited
def lk:List (Nat×Obj)→Nat→Option Obj
 | [],_=>none
 | (j,o)::r,i=>if i=j then some o else lk r i
def upd:List (Nat×Obj)→Nat→Obj→List (Nat×Obj)
 | [],i,o=>[(i,o)]
 | (j,p)::r,i,o=>if i=j then (j,o)::r else (j,p)::upd r i o
theorem Jb (l:List (Nat×Obj)) (i:Nat) (o:Obj) (j:Nat):lk (upd l i o) j=if j=i then some o else lk l j:=by
 induction l with
 | nil=>simp [upd,lk]
 | cons p r ih =>
  obtain ⟨k,q⟩:=p;simp only [upd];by_cases h:i=k
  ·subst h;simp only [if_true,lk];split<;>rfl
  ·rw [if_neg h];simp only [lk,ih];by_cases h1:j=k
   ·subst h1;rw [if_pos rfl,if_pos rfl,if_neg (fun e=>h e.symm)]
   ·rw [if_neg h1,if_neg h1]
structure Gh where
 γ:Nat→Option Nat
 hd:Nat→Value
mutual
def RA (F:Fix) (G:Gh) (L:Nat→Option Obj):AV→Value→Prop
 | .d x,v=>R F x v
 | .ref i f,v=>v.oneCell'=true∧match L i with
  | some o=>o.isBox=true→∃ b,G.γ i=some b∧v=.pointer (some ⟨b,f,none⟩)
  | none=>False
 | .rref i n e f,v=>v.oneCell'=true∧match L i with
  | some (.row s els _)=>n≤els.length∧(n=els.length→∃ b,G.γ i=some b∧v=.pointer (some ⟨b,e*s+f,none⟩))
  | some _=>True
  | none=>False
 | .sl i n,v=>v.oneCell'=true∧match L i with
  | some (.row _ els _)=>n≤els.length∧(n=els.length→v=G.hd i)
  | some (.brow _ l)=>n≤l.length∧(n=l.length→v=G.hd i)
  | some _=>True
  | none=>False
 | .sb i n o,v=>v.oneCell'=true∧match L i with
  | some (.row s els _)=>n≤els.length∧(n=els.length→∃ b c,G.γ i=some b∧G.hd i=.slice (some ⟨b,0,none⟩) n c∧o<n∧v=.slice (some ⟨b,o*s,none⟩) (n-o) (c-o))
  | some _=>True
  | none=>False
 | .mpr i,v=>v.oneCell'=true∧match L i with
  | some o=>o.isBox=true→∃ b,G.γ i=some b∧v=.map (some b)
  | none=>False
 | .agg l,v=>∃ cs:List Value,v=.agg cs.toArray∧RAs F G L l cs∧∀ u∈cs,u.oneCell'=true
 | .tup l,v=>∃ cs:List Value,v=.tuple cs.toArray∧RAs F G L l cs
 | .clo f l,v=>∃ cs:List Value,v=.func (.func f) #[] cs.toArray∧RAs F G L l cs
 | .nils _,v=>v=.slice none 0 0
 | .dead,_=>True
 | .bad _,v=>v.oneCell'=true
def RAs (F:Fix) (G:Gh) (L:Nat→Option Obj):List AV→List Value→Prop
 | [],vs=>vs=[]
 | x::l,vs=>∃ v r,vs=v::r∧RA F G L x v∧RAs F G L l r
end
def Wc (G:Gh) (L:Nat→Option Obj) (G':Gh) (L':Nat→Option Obj):Prop :=
 ∀ i o,L i=some o→∃ o',L' i=some o'∧(o'.isBox=true→o.isBox=true∧G'.γ i=G.γ i) ∧
  (∀ s els' k',o'=.row s els' k'→∃ els k,o=.row s els k∧els.length≤els'.length∧(els'.length=els.length→G'.γ i=G.γ i∧G'.hd i=G.hd i)) ∧
  ∀ t l',o'=.brow t l'→∃ l,o=.brow t l∧l.length≤l'.length∧(l'.length=l.length→G'.γ i=G.γ i∧G'.hd i=G.hd i)
theorem Wc.refl (G:Gh) (L:Nat→Option Obj):Wc G L G L:=fun _ o h=>⟨o,h,fun hb=>⟨hb,rfl⟩,fun _ els' k' he=>⟨els',k',he,Zk _,fun _=>⟨rfl,rfl⟩⟩,fun _ l' he=>⟨l',he,Zk _,fun _=>⟨rfl,rfl⟩⟩⟩
mutual
theorem RA.mono {F F':Fix} {G G':Gh} {L L':Nat→Option Obj} (h:F.le F') (g:Wc G L G' L'):∀ {x:AV} {v:Value},RA F G L x v→RA F' G' L' x v
 | .d x,_,hr=>by simp only [RA] at hr ⊢;exact hr.mono h
 | .ref i f,v,hr=>by
  simp only [RA] at hr ⊢;cases hl:L i with
  | none=>simp [hl] at hr
  | some o =>
   obtain ⟨o',h1,h2,_⟩:=g i o hl;simp only [hl] at hr;simp only [h1];refine ⟨hr.1,fun hb=>?_⟩;obtain ⟨g1,g2⟩:=h2 hb;rw [g2];exact hr.2 g1
 | .mpr i,v,hr=>by
  simp only [RA] at hr ⊢;cases hl:L i with
  | none=>simp [hl] at hr
  | some o =>
   obtain ⟨o',h1,h2,_⟩:=g i o hl;simp only [hl] at hr;simp only [h1];refine ⟨hr.1,fun hb=>?_⟩;obtain ⟨g1,g2⟩:=h2 hb;rw [g2];exact hr.2 g1
 | .rref i n e f,v,hr=>by
  simp only [RA] at hr ⊢;cases hl:L i with
  | none=>simp [hl] at hr
  | some o =>
   obtain ⟨o',h1,_,h3,h4⟩:=g i o hl;simp only [hl] at hr;simp only [h1];cases o' with
   | row s els' k' =>
    obtain ⟨els,k,rfl,Pj,W3⟩:=h3 s els' k' rfl;simp only at hr ⊢;obtain ⟨a0,a1,a2⟩:=hr;refine ⟨a0,by omega,fun hn=>?_⟩
    obtain ⟨b,q1,q2⟩:=a2 (by omega)
    exact ⟨b,by rw [(W3 (by omega)).1];exact q1,q2⟩
   | _=>exact ⟨hr.1,trivial⟩
 | .sl i n,v,hr=>by
  simp only [RA] at hr ⊢;cases hl:L i with
  | none=>simp [hl] at hr
  | some o =>
   obtain ⟨o',h1,_,h3,h4⟩:=g i o hl;simp only [hl] at hr;simp only [h1];cases o' with
   | row s els' k' =>
    obtain ⟨els,k,rfl,Pj,W3⟩:=h3 s els' k' rfl;simp only at hr ⊢;obtain ⟨a0,a1,a2⟩:=hr;exact ⟨a0,by omega,fun hn=>by rw [(W3 (by omega)).2];exact a2 (by omega)⟩
   | brow t l' =>
    obtain ⟨l,rfl,Pj,W3⟩:=h4 t l' rfl;simp only at hr ⊢;obtain ⟨a0,a1,a2⟩:=hr;exact ⟨a0,by omega,fun hn=>by rw [(W3 (by omega)).2];exact a2 (by omega)⟩
   | _=>exact ⟨hr.1,trivial⟩
 | .sb i n o,v,hr=>by
  simp only [RA] at hr ⊢;cases hl:L i with
  | none=>simp [hl] at hr
  | some ob =>
   obtain ⟨o',h1,_,h3,h4⟩:=g i ob hl;simp only [hl] at hr;simp only [h1];cases o' with
   | row s els' k' =>
    obtain ⟨els,k,rfl,Pj,W3⟩:=h3 s els' k' rfl;simp only at hr ⊢;obtain ⟨a0,a1,a2⟩:=hr;exact ⟨a0,by omega,fun hn=>by rw [(W3 (by omega)).2,(W3 (by omega)).1];exact a2 (by omega)⟩
   | _=>exact ⟨hr.1,trivial⟩
 | .agg l,v,hr=>by
  simp only [RA] at hr ⊢;obtain ⟨cs,h1,h2,h3⟩:=hr;exact ⟨cs,h1,RAs.mono h g h2,h3⟩
 | .tup l,v,hr=>by
  simp only [RA] at hr ⊢;obtain ⟨cs,h1,h2⟩:=hr;exact ⟨cs,h1,RAs.mono h g h2⟩
 | .clo f l,v,hr=>by
  simp only [RA] at hr ⊢;obtain ⟨cs,h1,h2⟩:=hr;exact ⟨cs,h1,RAs.mono h g h2⟩
 | .nils _,_,hr=>by simpa [RA] using hr
 | .dead,_,_=>by simp [RA]
 | .bad _,_,hr=>by simpa only [RA] using hr
theorem RAs.mono {F F':Fix} {G G':Gh} {L L':Nat→Option Obj} (h:F.le F') (g:Wc G L G' L'):∀ {l:List AV} {vs:List Value},RAs F G L l vs→RAs F' G' L' l vs
 | [],_,hr=>by simpa [RAs] using hr
 | x::l,vs,hr=>by
  simp only [RAs] at hr ⊢;obtain ⟨v,r,h1,h2,h3⟩:=hr;exact ⟨v,r,h1,RA.mono h g h2,RAs.mono h g h3⟩
end
theorem RAs.length {F:Fix} {G:Gh} {L:Nat→Option Obj}:∀ {l:List AV} {vs:List Value},RAs F G L l vs→vs.length=l.length
 | [],_,h=>by simp only [RAs] at h;simp [h]
 | _::l,_,h=>by
  simp only [RAs] at h;obtain ⟨v,r,rfl,_,h3⟩:=h;simp [RAs.length h3]
theorem RAs.at {F:Fix} {G:Gh} {L:Nat→Option Obj}:∀ {l:List AV} {vs:List Value},RAs F G L l vs→∀ {k:Nat} {x:AV},l[k]?=some x→∃ u,vs[k]?=some u∧RA F G L x u
 | [],_,_,k,x,hk=>by simp at hk
 | y::l,vs,h,k,x,hk=>by
  simp only [RAs] at h;obtain ⟨v,r,rfl,h2,h3⟩:=h;cases k with
  | zero=>simp at hk;subst hk;exact ⟨v,rfl,h2⟩
  | succ k=>simp only [List.getElem?_cons_succ] at hk ⊢;exact RAs.at h3 hk
theorem RAs.set {F:Fix} {G:Gh} {L:Nat→Option Obj}:∀ {l:List AV} {vs:List Value} {k:Nat} {x:AV} {v:Value},RAs F G L l vs→RA F G L x v→RAs F G L (l.set k x) (vs.set k v)
 | [],_,_,_,_,h,_=>by simp only [RAs] at h;subst h;simp [RAs]
 | y::l,vs,k,x,v,h,hx=>by
  simp only [RAs] at h;obtain ⟨u,r,rfl,h2,h3⟩:=h;cases k with
  | zero=>simp only [Q2,RAs];exact ⟨v,r,rfl,hx,h3⟩
  | succ k=>simp only [Q7,RAs];exact ⟨u,_,rfl,h2,RAs.set h3 hx⟩
theorem RAs.append {F:Fix} {G:Gh} {L:Nat→Option Obj}:∀ {l l':List AV} {vs vs':List Value},RAs F G L l vs→RAs F G L l' vs'→RAs F G L (l++l') (vs++vs')
 | [],_,_,_,h,h'=>by simp only [RAs] at h;subst h;simpa using h'
 | x::l,l',vs,vs',h,h'=>by
  simp only [RAs] at h;obtain ⟨v,r,rfl,h2,h3⟩:=h;simp only [List.cons_append,RAs];exact ⟨v,r++vs',rfl,h2,RAs.append h3 h'⟩
theorem RAs.of_Rs {F:Fix} {G:Gh} {L:Nat→Option Obj}:∀ {l:List D} {vs:List Value},Rs F l vs→RAs F G L (l.map .d) vs
 | [],_,h=>by simp only [Rs] at h;simpa [RAs] using h
 | x::l,vs,h=>by
  simp only [Rs] at h;obtain ⟨v,r,h1,h2,h3⟩:=h;simp only [List.map_cons,RAs,RA];exact ⟨v,r,h1,h2,RAs.of_Rs h3⟩
theorem Rs.of_RAs {F:Fix} {G:Gh} {L:Nat→Option Obj}:∀ {l:List D} {vs:List Value},RAs F G L (l.map .d) vs→Rs F l vs
 | [],_,h=>by simp only [List.map_nil,RAs] at h;simpa [Rs] using h
 | x::l,vs,h=>by
  simp only [List.map_cons,RAs,RA] at h;obtain ⟨v,r,h1,h2,h3⟩:=h;simp only [Rs];exact ⟨v,r,h1,h2,Rs.of_RAs h3⟩
def rC (cells:List AV) (cs:List Value) (t b:Nat):Prop:=∀ T,cells.head?=some (.bad T)→t=T∧(cs.head?=some (.pointer none)∨cs.head?=some (.pointer (some ⟨b,0,none⟩)))
def Z8 (F:Fix) (G:Gh) (L:Nat→Option Obj) (i:Nat):Obj→Prop
 | .box _ cells=>∃ (b:Nat) (cs:Array Value) (t:TypeId),G.γ i=some b∧F.w.heap[b]?=some (.cells cs t (0,0))∧RAs F G L cells cs.toList ∧
   (∀ u∈cs.toList,u.oneCell'=true)∧F.m b=0∧rC cells cs.toList t b
 | .fbox s x=>∃ (b:Nat) (u:Value),G.γ i=some b∧R F x u∧u.cells.size=s∧(∀ y∈u.cells.toList,y.oneCell'=true)∧xO F b 0 u.cells.toList
 | .row s els k=>(G.γ i=none∧G.hd i=.slice none 0 0∧els=[]∧k=0) ∨
   ∃ (b cap:Nat) (cs:Array Value) (t:TypeId),G.γ i=some b∧G.hd i=.slice (some ⟨b,0,none⟩) els.length cap∧els.length≤cap∧cap≤maxLen ∧
    F.w.heap[b]?=some (.cells cs t (0,0))∧cs.size=cap*s∧RE F s els (cs.toList.take (els.length*s))∧F.m b=k*s∧k≤els.length
 | .mp ks vs fr=>∃ (b:Nat) (es:Array MapEntry) (c:Nat),G.γ i=some b∧F.w.heap[b]?=some (.map es c)∧Rs F ks (es.toList.map MapEntry.key)∧Rs F vs (es.toList.map MapEntry.val)∧F.m b=cond fr 1 0∧Go.MapKept.Stamped es c
 | .gone=>True
 | .brow t l=>(G.γ i=none∧G.hd i=.slice none 0 0∧l=[]) ∨
   ∃ (b cap:Nat) (cs:Array Value),G.γ i=some b∧G.hd i=.slice (some ⟨b,0,none⟩) l.length cap∧l.length≤cap∧cap≤maxLen ∧
    F.w.heap[b]?=some (.cells cs t (0,0))∧cs.size=cap∧cs.toList.take l.length=l.map (fun u=>Value.int .u8 u.toNat)∧F.m b=0
 | .hole j n e f x=>∃ (b off:Nat) (v:Value),RA F G L (.rref j n e f) (.pointer (some ⟨b,off,none⟩))∧off<F.m b∧F.w.cell? ⟨b,off,none⟩=some v∧RA F G L x v
 | .slot _ _=>True
structure Frame (base:Nat) (pass:Nat→Prop) (w w':World):Prop where
 os:w'.os=w.os
 tape:w'.tape=w.tape
 output:w'.output=w.output
 size:w.heap.size≤w'.heap.size
 block:∀ b,b<base→¬ pass b→w'.heap[b]?=w.heap[b]?
theorem Frame.refl (base:Nat) (pass:Nat→Prop) (w:World):Frame base pass w w:=⟨rfl,rfl,rfl,Zk _,fun _ _ _=>rfl⟩
theorem Frame.trans {base:Nat} {pass:Nat→Prop} {a b c:World} (h:Frame base pass a b) (k:Frame base pass b c):Frame base pass a c :=
 ⟨k.os.trans h.os,k.tape.trans h.tape,k.output.trans h.output,Nat.le_trans h.size k.size,fun i hi hp=>(k.block i hi hp).trans (h.block i hi hp)⟩
def eM (G G':Gh) (i:Nat) (o o':Obj):Prop:=(o'.isBox=true→o.isBox=true∧G'.γ i=G.γ i) ∧
 (∀ s els' k',o'=.row s els' k'→∃ els k,o=.row s els k∧els.length≤els'.length∧(els'.length=els.length→G'.γ i=G.γ i∧G'.hd i=G.hd i)) ∧
 ∀ t l',o'=.brow t l'→∃ l,o=.brow t l∧l.length≤l'.length∧(l'.length=l.length→G'.γ i=G.γ i∧G'.hd i=G.hd i)
theorem eM.refl (G:Gh) (i:Nat) (o:Obj):eM G G i o o:=⟨fun hb=>⟨hb,rfl⟩,fun _ els' k' he=>⟨els',k',he,Zk _,fun _=>⟨rfl,rfl⟩⟩,fun _ l' he=>⟨l',he,Zk _,fun _=>⟨rfl,rfl⟩⟩⟩
theorem eM.trans {G G' G'':Gh} {i:Nat} {o o' o'':Obj} (h:eM G G' i o o') (k:eM G' G'' i o' o''):eM G G'' i o o'':=by
 refine ⟨fun hb=>?_,fun s els'' k'' he=>?_,fun t l'' he=>?_⟩;rotate_left 2
 ·obtain ⟨l',e1,e2,e3⟩:=k.2.2 t l'' he;obtain ⟨l,f1,f2,f3⟩:=h.2.2 t l' e1;refine ⟨l,f1,Nat.le_trans f2 e2,fun eX=>?_⟩;obtain ⟨a1,a2⟩:=e3 (by omega)
  obtain ⟨b1,b2⟩:=f3 (by omega)
  exact ⟨a1.trans b1,a2.trans b2⟩
 ·obtain ⟨h1,h2⟩:=k.1 hb;obtain ⟨h3,h4⟩:=h.1 h1;exact ⟨h3,h2.trans h4⟩
 ·obtain ⟨els',k',e1,e2,e3⟩:=k.2.1 s els'' k'' he;obtain ⟨els,k,f1,f2,f3⟩:=h.2.1 s els' k' e1;refine ⟨els,k,f1,Nat.le_trans f2 e2,fun eX=>?_⟩;obtain ⟨a1,a2⟩:=e3 (by omega)
  obtain ⟨b1,b2⟩:=f3 (by omega)
  exact ⟨a1.trans b1,a2.trans b2⟩
theorem Wc.trans {G G1 G2:Gh} {L L1 L2:Nat→Option Obj} (h:Wc G L G1 L1) (k:Wc G1 L1 G2 L2):Wc G L G2 L2:=fun i o hi=>by
 obtain ⟨oa,a1,a2⟩:=h i o hi;obtain ⟨ob,b1,b2⟩:=k i oa a1;have a3:eM G G1 i o oa:=a2;have b3:eM G1 G2 i oa ob:=b2;exact ⟨ob,b1,a3.trans b3⟩
structure Anc extends Fix where
 G0:Gh
 L0:Nat→Option Obj
def Zco (F0:Anc) (G:Gh) (L:Nat→Option Obj):Prop:=∀ i o,F0.L0 i=some o→90000≤i∧∃ o',L i=some o'∧eM F0.G0 G i o o'
theorem Zco.goes {F0:Anc} {G G':Gh} {L L':Nat→Option Obj} (h:Zco F0 G L) (g:Wc G L G' L'):Zco F0 G' L':=fun i o ho=>by
 obtain ⟨h1,o',h2,h3⟩:=h i o ho;obtain ⟨o'',g1,g2,g3⟩:=g i o' h2;exact ⟨h1,o'',g1,h3.trans ⟨g2,g3⟩⟩
structure SRg (base:Nat) (pass:Nat→Prop) (F0:Anc) (m:Nat→Nat) (G:Gh) (st:AS) (a:Act) (w:World):Prop where
 defers:a.defers=[]
 tmps:RAs ⟨w,m⟩ G (lk st.objs) st.tmps a.tmps.toList
 objs:∀ i o,lk st.objs i=some o→Z8 ⟨w,m⟩ G (lk st.objs) i o
 apart:∀ i j oi oj b,lk st.objs i=some oi→lk st.objs j=some oj→oi.owns=true→oj.owns=true→G.γ i=some b→G.γ j=some b→i=j
 mine:∀ i o b,lk st.objs i=some o→o.owns=true→G.γ i=some b→b<w.heap.size∧(base≤b∨pass b)
 frame:Frame base pass F0.w w
 old:∀ b,b<base→¬ pass b→m b=F0.m b
 new:∀ b,w.heap.size≤b→m b=0
 small:base≤w.heap.size
 lent:Zco F0 G (lk st.objs)
def SR (base:Nat) (pass:Nat→Prop) (F0:Anc) (st:AS) (a:Act) (w:World):Prop:=∃ m G,SRg base pass F0 m G st a w
theorem Z8.mono {F F':Fix} {G G':Gh} {L L':Nat→Option Obj} (h:F.le F') (g:Wc G L G' L') {i:Nat} {o:Obj} (hγ:G'.γ i=G.γ i) (Zbg:G'.hd i=G.hd i)
  (ho:o.owns=true→∀ b,G.γ i=some b→F'.w.heap[b]?=F.w.heap[b]?∧F'.m b=F.m b) (hk:Z8 F G L i o):Z8 F' G' L' i o:=by
 cases o with
 | box ag cells =>
  simp only [Z8] at hk ⊢;obtain ⟨b,cs,t,h1,h2,h3,h4,h5,h6⟩:=hk;obtain ⟨q1,q2⟩:=ho rfl b h1;exact ⟨b,cs,t,by rw [hγ];exact h1,by rw [q1];exact h2,RAs.mono h g h3,h4,by rw [q2];exact h5,h6⟩
 | fbox s x =>
  simp only [Z8] at hk ⊢;obtain ⟨b,u,h1,h2,h3,h4,h5⟩:=hk;exact ⟨b,u,by rw [hγ];exact h1,h2.mono h,h3,h4,h5.mono h⟩
 | row s els k =>
  simp only [Z8] at hk ⊢;rcases hk with ⟨h1,h2,h3,h4⟩|⟨b,cap,cs,t,h1,h2,h3,h4,h5,h6,h7,h8,h9⟩
  ·exact .inl ⟨by rw [hγ];exact h1,by rw [Zbg];exact h2,h3,h4⟩
  ·obtain ⟨q1,q2⟩:=ho rfl b h1;exact .inr ⟨b,cap,cs,t,by rw [hγ];exact h1,by rw [Zbg];exact h2,h3,h4,by rw [q1];exact h5,h6,RE.mono h h7,by rw [q2];exact h8,h9⟩
 | mp ks vs fr =>
  simp only [Z8] at hk ⊢;obtain ⟨b,es,c,h1,h2,h3,h4,h5,h6⟩:=hk;obtain ⟨q1,q2⟩:=ho rfl b h1;exact ⟨b,es,c,by rw [hγ];exact h1,by rw [q1];exact h2,Rs.mono h h3,Rs.mono h h4,by rw [q2];exact h5,h6⟩
 | gone=>trivial
 | brow t l =>
  simp only [Z8] at hk ⊢;rcases hk with ⟨h1,h2,h3⟩|⟨b,cap,cs,h1,h2,h3,h4,h5,h6,h7,h8⟩
  ·exact .inl ⟨by rw [hγ];exact h1,by rw [Zbg];exact h2,h3⟩
  ·obtain ⟨q1,q2⟩:=ho rfl b h1;exact .inr ⟨b,cap,cs,by rw [hγ];exact h1,by rw [Zbg];exact h2,h3,h4,by rw [q1];exact h5,h6,h7,by rw [q2];exact h8⟩
 | slot e f=>trivial
 | hole j n e f x =>
  simp only [Z8] at hk ⊢;obtain ⟨b,off,v,h1,h2,h3,h4⟩:=hk;exact ⟨b,off,v,RA.mono h g h1,Nat.lt_of_lt_of_le h2 (h.1 b).1,((h.1 b).2 off h2).trans h3,RA.mono h g h4⟩
section
variable {base:Nat} {pass:Nat→Prop} {F0:Anc} {m m':Nat→Nat} {G G':Gh} {st:AS} {a:Act} {w w':World}
theorem SRg.put (h:SRg base pass F0 m G st a w) {t:Nat} {x:AV} {v:Value} (hx:RA ⟨w,m⟩ G (lk st.objs) x v) :
  SRg base pass F0 m G { st with tmps:=st.tmps.set t x } (a.put (some t) v) w :=
 ⟨h.defers,by simpa [Act.put] using RAs.set h.tmps hx,h.objs,h.apart,h.mine,h.frame,h.old,h.new,h.small,h.lent⟩
theorem SRg.putO (h:SRg base pass F0 m G st a w) {t:Option Nat} {x:AV} {v:Value} (hx:RA ⟨w,m⟩ G (lk st.objs) x v) :
  SRg base pass F0 m G { st with tmps:=(match t with|some t=>st.tmps.set t x|none=>st.tmps) } (a.put t v) w:=by
 cases t with
 | none=>exact h
 | some t=>exact h.put hx
theorem SRg.objG (h:SRg base pass F0 m G st a w) (i:Nat) (o':Obj) (hF:Fix.le ⟨w,m⟩ ⟨w',m'⟩) (hG:∀ j,j≠i→G'.γ j=G.γ j∧G'.hd j=G.hd j)
  (N9:∀ o,lk st.objs i=some o→(o'.isBox=true→o.isBox=true∧G'.γ i=G.γ i) ∧
   (∀ s els' k',o'=.row s els' k'→∃ els k,o=.row s els k∧els.length≤els'.length∧(els'.length=els.length→G'.γ i=G.γ i∧G'.hd i=G.hd i)) ∧
   ∀ t l',o'=.brow t l'→∃ l,o=.brow t l∧l.length≤l'.length∧(l'.length=l.length→G'.γ i=G.γ i∧G'.hd i=G.hd i))
  (Xr:Wc G (lk st.objs) G' (lk (upd st.objs i o'))→Z8 ⟨w',m'⟩ G' (lk (upd st.objs i o')) i o')
  (hother:∀ j o,j≠i→lk st.objs j=some o→o.owns=true→∀ b,G.γ j=some b→w'.heap[b]?=w.heap[b]?∧m' b=m b)
  (Og:o'.owns=true→∀ b,G'.γ i=some b→b<w'.heap.size∧(base≤b∨pass b)∧∀ j o,j≠i→lk st.objs j=some o→o.owns=true→G.γ j≠some b)
  (O2:Frame base pass w w') (hold:∀ b,b<base→¬ pass b→m' b=m b) (Yl:∀ b,w'.heap.size≤b→m' b=0) :
  Wc G (lk st.objs) G' (lk (upd st.objs i o'))∧SRg base pass F0 m' G' { st with objs:=upd st.objs i o' } a w':=by
 have P8:Wc G (lk st.objs) G' (lk (upd st.objs i o')):=by
  intro j o hj;rw [Jb];by_cases Yd:j=i
  ·subst Yd;rw [if_pos rfl];obtain ⟨g1,g2⟩:=N9 o hj;exact ⟨o',rfl,g1,g2⟩
  ·rw [if_neg Yd];obtain ⟨q1,q2⟩:=hG j Yd;exact ⟨o,hj,fun hb=>⟨hb,q1⟩,fun s els' k' he=>⟨els',k',he,Zk _,fun _=>⟨q1,q2⟩⟩,fun t l' he=>⟨l',he,Zk _,fun _=>⟨q1,q2⟩⟩⟩
 refine ⟨P8,?_⟩;constructor
 ·exact h.defers
 ·exact RAs.mono hF P8 h.tmps
 ·intro j o hj;simp only [Jb] at hj;by_cases Yd:j=i
  ·subst Yd;rw [if_pos rfl] at hj;injection hj with hj
   subst hj;exact Xr P8
  ·rw [if_neg Yd] at hj;obtain ⟨q1,q2⟩:=hG j Yd;exact Z8.mono hF P8 q1 q2 (fun ho b hb=>hother j o Yd hj ho b hb) (h.objs j o hj)
 ·intro j k oj ok b hj hk Lr hok' Li Zta;simp only [Jb] at hj hk;by_cases Yd:j=i
  ·by_cases uQ:k=i
   ·rw [Yd,uQ]
   ·rw [if_pos Yd] at hj;rw [if_neg uQ] at hk;injection hj with hj
    subst hj;subst Yd;rw [(hG k uQ).1] at Zta;exact absurd Zta ((Og Lr b Li).2.2 k ok uQ hk hok')
  ·by_cases uQ:k=i
   ·rw [if_neg Yd] at hj;rw [if_pos uQ] at hk;injection hk with hk
    subst hk;subst uQ;rw [(hG j Yd).1] at Li;exact absurd Li ((Og hok' b Zta).2.2 j oj Yd hj Lr)
   ·rw [if_neg Yd] at hj;rw [if_neg uQ] at hk;rw [(hG j Yd).1] at Li;rw [(hG k uQ).1] at Zta;exact h.apart j k oj ok b hj hk Lr hok' Li Zta
 ·intro j o b hj ho hb;simp only [Jb] at hj;by_cases Yd:j=i
  ·subst Yd;rw [if_pos rfl] at hj;injection hj with hj
   subst hj;exact ⟨(Og ho b hb).1,(Og ho b hb).2.1⟩
  ·rw [if_neg Yd] at hj;rw [(hG j Yd).1] at hb;obtain ⟨q1,q2⟩:=h.mine j o b hj ho hb;exact ⟨Nat.lt_of_lt_of_le q1 O2.size,q2⟩
 ·exact h.frame.trans O2
 ·exact fun b hb hp=>(hold b hb hp).trans (h.old b hb hp)
 ·exact Yl
 ·exact Nat.le_trans h.small O2.size
 ·exact h.lent.goes P8
theorem SRg.obj (h:SRg base pass F0 m G st a w) (i:Nat) (o':Obj) (hF:Fix.le ⟨w,m⟩ ⟨w',m'⟩) (hG:∀ j,j≠i→G'.γ j=G.γ j∧G'.hd j=G.hd j)
  (N9:∀ o,lk st.objs i=some o→(o'.isBox=true→o.isBox=true∧G'.γ i=G.γ i) ∧
   ∀ s els' k',o'=.row s els' k'→∃ els k,o=.row s els k∧els.length≤els'.length∧(els'.length=els.length→G'.γ i=G.γ i∧G'.hd i=G.hd i))
  (Xr:Wc G (lk st.objs) G' (lk (upd st.objs i o'))→Z8 ⟨w',m'⟩ G' (lk (upd st.objs i o')) i o')
  (hother:∀ j o,j≠i→lk st.objs j=some o→o.owns=true→∀ b,G.γ j=some b→w'.heap[b]?=w.heap[b]?∧m' b=m b)
  (Og:o'.owns=true→∀ b,G'.γ i=some b→b<w'.heap.size∧(base≤b∨pass b)∧∀ j o,j≠i→lk st.objs j=some o→o.owns=true→G.γ j≠some b)
  (O2:Frame base pass w w') (hold:∀ b,b<base→¬ pass b→m' b=m b) (Yl:∀ b,w'.heap.size≤b→m' b=0) (Ls:∀ t l,o'≠.brow t l:=by simp) :
  Wc G (lk st.objs) G' (lk (upd st.objs i o'))∧SRg base pass F0 m' G' { st with objs:=upd st.objs i o' } a w' :=
 h.objG i o' hF hG (fun o ho=>⟨(N9 o ho).1,(N9 o ho).2,fun t l he=>absurd he (Ls t l)⟩) Xr hother Og O2 hold Yl
theorem SRg.grow (h:SRg base pass F0 m G st a w) (hb:Below w.heap.size w w') (hm:∀ b,b<w.heap.size→m' b=m b) (Yl:∀ b,w'.heap.size≤b→m' b=0) :
  Fix.le ⟨w,m⟩ ⟨w',m'⟩∧SRg base pass F0 m' G st a w':=by
 have hF:Fix.le ⟨w,m⟩ ⟨w',m'⟩:=by
  refine ⟨fun b=>?_,fun b es c Za5 V3=>?_⟩;rcases Nat.lt_or_ge b w.heap.size with Qd|Nd
  ·refine ⟨by simp only;rw [hm b Qd];exact Zk _,fun off _=>?_⟩
   exact hb.cell (p:=⟨b,off,none⟩) Qd
  ·have:=h.new b Nd;exact ⟨by simp only;omega,fun off ho=>by simp only at ho;omega⟩
  ·rcases Nat.lt_or_ge b w.heap.size with Qd|Nd
   ·rw [hb.block b Qd];exact V3
   ·have:=h.new b Nd;simp only at Za5;omega
 refine ⟨hF,?_⟩;constructor
 ·exact h.defers
 ·exact RAs.mono hF (Wc.refl _ _) h.tmps
 ·intro i o hi;refine Z8.mono hF (Wc.refl _ _) rfl rfl (fun ho b V3=>?_) (h.objs i o hi);have Qd:=(h.mine i o b hi ho V3).1;exact ⟨hb.block b Qd,hm b Qd⟩
 ·exact h.apart
 ·intro i o b hi ho V3;obtain ⟨q1,q2⟩:=h.mine i o b hi ho V3;exact ⟨Nat.lt_of_lt_of_le q1 hb.size,q2⟩
 ·exact h.frame.trans ⟨hb.os,hb.tape,hb.output,hb.size,fun b V3 _=>hb.block b (Nat.lt_of_lt_of_le V3 h.small)⟩
 ·exact fun b V3 hp=>(hm b (Nat.lt_of_lt_of_le V3 h.small)).trans (h.old b V3 hp)
 ·exact Yl
 ·exact Nat.le_trans h.small hb.size
 ·exact h.lent
theorem SRg.drew (h:SRg base pass F0 m G st a w):SRg base pass F0 m G st a w.drew :=
 (h.grow (m':=m) ((Below.refl _ _).drew) (fun _ _=>rfl) h.new).2
end
def D.i:D→Int
 | .int _ n=>n
 | _=>0
def D.b:D→Bool
 | .bool b=>b
 | _=>false
def D.s:D→List UInt8
 | .str s=>s
 | _=>[]
def D.l:D→List D
 | .list _ l=>l
 | _=>[]
def D.isInt (k:IntKind):D→Prop
 | .int k' _=>k'=k
 | _=>False
def D.isBool:D→Prop
 | .bool _=>True
 | _=>False
def D.isStr:D→Prop
 | .str _=>True
 | _=>False
def D.isList (s:Nat):D→Prop
 | .list s' _=>s'=s
 | _=>False
def D.fits (s:Nat):D→Prop
 | .agg l=>l.length=s
 | .tup _=>False
 | _=>s=1
def D.cell:D→Nat→D
 | .agg l,f=>l.getD f .nilp
 | x,_=>x
def D.asAgg:D→D
 | .agg l=>.agg l
 | x=>.agg [x]
def el (l:List D) (i:Nat):D:=l.getD i .nilp
inductive TK where
 | int (k:IntKind)
 | bool
 | str
 | slice (e:Nat)
 | struct (fs:List (Nat×Nat))
 | array (n e:Nat)
 | ptr (e:Nat)
 | map (k e:Nat)
 | func
 | other
 deriving Inhabited
inductive SK where
 | int (k:IntKind)
 | bool
 | str
def SK.is:SK→D→Prop
 | .int k,x=>x.isInt k
 | .bool,x=>x.isBool
 | .str,x=>x.isStr
structure TI where
 kind:TK
 size:Nat
 bytes:Nat
 zero:AV
 zd:D
 eqk:List SK:=[]
 deriving Inhabited
inductive CV where
 | d (x:D)
 | own (s:Nat) (l:List D)
 | tup (l:List CV)
 deriving Inhabited
structure Con where
 modes:List Bool
 outs:List Bool
 pre:List CV→Prop
 fn:List CV→CV
structure BCon where
 X:Type
 ok:X→Prop
 args:X→List AV
 objs:X→List Obj
 res:X→D
 post:X→List Obj
 out:X→Option Nat:=fun _=>none
def BCon.rv (bc:BCon) (x:bc.X):AV:=match bc.out x with
 | none=>.d (bc.res x)
 | some j=>.mpr (90000+j)
structure Ctx where
 τ:Nat→TI
 Γ:Nat→Option Con
 dp:Nat:=60
 Δ:Nat→Option BCon:=fun _=>none
 cuts:List Nat:=[]
 wr:Bool:=false
def TK.ag:TK→Option Bool
 | .struct _=>some true
 | .array ..=>some true
 | .other=>none
 | _=>some false
def Ctx.size (C:Ctx) (t:Nat):Nat:=(C.τ t).size
def Ctx.ag (C:Ctx) (t:Nat):Option Bool:=(C.τ t).kind.ag
def Ctx.esize (C:Ctx) (t:Nat):Nat:=match (C.τ t).kind with
 | .slice e=>C.size e
 | .array _ e=>C.size e
 | _=>0
def Pb:Value→Option D
 | .int k n=>some (.int k n)
 | .bool b=>some (.bool b)
 | .string s=>some (.str s.data.toList)
 | .nilFunc=>some .nilf
 | .pointer none=>some .nilp
 | .map none=>some .nilm
 | .nilIface=>some .any
 | _=>none
def Ud (C:Ctx) (hint:Nat):Value→AV
 | .slice none 0 0=>.nils (C.esize hint)
 | v=>match Pb v with
  | some x=>.d x
  | none=>.dead
def AS.ev (C:Ctx) (st:AS) (hint:Nat):Operand→AV
 | .tmp t=>st.tmps.getD t .dead
 | .const v=>Ud C hint v
 | .func f=>.d (.clo f [])
 | .global _=>.dead
def eI:List AV→Option (List D)
 | []=>some []
 | .d x::r=>match eI r with
  | some l=>some (x::l)
  | none=>none
 | _::_=>none
def I1 (l:List AV):AV:=match eI l with
 | some ds=>.d (.agg ds)
 | none=>.agg l
def fO (l:List AV):AV:=match eI l with
 | some ds=>.d (.tup ds)
 | none=>.tup l
def mD (f:Nat) (l:List AV):AV:=match eI l with
 | some ds=>.d (.clo f ds)
 | none=>.clo f l
def Uu (x:D):(k n:Nat)→List AV
 | _,0=>[]
 | k,n+1=>.d (x.cell k)::Uu x (k+1) n
def Zm0:List AV→List AV
 | .bad _::l=>.dead::l
 | l=>l
def AV.cells (ag:Bool) (s:Nat):AV→List AV
 | .agg l=>Zm0 l
 | .d (.agg l)=>l.map .d
 | .d x=>if ag then Uu x 0 s else [.d x]
 | x=>[x]
def AV.fits (s:Nat):AV→Prop
 | .d x=>x.fits s
 | .agg l=>l.length=s
 | .tup _=>False
 | .dead=>False
 | .bad _=>False
 | _=>s=1
abbrev Zz:=List (Nat×Obj)
abbrev Eo:=Option (Prop×AV×Zz)
def cC:AV→Option D
 | .d x=>some x
 | .nils s=>some (.list s [])
 | _=>none
def S5:List AV→Option (List D)
 | []=>some []
 | x::l=>match cC x with
  | some y=>match S5 l with
   | some ys=>some (y::ys)
   | none=>none
  | none=>none
def Lm:AV→Zz→Option (Prop×D×Zz)
 | .d x,o=>some (True,x,o)
 | .nils s,o=>some (True,.list s [],o)
 | .sl i n,o=>match lk o i with
  | some (.row s els _)=>some (n=els.length,.list s els,upd o i (.row s els els.length))
  | _=>none
 | _,_=>none
def Nw:List AV→Zz→Option (Prop×List D×Zz)
 | [],o=>some (True,[],o)
 | x::l,o=>match Lm x o with
  | some (c,y,o')=>match Nw l o' with
   | some (c',ys,o'')=>some (c∧c',y::ys,o'')
   | none=>none
  | none=>none
mutual
def pur:Nat→AV→Zz→Option (Prop×D×Zz)
 | 0,_,_=>none
 | _+1,.d x,o=>some (True,x,o)
 | _+1,.nils s,o=>some (True,.list s [],o)
 | _+1,.sl i n,o=>match lk o i with
  | some (.row s els _)=>some (n=els.length,.list s els,upd o i (.row s els els.length))
  | _=>none
 | _+1,.mpr i,o=>match lk o i with
  | some (.mp ks vs _)=>some (True,.map ks vs,upd o i (.mp ks vs true))
  | _=>none
 | n+1,.ref i 0,o=>match lk o i with
  | some (.fbox s x)=>some (True,.ptr s x,o)
  | some (.box ag cells)=>match purs n cells o with
   | some (c,xs,o')=>match lk o' i with
    | some (.box _ _)=>match xs,ag with
     | xs,true=>some (c,.ptr xs.length (.agg xs),upd o' i (.fbox xs.length (.agg xs)))
     | [x],false=>some (c,.ptr 1 x,upd o' i (.fbox 1 x))
     | _,_=>none
    | _=>none
   | none=>none
  | _=>none
 | n+1,.agg l,o=>match S5 l with
  | some xs=>some (True,.agg xs,o)
  | none=>match Nw l o with
   | some (c,xs,o')=>some (c,.agg xs,o')
   | none=>match purs n l o with
    | some (c,xs,o')=>some (c,.agg xs,o')
    | none=>none
 | n+1,.tup l,o=>match purs n l o with
  | some (c,xs,o')=>some (c,.tup xs,o')
  | none=>none
 | n+1,.clo f l,o=>match purs n l o with
  | some (c,xs,o')=>some (c,.clo f xs,o')
  | none=>none
 | _+1,_,_=>none
def purs:Nat→List AV→Zz→Option (Prop×List D×Zz)
 | 0,_,_=>none
 | _+1,[],o=>some (True,[],o)
 | n+1,x::l,o=>match pur n x o with
  | some (c,y,o')=>match purs n l o' with
   | some (c',ys,o'')=>some (c∧c',y::ys,o'')
   | none=>none
  | none=>none
end
def Jw (a b:Int):Bool:=decide (a<b)
def Ju (a b:Int):Bool:=decide (a≤b)
def Zbv (a b:Int):Int:=if b<a then b else a
def E3 (a b:Int):Int:=if a<b then b else a
def eD (k:IntKind) (n:Int):Prop:=k.min≤n∧n≤k.max
def D.eqb:D→D→Bool
 | .int _ a,.int _ b=>a==b
 | .bool a,.bool b=>a==b
 | .str a,.str b=>a==b
 | _,_=>false
def U9:List D→List D→Bool
 | [],[]=>true
 | x::l,y::l'=>D.eqb x y&&U9 l l'
 | _,_=>false
def Sn:List SK→List D→Prop
 | [],[]=>True
 | k::ks,x::l=>k.is x∧Sn ks l
 | _,_=>False
def aI (ks:List SK):D→Prop
 | .agg l=>Sn ks l
 | _=>False
def eL:D→List D
 | .agg l=>l
 | _=>[]
def Zrf:D→Prop
 | .list _ l=>l≠[]
 | _=>False
def Zth (k:IntKind) (n:Int):Int:=k.wrap n
def An (C:Ctx) (op:BinOp) (t:Nat):AV→AV→Option (Prop×D)
 | .d x,.d y=>match (C.τ t).kind,op with
  | .int k,.add=>match C.wr with
   | false=>some (x.isInt k∧y.isInt k∧eD k (x.i+y.i),.int k (x.i+y.i))
   | true=>some (x.isInt k∧y.isInt k,.int k (Zth k (x.i+y.i)))
  | .int k,.sub=>match C.wr with
   | false=>some (x.isInt k∧y.isInt k∧eD k (x.i-y.i),.int k (x.i-y.i))
   | true=>some (x.isInt k∧y.isInt k,.int k (Zth k (x.i-y.i)))
  | .int k,.mul=>some (x.isInt k∧y.isInt k∧eD k (x.i*y.i),.int k (x.i*y.i))
  | .int k,.quo=>some (x.isInt k∧y.isInt k∧y.i≠0∧eD k (x.i.tdiv y.i),.int k (x.i.tdiv y.i))
  | .int k,.rem=>some (x.isInt k∧y.isInt k∧y.i≠0,.int k (x.i.tmod y.i))
  | .int k,.eql=>some (x.isInt k∧y.isInt k,.bool (x.i==y.i))
  | .int k,.neq=>some (x.isInt k∧y.isInt k,.bool (x.i != y.i))
  | .int k,.lss=>some (x.isInt k∧y.isInt k,.bool (Jw x.i y.i))
  | .int k,.leq=>some (x.isInt k∧y.isInt k,.bool (Ju x.i y.i))
  | .int k,.gtr=>some (x.isInt k∧y.isInt k,.bool (Jw y.i x.i))
  | .int k,.geq=>some (x.isInt k∧y.isInt k,.bool (Ju y.i x.i))
  | .int k,.shr=>match y with
   | .int _ n=>some (x.isInt k∧0≤n∧n≤k.bits,.int k (x.i.fdiv (2 ^ n.toNat)))
   | _=>none
  | .str,.add=>some (x.isStr∧y.isStr∧x.s.length+y.s.length≤9223372036854775807,.str (x.s++y.s))
  | .str,.eql=>some (x.isStr∧y.isStr,.bool (x.s==y.s))
  | .str,.neq=>some (x.isStr∧y.isStr,.bool (!(x.s==y.s)))
  | .str,.lss=>some (x.isStr∧y.isStr,.bool (Op.bytesLess x.s y.s))
  | .str,.leq=>some (x.isStr∧y.isStr,.bool (Op.bytesLess x.s y.s||x.s==y.s))
  | .str,.gtr=>some (x.isStr∧y.isStr,.bool (!(Op.bytesLess x.s y.s||x.s==y.s)))
  | .str,.geq=>some (x.isStr∧y.isStr,.bool (!(Op.bytesLess x.s y.s)))
  | .struct _,.eql=>match (C.τ t).eqk with
   | []=>none
   | ks=>some (aI ks x∧aI ks y,.bool (U9 (eL x) (eL y)))
  | .struct _,.neq=>match (C.τ t).eqk with
   | []=>none
   | ks=>some (aI ks x∧aI ks y,.bool (!U9 (eL x) (eL y)))
  | .bool,.eql=>some (x.isBool∧y.isBool,.bool (x.b==y.b))
  | .bool,.neq=>some (x.isBool∧y.isBool,.bool (!(x.b==y.b)))
  | _,_=>none
 | .d x,.nils _=>match (C.τ t).kind,op with
  | .slice _,.eql=>some (Zrf x,.bool false)
  | .slice _,.neq=>some (Zrf x,.bool true)
  | _,_=>none
 | _,_=>none
def Zpr (C:Ctx) (op:UnOp) (t:Nat):AV→Option (Prop×D)
 | .d x=>match (C.τ t).kind,op with
  | .bool,.not=>some (x.isBool,.bool (!x.b))
  | .int k,.neg=>some (x.isInt k∧eD k (0-x.i),.int k (0-x.i))
  | _,_=>none
 | _=>none
def Xu (o:Zz):Option (Prop×D)→Eo
 | some (c,x)=>some (c,.d x,o)
 | none=>none
def sO (c a b:AV):Option AV:=match c with
 | .d (.bool true)=>some a
 | .d (.bool false)=>some b
 | _=>none
def Nk (cells:List AV) (f:Nat) (xs:List AV):List AV:=cells.take f++xs++cells.drop (f+xs.length)
def Bo (C:Ctx) (e:Nat) (key:Nat) (x:AV) (o:Zz):Eo :=
 match C.ag e,lk o key with
 | some ag,none=>some (x.fits (C.size e),.ref key 0,upd o key (.box ag (x.cells ag (C.size e))))
 | _,_=>none
def Un (C:Ctx) (t:Nat) (p:AV) (o:Zz):Eo:=match p with
 | .d (.ptr s x)=>match C.ag t with
  | some true=>if s=C.size t then some (True,.d x.asAgg,o) else none
  | some false=>if s=1 then some (True,.d (x.cell 0),o) else none
  | none=>none
 | .ref i f=>match lk o i with
  | some (.box _ cells)=>match C.ag t with
   | some true=>if f+C.size t≤cells.length then some (True,I1 ((cells.drop f).take (C.size t)),o) else none
   | some false=>if f<cells.length then some (True,cells.getD f .dead,o) else none
   | none=>none
  | some (.fbox s x)=>match C.ag t with
   | some true=>if f=0∧s=C.size t then some (True,.d x.asAgg,o) else none
   | some false=>if f<s then some (True,.d (x.cell f),o) else none
   | none=>none
  | _=>none
 | .rref i n e f=>match lk o i with
  | some (.row s els _)=>match C.ag t with
   | some true=>if f=0∧s=C.size t then some (n=els.length∧e<els.length,.d (el els e).asAgg,o) else none
   | some false=>if f<s then some (n=els.length∧e<els.length,.d ((el els e).cell f),o) else none
   | none=>none
  | _=>none
 | _=>none
def De (C:Ctx) (t:Nat) (p:AV) (o:Zz):Eo:=match p with
 | .rref i n e f=>match lk o (50000+i) with
  | some (.hole i' n0 e0 f0 x)=>if i'=i∧f0=f then match lk o i,C.ag t with
    | some (.row _ els _),some false=>some (n=n0∧n=els.length∧e=e0,x,o)
    | _,_=>none
   else Un C t (.rref i n e f) o
  | _=>Un C t (.rref i n e f) o
 | p=>Un C t p o
def D.setCell:D→Nat→D→D
 | .agg l,f,y=>.agg (l.set f y)
 | _,_,y=>y
def Y4 (C:Ctx) (t:Nat) (p x:AV) (o:Zz):Eo:=match p with
 | .ref i f=>match lk o i with
  | some (.box ag cells)=>match C.ag t with
   | some true=>if f+C.size t≤cells.length then some (x.fits (C.size t),.dead,upd o i (.box ag (Nk cells f (x.cells true (C.size t))))) else none
   | some false=>if f<cells.length then some (x.fits 1∧C.size t=1,.dead,upd o i (.box ag (Nk cells f (x.cells false 1)))) else none
   | none=>none
  | _=>none
 | .rref i n e f=>match lk o i,pur C.dp x o with
  | some (.row _ _ _),some (c,y,o')=>match lk o' i with
   | some (.row s els k)=>match C.ag t with
    | some true=>if f=0∧s=C.size t then some (c∧n=els.length∧e<els.length∧k≤e∧y.fits s,.dead,upd o' i (.row s (els.set e y) k)) else none
    | some false=>if f<s then some (c∧n=els.length∧e<els.length∧k≤e∧y.fits 1∧C.size t=1,.dead,upd o' i (.row s (els.set e ((el els e).setCell f (y.cell 0))) k)) else none
    | none=>none
   | _=>none
  | _,_=>none
 | _=>none
def D8 (C:Ctx) (t:Nat) (p x:AV) (o:Zz):Eo:=match p,x with
 | .rref i n e f,.sl j m=>match lk o (50000+i) with
  | some (.slot e0 f0)=>if f0=f then match lk o i,C.ag t with
    | some (.row s els k),some false=>if f<s then some (e=e0∧k≤e∧n=els.length∧e<els.length∧C.size t=1,.dead,upd (upd o i (.row s (els.set e ((el els e).setCell f .any)) (e+1))) (50000+i) (.hole i n e f (.sl j m))) else none
    | _,_=>none
   else Y4 C t (.rref i n e f) (.sl j m) o
  | _=>Y4 C t (.rref i n e f) (.sl j m) o
 | p,x=>Y4 C t p x o
def Ctx.fieldAt (C:Ctx) (t f:Nat):Option (Nat×Nat):=match (C.τ t).kind with
 | .struct fs=>fs[f]?
 | _=>none
def Vh (C:Ctx) (t:Nat) (p:AV) (f:Nat) (o:Zz):Eo:=match C.fieldAt t f with
 | some (off,sz)=>match p with
  | .ref i f0=>match lk o i with
   | some ob=>if ob.isBox=true then some (True,.ref i (f0+off),o) else none
   | none=>none
  | .rref i n e f0=>match lk o i with
   | some (.row _ els _)=>some (n=els.length,.rref i n e (f0+off),o)
   | _=>none
  | .d (.ptr s x)=>if s=C.size t∧sz=1∧off<s then some (True,.d (.ptr 1 (x.cell off)),o) else none
  | _=>none
 | none=>none
def D.isAgg (s:Nat):D→Prop
 | .agg l=>l.length=s
 | _=>False
def S0 (C:Ctx) (t:Nat) (x:AV) (f:Nat) (o:Zz):Eo:=match C.fieldAt t f with
 | some (off,sz)=>if sz=1∧off<C.size t then match x with
   | .d y=>some (y.isAgg (C.size t),.d (y.cell off),o)
   | .agg l=>if l.length=C.size t then some (True,l.getD off .dead,o) else none
   | _=>none
  else none
 | none=>none
def D.isAnyInt:D→Prop
 | .int _ _=>True
 | _=>False
def Vg (C:Ctx) (t:Nat) (x ix:AV) (o:Zz):Eo:=match (C.τ t).kind,ix with
 | .slice e,.d i=>match x with
  | .d y=>some (y.isList (C.size e)∧i.isAnyInt∧0≤i.i∧i.i<y.l.length,.d (.ptr (C.size e) (el y.l i.i.toNat)),o)
  | .sl k n=>match lk o k with
   | some (.row s els _)=>if s=C.size e then some (n=els.length∧i.isAnyInt∧0≤i.i∧i.i<els.length,.rref k n i.i.toNat 0,o) else none
   | _=>none
  | .sb k n f=>match lk o k with
   | some (.row s els _)=>if s=C.size e then some (n=els.length∧i.isAnyInt∧0≤i.i∧(f:Int)+i.i<els.length,.rref k n (f+i.i.toNat) 0,o) else none
   | _=>none
  | _=>none
 | .array n e,.d (.int _ j)=>if 0≤j∧j<n∧C.size e=1 then match x with
   | .ref i f0=>match lk o i with
    | some ob=>if ob.isBox=true then some (True,.ref i (f0+j.toNat),o) else none
    | none=>none
   | .d (.ptr s y)=>if s=n then some (True,.d (.ptr 1 (y.cell j.toNat)),o) else none
   | _=>none
  else none
 | _,_=>none
def Sy (C:Ctx) (t:Nat) (x ix:AV) (o:Zz):Eo:=match (C.τ t).kind,x,ix with
 | .str,.d y,.d i=>some (y.isStr∧i.isAnyInt∧0≤i.i∧i.i<y.s.length,.d (.int .u8 ((y.s.getD i.i.toNat 0).toNat:Int)),o)
 | .array n e,.d (.agg l),.d i=>if C.size e=1 then some (l.length=n∧i.isAnyInt∧0≤i.i∧i.i<n,.d (el l i.i.toNat),o) else none
 | _,_,_=>none
def D9 (C:Ctx) (t:Nat) (x:AV) (lo hi:Option AV) (mx:Option AV) (o:Zz):Eo:=match (C.τ t).kind,mx with
 | .str,none=>match x with
  | .d y=>match lo,hi with
   | some (.d a),some (.d b)=>some (y.isStr∧a.isAnyInt∧b.isAnyInt∧0≤a.i∧a.i≤b.i∧b.i≤y.s.length,.d (.str ((y.s.take b.i.toNat).drop a.i.toNat)),o)
   | some (.d a),none=>some (y.isStr∧a.isAnyInt∧0≤a.i∧a.i≤y.s.length,.d (.str (y.s.drop a.i.toNat)),o)
   | none,some (.d b)=>some (y.isStr∧b.isAnyInt∧0≤b.i∧b.i≤y.s.length,.d (.str (y.s.take b.i.toNat)),o)
   | _,_=>none
  | _=>none
 | .slice e,none=>match pur C.dp x o with
  | some (c,y,o')=>match lo,hi with
   | some (.d a),some (.d b)=>some (c∧y.isList (C.size e)∧a.isAnyInt∧b.isAnyInt∧0≤a.i∧a.i≤b.i∧b.i≤y.l.length,.d (.list (C.size e) ((y.l.take b.i.toNat).drop a.i.toNat)),o')
   | some (.d a),none=>some (c∧y.isList (C.size e)∧a.isAnyInt∧0≤a.i∧a.i≤y.l.length,.d (.list (C.size e) (y.l.drop a.i.toNat)),o')
   | none,some (.d b)=>some (c∧y.isList (C.size e)∧b.isAnyInt∧0≤b.i∧b.i≤y.l.length,.d (.list (C.size e) (y.l.take b.i.toNat)),o')
   | _,_=>none
  | none=>none
 | .slice e,some (.d m)=>match pur C.dp x o with
  | some (c,y,o')=>match lo,hi with
   | some (.d a),some (.d b)=>some (c∧y.isList (C.size e)∧a.isAnyInt∧b.isAnyInt∧m.isAnyInt∧0≤a.i∧a.i≤b.i∧b.i≤m.i∧m.i≤y.l.length,.d (.list (C.size e) ((y.l.take b.i.toNat).drop a.i.toNat)),o')
   | _,_=>none
  | none=>none
 | _,_=>none
def Nf (z:D):Nat→List D
 | 0=>[]
 | n+1=>z::Nf z n
def M3:List D→List (Nat×D)→List D
 | l,[]=>l
 | l,(i,x)::r=>M3 (l.set i x) r
def Pg (s:Nat):List D→Prop
 | []=>True
 | x::l=>x.fits s∧Pg s l
def Y9 (C:Ctx):List (Nat×AV)→Zz→Option (Prop×List (Nat×D)×Zz)
 | [],o=>some (True,[],o)
 | (i,x)::r,o=>match pur C.dp x o with
  | some (c,y,o')=>match Y9 C r o' with
   | some (c',l,o'')=>some (c∧c',(i,y)::l,o'')
   | none=>none
  | none=>none
def Oc (n:Nat):List (Nat×AV)→Bool
 | []=>true
 | (i,_)::r=>decide (i<n)&&Oc n r
def Vi (C:Ctx) (t n:Nat) (parts:List (Nat×AV)) (key:Nat) (o:Zz):Eo:=match (C.τ t).kind with
 | .slice e=>match Y9 C parts o with
  | some (c,ps,o')=>match lk o' key with
   | none=>if n*C.size e≤16777216∧Oc n parts=true then
     some (c∧Pg (C.size e) (ps.map (·.2)),.sl key n,upd o' key (.row (C.size e) (M3 (Nf (C.τ e).zd n) ps) 0)) else none
   | some _=>none
  | none=>none
 | _=>none
def Ww (o:Zz) (fs:List (Nat×Nat)):List AV→List (Nat×AV)→Prop→Eo
 | cells,[],c=>some (c,I1 cells,o)
 | cells,(i,x)::r,c=>match fs[i]? with
  | some (off,sz)=>if sz=1∧off<cells.length then Ww o fs (cells.set off ((x.cells false 1).getD 0 .dead)) r (c∧x.fits 1) else none
  | none=>none
def Kj (o:Zz):List AV→List (Nat×AV)→Prop→Eo
 | cells,[],c=>some (c,I1 cells,o)
 | cells,(i,x)::r,c=>if i<cells.length then Kj o (cells.set i ((x.cells false 1).getD 0 .dead)) r (c∧x.fits 1) else none
def Ea (C:Ctx) (t:Nat) (parts:List (Nat×AV)) (o:Zz):Eo:=match (C.τ t).kind with
 | .struct fs=>Ww o fs ((C.τ t).zero.cells true (C.size t)) parts ((C.τ t).zero.fits (C.size t))
 | .array _ e=>if C.size e=1 then Kj o ((C.τ t).zero.cells true (C.size t)) parts ((C.τ t).zero.fits (C.size t)) else none
 | _=>none
def Um (C:Ctx) (t:Nat) (l c:AV) (key:Nat) (o:Zz):Eo:=match (C.τ t).kind,l,c with
 | .slice e,.d a,.d b=>match lk o key with
  | none=>some (a.isAnyInt∧b.isAnyInt∧0≤a.i∧a.i=b.i∧(C.τ e).bytes*b.i≤281474976710656∧b.i≤4294967296,
    .sl key a.i.toNat,upd o key (.row (C.size e) (List.replicate a.i.toNat (C.τ e).zd) 0))
  | some _=>none
 | _,_,_=>none
def Y5 (s:Nat) (x:AV) (o:Zz):Option (Prop×List D):=match x with
 | .d y=>some (y.isList s,y.l)
 | .nils _=>some (True,[])
 | .sl i n=>match lk o i with
  | some (.row s' els _)=>if s'=s then some (n=els.length,els) else none
  | _=>none
 | _=>none
def Bn (C:Ctx) (t:Nat) (s x:AV) (key:Nat) (o:Zz):Eo:=match (C.τ t).kind with
 | .slice e=>match Y5 (C.size e) x o with
  | some (c,xs)=>match s with
   | .nils _=>match lk o key with
    | none=>some (c∧xs.length*(C.τ e).bytes≤140737488355328∧xs.length≤4611686018427387904,.sl key xs.length,upd o key (.row (C.size e) xs 0))
    | some _=>none
   | .sl i n=>match lk o i with
    | some (.row s' els k)=>if s'=C.size e then
      some (c∧n=els.length∧(els.length+xs.length)*(C.τ e).bytes≤140737488355328∧els.length+xs.length≤4611686018427387904,.sl i (els++xs).length,upd o i (.row s' (els++xs) k)) else none
    | _=>none
   | _=>none
  | none=>none
 | _=>none
def nZ (C:Ctx) (t:Nat) (x:AV) (o:Zz):Eo:=match (C.τ t).kind,x with
 | .str,.d y=>some (y.isStr,.d (.int .i64 y.s.length),o)
 | .slice e,.d y=>some (y.isList (C.size e),.d (.int .i64 y.l.length),o)
 | .slice _,.nils _=>some (True,.d (.int .i64 0),o)
 | .slice _,.sl i n=>match lk o i with
  | some (.row _ els _)=>some (n=els.length,.d (.int .i64 els.length),o)
  | _=>none
 | .slice _,.sb i n f=>match lk o i with
  | some (.row _ els _)=>some (n=els.length,.d (.int .i64 (els.length-f:Nat)),o)
  | _=>none
 | _,_=>none
def qE (C:Ctx) (t:Nat):AV→AV→Option (Prop×D)
 | .d x,.d y=>match (C.τ t).kind with
  | .int k=>some (x.isInt k∧y.isInt k,.int k (Zbv x.i y.i))
  | _=>none
 | _,_=>none
def qF (C:Ctx) (t:Nat):AV→AV→Option (Prop×D)
 | .d x,.d y=>match (C.τ t).kind with
  | .int k=>some (x.isInt k∧y.isInt k,.int k (E3 x.i y.i))
  | _=>none
 | _,_=>none
def Df (C:Ctx) (s t:Nat):AV→Option (Prop×D)
 | .d x=>match (C.τ s).kind,(C.τ t).kind with
  | .int k,.int k'=>some (x.isInt k∧eD k' x.i,.int k' x.i)
  | .str,.str=>some (x.isStr,x)
  | _,_=>none
 | _=>none
def G6 (x:AV) (i:Nat) (o:Zz):Eo:=match x with
 | .tup l=>if i<l.length then some (True,l.getD i .dead,o) else none
 | .d (.tup l)=>if i<l.length then some (True,.d (l.getD i .nilp),o) else none
 | _=>none
def Yo (k:TK) (x:D):Prop:=match k with
 | .int kk=>x.isInt kk
 | .str=>x.isStr
 | _=>False
def Yi (k:TK):List D→Prop
 | []=>True
 | x::l=>Yo k x∧Yi k l
def Pr (x:D):List D→Bool
 | []=>false
 | y::l=>D.eqb x y||Pr x l
def Oo (x z:D):List D→List D→D
 | y::ks,v::vs=>cond (D.eqb x y) v (Oo x z ks vs)
 | _,_=>z
def I2 (x:D) (ks:List D):List D:=cond (Pr x ks) ks (ks++[x])
def Ml (x v:D):List D→List D→List D
 | y::ks,u::vs=>cond (D.eqb x y) (v::vs) (u::Ml x v ks vs)
 | _,_=>[v]
def Nt (C:Ctx) (kt et:Nat) (ks vs:List D) (i:D) (ok:Bool) (o:Zz):Eo:=match C.ag et with
 | some _=>match ok with
  | true=>some (Yo (C.τ kt).kind i∧Yi (C.τ kt).kind ks,.d (.tup [Oo i (C.τ et).zd ks vs,.bool (Pr i ks)]),o)
  | false=>some (Yo (C.τ kt).kind i∧Yi (C.τ kt).kind ks,.d (Oo i (C.τ et).zd ks vs),o)
 | none=>none
def Mr (C:Ctx) (t:Nat) (x ix:AV) (ok:Bool) (o:Zz):Eo:=match (C.τ t).kind,ix with
 | .map kt et,.d i=>match x with
  | .d (.map ks vs)=>Nt C kt et ks vs i ok o
  | .mpr j=>match lk o j with
   | some (.mp ks vs _)=>Nt C kt et ks vs i ok o
   | _=>none
  | _=>none
 | _,_=>none
def Ul (C:Ctx) (t:Nat) (x ix v:AV) (o:Zz):Eo:=match (C.τ t).kind,ix,x with
 | .map kt _,.d i,.mpr j=>match pur C.dp v o with
  | some (c,y,o')=>match lk o' j with
   | some (.mp ks vs false)=>some (c∧Yo (C.τ kt).kind i∧Yi (C.τ kt).kind ks,.dead,upd o' j (.mp (I2 i ks) (Ml i y ks vs) false))
   | _=>none
  | none=>none
 | _,_,_=>none
def Px (key:Nat) (o:Zz):Eo:=match lk o key with
 | none=>some (True,.mpr key,upd o key (.mp [] [] false))
 | some _=>none
def Ctx.mapE (C:Ctx) (t:Nat):Nat:=match (C.τ t).kind with
 | .map _ e=>e
 | _=>0
def X8 (C:Ctx):List Bool→List AV→Zz→Option (Prop×List CV×Zz)
 | _,[],o=>some (True,[],o)
 | [],_::_,_=>none
 | false::ms,x::r,o=>match pur C.dp x o with
  | some (c,y,o')=>match X8 C ms r o' with
   | some (c',l,o'')=>some (c∧c',.d y::l,o'')
   | none=>none
  | none=>none
 | true::ms,x::r,o=>match x with
  | .sl i n=>match lk o i with
   | some (.row s els k)=>match X8 C ms r (upd o i .gone) with
    | some (c,l,o')=>some (c∧n=els.length∧k=0∧0<s,.own s els::l,o')
    | none=>none
   | _=>none
  | .nils s=>match X8 C ms r o with
   | some (c,l,o')=>some (c,.own s []::l,o')
   | none=>none
  | _=>none
def K8 (key:Nat) (x:CV) (o:Zz):Option (AV×Zz):=match x with
 | .d y=>some (.d y,o)
 | .own s l=>match lk o key with
  | none=>some (.sl key l.length,upd o key (.row s l 0))
  | some _=>none
 | .tup _=>none
def Ui (key:Nat):List CV→Zz→Option (List AV×Zz)
 | [],o=>some ([],o)
 | x::r,o=>match K8 key x o with
  | some (y,o')=>match Ui (key+4096) r o' with
   | some (l,o'')=>some (y::l,o'')
   | none=>none
  | none=>none
def Ez (key:Nat) (x:CV) (o:Zz):Option (AV×Zz):=match x with
 | .tup l=>match Ui key l o with
  | some (ys,o')=>some (fO ys,o')
  | none=>none
 | x=>K8 key x o
def Fm (C:Ctx) (f:Nat) (args:List AV) (key:Nat) (o:Zz):Eo:=match C.Γ f with
 | some con=>match X8 C con.modes args o with
  | some (c,Jj,o')=>match Ez key (con.fn Jj) o' with
   | some (y,o'')=>some (c∧con.pre Jj,y,o'')
   | none=>none
  | none=>none
 | none=>none
def cK (C:Ctx) (f:AV) (args:List AV) (key:Nat) (o:Zz):Eo:=match f with
 | .d (.clo g caps)=>Fm C g (args++caps.map .d) key o
 | .clo g caps=>Fm C g (args++caps) key o
 | _=>none
def Rw (C:Ctx) (st:AS):List Operand→List Nat→List AV
 | [],_=>[]
 | x::r,[]=>st.ev C 0 x::Rw C st r []
 | x::r,t::ts=>st.ev C t x::Rw C st r ts
def tQ (C:Ctx) (st:AS) (t:Nat):Option Operand→Option AV
 | some x=>some (st.ev C t x)
 | none=>none
def Xw (C:Ctx) (st:AS) (h:Nat):List (Nat×Operand)→List (Nat×AV)
 | []=>[]
 | (i,x)::r=>(i,st.ev C h x)::Xw C st h r
def Ctx.elemT (C:Ctx) (t:Nat):Nat:=match (C.τ t).kind with
 | .slice e=>e
 | .array _ e=>e
 | _=>0
def Zm1:List D→Prop
 | []=>True
 | x::l=>x.isInt .u8∧Zm1 l
def Zbl:List D→List UInt8
 | []=>[]
 | x::l=>UInt8.ofNat x.i.toNat::Zbl l
def S1 (C:Ctx) (s t:Nat) (x:AV) (o:Zz):Eo:=match (C.τ s).kind,(C.τ t).kind with
 | .slice e,.str=>match (C.τ e).kind,Y5 1 x o with
  | .int .u8,some (c,xs)=>some (c∧Zm1 xs,.d (.str (Zbl xs)),o)
  | _,_=>none
 | _,_=>Xu o (Df C s t x)
def qD (x:AV) (o:Zz):Eo:=match x with
 | .ref i f=>match lk o i with
  | some ob=>if ob.isBox=true then some (True,.ref i f,o) else none
  | none=>none
 | .d (.ptr s y)=>some (True,.d (.ptr s y),o)
 | _=>none
def Va (C:Ctx) (o:Oper) (st:AS):Eo:=match o.op with
 | .move x=>some (True,st.ev C o.type x,st.objs)
 | .assign x=>some (True,st.ev C o.type x,st.objs)
 | .pick c a b=>match sO (st.ev C 0 c) (st.ev C o.type a) (st.ev C o.type b) with
  | some x=>some (True,x,st.objs)
  | none=>none
 | .alloc e=>match o.dst with
  | some k=>Bo C e k (C.τ e).zero st.objs
  | none=>none
 | .box e x=>match o.dst with
  | some k=>Bo C e k (st.ev C e x) st.objs
  | none=>none
 | .build t ps=>Ea C t (Xw C st 0 ps.toList) st.objs
 | .buildSlice t n ps=>match o.dst with
  | some k=>Vi C t n (Xw C st (C.elemT t) ps.toList) k st.objs
  | none=>none
 | .load t p=>De C t (st.ev C 0 p) st.objs
 | .store t p x=>D8 C t (st.ev C 0 p) (st.ev C t x) st.objs
 | .binOp op t x y _=>Xu st.objs (An C op t (st.ev C t x) (st.ev C t y))
 | .unOp op t x=>Xu st.objs (Zpr C op t (st.ev C t x))
 | .convert s t x=>S1 C s t (st.ev C s x) st.objs
 | .makeFunc (.func f) first caps=>match first.toList with
  | []=>some (True,mD f (Rw C st caps.toList []),st.objs)
  | _=>none
 | .makeSlice t l c=>match o.dst with
  | some k=>Um C t (st.ev C 0 l) (st.ev C 0 c) k st.objs
  | none=>none
 | .slice t x lo hi mx=>D9 C t (st.ev C t x) (tQ C st 0 lo) (tQ C st 0 hi) (tQ C st 0 mx) st.objs
 | .makeMap _ none=>match o.dst with
  | some k=>Px k st.objs
  | none=>none
 | .lookup t x i ok=>Mr C t (st.ev C 0 x) (st.ev C 0 i) ok st.objs
 | .mapUpdate t x i v=>Ul C t (st.ev C 0 x) (st.ev C 0 i) (st.ev C (C.mapE t) v) st.objs
 | .fieldAddr t p f=>Vh C t (st.ev C 0 p) f st.objs
 | .field t x f=>S0 C t (st.ev C t x) f st.objs
 | .indexAddr t x i=>Vg C t (st.ev C t x) (st.ev C 0 i) st.objs
 | .index t x i=>Sy C t (st.ev C t x) (st.ev C 0 i) st.objs
 | .extract x i=>G6 (st.ev C 0 x) i st.objs
 | .call c=>match c.callee with
  | .builtin .len=>match c.args.toList,c.argTypes.toList with
   | [x],[t]=>nZ C t (st.ev C t x) st.objs
   | _,_=>none
  | .builtin .append=>match c.args.toList,c.argTypes.toList,o.dst with
   | [s,x],[t,t'],some k=>if t=t' then Bn C t (st.ev C t s) (st.ev C t' x) k st.objs else none
   | _,_,_=>none
  | .builtin .min=>match c.args.toList,c.argTypes.toList with
   | [x,y],t::_=>Xu st.objs (qE C t (st.ev C t x) (st.ev C t y))
   | _,_=>none
  | .builtin .max=>match c.args.toList,c.argTypes.toList with
   | [x,y],t::_=>Xu st.objs (qF C t (st.ev C t x) (st.ev C t y))
   | _,_=>none
  | .value (.func f)=>match o.dst with
   | some k=>Fm C f (Rw C st c.args.toList c.argTypes.toList) k st.objs
   | none=>none
  | .value (.tmp f)=>match o.dst with
   | some k=>cK C (st.ev C 0 (.tmp f)) (Rw C st c.args.toList c.argTypes.toList) k st.objs
   | none=>none
  | _=>none
 | .nilCheck x=>qD (st.ev C 0 x) st.objs
 | _=>none
def AS.put (st:AS) (dst:Option Tmp) (x:AV) (o:Zz):AS:=⟨match dst with|some t=>st.tmps.set t x|none=>st.tmps,o⟩
def kI (C:Ctx) (o:Oper) (K:AS→Prop) (st:AS):Prop:=match Va C o st with
 | some (c,x,os)=>c∧K (st.put o.dst x os)
 | none=>False
def rk (rs:List Nat) (i:Nat):Nat:=rs.getD (i-90000) 0
mutual
def rnA (rs:List Nat):AV→AV
 | .d x=>.d x
 | .ref i f=>.ref (rk rs i) f
 | .rref i n e f=>.rref (rk rs i) n e f
 | .sl i n=>.sl (rk rs i) n
 | .sb i n f=>.sb (rk rs i) n f
 | .mpr i=>.mpr (rk rs i)
 | .agg l=>.agg (rnAs rs l)
 | .tup l=>.tup (rnAs rs l)
 | .clo f l=>.clo f (rnAs rs l)
 | .nils s=>.nils s
 | .dead=>.dead
 | .bad t=>.bad t
def rnAs (rs:List Nat):List AV→List AV
 | []=>[]
 | x::l=>rnA rs x::rnAs rs l
end
def J7 (rs:List Nat):Obj→Obj
 | .box ag cells=>.box ag (rnAs rs cells)
 | .fbox s x=>.fbox s x
 | .row s els k=>.row s els k
 | .mp ks vs f=>.mp ks vs f
 | .gone=>.gone
 | .hole i n e f x=>.hole i n e f x
 | .slot e f=>.slot e f
 | .brow t l=>.brow t l
def Zh (rs0:List Nat):List Nat→List Obj→Zz→Prop
 | _,[],_=>True
 | [],_::_,_=>False
 | k::ks,x::l,o=>lk o k=some (J7 rs0 x)∧Zh rs0 ks l o
def Zy:List Nat→Zz→Prop
 | [],_=>True
 | k::ks,o=>lk o k=none∧Zy ks o
def Xn (rs0:List Nat):List Nat→List Obj→Zz→Zz
 | k::ks,x::l,o=>Xn rs0 ks l (upd o k (J7 rs0 x))
 | _,_,o=>o
def BCon.rvr (bc:BCon) (rs:List Nat) (x:bc.X):AV:=match bc.out x with
 | none=>.d (bc.res x)
 | some j=>.mpr (rk rs (90000+j))
def Zar (bc:BCon) (args:List AV) (dst:Option Tmp) (K:AS→Prop) (st:AS):Prop :=
 ∃ (x:bc.X) (rs:List Nat),bc.ok x∧rnAs rs (bc.args x)=args∧rs.Nodup∧rs.length=(bc.post x).length∧Zh rs rs (bc.objs x) st.objs∧Zy (rs.drop (bc.objs x).length) st.objs ∧
  K (AS.put st dst (bc.rvr rs x) (Xn rs rs (bc.post x) st.objs))
def Zbb (C:Ctx) (o:Oper) (st:AS):Option (BCon×List AV):=match o.op with
 | .call c=>match c.callee with
  | .value (.func f)=>match C.Δ f with
   | some bc=>some (bc,Rw C st c.args.toList c.argTypes.toList)
   | none=>none
  | .value (.tmp f)=>match st.ev C 0 (.tmp f) with
   | .d (.clo g caps)=>match C.Δ g with
    | some bc=>some (bc,Rw C st c.args.toList c.argTypes.toList++caps.map .d)
    | none=>none
   | .clo g caps=>match C.Δ g with
    | some bc=>some (bc,Rw C st c.args.toList c.argTypes.toList++caps)
    | none=>none
   | _=>none
  | _=>none
 | _=>none
mutual
def AV.off (i:Nat):AV→Bool
 | .d _=>true
 | .ref j _=>j != i
 | .rref j _ _ _=>j != i
 | .sl j _=>j != i
 | .sb j _ _=>j != i
 | .mpr j=>j != i
 | .agg l=>offAll i l
 | .tup l=>offAll i l
 | .clo _ l=>offAll i l
 | .nils _=>true
 | .dead=>true
 | .bad _=>true
def offAll (i:Nat):List AV→Bool
 | []=>true
 | x::l=>x.off i&&offAll i l
end
def Vd (i:Nat):List AV→List AV
 | []=>[]
 | x::l=>cond (x.off i) x .dead::Vd i l
def W6 (i:Nat):Zz→Bool
 | []=>true
 | (_,.box _ cells)::r=>offAll i cells&&W6 i r
 | (_,.hole j _ _ _ x)::r=>(j != i&&x.off i)&&W6 i r
 | _::r=>W6 i r
def eE:List Nat→Nat→Bool
 | [],_=>false
 | x::l,d=>if x=d then true else eE l d
def nH (C:Ctx) (o:Oper) (st:AS):Option (Nat×Nat×D×Nat×List D×Nat):=match o.op,o.dst with
 | .slice t x none (some hi) none,some d=>if eE C.cuts d=true then match (C.τ t).kind,st.ev C t x,st.ev C 0 hi with
   | .slice e,.sl i n,.d b=>match lk st.objs i with
    | some (.row s els k)=>if s=C.size e then some (i,n,b,s,els,k) else none
    | _=>none
   | _,_,_=>none
  else none
 | _,_=>none
def wH:List Nat→Nat
 | []=>0
 | x::l=>if 300000≤x then x-300000 else wH l
def mU:List AV→Option (List AV)
 | x::y::r=>match x,y with
  | .d .nilp,.nils s=>if s=1 then some r else none
  | _,_=>none
 | _=>none
def Ms (C:Ctx) (e key:Nat) (x:AV) (o:Zz):Eo:=match C.ag e,lk o key with
 | some true,none=>match lk o (60000+key),mU (x.cells true (C.size e)) with
  | none,some r=>some (x.fits (C.size e)∧key<20000,.ref key 0,upd (upd o (60000+key) (.brow (wH C.cuts) [])) key (.box true (.bad e::.sl (60000+key) 0::r)))
  | _,_=>none
 | _,_=>none
def F5 (C:Ctx) (o:Oper) (st:AS):Eo:=match o.op with
 | .slice t x (some lo) none none=>match o.dst with
  | some d=>if eE C.cuts d=true then match (C.τ t).kind,st.ev C t x,st.ev C 0 lo with
    | .slice e,.sl i n,.d a=>match lk st.objs i with
     | some (.row s els _)=>if s=C.size e then some (n=els.length∧a.isAnyInt∧0≤a.i∧a.i<els.length,.sb i n a.i.toNat,st.objs) else none
     | _=>none
    | _,_,_=>none
   else none
  | none=>none
 | .slice t x none (some hi) none=>match o.dst with
  | some d=>if eE C.cuts (d+100000)=true then match (C.τ t).kind,st.ev C t x,st.ev C 0 hi with
    | .slice e,.sl i n,.d b=>match lk st.objs i,lk st.objs d with
     | some (.row s els k),none=>if s=C.size e then some (n=els.length∧b.isAnyInt∧0≤b.i∧b.i≤els.length∧(k:Int)≤b.i∧d<90000,.sl d b.i.toNat,upd (upd st.objs i .gone) d (.row s (els.take b.i.toNat) k)) else none
     | _,_=>none
    | _,_,_=>none
   else none
  | none=>none
 | .call c=>match c.callee with
  | .builtin .clear=>match c.args.toList,c.argTypes.toList with
   | [x],[t]=>match (C.τ t).kind,st.ev C t x with
    | .slice e,.sb i n f=>match lk st.objs i with
     | some (.row s els k)=>if s=C.size e∧s=1 then some (n=els.length∧k≤f,.d (.tup []),upd st.objs i (.row s (els.take f++List.replicate (els.length-f) (C.τ e).zd) k)) else none
     | _=>none
    | _,_=>none
   | _,_=>none
  | _=>none
 | .alloc e=>match o.dst with
  | some k=>if eE C.cuts (200000+e)=true then Ms C e k (C.τ e).zero st.objs else none
  | none=>none
 | .box e x=>match o.dst with
  | some k=>if eE C.cuts (200000+e)=true then Ms C e k (st.ev C e x) st.objs else none
  | none=>none
 | _=>none
def Ae (C:Ctx) (t:Nat) (x y:AV) (o:Zz):Option (Prop×List D):=match (C.τ t).kind,x,y with
 | .slice e,.d d,.nils _=>some (d.isList (C.size e),d.l)
 | .slice _,.sl i n,.nils _=>match lk o i with
  | some (.row _ els _)=>some (n=els.length,els)
  | _=>none
 | _,_,_=>none
def mK (C:Ctx) (o:Oper) (st:AS):Option (Prop×List D×Bool):=match o.op with
 | .binOp .eql t x y _=>match o.dst with
  | some d=>if eE C.cuts d=true then match Ae C t (st.ev C t x) (st.ev C t y) st.objs with
    | some (c,l)=>some (c,l,true)
    | none=>none
   else none
  | none=>none
 | .binOp .neq t x y _=>match o.dst with
  | some d=>if eE C.cuts d=true then match Ae C t (st.ev C t x) (st.ev C t y) st.objs with
    | some (c,l)=>some (c,l,false)
    | none=>none
   else none
  | none=>none
 | _=>none
def Ro (C:Ctx) (o:Oper) (K:AS→Prop) (st:AS):Prop:=match Zbb C o st with
 | some (bc,args)=>Zar bc args o.dst K st
 | none=>match nH C o st with
  | some (i,n,b,s,els,k)=>(n=els.length∧b.isAnyInt∧0≤b.i∧b.i≤els.length∧(k:Int)≤b.i∧W6 i st.objs=true∧i<90000) ∧
    K (AS.put ⟨Vd i st.tmps,st.objs⟩ o.dst (.sl i b.i.toNat) (upd st.objs i (.row s (els.take b.i.toNat) k)))
  | none=>match F5 C o st with
   | some (c,x,os)=>c∧K (st.put o.dst x os)
   | none=>match mK C o st with
    | some (c,l,b)=>c∧(l=[]→K (st.put o.dst (.d (.bool b)) st.objs))∧K (st.put o.dst (.d (.bool (!b))) st.objs)
    | none=>kI C o K st
inductive GV where
 | b (t:Nat) (v:Bool)
 | und
 | no
def Jp (ops:List Oper) (st:AS) (j:Nat):GV:=match ops[j]? with
 | some g=>match g.dst with
  | some t=>match st.tmps.getD t .dead with
   | .d (.bool b)=>.b t b
   | .d (.tup [])=>.und
   | _=>.no
  | none=>.no
 | none=>.no
def GV.skips:GV→Bool→Prop
 | .b _ v,want=>v≠want
 | .und,_=>True
 | .no,_=>False
def GV.runs:GV→Bool→Prop
 | .b _ v,want=>v=want
 | _,_=>False
def Zto (b:Bool) (P Q:Prop):Prop:=(b=true→P)∧(b=false→Q)
def Ztn (b want:Bool) (P Q:Prop):Prop:=(b=want→P)∧(b=(!want)→Q)
def Ztp (C:Ctx) (ops:List Oper) (o:Oper) (K:AS→Prop) (st:AS):Prop:=match o.guard with
 | none=>Ro C o K st
 | some (j,want)=>match Jp ops st j with
  | .b t b=>Ztn b want (Ro C o K { st with tmps:=st.tmps.set t (.d (.bool want)) })
    (K (AS.put { st with tmps:=st.tmps.set t (.d (.bool (!want))) } o.dst (.d (.tup [])) st.objs))
  | .und=>K (AS.put st o.dst (.d (.tup [])) st.objs)
  | .no=>False
def kH (C:Ctx) (ops:List Oper):List Oper→(AS→Prop)→AS→Prop
 | [],K,st=>K st
 | o::r,K,st=>Ztp C ops o (kH C ops r K) st
mutual
def AV.keys:AV→List Nat
 | .d _=>[]
 | .ref i _=>[i]
 | .rref i _ _ _=>[i,50000+i]
 | .sl i _=>[i]
 | .sb i _ _=>[i]
 | .mpr i=>[i]
 | .agg l=>keysAll l
 | .tup l=>keysAll l
 | .clo _ l=>keysAll l
 | .nils _=>[]
 | .dead=>[]
 | .bad _=>[]
def keysAll:List AV→List Nat
 | []=>[]
 | x::l=>x.keys++keysAll l
end
def Qt:Op→List Operand
 | .move x=>[x]
 | .assign x=>[x]
 | .pick c a b=>[c,a,b]
 | .box _ x=>[x]
 | .build _ ps=>ps.toList.map (·.2)
 | .buildSlice _ _ ps=>ps.toList.map (·.2)
 | .load _ p=>[p]
 | .store _ p x=>[p,x]
 | .binOp _ _ x y _=>[x,y]
 | .unOp _ _ x=>[x]
 | .convert _ _ x=>[x]
 | .makeFunc _ _ caps=>caps.toList
 | .makeSlice _ l c=>[l,c]
 | .slice _ x lo hi mx=>x::(lo.toList++hi.toList++mx.toList)
 | .fieldAddr _ p _=>[p]
 | .field _ x _=>[x]
 | .indexAddr _ x i=>[x,i]
 | .index _ x i=>[x,i]
 | .lookup _ x i _=>[x,i]
 | .mapUpdate _ x i v=>[x,i,v]
 | .extract x _=>[x]
 | .nilCheck x=>[x]
 | .call c=>match c.callee with
  | .value f=>f::c.args.toList
  | _=>c.args.toList
 | _=>[]
def Xe:Op→List Operand
 | .move _=>[]
 | o=>Qt o
def Pq:Op→Bool
 | .alloc _=>true
 | .box _ _=>true
 | .buildSlice _ _ _=>true
 | .makeSlice _ _ _=>true
 | .makeMap _ _=>true
 | .call c=>match c.callee with
  | .builtin .append=>true
  | .value _=>true
  | _=>false
 | _=>false
def M4:Op→Bool
 | .load ..=>true
 | .lookup ..=>true
 | .fieldAddr ..=>true
 | .indexAddr ..=>true
 | .move _=>true
 | .assign _=>true
 | .extract ..=>true
 | .nilCheck _=>true
 | .pick ..=>true
 | .build ..=>true
 | .field ..=>true
 | .index ..=>true
 | .binOp ..=>true
 | .unOp ..=>true
 | .convert ..=>true
 | .makeFunc ..=>true
 | .call c=>match c.callee with
  | .builtin .len=>true
  | _=>false
 | _=>false
def jD:Option Nat→Op→List Nat
 | some k,o=>if Pq o=true then [k] else []
 | none,_=>[]
def G7 (C:Ctx) (o:Oper) (st:AS):List Nat:=(keysAll ((Xe o.op).map (st.ev C 0))++jD o.dst o.op).map (· % 4096)
def Bj:List Edge→List Nat→Nat
 | [],_=>0
 | e::r,acc=>if Region.binds .any e=true then (2 ^ e.on ||| acc.getD e.on 0) ||| Bj r acc else Bj r acc
def E5:List Oper→List Nat→List Nat
 | [],acc=>acc
 | o::r,acc=>E5 r (acc++[Bj o.after.toList acc])
def Sv (ops:List Oper):List Nat:=E5 ops []
def rS:Operand→List Nat
 | .tmp t=>[t]
 | _=>[]
def I3 (ops:List Oper) (o:Oper):List Nat:=(Qt o.op).flatMap rS++(match o.guard with
 | some (j,_)=>match ops[j]? with
  | some g=>g.dst.toList
  | none=>[]
 | none=>[])
def Nl (ops:List Oper) (x y:Oper):Bool:=(match x.dst with
 | some d=>!(I3 ops y).contains d&&y.dst != some d
 | none=>true)&&(match y.dst with
 | some d=>!(I3 ops x).contains d
 | none=>true)
def F8:Nat→List Oper→Bool
 | _,[]=>true
 | i,o::r=>o.after.toList.all (fun e=>!Region.binds .any e||decide (e.on<i))&&F8 (i+1) r
def jY (ops:List Oper):Bool:=(List.range ops.length).all fun i=>(List.range i).all fun k=>((Sv ops).getD i 0).testBit k||(match ops[k]?,ops[i]? with
 | some x,some y=>Nl ops x y
 | _,_=>true)
def sS (ms:List Nat):List (Nat×List Nat×Bool)→Bool
 | []=>true
 | (i,fi,ri)::r=>r.all (fun q=>(ms.getD i 0).testBit q.1||fi.all (fun x=>!q.2.1.contains x)||(ri&&q.2.2))&&sS ms r
def Zn4 (ops:List Oper) (acc:List (Nat×List Nat×Bool)):Bool:=F8 0 ops&&jY ops&&sS (Sv ops) acc
def tI (bc:BCon) (args:List AV) (dst:Option Tmp) (K:List Nat→AS→Prop) (st:AS):Prop :=
 ∃ (x:bc.X) (rs:List Nat),bc.ok x∧rnAs rs (bc.args x)=args∧rs.Nodup∧rs.length=(bc.post x).length∧Zh rs rs (bc.objs x) st.objs∧Zy (rs.drop (bc.objs x).length) st.objs ∧
  K (rs.map (· % 4096)) (AS.put st dst (bc.rvr rs x) (Xn rs rs (bc.post x) st.objs))
def Lb (C:Ctx) (o:Oper) (K:List Nat→Bool→AS→Prop) (st:AS):Prop:=match Zbb C o st with
 | some (bc,args)=>tI bc args o.dst (fun fp=>K fp false) st
 | none=>match Va C o st with
  | some (c,x,os)=>c∧K (G7 C o st) (M4 o.op) (st.put o.dst x os)
  | none=>False
def Yc (C:Ctx) (ops:List Oper):Nat→List Oper→List (Nat×List Nat×Bool)→(AS→Prop)→AS→Prop
 | _,[],acc,K,st=>Zn4 ops acc=true∧K st
 | i,o::r,acc,K,st=>match o.guard with
  | none=>Lb C o (fun fp ro=>Yc C ops (i+1) r ((i,fp,ro)::acc) K) st
  | some (j,want)=>match Jp ops st j with
   | .b t b=>Ztn b want (Lb C o (fun fp ro=>Yc C ops (i+1) r ((i,fp,ro)::acc) K) { st with tmps:=st.tmps.set t (.d (.bool want)) })
     (Yc C ops (i+1) r acc K (AS.put { st with tmps:=st.tmps.set t (.d (.bool (!want))) } o.dst (.d (.tup [])) st.objs))
   | .und=>Yc C ops (i+1) r acc K (AS.put st o.dst (.d (.tup [])) st.objs)
   | .no=>False
def Ctx.one (C:Ctx):Ctx:=⟨C.τ,C.Γ,1,C.Δ,[],C.wr⟩
mutual
def AV.kept (o:Zz):AV→Prop
 | .d _=>True
 | .ref i _=>(lk o i).isSome=true
 | .rref i _ _ _=>(lk o i).isSome=true
 | .sl i _=>(lk o i).isSome=true
 | .sb i _ _=>(lk o i).isSome=true
 | .mpr i=>(lk o i).isSome=true
 | .agg l=>keptAll o l
 | .tup l=>keptAll o l
 | .clo _ l=>keptAll o l
 | .nils _=>True
 | .dead=>True
 | .bad _=>True
def keptAll (o:Zz):List AV→Prop
 | []=>True
 | x::l=>x.kept o∧keptAll o l
end
def dU (o1 o2:Zz):AV→AV→Prop
 | _,.dead=>True
 | .nils s,.sl i n=>n=0∧lk o1 i=none∧lk o2 i=some (.row s [] 0)
 | .nils s,.d (.list s' l)=>s'=s∧l=[]
 | x,y=>x=y∧y.kept o2
def Ds (o1 o2:Zz):List AV→List AV→Prop
 | [],[]=>True
 | x::l,y::l'=>dU o1 o2 x y∧Ds o1 o2 l l'
 | _,_=>False
def Xo (o1 o2:Zz):Option Obj→Obj→Prop
 | some (.box ag cs),.box ag' cs'=>ag=ag'∧Ds o1 o2 cs cs'
 | none,.row _ els k=>els=[]∧k=0
 | _,.slot _ _=>True
 | some (.hole i n e f x),.hole i' n' e' f' x'=>i=i'∧n=n'∧e=e'∧f=f'∧x=x'∧(lk o2 i).isSome=true∧x.kept o2
 | some o,o'=>o=o'
 | none,_=>False
def iT (o1 o2:Zz):Zz→Prop
 | []=>True
 | (i,o)::r=>Xo o1 o2 (lk o1 i) o∧iT o1 o2 r
def lK (o2:Zz):Zz→Prop
 | []=>True
 | (i,_)::r=>(90000≤i→(lk o2 i).isSome=true)∧lK o2 r
def Wk (s1 s2:AS):Prop:=Ds s1.objs s2.objs s1.tmps s2.tmps∧iT s1.objs s2.objs s2.objs∧lK s2.objs s1.objs
def Zsb:List Nat→AS→AS→Prop
 | [],s1,s2=>Wk s1 s2
 | k::ks,s1,s2=>match pur 60 (s1.tmps.getD k .dead) s1.objs with
  | some (c,y,os)=>c∧Zsb ks ⟨s1.tmps.set k (.d y),os⟩ s2
  | none=>False
def Zxf (s1 s2:AS):Prop:=∃ ks,Zsb ks s1 s2
def ren (i j:Nat):Zz→Zz
 | []=>[]
 | (x,o)::r=>(if x=i then j else x,o)::ren i j r
def V7 (o:Zz):Zz→Prop
 | []=>True
 | (_,.box _ cs)::r=>keptAll o cs∧V7 o r
 | (_,.fbox _ _)::r=>V7 o r
 | (_,.row _ _ _)::r=>V7 o r
 | (_,.mp _ _ _)::r=>V7 o r
 | (_,.gone)::r=>V7 o r
 | (_,.hole i _ _ _ x)::r=>(lk o i).isSome=true∧x.kept o∧V7 o r
 | (_,.slot _ _)::r=>V7 o r
 | (_,.brow _ _)::r=>V7 o r
def gF:Option Obj→Prop
 | some (.row _ _ _)=>True
 | _=>False
def Zuk (k i j:Nat) (s1 s2:AS):Prop:=match s2.tmps.getD k .dead with
 | .sl i' n=>i'=i∧Wk s1 ⟨s2.tmps.set k (.sl j n),ren i j s2.objs⟩∧lk s2.objs j=none∧gF (lk s2.objs i)∧i<90000∧j<90000∧keptAll s2.objs (s2.tmps.set k .dead)∧V7 s2.objs s2.objs
 | _=>False
def Zul (i:Nat) (s1 s2:AS):Prop:=match lk s1.objs (50000+i) with
 | some (.hole i' n e f x)=>match pur 60 x s1.objs with
  | some (c,d,os)=>match lk os i with
   | some (.row s els k)=>c∧i'=i∧n=els.length∧e<els.length∧f<s∧Wk ⟨s1.tmps,upd os i (.row s (els.set e ((el els e).setCell f d)) k)⟩ s2
   | _=>False
  | none=>False
 | _=>False
def Zsc (q i j:Nat) (s1 s2:AS):Prop:=match lk s2.objs q with
 | some (.box ag [.sl i' n])=>i'=i∧Wk s1 ⟨s2.tmps,upd (ren i j s2.objs) q (.box ag [.sl j n])⟩∧lk s2.objs j=none∧gF (lk s2.objs i)∧i<90000∧j<90000∧keptAll s2.objs s2.tmps∧V7 s2.objs (upd s2.objs q .gone)
 | _=>False
def Zum (s1 s2:AS):Prop:=Wk s1 s2∨(∃ k i j,Zuk k i j s1 s2)∨(∃ i,Zul i s1 s2)∨∃ q i j,Zsc q i j s1 s2
inductive AExit where
 | normal
 | exit (id:Nat)
 | ret
def Od (K:AS→Prop) (Q:AExit→AS→Prop):AExit→AS→Prop
 | .normal,st=>K st
 | e,st=>Q e st
def dC (id:Nat) (Q:AExit→AS→Prop):AExit→AS→Prop
 | .exit id',st=>if id'=id then Q .normal st else Q (.exit id') st
 | e,st=>Q e st
def V4 (C:Ctx):Code→(AExit→AS→Prop)→AS→Prop
 | .skip,Q,st=>Q .normal st
 | .region _ ops false,Q,st=>kH C ops.toList ops.toList (Q .normal) st
 | .region _ ops true,Q,st=>Yc C.one ops.toList 0 ops.toList [] (Q .normal) st
 | .seq x y,Q,st=>V4 C x (Od (V4 C y Q) Q) st
 | .cond c x y,Q,st=>match st.ev C 0 c with
  | .d b=>b.isBool∧Zto b.b (V4 C x Q st) (V4 C y Q st)
  | _=>False
 | .block id c,Q,st=>V4 C c (dC id Q) st
 | .loop c,Q,st=>∃ (α:Type) (inv:α→AS) (ok:α→Prop) (μ:α→Nat) (rel:AS→AS→Prop),(∀ s s',rel s s'→Zum s s')∧(∃ a,Zxf st (inv a)∧ok a)∧∀ a,ok a→V4 C c (Od (fun s'=>∃ a',rel s' (inv a')∧ok a'∧μ a'<μ a) Q) (inv a)
 | .exit id,Q,st=>Q (.exit id) st
 | .ret,Q,st=>Q .ret st
 | _,_,_=>False
def Zaq (C:Ctx) (c:Code) (Q:AExit→AS→Prop) (st:AS):Prop :=
 ∃ (α:Type) (inv:α→AS) (ok:α→Prop) (μ:α→Nat) (rel:AS→AS→Prop),(∀ s s',rel s s'→Zum s s')∧(∃ a,Zxf st (inv a)∧ok a)∧∀ a,ok a→V4 C c (Od (fun s'=>∃ a',rel s' (inv a')∧ok a'∧μ a'<μ a) Q) (inv a)
section
variable (C:Ctx) (Q:AExit→AS→Prop) (st:AS)
theorem oZ:V4 C .skip Q st=Q .normal st:=rfl
theorem dW (id:Nat) (ops:List Oper):V4 C (.region id ops.toArray false) Q st=kH C ops ops (Q .normal) st:=rfl
theorem oY (id:Nat) (ops:List Oper):V4 C (.region id ops.toArray true) Q st=Yc C.one ops 0 ops [] (Q .normal) st:=rfl
theorem tG (x y:Code):V4 C (.seq x y) Q st=V4 C x (Od (V4 C y Q) Q) st:=rfl
theorem oV (c:Operand) (x y:Code):V4 C (.cond c x y) Q st=(match st.ev C 0 c with
  | .d b=>b.isBool∧Zto b.b (V4 C x Q st) (V4 C y Q st)
  | _=>False):=rfl
theorem iF (id:Nat) (c:Code):V4 C (.block id c) Q st=V4 C c (dC id Q) st:=rfl
theorem oX (c:Code):V4 C (.loop c) Q st=Zaq C c Q st:=rfl
theorem oJ (id:Nat):V4 C (.exit id) Q st=Q (.exit id) st:=rfl
theorem tH:V4 C .ret Q st=Q .ret st:=rfl
end
def Less (G:Gh) (L:Nat→Option Obj) (G':Gh) (L':Nat→Option Obj):Prop :=
 ∀ i o',L' i=some o'→∀ o,L i=some o→G'.γ i=G.γ i∧G'.hd i=G.hd i∧(o'.isBox=true→o.isBox=true)∧(∀ s els k,o'=.row s els k→o=.row s els k)∧∀ t l,o'=.brow t l→o=.brow t l
mutual
theorem RA.less {F:Fix} {G G':Gh} {L:Nat→Option Obj} {o2:Zz} (g:Less G L G' (lk o2)):∀ {x:AV} {v:Value},x.kept o2→RA F G L x v→RA F G' (lk o2) x v
 | .d x,_,_,hr=>by simpa only [RA] using hr
 | .ref i f,v,hk,hr=>by
  simp only [RA,AV.kept] at hr hk ⊢;cases hl:L i with
  | none=>simp [hl] at hr
  | some o =>
   cases h2:lk o2 i with
   | none=>simp [h2] at hk
   | some o' =>
    obtain ⟨q1,q2,q3,_⟩:=g i o' h2 o hl;simp only [hl] at hr;refine ⟨hr.1,fun hb=>?_⟩;rw [q1];exact hr.2 (q3 hb)
 | .mpr i,v,hk,hr=>by
  simp only [RA,AV.kept] at hr hk ⊢;cases hl:L i with
  | none=>simp [hl] at hr
  | some o =>
   cases h2:lk o2 i with
   | none=>simp [h2] at hk
   | some o' =>
    obtain ⟨q1,q2,q3,_⟩:=g i o' h2 o hl;simp only [hl] at hr;refine ⟨hr.1,fun hb=>?_⟩;rw [q1];exact hr.2 (q3 hb)
 | .rref i n e f,v,hk,hr=>by
  simp only [RA,AV.kept] at hr hk ⊢;cases hl:L i with
  | none=>simp [hl] at hr
  | some o =>
   cases h2:lk o2 i with
   | none=>simp [h2] at hk
   | some o' =>
    obtain ⟨q1,q2,_,q4,q5⟩:=g i o' h2 o hl;cases o' with
    | row s els k =>
     have:=q4 s els k rfl;subst this;simp only [hl] at hr;simp only [q1];exact hr
    | _=>exact ⟨hr.1,trivial⟩
 | .sl i n,v,hk,hr=>by
  simp only [RA,AV.kept] at hr hk ⊢;cases hl:L i with
  | none=>simp [hl] at hr
  | some o =>
   cases h2:lk o2 i with
   | none=>simp [h2] at hk
   | some o' =>
    obtain ⟨q1,q2,_,q4,q5⟩:=g i o' h2 o hl;cases o' with
    | row s els k =>
     have:=q4 s els k rfl;subst this;simp only [hl] at hr;simp only [q2];exact hr
    | brow t l =>
     have:=q5 t l rfl;subst this;simp only [hl] at hr;simp only [q2];exact hr
    | _=>exact ⟨hr.1,trivial⟩
 | .sb i n f,v,hk,hr=>by
  simp only [RA,AV.kept] at hr hk ⊢;cases hl:L i with
  | none=>simp [hl] at hr
  | some o =>
   cases h2:lk o2 i with
   | none=>simp [h2] at hk
   | some o' =>
    obtain ⟨q1,q2,_,q4,q5⟩:=g i o' h2 o hl;cases o' with
    | row s els k =>
     have:=q4 s els k rfl;subst this;simp only [hl] at hr;simp only [q1,q2];exact hr
    | _=>exact ⟨hr.1,trivial⟩
 | .agg l,v,hk,hr=>by
  simp only [RA,AV.kept] at hr hk ⊢;obtain ⟨cs,h1,h2,h3⟩:=hr;exact ⟨cs,h1,RAs.less g hk h2,h3⟩
 | .tup l,v,hk,hr=>by
  simp only [RA,AV.kept] at hr hk ⊢;obtain ⟨cs,h1,h2⟩:=hr;exact ⟨cs,h1,RAs.less g hk h2⟩
 | .clo f l,v,hk,hr=>by
  simp only [RA,AV.kept] at hr hk ⊢;obtain ⟨cs,h1,h2⟩:=hr;exact ⟨cs,h1,RAs.less g hk h2⟩
 | .nils _,_,_,hr=>by simpa only [RA] using hr
 | .dead,_,_,_=>by simp only [RA]
 | .bad _,_,_,hr=>by simpa only [RA] using hr
theorem RAs.less {F:Fix} {G G':Gh} {L:Nat→Option Obj} {o2:Zz} (g:Less G L G' (lk o2)):∀ {l:List AV} {vs:List Value},keptAll o2 l→RAs F G L l vs→RAs F G' (lk o2) l vs
 | [],_,_,hr=>by simpa only [RAs] using hr
 | x::l,vs,hk,hr=>by
  simp only [RAs,keptAll] at hr hk ⊢;obtain ⟨v,r,h1,h2,h3⟩:=hr;exact ⟨v,r,h1,RA.less g hk.1 h2,RAs.less g hk.2 h3⟩
end
theorem aB {o1 o2:Zz}:∀ {r:Zz},iT o1 o2 r→∀ {i:Nat} {o:Obj},lk r i=some o→Xo o1 o2 (lk o1 i) o
 | [],_,i,o,h=>by simp [lk] at h
 | (j,p)::r,hw,i,o,h=>by
  simp only [iT] at hw;simp only [lk] at h;by_cases O1:i=j
  ·rw [if_pos O1] at h;injection h with h
   subst h;subst O1;exact hw.1
  ·rw [if_neg O1] at h;exact aB hw.2 h
def Hh (G:Gh) (o1:Zz):Gh:=⟨fun i=>if lk o1 i=none then none else G.γ i,fun i=>if lk o1 i=none then .slice none 0 0 else G.hd i⟩
theorem gV {G:Gh} {o1 o2:Zz} (h:iT o1 o2 o2):Less G (lk o1) (Hh G o1) (lk o2):=by
 intro i o' h2 o h1;have hw:=aB h h2;have hn:lk o1 i≠none:=by rw [h1];simp
 refine ⟨by simp [Hh,h1],by simp [Hh,h1],?_,?_,?_⟩
 ·intro hb;rw [h1] at hw;cases o'<;>cases o<;>simp_all [Xo,Obj.isBox]
 ·intro s els k he;subst he;rw [h1] at hw;cases o<;>simp_all [Xo]
 ·intro t l he;subst he;rw [h1] at hw;cases o<;>simp_all [Xo]
theorem yZ {o1 o2:Zz} {l l':List AV} {T:Nat} (h:Ds o1 o2 l l') (hT:l'.head?=some (.bad T)):l.head?=some (.bad T):=by
 cases l' with
 | nil=>simp at hT
 | cons y l' =>
  cases l with
  | nil=>simp [Ds] at h
  | cons x l =>
   simp only [Ds] at h;simp only [List.head?_cons,Zb] at hT ⊢;subst hT;have h1:=h.1;cases x<;>first|exact (by simpa only [dU] using h1:_∧_).1|(simp [dU] at h1)
theorem R4 {F:Fix} {G:Gh} {o1 o2:Zz} (h:iT o1 o2 o2):∀ {l l':List AV} {vs:List Value},Ds o1 o2 l l'→RAs F G (lk o1) l vs→RAs F (Hh G o1) (lk o2) l' vs
 | [],[],_,_,hr=>by simpa only [RAs] using hr
 | [],_::_,_,hw,_=>by simp [Ds] at hw
 | _::_,[],_,hw,_=>by simp [Ds] at hw
 | x::l,y::l',vs,hw,hr=>by
  simp only [Ds] at hw;simp only [RAs] at hr ⊢;obtain ⟨v,r,h1,h2,h3⟩:=hr;refine ⟨v,r,h1,?_,R4 h hw.2 h3⟩;have gen:∀ z:AV,x=z∧z.kept o2→RA F (Hh G o1) (lk o2) z v:=fun z hz=>by
   obtain ⟨rfl,hk⟩:=hz;exact RA.less (gV h) hk h2
  have Zbd:=hw.1;cases y with
  | dead=>simp [RA]
  | sl i n =>
   cases x with
   | nils s =>
    simp only [dU] at Zbd;obtain ⟨rfl,g1,g2⟩:=Zbd;simp only [RA] at h2;simp only [RA,g2];refine ⟨by rw [h2];rfl,Zk _,fun _=>?_⟩
    simp [Hh,g1,h2]
   | _=>exact gen _ (by simpa only [dU] using Zbd)
  | d z =>
   cases x with
   | nils s =>
    cases z with
    | list s' l' =>
     simp only [dU] at Zbd;obtain ⟨rfl,rfl⟩:=Zbd;simp only [RA] at h2;simp only [RA,R];exact ⟨none,0,by simpa using h2,by simp,by simp [maxLen],by simp⟩
    | _=>exact gen _ (by simpa only [dU] using Zbd)
   | _=>exact gen _ (by simpa only [dU] using Zbd)
  | _=>cases x<;>exact gen _ (by simpa only [dU] using Zbd)
section
variable {base:Nat} {pass:Nat→Prop} {F0:Anc} {m:Nat→Nat} {G:Gh} {st st':AS} {a:Act} {w:World}
theorem yJ {o2:Zz}:∀ {o1:Zz} {i:Nat} {o:Obj},lK o2 o1→lk o1 i=some o→90000≤i→(lk o2 i).isSome=true
 | [],_,_,_,h,_=>by simp [lk] at h
 | (j,p)::r,i,o,h,hi,hn=>by
  simp only [lK] at h;simp only [lk] at hi;by_cases O1:i=j
  ·subst O1;exact h.1 hn
  ·rw [if_neg O1] at hi;exact yJ h.2 hi hn
theorem SRg.weak (h:SRg base pass F0 m G st a w) (hw:Wk st st'):SRg base pass F0 m (Hh G st.objs) st' a w:=by
 obtain ⟨Zbd,Zpu,Zyp⟩:=hw;have K3:=gV (G:=G) Zpu;have back:∀ i o',lk st'.objs i=some o'→o'.owns=true→∀ b,(Hh G st.objs).γ i=some b→∃ o,lk st.objs i=some o∧o.owns=true∧G.γ i=some b:=by
  intro i o' hi ho b hb;have Cv:=aB Zpu hi;cases h1:lk st.objs i with
  | none=>simp [Hh,h1] at hb
  | some o =>
   refine ⟨o,rfl,?_,by simpa [Hh,h1] using hb⟩
   rw [h1] at Cv;cases o<;>cases o'<;>simp_all [Xo,Obj.owns]
 constructor
 ·exact h.defers
 ·exact R4 Zpu Zbd h.tmps
 ·intro i o' hi;have Cv:=aB Zpu hi;cases h1:lk st.objs i with
  | none =>
   rw [h1] at Cv;cases o' with
   | slot e f=>trivial
   | row s els k =>
    simp only [Xo] at Cv;obtain ⟨rfl,rfl⟩:=Cv;exact .inl ⟨by simp [Hh,h1],by simp [Hh,h1],rfl,rfl⟩
   | _=>simp [Xo] at Cv
  | some o =>
   obtain ⟨q1,q2,_,_⟩:=K3 i o' hi o h1;have hk:=h.objs i o h1;rw [h1] at Cv;cases o' with
   | box ag' cs' =>
    cases o with
    | box ag cs =>
     simp only [Xo] at Cv;simp only [Z8] at hk ⊢;obtain ⟨b,vs,t,g1,g2,g3,g4,g5⟩:=hk;exact ⟨b,vs,t,by rw [q1];exact g1,g2,R4 Zpu Cv.2 g3,g4,g5.1,fun T hT=>g5.2 T (yZ Cv.2 hT)⟩
    | _=>simp [Xo] at Cv
   | fbox s x =>
    cases o with
    | fbox s' x' =>
     simp only [Xo,Obj.fbox.injEq] at Cv;obtain ⟨rfl,rfl⟩:=Cv;simp only [Z8] at hk ⊢;rw [q1];exact hk
    | _=>simp [Xo] at Cv
   | row s els k =>
    cases o with
    | row s' els' k' =>
     simp only [Xo,Obj.row.injEq] at Cv;obtain ⟨rfl,rfl,rfl⟩:=Cv;simp only [Z8] at hk ⊢;rw [q1,q2];exact hk
    | _=>simp [Xo] at Cv
   | mp ks vs f =>
    cases o with
    | mp ks' vs' f' =>
     simp only [Xo,Obj.mp.injEq] at Cv;obtain ⟨rfl,rfl,rfl⟩:=Cv;simp only [Z8] at hk ⊢;rw [q1];exact hk
    | _=>simp [Xo] at Cv
   | gone=>trivial
   | slot e f=>trivial
   | brow t l =>
    cases o with
    | brow t' l' =>
     simp only [Xo,Obj.brow.injEq] at Cv;obtain ⟨rfl,rfl⟩:=Cv;simp only [Z8] at hk ⊢;rw [q1,q2];exact hk
    | _=>simp [Xo] at Cv
   | hole j n e f x =>
    cases o with
    | hole j' n' e' f' x' =>
     simp only [Xo] at Cv;obtain ⟨rfl,rfl,rfl,rfl,rfl,Zsx,Zy8⟩:=Cv;simp only [Z8] at hk ⊢;obtain ⟨b,off,v,h1,h2,h3,h4⟩:=hk;exact ⟨b,off,v,RA.less K3 (by simpa only [AV.kept] using Zsx) h1,h2,h3,RA.less K3 Zy8 h4⟩
    | _=>simp [Xo] at Cv
 ·intro i j oi oj b hi hj Zy1 Lr Zc3 Li;obtain ⟨pi,g1,g2,g3⟩:=back i oi hi Zy1 b Zc3;obtain ⟨pj,k1,k2,k3⟩:=back j oj hj Lr b Li;exact h.apart i j pi pj b g1 k1 g2 k2 g3 k3
 ·intro i o b hi ho hb;obtain ⟨p,g1,g2,g3⟩:=back i o hi ho b hb;exact h.mine i p b g1 g2 g3
 ·exact h.frame
 ·exact h.old
 ·exact h.new
 ·exact h.small
 ·intro i o ho;obtain ⟨h1,o1,h2,h3⟩:=h.lent i o ho;have hs:=yJ Zyp h2 h1;cases Zvl:lk st'.objs i with
  | none=>rw [Zvl] at hs;cases hs
  | some o2 =>
   refine ⟨h1,o2,rfl,h3.trans ?_⟩;have Cv:=aB Zpu Zvl;obtain ⟨q1,q2,_,_⟩:=K3 i o2 Zvl o1 h2;rw [h2] at Cv;refine ⟨fun hb=>⟨?_,q1⟩,fun s els' k' he=>?_,fun t l' he=>?_⟩;rotate_left 2
   ·subst he;cases o1 with
    | brow t' l =>
     simp only [Xo,Obj.brow.injEq] at Cv;obtain ⟨rfl,rfl⟩:=Cv;exact ⟨_,rfl,Zk _,fun _=>⟨q1,q2⟩⟩
    | _=>simp [Xo] at Cv
   ·cases o1<;>cases o2<;>simp_all [Xo,Obj.isBox]
   ·subst he;cases o1 with
    | row s' els k =>
     simp only [Xo,Obj.row.injEq] at Cv;obtain ⟨rfl,rfl,rfl⟩:=Cv;exact ⟨_,_,rfl,Zk _,fun _=>⟨q1,q2⟩⟩
    | _=>simp [Xo] at Cv
theorem qV {i j:Nat} (O1:i≠j):∀ {o:Zz},lk o j=none→∀ x,lk (ren i j o) x=if x=j then lk o i else if x=i then none else lk o x
 | [],_,x=>by simp [ren,lk]
 | (y,ob)::r,h,x=>by
  simp only [lk] at h;by_cases hy:j=y
  ·rw [if_pos hy] at h;cases h
  ·rw [if_neg hy] at h;have ih:=qV O1 h x;simp only [ren,lk,ih];by_cases h1:y=i
   ·subst h1;rw [if_pos rfl];by_cases h2:x=j
    ·rw [if_pos h2,if_pos h2,if_pos rfl]
    ·rw [if_neg h2,if_neg h2];by_cases h3:x=y
     ·rw [if_pos h3,if_neg h2,if_pos h3]
     ·rw [if_neg h3,if_neg h2,if_neg h3,if_neg h3]
   ·rw [if_neg h1];by_cases h2:x=j
    ·subst h2;rw [if_neg hy,if_pos rfl,if_pos rfl,if_neg (fun e=>h1 e.symm)]
    ·rw [if_neg h2,if_neg h2];by_cases h3:x=i
     ·subst h3;rw [if_pos rfl,if_pos rfl,if_neg (fun e=>h1 e.symm)]
     ·rw [if_neg h3,if_neg h3]
def Y0 (i j:Nat) (G:Gh):Gh:=⟨fun x=>if x=i then G.γ j else if x=j then none else G.γ x,fun x=>if x=i then G.hd j else if x=j then .slice none 0 0 else G.hd x⟩
theorem cQ {o2:Zz} {j:Nat} {p:Obj} {r:Zz} (hk:V7 o2 ((j,p)::r)):V7 o2 r:=by
 cases p<;>simp only [V7] at hk<;>first|exact hk|exact hk.2|exact hk.2.2
theorem cZ {o2:Zz}:∀ {r:Zz},V7 o2 r→∀ {i:Nat} {ag:Bool} {cs:List AV},lk r i=some (.box ag cs)→keptAll o2 cs
 | [],_,i,ag,cs,h=>by simp [lk] at h
 | (j,p)::r,hk,i,ag,cs,h=>by
  simp only [lk] at h;by_cases O1:i=j
  ·rw [if_pos O1] at h;injection h with h
   subst h;simp only [V7] at hk;exact hk.1
  ·rw [if_neg O1] at h;exact cZ (cQ hk) h
theorem D5 {o2:Zz}:∀ {r:Zz},V7 o2 r→∀ {i j n e f:Nat} {x:AV},lk r i=some (.hole j n e f x)→(lk o2 j).isSome=true∧x.kept o2
 | [],_,i,j,n,e,f,x,h=>by simp [lk] at h
 | (k,p)::r,hk,i,j,n,e,f,x,h=>by
  simp only [lk] at h;by_cases O1:i=k
  ·rw [if_pos O1] at h;injection h with h
   subst h;simp only [V7] at hk;exact ⟨hk.1,hk.2.1⟩
  ·rw [if_neg O1] at h;exact D5 (cQ hk) h
theorem tM {F:Fix} {G G':Gh} {L:Nat→Option Obj} {o2:Zz} (g:Less G L G' (lk o2)) {i j n:Nat} (hs:∀ v,RA F G L (.sl j n) v→RA F G' (lk o2) (.sl i n) v):∀ {l:List AV} {k:Nat} {vs:List Value},
  keptAll o2 (l.set k .dead)→l.getD k .dead=.sl i n→RAs F G L (l.set k (.sl j n)) vs→RAs F G' (lk o2) l vs
 | [],k,vs,_,h,_=>by simp at h
 | x::l,0,vs,hk,h,hr=>by
  simp only [List.getD_cons_zero] at h;subst h;simp only [Q2,keptAll,RAs] at hk hr ⊢;obtain ⟨v,r,h1,h2,h3⟩:=hr;exact ⟨v,r,h1,hs v h2,RAs.less g hk.2 h3⟩
 | x::l,k+1,vs,hk,h,hr=>by
  simp only [List.getD_cons_succ] at h;simp only [Q7,keptAll,RAs] at hk hr ⊢;obtain ⟨v,r,h1,h2,h3⟩:=hr;exact ⟨v,r,h1,RA.less g hk.1 h2,tM g hs hk.2 h h3⟩
theorem SRg.ren {k i j n:Nat} {s2:AS} (h:SRg base pass F0 m G ⟨s2.tmps.set k (.sl j n),ren i j s2.objs⟩ a w) (hk:s2.tmps.getD k .dead=.sl i n) (hj:lk s2.objs j=none) (hr:gF (lk s2.objs i))
  (hi9:i<90000) (hj9:j<90000) (lJ:keptAll s2.objs (s2.tmps.set k .dead)) (hko:V7 s2.objs s2.objs):SRg base pass F0 m (Y0 i j G) s2 a w:=by
 have O1:i≠j:=fun e=>by
  subst e;rw [hj] at hr;exact hr
 have hL:=qV O1 hj;have γi:(Y0 i j G).γ i=G.γ j:=by simp [Y0]
 have Zpi:(Y0 i j G).hd i=G.hd j:=by simp [Y0]
 have γx:∀ x,x≠i→x≠j→(Y0 i j G).γ x=G.γ x:=fun x h1 h2=>by simp [Y0,h1,h2]
 have xT:∀ x,x≠i→x≠j→(Y0 i j G).hd x=G.hd x:=fun x h1 h2=>by simp [Y0,h1,h2]
 have ne_j:∀ x o,lk s2.objs x=some o→x≠j:=fun x o hx e=>by rw [e,hj] at hx;cases hx
 have Zc5:∀ x,x≠i→x≠j→lk (Go.Am.ren i j s2.objs) x=lk s2.objs x:=fun x h1 h2=>by rw [hL x,if_neg h2,if_neg h1]
 have Zpo:lk (Go.Am.ren i j s2.objs) j=lk s2.objs i:=by rw [hL j,if_pos rfl]
 have K3:Less G (lk (Go.Am.ren i j s2.objs)) (Y0 i j G) (lk s2.objs):=by
  intro x o' h2 o h1;have Gx:=ne_j x o' h2;by_cases Ks:x=i
  ·subst Ks;rw [hL x,if_neg Gx,if_pos rfl] at h1;cases h1
  ·rw [Zc5 x Ks Gx,h2] at h1;injection h1 with h1
   subst h1;exact ⟨γx x Ks Gx,xT x Ks Gx,fun hb=>hb,fun s els k he=>he,fun t l he=>he⟩
 have cell:∀ v,RA ⟨w,m⟩ G (lk (Go.Am.ren i j s2.objs)) (.sl j n) v→RA ⟨w,m⟩ (Y0 i j G) (lk s2.objs) (.sl i n) v:=by
  intro v hv;simp only [RA] at hv ⊢;rw [Zpo] at hv;rw [Zpi];exact hv
 obtain ⟨σ,hσ⟩:∃ σ:Nat→Nat,σ=fun x=>if x=i then j else x:=⟨_,rfl⟩
 have hσL:∀ x o,lk s2.objs x=some o→lk (Go.Am.ren i j s2.objs) (σ x)=some o∧(Y0 i j G).γ x=G.γ (σ x):=by
  intro x o hx;have Gx:=ne_j x o hx;by_cases Ks:x=i
  ·subst Ks;have:σ x=j:=by rw [hσ];simp
   rw [this,Zpo,γi];exact ⟨hx,rfl⟩
  ·have:σ x=x:=by rw [hσ];simp [Ks]
   rw [this,Zc5 x Ks Gx,γx x Ks Gx];exact ⟨hx,rfl⟩
 constructor
 ·exact h.defers
 ·exact tM K3 cell lJ hk h.tmps
 ·intro x o hx;have Gx:=ne_j x o hx;by_cases Ks:x=i
  ·subst Ks;have X3:=h.objs j o (by rw [Zpo];exact hx)
   rw [hx] at hr;cases o with
   | row s els k0 =>
    simp only [Z8] at X3 ⊢;rw [γi,Zpi];exact X3
   | _=>exact hr.elim
  ·have X3:=h.objs x o (by rw [Zc5 x Ks Gx];exact hx)
   cases o with
   | box ag cs =>
    simp only [Z8] at X3 ⊢;obtain ⟨b,vs,t,g1,g2,g3,g4,g5⟩:=X3;exact ⟨b,vs,t,by rw [γx x Ks Gx];exact g1,g2,RAs.less K3 (cZ hko hx) g3,g4,g5⟩
   | fbox s y =>
    simp only [Z8] at X3 ⊢;rw [γx x Ks Gx];exact X3
   | row s els k0 =>
    simp only [Z8] at X3 ⊢;rw [γx x Ks Gx,xT x Ks Gx];exact X3
   | mp ks vs f =>
    simp only [Z8] at X3 ⊢;rw [γx x Ks Gx];exact X3
   | gone=>trivial
   | slot e f=>trivial
   | brow t l =>
    simp only [Z8] at X3 ⊢;rw [γx x Ks Gx,xT x Ks Gx];exact X3
   | hole j' n' e f y =>
    simp only [Z8] at X3 ⊢;obtain ⟨h1,h2⟩:=D5 hko hx;obtain ⟨b,off,v,g1,g2,g3,g4⟩:=X3;exact ⟨b,off,v,RA.less K3 (by simpa only [AV.kept] using h1) g1,g2,g3,RA.less K3 h2 g4⟩
 ·intro x y ox oy b hx hy Zvg Zvf Zs9 Zs8;obtain ⟨k1,k2⟩:=hσL x ox hx;obtain ⟨l1,l2⟩:=hσL y oy hy;rw [k2] at Zs9;rw [l2] at Zs8;have:=h.apart _ _ ox oy b k1 l1 Zvg Zvf Zs9 Zs8;have Gx:=ne_j x ox hx;have Zut:=ne_j y oy hy;rw [hσ] at this;simp only at this;by_cases h1:x=i
  ·by_cases h2:y=i
   ·rw [h1,h2]
   ·rw [if_pos h1,if_neg h2] at this;exact absurd this.symm Zut
  ·by_cases h2:y=i
   ·rw [if_neg h1,if_pos h2] at this;exact absurd this Gx
   ·rw [if_neg h1,if_neg h2] at this;exact this
 ·intro x o b hx ho hb;obtain ⟨k1,k2⟩:=hσL x o hx;exact h.mine _ o b k1 ho (by rw [←k2];exact hb)
 ·exact h.frame
 ·exact h.old
 ·exact h.new
 ·exact h.small
 ·intro x o ho;obtain ⟨h1,o1,h2,h3⟩:=h.lent x o ho;have Ks:x≠i:=fun e=>by omega
  have Gx:x≠j:=fun e=>by omega
  refine ⟨h1,o1,by rw [←Zc5 x Ks Gx];exact h2,h3.trans ?_⟩
  refine ⟨fun hb=>⟨hb,γx x Ks Gx⟩,fun s els' k' he=>⟨els',k',he,Zk _,fun _=>⟨γx x Ks Gx,xT x Ks Gx⟩⟩,fun t l' he=>⟨l',he,Zk _,fun _=>⟨γx x Ks Gx,xT x Ks Gx⟩⟩⟩
theorem SRg.renC {q i j n:Nat} {ag:Bool} {s2:AS} (h:SRg base pass F0 m G ⟨s2.tmps,upd (Go.Am.ren i j s2.objs) q (.box ag [.sl j n])⟩ a w) (hq:lk s2.objs q=some (.box ag [.sl i n])) (hj:lk s2.objs j=none) (hr:gF (lk s2.objs i))
  (hi9:i<90000) (hj9:j<90000) (lJ:keptAll s2.objs s2.tmps) (hko:V7 s2.objs (upd s2.objs q .gone)):SRg base pass F0 m (Y0 i j G) s2 a w:=by
 have O1:i≠j:=fun e=>by
  subst e;rw [hj] at hr;exact hr
 have Zyv:q≠i:=fun e=>by
  subst e;rw [hq] at hr;exact hr
 have Zyu:q≠j:=fun e=>by
  subst e;rw [hq] at hj;cases hj
 have hL:=qV O1 hj;obtain ⟨L1,Zwe⟩:=exq (lk (upd (Go.Am.ren i j s2.objs) q (.box ag [.sl j n])));have Zt5:L1 q=some (.box ag [.sl j n]):=by rw [←Zwe,Jb,if_pos rfl]
 have Zwi:∀ x,x≠q→L1 x=lk (Go.Am.ren i j s2.objs) x:=fun x hx=>by rw [←Zwe,Jb,if_neg hx]
 have γi:(Y0 i j G).γ i=G.γ j:=by simp [Y0]
 have Zpi:(Y0 i j G).hd i=G.hd j:=by simp [Y0]
 have γx:∀ x,x≠i→x≠j→(Y0 i j G).γ x=G.γ x:=fun x h1 h2=>by simp [Y0,h1,h2]
 have xT:∀ x,x≠i→x≠j→(Y0 i j G).hd x=G.hd x:=fun x h1 h2=>by simp [Y0,h1,h2]
 have ne_j:∀ x o,lk s2.objs x=some o→x≠j:=fun x o hx e=>by rw [e,hj] at hx;cases hx
 have Zc5:∀ x,x≠i→x≠j→x≠q→L1 x=lk s2.objs x:=fun x h1 h2 h3=>by rw [Zwi x h3,hL x,if_neg h2,if_neg h1]
 have Zpo:L1 j=lk s2.objs i:=by rw [Zwi j (Ne.symm Zyu),hL j,if_pos rfl]
 have Zte:L1 i=none:=by rw [Zwi i (Ne.symm Zyv),hL i,if_neg O1,if_pos rfl]
 have K3:Less G L1 (Y0 i j G) (lk s2.objs):=by
  intro x o' h2 o h1;have Gx:=ne_j x o' h2;by_cases Ks:x=i
  ·subst Ks;rw [Zte] at h1;cases h1
  ·by_cases xR:x=q
   ·subst xR;rw [Zt5] at h1;injection h1 with h1
    subst h1;rw [hq] at h2;injection h2 with h2
    subst h2;exact ⟨γx x Ks Gx,xT x Ks Gx,fun _=>rfl,fun s els k he=>(by cases he),fun t l he=>(by cases he)⟩
   ·rw [Zc5 x Ks Gx xR,h2] at h1;injection h1 with h1
    subst h1;exact ⟨γx x Ks Gx,xT x Ks Gx,fun hb=>hb,fun s els k he=>he,fun t l he=>he⟩
 have cell:∀ v,RA ⟨w,m⟩ G L1 (.sl j n) v→RA ⟨w,m⟩ (Y0 i j G) (lk s2.objs) (.sl i n) v:=by
  intro v hv;simp only [RA] at hv ⊢;rw [Zpo] at hv;rw [Zpi];exact hv
 obtain ⟨σ,hσ⟩:∃ σ:Nat→Nat,σ=fun x=>if x=i then j else x:=⟨_,rfl⟩
 have hσL:∀ x o,lk s2.objs x=some o→∃ o1,L1 (σ x)=some o1∧o1.owns=o.owns∧(Y0 i j G).γ x=G.γ (σ x):=by
  intro x o hx;have Gx:=ne_j x o hx;by_cases Ks:x=i
  ·subst Ks;have:σ x=j:=by rw [hσ];simp
   rw [this,Zpo,γi];exact ⟨o,hx,rfl,rfl⟩
  ·have:σ x=x:=by rw [hσ];simp [Ks]
   rw [this,γx x Ks Gx];by_cases xR:x=q
   ·subst xR;rw [hq] at hx;injection hx with hx
    subst hx;exact ⟨_,Zt5,rfl,rfl⟩
   ·exact ⟨o,by rw [Zc5 x Ks Gx xR];exact hx,rfl,rfl⟩
 have Zxm:=h.tmps;have Zcu:=h.objs;have Ztc:=h.apart;have Zsw:=h.mine;have Pj:=h.lent;simp only [Zwe] at Zxm Zcu Ztc Zsw Pj;constructor
 ·exact h.defers
 ·exact RAs.less K3 lJ Zxm
 ·intro x o hx;have Gx:=ne_j x o hx;by_cases Ks:x=i
  ·subst Ks;have X3:=Zcu j o (by rw [Zpo];exact hx)
   rw [hx] at hr;cases o with
   | row s els k0 =>
    simp only [Z8] at X3 ⊢;rw [γi,Zpi];exact X3
   | _=>exact hr.elim
  ·by_cases xR:x=q
   ·subst xR;rw [hq] at hx;injection hx with hx
    subst hx;have X3:=Zcu x _ Zt5;simp only [Z8] at X3 ⊢;obtain ⟨b,vs,t,g1,g2,g3,g4,g5⟩:=X3;refine ⟨b,vs,t,by rw [γx x Ks Gx];exact g1,g2,?_,g4,g5.1,fun T hT=>by simp at hT⟩
    simp only [RAs] at g3 ⊢;obtain ⟨v,r,k1,k2,k3⟩:=g3;exact ⟨v,r,k1,cell v k2,k3⟩
   ·have X3:=Zcu x o (by rw [Zc5 x Ks Gx xR];exact hx)
    have Zxk:lk (upd s2.objs q .gone) x=some o:=by rw [Jb,if_neg xR];exact hx
    cases o with
    | box ag cs =>
     simp only [Z8] at X3 ⊢;obtain ⟨b,vs,t,g1,g2,g3,g4,g5⟩:=X3;exact ⟨b,vs,t,by rw [γx x Ks Gx];exact g1,g2,RAs.less K3 (cZ hko Zxk) g3,g4,g5⟩
    | fbox s y =>
     simp only [Z8] at X3 ⊢;rw [γx x Ks Gx];exact X3
    | row s els k0 =>
     simp only [Z8] at X3 ⊢;rw [γx x Ks Gx,xT x Ks Gx];exact X3
    | mp ks vs f =>
     simp only [Z8] at X3 ⊢;rw [γx x Ks Gx];exact X3
    | gone=>trivial
    | slot e f=>trivial
    | brow t l =>
     simp only [Z8] at X3 ⊢;rw [γx x Ks Gx,xT x Ks Gx];exact X3
    | hole j' n' e f y =>
     simp only [Z8] at X3 ⊢;obtain ⟨h1,h2⟩:=D5 hko Zxk;obtain ⟨b,off,v,g1,g2,g3,g4⟩:=X3;exact ⟨b,off,v,RA.less K3 (by simpa only [AV.kept] using h1) g1,g2,g3,RA.less K3 h2 g4⟩
 ·intro x y ox oy b hx hy Zvg Zvf Zs9 Zs8;obtain ⟨o1,k1,k3,k2⟩:=hσL x ox hx;obtain ⟨o2,l1,l3,l2⟩:=hσL y oy hy;rw [k2] at Zs9;rw [l2] at Zs8;have:=Ztc _ _ o1 o2 b k1 l1 (k3.trans Zvg) (l3.trans Zvf) Zs9 Zs8;have Gx:=ne_j x ox hx;have Zut:=ne_j y oy hy;rw [hσ] at this;simp only at this;by_cases h1:x=i
  ·by_cases h2:y=i
   ·rw [h1,h2]
   ·rw [if_pos h1,if_neg h2] at this;exact absurd this.symm Zut
  ·by_cases h2:y=i
   ·rw [if_neg h1,if_pos h2] at this;exact absurd this Gx
   ·rw [if_neg h1,if_neg h2] at this;exact this
 ·intro x o b hx ho hb;obtain ⟨o1,k1,k3,k2⟩:=hσL x o hx;exact Zsw _ o1 b k1 (k3.trans ho) (by rw [←k2];exact hb)
 ·exact h.frame
 ·exact h.old
 ·exact h.new
 ·exact h.small
 ·intro x o ho;obtain ⟨h1,o1,h2,h3⟩:=Pj x o ho;have Ks:x≠i:=fun e=>by omega
  have Gx:x≠j:=fun e=>by omega
  by_cases xR:x=q
  ·subst xR;rw [Zt5] at h2;injection h2 with h2
   subst h2;refine ⟨h1,_,hq,h3.trans ⟨fun _=>⟨rfl,γx x Ks Gx⟩,fun s' els' k' he=>(by cases he),fun t l' he=>(by cases he)⟩⟩
  ·refine ⟨h1,o1,by rw [←Zc5 x Ks Gx xR];exact h2,h3.trans ?_⟩
   refine ⟨fun hb=>⟨hb,γx x Ks Gx⟩,fun s els' k' he=>⟨els',k',he,Zk _,fun _=>⟨γx x Ks Gx,xT x Ks Gx⟩⟩,fun t l' he=>⟨l',he,Zk _,fun _=>⟨γx x Ks Gx,xT x Ks Gx⟩⟩⟩
end
def To:TypeDesc→Bool
 | .struct _=>false
 | .array ..=>false
 | _=>true
def TK.is (P:Program) (τ:Nat→TI):TK→TypeDesc→Prop
 | .int k,d=>d=.int k
 | .bool,d=>d=.bool
 | .str,d=>d=.string
 | .slice e,d=>d=.slice e∧(τ e).kind.ag.isSome=true
 | .struct fs,d=>∃ fields:Array Field,d=.struct fields∧fs.length=fields.size∧∀ (j:Nat) (f:Field) (p:Nat×Nat),fields[j]?=some f→fs[j]?=some p →
   f.offset=p.1∧(P.info? f.type).map (·.size)=some p.2∧0<p.2∧(p.2=1→∃ d',P.underlying f.type=some d'∧To d'=true)
 | .array n e,d=>d=.array n e∧(τ e).kind.ag=some false
 | .ptr e,d=>d=.pointer e
 | .map k e,d=>d=.map k e
 | .func,d=>∃ a b c,d=.func a b c
 | .other,_=>True
def SK.desc:SK→TypeDesc
 | .int k=>.int k
 | .bool=>.bool
 | .str=>.string
def Zcb (P : Program) : Nat → List Field → List SK → Prop
  | _, [], [] => True
  | j, f :: fs, k :: ks => f.name ≠ "_" ∧ f.offset = j ∧ P.underlying f.type = some k.desc ∧ Zcb P (j + 1) fs ks
  | _, _, _ => False
def Zoo (P:Program) (t:Nat) (ks:List SK):Prop:=P.underlying t=some (.struct (P.fieldsOf t))∧P.stoodInHeld t=false∧P.eqGuardType P.depth t=false∧Zcb P 0 (P.fieldsOf t).toList ks
structure TyOk (P:Program) (τ:Nat→TI) (t:Nat):Prop where
 und:∃ d,P.underlying t=some d∧(τ t).kind.is P τ d
 info:∃ i z,P.info? t=some i∧i.size=(τ t).size∧i.bytes=(τ t).bytes∧i.zero=some z∧(∀ F G L,RA F G L (τ t).zero z)∧(∀ F,R F (τ t).zd z)∧z.cells.size=(τ t).size ∧
  ∀ u∈z.cells.toList,u.oneCell'=true
 pos:0<(τ t).size
 eqs:(τ t).eqk≠[]→Zoo P t (τ t).eqk
def J1 (P:Program) (τ:Nat→TI):Prop:=∀ t,(τ t).kind.ag.isSome=true→TyOk P τ t
section
variable {P:Program} {C:Ctx} {F:Fix} {G:Gh} {L:Nat→Option Obj} {w:World}
theorem J1.kind (h:J1 P C.τ) {t:Nat} {k:TK} (hk:(C.τ t).kind=k) (hs:k.ag.isSome=true):∃ d,P.underlying t=some d∧k.is P C.τ d:=by
 obtain ⟨d,h1,h2⟩:=(h t (by rw [hk];exact hs)).und
 exact ⟨d,h1,hk▸h2⟩
theorem nL {hint:Nat} {v:Value}:RA F G L (Ud C hint v) v:=by
 unfold Ud;split
 ·simp [RA]
 ·cases v with
  | int k n=>simp [Pb,RA,R]
  | bool b=>simp [Pb,RA,R]
  | string s=>simp [Pb,RA,R]
  | nilFunc=>simp [Pb,RA,R]
  | pointer a=>cases a<;>simp [Pb,RA,R]
  | map a=>cases a<;>simp [Pb,RA,R]
  | nilIface=>simp only [Pb,RA,R];rfl
  | _=>simp [Pb,RA]
theorem Xj {st:AS} {a:Act} (h:RAs F G L st.tmps a.tmps.toList) {hint:Nat} (x:Operand):RA F G L (st.ev C hint x) (a.eval x):=by
 cases x with
 | tmp t =>
  simp only [AS.ev,Act.eval];cases hx:st.tmps[t]? with
  | none=>rw [Zg,hx];simp [RA]
  | some y =>
   obtain ⟨u,hu,hr⟩:=h.at hx;rw [Zg,hx,Array.getD_eq_getD_getElem?];rw [Array.getElem?_toList] at hu;rw [hu];exact hr
 | const v=>exact nL
 | global g=>simp [AS.ev,RA]
 | func f=>simp [AS.ev,RA,R,Act.eval,Rs]
theorem R.of_int {x:D} {v:Value} {k:IntKind} (h:R F x v) (hk:x.isInt k):v=.int k x.i:=by
 cases x<;>simp_all [D.isInt,D.i,R]
theorem R.of_anyInt {x:D} {v:Value} (h:R F x v) (hk:x.isAnyInt):∃ k,v=.int k x.i:=by
 cases x<;>simp_all [D.isAnyInt,D.i,R]
theorem R.of_bool {x:D} {v:Value} (h:R F x v) (hk:x.isBool):v=.bool x.b:=by
 cases x<;>simp_all [D.isBool,D.b,R]
theorem R.of_str {x:D} {v:Value} (h:R F x v) (hk:x.isStr):v=.string ⟨x.s.toArray⟩:=by
 cases x<;>simp_all [D.isStr,D.s,R]
theorem R.of_list {x:D} {v:Value} {s:Nat} (h:R F x v) (hk:x.isList s):R F (.list s x.l) v:=by
 cases x<;>simp_all [D.isList,D.l]
theorem R.int {k:IntKind} {n:Int}:R F (.int k n) (.int k n):=by simp [R]
theorem R.bool {b:Bool}:R F (.bool b) (.bool b):=by simp [R]
theorem R.str {s:List UInt8}:R F (.str s) (.string ⟨s.toArray⟩):=by simp [R]
theorem Tm {k:IntKind} {n:Int} (h:eD k n):k.wrap n=n:=by
 unfold eD at h;cases k<;>simp [IntKind.min,IntKind.max,IntKind.signed,IntKind.bits] at h<;>simp [IntKind.wrap,IntKind.signed,IntKind.bits]<;>omega
theorem kF (a b:List UInt8):(⟨a.toArray⟩++⟨b.toArray⟩:ByteArray)=⟨(a++b).toArray⟩:=by
 apply ByteArray.ext;simp
def Xf (op:BinOp) (t:Nat) (ox oy:Operand) (vx vy:Value):Sem Value:=do
 eqGuard op t ox oy vx vy
 binOp op t vx vy
theorem Vm {op:BinOp} {t:Nat} {ox oy:Operand} {k:IntKind} {a b:Int} {r:Value} (h:(binOp op t (.int k a) (.int k b)).run P w=.ok r w) :
  (Xf op t ox oy (.int k a) (.int k b)).run P w=.ok r w:=by
 unfold Xf eqGuard;cases op<;>simpa using h
theorem dJ {op:BinOp} {t:Nat} {ox oy:Operand} {a b:ByteArray} {r:Value} (h:(binOp op t (.string a) (.string b)).run P w=.ok r w) :
  (Xf op t ox oy (.string a) (.string b)).run P w=.ok r w:=by
 unfold Xf eqGuard;cases op<;>simpa using h
theorem Oa {op:BinOp} {t:Nat} {ox oy:Operand} {a b:Bool} {r:Value} (h:(binOp op t (.bool a) (.bool b)).run P w=.ok r w) :
  (Xf op t ox oy (.bool a) (.bool b)).run P w=.ok r w:=by
 unfold Xf eqGuard;cases op<;>simpa using h
theorem jW {t:Nat} {a b:Bool} (h:P.underlying t=some .bool):(binOp .eql t (.bool a) (.bool b)).run P w=.ok (.bool (a==b)) w:=by
 have he:∀ d:Nat,(Op.equalIn (d+1) t (.bool a) (.bool b)).run P w=.ok (a==b) w:=fun d=>by simp [Op.equalIn,run_underlying h]
 simp only [binOp];simp [Op.equal,Op.maxDepth,he 9999]
theorem jV {t:Nat} {a b:Bool} (h:P.underlying t=some .bool):(binOp .neq t (.bool a) (.bool b)).run P w=.ok (.bool (!(a==b))) w:=by
 have he:∀ d:Nat,(Op.equalIn (d+1) t (.bool a) (.bool b)).run P w=.ok (a==b) w:=fun d=>by simp [Op.equalIn,run_underlying h]
 simp only [binOp];simp [Op.equal,Op.maxDepth,he 9999]
theorem Bf {t:Nat} {d:TypeDesc} (h:P.underlying t=some d) (hd:(match d with|.struct _|.array _ _=>true|_=>false)=false) {cs:Array Value} {off:Nat} {v:Value} (hv:cs[off]?=some v) (w:World) :
  (part t cs off).run P w=.ok v w:=by
 have hi:(isAgg t).run P w=.ok false w:=by
  simp only [isAgg,Sem.run_bind,run_underlying h,Result.andThen_ok];cases d<;>simp_all
 simp [part,hi,hv]
theorem F7 {F:Fix}:∀ {fs:List Field} {ks:List SK} {j:Nat} {pre pre':List Value} {l l':List D} {vs vs':List Value},Zcb P j fs ks→Sn ks l→Sn ks l'→Rs F l vs→Rs F l' vs'→pre.length=j→pre'.length=j →
  ∀ (d:Nat) (w:World),(Op.eqFields (d+1) (pre++vs).toArray (pre'++vs').toArray fs).run P w=.ok (U9 l l') w
 | [],[],j,pre,pre',l,l',vs,vs',_,h1,h2,_,_,_,_,d,w=>by
  cases l<;>simp only [Sn] at h1;cases l'<;>simp only [Sn] at h2;simp [Op.eqFields,U9]
 | [],_::_,_,_,_,_,_,_,_,h,_,_,_,_,_,_,_,_=>h.elim
 | _::_,[],_,_,_,_,_,_,_,h,_,_,_,_,_,_,_,_=>h.elim
 | f::fs,k::ks,j,pre,pre',l,l',vs,vs',h,h1,h2,h3,h4,e1,e2,d,w=>by
  cases l with
  | nil=>simp only [Sn] at h1
  | cons x l =>
   cases l' with
   | nil=>simp only [Sn] at h2
   | cons y l' =>
    obtain ⟨hn,ho,hu,hr⟩:=h;simp only [Sn] at h1 h2;simp only [Rs] at h3 h4;obtain ⟨v,r,rfl,hv,h3⟩:=h3;obtain ⟨v',r',rfl,hv',h4⟩:=h4;have ih:=F7 (pre:=pre++[v]) (pre':=pre'++[v']) hr h1.2 h2.2 h3 h4 (by simp [e1]) (by simp [e2]) d w
    have p1:(part f.type (pre++v::r).toArray f.offset).run P w=.ok v w:=Bf hu (by cases k<;>rfl) (by rw [ho];simp [←e1]) w
    have p2:(part f.type (pre'++v'::r').toArray f.offset).run P w=.ok v' w:=Bf hu (by cases k<;>rfl) (by rw [ho];simp [←e2]) w
    have pe:(Op.equalIn (d+1) f.type v v').run P w=.ok (D.eqb x y) w:=by
     cases k with
     | int k =>
      have g1:=h1.1;have g2:=h2.1;simp only [SK.is] at g1 g2;rw [hv.of_int g1,hv'.of_int g2];cases x<;>simp only [D.isInt] at g1;cases y<;>simp only [D.isInt] at g2;exact run_equalIn_int w d _ _ _ _ _ hu
     | bool =>
      have g1:=h1.1;have g2:=h2.1;simp only [SK.is] at g1 g2;rw [hv.of_bool g1,hv'.of_bool g2];cases x<;>simp only [D.isBool] at g1;cases y<;>simp only [D.isBool] at g2;exact run_equalIn_bool' w d _ _ _ hu
     | str =>
      have g1:=h1.1;have g2:=h2.1;simp only [SK.is] at g1 g2;rw [hv.of_str g1,hv'.of_str g2,run_equalIn_string (P:=P) w d f.type _ _ hu,ByteArray.toList_mk,ByteArray.toList_mk];cases x<;>simp only [D.isStr] at g1;cases y<;>simp only [D.isStr] at g2;simp [D.eqb,D.s]
    simp only [Op.eqFields,if_pos hn,Sem.run_bind,p1,p2,pe,Result.andThen_ok,Sem.run_ite];simp only [List.append_assoc,List.cons_append,List.nil_append] at ih;cases hb:D.eqb x y with
    | true=>simp [U9,hb,ih]
    | false=>simp [U9,hb]
theorem rA {t:Nat} {ks:List SK} (h:Zoo P t ks) {x y:D} {vx vy:Value} (hx:R F x vx) (hy:R F y vy) (h1:aI ks x) (h2:aI ks y) (ox oy:Operand) :
  (Xf .eql t ox oy vx vy).run P w=.ok (.bool (U9 (eL x) (eL y))) w∧(Xf .neq t ox oy vx vy).run P w=.ok (.bool (!U9 (eL x) (eL y))) w:=by
 obtain ⟨g1,g2,g3,g4⟩:=h;obtain ⟨l,rfl⟩:∃ l,x=.agg l:=by cases x<;>simp only [aI] at h1;exact ⟨_,rfl⟩
 obtain ⟨l',rfl⟩:∃ l,y=.agg l:=by cases y<;>simp only [aI] at h2;exact ⟨_,rfl⟩
 simp only [aI] at h1 h2;simp only [R] at hx hy;obtain ⟨cs,rfl,hx,_⟩:=hx;obtain ⟨cs',rfl,hy,_⟩:=hy;have he:(Op.equalIn 10000 t (.agg cs.toArray) (.agg cs'.toArray)).run P w=.ok (U9 l l') w:=by
  rw [run_equalIn_struct w 9999 t _ _ g1 g2];have:=F7 (P:=P) (pre:=[]) (pre':=[]) g4 h1 h2 hx hy rfl rfl 9998 w;simpa using this
 constructor
 ·unfold Xf;rw [Sem.run_bind,run_eqGuard_agg w _ t ox oy _ _ g3,Result.andThen_ok,run_eql_struct,he];rfl
 ·unfold Xf;rw [Sem.run_bind,run_eqGuard_agg w _ t ox oy _ _ g3,Result.andThen_ok,run_neq_struct,he];rfl
theorem dY {t e:Nat} {x:D} {v:Value} (h:P.underlying t=some (.slice e)) (hx:Zrf x) (hr:R F x v) (ox oy:Operand) :
  (Xf .eql t ox oy v (.slice none 0 0)).run P w=.ok (.bool false) w∧(Xf .neq t ox oy v (.slice none 0 0)).run P w=.ok (.bool true) w:=by
 obtain ⟨s,l,rfl⟩:∃ s l,x=.list s l:=by cases x<;>simp only [Zrf] at hx;exact ⟨_,_,rfl⟩
 simp only [Zrf] at hx;simp only [R] at hr;obtain ⟨A,c,rfl,_,_,hA⟩:=hr;obtain ⟨b,off,vs,rfl,_,_⟩:=hA hx;have he:∀ d:Nat,(Op.equalIn (d+1) t (.slice (some ⟨b,off,none⟩) l.length c) (.slice none 0 0)).run P w=.ok false w:=fun d=>by simp [Op.equalIn,run_underlying h]
 constructor
 ·unfold Xf;simp only [binOp];simp [eqGuard,Op.equal,Op.maxDepth,he 9999]
 ·unfold Xf;simp only [binOp];simp [eqGuard,Op.equal,Op.maxDepth,he 9999]
theorem xX (T:J1 P C.τ) {op:BinOp} {t:Nat} {x y:AV} {ox oy:Operand} {vx vy:Value} {c:Prop} {z:D} (h:An C op t x y=some (c,z)) (hc:c) (hx:RA F G L x vx) (hy:RA F G L y vy) :
  ∃ v,(Xf op t ox oy vx vy).run P w=.ok v w∧R F z v:=by
 cases x with
 | d x =>
  cases y with
  | d y =>
   simp only [RA] at hx hy;cases hk:(C.τ t).kind with
   | int k =>
    cases op<;>simp only [An,hk,Zb,Zc,reduceCtorEq] at h
    case shr =>
     cases y with
     | int yk n =>
      simp only [Zb,Zc] at h;obtain ⟨rfl,rfl⟩:=h;obtain ⟨h1,h2,h3⟩:=hc;have e1:=hx.of_int h1;simp only [R] at hy;subst e1;subst hy;refine ⟨_,?_,R.int⟩;have hm:min n.toNat k.bits=n.toNat:=by omega
      have hn:¬ n<0:=by omega
      simp [Xf,eqGuard,binOp,Op.shift,hn,hm]
     | _=>simp at h
    case add =>
     cases hw:C.wr with
     | false =>
      rw [hw] at h;simp only [Zb,Zc] at h;obtain ⟨rfl,rfl⟩:=h;obtain ⟨h1,h2,h3⟩:=hc;rw [hx.of_int h1,hy.of_int h2];exact ⟨_,Vm (by simp [binOp,Op.intArith,Tm h3]),R.int⟩
     | true =>
      rw [hw] at h;simp only [Zb,Zc] at h;obtain ⟨rfl,rfl⟩:=h;obtain ⟨h1,h2⟩:=hc;rw [hx.of_int h1,hy.of_int h2];exact ⟨_,Vm (by simp [binOp,Op.intArith,Zth]),R.int⟩
    case sub =>
     cases hw:C.wr with
     | false =>
      rw [hw] at h;simp only [Zb,Zc] at h;obtain ⟨rfl,rfl⟩:=h;obtain ⟨h1,h2,h3⟩:=hc;rw [hx.of_int h1,hy.of_int h2];exact ⟨_,Vm (by simp [binOp,Op.intArith,Tm h3]),R.int⟩
     | true =>
      rw [hw] at h;simp only [Zb,Zc] at h;obtain ⟨rfl,rfl⟩:=h;obtain ⟨h1,h2⟩:=hc;rw [hx.of_int h1,hy.of_int h2];exact ⟨_,Vm (by simp [binOp,Op.intArith,Zth]),R.int⟩
    all_goals
     obtain ⟨rfl,rfl⟩:=h
    case mul =>
     obtain ⟨h1,h2,h3⟩:=hc;rw [hx.of_int h1,hy.of_int h2];exact ⟨_,Vm (by simp [binOp,Op.intArith,Tm h3]),R.int⟩
    case quo =>
     obtain ⟨h1,h2,h3,h4⟩:=hc;rw [hx.of_int h1,hy.of_int h2];exact ⟨_,Vm (by simp [binOp,Op.intDiv,h3,Tm h4]),R.int⟩
    case rem =>
     obtain ⟨h1,h2,h3⟩:=hc;rw [hx.of_int h1,hy.of_int h2];exact ⟨_,Vm (by simp [binOp,Op.intDiv,h3]),R.int⟩
    all_goals
     obtain ⟨h1,h2⟩:=hc;rw [hx.of_int h1,hy.of_int h2];exact ⟨_,Vm (by simp only [binOp,Op.intCmp];simp [Jw,Ju]),R.bool⟩
   | str =>
    cases op<;>simp only [An,hk,Zb,Zc,reduceCtorEq] at h
    all_goals
     obtain ⟨rfl,rfl⟩:=h
    case add =>
     obtain ⟨h1,h2,h3⟩:=hc;rw [hx.of_str h1,hy.of_str h2];refine ⟨_,dJ (r:=.string ⟨(x.s++y.s).toArray⟩) ?_,R.str⟩;have hs:¬ ((((⟨x.s.toArray⟩:ByteArray).size+(⟨y.s.toArray⟩:ByteArray).size:Nat):Int) > IntKind.i64.max):=by
      simp [ByteArray.size,IntKind.max,IntKind.signed,IntKind.bits];omega
     simp only [binOp,Op.stringOp];rw [if_neg hs,kF];rfl
    all_goals
     obtain ⟨h1,h2⟩:=hc;rw [hx.of_str h1,hy.of_str h2];exact ⟨_,dJ (by simp only [binOp,Op.stringOp,ByteArray.toList_mk];simp),R.bool⟩
   | bool =>
    obtain ⟨d,hd,Xb⟩:=T.kind hk rfl;simp only [TK.is] at Xb;subst Xb;cases op<;>simp only [An,hk,Zb,Zc,reduceCtorEq] at h
    all_goals
     obtain ⟨rfl,rfl⟩:=h;obtain ⟨h1,h2⟩:=hc;rw [hx.of_bool h1,hy.of_bool h2]
    ·exact ⟨_,Oa (jW hd),R.bool⟩
    ·exact ⟨_,Oa (jV hd),R.bool⟩
   | struct fs =>
    have Gk:=(T t (by rw [hk];rfl)).eqs
    cases op<;>simp only [An,hk,reduceCtorEq] at h
    all_goals
     split at h
     ·cases h
     ·next hq =>
      simp only [Zb,Zc] at h;obtain ⟨rfl,rfl⟩:=h;obtain ⟨h1,h2⟩:=hc;have hb:=rA (w:=w) (Gk (fun e=>by simp_all)) hx hy h1 h2 ox oy
      first|exact ⟨_,hb.1,R.bool⟩|exact ⟨_,hb.2,R.bool⟩
   | _=>simp [An,hk] at h
  | nils q =>
   simp only [RA] at hx hy;subst hy;cases hk:(C.τ t).kind with
   | slice e =>
    obtain ⟨d,hd,Xb⟩:=T.kind hk rfl;simp only [TK.is] at Xb;obtain ⟨rfl,_⟩:=Xb;cases op<;>simp only [An,hk,Zb,Zc,reduceCtorEq] at h
    all_goals
     obtain ⟨rfl,rfl⟩:=h
    ·exact ⟨_,(dY hd hc hx ox oy).1,R.bool⟩
    ·exact ⟨_,(dY hd hc hx ox oy).2,R.bool⟩
   | _=>simp [An,hk] at h
  | _=>simp [An] at h
 | _=>simp [An] at h
theorem yW {op:UnOp} {t:Nat} {x:AV} {vx:Value} {c:Prop} {z:D} (h:Zpr C op t x=some (c,z)) (hc:c) (hx:RA F G L x vx) :
  ∃ v,(Op.unary op vx).run P w=.ok v w∧R F z v:=by
 cases x with
 | d x =>
  simp only [RA] at hx;cases hk:(C.τ t).kind<;>cases op<;>simp only [Zpr,hk,Zb,Zc,reduceCtorEq] at h
  ·obtain ⟨rfl,rfl⟩:=h;obtain ⟨h1,h2⟩:=hc;rw [hx.of_int h1];have e:=Tm h2;rw [Int.zero_sub] at e;exact ⟨.int ‹IntKind› (-x.i),by simp [Op.unary,Op.intArith,e],by rw [Int.zero_sub];exact R.int⟩
  ·obtain ⟨rfl,rfl⟩:=h;rw [hx.of_bool hc];exact ⟨_,by simp [Op.unary],R.bool⟩
 | _=>simp [Zpr] at h
theorem vW {t:Nat} {x y:AV} {vx vy:Value} {c:Prop} {z:D} (h:qE C t x y=some (c,z)) (hc:c) (hx:RA F G L x vx) (hy:RA F G L y vy) (ts:Array TypeId) (ty:TypeId) :
  ∃ v,(Builtin.min_ ts ty #[vx,vy]).run P w=.ok v w∧R F z v:=by
 cases x with
 | d x =>
  cases y with
  | d y =>
   simp only [RA] at hx hy;cases hk:(C.τ t).kind<;>simp only [qE,hk,Zb,Zc,reduceCtorEq] at h;obtain ⟨rfl,rfl⟩:=h;obtain ⟨h1,h2⟩:=hc;rw [hx.of_int h1,hy.of_int h2];exact ⟨_,by simp [Builtin.min_,Builtin.min2,Zbv],R.int⟩
  | _=>simp [qE] at h
 | _=>simp [qE] at h
theorem vK {t:Nat} {x y:AV} {vx vy:Value} {c:Prop} {z:D} (h:qF C t x y=some (c,z)) (hc:c) (hx:RA F G L x vx) (hy:RA F G L y vy) (ts:Array TypeId) (ty:TypeId) :
  ∃ v,(Builtin.max_ ts ty #[vx,vy]).run P w=.ok v w∧R F z v:=by
 cases x with
 | d x =>
  cases y with
  | d y =>
   simp only [RA] at hx hy;cases hk:(C.τ t).kind<;>simp only [qF,hk,Zb,Zc,reduceCtorEq] at h;obtain ⟨rfl,rfl⟩:=h;obtain ⟨h1,h2⟩:=hc;rw [hx.of_int h1,hy.of_int h2];exact ⟨_,by simp [Builtin.max_,Builtin.max2,E3],R.int⟩
  | _=>simp [qF] at h
 | _=>simp [qF] at h
theorem rY (T:J1 P C.τ) {s t:Nat} {x:AV} {vx:Value} {c:Prop} {z:D} (h:Df C s t x=some (c,z)) (hc:c) (hx:RA F G L x vx) :
  ∃ v,(convert s t vx).run P w=.ok v w∧R F z v:=by
 cases x with
 | d x =>
  simp only [RA] at hx;cases hk:(C.τ s).kind with
  | int k =>
   cases hk':(C.τ t).kind with
   | int k' =>
    simp only [Df,hk,hk',Zb,Zc] at h;obtain ⟨rfl,rfl⟩:=h;obtain ⟨h1,h2⟩:=hc;obtain ⟨d,hd,Xb⟩:=T.kind hk rfl;obtain ⟨d',hd',hkd'⟩:=T.kind hk' rfl;simp only [TK.is] at Xb hkd';subst Xb;subst hkd';rw [hx.of_int h1];exact ⟨_,by simp [convert,run_underlying hd,run_underlying hd',Conv.intToInt,Tm h2],R.int⟩
   | _=>simp [Df,hk,hk'] at h
  | str =>
   cases hk':(C.τ t).kind with
   | str =>
    simp only [Df,hk,hk',Zb,Zc] at h;obtain ⟨rfl,rfl⟩:=h;obtain ⟨d,hd,Xb⟩:=T.kind hk rfl;obtain ⟨d',hd',hkd'⟩:=T.kind hk' rfl;simp only [TK.is] at Xb hkd';subst Xb;subst hkd';have e:=hx.of_str hc;rw [e] at hx ⊢;exact ⟨_,by simp [convert,run_underlying hd,run_underlying hd'],hx⟩
   | _=>simp [Df,hk,hk'] at h
  | _=>simp [Df,hk] at h
 | _=>simp [Df] at h
end
theorem Yq {w:World} {b:Nat} {cs:Array Value} {t:TypeId} {f:Nat×Nat} (h:w.heap[b]?=some (.cells cs t f)) (j:Nat):w.cell? ⟨b,j,none⟩=cs[j]?:=by
 simp [World.cell?,h]
section
variable {base:Nat} {pass:Nat→Prop} {F0:Anc} {m:Nat→Nat} {G:Gh} {st:AS} {a:Act} {w:World}
theorem Fix.le_bump {b n:Nat} (h:m b≤n):Fix.le ⟨w,m⟩ ⟨w,fun x=>if x=b then n else m x⟩:=by
 refine ⟨fun x=>⟨?_,fun _ _=>rfl⟩,fun _ _ _ _ h=>h⟩;show m x≤if x=b then n else m x
 split
 ·next e=>subst e;exact h
 ·exact Zk _
theorem SRg.bump (h:SRg base pass F0 m G st a w) {i b n:Nat} {o o':Obj} (hi:lk st.objs i=some o) (ho:o.owns=true) (hb:G.γ i=some b) (hn:m b≤n)
  (hbox:o'.isBox=true→o.isBox=true) (dI:∀ s els' k',o'=.row s els' k'→∃ k,o=.row s els' k)
  (Xr:Fix.le ⟨w,m⟩ ⟨w,fun x=>if x=b then n else m x⟩→Wc G (lk st.objs) G (lk (upd st.objs i o'))→Z8 ⟨w,fun x=>if x=b then n else m x⟩ G (lk (upd st.objs i o')) i o') (Ls:∀ t l,o'≠.brow t l:=by simp) :
  Wc G (lk st.objs) G (lk (upd st.objs i o'))∧SRg base pass F0 (fun x=>if x=b then n else m x) G { st with objs:=upd st.objs i o' } a w:=by
 have hF:=Fix.le_bump (w:=w) hn;have hm:=h.mine i o b hi ho hb;refine h.obj i o' hF (fun _ _=>⟨rfl,rfl⟩) ?_ (Xr hF) ?_ ?_ (Frame.refl _ _ _) ?_ ?_ Ls
 ·intro o1 h1;rw [hi] at h1;injection h1 with h1
  subst h1;refine ⟨fun hx=>⟨hbox hx,rfl⟩,fun s els' k' he=>?_⟩;obtain ⟨k,hk⟩:=dI s els' k' he;exact ⟨els',k,hk,Zk _,fun _=>⟨rfl,rfl⟩⟩
 ·intro j oj Yd hj Lr b' hb';refine ⟨rfl,?_⟩;have:b'≠b:=fun e=>Yd (h.apart j i oj o b hj hi Lr ho (e▸hb') hb);simp only [if_neg this]
 ·intro _ b' hb';rw [hb] at hb';injection hb' with hb'
  subst hb';exact ⟨hm.1,hm.2,fun j oj Yd hj Lr e=>Yd (h.apart j i oj o b hj hi Lr ho e hb)⟩
 ·intro b' Qd hp;have:b'≠b:=fun e=>by
   subst e;rcases hm.2 with h1|h1
   ·omega
   ·exact hp h1
  simp only [if_neg this]
 ·intro b' Nd;have:b'≠b:=by have:=hm.1;omega
  simp only [if_neg this];exact h.new b' Nd
theorem Zoj {F:Fix} {xs:List D} {cs:Array Value} (h:Rs F xs cs.toList) (h1:∀ u∈cs.toList,u.oneCell'=true):R F (.agg xs) (.agg cs):=by
 simp only [R];exact ⟨cs.toList,by simp,h,h1⟩
structure PurOk (G:Gh) (o o':Zz) (F F':Fix):Prop where
 le:F.le F'
 goes:Wc G (lk o) G (lk o')
 sub:∀ i oi,lk o' i=some oi→oi.owns=true→∃ oj,lk o i=some oj∧oj.owns=true
 same:∀ b,(∀ i oi,lk o i=some oi→oi.owns=true→G.γ i≠some b)→F'.m b=F.m b
theorem PurOk.refl (G:Gh) (o:Zz) (F:Fix):PurOk G o o F F:=⟨Fix.le_refl _,Wc.refl _ _,fun i oi h ho=>⟨oi,h,ho⟩,fun _ _=>rfl⟩
theorem PurOk.trans {o o1 o2:Zz} {F F1 F2:Fix} (h:PurOk G o o1 F F1) (k:PurOk G o1 o2 F1 F2):PurOk G o o2 F F2:=by
 refine ⟨Fix.le_trans h.le k.le,?_,?_,?_⟩
 ·intro j o hj;obtain ⟨oa,a1,a2,a3⟩:=h.goes j o hj;obtain ⟨ob,b1,b2,b3⟩:=k.goes j oa a1;refine ⟨ob,b1,fun hb=>⟨(a2 (b2 hb).1).1,rfl⟩,fun s' els' k' he=>?_,fun t l' he=>?_⟩
  ·obtain ⟨els1,kk1,e1,e2,_⟩:=b3.1 s' els' k' he;obtain ⟨els2,kk2,f1,f2,_⟩:=a3.1 s' els1 kk1 e1;exact ⟨els2,kk2,f1,Nat.le_trans f2 e2,fun _=>⟨rfl,rfl⟩⟩
  ·obtain ⟨l1,e1,e2,_⟩:=b3.2 t l' he;obtain ⟨l2,f1,f2,_⟩:=a3.2 t l1 e1;exact ⟨l2,f1,Nat.le_trans f2 e2,fun _=>⟨rfl,rfl⟩⟩
 ·intro i oi hi ho;obtain ⟨oj,hj,Lr⟩:=k.sub i oi hi ho;exact h.sub i oj hj Lr
 ·intro b hb;rw [k.same b (fun i oi hi ho=>by
   obtain ⟨oj,hj,Lr⟩:=h.sub i oi hi ho;exact hb i oj hj Lr),h.same b hb]
theorem O4 {o:Zz} {i:Nat} {oi o':Obj} (hi:lk o i=some oi) (ho:oi.owns=true):∀ j oj,lk (upd o i o') j=some oj→oj.owns=true→∃ ok,lk o j=some ok∧ok.owns=true:=by
 intro j oj hj Lr;rw [Jb] at hj;by_cases Yd:j=i
 ·subst Yd;exact ⟨oi,hi,ho⟩
 ·rw [if_neg Yd] at hj;exact ⟨oj,hj,Lr⟩
theorem R7 {o:Zz} {i b n:Nat} {oi:Obj} (hi:lk o i=some oi) (ho:oi.owns=true) (hb:G.γ i=some b):∀ b',(∀ i oi,lk o i=some oi→oi.owns=true→G.γ i≠some b') →
  (fun x=>if x=b then n else m x) b'=m b':=by
 intro b' h;have:b'≠b:=fun e=>h i oi hi ho (e▸hb);simp [this]
theorem I6 {F:Fix} {L:Nat→Option Obj} {x:AV} {d:D} {v:Value} (h:cC x=some d) (hr:RA F G L x v):R F d v:=by
 cases x with
 | d x =>
  simp only [cC,Zb] at h;subst h;simpa only [RA] using hr
 | nils s =>
  simp only [cC,Zb] at h;subst h;simp only [RA] at hr;simp only [R];exact ⟨none,0,by simpa using hr,by simp,by simp [maxLen],by simp⟩
 | _=>simp [cC] at h
theorem Fw {F:Fix} {L:Nat→Option Obj}:∀ {l:List AV} {ds:List D} {vs:List Value},S5 l=some ds→RAs F G L l vs→Rs F ds vs
 | [],ds,vs,h,hr=>by
  simp only [S5,Zb] at h;subst h;simpa only [Rs,RAs] using hr
 | x::l,ds,vs,h,hr=>by
  simp only [S5] at h;split at h
  ·next y hy =>
   split at h
   ·next ys Zpt =>
    simp only [Zb] at h;subst h;simp only [RAs] at hr;obtain ⟨v,r,rfl,g2,g3⟩:=hr;simp only [Rs];exact ⟨v,r,rfl,I6 hy g2,Fw Zpt g3⟩
   ·cases h
  ·cases h
theorem lM {i k:Nat} {c:Prop} {y:D} {os:Zz} {st:AS} {m:Nat→Nat} {v:Value} (h:SRg base pass F0 m G st a w) (hp:Lm (.sl i k) st.objs=some (c,y,os)) (hc:c) (hr:RA ⟨w,m⟩ G (lk st.objs) (.sl i k) v) :
  ∃ m',SRg base pass F0 m' G ⟨st.tmps,os⟩ a w∧PurOk G st.objs os ⟨w,m⟩ ⟨w,m'⟩∧R ⟨w,m'⟩ y v:=by
 simp only [Lm] at hp;split at hp
 ·next s els k0 hi =>
  simp only [Zb,Zc] at hp;obtain ⟨rfl,rfl,rfl⟩:=hp;simp only [RA,hi] at hr;have hv:=hr.2.2 hc;subst hv;have Xr:=h.objs i _ hi;simp only [Z8] at Xr;rcases Xr with ⟨h1,h2,rfl,rfl⟩|⟨b,cap,cs,t,h1,h2,h3,h4,h5,h6,h7,h8,h9⟩
  ·have hu:∀ j,lk (upd st.objs i (.row s [] ([]:List D).length)) j=lk st.objs j:=fun j=>by
    rw [Jb];split
    ·next e=>subst e;simp [hi]
    ·rfl
   have hL:lk (upd st.objs i (.row s [] ([]:List D).length))=lk st.objs:=funext hu;refine ⟨m,⟨h.defers,by simp only [hL];exact h.tmps,by simp only [hL];exact h.objs,by simp only [hL];exact h.apart,by simp only [hL];exact h.mine,h.frame,h.old,h.new,h.small,by rw [hL];exact h.lent⟩,⟨Fix.le_refl _,by rw [hL];exact Wc.refl _ _,fun i oi h ho=>⟨oi,by rw [←hL];exact h,ho⟩,fun _ _=>rfl⟩,?_⟩
   simp only [R,h2];exact ⟨none,0,by simp,by simp,by simp [maxLen],by simp⟩
  ·have Js:=RE.length h7;have Za6:m b≤els.length*s:=by rw [show m b=k0*s from h8];exact Nat.mul_le_mul_right _ h9
   obtain ⟨hg,hs⟩:=h.bump (o':=.row s els els.length) (n:=els.length*s) hi rfl h1 Za6 (by simp [Obj.isBox]) (by
    intro s' els' k' he;simp only [Obj.row.injEq] at he;obtain ⟨rfl,rfl,_⟩:=he;exact ⟨k0,rfl⟩) (by
    intro hF _;simp only [Z8];exact .inr ⟨b,cap,cs,t,h1,h2,h3,h4,h5,h6,RE.mono hF h7,by simp,Zk _⟩)
   refine ⟨_,hs,⟨Fix.le_bump Za6,hg,O4 hi rfl,R7 hi rfl h1⟩,?_⟩;simp only [R,h2];refine ⟨_,cap,rfl,h3,h4,fun _=>⟨b,0,_,rfl,RE.mono (Fix.le_bump Za6) h7,?_⟩⟩;refine ⟨by simp only [if_true];omega,fun j u hu=>?_⟩
   rw [Nat.zero_add,Yq h5];rw [List.getElem?_take] at hu;split at hu
   ·simpa using hu
   ·cases hu
 ·cases hp
theorem mO {x:AV} {c:Prop} {y:D} {os:Zz} {st:AS} {m:Nat→Nat} {v:Value} (h:SRg base pass F0 m G st a w) (hp:Lm x st.objs=some (c,y,os)) (hc:c) (hr:RA ⟨w,m⟩ G (lk st.objs) x v) :
  ∃ m',SRg base pass F0 m' G ⟨st.tmps,os⟩ a w∧PurOk G st.objs os ⟨w,m⟩ ⟨w,m'⟩∧R ⟨w,m'⟩ y v:=by
 cases x with
 | sl i k=>exact lM h hp hc hr
 | d x =>
  simp only [Lm,Zb,Zc] at hp;obtain ⟨rfl,rfl,rfl⟩:=hp;exact ⟨m,h,PurOk.refl _ _ _,by simpa only [RA] using hr⟩
 | nils s =>
  simp only [Lm,Zb,Zc] at hp;obtain ⟨rfl,rfl,rfl⟩:=hp;exact ⟨m,h,PurOk.refl _ _ _,I6 (x:=.nils s) rfl hr⟩
 | _=>simp [Lm] at hp
theorem E9:∀ {l:List AV} {c:Prop} {ys:List D} {os:Zz} {st:AS} {m:Nat→Nat} {vs:List Value},SRg base pass F0 m G st a w→Nw l st.objs=some (c,ys,os)→c→RAs ⟨w,m⟩ G (lk st.objs) l vs →
  ∃ m',SRg base pass F0 m' G ⟨st.tmps,os⟩ a w∧PurOk G st.objs os ⟨w,m⟩ ⟨w,m'⟩∧Rs ⟨w,m'⟩ ys vs
 | [],c,ys,os,st,m,vs,h,hp,hc,hr=>by
  simp only [Nw,Zb,Zc] at hp;obtain ⟨rfl,rfl,rfl⟩:=hp;exact ⟨m,h,PurOk.refl _ _ _,by simpa only [Rs,RAs] using hr⟩
 | x::l,c,ys,os,st,m,vs,h,hp,hc,hr=>by
  simp only [Nw] at hp;split at hp
  ·next c1 y o1 iO =>
   split at hp
   ·next c2 ys2 o2 pX =>
    simp only [Zb,Zc] at hp;obtain ⟨rfl,rfl,rfl⟩:=hp;simp only [RAs] at hr;obtain ⟨v,r,rfl,g2,g3⟩:=hr;obtain ⟨m1,k1,k2,k4⟩:=mO h iO hc.1 g2;obtain ⟨m2,j1,j2,j4⟩:=E9 (st:=⟨st.tmps,o1⟩) k1 pX hc.2 (RAs.mono k2.le k2.goes g3);refine ⟨m2,j1,k2.trans j2,?_⟩;simp only [Rs];exact ⟨v,r,rfl,k4.mono j2.le,j4⟩
   ·cases hp
  ·cases hp
mutual
theorem pur_sound':∀ {n:Nat} {x:AV} {c:Prop} {y:D} {os:Zz} {st:AS} {m:Nat→Nat} {v:Value},SRg base pass F0 m G st a w→pur n x st.objs=some (c,y,os)→c→RA ⟨w,m⟩ G (lk st.objs) x v →
  ∃ m',SRg base pass F0 m' G ⟨st.tmps,os⟩ a w∧PurOk G st.objs os ⟨w,m⟩ ⟨w,m'⟩∧R ⟨w,m'⟩ y v
 | 0,x,c,y,os,st,m,v,_,hp,_,_=>by simp [pur] at hp
 | n+1,.d x,c,y,os,st,m,v,h,hp,hc,hr=>by
  simp only [pur,Zb,Zc] at hp;obtain ⟨rfl,rfl,rfl⟩:=hp;exact ⟨m,h,PurOk.refl _ _ _,by simpa only [RA] using hr⟩
 | n+1,.nils s,c,y,os,st,m,v,h,hp,hc,hr=>by
  simp only [pur,Zb,Zc] at hp;obtain ⟨rfl,rfl,rfl⟩:=hp;simp only [RA] at hr;refine ⟨m,h,PurOk.refl _ _ _,?_⟩;simp only [R];exact ⟨none,0,by simpa using hr,by simp,by simp [maxLen],by simp⟩
 | n+1,.sl i k,c,y,os,st,m,v,h,hp,hc,hr=>by
  simp only [pur] at hp;exact lM h (by simpa only [Lm] using hp) hc hr
 | n+1,.ref i (k+1),c,y,os,st,m,v,_,hp,_,_=>by simp [pur] at hp
 | n+1,.rref i k e f,c,y,os,st,m,v,_,hp,_,_=>by simp [pur] at hp
 | n+1,.sb i k f,c,y,os,st,m,v,_,hp,_,_=>by simp [pur] at hp
 | n+1,.mpr i,c,y,os,st,m,v,h,hp,hc,hr=>by
  simp only [pur] at hp;split at hp
  ·next ks vs fr hi =>
   simp only [Zb,Zc] at hp;obtain ⟨rfl,rfl,rfl⟩:=hp;simp only [RA,hi] at hr;obtain ⟨b0,g1,rfl⟩:=hr.2 rfl;have Xr:=h.objs i _ hi;simp only [Z8] at Xr;obtain ⟨b,es,cl,h1,h2,h3,h4,h5,h6⟩:=Xr;rw [g1] at h1;injection h1 with h1
   subst h1;have Za6:m b0≤1:=by rw [show m b0=cond fr 1 0 from h5];cases fr<;>simp
   obtain ⟨hg,hs⟩:=h.bump (o':=.mp ks vs true) (n:=1) hi rfl g1 Za6 (fun _=>rfl) (by
    intro s' els' k' he;cases he) (by
    intro hF _;simp only [Z8];exact ⟨b0,es,cl,g1,h2,Rs.mono hF h3,Rs.mono hF h4,by simp,h6⟩)
   refine ⟨_,hs,⟨Fix.le_bump Za6,hg,O4 hi rfl,R7 hi rfl g1⟩,?_⟩;simp only [R];exact ⟨b0,es,cl,rfl,h2,by simp,Rs.mono (Fix.le_bump Za6) h3,Rs.mono (Fix.le_bump Za6) h4,h6⟩
  ·cases hp
 | n+1,.dead,c,y,os,st,m,v,_,hp,_,_=>by simp [pur] at hp
 | n+1,.ref i 0,c,y,os,st,m,v,h,hp,hc,hr=>by
  simp only [pur] at hp;split at hp
  ·next s x hi =>
   simp only [Zb,Zc] at hp;obtain ⟨rfl,rfl,rfl⟩:=hp;simp only [RA,hi] at hr;obtain ⟨b,g1,rfl⟩:=hr.2 rfl;have Xr:=h.objs i _ hi;simp only [Z8] at Xr;obtain ⟨b',u,q1,q2,q3,q4,q5⟩:=Xr;rw [g1] at q1;injection q1 with q1
   subst q1;refine ⟨m,h,PurOk.refl _ _ _,?_⟩;simp only [R];exact ⟨b,0,u,rfl,q2,q3,q4,q5⟩
  ·next ag cells hi =>
   split at hp
   ·next c1 xs o1 iO =>
    simp only [RA,hi] at hr;obtain ⟨b,g1,rfl⟩:=hr.2 rfl;have Xr:=h.objs i _ hi;simp only [Z8] at Xr;obtain ⟨b',cs,t,q1,q2,q3,q4,q5⟩:=Xr;rw [g1] at q1;injection q1 with q1
    subst q1;split at hp
    ·next ag1 cells1 Za7 =>
     have main:c1→∃ m1,SRg base pass F0 m1 G ⟨st.tmps,o1⟩ a w∧PurOk G st.objs o1 ⟨w,m⟩ ⟨w,m1⟩∧Rs ⟨w,m1⟩ xs cs.toList:=fun A0=>purs_sound' h iO A0 q3;have fin:c1→∀ (s:Nat) (x:D) (u:Value),(∀ F,Rs F xs cs.toList→R F x u)→u.cells=cs→s=cs.size →
       ∃ m',SRg base pass F0 m' G ⟨st.tmps,upd o1 i (.fbox s x)⟩ a w∧PurOk G st.objs (upd o1 i (.fbox s x)) ⟨w,m⟩ ⟨w,m'⟩∧R ⟨w,m'⟩ (.ptr s x) (.pointer (some ⟨b,0,none⟩)):=by
      intro A0 s x u hu Lg hs;obtain ⟨m1,k1,k2,k4⟩:=main A0;have Zsr:=k1.objs i _ Za7;simp only [Z8] at Zsr;obtain ⟨b1,cs1,t1,w1,w2,w3,w4,w5⟩:=Zsr;rw [g1] at w1;injection w1 with w1
      subst w1;have hz:m1 b≤cs.size:=by rw [show m1 b=0 from w5.1];exact Nat.zero_le _
      have Lt:∀ (j:Nat) (y:Value),cs.toList[j]?=some y→w.cell? ⟨b,0+j,none⟩=some y:=fun j y hy=>by
       rw [Nat.zero_add,Yq q2];simpa using hy
      have Me:xO ⟨w,fun z=>if z=b then cs.size else m1 z⟩ b 0 u.cells.toList:=⟨by simp [Lg],by rw [Lg];exact Lt⟩
      obtain ⟨hg,lQ⟩:=k1.bump (o':=.fbox s x) (n:=cs.size) Za7 rfl g1 hz (fun _=>rfl) (by simp) (by
       intro hF _;simp only [Z8];exact ⟨b,u,g1,(hu _ k4).mono hF,by rw [Lg];exact hs.symm,by rw [Lg];exact q4,Me⟩)
      refine ⟨_,lQ,k2.trans ⟨Fix.le_bump hz,hg,O4 Za7 rfl,R7 Za7 rfl g1⟩,?_⟩;simp only [R];exact ⟨b,0,u,rfl,(hu _ k4).mono (Fix.le_bump hz),by rw [Lg];exact hs.symm,by rw [Lg];exact q4,Me⟩
     split at hp
     ·simp only [Zb,Zc] at hp;obtain ⟨rfl,rfl,rfl⟩:=hp;obtain ⟨m1,_,_,k4⟩:=main hc;exact fin hc _ _ (.agg cs) (fun F hF=>Zoj hF q4) rfl (by have:=Rs.length k4;simp at this;exact this.symm)
     ·next x0 _ =>
      simp only [Zb,Zc] at hp;obtain ⟨rfl,rfl,rfl⟩:=hp;obtain ⟨m1,_,_,k4⟩:=main hc;have hl:=Rs.length k4;obtain ⟨l⟩:=cs
      match l,hl with
      | [v0],_ =>
       have h1:v0.oneCell'=true:=q4 v0 (by simp)
       refine fin hc _ _ v0 (fun F hF=>?_) ?_ rfl
       ·simp only [Rs] at hF;obtain ⟨v1,r,e1,e2,_⟩:=hF;simp only [List.cons.injEq] at e1;rw [e1.1];exact e2
       ·cases v0<;>simp_all [Value.oneCell',Value.cells]
     ·cases hp
    ·cases hp
   ·cases hp
  ·cases hp
 | n+1,.agg l,c,y,os,st,m,v,h,hp,hc,hr=>by
  simp only [pur] at hp;split at hp
  ·next xs hx =>
   simp only [Zb,Zc] at hp;obtain ⟨rfl,rfl,rfl⟩:=hp;simp only [RA] at hr;obtain ⟨cs,rfl,g2,g3⟩:=hr;exact ⟨m,h,PurOk.refl _ _ _,by simp only [R];exact ⟨cs,rfl,Fw hx g2,g3⟩⟩
  split at hp
  ·next c1 xs o1 iO =>
   simp only [Zb,Zc] at hp;obtain ⟨rfl,rfl,rfl⟩:=hp;simp only [RA] at hr;obtain ⟨cs,rfl,g2,g3⟩:=hr;obtain ⟨m',k1,k2,k4⟩:=E9 h iO hc g2;exact ⟨m',k1,k2,by simp only [R];exact ⟨cs,rfl,k4,g3⟩⟩
  split at hp
  ·next c1 xs o1 iO =>
   simp only [Zb,Zc] at hp;obtain ⟨rfl,rfl,rfl⟩:=hp;simp only [RA] at hr;obtain ⟨cs,rfl,g2,g3⟩:=hr;obtain ⟨m',k1,k2,k4⟩:=purs_sound' h iO hc g2;exact ⟨m',k1,k2,by simp only [R];exact ⟨cs,rfl,k4,g3⟩⟩
  ·cases hp
 | n+1,.tup l,c,y,os,st,m,v,h,hp,hc,hr=>by
  simp only [pur] at hp;split at hp
  ·next c1 xs o1 iO =>
   simp only [Zb,Zc] at hp;obtain ⟨rfl,rfl,rfl⟩:=hp;simp only [RA] at hr;obtain ⟨cs,rfl,g2⟩:=hr;obtain ⟨m',k1,k2,k4⟩:=purs_sound' h iO hc g2;exact ⟨m',k1,k2,by simp only [R];exact ⟨cs,rfl,k4⟩⟩
  ·cases hp
 | n+1,.clo f l,c,y,os,st,m,v,h,hp,hc,hr=>by
  simp only [pur] at hp;split at hp
  ·next c1 xs o1 iO =>
   simp only [Zb,Zc] at hp;obtain ⟨rfl,rfl,rfl⟩:=hp;simp only [RA] at hr;obtain ⟨cs,rfl,g2⟩:=hr;obtain ⟨m',k1,k2,k4⟩:=purs_sound' h iO hc g2;exact ⟨m',k1,k2,by simp only [R];exact ⟨cs,rfl,k4⟩⟩
  ·cases hp
theorem purs_sound':∀ {n:Nat} {l:List AV} {c:Prop} {ys:List D} {os:Zz} {st:AS} {m:Nat→Nat} {vs:List Value},SRg base pass F0 m G st a w→purs n l st.objs=some (c,ys,os)→c→RAs ⟨w,m⟩ G (lk st.objs) l vs →
  ∃ m',SRg base pass F0 m' G ⟨st.tmps,os⟩ a w∧PurOk G st.objs os ⟨w,m⟩ ⟨w,m'⟩∧Rs ⟨w,m'⟩ ys vs
 | 0,l,c,ys,os,st,m,vs,_,hp,_,_=>by simp [purs] at hp
 | n+1,[],c,ys,os,st,m,vs,h,hp,hc,hr=>by
  simp only [purs,Zb,Zc] at hp;obtain ⟨rfl,rfl,rfl⟩:=hp;exact ⟨m,h,PurOk.refl _ _ _,by simpa only [Rs,RAs] using hr⟩
 | n+1,x::l,c,ys,os,st,m,vs,h,hp,hc,hr=>by
  simp only [purs] at hp;split at hp
  ·next c1 y o1 iO =>
   split at hp
   ·next c2 ys2 o2 pX =>
    simp only [Zb,Zc] at hp;obtain ⟨rfl,rfl,rfl⟩:=hp;simp only [RAs] at hr;obtain ⟨v,r,rfl,g2,g3⟩:=hr;obtain ⟨m1,k1,k2,k4⟩:=pur_sound' h iO hc.1 g2;obtain ⟨m2,j1,j2,j4⟩:=purs_sound' (st:=⟨st.tmps,o1⟩) k1 pX hc.2 (RAs.mono k2.le k2.goes g3);refine ⟨m2,j1,k2.trans j2,?_⟩;simp only [Rs];exact ⟨v,r,rfl,k4.mono j2.le,j4⟩
   ·cases hp
  ·cases hp
end
theorem K7 {n:Nat} {x:AV} {c:Prop} {y:D} {os:Zz} {st:AS} {m:Nat→Nat} {v:Value} (h:SRg base pass F0 m G st a w) (hp:pur n x st.objs=some (c,y,os)) (hc:c) (hr:RA ⟨w,m⟩ G (lk st.objs) x v) :
  ∃ m',SRg base pass F0 m' G ⟨st.tmps,os⟩ a w∧Fix.le ⟨w,m⟩ ⟨w,m'⟩∧Wc G (lk st.objs) G (lk os)∧R ⟨w,m'⟩ y v:=by
 obtain ⟨m',k1,k2,k3⟩:=pur_sound' h hp hc hr;exact ⟨m',k1,k2.le,k2.goes,k3⟩
end
end Go.Am
