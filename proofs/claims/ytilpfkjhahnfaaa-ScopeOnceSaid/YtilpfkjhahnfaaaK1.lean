/- Contracts of functions that the law reaches, and plain laws. Conditions: those that each contract states. -/
import Derived.WalkKit
import Derived.Laws.StructEq
import Derived.Shelf.Abstract
set_option maxHeartbeats 400000
set_option linter.unusedVariables false
set_option linter.unusedSimpArgs false
theorem aQ : type_of% @beq_eq_false_iff_ne.{0} := @beq_eq_false_iff_ne.{0}
theorem aZ : type_of% @Option.some.injEq.{0} := @Option.some.injEq.{0}
theorem aX : type_of% @Int.toNat_natCast := @Int.toNat_natCast
theorem aJ : type_of% @Prod.mk.injEq.{0,0} := @Prod.mk.injEq.{0,0}
theorem aY : type_of% @List.getD_eq_getElem?_getD.{0} := @List.getD_eq_getElem?_getD.{0}
theorem aV : type_of% @List.set_cons_zero.{0} := @List.set_cons_zero.{0}
theorem aW : type_of% @List.set_cons_succ.{0} := @List.set_cons_succ.{0}
theorem aK : type_of% @List.getElem?_eq_getElem.{0} := @List.getElem?_eq_getElem.{0}
theorem bQ : type_of% @List.mem_cons.{0} := @List.mem_cons.{0}
theorem bZ : type_of% @List.not_mem_nil.{0} := @List.not_mem_nil.{0}
theorem bX : type_of% @Bool.and_eq_true := @Bool.and_eq_true
theorem bJ : type_of% @List.length_cons.{0} := @List.length_cons.{0}
theorem bY : type_of% @List.length_append.{0} := @List.length_append.{0}
theorem bV : type_of% @List.length_map.{0,0} := @List.length_map.{0,0}
theorem bW : type_of% @List.mem_singleton.{0} := @List.mem_singleton.{0}
theorem bK : type_of% @Bool.false_eq_true := @Bool.false_eq_true
theorem cQ : type_of% @beq_iff_eq.{0} := @beq_iff_eq.{0}
theorem cZ : type_of% @Nat.le_refl := @Nat.le_refl
namespace Go.Am
inductive D where
 | int (k:IntKind) (n:Int)
 | bool (b:Bool)
 | str (s:List UInt8)
 | nilf
 | nilp
 | agg (l:List D)
 | tup (l:List D)
 | list (s:Nat) (l:List D)
 | ptr (s:Nat) (x:D)
 | clo (f:Nat) (l:List D)
 | nilm
 | map (ks vs:List D)
 | it (f:Nat) (ks vs:List D)
 | any
 deriving Inhabited
structure Fix where
 w:World
 m:Nat→Nat
def Mem (F:Fix) (b off:Nat) (vs:List Value):Prop :=
 off+vs.length≤F.m b∧∀ (j:Nat) (u:Value),vs[j]?=some u→F.w.cell? ⟨b,off+j,none⟩=some u
mutual
def R (F:Fix):D→Value→Prop
 | .int k n,v=>v=.int k n
 | .bool b,v=>v=.bool b
 | .str s,v=>v=.string ⟨s.toArray⟩
 | .nilf,v=>v=.nilFunc
 | .nilp,v=>v=.pointer none
 | .agg l,v=>∃ cs:List Value,v=.agg cs.toArray∧Rs F l cs∧∀ u∈cs,u.oneCell'=true
 | .tup l,v=>∃ cs:List Value,v=.tuple cs.toArray∧Rs F l cs
 | .list s l,v=>∃ (A:Option Addr) (c:Nat),v=.slice A l.length c∧l.length≤c∧c≤maxLen ∧
   (l≠[]→∃ (b off:Nat) (vs:List Value),A=some ⟨b,off,none⟩∧RE F s l vs∧Mem F b off vs)
 | .ptr s x,v=>∃ (b off:Nat) (u:Value),v=.pointer (some ⟨b,off,none⟩)∧R F x u∧u.cells.size=s∧(∀ y∈u.cells.toList,y.oneCell'=true)∧Mem F b off u.cells.toList
 | .clo f l,v=>∃ cs:List Value,v=.func (.func f) #[] cs.toArray∧Rs F l cs
 | .nilm,v=>v=.map none
 | .map ks vs,v=>∃ (b:Nat) (es:Array MapEntry) (c:Nat),v=.map (some b)∧F.w.heap[b]?=some (.map es c)∧0<F.m b∧Rs F ks (es.toList.map MapEntry.key)∧Rs F vs (es.toList.map MapEntry.val)∧Go.MapKept.Stamped es c
 | .it f ks vs,v=>∃ (bm b:Nat) (es:Array MapEntry) (c:Nat),v=.func (.func f) #[] #[.pointer (some ⟨bm,0,none⟩)]∧F.w.cell? ⟨bm,0,none⟩=some (.map (some b))∧0<F.m bm∧F.w.heap[b]?=some (.map es c)∧0<F.m b ∧
   Rs F ks (es.toList.map MapEntry.key)∧Rs F vs (es.toList.map MapEntry.val)∧Go.MapKept.Stamped es c
 | .any,v=>v.oneCell'=true
def Rs (F:Fix):List D→List Value→Prop
 | [],vs=>vs=[]
 | x::l,vs=>∃ v r,vs=v::r∧R F x v∧Rs F l r
def RE (F:Fix) (s:Nat):List D→List Value→Prop
 | [],vs=>vs=[]
 | x::l,vs=>∃ v r,vs=v.cells.toList++r∧v.cells.size=s∧(∀ u∈v.cells.toList,u.oneCell'=true)∧R F x v∧RE F s l r
end
def Fix.le (F F':Fix):Prop:=(∀ b,F.m b≤F'.m b∧∀ off,off<F.m b→F'.w.cell? ⟨b,off,none⟩=F.w.cell? ⟨b,off,none⟩) ∧
 ∀ (b:Nat) (es:Array MapEntry) (c:Nat),0<F.m b→F.w.heap[b]?=some (.map es c)→F'.w.heap[b]?=some (.map es c)
theorem Fix.le_refl (F:Fix):F.le F:=⟨fun _=>⟨cZ _,fun _ _=>rfl⟩,fun _ _ _ _ h=>h⟩
theorem Fix.le_trans {F G H:Fix} (h:F.le G) (k:G.le H):F.le H:=⟨fun b =>
 ⟨Nat.le_trans (h.1 b).1 (k.1 b).1,fun off ho=>((k.1 b).2 off (Nat.lt_of_lt_of_le ho (h.1 b).1)).trans ((h.1 b).2 off ho)⟩,
 fun b es c hm hb=>k.2 b es c (Nat.lt_of_lt_of_le hm (h.1 b).1) (h.2 b es c hm hb)⟩
theorem Mem.mono {F F':Fix} (h:F.le F') {b off:Nat} {vs:List Value} (hm:Mem F b off vs):Mem F' b off vs:=by
 obtain ⟨h1,h2⟩:=hm
 refine ⟨Nat.le_trans h1 (h.1 b).1,fun j u hu=>?_⟩
 have hj:j<vs.length:=(List.getElem?_eq_some_iff.1 hu).1
 rw [(h.1 b).2 (off+j) (by omega)]
 exact h2 j u hu
mutual
theorem R.mono {F F':Fix} (h:F.le F'):∀ {x:D} {v:Value},R F x v→R F' x v
 | .int ..,_,hr=>by simpa [R] using hr
 | .bool ..,_,hr=>by simpa [R] using hr
 | .str ..,_,hr=>by simpa [R] using hr
 | .nilf,_,hr=>by simpa [R] using hr
 | .nilp,_,hr=>by simpa [R] using hr
 | .agg l,v,hr=>by
  simp only [R] at hr ⊢
  obtain ⟨cs,h1,h2,h3⟩:=hr
  exact ⟨cs,h1,Rs.mono h h2,h3⟩
 | .tup l,v,hr=>by
  simp only [R] at hr ⊢
  obtain ⟨cs,h1,h2⟩:=hr
  exact ⟨cs,h1,Rs.mono h h2⟩
 | .list s l,v,hr=>by
  simp only [R] at hr ⊢
  obtain ⟨A,c,h1,h2,h3,h4⟩:=hr
  refine ⟨A,c,h1,h2,h3,fun hl=>?_⟩
  obtain ⟨b,off,vs,g1,g2,g3⟩:=h4 hl
  exact ⟨b,off,vs,g1,RE.mono h g2,g3.mono h⟩
 | .ptr s x,v,hr=>by
  simp only [R] at hr ⊢
  obtain ⟨b,off,u,h1,h2,h3,h4,h5⟩:=hr
  exact ⟨b,off,u,h1,R.mono h h2,h3,h4,h5.mono h⟩
 | .clo f l,v,hr=>by
  simp only [R] at hr ⊢
  obtain ⟨cs,h1,h2⟩:=hr
  exact ⟨cs,h1,Rs.mono h h2⟩
 | .nilm,_,hr=>by simpa [R] using hr
 | .any,_,hr=>by simpa [R] using hr
 | .map ks vs,v,hr=>by
  simp only [R] at hr ⊢
  obtain ⟨b,es,c,h1,h2,h3,h4,h5,h6⟩:=hr
  exact ⟨b,es,c,h1,h.2 b es c h3 h2,Nat.lt_of_lt_of_le h3 (h.1 b).1,Rs.mono h h4,Rs.mono h h5,h6⟩
 | .it f ks vs,v,hr=>by
  simp only [R] at hr ⊢
  obtain ⟨bm,b,es,c,h1,a1,a2,h2,h3,h4,h5,h6⟩:=hr
  exact ⟨bm,b,es,c,h1,((h.1 bm).2 0 a2).trans a1,Nat.lt_of_lt_of_le a2 (h.1 bm).1,h.2 b es c h3 h2,Nat.lt_of_lt_of_le h3 (h.1 b).1,Rs.mono h h4,Rs.mono h h5,h6⟩
theorem Rs.mono {F F':Fix} (h:F.le F'):∀ {l:List D} {vs:List Value},Rs F l vs→Rs F' l vs
 | [],_,hr=>by simpa [Rs] using hr
 | x::l,vs,hr=>by
  simp only [Rs] at hr ⊢
  obtain ⟨v,r,h1,h2,h3⟩:=hr
  exact ⟨v,r,h1,R.mono h h2,Rs.mono h h3⟩
theorem RE.mono {F F':Fix} (h:F.le F'):∀ {s:Nat} {l:List D} {vs:List Value},RE F s l vs→RE F' s l vs
 | _,[],_,hr=>by simpa [RE] using hr
 | s,x::l,vs,hr=>by
  simp only [RE] at hr ⊢
  obtain ⟨v,r,h1,h2,h3,h4,h5⟩:=hr
  exact ⟨v,r,h1,h2,h3,R.mono h h4,RE.mono h h5⟩
end
theorem Rs.length {F:Fix}:∀ {l:List D} {vs:List Value},Rs F l vs→vs.length=l.length
 | [],_,h=>by simp only [Rs] at h;simp [h]
 | _::l,_,h=>by
  simp only [Rs] at h
  obtain ⟨v,r,rfl,_,h3⟩:=h
  simp [Rs.length h3]
theorem Rs.at {F:Fix}:∀ {l:List D} {vs:List Value},Rs F l vs→∀ {k:Nat} {x:D},l[k]?=some x→∃ u,vs[k]?=some u∧R F x u
 | [],_,_,k,x,hk=>by simp at hk
 | y::l,vs,h,k,x,hk=>by
  simp only [Rs] at h
  obtain ⟨v,r,rfl,h2,h3⟩:=h
  cases k with
  | zero=>simp at hk;subst hk;exact ⟨v,rfl,h2⟩
  | succ k=>simp only [List.getElem?_cons_succ] at hk ⊢;exact Rs.at h3 hk
theorem Rs.append {F:Fix}:∀ {l l':List D} {vs vs':List Value},Rs F l vs→Rs F l' vs'→Rs F (l++l') (vs++vs')
 | [],_,_,_,h,h'=>by simp only [Rs] at h;subst h;simpa using h'
 | x::l,l',vs,vs',h,h'=>by
  simp only [Rs] at h
  obtain ⟨v,r,rfl,h2,h3⟩:=h
  simp only [List.cons_append,Rs]
  exact ⟨v,r++vs',rfl,h2,Rs.append h3 h'⟩
theorem RE.length {F:Fix} {s:Nat}:∀ {l:List D} {vs:List Value},RE F s l vs→vs.length=l.length*s
 | [],_,h=>by simp only [RE] at h;simp [h]
 | _::l,_,h=>by
  simp only [RE] at h
  obtain ⟨v,r,rfl,h2,_,_,h5⟩:=h
  simp [RE.length h5,Nat.add_mul,h2];omega
theorem RE.append {F:Fix} {s:Nat}:∀ {l l':List D} {vs vs':List Value},RE F s l vs→RE F s l' vs'→RE F s (l++l') (vs++vs')
 | [],_,_,_,h,h'=>by simp only [RE] at h;subst h;simpa using h'
 | x::l,l',vs,vs',h,h'=>by
  simp only [RE] at h
  obtain ⟨v,r,rfl,h2,h3,h4,h5⟩:=h
  simp only [List.cons_append,RE]
  exact ⟨v,r++vs',by simp,h2,h3,h4,RE.append h5 h'⟩
theorem RE.split {F:Fix} {s:Nat}:∀ {l:List D} {vs:List Value} (k:Nat),RE F s l vs→RE F s (l.take k) (vs.take (k*s))∧RE F s (l.drop k) (vs.drop (k*s))
 | [],vs,k,h=>by simp only [RE] at h;subst h;simp [RE]
 | x::l,vs,0,h=>by simp only [List.take_zero,Nat.zero_mul,List.drop_zero];exact ⟨by simp [RE],h⟩
 | x::l,vs,k+1,h=>by
  simp only [RE] at h
  obtain ⟨v,r,rfl,h2,h3,h4,h5⟩:=h
  obtain ⟨g1,g2⟩:=RE.split k h5
  have hl:v.cells.toList.length=s:=by simpa using h2
  have e:(k+1)*s=v.cells.toList.length+k*s:=by rw [hl,Nat.add_mul];omega
  constructor
  ·rw [e,List.take_length_add_append,List.take_succ_cons]
   simp only [RE]
   exact ⟨v,_,rfl,h2,h3,h4,g1⟩
  ·rw [e,List.drop_length_add_append,List.drop_succ_cons]
   exact g2
theorem RE.at {F:Fix} {s:Nat} {l:List D} {vs:List Value} (h:RE F s l vs) {k:Nat} {x:D} (hk:l[k]?=some x) :
  ∃ v:Value,R F x v∧v.cells.size=s∧(∀ u∈v.cells.toList,u.oneCell'=true)∧(vs.drop (k*s)).take s=v.cells.toList:=by
 have h2:=(h.split k).2
 have hlt:k<l.length:=(List.getElem?_eq_some_iff.1 hk).1
 rw [List.drop_eq_getElem_cons hlt] at h2
 have e:l[k]=x:=by rw [aK hlt] at hk;injection hk
 simp only [RE] at h2
 obtain ⟨v,r,h3,h4,h5,h6,h7⟩:=h2
 refine ⟨v,e▸h6,h4,h5,?_⟩
 rw [h3,List.take_append_of_le_length (by simp [h4]),List.take_of_length_le (by simp [h4])]
theorem RE.one {F:Fix} {s:Nat} {x:D} {v:Value} (h:R F x v) (hs:v.cells.size=s) (h1:∀ u∈v.cells.toList,u.oneCell'=true):RE F s [x] v.cells.toList:=by
 simp only [RE]
 exact ⟨v,[],by simp,hs,h1,h,rfl⟩
theorem RE.set {F:Fix} {s:Nat}:∀ {l:List D} {vs:List Value} {k:Nat} {x:D} {v:Value},RE F s l vs→k<l.length→R F x v→v.cells.size=s →
  (∀ u∈v.cells.toList,u.oneCell'=true)→RE F s (l.set k x) (vs.take (k*s)++v.cells.toList++vs.drop ((k+1)*s))
 | [],_,_,_,_,_,hk,_,_,_=>by simp at hk
 | y::l,vs,0,x,v,h,_,hr,hs,h1=>by
  have h2:=(h.split 1).2
  simp only [aV,Nat.zero_mul,List.take_zero,List.nil_append,Nat.zero_add,RE]
  refine ⟨v,_,rfl,hs,h1,hr,?_⟩
  simpa using h2
 | y::l,vs,k+1,x,v,h,hk,hr,hs,h1=>by
  simp only [RE] at h
  obtain ⟨u,r,rfl,h2,h3,h4,h5⟩:=h
  have g:=RE.set (k:=k) h5 (by simpa using hk) hr hs h1
  have hl:u.cells.toList.length=s:=by simpa using h2
  simp only [aW,RE]
  refine ⟨u,_,?_,h2,h3,h4,g⟩
  rw [show (k+1)*s=u.cells.toList.length+k*s by rw [hl,Nat.add_mul];omega,
   show (k+1+1)*s=u.cells.toList.length+(k+1)*s by rw [hl];simp only [Nat.add_mul];omega,
   List.take_length_add_append,List.drop_length_add_append]
  simp
  rw [h2,Nat.succ_mul,Nat.add_comm]
open Go.RowKit (Below)
inductive AV where
 | d (x:D)
 | ref (i f:Nat)
 | rref (i n e f:Nat)
 | sl (i n:Nat)
 | sb (i n o:Nat)
 | mpr (i:Nat)
 | agg (l:List AV)
 | tup (l:List AV)
 | clo (f:Nat) (l:List AV)
 | nils (s:Nat)
 | dead
 deriving Inhabited
inductive Obj where
 | box (ag:Bool) (cells:List AV)
 | fbox (s:Nat) (x:D)
 | row (s:Nat) (els:List D) (k:Nat)
 | mp (ks vs:List D) (fr:Bool)
 | gone
 | hole (i n e f:Nat) (x:AV)
 | slot (e f:Nat)
 deriving Inhabited
def Obj.owns:Obj→Bool
 | .box ..=>true
 | .row ..=>true
 | .mp ..=>true
 | _=>false
def Obj.isBox:Obj→Bool
 | .box ..=>true
 | .fbox ..=>true
 | .mp ..=>true
 | _=>false
structure AS where
 tmps:List AV
 objs:List (Nat×Obj)
 deriving Inhabited
def lk:List (Nat×Obj)→Nat→Option Obj
 | [],_=>none
 | (j,o)::r,i=>if i=j then some o else lk r i
def upd:List (Nat×Obj)→Nat→Obj→List (Nat×Obj)
 | [],i,o=>[(i,o)]
 | (j,p)::r,i,o=>if i=j then (j,o)::r else (j,p)::upd r i o
theorem Bm (l:List (Nat×Obj)) (i:Nat) (o:Obj) (j:Nat):lk (upd l i o) j=if j=i then some o else lk l j:=by
 induction l with
 | nil=>simp [upd,lk]
 | cons p r ih =>
  obtain ⟨k,q⟩:=p
  simp only [upd]
  by_cases h:i=k
  ·subst h
   simp only [if_true,lk]
   split<;>rfl
  ·rw [if_neg h]
   simp only [lk,ih]
   by_cases h1:j=k
   ·subst h1
    rw [if_pos rfl,if_pos rfl,if_neg (fun e=>h e.symm)]
   ·rw [if_neg h1,if_neg h1]
structure Gh where
 γ:Nat→Option Nat
 hd:Nat→Value
mutual
def RA (F:Fix) (G:Gh) (L:Nat→Option Obj):AV→Value→Prop
 | .d x,v=>R F x v
 | .ref i f,v=>v.oneCell'=true∧match L i with
  | some o=>o.isBox=true→∃ b,G.γ i=some b∧v=.pointer (some ⟨b,f,none⟩)
  | none=>False
 | .rref i n e f,v=>v.oneCell'=true∧match L i with
  | some (.row s els _)=>n≤els.length∧(n=els.length→∃ b,G.γ i=some b∧v=.pointer (some ⟨b,e*s+f,none⟩))
  | some _=>True
  | none=>False
 | .sl i n,v=>v.oneCell'=true∧match L i with
  | some (.row _ els _)=>n≤els.length∧(n=els.length→v=G.hd i)
  | some _=>True
  | none=>False
 | .sb i n o,v=>v.oneCell'=true∧match L i with
  | some (.row s els _)=>n≤els.length∧(n=els.length→∃ b c,G.γ i=some b∧G.hd i=.slice (some ⟨b,0,none⟩) n c∧o<n∧v=.slice (some ⟨b,o*s,none⟩) (n-o) (c-o))
  | some _=>True
  | none=>False
 | .mpr i,v=>v.oneCell'=true∧match L i with
  | some o=>o.isBox=true→∃ b,G.γ i=some b∧v=.map (some b)
  | none=>False
 | .agg l,v=>∃ cs:List Value,v=.agg cs.toArray∧RAs F G L l cs∧∀ u∈cs,u.oneCell'=true
 | .tup l,v=>∃ cs:List Value,v=.tuple cs.toArray∧RAs F G L l cs
 | .clo f l,v=>∃ cs:List Value,v=.func (.func f) #[] cs.toArray∧RAs F G L l cs
 | .nils _,v=>v=.slice none 0 0
 | .dead,_=>True
def RAs (F:Fix) (G:Gh) (L:Nat→Option Obj):List AV→List Value→Prop
 | [],vs=>vs=[]
 | x::l,vs=>∃ v r,vs=v::r∧RA F G L x v∧RAs F G L l r
end
def Db (G:Gh) (L:Nat→Option Obj) (G':Gh) (L':Nat→Option Obj):Prop :=
 ∀ i o,L i=some o→∃ o',L' i=some o'∧(o'.isBox=true→o.isBox=true∧G'.γ i=G.γ i) ∧
  ∀ s els' k',o'=.row s els' k'→∃ els k,o=.row s els k∧els.length≤els'.length∧(els'.length=els.length→G'.γ i=G.γ i∧G'.hd i=G.hd i)
theorem Db.refl (G:Gh) (L:Nat→Option Obj):Db G L G L:=fun _ o h=>⟨o,h,fun hb=>⟨hb,rfl⟩,fun _ els' k' he=>⟨els',k',he,cZ _,fun _=>⟨rfl,rfl⟩⟩⟩
mutual
theorem RA.mono {F F':Fix} {G G':Gh} {L L':Nat→Option Obj} (h:F.le F') (g:Db G L G' L'):∀ {x:AV} {v:Value},RA F G L x v→RA F' G' L' x v
 | .d x,_,hr=>by simp only [RA] at hr ⊢;exact hr.mono h
 | .ref i f,v,hr=>by
  simp only [RA] at hr ⊢
  cases hl:L i with
  | none=>simp [hl] at hr
  | some o =>
   obtain ⟨o',h1,h2,_⟩:=g i o hl
   simp only [hl] at hr
   simp only [h1]
   refine ⟨hr.1,fun hb=>?_⟩
   obtain ⟨g1,g2⟩:=h2 hb
   rw [g2]
   exact hr.2 g1
 | .mpr i,v,hr=>by
  simp only [RA] at hr ⊢
  cases hl:L i with
  | none=>simp [hl] at hr
  | some o =>
   obtain ⟨o',h1,h2,_⟩:=g i o hl
   simp only [hl] at hr
   simp only [h1]
   refine ⟨hr.1,fun hb=>?_⟩
   obtain ⟨g1,g2⟩:=h2 hb
   rw [g2]
   exact hr.2 g1
 | .rref i n e f,v,hr=>by
  simp only [RA] at hr ⊢
  cases hl:L i with
  | none=>simp [hl] at hr
  | some o =>
   obtain ⟨o',h1,_,h3⟩:=g i o hl
   simp only [hl] at hr
   simp only [h1]
   cases o' with
   | row s els' k' =>
    obtain ⟨els,k,rfl,hle,hsame⟩:=h3 s els' k' rfl
    simp only at hr ⊢
    obtain ⟨a0,a1,a2⟩:=hr
    refine ⟨a0,by omega,fun hn=>?_⟩
    obtain ⟨b,q1,q2⟩:=a2 (by omega)
    exact ⟨b,by rw [(hsame (by omega)).1];exact q1,q2⟩
   | _=>exact ⟨hr.1,trivial⟩
 | .sl i n,v,hr=>by
  simp only [RA] at hr ⊢
  cases hl:L i with
  | none=>simp [hl] at hr
  | some o =>
   obtain ⟨o',h1,_,h3⟩:=g i o hl
   simp only [hl] at hr
   simp only [h1]
   cases o' with
   | row s els' k' =>
    obtain ⟨els,k,rfl,hle,hsame⟩:=h3 s els' k' rfl
    simp only at hr ⊢
    obtain ⟨a0,a1,a2⟩:=hr
    exact ⟨a0,by omega,fun hn=>by rw [(hsame (by omega)).2];exact a2 (by omega)⟩
   | _=>exact ⟨hr.1,trivial⟩
 | .sb i n o,v,hr=>by
  simp only [RA] at hr ⊢
  cases hl:L i with
  | none=>simp [hl] at hr
  | some ob =>
   obtain ⟨o',h1,_,h3⟩:=g i ob hl
   simp only [hl] at hr
   simp only [h1]
   cases o' with
   | row s els' k' =>
    obtain ⟨els,k,rfl,hle,hsame⟩:=h3 s els' k' rfl
    simp only at hr ⊢
    obtain ⟨a0,a1,a2⟩:=hr
    exact ⟨a0,by omega,fun hn=>by rw [(hsame (by omega)).2,(hsame (by omega)).1];exact a2 (by omega)⟩
   | _=>exact ⟨hr.1,trivial⟩
 | .agg l,v,hr=>by
  simp only [RA] at hr ⊢
  obtain ⟨cs,h1,h2,h3⟩:=hr
  exact ⟨cs,h1,RAs.mono h g h2,h3⟩
 | .tup l,v,hr=>by
  simp only [RA] at hr ⊢
  obtain ⟨cs,h1,h2⟩:=hr
  exact ⟨cs,h1,RAs.mono h g h2⟩
 | .clo f l,v,hr=>by
  simp only [RA] at hr ⊢
  obtain ⟨cs,h1,h2⟩:=hr
  exact ⟨cs,h1,RAs.mono h g h2⟩
 | .nils _,_,hr=>by simpa [RA] using hr
 | .dead,_,_=>by simp [RA]
theorem RAs.mono {F F':Fix} {G G':Gh} {L L':Nat→Option Obj} (h:F.le F') (g:Db G L G' L'):∀ {l:List AV} {vs:List Value},RAs F G L l vs→RAs F' G' L' l vs
 | [],_,hr=>by simpa [RAs] using hr
 | x::l,vs,hr=>by
  simp only [RAs] at hr ⊢
  obtain ⟨v,r,h1,h2,h3⟩:=hr
  exact ⟨v,r,h1,RA.mono h g h2,RAs.mono h g h3⟩
end
theorem RAs.length {F:Fix} {G:Gh} {L:Nat→Option Obj}:∀ {l:List AV} {vs:List Value},RAs F G L l vs→vs.length=l.length
 | [],_,h=>by simp only [RAs] at h;simp [h]
 | _::l,_,h=>by
  simp only [RAs] at h
  obtain ⟨v,r,rfl,_,h3⟩:=h
  simp [RAs.length h3]
theorem RAs.at {F:Fix} {G:Gh} {L:Nat→Option Obj}:∀ {l:List AV} {vs:List Value},RAs F G L l vs→∀ {k:Nat} {x:AV},l[k]?=some x→∃ u,vs[k]?=some u∧RA F G L x u
 | [],_,_,k,x,hk=>by simp at hk
 | y::l,vs,h,k,x,hk=>by
  simp only [RAs] at h
  obtain ⟨v,r,rfl,h2,h3⟩:=h
  cases k with
  | zero=>simp at hk;subst hk;exact ⟨v,rfl,h2⟩
  | succ k=>simp only [List.getElem?_cons_succ] at hk ⊢;exact RAs.at h3 hk
theorem RAs.set {F:Fix} {G:Gh} {L:Nat→Option Obj}:∀ {l:List AV} {vs:List Value} {k:Nat} {x:AV} {v:Value},RAs F G L l vs→RA F G L x v→RAs F G L (l.set k x) (vs.set k v)
 | [],_,_,_,_,h,_=>by simp only [RAs] at h;subst h;simp [RAs]
 | y::l,vs,k,x,v,h,hx=>by
  simp only [RAs] at h
  obtain ⟨u,r,rfl,h2,h3⟩:=h
  cases k with
  | zero=>simp only [aV,RAs];exact ⟨v,r,rfl,hx,h3⟩
  | succ k=>simp only [aW,RAs];exact ⟨u,_,rfl,h2,RAs.set h3 hx⟩
theorem RAs.append {F:Fix} {G:Gh} {L:Nat→Option Obj}:∀ {l l':List AV} {vs vs':List Value},RAs F G L l vs→RAs F G L l' vs'→RAs F G L (l++l') (vs++vs')
 | [],_,_,_,h,h'=>by simp only [RAs] at h;subst h;simpa using h'
 | x::l,l',vs,vs',h,h'=>by
  simp only [RAs] at h
  obtain ⟨v,r,rfl,h2,h3⟩:=h
  simp only [List.cons_append,RAs]
  exact ⟨v,r++vs',rfl,h2,RAs.append h3 h'⟩
theorem RAs.of_Rs {F:Fix} {G:Gh} {L:Nat→Option Obj}:∀ {l:List D} {vs:List Value},Rs F l vs→RAs F G L (l.map .d) vs
 | [],_,h=>by simp only [Rs] at h;simpa [RAs] using h
 | x::l,vs,h=>by
  simp only [Rs] at h
  obtain ⟨v,r,h1,h2,h3⟩:=h
  simp only [List.map_cons,RAs,RA]
  exact ⟨v,r,h1,h2,RAs.of_Rs h3⟩
def Hd (F:Fix) (G:Gh) (L:Nat→Option Obj) (i:Nat):Obj→Prop
 | .box _ cells=>∃ (b:Nat) (cs:Array Value) (t:TypeId),G.γ i=some b∧F.w.heap[b]?=some (.cells cs t (0,0))∧RAs F G L cells cs.toList ∧
   (∀ u∈cs.toList,u.oneCell'=true)∧F.m b=0
 | .fbox s x=>∃ (b:Nat) (u:Value),G.γ i=some b∧R F x u∧u.cells.size=s∧(∀ y∈u.cells.toList,y.oneCell'=true)∧Mem F b 0 u.cells.toList
 | .row s els k=>(G.γ i=none∧G.hd i=.slice none 0 0∧els=[]∧k=0) ∨
   ∃ (b cap:Nat) (cs:Array Value) (t:TypeId),G.γ i=some b∧G.hd i=.slice (some ⟨b,0,none⟩) els.length cap∧els.length≤cap∧cap≤maxLen ∧
    F.w.heap[b]?=some (.cells cs t (0,0))∧cs.size=cap*s∧RE F s els (cs.toList.take (els.length*s))∧F.m b=k*s∧k≤els.length
 | .mp ks vs fr=>∃ (b:Nat) (es:Array MapEntry) (c:Nat),G.γ i=some b∧F.w.heap[b]?=some (.map es c)∧Rs F ks (es.toList.map MapEntry.key)∧Rs F vs (es.toList.map MapEntry.val)∧F.m b=cond fr 1 0∧Go.MapKept.Stamped es c
 | .gone=>True
 | .hole j n e f x=>∃ (b off:Nat) (v:Value),RA F G L (.rref j n e f) (.pointer (some ⟨b,off,none⟩))∧off<F.m b∧F.w.cell? ⟨b,off,none⟩=some v∧RA F G L x v
 | .slot _ _=>True
structure Frame (base:Nat) (pass:Nat→Prop) (w w':World):Prop where
 os:w'.os=w.os
 tape:w'.tape=w.tape
 output:w'.output=w.output
 size:w.heap.size≤w'.heap.size
 block:∀ b,b<base→¬ pass b→w'.heap[b]?=w.heap[b]?
theorem Frame.refl (base:Nat) (pass:Nat→Prop) (w:World):Frame base pass w w:=⟨rfl,rfl,rfl,cZ _,fun _ _ _=>rfl⟩
theorem Frame.trans {base:Nat} {pass:Nat→Prop} {a b c:World} (h:Frame base pass a b) (k:Frame base pass b c):Frame base pass a c :=
 ⟨k.os.trans h.os,k.tape.trans h.tape,k.output.trans h.output,Nat.le_trans h.size k.size,fun i hi hp=>(k.block i hi hp).trans (h.block i hi hp)⟩
def Went (G G':Gh) (i:Nat) (o o':Obj):Prop:=(o'.isBox=true→o.isBox=true∧G'.γ i=G.γ i) ∧
 ∀ s els' k',o'=.row s els' k'→∃ els k,o=.row s els k∧els.length≤els'.length∧(els'.length=els.length→G'.γ i=G.γ i∧G'.hd i=G.hd i)
theorem Went.refl (G:Gh) (i:Nat) (o:Obj):Went G G i o o:=⟨fun hb=>⟨hb,rfl⟩,fun _ els' k' he=>⟨els',k',he,cZ _,fun _=>⟨rfl,rfl⟩⟩⟩
theorem Went.trans {G G' G'':Gh} {i:Nat} {o o' o'':Obj} (h:Went G G' i o o') (k:Went G' G'' i o' o''):Went G G'' i o o'':=by
 refine ⟨fun hb=>?_,fun s els'' k'' he=>?_⟩
 ·obtain ⟨h1,h2⟩:=k.1 hb
  obtain ⟨h3,h4⟩:=h.1 h1
  exact ⟨h3,h2.trans h4⟩
 ·obtain ⟨els',k',e1,e2,e3⟩:=k.2 s els'' k'' he
  obtain ⟨els,k,f1,f2,f3⟩:=h.2 s els' k' e1
  refine ⟨els,k,f1,Nat.le_trans f2 e2,fun heq=>?_⟩
  obtain ⟨a1,a2⟩:=e3 (by omega)
  obtain ⟨b1,b2⟩:=f3 (by omega)
  exact ⟨a1.trans b1,a2.trans b2⟩
structure Anc extends Fix where
 G0:Gh
 L0:Nat→Option Obj
def Lent (F0:Anc) (G:Gh) (L:Nat→Option Obj):Prop:=∀ i o,F0.L0 i=some o→90000≤i∧∃ o',L i=some o'∧Went F0.G0 G i o o'
theorem Lent.goes {F0:Anc} {G G':Gh} {L L':Nat→Option Obj} (h:Lent F0 G L) (g:Db G L G' L'):Lent F0 G' L':=fun i o ho=>by
 obtain ⟨h1,o',h2,h3⟩:=h i o ho
 obtain ⟨o'',g1,g2,g3⟩:=g i o' h2
 exact ⟨h1,o'',g1,h3.trans ⟨g2,g3⟩⟩
structure SRg (base:Nat) (pass:Nat→Prop) (F0:Anc) (m:Nat→Nat) (G:Gh) (st:AS) (a:Act) (w:World):Prop where
 defers:a.defers=[]
 tmps:RAs ⟨w,m⟩ G (lk st.objs) st.tmps a.tmps.toList
 objs:∀ i o,lk st.objs i=some o→Hd ⟨w,m⟩ G (lk st.objs) i o
 apart:∀ i j oi oj b,lk st.objs i=some oi→lk st.objs j=some oj→oi.owns=true→oj.owns=true→G.γ i=some b→G.γ j=some b→i=j
 mine:∀ i o b,lk st.objs i=some o→o.owns=true→G.γ i=some b→b<w.heap.size∧(base≤b∨pass b)
 frame:Frame base pass F0.w w
 old:∀ b,b<base→¬ pass b→m b=F0.m b
 new:∀ b,w.heap.size≤b→m b=0
 small:base≤w.heap.size
 lent:Lent F0 G (lk st.objs)
def SR (base:Nat) (pass:Nat→Prop) (F0:Anc) (st:AS) (a:Act) (w:World):Prop:=∃ m G,SRg base pass F0 m G st a w
theorem Hd.mono {F F':Fix} {G G':Gh} {L L':Nat→Option Obj} (h:F.le F') (g:Db G L G' L') {i:Nat} {o:Obj} (hγ:G'.γ i=G.γ i) (hhd:G'.hd i=G.hd i)
  (ho:o.owns=true→∀ b,G.γ i=some b→F'.w.heap[b]?=F.w.heap[b]?∧F'.m b=F.m b) (hk:Hd F G L i o):Hd F' G' L' i o:=by
 cases o with
 | box ag cells =>
  simp only [Hd] at hk ⊢
  obtain ⟨b,cs,t,h1,h2,h3,h4,h5⟩:=hk
  obtain ⟨q1,q2⟩:=ho rfl b h1
  exact ⟨b,cs,t,by rw [hγ];exact h1,by rw [q1];exact h2,RAs.mono h g h3,h4,by rw [q2];exact h5⟩
 | fbox s x =>
  simp only [Hd] at hk ⊢
  obtain ⟨b,u,h1,h2,h3,h4,h5⟩:=hk
  exact ⟨b,u,by rw [hγ];exact h1,h2.mono h,h3,h4,h5.mono h⟩
 | row s els k =>
  simp only [Hd] at hk ⊢
  rcases hk with ⟨h1,h2,h3,h4⟩|⟨b,cap,cs,t,h1,h2,h3,h4,h5,h6,h7,h8,h9⟩
  ·exact .inl ⟨by rw [hγ];exact h1,by rw [hhd];exact h2,h3,h4⟩
  ·obtain ⟨q1,q2⟩:=ho rfl b h1
   exact .inr ⟨b,cap,cs,t,by rw [hγ];exact h1,by rw [hhd];exact h2,h3,h4,by rw [q1];exact h5,h6,RE.mono h h7,by rw [q2];exact h8,h9⟩
 | mp ks vs fr =>
  simp only [Hd] at hk ⊢
  obtain ⟨b,es,c,h1,h2,h3,h4,h5,h6⟩:=hk
  obtain ⟨q1,q2⟩:=ho rfl b h1
  exact ⟨b,es,c,by rw [hγ];exact h1,by rw [q1];exact h2,Rs.mono h h3,Rs.mono h h4,by rw [q2];exact h5,h6⟩
 | gone=>trivial
 | slot e f=>trivial
 | hole j n e f x =>
  simp only [Hd] at hk ⊢
  obtain ⟨b,off,v,h1,h2,h3,h4⟩:=hk
  exact ⟨b,off,v,RA.mono h g h1,Nat.lt_of_lt_of_le h2 (h.1 b).1,((h.1 b).2 off h2).trans h3,RA.mono h g h4⟩
section
variable {base:Nat} {pass:Nat→Prop} {F0:Anc} {m m':Nat→Nat} {G G':Gh} {st:AS} {a:Act} {w w':World}
theorem SRg.put (h:SRg base pass F0 m G st a w) {t:Nat} {x:AV} {v:Value} (hx:RA ⟨w,m⟩ G (lk st.objs) x v) :
  SRg base pass F0 m G { st with tmps:=st.tmps.set t x } (a.put (some t) v) w :=
 ⟨h.defers,by simpa [Act.put] using RAs.set h.tmps hx,h.objs,h.apart,h.mine,h.frame,h.old,h.new,h.small,h.lent⟩
theorem SRg.putO (h:SRg base pass F0 m G st a w) {t:Option Nat} {x:AV} {v:Value} (hx:RA ⟨w,m⟩ G (lk st.objs) x v) :
  SRg base pass F0 m G { st with tmps:=(match t with|some t=>st.tmps.set t x|none=>st.tmps) } (a.put t v) w:=by
 cases t with
 | none=>exact h
 | some t=>exact h.put hx
theorem SRg.obj (h:SRg base pass F0 m G st a w) (i:Nat) (o':Obj) (hF:Fix.le ⟨w,m⟩ ⟨w',m'⟩) (hG:∀ j,j≠i→G'.γ j=G.γ j∧G'.hd j=G.hd j)
  (hgo:∀ o,lk st.objs i=some o→(o'.isBox=true→o.isBox=true∧G'.γ i=G.γ i) ∧
   ∀ s els' k',o'=.row s els' k'→∃ els k,o=.row s els k∧els.length≤els'.length∧(els'.length=els.length→G'.γ i=G.γ i∧G'.hd i=G.hd i))
  (hok:Db G (lk st.objs) G' (lk (upd st.objs i o'))→Hd ⟨w',m'⟩ G' (lk (upd st.objs i o')) i o')
  (hother:∀ j o,j≠i→lk st.objs j=some o→o.owns=true→∀ b,G.γ j=some b→w'.heap[b]?=w.heap[b]?∧m' b=m b)
  (hmine:o'.owns=true→∀ b,G'.γ i=some b→b<w'.heap.size∧(base≤b∨pass b)∧∀ j o,j≠i→lk st.objs j=some o→o.owns=true→G.γ j≠some b)
  (hfr:Frame base pass w w') (hold:∀ b,b<base→¬ pass b→m' b=m b) (hnew:∀ b,w'.heap.size≤b→m' b=0) :
  Db G (lk st.objs) G' (lk (upd st.objs i o'))∧SRg base pass F0 m' G' { st with objs:=upd st.objs i o' } a w':=by
 have hgoes:Db G (lk st.objs) G' (lk (upd st.objs i o')):=by
  intro j o hj
  rw [Bm]
  by_cases hji:j=i
  ·subst hji
   rw [if_pos rfl]
   obtain ⟨g1,g2⟩:=hgo o hj
   exact ⟨o',rfl,g1,g2⟩
  ·rw [if_neg hji]
   obtain ⟨q1,q2⟩:=hG j hji
   exact ⟨o,hj,fun hb=>⟨hb,q1⟩,fun s els' k' he=>⟨els',k',he,cZ _,fun _=>⟨q1,q2⟩⟩⟩
 refine ⟨hgoes,?_⟩
 constructor
 ·exact h.defers
 ·exact RAs.mono hF hgoes h.tmps
 ·intro j o hj
  simp only [Bm] at hj
  by_cases hji:j=i
  ·subst hji
   rw [if_pos rfl] at hj
   injection hj with hj
   subst hj
   exact hok hgoes
  ·rw [if_neg hji] at hj
   obtain ⟨q1,q2⟩:=hG j hji
   exact Hd.mono hF hgoes q1 q2 (fun ho b hb=>hother j o hji hj ho b hb) (h.objs j o hj)
 ·intro j k oj ok b hj hk hoj hok' hbj hbk
  simp only [Bm] at hj hk
  by_cases hji:j=i
  ·by_cases hki:k=i
   ·rw [hji,hki]
   ·rw [if_pos hji] at hj
    rw [if_neg hki] at hk
    injection hj with hj
    subst hj
    subst hji
    rw [(hG k hki).1] at hbk
    exact absurd hbk ((hmine hoj b hbj).2.2 k ok hki hk hok')
  ·by_cases hki:k=i
   ·rw [if_neg hji] at hj
    rw [if_pos hki] at hk
    injection hk with hk
    subst hk
    subst hki
    rw [(hG j hji).1] at hbj
    exact absurd hbj ((hmine hok' b hbk).2.2 j oj hji hj hoj)
   ·rw [if_neg hji] at hj
    rw [if_neg hki] at hk
    rw [(hG j hji).1] at hbj
    rw [(hG k hki).1] at hbk
    exact h.apart j k oj ok b hj hk hoj hok' hbj hbk
 ·intro j o b hj ho hb
  simp only [Bm] at hj
  by_cases hji:j=i
  ·subst hji
   rw [if_pos rfl] at hj
   injection hj with hj
   subst hj
   exact ⟨(hmine ho b hb).1,(hmine ho b hb).2.1⟩
  ·rw [if_neg hji] at hj
   rw [(hG j hji).1] at hb
   obtain ⟨q1,q2⟩:=h.mine j o b hj ho hb
   exact ⟨Nat.lt_of_lt_of_le q1 hfr.size,q2⟩
 ·exact h.frame.trans hfr
 ·exact fun b hb hp=>(hold b hb hp).trans (h.old b hb hp)
 ·exact hnew
 ·exact Nat.le_trans h.small hfr.size
 ·exact h.lent.goes hgoes
theorem SRg.grow (h:SRg base pass F0 m G st a w) (hb:Below w.heap.size w w') (hm:∀ b,b<w.heap.size→m' b=m b) (hnew:∀ b,w'.heap.size≤b→m' b=0) :
  Fix.le ⟨w,m⟩ ⟨w',m'⟩∧SRg base pass F0 m' G st a w':=by
 have hF:Fix.le ⟨w,m⟩ ⟨w',m'⟩:=by
  refine ⟨fun b=>?_,fun b es c hmb hbb=>?_⟩
  rcases Nat.lt_or_ge b w.heap.size with hlt|hge
  ·refine ⟨by simp only;rw [hm b hlt];exact cZ _,fun off _=>?_⟩
   exact hb.cell (p:=⟨b,off,none⟩) hlt
  ·have:=h.new b hge
   exact ⟨by simp only;omega,fun off ho=>by simp only at ho;omega⟩
  ·rcases Nat.lt_or_ge b w.heap.size with hlt|hge
   ·rw [hb.block b hlt];exact hbb
   ·have:=h.new b hge
    simp only at hmb
    omega
 refine ⟨hF,?_⟩
 constructor
 ·exact h.defers
 ·exact RAs.mono hF (Db.refl _ _) h.tmps
 ·intro i o hi
  refine Hd.mono hF (Db.refl _ _) rfl rfl (fun ho b hbb=>?_) (h.objs i o hi)
  have hlt:=(h.mine i o b hi ho hbb).1
  exact ⟨hb.block b hlt,hm b hlt⟩
 ·exact h.apart
 ·intro i o b hi ho hbb
  obtain ⟨q1,q2⟩:=h.mine i o b hi ho hbb
  exact ⟨Nat.lt_of_lt_of_le q1 hb.size,q2⟩
 ·exact h.frame.trans ⟨hb.os,hb.tape,hb.output,hb.size,fun b hbb _=>hb.block b (Nat.lt_of_lt_of_le hbb h.small)⟩
 ·exact fun b hbb hp=>(hm b (Nat.lt_of_lt_of_le hbb h.small)).trans (h.old b hbb hp)
 ·exact hnew
 ·exact Nat.le_trans h.small hb.size
 ·exact h.lent
theorem SRg.drew (h:SRg base pass F0 m G st a w):SRg base pass F0 m G st a w.drew :=
 (h.grow (m':=m) ((Below.refl _ _).drew) (fun _ _=>rfl) h.new).2
end
def D.i:D→Int
 | .int _ n=>n
 | _=>0
def D.b:D→Bool
 | .bool b=>b
 | _=>false
def D.s:D→List UInt8
 | .str s=>s
 | _=>[]
def D.l:D→List D
 | .list _ l=>l
 | _=>[]
def D.isInt (k:IntKind):D→Prop
 | .int k' _=>k'=k
 | _=>False
def D.isBool:D→Prop
 | .bool _=>True
 | _=>False
def D.isStr:D→Prop
 | .str _=>True
 | _=>False
def D.isList (s:Nat):D→Prop
 | .list s' _=>s'=s
 | _=>False
def D.fits (s:Nat):D→Prop
 | .agg l=>l.length=s
 | .tup _=>False
 | _=>s=1
def D.cell:D→Nat→D
 | .agg l,f=>l.getD f .nilp
 | x,_=>x
def D.asAgg:D→D
 | .agg l=>.agg l
 | x=>.agg [x]
def el (l:List D) (i:Nat):D:=l.getD i .nilp
inductive TK where
 | int (k:IntKind)
 | bool
 | str
 | slice (e:Nat)
 | struct (fs:List (Nat×Nat))
 | array (n e:Nat)
 | ptr (e:Nat)
 | map (k e:Nat)
 | func
 | other
 deriving Inhabited
inductive SK where
 | int (k:IntKind)
 | bool
 | str
def SK.is:SK→D→Prop
 | .int k,x=>x.isInt k
 | .bool,x=>x.isBool
 | .str,x=>x.isStr
structure TI where
 kind:TK
 size:Nat
 bytes:Nat
 zero:AV
 zd:D
 eqk:List SK:=[]
 deriving Inhabited
inductive CV where
 | d (x:D)
 | own (s:Nat) (l:List D)
 | tup (l:List CV)
 deriving Inhabited
structure Con where
 modes:List Bool
 outs:List Bool
 pre:List CV→Prop
 fn:List CV→CV
structure BCon where
 X:Type
 ok:X→Prop
 args:X→List AV
 objs:X→List Obj
 res:X→D
 post:X→List Obj
 out:X→Option Nat:=fun _=>none
def BCon.rv (bc:BCon) (x:bc.X):AV:=match bc.out x with
 | none=>.d (bc.res x)
 | some j=>.mpr (90000+j)
structure Ctx where
 τ:Nat→TI
 Γ:Nat→Option Con
 dp:Nat:=60
 Δ:Nat→Option BCon:=fun _=>none
 cuts:List Nat:=[]
 wr:Bool:=false
def TK.ag:TK→Option Bool
 | .struct _=>some true
 | .array ..=>some true
 | .other=>none
 | _=>some false
def Ctx.size (C:Ctx) (t:Nat):Nat:=(C.τ t).size
def Ctx.ag (C:Ctx) (t:Nat):Option Bool:=(C.τ t).kind.ag
def Ctx.esize (C:Ctx) (t:Nat):Nat:=match (C.τ t).kind with
 | .slice e=>C.size e
 | .array _ e=>C.size e
 | _=>0
def constD:Value→Option D
 | .int k n=>some (.int k n)
 | .bool b=>some (.bool b)
 | .string s=>some (.str s.data.toList)
 | .nilFunc=>some .nilf
 | .pointer none=>some .nilp
 | .map none=>some .nilm
 | _=>none
def constAV (C:Ctx) (hint:Nat):Value→AV
 | .slice none 0 0=>.nils (C.esize hint)
 | v=>match constD v with
  | some x=>.d x
  | none=>.dead
def AS.ev (C:Ctx) (st:AS) (hint:Nat):Operand→AV
 | .tmp t=>st.tmps.getD t .dead
 | .const v=>constAV C hint v
 | .func f=>.d (.clo f [])
 | .global _=>.dead
def allD:List AV→Option (List D)
 | []=>some []
 | .d x::r=>match allD r with
  | some l=>some (x::l)
  | none=>none
 | _::_=>none
def mkAgg (l:List AV):AV:=match allD l with
 | some ds=>.d (.agg ds)
 | none=>.agg l
def mkTup (l:List AV):AV:=match allD l with
 | some ds=>.d (.tup ds)
 | none=>.tup l
def mkClo (f:Nat) (l:List AV):AV:=match allD l with
 | some ds=>.d (.clo f ds)
 | none=>.clo f l
def cellsFrom (x:D):(k n:Nat)→List AV
 | _,0=>[]
 | k,n+1=>.d (x.cell k)::cellsFrom x (k+1) n
def AV.cells (ag:Bool) (s:Nat):AV→List AV
 | .agg l=>l
 | .d (.agg l)=>l.map .d
 | .d x=>if ag then cellsFrom x 0 s else [.d x]
 | x=>[x]
def AV.fits (s:Nat):AV→Prop
 | .d x=>x.fits s
 | .agg l=>l.length=s
 | .tup _=>False
 | .dead=>False
 | _=>s=1
abbrev Gb:=List (Nat×Obj)
abbrev Out:=Option (Prop×AV×Gb)
def flatA:AV→Option D
 | .d x=>some x
 | .nils s=>some (.list s [])
 | _=>none
def flatAs:List AV→Option (List D)
 | []=>some []
 | x::l=>match flatA x with
  | some y=>match flatAs l with
   | some ys=>some (y::ys)
   | none=>none
  | none=>none
def leafA:AV→Gb→Option (Prop×D×Gb)
 | .d x,o=>some (True,x,o)
 | .nils s,o=>some (True,.list s [],o)
 | .sl i n,o=>match lk o i with
  | some (.row s els _)=>some (n=els.length,.list s els,upd o i (.row s els els.length))
  | _=>none
 | _,_=>none
def leafAs:List AV→Gb→Option (Prop×List D×Gb)
 | [],o=>some (True,[],o)
 | x::l,o=>match leafA x o with
  | some (c,y,o')=>match leafAs l o' with
   | some (c',ys,o'')=>some (c∧c',y::ys,o'')
   | none=>none
  | none=>none
mutual
def pur:Nat→AV→Gb→Option (Prop×D×Gb)
 | 0,_,_=>none
 | _+1,.d x,o=>some (True,x,o)
 | _+1,.nils s,o=>some (True,.list s [],o)
 | _+1,.sl i n,o=>match lk o i with
  | some (.row s els _)=>some (n=els.length,.list s els,upd o i (.row s els els.length))
  | _=>none
 | _+1,.mpr i,o=>match lk o i with
  | some (.mp ks vs _)=>some (True,.map ks vs,upd o i (.mp ks vs true))
  | _=>none
 | n+1,.ref i 0,o=>match lk o i with
  | some (.fbox s x)=>some (True,.ptr s x,o)
  | some (.box ag cells)=>match purs n cells o with
   | some (c,xs,o')=>match lk o' i with
    | some (.box _ _)=>match xs,ag with
     | xs,true=>some (c,.ptr xs.length (.agg xs),upd o' i (.fbox xs.length (.agg xs)))
     | [x],false=>some (c,.ptr 1 x,upd o' i (.fbox 1 x))
     | _,_=>none
    | _=>none
   | none=>none
  | _=>none
 | n+1,.agg l,o=>match flatAs l with
  | some xs=>some (True,.agg xs,o)
  | none=>match leafAs l o with
   | some (c,xs,o')=>some (c,.agg xs,o')
   | none=>match purs n l o with
    | some (c,xs,o')=>some (c,.agg xs,o')
    | none=>none
 | n+1,.tup l,o=>match purs n l o with
  | some (c,xs,o')=>some (c,.tup xs,o')
  | none=>none
 | n+1,.clo f l,o=>match purs n l o with
  | some (c,xs,o')=>some (c,.clo f xs,o')
  | none=>none
 | _+1,_,_=>none
def purs:Nat→List AV→Gb→Option (Prop×List D×Gb)
 | 0,_,_=>none
 | _+1,[],o=>some (True,[],o)
 | n+1,x::l,o=>match pur n x o with
  | some (c,y,o')=>match purs n l o' with
   | some (c',ys,o'')=>some (c∧c',y::ys,o'')
   | none=>none
  | none=>none
end
def ltB (a b:Int):Bool:=decide (a<b)
def leB (a b:Int):Bool:=decide (a≤b)
def minI (a b:Int):Int:=if b<a then b else a
def maxI (a b:Int):Int:=if a<b then b else a
def inR (k:IntKind) (n:Int):Prop:=k.min≤n∧n≤k.max
def D.eqb:D→D→Bool
 | .int _ a,.int _ b=>a==b
 | .bool a,.bool b=>a==b
 | .str a,.str b=>a==b
 | _,_=>false
def eqbAll:List D→List D→Bool
 | [],[]=>true
 | x::l,y::l'=>D.eqb x y&&eqbAll l l'
 | _,_=>false
def skAll:List SK→List D→Prop
 | [],[]=>True
 | k::ks,x::l=>k.is x∧skAll ks l
 | _,_=>False
def skIs (ks:List SK):D→Prop
 | .agg l=>skAll ks l
 | _=>False
def aggL:D→List D
 | .agg l=>l
 | _=>[]
def neL:D→Prop
 | .list _ l=>l≠[]
 | _=>False
def wrp (k:IntKind) (n:Int):Int:=k.wrap n
def hBin (C:Ctx) (op:BinOp) (t:Nat):AV→AV→Option (Prop×D)
 | .d x,.d y=>match (C.τ t).kind,op with
  | .int k,.add=>match C.wr with
   | false=>some (x.isInt k∧y.isInt k∧inR k (x.i+y.i),.int k (x.i+y.i))
   | true=>some (x.isInt k∧y.isInt k,.int k (wrp k (x.i+y.i)))
  | .int k,.sub=>match C.wr with
   | false=>some (x.isInt k∧y.isInt k∧inR k (x.i-y.i),.int k (x.i-y.i))
   | true=>some (x.isInt k∧y.isInt k,.int k (wrp k (x.i-y.i)))
  | .int k,.mul=>some (x.isInt k∧y.isInt k∧inR k (x.i*y.i),.int k (x.i*y.i))
  | .int k,.quo=>some (x.isInt k∧y.isInt k∧y.i≠0∧inR k (x.i.tdiv y.i),.int k (x.i.tdiv y.i))
  | .int k,.rem=>some (x.isInt k∧y.isInt k∧y.i≠0,.int k (x.i.tmod y.i))
  | .int k,.eql=>some (x.isInt k∧y.isInt k,.bool (x.i==y.i))
  | .int k,.neq=>some (x.isInt k∧y.isInt k,.bool (x.i != y.i))
  | .int k,.lss=>some (x.isInt k∧y.isInt k,.bool (ltB x.i y.i))
  | .int k,.leq=>some (x.isInt k∧y.isInt k,.bool (leB x.i y.i))
  | .int k,.gtr=>some (x.isInt k∧y.isInt k,.bool (ltB y.i x.i))
  | .int k,.geq=>some (x.isInt k∧y.isInt k,.bool (leB y.i x.i))
  | .int k,.shr=>match y with
   | .int _ n=>some (x.isInt k∧0≤n∧n≤k.bits,.int k (x.i.fdiv (2 ^ n.toNat)))
   | _=>none
  | .str,.add=>some (x.isStr∧y.isStr∧x.s.length+y.s.length≤9223372036854775807,.str (x.s++y.s))
  | .str,.eql=>some (x.isStr∧y.isStr,.bool (x.s==y.s))
  | .str,.neq=>some (x.isStr∧y.isStr,.bool (!(x.s==y.s)))
  | .str,.lss=>some (x.isStr∧y.isStr,.bool (Op.bytesLess x.s y.s))
  | .str,.leq=>some (x.isStr∧y.isStr,.bool (Op.bytesLess x.s y.s||x.s==y.s))
  | .str,.gtr=>some (x.isStr∧y.isStr,.bool (!(Op.bytesLess x.s y.s||x.s==y.s)))
  | .str,.geq=>some (x.isStr∧y.isStr,.bool (!(Op.bytesLess x.s y.s)))
  | .struct _,.eql=>match (C.τ t).eqk with
   | []=>none
   | ks=>some (skIs ks x∧skIs ks y,.bool (eqbAll (aggL x) (aggL y)))
  | .struct _,.neq=>match (C.τ t).eqk with
   | []=>none
   | ks=>some (skIs ks x∧skIs ks y,.bool (!eqbAll (aggL x) (aggL y)))
  | .bool,.eql=>some (x.isBool∧y.isBool,.bool (x.b==y.b))
  | .bool,.neq=>some (x.isBool∧y.isBool,.bool (!(x.b==y.b)))
  | _,_=>none
 | .d x,.nils _=>match (C.τ t).kind,op with
  | .slice _,.eql=>some (neL x,.bool false)
  | .slice _,.neq=>some (neL x,.bool true)
  | _,_=>none
 | _,_=>none
def hUn (C:Ctx) (op:UnOp) (t:Nat):AV→Option (Prop×D)
 | .d x=>match (C.τ t).kind,op with
  | .bool,.not=>some (x.isBool,.bool (!x.b))
  | .int k,.neg=>some (x.isInt k∧inR k (0-x.i),.int k (0-x.i))
  | _,_=>none
 | _=>none
def Lz (o:Gb):Option (Prop×D)→Out
 | some (c,x)=>some (c,.d x,o)
 | none=>none
def hPick (c a b:AV):Option AV:=match c with
 | .d (.bool true)=>some a
 | .d (.bool false)=>some b
 | _=>none
def splice (cells:List AV) (f:Nat) (xs:List AV):List AV:=cells.take f++xs++cells.drop (f+xs.length)
def hAlloc (C:Ctx) (e:Nat) (key:Nat) (x:AV) (o:Gb):Out :=
 match C.ag e,lk o key with
 | some ag,none=>some (x.fits (C.size e),.ref key 0,upd o key (.box ag (x.cells ag (C.size e))))
 | _,_=>none
def E4 (C:Ctx) (t:Nat) (p:AV) (o:Gb):Out:=match p with
 | .d (.ptr s x)=>match C.ag t with
  | some true=>if s=C.size t then some (True,.d x.asAgg,o) else none
  | some false=>if s=1 then some (True,.d (x.cell 0),o) else none
  | none=>none
 | .ref i f=>match lk o i with
  | some (.box _ cells)=>match C.ag t with
   | some true=>if f+C.size t≤cells.length then some (True,mkAgg ((cells.drop f).take (C.size t)),o) else none
   | some false=>if f<cells.length then some (True,cells.getD f .dead,o) else none
   | none=>none
  | some (.fbox s x)=>match C.ag t with
   | some true=>if f=0∧s=C.size t then some (True,.d x.asAgg,o) else none
   | some false=>if f<s then some (True,.d (x.cell f),o) else none
   | none=>none
  | _=>none
 | .rref i n e f=>match lk o i with
  | some (.row s els _)=>match C.ag t with
   | some true=>if f=0∧s=C.size t then some (n=els.length∧e<els.length,.d (el els e).asAgg,o) else none
   | some false=>if f<s then some (n=els.length∧e<els.length,.d ((el els e).cell f),o) else none
   | none=>none
  | _=>none
 | _=>none
def hLoad (C:Ctx) (t:Nat) (p:AV) (o:Gb):Out:=match p with
 | .rref i n e f=>match lk o (50000+i) with
  | some (.hole i' n0 e0 f0 x)=>if i'=i∧f0=f then match lk o i,C.ag t with
    | some (.row _ els _),some false=>some (n=n0∧n=els.length∧e=e0,x,o)
    | _,_=>none
   else E4 C t (.rref i n e f) o
  | _=>E4 C t (.rref i n e f) o
 | p=>E4 C t p o
def D.setCell:D→Nat→D→D
 | .agg l,f,y=>.agg (l.set f y)
 | _,_,y=>y
def Dd (C:Ctx) (t:Nat) (p x:AV) (o:Gb):Out:=match p with
 | .ref i f=>match lk o i with
  | some (.box ag cells)=>match C.ag t with
   | some true=>if f+C.size t≤cells.length then some (x.fits (C.size t),.dead,upd o i (.box ag (splice cells f (x.cells true (C.size t))))) else none
   | some false=>if f<cells.length then some (x.fits 1∧C.size t=1,.dead,upd o i (.box ag (splice cells f (x.cells false 1)))) else none
   | none=>none
  | _=>none
 | .rref i n e f=>match lk o i,pur C.dp x o with
  | some (.row _ _ _),some (c,y,o')=>match lk o' i with
   | some (.row s els k)=>match C.ag t with
    | some true=>if f=0∧s=C.size t then some (c∧n=els.length∧e<els.length∧k≤e∧y.fits s,.dead,upd o' i (.row s (els.set e y) k)) else none
    | some false=>if f<s then some (c∧n=els.length∧e<els.length∧k≤e∧y.fits 1∧C.size t=1,.dead,upd o' i (.row s (els.set e ((el els e).setCell f (y.cell 0))) k)) else none
    | none=>none
   | _=>none
  | _,_=>none
 | _=>none
def hStore (C:Ctx) (t:Nat) (p x:AV) (o:Gb):Out:=match p,x with
 | .rref i n e f,.sl j m=>match lk o (50000+i) with
  | some (.slot e0 f0)=>if f0=f then match lk o i,C.ag t with
    | some (.row s els k),some false=>if f<s then some (e=e0∧k≤e∧n=els.length∧e<els.length∧C.size t=1,.dead,upd (upd o i (.row s (els.set e ((el els e).setCell f .any)) (e+1))) (50000+i) (.hole i n e f (.sl j m))) else none
    | _,_=>none
   else Dd C t (.rref i n e f) (.sl j m) o
  | _=>Dd C t (.rref i n e f) (.sl j m) o
 | p,x=>Dd C t p x o
def Ctx.fieldAt (C:Ctx) (t f:Nat):Option (Nat×Nat):=match (C.τ t).kind with
 | .struct fs=>fs[f]?
 | _=>none
def Dp (C:Ctx) (t:Nat) (p:AV) (f:Nat) (o:Gb):Out:=match C.fieldAt t f with
 | some (off,sz)=>match p with
  | .ref i f0=>match lk o i with
   | some ob=>if ob.isBox=true then some (True,.ref i (f0+off),o) else none
   | none=>none
  | .rref i n e f0=>match lk o i with
   | some (.row _ els _)=>some (n=els.length,.rref i n e (f0+off),o)
   | _=>none
  | .d (.ptr s x)=>if s=C.size t∧sz=1∧off<s then some (True,.d (.ptr 1 (x.cell off)),o) else none
  | _=>none
 | none=>none
def D.isAgg (s:Nat):D→Prop
 | .agg l=>l.length=s
 | _=>False
def hField (C:Ctx) (t:Nat) (x:AV) (f:Nat) (o:Gb):Out:=match C.fieldAt t f with
 | some (off,sz)=>if sz=1∧off<C.size t then match x with
   | .d y=>some (y.isAgg (C.size t),.d (y.cell off),o)
   | .agg l=>if l.length=C.size t then some (True,l.getD off .dead,o) else none
   | _=>none
  else none
 | none=>none
def D.isAnyInt:D→Prop
 | .int _ _=>True
 | _=>False
def Dn (C:Ctx) (t:Nat) (x ix:AV) (o:Gb):Out:=match (C.τ t).kind,ix with
 | .slice e,.d i=>match x with
  | .d y=>some (y.isList (C.size e)∧i.isAnyInt∧0≤i.i∧i.i<y.l.length,.d (.ptr (C.size e) (el y.l i.i.toNat)),o)
  | .sl k n=>match lk o k with
   | some (.row s els _)=>if s=C.size e then some (n=els.length∧i.isAnyInt∧0≤i.i∧i.i<els.length,.rref k n i.i.toNat 0,o) else none
   | _=>none
  | .sb k n f=>match lk o k with
   | some (.row s els _)=>if s=C.size e then some (n=els.length∧i.isAnyInt∧0≤i.i∧(f:Int)+i.i<els.length,.rref k n (f+i.i.toNat) 0,o) else none
   | _=>none
  | _=>none
 | .array n e,.d (.int _ j)=>if 0≤j∧j<n∧C.size e=1 then match x with
   | .ref i f0=>match lk o i with
    | some ob=>if ob.isBox=true then some (True,.ref i (f0+j.toNat),o) else none
    | none=>none
   | .d (.ptr s y)=>if s=n then some (True,.d (.ptr 1 (y.cell j.toNat)),o) else none
   | _=>none
  else none
 | _,_=>none
def hIndex (C:Ctx) (t:Nat) (x ix:AV) (o:Gb):Out:=match (C.τ t).kind,x,ix with
 | .str,.d y,.d i=>some (y.isStr∧i.isAnyInt∧0≤i.i∧i.i<y.s.length,.d (.int .u8 ((y.s.getD i.i.toNat 0).toNat:Int)),o)
 | _,_,_=>none
def hSlice (C:Ctx) (t:Nat) (x:AV) (lo hi:Option AV) (mx:Option AV) (o:Gb):Out:=match (C.τ t).kind,mx with
 | .str,none=>match x with
  | .d y=>match lo,hi with
   | some (.d a),some (.d b)=>some (y.isStr∧a.isAnyInt∧b.isAnyInt∧0≤a.i∧a.i≤b.i∧b.i≤y.s.length,.d (.str ((y.s.take b.i.toNat).drop a.i.toNat)),o)
   | some (.d a),none=>some (y.isStr∧a.isAnyInt∧0≤a.i∧a.i≤y.s.length,.d (.str (y.s.drop a.i.toNat)),o)
   | none,some (.d b)=>some (y.isStr∧b.isAnyInt∧0≤b.i∧b.i≤y.s.length,.d (.str (y.s.take b.i.toNat)),o)
   | _,_=>none
  | _=>none
 | .slice e,none=>match pur C.dp x o with
  | some (c,y,o')=>match lo,hi with
   | some (.d a),some (.d b)=>some (c∧y.isList (C.size e)∧a.isAnyInt∧b.isAnyInt∧0≤a.i∧a.i≤b.i∧b.i≤y.l.length,.d (.list (C.size e) ((y.l.take b.i.toNat).drop a.i.toNat)),o')
   | some (.d a),none=>some (c∧y.isList (C.size e)∧a.isAnyInt∧0≤a.i∧a.i≤y.l.length,.d (.list (C.size e) (y.l.drop a.i.toNat)),o')
   | none,some (.d b)=>some (c∧y.isList (C.size e)∧b.isAnyInt∧0≤b.i∧b.i≤y.l.length,.d (.list (C.size e) (y.l.take b.i.toNat)),o')
   | _,_=>none
  | none=>none
 | .slice e,some (.d m)=>match pur C.dp x o with
  | some (c,y,o')=>match lo,hi with
   | some (.d a),some (.d b)=>some (c∧y.isList (C.size e)∧a.isAnyInt∧b.isAnyInt∧m.isAnyInt∧0≤a.i∧a.i≤b.i∧b.i≤m.i∧m.i≤y.l.length,.d (.list (C.size e) ((y.l.take b.i.toNat).drop a.i.toNat)),o')
   | _,_=>none
  | none=>none
 | _,_=>none
def zerosD (z:D):Nat→List D
 | 0=>[]
 | n+1=>z::zerosD z n
def setAll:List D→List (Nat×D)→List D
 | l,[]=>l
 | l,(i,x)::r=>setAll (l.set i x) r
def allFit (s:Nat):List D→Prop
 | []=>True
 | x::l=>x.fits s∧allFit s l
def Dg (C:Ctx):List (Nat×AV)→Gb→Option (Prop×List (Nat×D)×Gb)
 | [],o=>some (True,[],o)
 | (i,x)::r,o=>match pur C.dp x o with
  | some (c,y,o')=>match Dg C r o' with
   | some (c',l,o'')=>some (c∧c',(i,y)::l,o'')
   | none=>none
  | none=>none
def allLt (n:Nat):List (Nat×AV)→Bool
 | []=>true
 | (i,_)::r=>decide (i<n)&&allLt n r
def Dq (C:Ctx) (t n:Nat) (Rw:List (Nat×AV)) (key:Nat) (o:Gb):Out:=match (C.τ t).kind with
 | .slice e=>match Dg C Rw o with
  | some (c,ps,o')=>match lk o' key with
   | none=>if n*C.size e≤16777216∧allLt n Rw=true then
     some (c∧allFit (C.size e) (ps.map (·.2)),.sl key n,upd o' key (.row (C.size e) (setAll (zerosD (C.τ e).zd n) ps) 0)) else none
   | some _=>none
  | none=>none
 | _=>none
def C1 (o:Gb) (fs:List (Nat×Nat)):List AV→List (Nat×AV)→Prop→Out
 | cells,[],c=>some (c,mkAgg cells,o)
 | cells,(i,x)::r,c=>match fs[i]? with
  | some (off,sz)=>if sz=1∧off<cells.length then C1 o fs (cells.set off ((x.cells false 1).getD 0 .dead)) r (c∧x.fits 1) else none
  | none=>none
def hBuild (C:Ctx) (t:Nat) (Rw:List (Nat×AV)) (o:Gb):Out:=match (C.τ t).kind with
 | .struct fs=>C1 o fs ((C.τ t).zero.cells true (C.size t)) Rw ((C.τ t).zero.fits (C.size t))
 | _=>none
def E3 (C:Ctx) (t:Nat) (l c:AV) (key:Nat) (o:Gb):Out:=match (C.τ t).kind,l,c with
 | .slice e,.d a,.d b=>match lk o key with
  | none=>some (a.isAnyInt∧b.isAnyInt∧0≤a.i∧a.i=b.i∧(C.τ e).bytes*b.i≤281474976710656∧b.i≤4294967296,
    .sl key a.i.toNat,upd o key (.row (C.size e) (List.replicate a.i.toNat (C.τ e).zd) 0))
  | some _=>none
 | _,_,_=>none
def De (s:Nat) (x:AV) (o:Gb):Option (Prop×List D):=match x with
 | .d y=>some (y.isList s,y.l)
 | .nils _=>some (True,[])
 | .sl i n=>match lk o i with
  | some (.row s' els _)=>if s'=s then some (n=els.length,els) else none
  | _=>none
 | _=>none
def hAppend (C:Ctx) (t:Nat) (s x:AV) (key:Nat) (o:Gb):Out:=match (C.τ t).kind with
 | .slice e=>match De (C.size e) x o with
  | some (c,xs)=>match s with
   | .nils _=>match lk o key with
    | none=>some (c∧xs.length*(C.τ e).bytes≤140737488355328∧xs.length≤4611686018427387904,.sl key xs.length,upd o key (.row (C.size e) xs 0))
    | some _=>none
   | .sl i n=>match lk o i with
    | some (.row s' els k)=>if s'=C.size e then
      some (c∧n=els.length∧(els.length+xs.length)*(C.τ e).bytes≤140737488355328∧els.length+xs.length≤4611686018427387904,.sl i (els++xs).length,upd o i (.row s' (els++xs) k)) else none
    | _=>none
   | _=>none
  | none=>none
 | _=>none
def hLen (C:Ctx) (t:Nat) (x:AV) (o:Gb):Out:=match (C.τ t).kind,x with
 | .str,.d y=>some (y.isStr,.d (.int .i64 y.s.length),o)
 | .slice e,.d y=>some (y.isList (C.size e),.d (.int .i64 y.l.length),o)
 | .slice _,.nils _=>some (True,.d (.int .i64 0),o)
 | .slice _,.sl i n=>match lk o i with
  | some (.row _ els _)=>some (n=els.length,.d (.int .i64 els.length),o)
  | _=>none
 | .slice _,.sb i n f=>match lk o i with
  | some (.row _ els _)=>some (n=els.length,.d (.int .i64 (els.length-f:Nat)),o)
  | _=>none
 | _,_=>none
def hMin (C:Ctx) (t:Nat):AV→AV→Option (Prop×D)
 | .d x,.d y=>match (C.τ t).kind with
  | .int k=>some (x.isInt k∧y.isInt k,.int k (minI x.i y.i))
  | _=>none
 | _,_=>none
def hMax (C:Ctx) (t:Nat):AV→AV→Option (Prop×D)
 | .d x,.d y=>match (C.τ t).kind with
  | .int k=>some (x.isInt k∧y.isInt k,.int k (maxI x.i y.i))
  | _=>none
 | _,_=>none
def hConv (C:Ctx) (s t:Nat):AV→Option (Prop×D)
 | .d x=>match (C.τ s).kind,(C.τ t).kind with
  | .int k,.int k'=>some (x.isInt k∧inR k' x.i,.int k' x.i)
  | .str,.str=>some (x.isStr,x)
  | _,_=>none
 | _=>none
def Ia (x:AV) (i:Nat) (o:Gb):Out:=match x with
 | .tup l=>if i<l.length then some (True,l.getD i .dead,o) else none
 | .d (.tup l)=>if i<l.length then some (True,.d (l.getD i .nilp),o) else none
 | _=>none
def Dm (k:TK) (x:D):Prop:=match k with
 | .int kk=>x.isInt kk
 | .str=>x.isStr
 | _=>False
def D8 (k:TK):List D→Prop
 | []=>True
 | x::l=>Dm k x∧D8 k l
def mHas (x:D):List D→Bool
 | []=>false
 | y::l=>D.eqb x y||mHas x l
def mGet (x z:D):List D→List D→D
 | y::ks,v::vs=>cond (D.eqb x y) v (mGet x z ks vs)
 | _,_=>z
def mSetK (x:D) (ks:List D):List D:=cond (mHas x ks) ks (ks++[x])
def mSetV (x v:D):List D→List D→List D
 | y::ks,u::vs=>cond (D.eqb x y) (v::vs) (u::mSetV x v ks vs)
 | _,_=>[v]
def mapRes (C:Ctx) (kt et:Nat) (ks vs:List D) (i:D) (ok:Bool) (o:Gb):Out:=match C.ag et with
 | some _=>match ok with
  | true=>some (Dm (C.τ kt).kind i∧D8 (C.τ kt).kind ks,.d (.tup [mGet i (C.τ et).zd ks vs,.bool (mHas i ks)]),o)
  | false=>some (Dm (C.τ kt).kind i∧D8 (C.τ kt).kind ks,.d (mGet i (C.τ et).zd ks vs),o)
 | none=>none
def hLookup (C:Ctx) (t:Nat) (x ix:AV) (ok:Bool) (o:Gb):Out:=match (C.τ t).kind,ix with
 | .map kt et,.d i=>match x with
  | .d (.map ks vs)=>mapRes C kt et ks vs i ok o
  | .mpr j=>match lk o j with
   | some (.mp ks vs _)=>mapRes C kt et ks vs i ok o
   | _=>none
  | _=>none
 | _,_=>none
def hMapUpdate (C:Ctx) (t:Nat) (x ix v:AV) (o:Gb):Out:=match (C.τ t).kind,ix,x with
 | .map kt _,.d i,.mpr j=>match pur C.dp v o with
  | some (c,y,o')=>match lk o' j with
   | some (.mp ks vs false)=>some (c∧Dm (C.τ kt).kind i∧D8 (C.τ kt).kind ks,.dead,upd o' j (.mp (mSetK i ks) (mSetV i y ks vs) false))
   | _=>none
  | none=>none
 | _,_,_=>none
def hMakeMap (key:Nat) (o:Gb):Out:=match lk o key with
 | none=>some (True,.mpr key,upd o key (.mp [] [] false))
 | some _=>none
def Ctx.mapE (C:Ctx) (t:Nat):Nat:=match (C.τ t).kind with
 | .map _ e=>e
 | _=>0
def Sk (C:Ctx):List Bool→List AV→Gb→Option (Prop×List CV×Gb)
 | _,[],o=>some (True,[],o)
 | [],_::_,_=>none
 | false::ms,x::r,o=>match pur C.dp x o with
  | some (c,y,o')=>match Sk C ms r o' with
   | some (c',l,o'')=>some (c∧c',.d y::l,o'')
   | none=>none
  | none=>none
 | true::ms,x::r,o=>match x with
  | .sl i n=>match lk o i with
   | some (.row s els k)=>match Sk C ms r (upd o i .gone) with
    | some (c,l,o')=>some (c∧n=els.length∧k=0∧0<s,.own s els::l,o')
    | none=>none
   | _=>none
  | .nils s=>match Sk C ms r o with
   | some (c,l,o')=>some (c,.own s []::l,o')
   | none=>none
  | _=>none
def R9 (key:Nat) (x:CV) (o:Gb):Option (AV×Gb):=match x with
 | .d y=>some (.d y,o)
 | .own s l=>match lk o key with
  | none=>some (.sl key l.length,upd o key (.row s l 0))
  | some _=>none
 | .tup _=>none
def E1 (key:Nat):List CV→Gb→Option (List AV×Gb)
 | [],o=>some ([],o)
 | x::r,o=>match R9 key x o with
  | some (y,o')=>match E1 (key+4096) r o' with
   | some (l,o'')=>some (y::l,o'')
   | none=>none
  | none=>none
def outCV (key:Nat) (x:CV) (o:Gb):Option (AV×Gb):=match x with
 | .tup l=>match E1 key l o with
  | some (ys,o')=>some (mkTup ys,o')
  | none=>none
 | x=>R9 key x o
def hCall (C:Ctx) (f:Nat) (args:List AV) (key:Nat) (o:Gb):Out:=match C.Γ f with
 | some con=>match Sk C con.modes args o with
  | some (c,cvs,o')=>match outCV key (con.fn cvs) o' with
   | some (y,o'')=>some (c∧con.pre cvs,y,o'')
   | none=>none
  | none=>none
 | none=>none
def hCallV (C:Ctx) (f:AV) (args:List AV) (key:Nat) (o:Gb):Out:=match f with
 | .d (.clo g caps)=>hCall C g (args++caps.map .d) key o
 | .clo g caps=>hCall C g (args++caps) key o
 | _=>none
def evs (C:Ctx) (st:AS):List Operand→List Nat→List AV
 | [],_=>[]
 | x::r,[]=>st.ev C 0 x::evs C st r []
 | x::r,t::ts=>st.ev C t x::evs C st r ts
def evO (C:Ctx) (st:AS) (t:Nat):Option Operand→Option AV
 | some x=>some (st.ev C t x)
 | none=>none
def L1 (C:Ctx) (st:AS) (h:Nat):List (Nat×Operand)→List (Nat×AV)
 | []=>[]
 | (i,x)::r=>(i,st.ev C h x)::L1 C st h r
def Ctx.elemT (C:Ctx) (t:Nat):Nat:=match (C.τ t).kind with
 | .slice e=>e
 | .array _ e=>e
 | _=>0
def u8s:List D→Prop
 | []=>True
 | x::l=>x.isInt .u8∧u8s l
def u8b:List D→List UInt8
 | []=>[]
 | x::l=>UInt8.ofNat x.i.toNat::u8b l
def hConvO (C:Ctx) (s t:Nat) (x:AV) (o:Gb):Out:=match (C.τ s).kind,(C.τ t).kind with
 | .slice e,.str=>match (C.τ e).kind,De 1 x o with
  | .int .u8,some (c,xs)=>some (c∧u8s xs,.d (.str (u8b xs)),o)
  | _,_=>none
 | _,_=>Lz o (hConv C s t x)
def Dh (C:Ctx) (o:Oper) (st:AS):Out:=match o.op with
 | .move x=>some (True,st.ev C o.type x,st.objs)
 | .assign x=>some (True,st.ev C o.type x,st.objs)
 | .pick c a b=>match hPick (st.ev C 0 c) (st.ev C o.type a) (st.ev C o.type b) with
  | some x=>some (True,x,st.objs)
  | none=>none
 | .alloc e=>match o.dst with
  | some k=>hAlloc C e k (C.τ e).zero st.objs
  | none=>none
 | .box e x=>match o.dst with
  | some k=>hAlloc C e k (st.ev C e x) st.objs
  | none=>none
 | .build t ps=>hBuild C t (L1 C st 0 ps.toList) st.objs
 | .buildSlice t n ps=>match o.dst with
  | some k=>Dq C t n (L1 C st (C.elemT t) ps.toList) k st.objs
  | none=>none
 | .load t p=>hLoad C t (st.ev C 0 p) st.objs
 | .store t p x=>hStore C t (st.ev C 0 p) (st.ev C t x) st.objs
 | .binOp op t x y _=>Lz st.objs (hBin C op t (st.ev C t x) (st.ev C t y))
 | .unOp op t x=>Lz st.objs (hUn C op t (st.ev C t x))
 | .convert s t x=>hConvO C s t (st.ev C s x) st.objs
 | .makeFunc (.func f) first caps=>match first.toList with
  | []=>some (True,mkClo f (evs C st caps.toList []),st.objs)
  | _=>none
 | .makeSlice t l c=>match o.dst with
  | some k=>E3 C t (st.ev C 0 l) (st.ev C 0 c) k st.objs
  | none=>none
 | .slice t x lo hi mx=>hSlice C t (st.ev C t x) (evO C st 0 lo) (evO C st 0 hi) (evO C st 0 mx) st.objs
 | .makeMap _ none=>match o.dst with
  | some k=>hMakeMap k st.objs
  | none=>none
 | .lookup t x i ok=>hLookup C t (st.ev C 0 x) (st.ev C 0 i) ok st.objs
 | .mapUpdate t x i v=>hMapUpdate C t (st.ev C 0 x) (st.ev C 0 i) (st.ev C (C.mapE t) v) st.objs
 | .fieldAddr t p f=>Dp C t (st.ev C 0 p) f st.objs
 | .field t x f=>hField C t (st.ev C t x) f st.objs
 | .indexAddr t x i=>Dn C t (st.ev C t x) (st.ev C 0 i) st.objs
 | .index t x i=>hIndex C t (st.ev C t x) (st.ev C 0 i) st.objs
 | .extract x i=>Ia (st.ev C 0 x) i st.objs
 | .call c=>match c.callee with
  | .builtin .len=>match c.args.toList,c.argTypes.toList with
   | [x],[t]=>hLen C t (st.ev C t x) st.objs
   | _,_=>none
  | .builtin .append=>match c.args.toList,c.argTypes.toList,o.dst with
   | [s,x],[t,t'],some k=>if t=t' then hAppend C t (st.ev C t s) (st.ev C t' x) k st.objs else none
   | _,_,_=>none
  | .builtin .min=>match c.args.toList,c.argTypes.toList with
   | [x,y],t::_=>Lz st.objs (hMin C t (st.ev C t x) (st.ev C t y))
   | _,_=>none
  | .builtin .max=>match c.args.toList,c.argTypes.toList with
   | [x,y],t::_=>Lz st.objs (hMax C t (st.ev C t x) (st.ev C t y))
   | _,_=>none
  | .value (.func f)=>match o.dst with
   | some k=>hCall C f (evs C st c.args.toList c.argTypes.toList) k st.objs
   | none=>none
  | .value (.tmp f)=>match o.dst with
   | some k=>hCallV C (st.ev C 0 (.tmp f)) (evs C st c.args.toList c.argTypes.toList) k st.objs
   | none=>none
  | _=>none
 | _=>none
def AS.put (st:AS) (dst:Option Tmp) (x:AV) (o:Gb):AS:=⟨match dst with|some t=>st.tmps.set t x|none=>st.tmps,o⟩
def aExecD (C:Ctx) (o:Oper) (K:AS→Prop) (st:AS):Prop:=match Dh C o st with
 | some (c,x,os)=>c∧K (st.put o.dst x os)
 | none=>False
def rk (rs:List Nat) (i:Nat):Nat:=rs.getD (i-90000) 0
mutual
def rnA (rs:List Nat):AV→AV
 | .d x=>.d x
 | .ref i f=>.ref (rk rs i) f
 | .rref i n e f=>.rref (rk rs i) n e f
 | .sl i n=>.sl (rk rs i) n
 | .sb i n f=>.sb (rk rs i) n f
 | .mpr i=>.mpr (rk rs i)
 | .agg l=>.agg (rnAs rs l)
 | .tup l=>.tup (rnAs rs l)
 | .clo f l=>.clo f (rnAs rs l)
 | .nils s=>.nils s
 | .dead=>.dead
def rnAs (rs:List Nat):List AV→List AV
 | []=>[]
 | x::l=>rnA rs x::rnAs rs l
end
def rnO (rs:List Nat):Obj→Obj
 | .box ag cells=>.box ag (rnAs rs cells)
 | .fbox s x=>.fbox s x
 | .row s els k=>.row s els k
 | .mp ks vs f=>.mp ks vs f
 | .gone=>.gone
 | .hole i n e f x=>.hole i n e f x
 | .slot e f=>.slot e f
def Cl (rs0:List Nat):List Nat→List Obj→Gb→Prop
 | _,[],_=>True
 | [],_::_,_=>False
 | k::ks,x::l,o=>lk o k=some (rnO rs0 x)∧Cl rs0 ks l o
def freeAt:List Nat→Gb→Prop
 | [],_=>True
 | k::ks,o=>lk o k=none∧freeAt ks o
def Sp (rs0:List Nat):List Nat→List Obj→Gb→Gb
 | k::ks,x::l,o=>Sp rs0 ks l (upd o k (rnO rs0 x))
 | _,_,o=>o
def BCon.rvr (bc:BCon) (rs:List Nat) (x:bc.X):AV:=match bc.out x with
 | none=>.d (bc.res x)
 | some j=>.mpr (rk rs (90000+j))
def aCallB (bc:BCon) (args:List AV) (dst:Option Tmp) (K:AS→Prop) (st:AS):Prop :=
 ∃ (x:bc.X) (rs:List Nat),bc.ok x∧rnAs rs (bc.args x)=args∧rs.Nodup∧rs.length=(bc.post x).length∧Cl rs rs (bc.objs x) st.objs∧freeAt (rs.drop (bc.objs x).length) st.objs ∧
  K (AS.put st dst (bc.rvr rs x) (Sp rs rs (bc.post x) st.objs))
def bOf (C:Ctx) (o:Oper) (st:AS):Option (BCon×List AV):=match o.op with
 | .call c=>match c.callee with
  | .value (.func f)=>match C.Δ f with
   | some bc=>some (bc,evs C st c.args.toList c.argTypes.toList)
   | none=>none
  | .value (.tmp f)=>match st.ev C 0 (.tmp f) with
   | .d (.clo g caps)=>match C.Δ g with
    | some bc=>some (bc,evs C st c.args.toList c.argTypes.toList++caps.map .d)
    | none=>none
   | .clo g caps=>match C.Δ g with
    | some bc=>some (bc,evs C st c.args.toList c.argTypes.toList++caps)
    | none=>none
   | _=>none
  | _=>none
 | _=>none
mutual
def AV.off (i:Nat):AV→Bool
 | .d _=>true
 | .ref j _=>j != i
 | .rref j _ _ _=>j != i
 | .sl j _=>j != i
 | .sb j _ _=>j != i
 | .mpr j=>j != i
 | .agg l=>offAll i l
 | .tup l=>offAll i l
 | .clo _ l=>offAll i l
 | .nils _=>true
 | .dead=>true
def offAll (i:Nat):List AV→Bool
 | []=>true
 | x::l=>x.off i&&offAll i l
end
def Dl (i:Nat):List AV→List AV
 | []=>[]
 | x::l=>cond (x.off i) x .dead::Dl i l
def T5 (i:Nat):Gb→Bool
 | []=>true
 | (_,.box _ cells)::r=>offAll i cells&&T5 i r
 | (_,.hole j _ _ _ x)::r=>(j != i&&x.off i)&&T5 i r
 | _::r=>T5 i r
def hasN:List Nat→Nat→Bool
 | [],_=>false
 | x::l,d=>if x=d then true else hasN l d
def cutOf (C:Ctx) (o:Oper) (st:AS):Option (Nat×Nat×D×Nat×List D×Nat):=match o.op,o.dst with
 | .slice t x none (some hi) none,some d=>if hasN C.cuts d=true then match (C.τ t).kind,st.ev C t x,st.ev C 0 hi with
   | .slice e,.sl i n,.d b=>match lk st.objs i with
    | some (.row s els k)=>if s=C.size e then some (i,n,b,s,els,k) else none
    | _=>none
   | _,_,_=>none
  else none
 | _,_=>none
def extStep (C:Ctx) (o:Oper) (st:AS):Out:=match o.op with
 | .slice t x (some lo) none none=>match o.dst with
  | some d=>if hasN C.cuts d=true then match (C.τ t).kind,st.ev C t x,st.ev C 0 lo with
    | .slice e,.sl i n,.d a=>match lk st.objs i with
     | some (.row s els _)=>if s=C.size e then some (n=els.length∧a.isAnyInt∧0≤a.i∧a.i<els.length,.sb i n a.i.toNat,st.objs) else none
     | _=>none
    | _,_,_=>none
   else none
  | none=>none
 | .call c=>match c.callee with
  | .builtin .clear=>match c.args.toList,c.argTypes.toList with
   | [x],[t]=>match (C.τ t).kind,st.ev C t x with
    | .slice e,.sb i n f=>match lk st.objs i with
     | some (.row s els k)=>if s=C.size e∧s=1 then some (n=els.length∧k≤f,.d (.tup []),upd st.objs i (.row s (els.take f++List.replicate (els.length-f) (C.τ e).zd) k)) else none
     | _=>none
    | _,_=>none
   | _,_=>none
  | _=>none
 | _=>none
def nilArg (C:Ctx) (t:Nat) (x y:AV) (o:Gb):Option (Prop×List D):=match (C.τ t).kind,x,y with
 | .slice e,.d d,.nils _=>some (d.isList (C.size e),d.l)
 | .slice _,.sl i n,.nils _=>match lk o i with
  | some (.row _ els _)=>some (n=els.length,els)
  | _=>none
 | _,_,_=>none
def nilOf (C:Ctx) (o:Oper) (st:AS):Option (Prop×List D×Bool):=match o.op with
 | .binOp .eql t x y _=>match o.dst with
  | some d=>if hasN C.cuts d=true then match nilArg C t (st.ev C t x) (st.ev C t y) st.objs with
    | some (c,l)=>some (c,l,true)
    | none=>none
   else none
  | none=>none
 | .binOp .neq t x y _=>match o.dst with
  | some d=>if hasN C.cuts d=true then match nilArg C t (st.ev C t x) (st.ev C t y) st.objs with
    | some (c,l)=>some (c,l,false)
    | none=>none
   else none
  | none=>none
 | _=>none
def aExec (C:Ctx) (o:Oper) (K:AS→Prop) (st:AS):Prop:=match bOf C o st with
 | some (bc,args)=>aCallB bc args o.dst K st
 | none=>match cutOf C o st with
  | some (i,n,b,s,els,k)=>(n=els.length∧b.isAnyInt∧0≤b.i∧b.i≤els.length∧(k:Int)≤b.i∧T5 i st.objs=true∧i<90000) ∧
    K (AS.put ⟨Dl i st.tmps,st.objs⟩ o.dst (.sl i b.i.toNat) (upd st.objs i (.row s (els.take b.i.toNat) k)))
  | none=>match extStep C o st with
   | some (c,x,os)=>c∧K (st.put o.dst x os)
   | none=>match nilOf C o st with
    | some (c,l,b)=>c∧(l=[]→K (st.put o.dst (.d (.bool b)) st.objs))∧K (st.put o.dst (.d (.bool (!b))) st.objs)
    | none=>aExecD C o K st
inductive GV where
 | b (t:Nat) (v:Bool)
 | und
 | no
def Ml (ops:List Oper) (st:AS) (j:Nat):GV:=match ops[j]? with
 | some g=>match g.dst with
  | some t=>match st.tmps.getD t .dead with
   | .d (.bool b)=>.b t b
   | .d (.tup [])=>.und
   | _=>.no
  | none=>.no
 | none=>.no
def GV.skips:GV→Bool→Prop
 | .b _ v,want=>v≠want
 | .und,_=>True
 | .no,_=>False
def GV.runs:GV→Bool→Prop
 | .b _ v,want=>v=want
 | _,_=>False
def ifB (b:Bool) (P Q:Prop):Prop:=(b=true→P)∧(b=false→Q)
def ifG (b want:Bool) (P Q:Prop):Prop:=(b=want→P)∧(b=(!want)→Q)
def aOp (C:Ctx) (ops:List Oper) (o:Oper) (K:AS→Prop) (st:AS):Prop:=match o.guard with
 | none=>aExec C o K st
 | some (j,want)=>match Ml ops st j with
  | .b t b=>ifG b want (aExec C o K { st with tmps:=st.tmps.set t (.d (.bool want)) })
    (K (AS.put { st with tmps:=st.tmps.set t (.d (.bool (!want))) } o.dst (.d (.tup [])) st.objs))
  | .und=>K (AS.put st o.dst (.d (.tup [])) st.objs)
  | .no=>False
def aOps (C:Ctx) (ops:List Oper):List Oper→(AS→Prop)→AS→Prop
 | [],K,st=>K st
 | o::r,K,st=>aOp C ops o (aOps C ops r K) st
mutual
def AV.keys:AV→List Nat
 | .d _=>[]
 | .ref i _=>[i]
 | .rref i _ _ _=>[i,50000+i]
 | .sl i _=>[i]
 | .sb i _ _=>[i]
 | .mpr i=>[i]
 | .agg l=>keysAll l
 | .tup l=>keysAll l
 | .clo _ l=>keysAll l
 | .nils _=>[]
 | .dead=>[]
def keysAll:List AV→List Nat
 | []=>[]
 | x::l=>x.keys++keysAll l
end
def Ht:Op→List Operand
 | .move x=>[x]
 | .assign x=>[x]
 | .pick c a b=>[c,a,b]
 | .box _ x=>[x]
 | .build _ ps=>ps.toList.map (·.2)
 | .buildSlice _ _ ps=>ps.toList.map (·.2)
 | .load _ p=>[p]
 | .store _ p x=>[p,x]
 | .binOp _ _ x y _=>[x,y]
 | .unOp _ _ x=>[x]
 | .convert _ _ x=>[x]
 | .makeFunc _ _ caps=>caps.toList
 | .makeSlice _ l c=>[l,c]
 | .slice _ x lo hi mx=>x::(lo.toList++hi.toList++mx.toList)
 | .fieldAddr _ p _=>[p]
 | .field _ x _=>[x]
 | .indexAddr _ x i=>[x,i]
 | .index _ x i=>[x,i]
 | .lookup _ x i _=>[x,i]
 | .mapUpdate _ x i v=>[x,i,v]
 | .extract x _=>[x]
 | .call c=>match c.callee with
  | .value f=>f::c.args.toList
  | _=>c.args.toList
 | _=>[]
def Bk:Op→List Operand
 | .move _=>[]
 | o=>Ht o
def makes:Op→Bool
 | .alloc _=>true
 | .box _ _=>true
 | .buildSlice _ _ _=>true
 | .makeSlice _ _ _=>true
 | .makeMap _ _=>true
 | .call c=>match c.callee with
  | .builtin .append=>true
  | .value _=>true
  | _=>false
 | _=>false
def roOf:Op→Bool
 | .load ..=>true
 | .lookup ..=>true
 | .fieldAddr ..=>true
 | .indexAddr ..=>true
 | .move _=>true
 | .assign _=>true
 | .extract ..=>true
 | .pick ..=>true
 | .build ..=>true
 | .field ..=>true
 | .index ..=>true
 | .binOp ..=>true
 | .unOp ..=>true
 | .convert ..=>true
 | .makeFunc ..=>true
 | .call c=>match c.callee with
  | .builtin .len=>true
  | _=>false
 | _=>false
def ownKey:Option Nat→Op→List Nat
 | some k,o=>if makes o=true then [k] else []
 | none,_=>[]
def Iz (C:Ctx) (o:Oper) (st:AS):List Nat:=(keysAll ((Bk o.op).map (st.ev C 0))++ownKey o.dst o.op).map (· % 4096)
def maskOf:List Edge→List Nat→Nat
 | [],_=>0
 | e::r,acc=>if Region.binds .any e=true then (2 ^ e.on ||| acc.getD e.on 0) ||| maskOf r acc else maskOf r acc
def masksGo:List Oper→List Nat→List Nat
 | [],acc=>acc
 | o::r,acc=>masksGo r (acc++[maskOf o.after.toList acc])
def masks (ops:List Oper):List Nat:=masksGo ops []
def tmpOf:Operand→List Nat
 | .tmp t=>[t]
 | _=>[]
def looks (ops:List Oper) (o:Oper):List Nat:=(Ht o.op).flatMap tmpOf++(match o.guard with
 | some (j,_)=>match ops[j]? with
  | some g=>g.dst.toList
  | none=>[]
 | none=>[])
def slotsApart (ops:List Oper) (x y:Oper):Bool:=(match x.dst with
 | some d=>!(looks ops y).contains d&&y.dst != some d
 | none=>true)&&(match y.dst with
 | some d=>!(looks ops x).contains d
 | none=>true)
def edgesOk:Nat→List Oper→Bool
 | _,[]=>true
 | i,o::r=>o.after.toList.all (fun e=>!Region.binds .any e||decide (e.on<i))&&edgesOk (i+1) r
def slotsOk (ops:List Oper):Bool:=(List.range ops.length).all fun i=>(List.range i).all fun k=>((masks ops).getD i 0).testBit k||(match ops[k]?,ops[i]? with
 | some x,some y=>slotsApart ops x y
 | _,_=>true)
def fpsOk (ms:List Nat):List (Nat×List Nat×Bool)→Bool
 | []=>true
 | (i,fi,ri)::r=>r.all (fun q=>(ms.getD i 0).testBit q.1||fi.all (fun x=>!q.2.1.contains x)||(ri&&q.2.2))&&fpsOk ms r
def okD (ops:List Oper) (acc:List (Nat×List Nat×Bool)):Bool:=edgesOk 0 ops&&slotsOk ops&&fpsOk (masks ops) acc
def aCallBD (bc:BCon) (args:List AV) (dst:Option Tmp) (K:List Nat→AS→Prop) (st:AS):Prop :=
 ∃ (x:bc.X) (rs:List Nat),bc.ok x∧rnAs rs (bc.args x)=args∧rs.Nodup∧rs.length=(bc.post x).length∧Cl rs rs (bc.objs x) st.objs∧freeAt (rs.drop (bc.objs x).length) st.objs ∧
  K (rs.map (· % 4096)) (AS.put st dst (bc.rvr rs x) (Sp rs rs (bc.post x) st.objs))
def aExecB (C:Ctx) (o:Oper) (K:List Nat→Bool→AS→Prop) (st:AS):Prop:=match bOf C o st with
 | some (bc,args)=>aCallBD bc args o.dst (fun fp=>K fp false) st
 | none=>match Dh C o st with
  | some (c,x,os)=>c∧K (Iz C o st) (roOf o.op) (st.put o.dst x os)
  | none=>False
def Cd (C:Ctx) (ops:List Oper):Nat→List Oper→List (Nat×List Nat×Bool)→(AS→Prop)→AS→Prop
 | _,[],acc,K,st=>okD ops acc=true∧K st
 | i,o::r,acc,K,st=>match o.guard with
  | none=>aExecB C o (fun fp ro=>Cd C ops (i+1) r ((i,fp,ro)::acc) K) st
  | some (j,want)=>match Ml ops st j with
   | .b t b=>ifG b want (aExecB C o (fun fp ro=>Cd C ops (i+1) r ((i,fp,ro)::acc) K) { st with tmps:=st.tmps.set t (.d (.bool want)) })
     (Cd C ops (i+1) r acc K (AS.put { st with tmps:=st.tmps.set t (.d (.bool (!want))) } o.dst (.d (.tup [])) st.objs))
   | .und=>Cd C ops (i+1) r acc K (AS.put st o.dst (.d (.tup [])) st.objs)
   | .no=>False
def Ctx.one (C:Ctx):Ctx:=⟨C.τ,C.Γ,1,C.Δ,[],C.wr⟩
mutual
def AV.kept (o:Gb):AV→Prop
 | .d _=>True
 | .ref i _=>(lk o i).isSome=true
 | .rref i _ _ _=>(lk o i).isSome=true
 | .sl i _=>(lk o i).isSome=true
 | .sb i _ _=>(lk o i).isSome=true
 | .mpr i=>(lk o i).isSome=true
 | .agg l=>keptAll o l
 | .tup l=>keptAll o l
 | .clo _ l=>keptAll o l
 | .nils _=>True
 | .dead=>True
def keptAll (o:Gb):List AV→Prop
 | []=>True
 | x::l=>x.kept o∧keptAll o l
end
def wk1 (o1 o2:Gb):AV→AV→Prop
 | _,.dead=>True
 | .nils s,.sl i n=>n=0∧lk o1 i=none∧lk o2 i=some (.row s [] 0)
 | .nils s,.d (.list s' l)=>s'=s∧l=[]
 | x,y=>x=y∧y.kept o2
def wkT (o1 o2:Gb):List AV→List AV→Prop
 | [],[]=>True
 | x::l,y::l'=>wk1 o1 o2 x y∧wkT o1 o2 l l'
 | _,_=>False
def Uw (o1 o2:Gb):Option Obj→Obj→Prop
 | some (.box ag cs),.box ag' cs'=>ag=ag'∧wkT o1 o2 cs cs'
 | none,.row _ els k=>els=[]∧k=0
 | _,.slot _ _=>True
 | some (.hole i n e f x),.hole i' n' e' f' x'=>i=i'∧n=n'∧e=e'∧f=f'∧x=x'∧(lk o2 i).isSome=true∧x.kept o2
 | some o,o'=>o=o'
 | none,_=>False
def wkO (o1 o2:Gb):Gb→Prop
 | []=>True
 | (i,o)::r=>Uw o1 o2 (lk o1 i) o∧wkO o1 o2 r
def wkK (o2:Gb):Gb→Prop
 | []=>True
 | (i,_)::r=>(90000≤i→(lk o2 i).isSome=true)∧wkK o2 r
def Wk (s1 s2:AS):Prop:=wkT s1.objs s2.objs s1.tmps s2.tmps∧wkO s1.objs s2.objs s2.objs∧wkK s2.objs s1.objs
def WkP:List Nat→AS→AS→Prop
 | [],s1,s2=>Wk s1 s2
 | k::ks,s1,s2=>match pur 60 (s1.tmps.getD k .dead) s1.objs with
  | some (c,y,os)=>c∧WkP ks ⟨s1.tmps.set k (.d y),os⟩ s2
  | none=>False
def WkL (s1 s2:AS):Prop:=∃ ks,WkP ks s1 s2
def ren (i j:Nat):Gb→Gb
 | []=>[]
 | (x,o)::r=>(if x=i then j else x,o)::ren i j r
def Rf (o:Gb):Gb→Prop
 | []=>True
 | (_,.box _ cs)::r=>keptAll o cs∧Rf o r
 | (_,.fbox _ _)::r=>Rf o r
 | (_,.row _ _ _)::r=>Rf o r
 | (_,.mp _ _ _)::r=>Rf o r
 | (_,.gone)::r=>Rf o r
 | (_,.hole i _ _ _ x)::r=>(lk o i).isSome=true∧x.kept o∧Rf o r
 | (_,.slot _ _)::r=>Rf o r
def isRow:Option Obj→Prop
 | some (.row _ _ _)=>True
 | _=>False
def WkR (k i j:Nat) (s1 s2:AS):Prop:=match s2.tmps.getD k .dead with
 | .sl i' n=>i'=i∧Wk s1 ⟨s2.tmps.set k (.sl j n),ren i j s2.objs⟩∧lk s2.objs j=none∧isRow (lk s2.objs i)∧i<90000∧j<90000∧keptAll s2.objs (s2.tmps.set k .dead)∧Rf s2.objs s2.objs
 | _=>False
def WkH (i:Nat) (s1 s2:AS):Prop:=match lk s1.objs (50000+i) with
 | some (.hole i' n e f x)=>match pur 60 x s1.objs with
  | some (c,d,os)=>match lk os i with
   | some (.row s els k)=>c∧i'=i∧n=els.length∧e<els.length∧f<s∧Wk ⟨s1.tmps,upd os i (.row s (els.set e ((el els e).setCell f d)) k)⟩ s2
   | _=>False
  | none=>False
 | _=>False
def WkB (s1 s2:AS):Prop:=Wk s1 s2∨(∃ k i j,WkR k i j s1 s2)∨∃ i,WkH i s1 s2
inductive AExit where
 | normal
 | exit (id:Nat)
 | ret
def aThen (K:AS→Prop) (Q:AExit→AS→Prop):AExit→AS→Prop
 | .normal,st=>K st
 | e,st=>Q e st
def aBlock (id:Nat) (Q:AExit→AS→Prop):AExit→AS→Prop
 | .exit id',st=>if id'=id then Q .normal st else Q (.exit id') st
 | e,st=>Q e st
def awp (C:Ctx):Code→(AExit→AS→Prop)→AS→Prop
 | .skip,Q,st=>Q .normal st
 | .region _ ops false,Q,st=>aOps C ops.toList ops.toList (Q .normal) st
 | .region _ ops true,Q,st=>Cd C.one ops.toList 0 ops.toList [] (Q .normal) st
 | .seq x y,Q,st=>awp C x (aThen (awp C y Q) Q) st
 | .cond c x y,Q,st=>match st.ev C 0 c with
  | .d b=>b.isBool∧ifB b.b (awp C x Q st) (awp C y Q st)
  | _=>False
 | .block id c,Q,st=>awp C c (aBlock id Q) st
 | .loop c,Q,st=>∃ (α:Type) (inv:α→AS) (ok:α→Prop) (μ:α→Nat) (rel:AS→AS→Prop),(∀ s s',rel s s'→WkB s s')∧(∃ a,WkL st (inv a)∧ok a)∧∀ a,ok a→awp C c (aThen (fun s'=>∃ a',rel s' (inv a')∧ok a'∧μ a'<μ a) Q) (inv a)
 | .exit id,Q,st=>Q (.exit id) st
 | .ret,Q,st=>Q .ret st
 | _,_,_=>False
def aLoop (C:Ctx) (c:Code) (Q:AExit→AS→Prop) (st:AS):Prop :=
 ∃ (α:Type) (inv:α→AS) (ok:α→Prop) (μ:α→Nat) (rel:AS→AS→Prop),(∀ s s',rel s s'→WkB s s')∧(∃ a,WkL st (inv a)∧ok a)∧∀ a,ok a→awp C c (aThen (fun s'=>∃ a',rel s' (inv a')∧ok a'∧μ a'<μ a) Q) (inv a)
section
variable (C:Ctx) (Q:AExit→AS→Prop) (st:AS)
theorem awp_skip:awp C .skip Q st=Q .normal st:=rfl
theorem awp_region (id:Nat) (ops:List Oper):awp C (.region id ops.toArray false) Q st=aOps C ops ops (Q .normal) st:=rfl
theorem awp_draw (id:Nat) (ops:List Oper):awp C (.region id ops.toArray true) Q st=Cd C.one ops 0 ops [] (Q .normal) st:=rfl
theorem awp_seq (x y:Code):awp C (.seq x y) Q st=awp C x (aThen (awp C y Q) Q) st:=rfl
theorem awp_cond (c:Operand) (x y:Code):awp C (.cond c x y) Q st=(match st.ev C 0 c with
  | .d b=>b.isBool∧ifB b.b (awp C x Q st) (awp C y Q st)
  | _=>False):=rfl
theorem awp_block (id:Nat) (c:Code):awp C (.block id c) Q st=awp C c (aBlock id Q) st:=rfl
theorem awp_loop (c:Code):awp C (.loop c) Q st=aLoop C c Q st:=rfl
theorem awp_exit (id:Nat):awp C (.exit id) Q st=Q (.exit id) st:=rfl
theorem awp_ret:awp C .ret Q st=Q .ret st:=rfl
end
def Less (G:Gh) (L:Nat→Option Obj) (G':Gh) (L':Nat→Option Obj):Prop :=
 ∀ i o',L' i=some o'→∀ o,L i=some o→G'.γ i=G.γ i∧G'.hd i=G.hd i∧(o'.isBox=true→o.isBox=true)∧∀ s els k,o'=.row s els k→o=.row s els k
mutual
theorem RA.less {F:Fix} {G G':Gh} {L:Nat→Option Obj} {o2:Gb} (g:Less G L G' (lk o2)):∀ {x:AV} {v:Value},x.kept o2→RA F G L x v→RA F G' (lk o2) x v
 | .d x,_,_,hr=>by simpa only [RA] using hr
 | .ref i f,v,hk,hr=>by
  simp only [RA,AV.kept] at hr hk ⊢
  cases hl:L i with
  | none=>simp [hl] at hr
  | some o =>
   cases h2:lk o2 i with
   | none=>simp [h2] at hk
   | some o' =>
    obtain ⟨q1,q2,q3,_⟩:=g i o' h2 o hl
    simp only [hl] at hr
    refine ⟨hr.1,fun hb=>?_⟩
    rw [q1]
    exact hr.2 (q3 hb)
 | .mpr i,v,hk,hr=>by
  simp only [RA,AV.kept] at hr hk ⊢
  cases hl:L i with
  | none=>simp [hl] at hr
  | some o =>
   cases h2:lk o2 i with
   | none=>simp [h2] at hk
   | some o' =>
    obtain ⟨q1,q2,q3,_⟩:=g i o' h2 o hl
    simp only [hl] at hr
    refine ⟨hr.1,fun hb=>?_⟩
    rw [q1]
    exact hr.2 (q3 hb)
 | .rref i n e f,v,hk,hr=>by
  simp only [RA,AV.kept] at hr hk ⊢
  cases hl:L i with
  | none=>simp [hl] at hr
  | some o =>
   cases h2:lk o2 i with
   | none=>simp [h2] at hk
   | some o' =>
    obtain ⟨q1,q2,_,q4⟩:=g i o' h2 o hl
    cases o' with
    | row s els k =>
     have:=q4 s els k rfl
     subst this
     simp only [hl] at hr
     simp only [q1]
     exact hr
    | _=>exact ⟨hr.1,trivial⟩
 | .sl i n,v,hk,hr=>by
  simp only [RA,AV.kept] at hr hk ⊢
  cases hl:L i with
  | none=>simp [hl] at hr
  | some o =>
   cases h2:lk o2 i with
   | none=>simp [h2] at hk
   | some o' =>
    obtain ⟨q1,q2,_,q4⟩:=g i o' h2 o hl
    cases o' with
    | row s els k =>
     have:=q4 s els k rfl
     subst this
     simp only [hl] at hr
     simp only [q2]
     exact hr
    | _=>exact ⟨hr.1,trivial⟩
 | .sb i n f,v,hk,hr=>by
  simp only [RA,AV.kept] at hr hk ⊢
  cases hl:L i with
  | none=>simp [hl] at hr
  | some o =>
   cases h2:lk o2 i with
   | none=>simp [h2] at hk
   | some o' =>
    obtain ⟨q1,q2,_,q4⟩:=g i o' h2 o hl
    cases o' with
    | row s els k =>
     have:=q4 s els k rfl
     subst this
     simp only [hl] at hr
     simp only [q1,q2]
     exact hr
    | _=>exact ⟨hr.1,trivial⟩
 | .agg l,v,hk,hr=>by
  simp only [RA,AV.kept] at hr hk ⊢
  obtain ⟨cs,h1,h2,h3⟩:=hr
  exact ⟨cs,h1,RAs.less g hk h2,h3⟩
 | .tup l,v,hk,hr=>by
  simp only [RA,AV.kept] at hr hk ⊢
  obtain ⟨cs,h1,h2⟩:=hr
  exact ⟨cs,h1,RAs.less g hk h2⟩
 | .clo f l,v,hk,hr=>by
  simp only [RA,AV.kept] at hr hk ⊢
  obtain ⟨cs,h1,h2⟩:=hr
  exact ⟨cs,h1,RAs.less g hk h2⟩
 | .nils _,_,_,hr=>by simpa only [RA] using hr
 | .dead,_,_,_=>by simp only [RA]
theorem RAs.less {F:Fix} {G G':Gh} {L:Nat→Option Obj} {o2:Gb} (g:Less G L G' (lk o2)):∀ {l:List AV} {vs:List Value},keptAll o2 l→RAs F G L l vs→RAs F G' (lk o2) l vs
 | [],_,_,hr=>by simpa only [RAs] using hr
 | x::l,vs,hk,hr=>by
  simp only [RAs,keptAll] at hr hk ⊢
  obtain ⟨v,r,h1,h2,h3⟩:=hr
  exact ⟨v,r,h1,RA.less g hk.1 h2,RAs.less g hk.2 h3⟩
end
theorem wkO_at {o1 o2:Gb}:∀ {r:Gb},wkO o1 o2 r→∀ {i:Nat} {o:Obj},lk r i=some o→Uw o1 o2 (lk o1 i) o
 | [],_,i,o,h=>by simp [lk] at h
 | (j,p)::r,hw,i,o,h=>by
  simp only [wkO] at hw
  simp only [lk] at h
  by_cases hij:i=j
  ·rw [if_pos hij] at h
   injection h with h
   subst h;subst hij
   exact hw.1
  ·rw [if_neg hij] at h
   exact wkO_at hw.2 h
def Iv (G:Gh) (o1:Gb):Gh:=⟨fun i=>if lk o1 i=none then none else G.γ i,fun i=>if lk o1 i=none then .slice none 0 0 else G.hd i⟩
theorem less_weak {G:Gh} {o1 o2:Gb} (h:wkO o1 o2 o2):Less G (lk o1) (Iv G o1) (lk o2):=by
 intro i o' h2 o h1
 have hw:=wkO_at h h2
 have hn:lk o1 i≠none:=by rw [h1];simp
 refine ⟨by simp [Iv,h1],by simp [Iv,h1],?_,?_⟩
 ·intro hb
  rw [h1] at hw
  cases o'<;>cases o<;>simp_all [Uw,Obj.isBox]
 ·intro s els k he
  subst he
  rw [h1] at hw
  cases o<;>simp_all [Uw]
theorem wkT_sound {F:Fix} {G:Gh} {o1 o2:Gb} (h:wkO o1 o2 o2):∀ {l l':List AV} {vs:List Value},wkT o1 o2 l l'→RAs F G (lk o1) l vs→RAs F (Iv G o1) (lk o2) l' vs
 | [],[],_,_,hr=>by simpa only [RAs] using hr
 | [],_::_,_,hw,_=>by simp [wkT] at hw
 | _::_,[],_,hw,_=>by simp [wkT] at hw
 | x::l,y::l',vs,hw,hr=>by
  simp only [wkT] at hw
  simp only [RAs] at hr ⊢
  obtain ⟨v,r,h1,h2,h3⟩:=hr
  refine ⟨v,r,h1,?_,wkT_sound h hw.2 h3⟩
  have gen:∀ z:AV,x=z∧z.kept o2→RA F (Iv G o1) (lk o2) z v:=fun z hz=>by
   obtain ⟨rfl,hk⟩:=hz
   exact RA.less (less_weak h) hk h2
  have hw1:=hw.1
  cases y with
  | dead=>simp [RA]
  | sl i n =>
   cases x with
   | nils s =>
    simp only [wk1] at hw1
    obtain ⟨rfl,g1,g2⟩:=hw1
    simp only [RA] at h2
    simp only [RA,g2]
    refine ⟨by rw [h2];rfl,cZ _,fun _=>?_⟩
    simp [Iv,g1,h2]
   | _=>exact gen _ (by simpa only [wk1] using hw1)
  | d z =>
   cases x with
   | nils s =>
    cases z with
    | list s' l' =>
     simp only [wk1] at hw1
     obtain ⟨rfl,rfl⟩:=hw1
     simp only [RA] at h2
     simp only [RA,R]
     exact ⟨none,0,by simpa using h2,by simp,by simp [maxLen],by simp⟩
    | _=>exact gen _ (by simpa only [wk1] using hw1)
   | _=>exact gen _ (by simpa only [wk1] using hw1)
  | _=>cases x<;>exact gen _ (by simpa only [wk1] using hw1)
section
variable {base:Nat} {pass:Nat→Prop} {F0:Anc} {m:Nat→Nat} {G:Gh} {st st':AS} {a:Act} {w:World}
theorem wkK_at {o2:Gb}:∀ {o1:Gb} {i:Nat} {o:Obj},wkK o2 o1→lk o1 i=some o→90000≤i→(lk o2 i).isSome=true
 | [],_,_,_,h,_=>by simp [lk] at h
 | (j,p)::r,i,o,h,hi,hn=>by
  simp only [wkK] at h
  simp only [lk] at hi
  by_cases hij:i=j
  ·subst hij;exact h.1 hn
  ·rw [if_neg hij] at hi
   exact wkK_at h.2 hi hn
theorem SRg.weak (h:SRg base pass F0 m G st a w) (hw:Wk st st'):SRg base pass F0 m (Iv G st.objs) st' a w:=by
 obtain ⟨hw1,hw2,hw3⟩:=hw
 have hless:=less_weak (G:=G) hw2
 have back:∀ i o',lk st'.objs i=some o'→o'.owns=true→∀ b,(Iv G st.objs).γ i=some b→∃ o,lk st.objs i=some o∧o.owns=true∧G.γ i=some b:=by
  intro i o' hi ho b hb
  have hwo:=wkO_at hw2 hi
  cases h1:lk st.objs i with
  | none=>simp [Iv,h1] at hb
  | some o =>
   refine ⟨o,rfl,?_,by simpa [Iv,h1] using hb⟩
   rw [h1] at hwo
   cases o<;>cases o'<;>simp_all [Uw,Obj.owns]
 constructor
 ·exact h.defers
 ·exact wkT_sound hw2 hw1 h.tmps
 ·intro i o' hi
  have hwo:=wkO_at hw2 hi
  cases h1:lk st.objs i with
  | none =>
   rw [h1] at hwo
   cases o' with
   | slot e f=>trivial
   | row s els k =>
    simp only [Uw] at hwo
    obtain ⟨rfl,rfl⟩:=hwo
    exact .inl ⟨by simp [Iv,h1],by simp [Iv,h1],rfl,rfl⟩
   | _=>simp [Uw] at hwo
  | some o =>
   obtain ⟨q1,q2,_,_⟩:=hless i o' hi o h1
   have hk:=h.objs i o h1
   rw [h1] at hwo
   cases o' with
   | box ag' cs' =>
    cases o with
    | box ag cs =>
     simp only [Uw] at hwo
     simp only [Hd] at hk ⊢
     obtain ⟨b,vs,t,g1,g2,g3,g4,g5⟩:=hk
     exact ⟨b,vs,t,by rw [q1];exact g1,g2,wkT_sound hw2 hwo.2 g3,g4,g5⟩
    | _=>simp [Uw] at hwo
   | fbox s x =>
    cases o with
    | fbox s' x' =>
     simp only [Uw,Obj.fbox.injEq] at hwo
     obtain ⟨rfl,rfl⟩:=hwo
     simp only [Hd] at hk ⊢
     rw [q1]
     exact hk
    | _=>simp [Uw] at hwo
   | row s els k =>
    cases o with
    | row s' els' k' =>
     simp only [Uw,Obj.row.injEq] at hwo
     obtain ⟨rfl,rfl,rfl⟩:=hwo
     simp only [Hd] at hk ⊢
     rw [q1,q2]
     exact hk
    | _=>simp [Uw] at hwo
   | mp ks vs f =>
    cases o with
    | mp ks' vs' f' =>
     simp only [Uw,Obj.mp.injEq] at hwo
     obtain ⟨rfl,rfl,rfl⟩:=hwo
     simp only [Hd] at hk ⊢
     rw [q1]
     exact hk
    | _=>simp [Uw] at hwo
   | gone=>trivial
   | slot e f=>trivial
   | hole j n e f x =>
    cases o with
    | hole j' n' e' f' x' =>
     simp only [Uw] at hwo
     obtain ⟨rfl,rfl,rfl,rfl,rfl,hkj,hkx⟩:=hwo
     simp only [Hd] at hk ⊢
     obtain ⟨b,off,v,h1,h2,h3,h4⟩:=hk
     exact ⟨b,off,v,RA.less hless (by simpa only [AV.kept] using hkj) h1,h2,h3,RA.less hless hkx h4⟩
    | _=>simp [Uw] at hwo
 ·intro i j oi oj b hi hj hoi hoj hbi hbj
  obtain ⟨pi,g1,g2,g3⟩:=back i oi hi hoi b hbi
  obtain ⟨pj,k1,k2,k3⟩:=back j oj hj hoj b hbj
  exact h.apart i j pi pj b g1 k1 g2 k2 g3 k3
 ·intro i o b hi ho hb
  obtain ⟨p,g1,g2,g3⟩:=back i o hi ho b hb
  exact h.mine i p b g1 g2 g3
 ·exact h.frame
 ·exact h.old
 ·exact h.new
 ·exact h.small
 ·intro i o ho
  obtain ⟨h1,o1,h2,h3⟩:=h.lent i o ho
  have hs:=wkK_at hw3 h2 h1
  cases ho2:lk st'.objs i with
  | none=>rw [ho2] at hs;cases hs
  | some o2 =>
   refine ⟨h1,o2,rfl,h3.trans ?_⟩
   have hwo:=wkO_at hw2 ho2
   obtain ⟨q1,q2,_,_⟩:=hless i o2 ho2 o1 h2
   rw [h2] at hwo
   refine ⟨fun hb=>⟨?_,q1⟩,fun s els' k' he=>?_⟩
   ·cases o1<;>cases o2<;>simp_all [Uw,Obj.isBox]
   ·subst he
    cases o1 with
    | row s' els k =>
     simp only [Uw,Obj.row.injEq] at hwo
     obtain ⟨rfl,rfl,rfl⟩:=hwo
     exact ⟨_,_,rfl,cZ _,fun _=>⟨q1,q2⟩⟩
    | _=>simp [Uw] at hwo
theorem lk_ren {i j:Nat} (hij:i≠j):∀ {o:Gb},lk o j=none→∀ x,lk (ren i j o) x=if x=j then lk o i else if x=i then none else lk o x
 | [],_,x=>by simp [ren,lk]
 | (y,ob)::r,h,x=>by
  simp only [lk] at h
  by_cases hy:j=y
  ·rw [if_pos hy] at h;cases h
  ·rw [if_neg hy] at h
   have ih:=lk_ren hij h x
   simp only [ren,lk,ih]
   by_cases h1:y=i
   ·subst h1
    rw [if_pos rfl]
    by_cases h2:x=j
    ·rw [if_pos h2,if_pos h2,if_pos rfl]
    ·rw [if_neg h2,if_neg h2]
     by_cases h3:x=y
     ·rw [if_pos h3,if_neg h2,if_pos h3]
     ·rw [if_neg h3,if_neg h2,if_neg h3,if_neg h3]
   ·rw [if_neg h1]
    by_cases h2:x=j
    ·subst h2
     rw [if_neg hy,if_pos rfl,if_pos rfl,if_neg (fun e=>h1 e.symm)]
    ·rw [if_neg h2,if_neg h2]
     by_cases h3:x=i
     ·subst h3
      rw [if_pos rfl,if_pos rfl,if_neg (fun e=>h1 e.symm)]
     ·rw [if_neg h3,if_neg h3]
def renGh (i j:Nat) (G:Gh):Gh:=⟨fun x=>if x=i then G.γ j else if x=j then none else G.γ x,fun x=>if x=i then G.hd j else if x=j then .slice none 0 0 else G.hd x⟩
theorem keptO_tail {o2:Gb} {j:Nat} {p:Obj} {r:Gb} (hk:Rf o2 ((j,p)::r)):Rf o2 r:=by
 cases p<;>simp only [Rf] at hk<;>first|exact hk|exact hk.2|exact hk.2.2
theorem keptO_at {o2:Gb}:∀ {r:Gb},Rf o2 r→∀ {i:Nat} {ag:Bool} {cs:List AV},lk r i=some (.box ag cs)→keptAll o2 cs
 | [],_,i,ag,cs,h=>by simp [lk] at h
 | (j,p)::r,hk,i,ag,cs,h=>by
  simp only [lk] at h
  by_cases hij:i=j
  ·rw [if_pos hij] at h
   injection h with h
   subst h
   simp only [Rf] at hk
   exact hk.1
  ·rw [if_neg hij] at h
   exact keptO_at (keptO_tail hk) h
theorem keptO_hole {o2:Gb}:∀ {r:Gb},Rf o2 r→∀ {i j n e f:Nat} {x:AV},lk r i=some (.hole j n e f x)→(lk o2 j).isSome=true∧x.kept o2
 | [],_,i,j,n,e,f,x,h=>by simp [lk] at h
 | (k,p)::r,hk,i,j,n,e,f,x,h=>by
  simp only [lk] at h
  by_cases hij:i=k
  ·rw [if_pos hij] at h
   injection h with h
   subst h
   simp only [Rf] at hk
   exact ⟨hk.1,hk.2.1⟩
  ·rw [if_neg hij] at h
   exact keptO_hole (keptO_tail hk) h
theorem RAs_ren {F:Fix} {G G':Gh} {L:Nat→Option Obj} {o2:Gb} (g:Less G L G' (lk o2)) {i j n:Nat} (hs:∀ v,RA F G L (.sl j n) v→RA F G' (lk o2) (.sl i n) v):∀ {l:List AV} {k:Nat} {vs:List Value},
  keptAll o2 (l.set k .dead)→l.getD k .dead=.sl i n→RAs F G L (l.set k (.sl j n)) vs→RAs F G' (lk o2) l vs
 | [],k,vs,_,h,_=>by simp at h
 | x::l,0,vs,hk,h,hr=>by
  simp only [List.getD_cons_zero] at h
  subst h
  simp only [aV,keptAll,RAs] at hk hr ⊢
  obtain ⟨v,r,h1,h2,h3⟩:=hr
  exact ⟨v,r,h1,hs v h2,RAs.less g hk.2 h3⟩
 | x::l,k+1,vs,hk,h,hr=>by
  simp only [List.getD_cons_succ] at h
  simp only [aW,keptAll,RAs] at hk hr ⊢
  obtain ⟨v,r,h1,h2,h3⟩:=hr
  exact ⟨v,r,h1,RA.less g hk.1 h2,RAs_ren g hs hk.2 h h3⟩
theorem SRg.ren {k i j n:Nat} {s2:AS} (h:SRg base pass F0 m G ⟨s2.tmps.set k (.sl j n),ren i j s2.objs⟩ a w) (hk:s2.tmps.getD k .dead=.sl i n) (hj:lk s2.objs j=none) (hr:isRow (lk s2.objs i))
  (hi9:i<90000) (hj9:j<90000) (hkt:keptAll s2.objs (s2.tmps.set k .dead)) (hko:Rf s2.objs s2.objs):SRg base pass F0 m (renGh i j G) s2 a w:=by
 have hij:i≠j:=fun e=>by
  subst e
  rw [hj] at hr
  exact hr
 have hL:=lk_ren hij hj
 have γi:(renGh i j G).γ i=G.γ j:=by simp [renGh]
 have hdi:(renGh i j G).hd i=G.hd j:=by simp [renGh]
 have γx:∀ x,x≠i→x≠j→(renGh i j G).γ x=G.γ x:=fun x h1 h2=>by simp [renGh,h1,h2]
 have hdx:∀ x,x≠i→x≠j→(renGh i j G).hd x=G.hd x:=fun x h1 h2=>by simp [renGh,h1,h2]
 have ne_j:∀ x o,lk s2.objs x=some o→x≠j:=fun x o hx e=>by rw [e,hj] at hx;cases hx
 have hLx:∀ x,x≠i→x≠j→lk (Go.Am.ren i j s2.objs) x=lk s2.objs x:=fun x h1 h2=>by rw [hL x,if_neg h2,if_neg h1]
 have hLj:lk (Go.Am.ren i j s2.objs) j=lk s2.objs i:=by rw [hL j,if_pos rfl]
 have hless:Less G (lk (Go.Am.ren i j s2.objs)) (renGh i j G) (lk s2.objs):=by
  intro x o' h2 o h1
  have hxj:=ne_j x o' h2
  by_cases hxi:x=i
  ·subst hxi
   rw [hL x,if_neg hxj,if_pos rfl] at h1
   cases h1
  ·rw [hLx x hxi hxj,h2] at h1
   injection h1 with h1
   subst h1
   exact ⟨γx x hxi hxj,hdx x hxi hxj,fun hb=>hb,fun s els k he=>he⟩
 have cell:∀ v,RA ⟨w,m⟩ G (lk (Go.Am.ren i j s2.objs)) (.sl j n) v→RA ⟨w,m⟩ (renGh i j G) (lk s2.objs) (.sl i n) v:=by
  intro v hv
  simp only [RA] at hv ⊢
  rw [hLj] at hv
  rw [hdi]
  exact hv
 obtain ⟨σ,hσ⟩:∃ σ:Nat→Nat,σ=fun x=>if x=i then j else x:=⟨_,rfl⟩
 have hσL:∀ x o,lk s2.objs x=some o→lk (Go.Am.ren i j s2.objs) (σ x)=some o∧(renGh i j G).γ x=G.γ (σ x):=by
  intro x o hx
  have hxj:=ne_j x o hx
  by_cases hxi:x=i
  ·subst hxi
   have:σ x=j:=by rw [hσ];simp
   rw [this,hLj,γi]
   exact ⟨hx,rfl⟩
  ·have:σ x=x:=by rw [hσ];simp [hxi]
   rw [this,hLx x hxi hxj,γx x hxi hxj]
   exact ⟨hx,rfl⟩
 constructor
 ·exact h.defers
 ·exact RAs_ren hless cell hkt hk h.tmps
 ·intro x o hx
  have hxj:=ne_j x o hx
  by_cases hxi:x=i
  ·subst hxi
   have hob:=h.objs j o (by rw [hLj];exact hx)
   rw [hx] at hr
   cases o with
   | row s els k0 =>
    simp only [Hd] at hob ⊢
    rw [γi,hdi]
    exact hob
   | _=>exact hr.elim
  ·have hob:=h.objs x o (by rw [hLx x hxi hxj];exact hx)
   cases o with
   | box ag cs =>
    simp only [Hd] at hob ⊢
    obtain ⟨b,vs,t,g1,g2,g3,g4,g5⟩:=hob
    exact ⟨b,vs,t,by rw [γx x hxi hxj];exact g1,g2,RAs.less hless (keptO_at hko hx) g3,g4,g5⟩
   | fbox s y =>
    simp only [Hd] at hob ⊢
    rw [γx x hxi hxj]
    exact hob
   | row s els k0 =>
    simp only [Hd] at hob ⊢
    rw [γx x hxi hxj,hdx x hxi hxj]
    exact hob
   | mp ks vs f =>
    simp only [Hd] at hob ⊢
    rw [γx x hxi hxj]
    exact hob
   | gone=>trivial
   | slot e f=>trivial
   | hole j' n' e f y =>
    simp only [Hd] at hob ⊢
    obtain ⟨h1,h2⟩:=keptO_hole hko hx
    obtain ⟨b,off,v,g1,g2,g3,g4⟩:=hob
    exact ⟨b,off,v,RA.less hless (by simpa only [AV.kept] using h1) g1,g2,g3,RA.less hless h2 g4⟩
 ·intro x y ox oy b hx hy hox hoy hbx hby
  obtain ⟨k1,k2⟩:=hσL x ox hx
  obtain ⟨l1,l2⟩:=hσL y oy hy
  rw [k2] at hbx
  rw [l2] at hby
  have:=h.apart _ _ ox oy b k1 l1 hox hoy hbx hby
  have hxj:=ne_j x ox hx
  have hyj:=ne_j y oy hy
  rw [hσ] at this
  simp only at this
  by_cases h1:x=i
  ·by_cases h2:y=i
   ·rw [h1,h2]
   ·rw [if_pos h1,if_neg h2] at this
    exact absurd this.symm hyj
  ·by_cases h2:y=i
   ·rw [if_neg h1,if_pos h2] at this
    exact absurd this hxj
   ·rw [if_neg h1,if_neg h2] at this
    exact this
 ·intro x o b hx ho hb
  obtain ⟨k1,k2⟩:=hσL x o hx
  exact h.mine _ o b k1 ho (by rw [←k2];exact hb)
 ·exact h.frame
 ·exact h.old
 ·exact h.new
 ·exact h.small
 ·intro x o ho
  obtain ⟨h1,o1,h2,h3⟩:=h.lent x o ho
  have hxi:x≠i:=fun e=>by omega
  have hxj:x≠j:=fun e=>by omega
  refine ⟨h1,o1,by rw [←hLx x hxi hxj];exact h2,h3.trans ?_⟩
  refine ⟨fun hb=>⟨hb,γx x hxi hxj⟩,fun s els' k' he=>⟨els',k',he,cZ _,fun _=>⟨γx x hxi hxj,hdx x hxi hxj⟩⟩⟩
end
def plainDesc:TypeDesc→Bool
 | .struct _=>false
 | .array ..=>false
 | _=>true
def TK.is (P:Program) (τ:Nat→TI):TK→TypeDesc→Prop
 | .int k,d=>d=.int k
 | .bool,d=>d=.bool
 | .str,d=>d=.string
 | .slice e,d=>d=.slice e∧(τ e).kind.ag.isSome=true
 | .struct fs,d=>∃ fields:Array Field,d=.struct fields∧fs.length=fields.size∧∀ (j:Nat) (f:Field) (p:Nat×Nat),fields[j]?=some f→fs[j]?=some p →
   f.offset=p.1∧(P.info? f.type).map (·.size)=some p.2∧0<p.2∧(p.2=1→∃ d',P.underlying f.type=some d'∧plainDesc d'=true)
 | .array n e,d=>d=.array n e∧(τ e).kind.ag=some false
 | .ptr e,d=>d=.pointer e
 | .map k e,d=>d=.map k e
 | .func,d=>∃ a b c,d=.func a b c
 | .other,_=>True
def SK.desc:SK→TypeDesc
 | .int k=>.int k
 | .bool=>.bool
 | .str=>.string
def eqFs (P : Program) : Nat → List Field → List SK → Prop
  | _, [], [] => True
  | j, f :: fs, k :: ks => f.name ≠ "_" ∧ f.offset = j ∧ P.underlying f.type = some k.desc ∧ eqFs P (j + 1) fs ks
  | _, _, _ => False
def EqOk (P:Program) (t:Nat) (ks:List SK):Prop:=P.underlying t=some (.struct (P.fieldsOf t))∧P.stoodInHeld t=false∧P.eqGuardType P.depth t=false∧eqFs P 0 (P.fieldsOf t).toList ks
structure TyOk (P:Program) (τ:Nat→TI) (t:Nat):Prop where
 und:∃ d,P.underlying t=some d∧(τ t).kind.is P τ d
 info:∃ i z,P.info? t=some i∧i.size=(τ t).size∧i.bytes=(τ t).bytes∧i.zero=some z∧(∀ F G L,RA F G L (τ t).zero z)∧(∀ F,R F (τ t).zd z)∧z.cells.size=(τ t).size ∧
  ∀ u∈z.cells.toList,u.oneCell'=true
 pos:0<(τ t).size
 eqs:(τ t).eqk≠[]→EqOk P t (τ t).eqk
def B8 (P:Program) (τ:Nat→TI):Prop:=∀ t,(τ t).kind.ag.isSome=true→TyOk P τ t
section
variable {P:Program} {C:Ctx} {F:Fix} {G:Gh} {L:Nat→Option Obj} {w:World}
theorem B8.kind (h:B8 P C.τ) {t:Nat} {k:TK} (hk:(C.τ t).kind=k) (hs:k.ag.isSome=true):∃ d,P.underlying t=some d∧k.is P C.τ d:=by
 obtain ⟨d,h1,h2⟩:=(h t (by rw [hk];exact hs)).und
 exact ⟨d,h1,hk▸h2⟩
theorem const_sound {hint:Nat} {v:Value}:RA F G L (constAV C hint v) v:=by
 unfold constAV
 split
 ·simp [RA]
 ·cases v with
  | int k n=>simp [constD,RA,R]
  | bool b=>simp [constD,RA,R]
  | string s=>simp [constD,RA,R]
  | nilFunc=>simp [constD,RA,R]
  | pointer a=>cases a<;>simp [constD,RA,R]
  | map a=>cases a<;>simp [constD,RA,R]
  | _=>simp [constD,RA]
theorem Sd {st:AS} {a:Act} (h:RAs F G L st.tmps a.tmps.toList) {hint:Nat} (x:Operand):RA F G L (st.ev C hint x) (a.eval x):=by
 cases x with
 | tmp t =>
  simp only [AS.ev,Act.eval]
  cases hx:st.tmps[t]? with
  | none=>rw [aY,hx];simp [RA]
  | some y =>
   obtain ⟨u,hu,hr⟩:=h.at hx
   rw [aY,hx,Array.getD_eq_getD_getElem?]
   rw [Array.getElem?_toList] at hu
   rw [hu]
   exact hr
 | const v=>exact const_sound
 | global g=>simp [AS.ev,RA]
 | func f=>simp [AS.ev,RA,R,Act.eval,Rs]
theorem R.of_int {x:D} {v:Value} {k:IntKind} (h:R F x v) (hk:x.isInt k):v=.int k x.i:=by
 cases x<;>simp_all [D.isInt,D.i,R]
theorem R.of_anyInt {x:D} {v:Value} (h:R F x v) (hk:x.isAnyInt):∃ k,v=.int k x.i:=by
 cases x<;>simp_all [D.isAnyInt,D.i,R]
theorem R.of_bool {x:D} {v:Value} (h:R F x v) (hk:x.isBool):v=.bool x.b:=by
 cases x<;>simp_all [D.isBool,D.b,R]
theorem R.of_str {x:D} {v:Value} (h:R F x v) (hk:x.isStr):v=.string ⟨x.s.toArray⟩:=by
 cases x<;>simp_all [D.isStr,D.s,R]
theorem R.of_list {x:D} {v:Value} {s:Nat} (h:R F x v) (hk:x.isList s):R F (.list s x.l) v:=by
 cases x<;>simp_all [D.isList,D.l]
theorem R.int {k:IntKind} {n:Int}:R F (.int k n) (.int k n):=by simp [R]
theorem R.bool {b:Bool}:R F (.bool b) (.bool b):=by simp [R]
theorem R.str {s:List UInt8}:R F (.str s) (.string ⟨s.toArray⟩):=by simp [R]
theorem wrap_in {k:IntKind} {n:Int} (h:inR k n):k.wrap n=n:=by
 unfold inR at h
 cases k<;>simp [IntKind.min,IntKind.max,IntKind.signed,IntKind.bits] at h<;>simp [IntKind.wrap,IntKind.signed,IntKind.bits]<;>omega
theorem append_bytes (a b:List UInt8):(⟨a.toArray⟩++⟨b.toArray⟩:ByteArray)=⟨(a++b).toArray⟩:=by
 apply ByteArray.ext
 simp
def Bd (op:BinOp) (t:Nat) (ox oy:Operand) (vx vy:Value):Sem Value:=do
 eqGuard op t ox oy vx vy
 binOp op t vx vy
theorem D0 {op:BinOp} {t:Nat} {ox oy:Operand} {k:IntKind} {a b:Int} {r:Value} (h:(binOp op t (.int k a) (.int k b)).run P w=.ok r w) :
  (Bd op t ox oy (.int k a) (.int k b)).run P w=.ok r w:=by
 unfold Bd eqGuard
 cases op<;>simpa using h
theorem binRun_str {op:BinOp} {t:Nat} {ox oy:Operand} {a b:ByteArray} {r:Value} (h:(binOp op t (.string a) (.string b)).run P w=.ok r w) :
  (Bd op t ox oy (.string a) (.string b)).run P w=.ok r w:=by
 unfold Bd eqGuard
 cases op<;>simpa using h
theorem binRun_bool {op:BinOp} {t:Nat} {ox oy:Operand} {a b:Bool} {r:Value} (h:(binOp op t (.bool a) (.bool b)).run P w=.ok r w) :
  (Bd op t ox oy (.bool a) (.bool b)).run P w=.ok r w:=by
 unfold Bd eqGuard
 cases op<;>simpa using h
theorem run_eql_bool {t:Nat} {a b:Bool} (h:P.underlying t=some .bool):(binOp .eql t (.bool a) (.bool b)).run P w=.ok (.bool (a==b)) w:=by
 have he:∀ d:Nat,(Op.equalIn (d+1) t (.bool a) (.bool b)).run P w=.ok (a==b) w:=fun d=>by simp [Op.equalIn,run_underlying h]
 simp only [binOp]
 simp [Op.equal,Op.maxDepth,he 9999]
theorem run_neq_bool {t:Nat} {a b:Bool} (h:P.underlying t=some .bool):(binOp .neq t (.bool a) (.bool b)).run P w=.ok (.bool (!(a==b))) w:=by
 have he:∀ d:Nat,(Op.equalIn (d+1) t (.bool a) (.bool b)).run P w=.ok (a==b) w:=fun d=>by simp [Op.equalIn,run_underlying h]
 simp only [binOp]
 simp [Op.equal,Op.maxDepth,he 9999]
theorem run_part_one {t:Nat} {d:TypeDesc} (h:P.underlying t=some d) (hd:(match d with|.struct _|.array _ _=>true|_=>false)=false) {cs:Array Value} {off:Nat} {v:Value} (hv:cs[off]?=some v) (w:World) :
  (part t cs off).run P w=.ok v w:=by
 have hi:(isAgg t).run P w=.ok false w:=by
  simp only [isAgg,Sem.run_bind,run_underlying h,Result.andThen_ok]
  cases d<;>simp_all
 simp [part,hi,hv]
theorem eqFields_run {F:Fix}:∀ {fs:List Field} {ks:List SK} {j:Nat} {pre pre':List Value} {l l':List D} {vs vs':List Value},eqFs P j fs ks→skAll ks l→skAll ks l'→Rs F l vs→Rs F l' vs'→pre.length=j→pre'.length=j →
  ∀ (d:Nat) (w:World),(Op.eqFields (d+1) (pre++vs).toArray (pre'++vs').toArray fs).run P w=.ok (eqbAll l l') w
 | [],[],j,pre,pre',l,l',vs,vs',_,h1,h2,_,_,_,_,d,w=>by
  cases l<;>simp only [skAll] at h1
  cases l'<;>simp only [skAll] at h2
  simp [Op.eqFields,eqbAll]
 | [],_::_,_,_,_,_,_,_,_,h,_,_,_,_,_,_,_,_=>h.elim
 | _::_,[],_,_,_,_,_,_,_,h,_,_,_,_,_,_,_,_=>h.elim
 | f::fs,k::ks,j,pre,pre',l,l',vs,vs',h,h1,h2,h3,h4,e1,e2,d,w=>by
  cases l with
  | nil=>simp only [skAll] at h1
  | cons x l =>
   cases l' with
   | nil=>simp only [skAll] at h2
   | cons y l' =>
    obtain ⟨hn,ho,hu,hr⟩:=h
    simp only [skAll] at h1 h2
    simp only [Rs] at h3 h4
    obtain ⟨v,r,rfl,hv,h3⟩:=h3
    obtain ⟨v',r',rfl,hv',h4⟩:=h4
    have ih:=eqFields_run (pre:=pre++[v]) (pre':=pre'++[v']) hr h1.2 h2.2 h3 h4 (by simp [e1]) (by simp [e2]) d w
    have p1:(part f.type (pre++v::r).toArray f.offset).run P w=.ok v w:=run_part_one hu (by cases k<;>rfl) (by rw [ho];simp [←e1]) w
    have p2:(part f.type (pre'++v'::r').toArray f.offset).run P w=.ok v' w:=run_part_one hu (by cases k<;>rfl) (by rw [ho];simp [←e2]) w
    have pe:(Op.equalIn (d+1) f.type v v').run P w=.ok (D.eqb x y) w:=by
     cases k with
     | int k =>
      have g1:=h1.1;have g2:=h2.1
      simp only [SK.is] at g1 g2
      rw [hv.of_int g1,hv'.of_int g2]
      cases x<;>simp only [D.isInt] at g1
      cases y<;>simp only [D.isInt] at g2
      exact run_equalIn_int w d _ _ _ _ _ hu
     | bool =>
      have g1:=h1.1;have g2:=h2.1
      simp only [SK.is] at g1 g2
      rw [hv.of_bool g1,hv'.of_bool g2]
      cases x<;>simp only [D.isBool] at g1
      cases y<;>simp only [D.isBool] at g2
      exact run_equalIn_bool' w d _ _ _ hu
     | str =>
      have g1:=h1.1;have g2:=h2.1
      simp only [SK.is] at g1 g2
      rw [hv.of_str g1,hv'.of_str g2,run_equalIn_string (P:=P) w d f.type _ _ hu,ByteArray.toList_mk,ByteArray.toList_mk]
      cases x<;>simp only [D.isStr] at g1
      cases y<;>simp only [D.isStr] at g2
      simp [D.eqb,D.s]
    simp only [Op.eqFields,if_pos hn,Sem.run_bind,p1,p2,pe,Result.andThen_ok,Sem.run_ite]
    simp only [List.append_assoc,List.cons_append,List.nil_append] at ih
    cases hb:D.eqb x y with
    | true=>simp [eqbAll,hb,ih]
    | false=>simp [eqbAll,hb]
theorem bin_struct {t:Nat} {ks:List SK} (h:EqOk P t ks) {x y:D} {vx vy:Value} (hx:R F x vx) (hy:R F y vy) (h1:skIs ks x) (h2:skIs ks y) (ox oy:Operand) :
  (Bd .eql t ox oy vx vy).run P w=.ok (.bool (eqbAll (aggL x) (aggL y))) w∧(Bd .neq t ox oy vx vy).run P w=.ok (.bool (!eqbAll (aggL x) (aggL y))) w:=by
 obtain ⟨g1,g2,g3,g4⟩:=h
 obtain ⟨l,rfl⟩:∃ l,x=.agg l:=by cases x<;>simp only [skIs] at h1;exact ⟨_,rfl⟩
 obtain ⟨l',rfl⟩:∃ l,y=.agg l:=by cases y<;>simp only [skIs] at h2;exact ⟨_,rfl⟩
 simp only [skIs] at h1 h2
 simp only [R] at hx hy
 obtain ⟨cs,rfl,hx,_⟩:=hx
 obtain ⟨cs',rfl,hy,_⟩:=hy
 have he:(Op.equalIn 10000 t (.agg cs.toArray) (.agg cs'.toArray)).run P w=.ok (eqbAll l l') w:=by
  rw [run_equalIn_struct w 9999 t _ _ g1 g2]
  have:=eqFields_run (P:=P) (pre:=[]) (pre':=[]) g4 h1 h2 hx hy rfl rfl 9998 w
  simpa using this
 constructor
 ·unfold Bd
  rw [Sem.run_bind,run_eqGuard_agg w _ t ox oy _ _ g3,Result.andThen_ok,run_eql_struct,he]
  rfl
 ·unfold Bd
  rw [Sem.run_bind,run_eqGuard_agg w _ t ox oy _ _ g3,Result.andThen_ok,run_neq_struct,he]
  rfl
theorem binRun_nil {t e:Nat} {x:D} {v:Value} (h:P.underlying t=some (.slice e)) (hx:neL x) (hr:R F x v) (ox oy:Operand) :
  (Bd .eql t ox oy v (.slice none 0 0)).run P w=.ok (.bool false) w∧(Bd .neq t ox oy v (.slice none 0 0)).run P w=.ok (.bool true) w:=by
 obtain ⟨s,l,rfl⟩:∃ s l,x=.list s l:=by cases x<;>simp only [neL] at hx;exact ⟨_,_,rfl⟩
 simp only [neL] at hx
 simp only [R] at hr
 obtain ⟨A,c,rfl,_,_,hA⟩:=hr
 obtain ⟨b,off,vs,rfl,_,_⟩:=hA hx
 have he:∀ d:Nat,(Op.equalIn (d+1) t (.slice (some ⟨b,off,none⟩) l.length c) (.slice none 0 0)).run P w=.ok false w:=fun d=>by simp [Op.equalIn,run_underlying h]
 constructor
 ·unfold Bd
  simp only [binOp]
  simp [eqGuard,Op.equal,Op.maxDepth,he 9999]
 ·unfold Bd
  simp only [binOp]
  simp [eqGuard,Op.equal,Op.maxDepth,he 9999]
theorem bin_sound (T:B8 P C.τ) {op:BinOp} {t:Nat} {x y:AV} {ox oy:Operand} {vx vy:Value} {c:Prop} {z:D} (h:hBin C op t x y=some (c,z)) (hc:c) (hx:RA F G L x vx) (hy:RA F G L y vy) :
  ∃ v,(Bd op t ox oy vx vy).run P w=.ok v w∧R F z v:=by
 cases x with
 | d x =>
  cases y with
  | d y =>
   simp only [RA] at hx hy
   cases hk:(C.τ t).kind with
   | int k =>
    cases op<;>simp only [hBin,hk,aZ,aJ,reduceCtorEq] at h
    case shr =>
     cases y with
     | int yk n =>
      simp only [aZ,aJ] at h
      obtain ⟨rfl,rfl⟩:=h
      obtain ⟨h1,h2,h3⟩:=hc
      have e1:=hx.of_int h1
      simp only [R] at hy
      subst e1;subst hy
      refine ⟨_,?_,R.int⟩
      have hm:min n.toNat k.bits=n.toNat:=by omega
      have hn:¬ n<0:=by omega
      simp [Bd,eqGuard,binOp,Op.shift,hn,hm]
     | _=>simp at h
    case add =>
     cases hw:C.wr with
     | false =>
      rw [hw] at h
      simp only [aZ,aJ] at h
      obtain ⟨rfl,rfl⟩:=h
      obtain ⟨h1,h2,h3⟩:=hc
      rw [hx.of_int h1,hy.of_int h2]
      exact ⟨_,D0 (by simp [binOp,Op.intArith,wrap_in h3]),R.int⟩
     | true =>
      rw [hw] at h
      simp only [aZ,aJ] at h
      obtain ⟨rfl,rfl⟩:=h
      obtain ⟨h1,h2⟩:=hc
      rw [hx.of_int h1,hy.of_int h2]
      exact ⟨_,D0 (by simp [binOp,Op.intArith,wrp]),R.int⟩
    case sub =>
     cases hw:C.wr with
     | false =>
      rw [hw] at h
      simp only [aZ,aJ] at h
      obtain ⟨rfl,rfl⟩:=h
      obtain ⟨h1,h2,h3⟩:=hc
      rw [hx.of_int h1,hy.of_int h2]
      exact ⟨_,D0 (by simp [binOp,Op.intArith,wrap_in h3]),R.int⟩
     | true =>
      rw [hw] at h
      simp only [aZ,aJ] at h
      obtain ⟨rfl,rfl⟩:=h
      obtain ⟨h1,h2⟩:=hc
      rw [hx.of_int h1,hy.of_int h2]
      exact ⟨_,D0 (by simp [binOp,Op.intArith,wrp]),R.int⟩
    all_goals
     obtain ⟨rfl,rfl⟩:=h
    case mul =>
     obtain ⟨h1,h2,h3⟩:=hc
     rw [hx.of_int h1,hy.of_int h2]
     exact ⟨_,D0 (by simp [binOp,Op.intArith,wrap_in h3]),R.int⟩
    case quo =>
     obtain ⟨h1,h2,h3,h4⟩:=hc
     rw [hx.of_int h1,hy.of_int h2]
     exact ⟨_,D0 (by simp [binOp,Op.intDiv,h3,wrap_in h4]),R.int⟩
    case rem =>
     obtain ⟨h1,h2,h3⟩:=hc
     rw [hx.of_int h1,hy.of_int h2]
     exact ⟨_,D0 (by simp [binOp,Op.intDiv,h3]),R.int⟩
    all_goals
     obtain ⟨h1,h2⟩:=hc
     rw [hx.of_int h1,hy.of_int h2]
     exact ⟨_,D0 (by simp only [binOp,Op.intCmp];simp [ltB,leB]),R.bool⟩
   | str =>
    cases op<;>simp only [hBin,hk,aZ,aJ,reduceCtorEq] at h
    all_goals
     obtain ⟨rfl,rfl⟩:=h
    case add =>
     obtain ⟨h1,h2,h3⟩:=hc
     rw [hx.of_str h1,hy.of_str h2]
     refine ⟨_,binRun_str (r:=.string ⟨(x.s++y.s).toArray⟩) ?_,R.str⟩
     have hs:¬ ((((⟨x.s.toArray⟩:ByteArray).size+(⟨y.s.toArray⟩:ByteArray).size:Nat):Int) > IntKind.i64.max):=by
      simp [ByteArray.size,IntKind.max,IntKind.signed,IntKind.bits]
      omega
     simp only [binOp,Op.stringOp]
     rw [if_neg hs,append_bytes]
     rfl
    all_goals
     obtain ⟨h1,h2⟩:=hc
     rw [hx.of_str h1,hy.of_str h2]
     exact ⟨_,binRun_str (by simp only [binOp,Op.stringOp,ByteArray.toList_mk];simp),R.bool⟩
   | bool =>
    obtain ⟨d,hd,hkd⟩:=T.kind hk rfl
    simp only [TK.is] at hkd
    subst hkd
    cases op<;>simp only [hBin,hk,aZ,aJ,reduceCtorEq] at h
    all_goals
     obtain ⟨rfl,rfl⟩:=h
     obtain ⟨h1,h2⟩:=hc
     rw [hx.of_bool h1,hy.of_bool h2]
    ·exact ⟨_,binRun_bool (run_eql_bool hd),R.bool⟩
    ·exact ⟨_,binRun_bool (run_neq_bool hd),R.bool⟩
   | struct fs =>
    have hne:=(T t (by rw [hk];rfl)).eqs
    cases op<;>simp only [hBin,hk,reduceCtorEq] at h
    all_goals
     split at h
     ·cases h
     ·next hq =>
      simp only [aZ,aJ] at h
      obtain ⟨rfl,rfl⟩:=h
      obtain ⟨h1,h2⟩:=hc
      have hb:=bin_struct (w:=w) (hne (fun e=>by simp_all)) hx hy h1 h2 ox oy
      first|exact ⟨_,hb.1,R.bool⟩|exact ⟨_,hb.2,R.bool⟩
   | _=>simp [hBin,hk] at h
  | nils q =>
   simp only [RA] at hx hy
   subst hy
   cases hk:(C.τ t).kind with
   | slice e =>
    obtain ⟨d,hd,hkd⟩:=T.kind hk rfl
    simp only [TK.is] at hkd
    obtain ⟨rfl,_⟩:=hkd
    cases op<;>simp only [hBin,hk,aZ,aJ,reduceCtorEq] at h
    all_goals
     obtain ⟨rfl,rfl⟩:=h
    ·exact ⟨_,(binRun_nil hd hc hx ox oy).1,R.bool⟩
    ·exact ⟨_,(binRun_nil hd hc hx ox oy).2,R.bool⟩
   | _=>simp [hBin,hk] at h
  | _=>simp [hBin] at h
 | _=>simp [hBin] at h
theorem un_sound {op:UnOp} {t:Nat} {x:AV} {vx:Value} {c:Prop} {z:D} (h:hUn C op t x=some (c,z)) (hc:c) (hx:RA F G L x vx) :
  ∃ v,(Op.unary op vx).run P w=.ok v w∧R F z v:=by
 cases x with
 | d x =>
  simp only [RA] at hx
  cases hk:(C.τ t).kind<;>cases op<;>simp only [hUn,hk,aZ,aJ,reduceCtorEq] at h
  ·obtain ⟨rfl,rfl⟩:=h
   obtain ⟨h1,h2⟩:=hc
   rw [hx.of_int h1]
   have e:=wrap_in h2
   rw [Int.zero_sub] at e
   exact ⟨.int ‹IntKind› (-x.i),by simp [Op.unary,Op.intArith,e],by rw [Int.zero_sub];exact R.int⟩
  ·obtain ⟨rfl,rfl⟩:=h
   rw [hx.of_bool hc]
   exact ⟨_,by simp [Op.unary],R.bool⟩
 | _=>simp [hUn] at h
theorem min_sound {t:Nat} {x y:AV} {vx vy:Value} {c:Prop} {z:D} (h:hMin C t x y=some (c,z)) (hc:c) (hx:RA F G L x vx) (hy:RA F G L y vy) (ts:Array TypeId) (ty:TypeId) :
  ∃ v,(Builtin.min_ ts ty #[vx,vy]).run P w=.ok v w∧R F z v:=by
 cases x with
 | d x =>
  cases y with
  | d y =>
   simp only [RA] at hx hy
   cases hk:(C.τ t).kind<;>simp only [hMin,hk,aZ,aJ,reduceCtorEq] at h
   obtain ⟨rfl,rfl⟩:=h
   obtain ⟨h1,h2⟩:=hc
   rw [hx.of_int h1,hy.of_int h2]
   exact ⟨_,by simp [Builtin.min_,Builtin.min2,minI],R.int⟩
  | _=>simp [hMin] at h
 | _=>simp [hMin] at h
theorem max_sound {t:Nat} {x y:AV} {vx vy:Value} {c:Prop} {z:D} (h:hMax C t x y=some (c,z)) (hc:c) (hx:RA F G L x vx) (hy:RA F G L y vy) (ts:Array TypeId) (ty:TypeId) :
  ∃ v,(Builtin.max_ ts ty #[vx,vy]).run P w=.ok v w∧R F z v:=by
 cases x with
 | d x =>
  cases y with
  | d y =>
   simp only [RA] at hx hy
   cases hk:(C.τ t).kind<;>simp only [hMax,hk,aZ,aJ,reduceCtorEq] at h
   obtain ⟨rfl,rfl⟩:=h
   obtain ⟨h1,h2⟩:=hc
   rw [hx.of_int h1,hy.of_int h2]
   exact ⟨_,by simp [Builtin.max_,Builtin.max2,maxI],R.int⟩
  | _=>simp [hMax] at h
 | _=>simp [hMax] at h
theorem conv_sound (T:B8 P C.τ) {s t:Nat} {x:AV} {vx:Value} {c:Prop} {z:D} (h:hConv C s t x=some (c,z)) (hc:c) (hx:RA F G L x vx) :
  ∃ v,(convert s t vx).run P w=.ok v w∧R F z v:=by
 cases x with
 | d x =>
  simp only [RA] at hx
  cases hk:(C.τ s).kind with
  | int k =>
   cases hk':(C.τ t).kind with
   | int k' =>
    simp only [hConv,hk,hk',aZ,aJ] at h
    obtain ⟨rfl,rfl⟩:=h
    obtain ⟨h1,h2⟩:=hc
    obtain ⟨d,hd,hkd⟩:=T.kind hk rfl
    obtain ⟨d',hd',hkd'⟩:=T.kind hk' rfl
    simp only [TK.is] at hkd hkd'
    subst hkd;subst hkd'
    rw [hx.of_int h1]
    exact ⟨_,by simp [convert,run_underlying hd,run_underlying hd',Conv.intToInt,wrap_in h2],R.int⟩
   | _=>simp [hConv,hk,hk'] at h
  | str =>
   cases hk':(C.τ t).kind with
   | str =>
    simp only [hConv,hk,hk',aZ,aJ] at h
    obtain ⟨rfl,rfl⟩:=h
    obtain ⟨d,hd,hkd⟩:=T.kind hk rfl
    obtain ⟨d',hd',hkd'⟩:=T.kind hk' rfl
    simp only [TK.is] at hkd hkd'
    subst hkd;subst hkd'
    have e:=hx.of_str hc
    rw [e] at hx ⊢
    exact ⟨_,by simp [convert,run_underlying hd,run_underlying hd'],hx⟩
   | _=>simp [hConv,hk,hk'] at h
  | _=>simp [hConv,hk] at h
 | _=>simp [hConv] at h
end
theorem C3 {w:World} {b:Nat} {cs:Array Value} {t:TypeId} {f:Nat×Nat} (h:w.heap[b]?=some (.cells cs t f)) (j:Nat):w.cell? ⟨b,j,none⟩=cs[j]?:=by
 simp [World.cell?,h]
section
variable {base:Nat} {pass:Nat→Prop} {F0:Anc} {m:Nat→Nat} {G:Gh} {st:AS} {a:Act} {w:World}
theorem Fix.le_bump {b n:Nat} (h:m b≤n):Fix.le ⟨w,m⟩ ⟨w,fun x=>if x=b then n else m x⟩:=by
 refine ⟨fun x=>⟨?_,fun _ _=>rfl⟩,fun _ _ _ _ h=>h⟩
 show m x≤if x=b then n else m x
 split
 ·next e=>subst e;exact h
 ·exact cZ _
theorem SRg.bump (h:SRg base pass F0 m G st a w) {i b n:Nat} {o o':Obj} (hi:lk st.objs i=some o) (ho:o.owns=true) (hb:G.γ i=some b) (hn:m b≤n)
  (hbox:o'.isBox=true→o.isBox=true) (hrow:∀ s els' k',o'=.row s els' k'→∃ k,o=.row s els' k)
  (hok:Fix.le ⟨w,m⟩ ⟨w,fun x=>if x=b then n else m x⟩→Db G (lk st.objs) G (lk (upd st.objs i o'))→Hd ⟨w,fun x=>if x=b then n else m x⟩ G (lk (upd st.objs i o')) i o') :
  Db G (lk st.objs) G (lk (upd st.objs i o'))∧SRg base pass F0 (fun x=>if x=b then n else m x) G { st with objs:=upd st.objs i o' } a w:=by
 have hF:=Fix.le_bump (w:=w) hn
 have hm:=h.mine i o b hi ho hb
 refine h.obj i o' hF (fun _ _=>⟨rfl,rfl⟩) ?_ (hok hF) ?_ ?_ (Frame.refl _ _ _) ?_ ?_
 ·intro o1 h1
  rw [hi] at h1
  injection h1 with h1
  subst h1
  refine ⟨fun hx=>⟨hbox hx,rfl⟩,fun s els' k' he=>?_⟩
  obtain ⟨k,hk⟩:=hrow s els' k' he
  exact ⟨els',k,hk,cZ _,fun _=>⟨rfl,rfl⟩⟩
 ·intro j oj hji hj hoj b' hb'
  refine ⟨rfl,?_⟩
  have:b'≠b:=fun e=>hji (h.apart j i oj o b hj hi hoj ho (e▸hb') hb)
  simp only [if_neg this]
 ·intro _ b' hb'
  rw [hb] at hb'
  injection hb' with hb'
  subst hb'
  exact ⟨hm.1,hm.2,fun j oj hji hj hoj e=>hji (h.apart j i oj o b hj hi hoj ho e hb)⟩
 ·intro b' hlt hp
  have:b'≠b:=fun e=>by
   subst e
   rcases hm.2 with h1|h1
   ·omega
   ·exact hp h1
  simp only [if_neg this]
 ·intro b' hge
  have:b'≠b:=by have:=hm.1;omega
  simp only [if_neg this]
  exact h.new b' hge
theorem Rs_agg {F:Fix} {xs:List D} {cs:Array Value} (h:Rs F xs cs.toList) (h1:∀ u∈cs.toList,u.oneCell'=true):R F (.agg xs) (.agg cs):=by
 simp only [R]
 exact ⟨cs.toList,by simp,h,h1⟩
structure PurOk (G:Gh) (o o':Gb) (F F':Fix):Prop where
 le:F.le F'
 goes:Db G (lk o) G (lk o')
 sub:∀ i oi,lk o' i=some oi→oi.owns=true→∃ oj,lk o i=some oj∧oj.owns=true
 same:∀ b,(∀ i oi,lk o i=some oi→oi.owns=true→G.γ i≠some b)→F'.m b=F.m b
theorem PurOk.refl (G:Gh) (o:Gb) (F:Fix):PurOk G o o F F:=⟨Fix.le_refl _,Db.refl _ _,fun i oi h ho=>⟨oi,h,ho⟩,fun _ _=>rfl⟩
theorem PurOk.trans {o o1 o2:Gb} {F F1 F2:Fix} (h:PurOk G o o1 F F1) (k:PurOk G o1 o2 F1 F2):PurOk G o o2 F F2:=by
 refine ⟨Fix.le_trans h.le k.le,?_,?_,?_⟩
 ·intro j o hj
  obtain ⟨oa,a1,a2,a3⟩:=h.goes j o hj
  obtain ⟨ob,b1,b2,b3⟩:=k.goes j oa a1
  refine ⟨ob,b1,fun hb=>⟨(a2 (b2 hb).1).1,rfl⟩,fun s' els' k' he=>?_⟩
  obtain ⟨els1,kk1,e1,e2,_⟩:=b3 s' els' k' he
  obtain ⟨els2,kk2,f1,f2,_⟩:=a3 s' els1 kk1 e1
  exact ⟨els2,kk2,f1,Nat.le_trans f2 e2,fun _=>⟨rfl,rfl⟩⟩
 ·intro i oi hi ho
  obtain ⟨oj,hj,hoj⟩:=k.sub i oi hi ho
  exact h.sub i oj hj hoj
 ·intro b hb
  rw [k.same b (fun i oi hi ho=>by
   obtain ⟨oj,hj,hoj⟩:=h.sub i oi hi ho
   exact hb i oj hj hoj),h.same b hb]
theorem sub_upd {o:Gb} {i:Nat} {oi o':Obj} (hi:lk o i=some oi) (ho:oi.owns=true):∀ j oj,lk (upd o i o') j=some oj→oj.owns=true→∃ ok,lk o j=some ok∧ok.owns=true:=by
 intro j oj hj hoj
 rw [Bm] at hj
 by_cases hji:j=i
 ·subst hji;exact ⟨oi,hi,ho⟩
 ·rw [if_neg hji] at hj;exact ⟨oj,hj,hoj⟩
theorem same_bump {o:Gb} {i b n:Nat} {oi:Obj} (hi:lk o i=some oi) (ho:oi.owns=true) (hb:G.γ i=some b):∀ b',(∀ i oi,lk o i=some oi→oi.owns=true→G.γ i≠some b') →
  (fun x=>if x=b then n else m x) b'=m b':=by
 intro b' h
 have:b'≠b:=fun e=>h i oi hi ho (e▸hb)
 simp [this]
theorem flatA_sound {F:Fix} {L:Nat→Option Obj} {x:AV} {d:D} {v:Value} (h:flatA x=some d) (hr:RA F G L x v):R F d v:=by
 cases x with
 | d x =>
  simp only [flatA,aZ] at h
  subst h
  simpa only [RA] using hr
 | nils s =>
  simp only [flatA,aZ] at h
  subst h
  simp only [RA] at hr
  simp only [R]
  exact ⟨none,0,by simpa using hr,by simp,by simp [maxLen],by simp⟩
 | _=>simp [flatA] at h
theorem flatAs_sound {F:Fix} {L:Nat→Option Obj}:∀ {l:List AV} {ds:List D} {vs:List Value},flatAs l=some ds→RAs F G L l vs→Rs F ds vs
 | [],ds,vs,h,hr=>by
  simp only [flatAs,aZ] at h
  subst h
  simpa only [Rs,RAs] using hr
 | x::l,ds,vs,h,hr=>by
  simp only [flatAs] at h
  split at h
  ·next y hy =>
   split at h
   ·next ys hys =>
    simp only [aZ] at h
    subst h
    simp only [RAs] at hr
    obtain ⟨v,r,rfl,g2,g3⟩:=hr
    simp only [Rs]
    exact ⟨v,r,rfl,flatA_sound hy g2,flatAs_sound hys g3⟩
   ·cases h
  ·cases h
theorem sl_sound {i k:Nat} {c:Prop} {y:D} {os:Gb} {st:AS} {m:Nat→Nat} {v:Value} (h:SRg base pass F0 m G st a w) (hp:leafA (.sl i k) st.objs=some (c,y,os)) (hc:c) (hr:RA ⟨w,m⟩ G (lk st.objs) (.sl i k) v) :
  ∃ m',SRg base pass F0 m' G ⟨st.tmps,os⟩ a w∧PurOk G st.objs os ⟨w,m⟩ ⟨w,m'⟩∧R ⟨w,m'⟩ y v:=by
 simp only [leafA] at hp
 split at hp
 ·next s els k0 hi =>
  simp only [aZ,aJ] at hp
  obtain ⟨rfl,rfl,rfl⟩:=hp
  simp only [RA,hi] at hr
  have hv:=hr.2.2 hc
  subst hv
  have hok:=h.objs i _ hi
  simp only [Hd] at hok
  rcases hok with ⟨h1,h2,rfl,rfl⟩|⟨b,cap,cs,t,h1,h2,h3,h4,h5,h6,h7,h8,h9⟩
  ·have hu:∀ j,lk (upd st.objs i (.row s [] ([]:List D).length)) j=lk st.objs j:=fun j=>by
    rw [Bm]
    split
    ·next e=>subst e;simp [hi]
    ·rfl
   have hL:lk (upd st.objs i (.row s [] ([]:List D).length))=lk st.objs:=funext hu
   refine ⟨m,⟨h.defers,by simp only [hL];exact h.tmps,by simp only [hL];exact h.objs,by simp only [hL];exact h.apart,by simp only [hL];exact h.mine,h.frame,h.old,h.new,h.small,by rw [hL];exact h.lent⟩,⟨Fix.le_refl _,by rw [hL];exact Db.refl _ _,fun i oi h ho=>⟨oi,by rw [←hL];exact h,ho⟩,fun _ _=>rfl⟩,?_⟩
   simp only [R,h2]
   exact ⟨none,0,by simp,by simp,by simp [maxLen],by simp⟩
  ·have hlen:=RE.length h7
   have hkm:m b≤els.length*s:=by rw [show m b=k0*s from h8];exact Nat.mul_le_mul_right _ h9
   obtain ⟨hg,hs⟩:=h.bump (o':=.row s els els.length) (n:=els.length*s) hi rfl h1 hkm (by simp [Obj.isBox]) (by
    intro s' els' k' he
    simp only [Obj.row.injEq] at he
    obtain ⟨rfl,rfl,_⟩:=he
    exact ⟨k0,rfl⟩) (by
    intro hF _
    simp only [Hd]
    exact .inr ⟨b,cap,cs,t,h1,h2,h3,h4,h5,h6,RE.mono hF h7,by simp,cZ _⟩)
   refine ⟨_,hs,⟨Fix.le_bump hkm,hg,sub_upd hi rfl,same_bump hi rfl h1⟩,?_⟩
   simp only [R,h2]
   refine ⟨_,cap,rfl,h3,h4,fun _=>⟨b,0,_,rfl,RE.mono (Fix.le_bump hkm) h7,?_⟩⟩
   refine ⟨by simp only [if_true];omega,fun j u hu=>?_⟩
   rw [Nat.zero_add,C3 h5]
   rw [List.getElem?_take] at hu
   split at hu
   ·simpa using hu
   ·cases hu
 ·cases hp
theorem leafA_sound {x:AV} {c:Prop} {y:D} {os:Gb} {st:AS} {m:Nat→Nat} {v:Value} (h:SRg base pass F0 m G st a w) (hp:leafA x st.objs=some (c,y,os)) (hc:c) (hr:RA ⟨w,m⟩ G (lk st.objs) x v) :
  ∃ m',SRg base pass F0 m' G ⟨st.tmps,os⟩ a w∧PurOk G st.objs os ⟨w,m⟩ ⟨w,m'⟩∧R ⟨w,m'⟩ y v:=by
 cases x with
 | sl i k=>exact sl_sound h hp hc hr
 | d x =>
  simp only [leafA,aZ,aJ] at hp
  obtain ⟨rfl,rfl,rfl⟩:=hp
  exact ⟨m,h,PurOk.refl _ _ _,by simpa only [RA] using hr⟩
 | nils s =>
  simp only [leafA,aZ,aJ] at hp
  obtain ⟨rfl,rfl,rfl⟩:=hp
  exact ⟨m,h,PurOk.refl _ _ _,flatA_sound (x:=.nils s) rfl hr⟩
 | _=>simp [leafA] at hp
theorem leafAs_sound:∀ {l:List AV} {c:Prop} {ys:List D} {os:Gb} {st:AS} {m:Nat→Nat} {vs:List Value},SRg base pass F0 m G st a w→leafAs l st.objs=some (c,ys,os)→c→RAs ⟨w,m⟩ G (lk st.objs) l vs →
  ∃ m',SRg base pass F0 m' G ⟨st.tmps,os⟩ a w∧PurOk G st.objs os ⟨w,m⟩ ⟨w,m'⟩∧Rs ⟨w,m'⟩ ys vs
 | [],c,ys,os,st,m,vs,h,hp,hc,hr=>by
  simp only [leafAs,aZ,aJ] at hp
  obtain ⟨rfl,rfl,rfl⟩:=hp
  exact ⟨m,h,PurOk.refl _ _ _,by simpa only [Rs,RAs] using hr⟩
 | x::l,c,ys,os,st,m,vs,h,hp,hc,hr=>by
  simp only [leafAs] at hp
  split at hp
  ·next c1 y o1 hp1 =>
   split at hp
   ·next c2 ys2 o2 hp2 =>
    simp only [aZ,aJ] at hp
    obtain ⟨rfl,rfl,rfl⟩:=hp
    simp only [RAs] at hr
    obtain ⟨v,r,rfl,g2,g3⟩:=hr
    obtain ⟨m1,k1,k2,k4⟩:=leafA_sound h hp1 hc.1 g2
    obtain ⟨m2,j1,j2,j4⟩:=leafAs_sound (st:=⟨st.tmps,o1⟩) k1 hp2 hc.2 (RAs.mono k2.le k2.goes g3)
    refine ⟨m2,j1,k2.trans j2,?_⟩
    simp only [Rs]
    exact ⟨v,r,rfl,k4.mono j2.le,j4⟩
   ·cases hp
  ·cases hp
mutual
theorem pur_sound':∀ {n:Nat} {x:AV} {c:Prop} {y:D} {os:Gb} {st:AS} {m:Nat→Nat} {v:Value},SRg base pass F0 m G st a w→pur n x st.objs=some (c,y,os)→c→RA ⟨w,m⟩ G (lk st.objs) x v →
  ∃ m',SRg base pass F0 m' G ⟨st.tmps,os⟩ a w∧PurOk G st.objs os ⟨w,m⟩ ⟨w,m'⟩∧R ⟨w,m'⟩ y v
 | 0,x,c,y,os,st,m,v,_,hp,_,_=>by simp [pur] at hp
 | n+1,.d x,c,y,os,st,m,v,h,hp,hc,hr=>by
  simp only [pur,aZ,aJ] at hp
  obtain ⟨rfl,rfl,rfl⟩:=hp
  exact ⟨m,h,PurOk.refl _ _ _,by simpa only [RA] using hr⟩
 | n+1,.nils s,c,y,os,st,m,v,h,hp,hc,hr=>by
  simp only [pur,aZ,aJ] at hp
  obtain ⟨rfl,rfl,rfl⟩:=hp
  simp only [RA] at hr
  refine ⟨m,h,PurOk.refl _ _ _,?_⟩
  simp only [R]
  exact ⟨none,0,by simpa using hr,by simp,by simp [maxLen],by simp⟩
 | n+1,.sl i k,c,y,os,st,m,v,h,hp,hc,hr=>by
  simp only [pur] at hp
  exact sl_sound h (by simpa only [leafA] using hp) hc hr
 | n+1,.ref i (k+1),c,y,os,st,m,v,_,hp,_,_=>by simp [pur] at hp
 | n+1,.rref i k e f,c,y,os,st,m,v,_,hp,_,_=>by simp [pur] at hp
 | n+1,.sb i k f,c,y,os,st,m,v,_,hp,_,_=>by simp [pur] at hp
 | n+1,.mpr i,c,y,os,st,m,v,h,hp,hc,hr=>by
  simp only [pur] at hp
  split at hp
  ·next ks vs fr hi =>
   simp only [aZ,aJ] at hp
   obtain ⟨rfl,rfl,rfl⟩:=hp
   simp only [RA,hi] at hr
   obtain ⟨b0,g1,rfl⟩:=hr.2 rfl
   have hok:=h.objs i _ hi
   simp only [Hd] at hok
   obtain ⟨b,es,cl,h1,h2,h3,h4,h5,h6⟩:=hok
   rw [g1] at h1
   injection h1 with h1
   subst h1
   have hkm:m b0≤1:=by rw [show m b0=cond fr 1 0 from h5];cases fr<;>simp
   obtain ⟨hg,hs⟩:=h.bump (o':=.mp ks vs true) (n:=1) hi rfl g1 hkm (fun _=>rfl) (by
    intro s' els' k' he
    cases he) (by
    intro hF _
    simp only [Hd]
    exact ⟨b0,es,cl,g1,h2,Rs.mono hF h3,Rs.mono hF h4,by simp,h6⟩)
   refine ⟨_,hs,⟨Fix.le_bump hkm,hg,sub_upd hi rfl,same_bump hi rfl g1⟩,?_⟩
   simp only [R]
   exact ⟨b0,es,cl,rfl,h2,by simp,Rs.mono (Fix.le_bump hkm) h3,Rs.mono (Fix.le_bump hkm) h4,h6⟩
  ·cases hp
 | n+1,.dead,c,y,os,st,m,v,_,hp,_,_=>by simp [pur] at hp
 | n+1,.ref i 0,c,y,os,st,m,v,h,hp,hc,hr=>by
  simp only [pur] at hp
  split at hp
  ·next s x hi =>
   simp only [aZ,aJ] at hp
   obtain ⟨rfl,rfl,rfl⟩:=hp
   simp only [RA,hi] at hr
   obtain ⟨b,g1,rfl⟩:=hr.2 rfl
   have hok:=h.objs i _ hi
   simp only [Hd] at hok
   obtain ⟨b',u,q1,q2,q3,q4,q5⟩:=hok
   rw [g1] at q1
   injection q1 with q1
   subst q1
   refine ⟨m,h,PurOk.refl _ _ _,?_⟩
   simp only [R]
   exact ⟨b,0,u,rfl,q2,q3,q4,q5⟩
  ·next ag cells hi =>
   split at hp
   ·next c1 xs o1 hp1 =>
    simp only [RA,hi] at hr
    obtain ⟨b,g1,rfl⟩:=hr.2 rfl
    have hok:=h.objs i _ hi
    simp only [Hd] at hok
    obtain ⟨b',cs,t,q1,q2,q3,q4,q5⟩:=hok
    rw [g1] at q1
    injection q1 with q1
    subst q1
    split at hp
    ·next ag1 cells1 hi1 =>
     have main:c1→∃ m1,SRg base pass F0 m1 G ⟨st.tmps,o1⟩ a w∧PurOk G st.objs o1 ⟨w,m⟩ ⟨w,m1⟩∧Rs ⟨w,m1⟩ xs cs.toList:=fun hc1=>purs_sound' h hp1 hc1 q3
     have fin:c1→∀ (s:Nat) (x:D) (u:Value),(∀ F,Rs F xs cs.toList→R F x u)→u.cells=cs→s=cs.size →
       ∃ m',SRg base pass F0 m' G ⟨st.tmps,upd o1 i (.fbox s x)⟩ a w∧PurOk G st.objs (upd o1 i (.fbox s x)) ⟨w,m⟩ ⟨w,m'⟩∧R ⟨w,m'⟩ (.ptr s x) (.pointer (some ⟨b,0,none⟩)):=by
      intro hc1 s x u hu hcs hs
      obtain ⟨m1,k1,k2,k4⟩:=main hc1
      have hok1:=k1.objs i _ hi1
      simp only [Hd] at hok1
      obtain ⟨b1,cs1,t1,w1,w2,w3,w4,w5⟩:=hok1
      rw [g1] at w1
      injection w1 with w1
      subst w1
      have hz:m1 b≤cs.size:=by rw [show m1 b=0 from w5];exact Nat.zero_le _
      have hcell:∀ (j:Nat) (y:Value),cs.toList[j]?=some y→w.cell? ⟨b,0+j,none⟩=some y:=fun j y hy=>by
       rw [Nat.zero_add,C3 q2]
       simpa using hy
      have hmem:Mem ⟨w,fun z=>if z=b then cs.size else m1 z⟩ b 0 u.cells.toList:=⟨by simp [hcs],by rw [hcs];exact hcell⟩
      obtain ⟨hg,hsr⟩:=k1.bump (o':=.fbox s x) (n:=cs.size) hi1 rfl g1 hz (fun _=>rfl) (by simp) (by
       intro hF _
       simp only [Hd]
       exact ⟨b,u,g1,(hu _ k4).mono hF,by rw [hcs];exact hs.symm,by rw [hcs];exact q4,hmem⟩)
      refine ⟨_,hsr,k2.trans ⟨Fix.le_bump hz,hg,sub_upd hi1 rfl,same_bump hi1 rfl g1⟩,?_⟩
      simp only [R]
      exact ⟨b,0,u,rfl,(hu _ k4).mono (Fix.le_bump hz),by rw [hcs];exact hs.symm,by rw [hcs];exact q4,hmem⟩
     split at hp
     ·simp only [aZ,aJ] at hp
      obtain ⟨rfl,rfl,rfl⟩:=hp
      obtain ⟨m1,_,_,k4⟩:=main hc
      exact fin hc _ _ (.agg cs) (fun F hF=>Rs_agg hF q4) rfl (by have:=Rs.length k4;simp at this;exact this.symm)
     ·next x0 _ =>
      simp only [aZ,aJ] at hp
      obtain ⟨rfl,rfl,rfl⟩:=hp
      obtain ⟨m1,_,_,k4⟩:=main hc
      have hl:=Rs.length k4
      obtain ⟨l⟩:=cs
      match l,hl with
      | [v0],_ =>
       have h1:v0.oneCell'=true:=q4 v0 (by simp)
       refine fin hc _ _ v0 (fun F hF=>?_) ?_ rfl
       ·simp only [Rs] at hF
        obtain ⟨v1,r,e1,e2,_⟩:=hF
        simp only [List.cons.injEq] at e1
        rw [e1.1]
        exact e2
       ·cases v0<;>simp_all [Value.oneCell',Value.cells]
     ·cases hp
    ·cases hp
   ·cases hp
  ·cases hp
 | n+1,.agg l,c,y,os,st,m,v,h,hp,hc,hr=>by
  simp only [pur] at hp
  split at hp
  ·next xs hx =>
   simp only [aZ,aJ] at hp
   obtain ⟨rfl,rfl,rfl⟩:=hp
   simp only [RA] at hr
   obtain ⟨cs,rfl,g2,g3⟩:=hr
   exact ⟨m,h,PurOk.refl _ _ _,by simp only [R];exact ⟨cs,rfl,flatAs_sound hx g2,g3⟩⟩
  split at hp
  ·next c1 xs o1 hp1 =>
   simp only [aZ,aJ] at hp
   obtain ⟨rfl,rfl,rfl⟩:=hp
   simp only [RA] at hr
   obtain ⟨cs,rfl,g2,g3⟩:=hr
   obtain ⟨m',k1,k2,k4⟩:=leafAs_sound h hp1 hc g2
   exact ⟨m',k1,k2,by simp only [R];exact ⟨cs,rfl,k4,g3⟩⟩
  split at hp
  ·next c1 xs o1 hp1 =>
   simp only [aZ,aJ] at hp
   obtain ⟨rfl,rfl,rfl⟩:=hp
   simp only [RA] at hr
   obtain ⟨cs,rfl,g2,g3⟩:=hr
   obtain ⟨m',k1,k2,k4⟩:=purs_sound' h hp1 hc g2
   exact ⟨m',k1,k2,by simp only [R];exact ⟨cs,rfl,k4,g3⟩⟩
  ·cases hp
 | n+1,.tup l,c,y,os,st,m,v,h,hp,hc,hr=>by
  simp only [pur] at hp
  split at hp
  ·next c1 xs o1 hp1 =>
   simp only [aZ,aJ] at hp
   obtain ⟨rfl,rfl,rfl⟩:=hp
   simp only [RA] at hr
   obtain ⟨cs,rfl,g2⟩:=hr
   obtain ⟨m',k1,k2,k4⟩:=purs_sound' h hp1 hc g2
   exact ⟨m',k1,k2,by simp only [R];exact ⟨cs,rfl,k4⟩⟩
  ·cases hp
 | n+1,.clo f l,c,y,os,st,m,v,h,hp,hc,hr=>by
  simp only [pur] at hp
  split at hp
  ·next c1 xs o1 hp1 =>
   simp only [aZ,aJ] at hp
   obtain ⟨rfl,rfl,rfl⟩:=hp
   simp only [RA] at hr
   obtain ⟨cs,rfl,g2⟩:=hr
   obtain ⟨m',k1,k2,k4⟩:=purs_sound' h hp1 hc g2
   exact ⟨m',k1,k2,by simp only [R];exact ⟨cs,rfl,k4⟩⟩
  ·cases hp
theorem purs_sound':∀ {n:Nat} {l:List AV} {c:Prop} {ys:List D} {os:Gb} {st:AS} {m:Nat→Nat} {vs:List Value},SRg base pass F0 m G st a w→purs n l st.objs=some (c,ys,os)→c→RAs ⟨w,m⟩ G (lk st.objs) l vs →
  ∃ m',SRg base pass F0 m' G ⟨st.tmps,os⟩ a w∧PurOk G st.objs os ⟨w,m⟩ ⟨w,m'⟩∧Rs ⟨w,m'⟩ ys vs
 | 0,l,c,ys,os,st,m,vs,_,hp,_,_=>by simp [purs] at hp
 | n+1,[],c,ys,os,st,m,vs,h,hp,hc,hr=>by
  simp only [purs,aZ,aJ] at hp
  obtain ⟨rfl,rfl,rfl⟩:=hp
  exact ⟨m,h,PurOk.refl _ _ _,by simpa only [Rs,RAs] using hr⟩
 | n+1,x::l,c,ys,os,st,m,vs,h,hp,hc,hr=>by
  simp only [purs] at hp
  split at hp
  ·next c1 y o1 hp1 =>
   split at hp
   ·next c2 ys2 o2 hp2 =>
    simp only [aZ,aJ] at hp
    obtain ⟨rfl,rfl,rfl⟩:=hp
    simp only [RAs] at hr
    obtain ⟨v,r,rfl,g2,g3⟩:=hr
    obtain ⟨m1,k1,k2,k4⟩:=pur_sound' h hp1 hc.1 g2
    obtain ⟨m2,j1,j2,j4⟩:=purs_sound' (st:=⟨st.tmps,o1⟩) k1 hp2 hc.2 (RAs.mono k2.le k2.goes g3)
    refine ⟨m2,j1,k2.trans j2,?_⟩
    simp only [Rs]
    exact ⟨v,r,rfl,k4.mono j2.le,j4⟩
   ·cases hp
  ·cases hp
end
theorem R8 {n:Nat} {x:AV} {c:Prop} {y:D} {os:Gb} {st:AS} {m:Nat→Nat} {v:Value} (h:SRg base pass F0 m G st a w) (hp:pur n x st.objs=some (c,y,os)) (hc:c) (hr:RA ⟨w,m⟩ G (lk st.objs) x v) :
  ∃ m',SRg base pass F0 m' G ⟨st.tmps,os⟩ a w∧Fix.le ⟨w,m⟩ ⟨w,m'⟩∧Db G (lk st.objs) G (lk os)∧R ⟨w,m'⟩ y v:=by
 obtain ⟨m',k1,k2,k3⟩:=pur_sound' h hp hc hr
 exact ⟨m',k1,k2.le,k2.goes,k3⟩
end
def Rv (P:Program) (base:Nat) (pass:Nat→Prop) (F0:Anc) (a:Act) (tm:List AV) (s:Sem Value) (w:World) (z:AV) (os:Gb):Prop :=
 ∃ v w' m' G',s.run P w=.ok v w'∧SRg base pass F0 m' G' ⟨tm,os⟩ a w'∧RA ⟨w',m'⟩ G' (lk os) z v
section
variable {P:Program} {C:Ctx} {F:Fix} {G:Gh} {L:Nat→Option Obj}
theorem D4 {v:Value} (h:v.oneCell'=true):v.cells=#[v]:=by cases v<;>simp_all [Value.oneCell',Value.cells]
theorem R.oneCell {x:D} {v:Value} (h:R F x v) (h1:∀ l,x≠.agg l) (h2:∀ l,x≠.tup l):v.oneCell'=true:=by
 cases x with
 | agg l=>exact absurd rfl (h1 l)
 | tup l=>exact absurd rfl (h2 l)
 | list s l =>
  simp only [R] at h
  obtain ⟨A,c,rfl,_⟩:=h
  rfl
 | ptr s x =>
  simp only [R] at h
  obtain ⟨b,off,u,rfl,_⟩:=h
  rfl
 | clo f l =>
  simp only [R] at h
  obtain ⟨cs,rfl,_⟩:=h
  rfl
 | map ks vs =>
  simp only [R] at h
  obtain ⟨b,es,c,rfl,_⟩:=h
  rfl
 | it f ks vs =>
  simp only [R] at h
  obtain ⟨bm,b,es,c,rfl,_⟩:=h
  rfl
 | any=>simpa only [R] using h
 | _=>simp only [R] at h;subst h;rfl
theorem R.cellsD {x:D} {v:Value} {s:Nat} (h:R F x v) (hf:x.fits s):v.cells.size=s∧∀ u∈v.cells.toList,u.oneCell'=true:=by
 cases x with
 | agg l =>
  simp only [R] at h
  obtain ⟨cs,rfl,h2,h3⟩:=h
  simp only [D.fits] at hf
  refine ⟨by simp [Value.cells,Rs.length h2,hf],by simpa [Value.cells] using h3⟩
 | tup l=>exact absurd hf (by simp [D.fits])
 | _ =>
  have h1:=R.oneCell h (by simp) (by simp)
  simp only [D.fits] at hf
  subst hf
  rw [D4 h1]
  simpa using h1
theorem R.cell {x:D} {v u:Value} {f:Nat} (h:R F x v) (hu:v.cells.toList[f]?=some u):R F (x.cell f) u:=by
 cases x with
 | agg l =>
  simp only [R] at h
  obtain ⟨cs,rfl,h2,h3⟩:=h
  simp only [Value.cells] at hu
  have hf:f<l.length:=by
   rw [←Rs.length h2]
   exact (List.getElem?_eq_some_iff.1 hu).1
  obtain ⟨u',g1,g2⟩:=h2.at (aK hf)
  rw [hu] at g1
  injection g1 with g1
  subst g1
  simp only [D.cell,aY,aK hf,Option.getD_some]
  exact g2
 | tup l =>
  have h0:=h
  simp only [R] at h
  obtain ⟨cs,rfl,_⟩:=h
  simp only [Value.cells] at hu
  cases f with
  | zero=>simp at hu;subst hu;exact h0
  | succ f=>simp at hu
 | _ =>
  have h1:=R.oneCell h (by simp) (by simp)
  rw [D4 h1] at hu
  cases f with
  | zero=>simp at hu;subst hu;exact h
  | succ f=>simp at hu
theorem R.asAgg {x:D} {v:Value} (h:R F x v) (h1:∀ u∈v.cells.toList,u.oneCell'=true):R F x.asAgg (.agg v.cells):=by
 cases x with
 | agg l =>
  simp only [R] at h
  obtain ⟨cs,rfl,h2,h3⟩:=h
  simp only [D.asAgg,R,Value.cells]
  exact ⟨cs,rfl,h2,h3⟩
 | _ =>
  simp only [D.asAgg]
  have hv:v.cells=#[v]:=by
   cases v with
   | agg cs=>simp [R,Value.oneCell'] at h
   | _=>rfl
  rw [hv] at h1 ⊢
  simp only [R]
  refine ⟨[v],rfl,?_,by simpa using h1⟩
  simp only [Rs]
  exact ⟨v,[],rfl,h,rfl⟩
theorem cells_sound {ag:Bool} {s:Nat} {x:AV} {v:Value} (h:RA F G L x v) (hf:x.fits s) :
  RAs F G L (x.cells ag s) v.cells.toList∧v.cells.size=s∧∀ u∈v.cells.toList,u.oneCell'=true:=by
 have one:v.oneCell'=true→s=1→RAs F G L [x] v.cells.toList∧v.cells.size=s∧∀ u∈v.cells.toList,u.oneCell'=true:=by
  intro h1 hs
  subst hs
  rw [D4 h1]
  exact ⟨by simp only [RAs];exact ⟨v,[],rfl,h,rfl⟩,rfl,by simpa using h1⟩
 cases x with
 | d x =>
  have hd:=h
  simp only [RA] at h
  obtain ⟨g1,g2⟩:=R.cellsD h hf
  refine ⟨?_,g1,g2⟩
  cases x with
  | agg l =>
   simp only [R] at h
   obtain ⟨cs,rfl,h2,_⟩:=h
   simp only [AV.cells,Value.cells]
   simpa using RAs.of_Rs h2
  | tup l=>exact absurd hf (by simp [AV.fits,D.fits])
  | _ =>
   have h1:=R.oneCell h (by simp) (by simp)
   simp only [AV.fits,D.fits] at hf
   subst hf
   have:=(one h1 rfl).1
   cases ag
   ·simpa [AV.cells] using this
   ·simpa [AV.cells,cellsFrom,D.cell] using this
 | ref i f=>simp only [RA] at h;exact one h.1 hf
 | rref i n e f=>simp only [RA] at h;exact one h.1 hf
 | sl i n=>simp only [RA] at h;exact one h.1 hf
 | sb i n f=>simp only [RA] at h;exact one h.1 hf
 | mpr i=>simp only [RA] at h;exact one h.1 hf
 | agg l =>
  simp only [RA] at h
  obtain ⟨cs,rfl,h2,h3⟩:=h
  simp only [AV.fits] at hf
  exact ⟨by simpa [AV.cells,Value.cells] using h2,by simp [Value.cells,RAs.length h2,hf],by simpa [Value.cells] using h3⟩
 | tup l=>exact absurd hf (by simp [AV.fits])
 | clo f l =>
  have h0:=h
  simp only [RA] at h
  obtain ⟨cs,rfl,_⟩:=h
  exact one rfl hf
 | nils k=>simp only [RA] at h;exact one (by rw [h];rfl) hf
 | dead=>exact absurd hf (by simp [AV.fits])
theorem allD_sound:∀ {l:List AV} {ds:List D} {vs:List Value},allD l=some ds→RAs F G L l vs→Rs F ds vs
 | [],ds,vs,h,hr=>by
  simp only [allD,aZ] at h
  subst h
  simpa only [Rs,RAs] using hr
 | x::l,ds,vs,h,hr=>by
  cases x with
  | d x =>
   simp only [allD] at h
   split at h
   ·next l' hl' =>
    simp only [aZ] at h
    subst h
    simp only [RAs,RA] at hr
    obtain ⟨v,r,h1,h2,h3⟩:=hr
    simp only [Rs]
    exact ⟨v,r,h1,h2,allD_sound hl' h3⟩
   ·cases h
  | _=>simp [allD] at h
theorem mkAgg_sound {l:List AV} {vs:List Value} (h:RAs F G L l vs) (h1:∀ u∈vs,u.oneCell'=true):RA F G L (mkAgg l) (.agg vs.toArray):=by
 unfold mkAgg
 split
 ·next ds hd=>simp only [RA,R];exact ⟨vs,rfl,allD_sound hd h,h1⟩
 ·simp only [RA];exact ⟨vs,rfl,h,h1⟩
theorem mkTup_sound {l:List AV} {vs:List Value} (h:RAs F G L l vs):RA F G L (mkTup l) (.tuple vs.toArray):=by
 unfold mkTup
 split
 ·next ds hd=>simp only [RA,R];exact ⟨vs,rfl,allD_sound hd h⟩
 ·simp only [RA];exact ⟨vs,rfl,h⟩
theorem mkClo_sound {f:Nat} {l:List AV} {vs:List Value} (h:RAs F G L l vs):RA F G L (mkClo f l) (.func (.func f) #[] vs.toArray):=by
 unfold mkClo
 split
 ·next ds hd=>simp only [RA,R];exact ⟨vs,rfl,allD_sound hd h⟩
 ·simp only [RA];exact ⟨vs,rfl,h⟩
theorem RAs.split {l:List AV} {vs:List Value} (h:RAs F G L l vs) (k:Nat):RAs F G L (l.take k) (vs.take k)∧RAs F G L (l.drop k) (vs.drop k):=by
 induction k generalizing l vs with
 | zero=>simpa [RAs] using h
 | succ k ih =>
  cases l with
  | nil=>simp only [RAs] at h;subst h;simp [RAs]
  | cons x l =>
   simp only [RAs] at h
   obtain ⟨v,r,rfl,h2,h3⟩:=h
   obtain ⟨g1,g2⟩:=ih h3
   refine ⟨?_,by simpa using g2⟩
   simp only [List.take_succ_cons,RAs]
   exact ⟨v,_,rfl,h2,g1⟩
theorem Ctx.ag_some (T:B8 P C.τ) {t:Nat} {b:Bool} (h:C.ag t=some b):TyOk P C.τ t:=T t (by unfold Ctx.ag at h;rw [h];rfl)
theorem run_isAgg (T:B8 P C.τ) {t:Nat} {b:Bool} (h:C.ag t=some b) (w:World):(isAgg t).run P w=.ok b w:=by
 obtain ⟨d,h1,h2⟩:=(Ctx.ag_some T h).und
 unfold Ctx.ag at h
 cases hk:(C.τ t).kind with
 | struct fs =>
  rw [hk] at h h2
  simp only [TK.ag,aZ] at h
  simp only [TK.is] at h2
  obtain ⟨fields,rfl,_⟩:=h2
  subst h
  simp [isAgg,run_underlying h1]
 | array n e =>
  rw [hk] at h h2
  simp only [TK.ag,aZ] at h
  simp only [TK.is] at h2
  obtain ⟨rfl,_⟩:=h2
  subst h
  simp [isAgg,run_underlying h1]
 | other=>rw [hk] at h;simp [TK.ag] at h
 | func =>
  rw [hk] at h h2
  simp only [TK.ag,aZ] at h
  simp only [TK.is] at h2
  obtain ⟨x,y,z,rfl⟩:=h2
  subst h
  simp [isAgg,run_underlying h1]
 | slice e =>
  rw [hk] at h h2
  simp only [TK.ag,aZ] at h
  simp only [TK.is] at h2
  obtain ⟨rfl,_⟩:=h2
  subst h
  simp [isAgg,run_underlying h1]
 | _ =>
  rw [hk] at h h2
  simp only [TK.ag,aZ] at h
  simp only [TK.is] at h2
  subst h2
  subst h
  simp [isAgg,run_underlying h1]
theorem Ft {t:Nat} (h:TyOk P C.τ t) (w:World):(sizeOf t).run P w=.ok (C.size t) w:=by
 obtain ⟨i,z,h1,h2,_⟩:=h.info
 simp [sizeOf,typeInfo,h1,h2,Ctx.size]
theorem run_zeroT {t:Nat} (h:TyOk P C.τ t) (w:World):∃ z,(zeroValue t).run P w=.ok z w∧(∀ F G L,RA F G L (C.τ t).zero z)∧z.cells.size=C.size t∧∀ u∈z.cells.toList,u.oneCell'=true:=by
 obtain ⟨i,z,h1,h2,h3,h4,h5,_,h6,h7⟩:=h.info
 exact ⟨z,by simp [zeroValue,typeInfo,h1,h4],h5,h6,h7⟩
section
variable {base:Nat} {pass:Nat→Prop} {F0:Anc} {m:Nat→Nat} {st:AS} {a:Act} {w:World}
theorem Gv (h:SRg base pass F0 m G st a w) {s:Sem Value} {v:Value} {z:AV} (hr:s.run P w=.ok v w) (hz:RA ⟨w,m⟩ G (lk st.objs) z v) :
  Rv P base pass F0 a st.tmps s w z st.objs:=⟨v,w,m,G,hr,h,hz⟩
theorem Fix.le_alloc (h:∀ b,w.heap.size≤b→m b=0) (o:Go.Obj):Fix.le ⟨w,m⟩ ⟨w.alloc o,m⟩:=by
 refine ⟨fun b=>⟨cZ _,fun off ho=>?_⟩,fun b es c hm hb=>?_⟩
 ·rcases Nat.lt_or_ge b w.heap.size with hlt|hge
  ·exact World.cell?_alloc_lt w o ⟨b,off,none⟩ hlt
  ·have:=h b hge
   simp only at ho
   omega
 ·rcases Nat.lt_or_ge b w.heap.size with hlt|hge
  ·rw [Below.heap_alloc w o b hlt];exact hb
  ·have:=h b hge
   simp only at hm
   omega
theorem SRg.fresh (h:SRg base pass F0 m G st a w) {k:Nat} (hk:lk st.objs k=none) (o':Obj) (ob:Go.Obj) (hd:Value)
  (hok:Db G (lk st.objs) ⟨fun j=>if j=k then some w.heap.size else G.γ j,fun j=>if j=k then hd else G.hd j⟩ (lk (upd st.objs k o'))→Fix.le ⟨w,m⟩ ⟨w.alloc ob,m⟩ →
   Hd ⟨w.alloc ob,m⟩ ⟨fun j=>if j=k then some w.heap.size else G.γ j,fun j=>if j=k then hd else G.hd j⟩ (lk (upd st.objs k o')) k o') :
  Db G (lk st.objs) ⟨fun j=>if j=k then some w.heap.size else G.γ j,fun j=>if j=k then hd else G.hd j⟩ (lk (upd st.objs k o'))∧Fix.le ⟨w,m⟩ ⟨w.alloc ob,m⟩ ∧
  SRg base pass F0 m ⟨fun j=>if j=k then some w.heap.size else G.γ j,fun j=>if j=k then hd else G.hd j⟩ ⟨st.tmps,upd st.objs k o'⟩ a (w.alloc ob):=by
 have hF:=Fix.le_alloc h.new ob
 have key:=h.obj k o' (G':=⟨fun j=>if j=k then some w.heap.size else G.γ j,fun j=>if j=k then hd else G.hd j⟩) hF (fun j hj=>by simp [hj]) (fun o ho=>by rw [hk] at ho;cases ho) (fun hg=>hok hg hF)
  (fun j o hj hl ho b hb=>⟨Below.heap_alloc w ob b (h.mine j o b hl ho hb).1,rfl⟩) (fun ho b hb=>by
   simp only [if_true,aZ] at hb
   subst hb
   refine ⟨by simp,.inl h.small,fun j o hj hl ho hbj=>?_⟩
   have:=(h.mine j o _ hl ho hbj).1
   omega) ⟨rfl,rfl,rfl,by simp,fun b hb _=>Below.heap_alloc w ob b (Nat.lt_of_lt_of_le hb h.small)⟩ (fun _ _ _=>rfl) (fun b hb=>h.new b (by simp at hb;omega))
 exact ⟨key.1,hF,key.2⟩
theorem box_sound (h:SRg base pass F0 m G st a w) {k e:Nat} {x:AV} {v:Value} {c:Prop} {z:AV} {os:Gb} (hx:RA ⟨w,m⟩ G (lk st.objs) x v)
  (hh:hAlloc C e k x st.objs=some (c,z,os)) (hc:c):Rv P base pass F0 a st.tmps (Instr.box e v) w z os:=by
 unfold hAlloc at hh
 split at hh
 ·next ag hag hk =>
  simp only [aZ,aJ] at hh
  obtain ⟨rfl,rfl,rfl⟩:=hh
  obtain ⟨g1,g2,g3⟩:=cells_sound (ag:=ag) hx hc
  obtain ⟨q1,q2,q3⟩:=h.fresh hk (.box ag (x.cells ag (C.size e))) (.cells v.cells e) undef (fun hg hF=>by
   simp only [Hd]
   refine ⟨w.heap.size,v.cells,e,by simp,heap_alloc_new w _,?_,g3,h.new _ (cZ _)⟩
   exact RAs.mono hF hg g1)
  refine ⟨_,_,m,_,by simp [Instr.box,newVar,newRow];rfl,q3,?_⟩
  simp only [RA,Bm,if_true]
  exact ⟨rfl,fun _=>⟨_,rfl,rfl⟩⟩
 ·cases hh
theorem alloc_sound (T:B8 P C.τ) (h:SRg base pass F0 m G st a w) {k e:Nat} {c:Prop} {z:AV} {os:Gb}
  (hh:hAlloc C e k (C.τ e).zero st.objs=some (c,z,os)) (hc:c):Rv P base pass F0 a st.tmps (Instr.alloc e true (.tuple #[])) w z os:=by
 have hag:∃ b,C.ag e=some b:=by
  unfold hAlloc at hh
  split at hh
  ·next ag hag hk=>exact ⟨ag,hag⟩
  ·cases hh
 obtain ⟨b,hb⟩:=hag
 obtain ⟨zv,z1,z2,_,_⟩:=run_zeroT (Ctx.ag_some T hb) w
 obtain ⟨v,w',m',G',r1,r2,r3⟩:=box_sound (P:=P) (C:=C) h (z2 ⟨w,m⟩ G (lk st.objs)) hh hc
 refine ⟨v,w',m',G',?_,r2,r3⟩
 rw [←r1]
 simp [Instr.alloc,Instr.box,z1]
theorem loadVar_agg (T:B8 P C.τ) {t:Nat} (ht:C.ag t=some true) {b off:Nat} {vs:List Value} (hl:vs.length=C.size t)
  (hc:∀ j u,vs[j]?=some u→w.cell? ⟨b,off+j,none⟩=some u):(Instr.loadAt t (.pointer (some ⟨b,off,none⟩))).run P w=.ok (.agg vs.toArray) w:=by
 have hll:=run_loadCells_list (P:=P) w ⟨b,off,none⟩ vs (fun j u hu=>by
  rw [show (⟨b,off,none⟩:Addr).add j=⟨b,off+j,none⟩ by unfold Addr.add;split<;>simp_all]
  exact hc j u hu)
 rw [hl] at hll
 simp [Instr.loadAt,Instr.sureAddr,loadVar,run_isAgg T ht,Ft (Ctx.ag_some T ht),hll]
theorem A6 (T:B8 P C.τ) {t:Nat} (ht:C.ag t=some false) {b off:Nat} {u:Value} (hc:w.cell? ⟨b,off,none⟩=some u) :
  (Instr.loadAt t (.pointer (some ⟨b,off,none⟩))).run P w=.ok u w:=by
 simp [Instr.loadAt,Instr.sureAddr,loadVar,run_isAgg T ht,hc]
theorem drop_take_at {α:Type} {l:List α} {f n j:Nat} {u:α} (h:((l.drop f).take n)[j]?=some u):l[f+j]?=some u:=by
 rw [List.getElem?_take] at h
 split at h
 ·rw [List.getElem?_drop] at h;exact h
 ·cases h
theorem load_ok0 (T:B8 P C.τ) (h:SRg base pass F0 m G st a w) {t:Nat} {p:AV} {v:Value} {c:Prop} {z:AV} {os:Gb} (hp:RA ⟨w,m⟩ G (lk st.objs) p v)
  (hh:E4 C t p st.objs=some (c,z,os)) (hc:c):os=st.objs∧∃ v',(Instr.loadAt t v).run P w=.ok v' w∧RA ⟨w,m⟩ G (lk st.objs) z v':=by
 cases p with
 | d p =>
  cases p with
  | ptr s x =>
   simp only [E4] at hh
   simp only [RA,R] at hp
   obtain ⟨b,off,u,rfl,h2,h3,h1,h4,h5⟩:=hp
   split at hh
   ·next ht =>
    split at hh
    ·next hs =>
     simp only [aZ,aJ] at hh
     obtain ⟨rfl,rfl,rfl⟩:=hh
     have hr:=loadVar_agg (w:=w) T ht (vs:=u.cells.toList) (b:=b) (off:=off) (by simp [h3,hs]) h5
     refine ⟨rfl,_,hr,?_⟩
     simp only [RA]
     simpa using R.asAgg h2 h1
    ·cases hh
   ·next ht =>
    split at hh
    ·next hs =>
     simp only [aZ,aJ] at hh
     obtain ⟨rfl,rfl,rfl⟩:=hh
     have hlt:0<u.cells.toList.length:=by simp [h3,hs]
     have hg:=aK hlt
     have hr:=A6 (w:=w) T ht (b:=b) (off:=off) (by simpa using h5 0 _ hg)
     refine ⟨rfl,_,hr,?_⟩
     simp only [RA]
     exact R.cell h2 hg
    ·cases hh
   ·cases hh
  | _=>simp [E4] at hh
 | ref i f =>
  simp only [E4] at hh
  simp only [RA] at hp
  split at hh
  ·next ag cells hi =>
   rw [hi] at hp
   obtain ⟨b,g1,rfl⟩:=hp.2 rfl
   have hok:=h.objs i _ hi
   simp only [Hd] at hok
   obtain ⟨b',cs,ty,q1,q2,q3,q4,q5⟩:=hok
   rw [g1] at q1
   injection q1 with q1
   subst q1
   have hlen:=RAs.length q3
   split at hh
   ·next ht =>
    split at hh
    ·next hs =>
     simp only [aZ,aJ] at hh
     obtain ⟨rfl,rfl,rfl⟩:=hh
     have hr:=loadVar_agg (w:=w) T ht (vs:=(cs.toList.drop f).take (C.size t)) (b:=b) (off:=f) (by simp at hlen ⊢;omega) (fun j u hu=>by
      rw [C3 q2]
      simpa using drop_take_at hu)
     refine ⟨rfl,_,hr,?_⟩
     exact mkAgg_sound ((q3.split f).2.split (C.size t)).1 (fun u hu=>q4 u (List.mem_of_mem_drop (List.mem_of_mem_take hu)))
    ·cases hh
   ·next ht =>
    split at hh
    ·next hs =>
     simp only [aZ,aJ] at hh
     obtain ⟨rfl,rfl,rfl⟩:=hh
     obtain ⟨u,hu,hru⟩:=q3.at (aK hs)
     have hr:=A6 (w:=w) T ht (b:=b) (off:=f) (by rw [C3 q2];simpa using hu)
     refine ⟨rfl,_,hr,?_⟩
     rw [aY,aK hs]
     exact hru
    ·cases hh
   ·cases hh
  ·next s x hi =>
   rw [hi] at hp
   obtain ⟨b,g1,rfl⟩:=hp.2 rfl
   have hok:=h.objs i _ hi
   simp only [Hd] at hok
   obtain ⟨b',u,q1,q2,q3,q4,q5,q6⟩:=hok
   rw [g1] at q1
   injection q1 with q1
   subst q1
   split at hh
   ·next ht =>
    split at hh
    ·next hs =>
     simp only [aZ,aJ] at hh
     obtain ⟨rfl,rfl,rfl⟩:=hh
     obtain ⟨rfl,rfl⟩:=hs
     have hr:=loadVar_agg (w:=w) T ht (vs:=u.cells.toList) (b:=b) (off:=0) (by simp [q3]) q6
     refine ⟨rfl,_,hr,?_⟩
     simp only [RA]
     simpa using R.asAgg q2 q4
    ·cases hh
   ·next ht =>
    split at hh
    ·next hs =>
     simp only [aZ,aJ] at hh
     obtain ⟨rfl,rfl,rfl⟩:=hh
     have hlt:f<u.cells.toList.length:=by simp [q3];exact hs
     have hg:=aK hlt
     have hr:=A6 (w:=w) T ht (b:=b) (off:=f) (by simpa using q6 f _ hg)
     refine ⟨rfl,_,hr,?_⟩
     simp only [RA]
     exact R.cell q2 hg
    ·cases hh
   ·cases hh
  ·cases hh
 | rref i n e f =>
  simp only [E4] at hh
  simp only [RA] at hp
  split at hh
  ·next s els k hi =>
   rw [hi] at hp
   have hok:=h.objs i _ hi
   simp only [Hd] at hok
   have blk:n=els.length→e<els.length→∃ b cs ty vv,v=.pointer (some ⟨b,e*s+f,none⟩)∧w.heap[b]?=some (.cells cs ty (0,0))∧R ⟨w,m⟩ (el els e) vv∧vv.cells.size=s ∧
     (∀ u∈vv.cells.toList,u.oneCell'=true)∧∀ j u,vv.cells.toList[j]?=some u→cs[e*s+j]?=some u:=by
    intro hn he
    obtain ⟨b,g1,g2⟩:=hp.2.2 hn
    rcases hok with ⟨h1,_,rfl,_⟩|⟨b',cap,cs,ty,h1,h2,h3,h4,h5,h6,h7,h8,h9⟩
    ·simp at he
    ·rw [g1] at h1
     injection h1 with h1
     subst h1
     obtain ⟨vv,r1,r2,r3,r4⟩:=h7.at (aK he)
     refine ⟨b,cs,ty,vv,g2,h5,?_,r2,r3,fun j u hu=>?_⟩
     ·unfold el
      rw [aY,aK he]
      exact r1
     ·rw [←r4] at hu
      have:=drop_take_at hu
      rw [List.getElem?_take] at this
      split at this
      ·simpa using this
      ·cases this
   split at hh
   ·next ht =>
    split at hh
    ·next hs =>
     simp only [aZ,aJ] at hh
     obtain ⟨rfl,rfl,rfl⟩:=hh
     obtain ⟨rfl,rfl⟩:=hs
     obtain ⟨b,cs,ty,vv,rfl,r1,r2,r3,r4,r5⟩:=blk hc.1 hc.2
     have hr:=loadVar_agg (w:=w) T ht (vs:=vv.cells.toList) (b:=b) (off:=e*C.size t+0) (by simp [r3]) (fun j u hu=>by rw [C3 r1,Nat.add_zero];exact r5 j u hu)
     refine ⟨rfl,_,hr,?_⟩
     simp only [RA]
     simpa using R.asAgg r2 r4
    ·cases hh
   ·next ht =>
    split at hh
    ·next hs =>
     simp only [aZ,aJ] at hh
     obtain ⟨rfl,rfl,rfl⟩:=hh
     obtain ⟨b,cs,ty,vv,rfl,r1,r2,r3,r4,r5⟩:=blk hc.1 hc.2
     have hlt:f<vv.cells.toList.length:=by simp [r3];exact hs
     have hg:=aK hlt
     have hr:=A6 (w:=w) T ht (b:=b) (off:=e*s+f) (by rw [C3 r1];exact r5 f _ hg)
     refine ⟨rfl,_,hr,?_⟩
     simp only [RA]
     exact R.cell r2 hg
    ·cases hh
   ·cases hh
  ·cases hh
 | _=>simp [E4] at hh
theorem load_ok (T:B8 P C.τ) (h:SRg base pass F0 m G st a w) {t:Nat} {p:AV} {v:Value} {c:Prop} {z:AV} {os:Gb} (hp:RA ⟨w,m⟩ G (lk st.objs) p v)
  (hh:hLoad C t p st.objs=some (c,z,os)) (hc:c):os=st.objs∧∃ v',(Instr.loadAt t v).run P w=.ok v' w∧RA ⟨w,m⟩ G (lk st.objs) z v':=by
 unfold hLoad at hh
 split at hh
 ·next i n e f =>
  split at hh
  ·next i' n0 e0 f0 x hk =>
   split at hh
   ·next he =>
    obtain ⟨rfl,rfl⟩:=he
    split at hh
    ·next s els k hi ht =>
     simp only [aZ,aJ] at hh
     obtain ⟨rfl,rfl,rfl⟩:=hh
     obtain ⟨rfl,hn,rfl⟩:=hc
     have hok:=h.objs _ _ hk
     simp only [Hd] at hok
     obtain ⟨b,off,v0,h1,h2,h3,h4⟩:=hok
     simp only [RA,hi] at hp h1
     obtain ⟨b1,g1,rfl⟩:=hp.2.2 hn
     obtain ⟨b2,g2,e2⟩:=h1.2.2 hn
     rw [g1] at g2
     injection g2 with g2
     subst g2
     simp only [Value.pointer.injEq,aZ,Addr.mk.injEq,and_true] at e2
     obtain ⟨rfl,rfl⟩:=e2
     exact ⟨rfl,v0,A6 (w:=w) T ht h3,h4⟩
    ·cases hh
   ·exact load_ok0 T h hp hh hc
  ·exact load_ok0 T h hp hh hc
 ·exact load_ok0 T h hp hh hc
theorem load_sound (T:B8 P C.τ) (h:SRg base pass F0 m G st a w) {t:Nat} {p:AV} {v:Value} {c:Prop} {z:AV} {os:Gb} (hp:RA ⟨w,m⟩ G (lk st.objs) p v)
  (hh:hLoad C t p st.objs=some (c,z,os)) (hc:c):Rv P base pass F0 a st.tmps (Instr.loadAt t v) w z os:=by
 obtain ⟨rfl,v',hr,hz⟩:=load_ok (P:=P) T h hp hh hc
 exact Gv h hr hz
end
end
section
variable {P:Program} {C:Ctx} {G:Gh}
variable {base:Nat} {pass:Nat→Prop} {F0:Anc} {m:Nat→Nat} {st:AS} {a:Act} {w:World}
theorem cell_setRow_other {g:Nat} {cs:Array Value} {b off:Nat} (h:b≠g):(w.setRow g cs).cell? ⟨b,off,none⟩=w.cell? ⟨b,off,none⟩ :=
 World.cell?_of_block (setRow_other w g b cs h)
theorem Fix.le_setRow {g:Nat} {cur cs:Array Value} {t:TypeId} (hg:w.heap[g]?=some (.cells cur t (0,0))) (h:∀ off,off<m g→cs[off]?=cur[off]?) :
  Fix.le ⟨w,m⟩ ⟨w.setRow g cs,m⟩:=by
 refine ⟨fun b=>⟨cZ _,fun off ho=>?_⟩,fun b es c hm hbb=>?_⟩
 ·by_cases hb:b=g
  ·subst hb
   rw [C3 (setRow_heap w b cur cs t (0,0) hg),C3 hg]
   exact h off ho
  ·exact cell_setRow_other hb
 ·by_cases hb:b=g
  ·subst hb
   rw [hg] at hbb
   cases hbb
  ·rw [setRow_other w g b cs hb];exact hbb
theorem SRg.write (h:SRg base pass F0 m G st a w) {i b:Nat} {o o':Obj} {cur cs:Array Value} {t:TypeId} (hi:lk st.objs i=some o) (ho:o.owns=true) (hb:G.γ i=some b)
  (hg:w.heap[b]?=some (.cells cur t (0,0))) (hm:∀ off,off<m b→cs[off]?=cur[off]?)
  (hbox:o'.isBox=true→o.isBox=true) (hrow:∀ s els' k',o'=.row s els' k'→∃ els k,o=.row s els k∧els.length=els'.length)
  (hok:Fix.le ⟨w,m⟩ ⟨w.setRow b cs,m⟩→Db G (lk st.objs) G (lk (upd st.objs i o'))→Hd ⟨w.setRow b cs,m⟩ G (lk (upd st.objs i o')) i o') :
  Db G (lk st.objs) G (lk (upd st.objs i o'))∧Fix.le ⟨w,m⟩ ⟨w.setRow b cs,m⟩∧SRg base pass F0 m G ⟨st.tmps,upd st.objs i o'⟩ a (w.setRow b cs):=by
 have hF:=Fix.le_setRow hg hm
 have hmm:=h.mine i o b hi ho hb
 have key:=h.obj i o' (G':=G) (m':=m) hF (fun _ _=>⟨rfl,rfl⟩) (fun o1 h1=>by
   rw [hi] at h1
   injection h1 with h1
   subst h1
   refine ⟨fun hx=>⟨hbox hx,rfl⟩,fun s els' k' he=>?_⟩
   obtain ⟨els,k,e1,e2⟩:=hrow s els' k' he
   exact ⟨els,k,e1,by omega,fun _=>⟨rfl,rfl⟩⟩) (fun hgo=>hok hF hgo)
  (fun j oj hji hj hoj b' hb'=>by
   have:b'≠b:=fun e=>hji (h.apart j i oj o b hj hi hoj ho (e▸hb') hb)
   exact ⟨setRow_other w b b' cs this,rfl⟩)
  (fun _ b' hb'=>by
   rw [hb] at hb'
   injection hb' with hb'
   subst hb'
   exact ⟨by simpa using hmm.1,hmm.2,fun j oj hji hj hoj e=>hji (h.apart j i oj o b hj hi hoj ho e hb)⟩)
  ⟨rfl,rfl,rfl,by simp,fun b' hlt hp=>setRow_other w b b' cs (fun e=>by
   subst e
   rcases hmm.2 with h1|h1
   ·omega
   ·exact hp h1)⟩ (fun _ _ _=>rfl) (fun b' hge=>h.new b' (by simpa using hge))
 exact ⟨key.1,hF,key.2⟩
theorem Ew (T:B8 P C.τ) {t:Nat} {bb:Bool} (ht:C.ag t=some bb) {b off:Nat} {cur:Array Value} {ty:TypeId} {v:Value} (hg:w.heap[b]?=some (.cells cur ty (0,0)))
  (hs:v.cells.size=C.size t) (hfit:off+v.cells.size≤cur.size) (h1:∀ u∈v.cells.toList,u.oneCell'=true) :
  (Instr.storeAt t (.pointer (some ⟨b,off,none⟩)) v).run P w=.ok () (w.setRow b (cur.toList.take off++v.cells.toList++cur.toList.drop (off+v.cells.size)).toArray):=by
 have hst:=run_storeCells_at P b off ty v.cells.toList 0 cur w hg (by simpa using hfit) h1
 simp only [Nat.add_zero,Array.length_toList] at hst
 simp [Instr.storeAt,Instr.sureAddr,storeVar,Ft (Ctx.ag_some T ht),hs,hst]
def Stores (P:Program) (base:Nat) (pass:Nat→Prop) (F0:Anc) (a:Act) (tm:List AV) (s:Sem Unit) (w:World) (os:Gb):Prop :=
 ∃ w' m' G',s.run P w=.ok () w'∧SRg base pass F0 m' G' ⟨tm,os⟩ a w'
theorem store_box (T:B8 P C.τ) (h:SRg base pass F0 m G st a w) {t i f:Nat} {bb:Bool} (ht:C.ag t=some bb) {ag:Bool} {cells:List AV} {x:AV} {v vx:Value}
  (hi:lk st.objs i=some (.box ag cells)) (hp:RA ⟨w,m⟩ G (lk st.objs) (.ref i f) v) (hx:RA ⟨w,m⟩ G (lk st.objs) x vx) (hf:x.fits (C.size t)) (hs:f+C.size t≤cells.length) :
  Stores P base pass F0 a st.tmps (Instr.storeAt t v vx) w (upd st.objs i (.box ag (splice cells f (x.cells bb (C.size t))))):=by
 simp only [RA,hi] at hp
 obtain ⟨b,g1,rfl⟩:=hp.2 rfl
 have hok:=h.objs i _ hi
 simp only [Hd] at hok
 obtain ⟨b',cs,ty,q1,q2,q3,q4,q5⟩:=hok
 rw [g1] at q1
 injection q1 with q1
 subst q1
 have hlen:=RAs.length q3
 obtain ⟨c1,c2,c3⟩:=cells_sound (ag:=bb) hx hf
 have hcl:(x.cells bb (C.size t)).length=C.size t:=by rw [←RAs.length c1];simpa using c2
 have hfit:f+vx.cells.size≤cs.size:=by
  rw [c2]
  have:=hlen
  simp only [Array.length_toList] at this
  omega
 have hrun:=Ew (w:=w) (off:=f) T ht q2 c2 hfit c3
 obtain ⟨k1,k2,k3⟩:=h.write (o':=.box ag (splice cells f (x.cells bb (C.size t)))) (cs:=(cs.toList.take f++vx.cells.toList++cs.toList.drop (f+vx.cells.size)).toArray) hi rfl g1 q2
  (fun off ho=>by rw [show m b=0 from q5] at ho;omega) (fun _=>rfl) (by simp) (by
   intro hF hg
   simp only [Hd]
   refine ⟨b,_,ty,g1,setRow_heap w b cs _ ty (0,0) q2,?_,?_,q5⟩
   ·have e:splice cells f (x.cells bb (C.size t))=cells.take f++x.cells bb (C.size t)++cells.drop (f+vx.cells.size):=by unfold splice;rw [hcl,c2]
    have:=RAs.append (RAs.append (RAs.mono hF hg (q3.split f).1) (RAs.mono hF hg c1)) (RAs.mono hF hg (q3.split (f+vx.cells.size)).2)
    rw [←e] at this
    exact this
   ·intro u hu
    simp only [List.mem_append] at hu
    rcases hu with (hu|hu)|hu
    ·exact q4 u (List.mem_of_mem_take hu)
    ·exact c3 u hu
    ·exact q4 u (List.mem_of_mem_drop hu))
 exact ⟨_,m,G,hrun,k3⟩
theorem Rs.set {F:Fix}:∀ {l:List D} {vs:List Value} {k:Nat} {x:D} {v:Value},Rs F l vs→R F x v→Rs F (l.set k x) (vs.set k v)
 | [],_,_,_,_,h,_=>by simp only [Rs] at h;subst h;simp [Rs]
 | y::l,vs,k,x,v,h,hx=>by
  simp only [Rs] at h
  obtain ⟨u,r,rfl,h2,h3⟩:=h
  cases k with
  | zero=>simp only [aV,Rs];exact ⟨v,r,rfl,hx,h3⟩
  | succ k=>simp only [aW,Rs];exact ⟨u,_,rfl,h2,Rs.set h3 hx⟩
theorem R.setCell {F:Fix} {x y:D} {v u:Value} {f:Nat} (h:R F x v) (h1:∀ z∈v.cells.toList,z.oneCell'=true) (hf:f<v.cells.size) (hu:R F y u) (hu1:u.oneCell'=true) :
  ∃ v',R F (x.setCell f y) v'∧v'.cells.toList=v.cells.toList.set f u∧∀ z∈v'.cells.toList,z.oneCell'=true:=by
 have all:∀ z∈v.cells.toList.set f u,z.oneCell'=true:=by
  intro z hz
  rcases List.mem_or_eq_of_mem_set hz with hz|hz
  ·exact h1 z hz
  ·rw [hz];exact hu1
 cases x with
 | agg l =>
  simp only [R] at h
  obtain ⟨cs,rfl,h2,_⟩:=h
  simp only [Value.cells] at all
  refine ⟨.agg (cs.set f u).toArray,?_,by simp [Value.cells],by simpa [Value.cells] using all⟩
  simp only [D.setCell,R]
  exact ⟨_,rfl,Rs.set h2 hu,by simpa using all⟩
 | _ =>
  have hv:v.cells=#[v]:=by
   cases v with
   | agg cs=>simp [R,Value.oneCell'] at h
   | _=>rfl
  rw [hv] at hf ⊢
  have hf0:f=0:=by simpa using hf
  subst hf0
  exact ⟨u,hu,by simp [D4 hu1],by simp [D4 hu1,hu1]⟩
theorem set_splice {α:Type} (l:List α) (k:Nat) (v:α) (hk:k<l.length):l.take k++[v]++l.drop (k+1)=l.set k v:=by
 rw [List.set_eq_take_append_cons_drop,if_pos hk]
 simp
theorem store_sound0 (T:B8 P C.τ) (h:SRg base pass F0 m G st a w) {t:Nat} {p x:AV} {v vx:Value} {c:Prop} {z:AV} {os:Gb} (hp:RA ⟨w,m⟩ G (lk st.objs) p v) (hx:RA ⟨w,m⟩ G (lk st.objs) x vx)
  (hh:Dd C t p x st.objs=some (c,z,os)) (hc:c):z=.dead∧Stores P base pass F0 a st.tmps (Instr.storeAt t v vx) w os:=by
 cases p with
 | ref i f =>
  simp only [Dd] at hh
  split at hh
  ·next ag cells hi =>
   split at hh
   ·next ht =>
    split at hh
    ·next hs =>
     simp only [aZ,aJ] at hh
     obtain ⟨rfl,rfl,rfl⟩:=hh
     exact ⟨rfl,store_box T h ht hi hp hx hc hs⟩
    ·cases hh
   ·next ht =>
    split at hh
    ·next hs =>
     simp only [aZ,aJ] at hh
     obtain ⟨rfl,rfl,rfl⟩:=hh
     have hb:=store_box (P:=P) T h ht hi hp hx (by rw [hc.2];exact hc.1) (by rw [hc.2];omega)
     rw [hc.2] at hb
     exact ⟨rfl,hb⟩
    ·cases hh
   ·cases hh
  ·cases hh
 | rref i n e f =>
  simp only [Dd] at hh
  split at hh
  ·next s0 els0 k0 c1 y o1 _ hpur =>
   split at hh
   ·next s els k hi =>
    have main:c1→n=els.length→e<els.length→k≤e→∃ (m1:Nat→Nat) (b cap:Nat) (cs:Array Value) (ty:TypeId),SRg base pass F0 m1 G ⟨st.tmps,o1⟩ a w∧R ⟨w,m1⟩ y vx∧v=.pointer (some ⟨b,e*s+f,none⟩)∧G.γ i=some b ∧
      G.hd i=.slice (some ⟨b,0,none⟩) els.length cap∧els.length≤cap∧cap≤maxLen∧w.heap[b]?=some (.cells cs ty (0,0))∧cs.size=cap*s∧RE ⟨w,m1⟩ s els (cs.toList.take (els.length*s))∧m1 b=k*s∧k≤els.length:=by
     intro hc1 hn he hk
     obtain ⟨m1,k1,k2,k3,k4⟩:=R8 h hpur hc1 hx
     have hp':=RA.mono k2 k3 hp
     simp only [RA,hi] at hp'
     obtain ⟨b,g1,g2⟩:=hp'.2.2 hn
     have hok:=k1.objs i _ hi
     simp only [Hd] at hok
     rcases hok with ⟨_,_,rfl,_⟩|⟨b',cap,cs,ty,h1,h2,h3,h4,h5,h6,h7,h8,h9⟩
     ·simp at he
     ·rw [g1] at h1
      injection h1 with h1
      subst h1
      exact ⟨m1,b,cap,cs,ty,k1,k4,g2,g1,h2,h3,h4,h5,h6,h7,h8,h9⟩
    have fin:∀ (m1:Nat→Nat) (b cap:Nat) (cs:Array Value) (ty:TypeId),SRg base pass F0 m1 G ⟨st.tmps,o1⟩ a w→G.γ i=some b→G.hd i=.slice (some ⟨b,0,none⟩) els.length cap→els.length≤cap→cap≤maxLen →
      w.heap[b]?=some (.cells cs ty (0,0))→cs.size=cap*s→RE ⟨w,m1⟩ s els (cs.toList.take (els.length*s))→m1 b=k*s→k≤els.length→e<els.length→k≤e →
      ∀ (d:D) (vd:Value) (new:Array Value),R ⟨w,m1⟩ d vd→vd.cells.size=s→(∀ u∈vd.cells.toList,u.oneCell'=true) →
       new.toList=cs.toList.take (e*s)++vd.cells.toList++cs.toList.drop ((e+1)*s) →
       SRg base pass F0 m1 G ⟨st.tmps,upd o1 i (.row s (els.set e d) k)⟩ a (w.setRow b new):=by
     intro m1 b cap cs ty k1 h1 h2 h3 h4 h5 h6 h7 h8 h9 he hk d vd new hd hds hd1 hnew
     have hes:(e+1)*s≤els.length*s:=Nat.mul_le_mul_right _ (by omega)
     have hcs:els.length*s≤cs.size:=by rw [h6];exact Nat.mul_le_mul_right _ h3
     have hes1:(e+1)*s=e*s+s:=by rw [Nat.add_mul,Nat.one_mul]
     have hsz:new.size=cs.size:=by
      rw [←Array.length_toList,hnew]
      simp [hds]
      omega
     have hks:k*s≤e*s:=Nat.mul_le_mul_right _ hk
     refine (k1.write (o':=.row s (els.set e d) k) (cs:=new) hi rfl h1 h5 (fun off ho=>?_) (by simp [Obj.isBox]) (fun s' els' k' he'=>?_) (fun hF hg=>?_)).2.2
     ·rw [h8] at ho
      have:off<e*s:=by omega
      rw [←Array.getElem?_toList,hnew,List.append_assoc,List.getElem?_append_left (by simp;omega),List.getElem?_take,if_pos this]
      simp
     ·simp only [Obj.row.injEq] at he'
      obtain ⟨rfl,rfl,rfl⟩:=he'
      exact ⟨els,k,rfl,by simp⟩
     ·simp only [Hd]
      refine .inr ⟨b,cap,new,ty,h1,by simpa using h2,by simpa using h3,h4,setRow_heap w b cs new ty (0,0) h5,by rw [hsz,h6],?_,h8,by simpa using h9⟩
      have g:=RE.set (RE.mono hF h7) he (hd.mono hF) hds hd1
      have e1:(cs.toList.take (els.length*s)).take (e*s)=cs.toList.take (e*s):=by rw [List.take_take];congr 1;omega
      have e2:new.toList.take ((els.set e d).length*s)=(cs.toList.take (els.length*s)).take (e*s)++vd.cells.toList++(cs.toList.take (els.length*s)).drop ((e+1)*s):=by
       rw [e1,hnew,List.length_set]
       have hl1:(cs.toList.take (e*s)++vd.cells.toList).length=(e+1)*s:=by simp [hds];omega
       rw [List.take_append,List.take_of_length_le (by omega),hl1,List.drop_take]
      rw [e2]
      exact g
    split at hh
    ·next ht =>
     split at hh
     ·next hs =>
      simp only [aZ,aJ] at hh
      obtain ⟨rfl,rfl,rfl⟩:=hh
      obtain ⟨hc1,hn,he,hk,hfit⟩:=hc
      obtain ⟨rfl,rfl⟩:=hs
      obtain ⟨m1,b,cap,cs,ty,k1,k4,rfl,h1,h2,h3,h4,h5,h6,h7,h8,h9⟩:=main hc1 hn he hk
      obtain ⟨f1,f2⟩:=R.cellsD k4 hfit
      have hes:(e+1)*C.size t≤els.length*C.size t:=Nat.mul_le_mul_right _ (by omega)
      have hcs:els.length*C.size t≤cs.size:=by rw [h6];exact Nat.mul_le_mul_right _ h3
      have hes1:(e+1)*C.size t=e*C.size t+C.size t:=by rw [Nat.add_mul,Nat.one_mul]
      have hrun:=Ew (w:=w) (off:=e*C.size t+0) T ht h5 f1 (by omega) f2
      refine ⟨rfl,_,m1,G,hrun,fin m1 b cap cs ty k1 h1 h2 h3 h4 h5 h6 h7 h8 h9 he hk y vx _ k4 f1 f2 ?_⟩
      simp [f1,hes1]
     ·cases hh
    ·next ht =>
     split at hh
     ·next hs =>
      simp only [aZ,aJ] at hh
      obtain ⟨rfl,rfl,rfl⟩:=hh
      obtain ⟨hc1,hn,he,hk,hfit,hst⟩:=hc
      obtain ⟨m1,b,cap,cs,ty,k1,k4,rfl,h1,h2,h3,h4,h5,h6,h7,h8,h9⟩:=main hc1 hn he hk
      obtain ⟨f1,f2⟩:=R.cellsD k4 hfit
      have hes:(e+1)*s≤els.length*s:=Nat.mul_le_mul_right _ (by omega)
      have hcs:els.length*s≤cs.size:=by rw [h6];exact Nat.mul_le_mul_right _ h3
      have hes1:(e+1)*s=e*s+s:=by rw [Nat.add_mul,Nat.one_mul]
      have hrun:=Ew (w:=w) (off:=e*s+f) T ht h5 (by rw [f1,hst]) (by omega) f2
      have hl1:vx.cells.toList.length=1:=by simpa using f1
      obtain ⟨u,hu⟩:∃ u,vx.cells.toList=[u]:=by
       match vx.cells.toList,hl1 with
       | [u],_=>exact ⟨u,rfl⟩
      have hu1:u.oneCell'=true:=f2 u (by rw [hu];simp)
      have hru:R ⟨w,m1⟩ (y.cell 0) u:=R.cell k4 (by rw [hu];rfl)
      obtain ⟨vv,r1,r2,r3,r4⟩:=h7.at (aK he)
      have hel:el els e=els[e]:=by unfold el;rw [aY,aK he];rfl
      obtain ⟨v',w1,w2,w3⟩:=R.setCell (f:=f) r1 r3 (by omega) hru hu1
      rw [←hel] at w1
      refine ⟨rfl,_,m1,G,hrun,fin m1 b cap cs ty k1 h1 h2 h3 h4 h5 h6 h7 h8 h9 he hk _ v' _ w1 ?_ w3 ?_⟩
      ·rw [←Array.length_toList,w2]
       simpa using r2
      ·rw [w2,←r4,hu]
       simp only [f1]
       have a1:((cs.toList.take (els.length*s)).drop (e*s)).take s=(cs.toList.drop (e*s)).take s:=by
        rw [List.drop_take,List.take_take]
        congr 1
        omega
       rw [a1]
       have hl2:((cs.toList.drop (e*s)).take s).length=s:=by simp;omega
       rw [←set_splice _ f u (by omega)]
       have a2:cs.toList.take (e*s+f)=cs.toList.take (e*s)++((cs.toList.drop (e*s)).take s).take f:=by
        rw [List.take_add,List.take_take]
        congr 2
        omega
       have a3:cs.toList.drop (e*s+f+1)=((cs.toList.drop (e*s)).take s).drop (f+1)++cs.toList.drop ((e+1)*s):=by
        have e1:cs.toList.drop (e*s+f+1)=(cs.toList.drop (e*s)).drop (f+1):=by rw [List.drop_drop];congr 1
        have e2:cs.toList.drop ((e+1)*s)=(cs.toList.drop (e*s)).drop s:=by rw [List.drop_drop,hes1]
        rw [e1,e2]
        conv=>lhs;rw [←List.take_append_drop s (cs.toList.drop (e*s))]
        rw [List.drop_append,hl2,show f+1-s=0 by omega,List.drop_zero]
       rw [a2,a3]
       simp [List.append_assoc]
     ·cases hh
    ·cases hh
   ·cases hh
  ·cases hh
 | _=>simp [Dd] at hh
theorem upd_upd:∀ (l:Gb) (i:Nat) (o o':Obj),upd (upd l i o) i o'=upd l i o'
 | [],i,o,o'=>by simp [upd]
 | (j,p)::r,i,o,o'=>by
  by_cases h:i=j
  ·subst h
   simp [upd]
  ·simp only [upd,if_neg h,upd_upd r i o o']
theorem SRg.note (h:SRg base pass F0 m G st a w) {K:Nat} {o':Obj} (ho:o'.owns=false) (hb:o'.isBox=false) (hr:∀ s els k,o'≠.row s els k)
  (hok:Db G (lk st.objs) G (lk (upd st.objs K o'))→Hd ⟨w,m⟩ G (lk (upd st.objs K o')) K o'):Db G (lk st.objs) G (lk (upd st.objs K o'))∧SRg base pass F0 m G ⟨st.tmps,upd st.objs K o'⟩ a w:=by
 refine h.obj K o' (Fix.le_refl _) (fun _ _=>⟨rfl,rfl⟩) (fun o _=>⟨fun hx=>?_,fun s els' k' he=>?_⟩) hok (fun _ _ _ _ _ _ _=>⟨rfl,rfl⟩) (fun hx=>?_) (Frame.refl _ _ _) (fun _ _ _=>rfl) h.new
 ·rw [hb] at hx;cases hx
 ·exact absurd he (hr s els' k')
 ·rw [ho] at hx;cases hx
theorem store_any (T:B8 P C.τ) (h:SRg base pass F0 m G st a w) {t i n e f s k:Nat} {els:List D} {v vx:Value} (hi:lk st.objs i=some (.row s els k)) (hp:RA ⟨w,m⟩ G (lk st.objs) (.rref i n e f) v) (hx1:vx.oneCell'=true)
  (hn:n=els.length) (he:e<els.length) (hk:k≤e) (hs:f<s) (ht:C.ag t=some false) (hst:C.size t=1) :
  ∃ (b:Nat) (w':World),(Instr.storeAt t v vx).run P w=.ok () w'∧v=.pointer (some ⟨b,e*s+f,none⟩)∧G.γ i=some b∧w'.cell? ⟨b,e*s+f,none⟩=some vx∧Fix.le ⟨w,m⟩ ⟨w',m⟩ ∧
   Db G (lk st.objs) G (lk (upd st.objs i (.row s (els.set e ((el els e).setCell f .any)) k)))∧SRg base pass F0 m G ⟨st.tmps,upd st.objs i (.row s (els.set e ((el els e).setCell f .any)) k)⟩ a w':=by
 have hp':=hp
 simp only [RA,hi] at hp'
 obtain ⟨b,h1,rfl⟩:=hp'.2.2 hn
 have hok:=h.objs i _ hi
 simp only [Hd] at hok
 rcases hok with ⟨_,_,rfl,_⟩|⟨b',cap,cs,ty,h1',h2,h3,h4,h5,h6,h7,h8,h9⟩
 ·simp at he
 rw [h1] at h1'
 injection h1' with h1'
 subst h1'
 have hcell:=D4 hx1
 have f1:vx.cells.size=1:=by rw [hcell];rfl
 have f2:∀ u∈vx.cells.toList,u.oneCell'=true:=by rw [hcell];simpa using hx1
 have hes:(e+1)*s≤els.length*s:=Nat.mul_le_mul_right _ (by omega)
 have hcs:els.length*s≤cs.size:=by rw [h6];exact Nat.mul_le_mul_right _ h3
 have hes1:(e+1)*s=e*s+s:=by rw [Nat.add_mul,Nat.one_mul]
 have hks:k*s≤e*s:=Nat.mul_le_mul_right _ hk
 have hrun:=Ew (w:=w) (off:=e*s+f) T ht h5 (by rw [f1,hst]) (by rw [f1];omega) f2
 have hru:R ⟨w,m⟩ .any vx:=by simpa only [R] using hx1
 obtain ⟨vv,r1,r2,r3,r4⟩:=h7.at (aK he)
 have hel:el els e=els[e]:=by unfold el;rw [aY,aK he];rfl
 obtain ⟨v',w1,w2,w3⟩:=R.setCell (f:=f) r1 r3 (by omega) hru hx1
 rw [←hel] at w1
 obtain ⟨new,hnew⟩:∃ new:Array Value,new=(cs.toList.take (e*s+f)++vx.cells.toList++cs.toList.drop (e*s+f+1)).toArray:=⟨_,rfl⟩
 have hds:v'.cells.size=s:=by
  rw [←Array.length_toList,w2]
  simpa using r2
 have hnl:new.toList=cs.toList.take (e*s)++v'.cells.toList++cs.toList.drop ((e+1)*s):=by
  rw [hnew,w2,←r4,hcell]
  have a1:((cs.toList.take (els.length*s)).drop (e*s)).take s=(cs.toList.drop (e*s)).take s:=by
   rw [List.drop_take,List.take_take]
   congr 1
   omega
  rw [a1]
  have hl2:((cs.toList.drop (e*s)).take s).length=s:=by simp;omega
  rw [←set_splice _ f vx (by omega)]
  have a2:cs.toList.take (e*s+f)=cs.toList.take (e*s)++((cs.toList.drop (e*s)).take s).take f:=by
   rw [List.take_add,List.take_take]
   congr 2
   omega
  have a3:cs.toList.drop (e*s+f+1)=((cs.toList.drop (e*s)).take s).drop (f+1)++cs.toList.drop ((e+1)*s):=by
   have e1:cs.toList.drop (e*s+f+1)=(cs.toList.drop (e*s)).drop (f+1):=by rw [List.drop_drop];congr 1
   have e2:cs.toList.drop ((e+1)*s)=(cs.toList.drop (e*s)).drop s:=by rw [List.drop_drop,hes1]
   rw [e1,e2]
   conv=>lhs;rw [←List.take_append_drop s (cs.toList.drop (e*s))]
   rw [List.drop_append,hl2,show f+1-s=0 by omega,List.drop_zero]
  rw [a2,a3]
  simp [List.append_assoc]
 have hsz:new.size=cs.size:=by
  rw [←Array.length_toList,hnl]
  simp [hds]
  omega
 have hwr:=h.write (o':=.row s (els.set e ((el els e).setCell f .any)) k) (cs:=new) hi rfl h1 h5 (fun off ho=>?_) (by simp [Obj.isBox]) (fun s' els' k' he'=>?_) (fun hF hg=>?_)
 ·refine ⟨b,w.setRow b new,?_,rfl,h1,?_,hwr.2.1,hwr.1,hwr.2.2⟩
  ·rw [hnew]
   simpa [f1] using hrun
  ·rw [C3 (setRow_heap w b cs new ty (0,0) h5)]
   rw [←Array.getElem?_toList,hnew,hcell]
   simp
   rw [List.getElem?_append_right (by simp;omega)]
   have:e*s+f-(cs.toList.take (e*s+f)).length=0:=by simp;omega
   rw [this]
   rfl
 ·rw [h8] at ho
  have:off<e*s:=by omega
  rw [←Array.getElem?_toList,hnl,List.append_assoc,List.getElem?_append_left (by simp;omega),List.getElem?_take,if_pos this]
  simp
 ·simp only [Obj.row.injEq] at he'
  obtain ⟨rfl,rfl,rfl⟩:=he'
  exact ⟨els,k,rfl,by simp⟩
 ·simp only [Hd]
  refine .inr ⟨b,cap,new,ty,h1,by simpa using h2,by simpa using h3,h4,setRow_heap w b cs new ty (0,0) h5,by rw [hsz,h6],?_,h8,by simpa using h9⟩
  have g:=RE.set (RE.mono hF h7) he (w1.mono hF) hds w3
  have e1:(cs.toList.take (els.length*s)).take (e*s)=cs.toList.take (e*s):=by rw [List.take_take];congr 1;omega
  have e2:new.toList.take ((els.set e ((el els e).setCell f .any)).length*s)=(cs.toList.take (els.length*s)).take (e*s)++v'.cells.toList++(cs.toList.take (els.length*s)).drop ((e+1)*s):=by
   rw [e1,hnl,List.length_set]
   have hl1:(cs.toList.take (e*s)++v'.cells.toList).length=(e+1)*s:=by simp [hds];omega
   rw [List.take_append,List.take_of_length_le (by omega),hl1,List.drop_take]
  rw [e2]
  exact g
theorem store_sound (T:B8 P C.τ) (h:SRg base pass F0 m G st a w) {t:Nat} {p x:AV} {v vx:Value} {c:Prop} {z:AV} {os:Gb} (hp:RA ⟨w,m⟩ G (lk st.objs) p v) (hx:RA ⟨w,m⟩ G (lk st.objs) x vx)
  (hh:hStore C t p x st.objs=some (c,z,os)) (hc:c):z=.dead∧Stores P base pass F0 a st.tmps (Instr.storeAt t v vx) w os:=by
 unfold hStore at hh
 split at hh
 ·next i n e f j jm =>
  split at hh
  ·next e0 f0 hk =>
   split at hh
   ·next hf0 =>
    split at hh
    ·next s els k hi ht =>
     split at hh
     ·next hs =>
      simp only [aZ,aJ] at hh
      obtain ⟨rfl,rfl,rfl⟩:=hh
      obtain ⟨rfl,hke,hn,he,hst⟩:=hc
      subst hf0
      have hx1:vx.oneCell'=true:=by simp only [RA] at hx;exact hx.1
      obtain ⟨b,w',hrun,rfl,hγ,hcell,hF,hgo,hs1⟩:=store_any (P:=P) T h hi hp hx1 hn he hke hs ht hst
      have hi1:lk (upd st.objs i (.row s (els.set e ((el els e).setCell f0 .any)) k)) i=some (.row s (els.set e ((el els e).setCell f0 .any)) k):=by rw [Bm,if_pos rfl]
      have hob:=hs1.objs i _ hi1
      simp only [Hd] at hob
      rcases hob with ⟨q1,_⟩|⟨b',cap,cs,ty,q1,q2,q3,q4,q5,q6,q7,q8,q9⟩
      ·rw [hγ] at q1;cases q1
      rw [hγ] at q1
      injection q1 with q1
      subst q1
      have hkm:m b≤(e+1)*s:=by rw [q8];exact Nat.mul_le_mul_right _ (by omega)
      obtain ⟨hg2,hs2⟩:=hs1.bump (o':=.row s (els.set e ((el els e).setCell f0 .any)) (e+1)) (n:=(e+1)*s) hi1 rfl hγ hkm (by simp [Obj.isBox]) (by
       intro s' els' k' he'
       simp only [Obj.row.injEq] at he'
       obtain ⟨rfl,rfl,_⟩:=he'
       exact ⟨k,rfl⟩) (by
       intro hF' _
       simp only [Hd]
       exact .inr ⟨b,cap,cs,ty,hγ,q2,q3,q4,q5,q6,RE.mono hF' q7,by simp,by simp;omega⟩)
      have hF2:=Fix.le_bump (w:=w') hkm
      have hp2:=RA.mono hF2 hg2 (RA.mono hF hgo hp)
      have hx2:=RA.mono hF2 hg2 (RA.mono hF hgo hx)
      obtain ⟨hg3,hs3⟩:=hs2.note (K:=50000+i) (o':=.hole i n e f0 (.sl j jm)) rfl rfl (by intro _ _ _ h;cases h) (fun hg=>by
       simp only [Hd]
       refine ⟨b,e*s+f0,vx,RA.mono (Fix.le_refl _) hg hp2,?_,hcell,RA.mono (Fix.le_refl _) hg hx2⟩
       simp only [if_true]
       rw [Nat.add_mul,Nat.one_mul]
       omega)
      have hu:upd (upd st.objs i (.row s (els.set e ((el els e).setCell f0 .any)) k)) i (.row s (els.set e ((el els e).setCell f0 .any)) (e+1))=upd st.objs i (.row s (els.set e ((el els e).setCell f0 .any)) (e+1)):=upd_upd _ _ _ _
      rw [hu] at hs3
      exact ⟨rfl,_,_,G,hrun,hs3⟩
     ·cases hh
    ·cases hh
   ·exact store_sound0 T h hp hx hh hc
  ·exact store_sound0 T h hp hx hh hc
 ·exact store_sound0 T h hp hx hh hc
theorem SRg.fill (h:SRg base pass F0 m G st a w) {K i n e f s k:Nat} {x:AV} {c:Prop} {d:D} {os:Gb} {els:List D} (hk:lk st.objs K=some (.hole i n e f x)) (hp:pur 60 x st.objs=some (c,d,os)) (hc:c)
  (hi:lk os i=some (.row s els k)) (hn:n=els.length) (he:e<els.length) (hf:f<s) :
  ∃ m',SRg base pass F0 m' G ⟨st.tmps,upd os i (.row s (els.set e ((el els e).setCell f d)) k)⟩ a w:=by
 have hob:=h.objs K _ hk
 simp only [Hd] at hob
 obtain ⟨b,off,v,g1,g2,g3,g4⟩:=hob
 have hv1:v.oneCell'=true∨True:=.inr trivial
 obtain ⟨m',h1,hF,hg,hr⟩:=R8 h hp hc g4
 have g1':=RA.mono hF hg g1
 simp only [RA,hi] at g1'
 obtain ⟨b2,e1,e2⟩:=g1'.2.2 hn
 simp only [Value.pointer.injEq,aZ,Addr.mk.injEq,and_true] at e2
 obtain ⟨rfl,rfl⟩:=e2
 have hrow:=h1.objs i _ hi
 simp only [Hd] at hrow
 rcases hrow with ⟨q1,_⟩|⟨b',cap,cs,ty,q1,q2,q3,q4,q5,q6,q7,q8,q9⟩
 ·rw [e1] at q1;cases q1
 rw [e1] at q1
 injection q1 with q1
 subst q1
 obtain ⟨vv,r1,r2,r3,r4⟩:=q7.at (aK he)
 have hel:el els e=els[e]:=by unfold el;rw [aY,aK he];rfl
 have hes:(e+1)*s≤els.length*s:=Nat.mul_le_mul_right _ (by omega)
 have hes1:(e+1)*s=e*s+s:=by rw [Nat.add_mul,Nat.one_mul]
 rw [C3 q5] at g3
 have hvv:vv.cells.toList[f]?=some v:=by
  rw [←r4,List.getElem?_take,if_pos hf,List.getElem?_drop,List.getElem?_take,if_pos (by omega)]
  simpa using g3
 have hvone:v.oneCell'=true:=r3 v (List.mem_of_getElem? hvv)
 obtain ⟨v',w1,w2,w3⟩:=R.setCell (f:=f) r1 r3 (by omega) hr hvone
 have hsame:v'.cells.toList=vv.cells.toList:=by
  rw [w2]
  refine List.ext_getElem? fun j=>?_
  rw [List.getElem?_set]
  split
  ·next hj =>
   subst hj
   rw [hvv]
   have:f<vv.cells.toList.length:=(List.getElem?_eq_some_iff.1 hvv).1
   rw [if_pos this]
  ·rfl
 rw [←hel] at w1
 refine ⟨m',(h1.obj i (.row s (els.set e ((el els e).setCell f d)) k) (G':=G) (Fix.le_refl _) (fun _ _=>⟨rfl,rfl⟩) (fun o ho=>?_) (fun hgo=>?_) (fun _ _ _ _ _ _ _=>⟨rfl,rfl⟩) (fun _ b' hb'=>?_) (Frame.refl _ _ _) (fun _ _ _=>rfl) h1.new).2⟩
 ·simp only at ho
  rw [hi] at ho
  injection ho with ho
  subst ho
  refine ⟨fun hx=>by simp [Obj.isBox] at hx,fun s' els' k' he'=>?_⟩
  simp only [Obj.row.injEq] at he'
  obtain ⟨rfl,rfl,rfl⟩:=he'
  exact ⟨els,k,rfl,by simp,fun _=>⟨rfl,rfl⟩⟩
 ·simp only [Hd]
  refine .inr ⟨b,cap,cs,ty,e1,by simpa using q2,by simpa using q3,q4,q5,q6,?_,q8,by simpa using q9⟩
  have g:=RE.set q7 he w1 (by rw [←Array.length_toList,hsame];simpa using r2) w3
  rw [List.length_set]
  rw [hsame,←r4] at g
  have hl:e*s+s≤(cs.toList.take (els.length*s)).length:=by
   rw [RE.length q7]
   omega
  rw [hes1] at g
  rw [List.append_assoc] at g
  have e3:(List.drop (e*s) (cs.toList.take (els.length*s))).take s++List.drop (e*s+s) (cs.toList.take (els.length*s))=List.drop (e*s) (cs.toList.take (els.length*s)):=by
   rw [←List.drop_drop]
   exact List.take_append_drop _ _
  rw [e3,List.take_append_drop] at g
  exact g
 ·have:=h1.mine i _ b' hi rfl hb'
  exact ⟨this.1,this.2,fun j oj hji hj hoj e=>hji (h1.apart j i oj _ b' hj hi hoj rfl e hb')⟩
theorem SRg.back (h:SRg base pass F0 m G st a w) {st':AS} (hw:WkB st st'):∃ m' G',SRg base pass F0 m' G' st' a w:=by
 rcases hw with hw|⟨k,i,j,hw⟩|⟨i,hw⟩
 ·exact ⟨_,_,h.weak hw⟩
 ·unfold WkR at hw
  split at hw
  ·next i' n hk =>
   obtain ⟨rfl,h1,h2,h3,h4,h5,h6,h7⟩:=hw
   exact ⟨_,_,(h.weak h1).ren hk h2 h3 h4 h5 h6 h7⟩
  ·exact hw.elim
 ·unfold WkH at hw
  split at hw
  ·next i' n e f x hk =>
   split at hw
   ·next c d os hp =>
    split at hw
    ·next s els k hi =>
     obtain ⟨hc,rfl,hn,he,hf,h1⟩:=hw
     obtain ⟨m',hs⟩:=h.fill hk hp hc hi hn he hf
     exact ⟨_,_,hs.weak h1⟩
    ·exact hw.elim
   ·exact hw.elim
  ·exact hw.elim
end
section
variable {P:Program} {C:Ctx} {G:Gh}
variable {base:Nat} {pass:Nat→Prop} {F0:Anc} {m:Nat→Nat} {st:AS} {a:Act} {w:World}
theorem It (b off n:Nat):(⟨b,off,none⟩:Addr).add n=⟨b,off+n,none⟩:=by unfold Addr.add;split<;>simp_all
theorem Mem.part {F:Fix} {b off k n:Nat} {vs us:List Value} (h:Mem F b off vs) (hu:∀ j u,us[j]?=some u→vs[k+j]?=some u) (hl:us.length=n) (hk:k+n≤vs.length):Mem F b (off+k) us:=by
 obtain ⟨h1,h2⟩:=h
 refine ⟨by omega,fun j u hj=>?_⟩
 rw [Nat.add_assoc]
 exact h2 _ _ (hu j u hj)
theorem ptr_cell {F:Fix} {b off s k:Nat} {x:D} {u:Value} (h2:R F x u) (h3:u.cells.size=s) (h1:∀ y∈u.cells.toList,y.oneCell'=true) (hm:Mem F b off u.cells.toList) (hk:k<s) :
  R F (.ptr 1 (x.cell k)) (.pointer (some ⟨b,off+k,none⟩)):=by
 have hlt:k<u.cells.toList.length:=by simp;omega
 have hg:=aK hlt
 have h1':=h1 _ (List.getElem_mem hlt)
 simp only [R]
 refine ⟨b,off+k,u.cells.toList[k],rfl,R.cell h2 hg,by rw [D4 h1'];rfl,fun y hy=>?_,?_⟩
 ·rw [D4 h1'] at hy
  simp only [bW] at hy
  rw [hy]
  exact h1'
 rw [D4 h1']
 exact hm.part (n:=1) (fun j y hj=>by
  cases j with
  | zero=>simp only [List.getElem?_cons_zero,aZ] at hj;subst hj;exact hg
  | succ j=>simp at hj) rfl (by omega)
theorem fieldAddr_sound (T:B8 P C.τ) (h:SRg base pass F0 m G st a w) {t f:Nat} {p:AV} {v:Value} {c:Prop} {z:AV} {os:Gb} (hp:RA ⟨w,m⟩ G (lk st.objs) p v)
  (hh:Dp C t p f st.objs=some (c,z,os)) (hc:c):Rv P base pass F0 a st.tmps (Instr.fieldAt t v f) w z os:=by
 unfold Dp at hh
 split at hh
 ·next off sz hf =>
  unfold Ctx.fieldAt at hf
  split at hf
  ·next fs hk =>
   obtain ⟨d,hd,hkd⟩:=T.kind hk rfl
   simp only [TK.is] at hkd
   obtain ⟨fields,rfl,hl,hfs⟩:=hkd
   have hlt:f<fields.size:=by
    have:=(List.getElem?_eq_some_iff.1 hf).1
    omega
   obtain ⟨g1,g2,g3,g4⟩:=hfs f fields[f] (off,sz) (Array.getElem?_eq_getElem hlt) hf
   simp only at g1 g2 g3
   have run:∀ b o,(Instr.fieldAt t (.pointer (some ⟨b,o,none⟩)) f).run P w=.ok (.pointer (some ⟨b,o+off,none⟩)) w:=by
    intro b o
    cases hi:P.info? fields[f].type with
    | none=>simp [hi] at g2
    | some i =>
     have hsz:i.size=sz:=by simpa [hi] using g2
     have hn:i.size≠0:=by omega
     simp [Instr.fieldAt,run_underlying hd,Array.getElem?_eq_getElem hlt,Instr.sureAddr,fieldPlace,sizeOf,typeInfo,hi,hn,g1,It]
   split at hh
   ·next i f0 =>
    split at hh
    ·next ob hi =>
     split at hh
     ·next hb =>
      simp only [aZ,aJ] at hh
      obtain ⟨rfl,rfl,rfl⟩:=hh
      simp only [RA,hi] at hp
      obtain ⟨b,q1,rfl⟩:=hp.2 hb
      refine Gv h (run b f0) ?_
      simp only [RA,hi]
      exact ⟨rfl,fun _=>⟨b,q1,rfl⟩⟩
     ·cases hh
    ·cases hh
   ·next i n e f0 =>
    split at hh
    ·next s els k hi =>
     simp only [aZ,aJ] at hh
     obtain ⟨rfl,rfl,rfl⟩:=hh
     simp only [RA,hi] at hp
     obtain ⟨b,q1,rfl⟩:=hp.2.2 hc
     refine Gv h (run b _) ?_
     simp only [RA,hi]
     exact ⟨rfl,hp.2.1,fun _=>⟨b,q1,by rw [Nat.add_assoc]⟩⟩
    ·cases hh
   ·next s x =>
    split at hh
    ·next hs =>
     simp only [aZ,aJ] at hh
     obtain ⟨rfl,rfl,rfl⟩:=hh
     simp only [RA,R] at hp
     obtain ⟨b,o,u,rfl,h2,h3,h1,h4⟩:=hp
     refine Gv h (run b o) ?_
     simp only [RA]
     exact ptr_cell h2 h3 h1 h4 hs.2.2
    ·cases hh
   ·cases hh
  ·cases hf
 ·cases hh
theorem D.isAgg_R {F:Fix} {x:D} {v:Value} {s:Nat} (h:R F x v) (hx:x.isAgg s):∃ cs:Array Value,v=.agg cs∧cs.size=s∧∀ k,k<s→∃ u,cs[k]?=some u∧R F (x.cell k) u:=by
 cases x with
 | agg l =>
  have h0:=h
  simp only [R] at h
  obtain ⟨cs,rfl,h2,_⟩:=h
  simp only [D.isAgg] at hx
  refine ⟨_,rfl,by simp [Rs.length h2,hx],fun k hk=>?_⟩
  have hlt:k<cs.length:=by rw [Rs.length h2];omega
  refine ⟨cs[k],by simp [hlt],R.cell h0 (by simp [Value.cells,hlt])⟩
 | _=>simp [D.isAgg] at hx
theorem field_sound (T:B8 P C.τ) (h:SRg base pass F0 m G st a w) {t f:Nat} {x:AV} {v:Value} {c:Prop} {z:AV} {os:Gb} (hx:RA ⟨w,m⟩ G (lk st.objs) x v)
  (hh:hField C t x f st.objs=some (c,z,os)) (hc:c):Rv P base pass F0 a st.tmps (Instr.field t v f) w z os:=by
 unfold hField at hh
 split at hh
 ·next off sz hf =>
  unfold Ctx.fieldAt at hf
  split at hf
  ·next fs hk =>
   obtain ⟨d,hd,hkd⟩:=T.kind hk rfl
   simp only [TK.is] at hkd
   obtain ⟨fields,rfl,hl,hfs⟩:=hkd
   have hlt:f<fields.size:=by
    have:=(List.getElem?_eq_some_iff.1 hf).1
    omega
   obtain ⟨g1,g2,g3,g4⟩:=hfs f fields[f] (off,sz) (Array.getElem?_eq_getElem hlt) hf
   simp only at g1 g2 g3 g4
   split at hh
   ·next hs =>
    obtain ⟨d',hu,hpl⟩:=g4 hs.1
    have ha:(isAgg fields[f].type).run P w=.ok false w:=by
     cases d'<;>first|(simp [plainDesc] at hpl;done)|simp [isAgg,run_underlying hu]
    have run:∀ (cs:Array Value) (u:Value),cs[off]?=some u→(Instr.field t (.agg cs) f).run P w=.ok u w:=by
     intro cs u hcs
     simp [Instr.field,run_underlying hd,Array.getElem?_eq_getElem hlt,asAgg,part,ha,g1,hcs]
    split at hh
    ·next y =>
     simp only [aZ,aJ] at hh
     obtain ⟨rfl,rfl,rfl⟩:=hh
     simp only [RA] at hx
     obtain ⟨cs,rfl,_,hcell⟩:=D.isAgg_R hx hc
     obtain ⟨u,hu,hr⟩:=hcell off hs.2
     exact Gv h (run cs u hu) (by simp only [RA];exact hr)
    ·next l =>
     split at hh
     ·next hls =>
      simp only [aZ,aJ] at hh
      obtain ⟨rfl,rfl,rfl⟩:=hh
      simp only [RA] at hx
      obtain ⟨cs,rfl,h2,_⟩:=hx
      have hol:off<l.length:=by omega
      obtain ⟨u,hu,hr⟩:=h2.at (aK hol)
      refine Gv h (run cs.toArray u (by simpa using hu)) ?_
      rw [aY,aK hol]
      exact hr
     ·cases hh
    ·cases hh
   ·cases hh
  ·cases hf
 ·cases hh
theorem list_el {F:Fix} {s:Nat} {l:List D} {v:Value} (h:R F (.list s l) v):∃ A c,v=.slice A l.length c∧l.length≤c∧c≤maxLen ∧
  ∀ k,k<l.length→∃ b off u,A=some ⟨b,off,none⟩∧R F (el l k) u∧u.cells.size=s∧(∀ y∈u.cells.toList,y.oneCell'=true)∧Mem F b (off+k*s) u.cells.toList:=by
 simp only [R] at h
 obtain ⟨A,c,rfl,h2,h3,h4⟩:=h
 refine ⟨A,c,rfl,h2,h3,fun k hk=>?_⟩
 obtain ⟨b,off,vs,rfl,g1,g2⟩:=h4 (by intro e;subst e;simp at hk)
 obtain ⟨u,q1,q2,q3,q4⟩:=g1.at (aK hk)
 have hel:el l k=l[k]:=by unfold el;rw [aY,aK hk];rfl
 have hlen:=g1.length
 have hks:(k+1)*s≤l.length*s:=Nat.mul_le_mul_right _ (by omega)
 have hks1:(k+1)*s=k*s+s:=by rw [Nat.add_mul,Nat.one_mul]
 refine ⟨b,off,u,rfl,by rw [hel];exact q1,q2,q3,g2.part (n:=s) (fun j y hj=>?_) (by simp [q2]) (by omega)⟩
 rw [←q4] at hj
 exact drop_take_at hj
theorem run_index {t e sz:Nat} (hd:P.underlying t=some (.slice e)) (hsz:∀ w,(sizeOf e).run P w=.ok sz w) {k:IntKind} {i:Int} {b off n c:Nat} (h0:0≤i) (h1:i<n) :
  (Instr.indexAt t (.slice (some ⟨b,off,none⟩) n c) (.int k i)).run P w=.ok (.pointer (some ⟨b,off+i.toNat*sz,none⟩)) w:=by
 simp [Instr.indexAt,asIntOf,run_underlying hd,h0,h1,hsz,It]
theorem indexAddr_sound (T:B8 P C.τ) (h:SRg base pass F0 m G st a w) {t:Nat} {x ix:AV} {v vi:Value} {c:Prop} {z:AV} {os:Gb} (hx:RA ⟨w,m⟩ G (lk st.objs) x v) (hix:RA ⟨w,m⟩ G (lk st.objs) ix vi)
  (hh:Dn C t x ix st.objs=some (c,z,os)) (hc:c):Rv P base pass F0 a st.tmps (Instr.indexAt t v vi) w z os:=by
 unfold Dn at hh
 split at hh
 ·next e i hk =>
  obtain ⟨d,hd,hkd⟩:=T.kind hk rfl
  simp only [TK.is] at hkd
  obtain ⟨rfl,he⟩:=hkd
  have hsz:=Ft (T e he)
  simp only [RA] at hix
  split at hh
  ·next y =>
   simp only [aZ,aJ] at hh
   obtain ⟨rfl,rfl,rfl⟩:=hh
   obtain ⟨c1,c2,c3,c4⟩:=hc
   obtain ⟨ik,rfl⟩:=hix.of_anyInt c2
   simp only [RA] at hx
   obtain ⟨A,cap,rfl,_,_,hel⟩:=list_el (hx.of_list c1)
   obtain ⟨b,off,u,rfl,q1,q2,q3,q4⟩:=hel i.i.toNat (by omega)
   refine Gv h (run_index hd hsz c3 c4) ?_
   simp only [RA,R]
   exact ⟨b,_,u,rfl,q1,q2,q3,q4⟩
  ·next k n =>
   split at hh
   ·next s els kk hi =>
    split at hh
    ·next hs =>
     simp only [aZ,aJ] at hh
     obtain ⟨rfl,rfl,rfl⟩:=hh
     obtain ⟨c1,c2,c3,c4⟩:=hc
     obtain ⟨ik,rfl⟩:=hix.of_anyInt c2
     simp only [RA,hi] at hx
     have hv:=hx.2.2 c1
     have hok:=h.objs k _ hi
     simp only [Hd] at hok
     rcases hok with ⟨_,_,rfl,_⟩|⟨b,cap,cs,ty,h1,h2,_⟩
     ·simp at c4;omega
     ·rw [h2] at hv
      subst hv
      refine Gv h (run_index hd hsz c3 c4) ?_
      simp only [RA,hi]
      exact ⟨rfl,hx.2.1,fun _=>⟨b,h1,by rw [hs];simp⟩⟩
    ·cases hh
   ·cases hh
  ·next k n f =>
   split at hh
   ·next s els kk hi =>
    split at hh
    ·next hs =>
     simp only [aZ,aJ] at hh
     obtain ⟨rfl,rfl,rfl⟩:=hh
     obtain ⟨c1,c2,c3,c4⟩:=hc
     obtain ⟨ik,rfl⟩:=hix.of_anyInt c2
     simp only [RA,hi] at hx
     obtain ⟨b,cc,g1,g2,g3,rfl⟩:=hx.2.2 c1
     refine Gv h (run_index hd hsz c3 (by omega)) ?_
     simp only [RA,hi]
     refine ⟨rfl,hx.2.1,fun _=>⟨b,g1,?_⟩⟩
     rw [hs,Nat.add_mul]
     simp
    ·cases hh
   ·cases hh
  ·cases hh
 ·next n e ik j hk =>
  obtain ⟨d,hd,hkd⟩:=T.kind hk rfl
  simp only [TK.is] at hkd
  obtain ⟨rfl,he⟩:=hkd
  have hsz:=Ft (T e (by rw [he];rfl)) w
  simp only [RA,R] at hix
  subst hix
  split at hh
  ·next hj =>
   obtain ⟨j0,j1,j2⟩:=hj
   have run:∀ b o,(Instr.indexAt t (.pointer (some ⟨b,o,none⟩)) (.int ik j)).run P w=.ok (.pointer (some ⟨b,o+j.toNat,none⟩)) w:=by
    intro b o
    simp [Instr.indexAt,asIntOf,run_underlying hd,Instr.sureAddr,j0,j1,hsz,j2,It]
   split at hh
   ·next i f0 =>
    split at hh
    ·next ob hi =>
     split at hh
     ·next hb =>
      simp only [aZ,aJ] at hh
      obtain ⟨rfl,rfl,rfl⟩:=hh
      simp only [RA,hi] at hx
      obtain ⟨b,q1,rfl⟩:=hx.2 hb
      refine Gv h (run b f0) ?_
      simp only [RA,hi]
      exact ⟨rfl,fun _=>⟨b,q1,rfl⟩⟩
     ·cases hh
    ·cases hh
   ·next s y =>
    split at hh
    ·next hs =>
     simp only [aZ,aJ] at hh
     obtain ⟨rfl,rfl,rfl⟩:=hh
     simp only [RA,R] at hx
     obtain ⟨b,o,u,rfl,h2,h3,h1,h4⟩:=hx
     refine Gv h (run b o) ?_
     simp only [RA]
     exact ptr_cell h2 h3 h1 h4 (by omega)
    ·cases hh
   ·cases hh
  ·cases hh
 ·cases hh
theorem index_sound (T:B8 P C.τ) (h:SRg base pass F0 m G st a w) {t:Nat} {x ix:AV} {v vi:Value} {c:Prop} {z:AV} {os:Gb} (hx:RA ⟨w,m⟩ G (lk st.objs) x v) (hix:RA ⟨w,m⟩ G (lk st.objs) ix vi)
  (hh:hIndex C t x ix st.objs=some (c,z,os)) (hc:c):Rv P base pass F0 a st.tmps (Instr.index t v vi) w z os:=by
 unfold hIndex at hh
 split at hh
 ·next y i hk =>
  obtain ⟨d,hd,hkd⟩:=T.kind hk rfl
  simp only [TK.is] at hkd
  subst hkd
  simp only [aZ,aJ] at hh
  obtain ⟨rfl,rfl,rfl⟩:=hh
  obtain ⟨c1,c2,c3,c4⟩:=hc
  simp only [RA] at hx hix
  obtain ⟨ik,rfl⟩:=hix.of_anyInt c2
  have e:=hx.of_str c1
  subst e
  have hlt:i.i.toNat<(⟨y.s.toArray⟩:ByteArray).size:=by simp [ByteArray.size];omega
  refine Gv h (v:=.int .u8 ((y.s.getD i.i.toNat 0).toNat:Int)) ?_ (by simp only [RA];exact R.int)
  have hb:=ByteArray.getElem?_lt' (⟨y.s.toArray⟩:ByteArray) i.i.toNat hlt
  simp only [Instr.index,asIntOf,Sem.run_bind,Sem.run_pure,Result.andThen_ok,run_underlying hd,if_pos c3,hb]
  have hlt':i.i.toNat<y.s.length:=by omega
  simp [aY,aK hlt']
  rfl
 ·cases hh
theorem run_lenS {t e ty:Nat} (hd:P.underlying t=some (.slice e)) (A:Option Addr) (n c:Nat):(Builtin.len_ #[t] ty #[.slice A n c]).run P w=.ok (.int .i64 n) w:=by
 simp [Builtin.len_,run_underlying hd,goInt]
theorem len_sound (T:B8 P C.τ) (h:SRg base pass F0 m G st a w) {t:Nat} {x:AV} {v:Value} {c:Prop} {z:AV} {os:Gb} (hx:RA ⟨w,m⟩ G (lk st.objs) x v)
  (hh:hLen C t x st.objs=some (c,z,os)) (hc:c) (ty:TypeId):Rv P base pass F0 a st.tmps (Builtin.len_ #[t] ty #[v]) w z os:=by
 unfold hLen at hh
 split at hh
 ·next y hk =>
  obtain ⟨d,hd,hkd⟩:=T.kind hk rfl
  simp only [TK.is] at hkd
  subst hkd
  simp only [aZ,aJ] at hh
  obtain ⟨rfl,rfl,rfl⟩:=hh
  simp only [RA] at hx
  have e:=hx.of_str hc
  subst e
  exact Gv h (v:=.int .i64 y.s.length) (by rw [run_len_string w t ty _ hd];simp [ByteArray.size];rfl) (by simp only [RA];exact R.int)
 ·next e y hk =>
  obtain ⟨d,hd,hkd⟩:=T.kind hk rfl
  simp only [TK.is] at hkd
  obtain ⟨rfl,_⟩:=hkd
  simp only [aZ,aJ] at hh
  obtain ⟨rfl,rfl,rfl⟩:=hh
  simp only [RA] at hx
  obtain ⟨A,cap,rfl,_⟩:=list_el (hx.of_list hc)
  exact Gv h (v:=.int .i64 y.l.length) (run_lenS hd _ _ _) (by simp only [RA];exact R.int)
 ·next e s hk =>
  obtain ⟨d,hd,hkd⟩:=T.kind hk rfl
  simp only [TK.is] at hkd
  obtain ⟨rfl,_⟩:=hkd
  simp only [aZ,aJ] at hh
  obtain ⟨rfl,rfl,rfl⟩:=hh
  simp only [RA] at hx
  subst hx
  exact Gv h (v:=.int .i64 0) (run_lenS hd _ _ _) (by simp only [RA];exact R.int)
 ·next e i n hk =>
  obtain ⟨d,hd,hkd⟩:=T.kind hk rfl
  simp only [TK.is] at hkd
  obtain ⟨rfl,_⟩:=hkd
  split at hh
  ·next s els k hi =>
   simp only [aZ,aJ] at hh
   obtain ⟨rfl,rfl,rfl⟩:=hh
   simp only [RA,hi] at hx
   have hv:=hx.2.2 hc
   have hok:=h.objs i _ hi
   simp only [Hd] at hok
   rcases hok with ⟨_,h2,rfl,_⟩|⟨b,cap,cs,ty,h1,h2,_⟩
   ·rw [h2] at hv
    subst hv
    exact Gv h (v:=.int .i64 0) (run_lenS hd _ _ _) (by simp only [RA];exact R.int)
   ·rw [h2] at hv
    subst hv
    exact Gv h (v:=.int .i64 els.length) (run_lenS hd _ _ _) (by simp only [RA];exact R.int)
  ·cases hh
 ·next e i n f hk =>
  obtain ⟨d,hd,hkd⟩:=T.kind hk rfl
  simp only [TK.is] at hkd
  obtain ⟨rfl,_⟩:=hkd
  split at hh
  ·next s els k hi =>
   simp only [aZ,aJ] at hh
   obtain ⟨rfl,rfl,rfl⟩:=hh
   simp only [RA,hi] at hx
   obtain ⟨b,cc,g1,g2,g3,rfl⟩:=hx.2.2 hc
   exact Gv h (v:=.int .i64 (els.length-f:Nat)) (by rw [←hc];exact run_lenS hd _ _ _) (by simp only [RA];exact R.int)
  ·cases hh
 ·cases hh
theorem extract_sound (h:SRg base pass F0 m G st a w) {x:AV} {v:Value} {i:Nat} {c:Prop} {z:AV} {os:Gb} (hx:RA ⟨w,m⟩ G (lk st.objs) x v)
  (hh:Ia x i st.objs=some (c,z,os)):Rv P base pass F0 a st.tmps (Instr.extract v i) w z os:=by
 unfold Ia at hh
 split at hh
 ·next l =>
  split at hh
  ·next hi =>
   simp only [aZ,aJ] at hh
   obtain ⟨rfl,rfl,rfl⟩:=hh
   simp only [RA] at hx
   obtain ⟨cs,rfl,h2⟩:=hx
   obtain ⟨u,hu,hr⟩:=h2.at (aK hi)
   refine Gv h (v:=u) (by simp [Instr.extract,hu]) ?_
   rw [aY,aK hi]
   exact hr
  ·cases hh
 ·next l =>
  split at hh
  ·next hi =>
   simp only [aZ,aJ] at hh
   obtain ⟨rfl,rfl,rfl⟩:=hh
   simp only [RA,R] at hx
   obtain ⟨cs,rfl,h2⟩:=hx
   obtain ⟨u,hu,hr⟩:=h2.at (aK hi)
   refine Gv h (v:=u) (by simp [Instr.extract,hu]) ?_
   simp only [RA]
   rw [aY,aK hi]
   exact hr
  ·cases hh
 ·cases hh
end
section
variable {P:Program} {C:Ctx} {G:Gh}
variable {base:Nat} {pass:Nat→Prop} {F0:Anc} {m:Nat→Nat} {st:AS} {a:Act} {w:World}
theorem list_cut {F:Fix} {s lo hi:Nat} {l:List D} {A:Option Addr} {c:Nat} (h:R F (.list s l) (.slice A l.length c)) (h1:lo≤hi) (h2:hi≤l.length) :
  R F (.list s ((l.take hi).drop lo)) (.slice (if c=lo then A else A.map (·.add (lo*s))) (hi-lo) (c-lo)):=by
 simp only [R] at h ⊢
 obtain ⟨A',c',e,g1,g2,g3⟩:=h
 simp only [Value.slice.injEq] at e
 obtain ⟨rfl,_,rfl⟩:=e
 have hl:((l.take hi).drop lo).length=hi-lo:=by simp;omega
 refine ⟨_,_,by rw [hl],by rw [hl];omega,by omega,fun hne=>?_⟩
 have hlt:lo<hi:=by
  rcases Nat.lt_or_ge lo hi with h3|h3
  ·exact h3
  ·exact absurd (List.eq_nil_of_length_eq_zero (by omega)) hne
 obtain ⟨b,off,vs,rfl,q1,q2⟩:=g3 (by intro e;subst e;simp at h2;omega)
 have hvl:=q1.length
 refine ⟨b,off+lo*s,(vs.take (hi*s)).drop (lo*s),?_,?_,?_⟩
 ·rw [if_neg (by omega)]
  simp [It]
 ·exact (((q1.split hi).1).split lo).2
 ·have e1:hi*s≤l.length*s:=Nat.mul_le_mul_right _ h2
  have e2:lo*s≤hi*s:=Nat.mul_le_mul_right _ h1
  refine q2.part (n:=hi*s-lo*s) (fun j u hj=>?_) (by simp;omega) (by omega)
  rw [List.getElem?_drop,List.getElem?_take] at hj
  split at hj
  ·exact hj
  ·cases hj
theorem list_cut3 {F:Fix} {s lo hi mx:Nat} {l:List D} {A:Option Addr} {c:Nat} (h:R F (.list s l) (.slice A l.length c)) (h1:lo≤hi) (h2:hi≤mx) (h3:mx≤l.length) :
  R F (.list s ((l.take hi).drop lo)) (.slice (if mx=lo then A else A.map (·.add (lo*s))) (hi-lo) (mx-lo)):=by
 have hc:=list_cut h h1 (Nat.le_trans h2 h3)
 simp only [R] at h hc ⊢
 obtain ⟨A',c',e,g1,g2,g3⟩:=h
 simp only [Value.slice.injEq] at e
 obtain ⟨rfl,_,rfl⟩:=e
 obtain ⟨A2,c2,e,f1,f2,f3⟩:=hc
 simp only [Value.slice.injEq] at e
 obtain ⟨rfl,e1,rfl⟩:=e
 refine ⟨_,_,by rw [e1],by omega,by omega,fun hne=>?_⟩
 obtain ⟨b,off,vs,q1,q2,q3⟩:=f3 hne
 have hlt:lo<hi:=by
  rcases Nat.lt_or_ge lo hi with h4|h4
  ·exact h4
  ·exact absurd (List.eq_nil_of_length_eq_zero (by omega)) hne
 rw [if_neg (by omega)] at q1
 exact ⟨b,off,vs,by rw [if_neg (by omega)];exact q1,q2,q3⟩
theorem extract_bytes (l:List UInt8) (lo hi:Nat) (h:hi≤l.length):(⟨l.toArray⟩:ByteArray).extract lo hi=⟨((l.take hi).drop lo).toArray⟩:=by
 apply ByteArray.ext
 simp [ByteArray.data_extract,List.extract_toArray]
 rw [List.drop_take]
theorem T8 {k:IntKind} {i y:Nat} {code:BoundsCode} (h:i≤y):(Instr.sliceBound (.int k (i:Int)) y code).run P w=.ok i w:=by
 simp [Instr.sliceBound,asIntOf,h]
theorem Tk {t e:Nat} (hd:P.underlying t=some (.slice e)) {sz:Nat} (hsz:∀ w,(sizeOf e).run P w=.ok sz w) {A:Option Addr} {n c:Nat} {lo hi:Option Value} {l h:Nat}
  (hl:(lo=none∧l=0)∨∃ k,lo=some (.int k (l:Int))) (hh:(hi=none∧h=n)∨∃ k,hi=some (.int k (h:Int))) (h1:l≤h) (h2:h≤n) (hc:n≤c) :
  (Instr.sliceAt t (.slice A n c) lo hi none).run P w=.ok (.slice (if c=l then A else A.map (·.add (l*sz))) (h-l) (c-l)) w:=by
 have hb:(Instr.sliceBounds true n c lo hi none).run P w=.ok (l,h,c) w:=by
  rcases hl with ⟨rfl,rfl⟩|⟨k,rfl⟩<;>rcases hh with ⟨rfl,rfl⟩|⟨k',rfl⟩
  ·simp [Instr.sliceBounds]
  ·simp [Instr.sliceBounds,T8 (show h≤c by omega)]
  ·simp [Instr.sliceBounds,T8 h1]
  ·simp [Instr.sliceBounds,T8 (show h≤c by omega),T8 h1]
 simp [Instr.sliceAt,run_underlying hd,Instr.slice,hb,hsz]
theorem run_sliceAt_slice3 {t e:Nat} (hd:P.underlying t=some (.slice e)) {sz:Nat} (hsz:∀ w,(sizeOf e).run P w=.ok sz w) {A:Option Addr} {n c:Nat} {k1 k2 k3:IntKind} {l h m:Nat}
  (h1:l≤h) (h2:h≤m) (hc:m≤c) :
  (Instr.sliceAt t (.slice A n c) (some (.int k1 (l:Int))) (some (.int k2 (h:Int))) (some (.int k3 (m:Int)))).run P w=.ok (.slice (if m=l then A else A.map (·.add (l*sz))) (h-l) (m-l)) w:=by
 have hb:(Instr.sliceBounds true n c (some (.int k1 (l:Int))) (some (.int k2 (h:Int))) (some (.int k3 (m:Int)))).run P w=.ok (l,h,m) w:=by
  simp [Instr.sliceBounds,T8 h1,T8 h2,T8 hc]
 simp [Instr.sliceAt,run_underlying hd,Instr.slice,hb,hsz]
theorem E0 {t:Nat} (hd:P.underlying t=some .string) {s:ByteArray} {lo hi:Option Value} {l h:Nat}
  (hl:(lo=none∧l=0)∨∃ k,lo=some (.int k (l:Int))) (hh:(hi=none∧h=s.size)∨∃ k,hi=some (.int k (h:Int))) (h1:l≤h) (h2:h≤s.size) :
  (Instr.sliceAt t (.string s) lo hi none).run P w=.ok (.string (s.extract l h)) w:=by
 have hb:(Instr.sliceBounds false s.size s.size lo hi none).run P w=.ok (l,h,s.size) w:=by
  rcases hl with ⟨rfl,rfl⟩|⟨k,rfl⟩<;>rcases hh with ⟨rfl,rfl⟩|⟨k',rfl⟩
  ·simp [Instr.sliceBounds]
  ·simp [Instr.sliceBounds,T8 h2]
  ·simp [Instr.sliceBounds,T8 h1]
  ·simp [Instr.sliceBounds,T8 h2,T8 h1]
 simp [Instr.sliceAt,run_underlying hd,Instr.slice,hb]
def Tb (F:Fix) (G:Gh) (L:Nat→Option Obj):Option AV→Option Value→Prop
 | some x,some v=>RA F G L x v
 | none,none=>True
 | _,_=>False
theorem D9 {i:Int} (h:0≤i):((i.toNat:Nat):Int)=i:=Int.toNat_of_nonneg h
theorem slice_sound (T:B8 P C.τ) (h:SRg base pass F0 m G st a w) {t:Nat} {x:AV} {v:Value} {lo hi mx:Option AV} {vl vh vm:Option Value} {c:Prop} {z:AV} {os:Gb} (hx:RA ⟨w,m⟩ G (lk st.objs) x v)
  (hl:Tb ⟨w,m⟩ G (lk st.objs) lo vl) (hhi:Tb ⟨w,m⟩ G (lk st.objs) hi vh) (hmx:Tb ⟨w,m⟩ G (lk st.objs) mx vm)
  (hh:hSlice C t x lo hi mx st.objs=some (c,z,os)) (hc:c):Rv P base pass F0 a st.tmps (Instr.sliceAt t v vl vh vm) w z os:=by
 unfold hSlice at hh
 split at hh
 ·next hk =>
  obtain ⟨d,hd,hkd⟩:=T.kind hk rfl
  simp only [TK.is] at hkd
  subst hkd
  cases vm with
  | some _=>simp [Tb] at hmx
  | none =>
   split at hh
   ·next y =>
    simp only [RA] at hx
    split at hh
    ·next la lb =>
     simp only [aZ,aJ] at hh
     obtain ⟨rfl,rfl,rfl⟩:=hh
     obtain ⟨c1,c2,c3,c4,c5,c6⟩:=hc
     cases vl with
     | none=>simp [Tb] at hl
     | some vl =>
      cases vh with
      | none=>simp [Tb] at hhi
      | some vh =>
       simp only [Tb,RA] at hl hhi
       obtain ⟨k1,rfl⟩:=hl.of_anyInt c2
       obtain ⟨k2,rfl⟩:=hhi.of_anyInt c3
       have e:=hx.of_str c1
       subst e
       refine Gv h (E0 hd (l:=la.i.toNat) (h:=lb.i.toNat) (.inr ⟨k1,by rw [D9 c4]⟩) (.inr ⟨k2,by rw [D9 (by omega)]⟩) (by omega) (by simp [ByteArray.size];omega)) ?_
       rw [extract_bytes _ _ _ (by omega)]
       simp only [RA]
       exact R.str
    ·next la =>
     simp only [aZ,aJ] at hh
     obtain ⟨rfl,rfl,rfl⟩:=hh
     obtain ⟨c1,c2,c4,c5⟩:=hc
     cases vl with
     | none=>simp [Tb] at hl
     | some vl =>
      cases vh with
      | some _=>simp [Tb] at hhi
      | none =>
       simp only [Tb,RA] at hl
       obtain ⟨k1,rfl⟩:=hl.of_anyInt c2
       have e:=hx.of_str c1
       subst e
       refine Gv h (E0 hd (l:=la.i.toNat) (h:=y.s.length) (.inr ⟨k1,by rw [D9 c4]⟩) (.inl ⟨rfl,by simp [ByteArray.size]⟩) (by omega) (by simp [ByteArray.size])) ?_
       rw [extract_bytes _ _ _ (cZ _),List.take_length]
       simp only [RA]
       exact R.str
    ·next lb =>
     simp only [aZ,aJ] at hh
     obtain ⟨rfl,rfl,rfl⟩:=hh
     obtain ⟨c1,c3,c4,c5⟩:=hc
     cases vl with
     | some _=>simp [Tb] at hl
     | none =>
      cases vh with
      | none=>simp [Tb] at hhi
      | some vh =>
       simp only [Tb,RA] at hhi
       obtain ⟨k2,rfl⟩:=hhi.of_anyInt c3
       have e:=hx.of_str c1
       subst e
       refine Gv h (E0 hd (l:=0) (h:=lb.i.toNat) (.inl ⟨rfl,rfl⟩) (.inr ⟨k2,by rw [D9 c4]⟩) (by omega) (by simp [ByteArray.size];omega)) ?_
       rw [extract_bytes _ _ _ (by omega),List.drop_zero]
       simp only [RA]
       exact R.str
    ·cases hh
   ·cases hh
 ·next e hk =>
  obtain ⟨d,hd,hkd⟩:=T.kind hk rfl
  simp only [TK.is] at hkd
  obtain ⟨rfl,he⟩:=hkd
  have hsz:=Ft (T e he)
  cases vm with
  | some _=>simp [Tb] at hmx
  | none =>
   split at hh
   ·next c0 y o1 hp =>
    have main:c0→y.isList (C.size e)→∃ m1 A cap,SRg base pass F0 m1 G ⟨st.tmps,o1⟩ a w∧v=.slice A y.l.length cap∧y.l.length≤cap∧R ⟨w,m1⟩ (.list (C.size e) y.l) (.slice A y.l.length cap):=by
     intro hc0 hy
     obtain ⟨m1,k1,k2,k3,k4⟩:=R8 h hp hc0 hx
     have k5:=k4.of_list hy
     obtain ⟨A,cap,rfl,g1,g2,_⟩:=list_el k5
     exact ⟨m1,A,cap,k1,rfl,g1,k5⟩
    split at hh
    ·next la lb =>
     simp only [aZ,aJ] at hh
     obtain ⟨rfl,rfl,rfl⟩:=hh
     obtain ⟨c0,c1,c2,c3,c4,c5,c6⟩:=hc
     obtain ⟨m1,A,cap,k1,rfl,g1,g2⟩:=main c0 c1
     cases vl with
     | none=>simp [Tb] at hl
     | some vl =>
      cases vh with
      | none=>simp [Tb] at hhi
      | some vh =>
       simp only [Tb,RA] at hl hhi
       obtain ⟨q1,rfl⟩:=hl.of_anyInt c2
       obtain ⟨q2,rfl⟩:=hhi.of_anyInt c3
       have hr:=Tk (w:=w) (A:=A) (c:=cap) hd hsz (lo:=some (.int q1 la.i)) (hi:=some (.int q2 lb.i)) (n:=y.l.length) (l:=la.i.toNat) (h:=lb.i.toNat) (.inr ⟨q1,by rw [D9 c4]⟩) (.inr ⟨q2,by rw [D9 (by omega)]⟩) (by omega) (by omega) g1
       exact ⟨_,w,m1,G,hr,k1,by simp only [RA];exact list_cut g2 (by omega) (by omega)⟩
    ·next la =>
     simp only [aZ,aJ] at hh
     obtain ⟨rfl,rfl,rfl⟩:=hh
     obtain ⟨c0,c1,c2,c4,c5⟩:=hc
     obtain ⟨m1,A,cap,k1,rfl,g1,g2⟩:=main c0 c1
     cases vl with
     | none=>simp [Tb] at hl
     | some vl =>
      cases vh with
      | some _=>simp [Tb] at hhi
      | none =>
       simp only [Tb,RA] at hl
       obtain ⟨q1,rfl⟩:=hl.of_anyInt c2
       have hr:=Tk (w:=w) (A:=A) (c:=cap) hd hsz (lo:=some (.int q1 la.i)) (hi:=none) (n:=y.l.length) (l:=la.i.toNat) (h:=y.l.length) (.inr ⟨q1,by rw [D9 c4]⟩) (.inl ⟨rfl,rfl⟩) (by omega) (cZ _) g1
       have hcut:=list_cut (lo:=la.i.toNat) (hi:=y.l.length) g2 (by omega) (cZ _)
       rw [List.take_length] at hcut
       exact ⟨_,w,m1,G,hr,k1,by simp only [RA];exact hcut⟩
    ·next lb =>
     simp only [aZ,aJ] at hh
     obtain ⟨rfl,rfl,rfl⟩:=hh
     obtain ⟨c0,c1,c3,c4,c5⟩:=hc
     obtain ⟨m1,A,cap,k1,rfl,g1,g2⟩:=main c0 c1
     cases vl with
     | some _=>simp [Tb] at hl
     | none =>
      cases vh with
      | none=>simp [Tb] at hhi
      | some vh =>
       simp only [Tb,RA] at hhi
       obtain ⟨q2,rfl⟩:=hhi.of_anyInt c3
       have hr:=Tk (w:=w) (A:=A) (c:=cap) hd hsz (lo:=none) (hi:=some (.int q2 lb.i)) (n:=y.l.length) (l:=0) (h:=lb.i.toNat) (.inl ⟨rfl,rfl⟩) (.inr ⟨q2,by rw [D9 c4]⟩) (by omega) (by omega) g1
       have hcut:=list_cut (lo:=0) (hi:=lb.i.toNat) g2 (by omega) (by omega)
       rw [List.drop_zero] at hcut
       exact ⟨_,w,m1,G,hr,k1,by simp only [RA];exact hcut⟩
    ·cases hh
   ·cases hh
 ·next e mz hk =>
  obtain ⟨d,hd,hkd⟩:=T.kind hk rfl
  simp only [TK.is] at hkd
  obtain ⟨rfl,he⟩:=hkd
  have hsz:=Ft (T e he)
  cases vm with
  | none=>simp [Tb] at hmx
  | some vm =>
   split at hh
   ·next c0 y o1 hp =>
    split at hh
    ·next la lb =>
     simp only [aZ,aJ] at hh
     obtain ⟨rfl,rfl,rfl⟩:=hh
     obtain ⟨c0,c1,c2,c3,c3m,c4,c5,c6,c7⟩:=hc
     obtain ⟨m1,k1,k2,k3,k4⟩:=R8 h hp c0 hx
     have k5:=k4.of_list c1
     obtain ⟨A,cap,rfl,g1,g2,_⟩:=list_el k5
     cases vl with
     | none=>simp [Tb] at hl
     | some vl =>
      cases vh with
      | none=>simp [Tb] at hhi
      | some vh =>
       simp only [Tb,RA] at hl hhi hmx
       obtain ⟨q1,rfl⟩:=hl.of_anyInt c2
       obtain ⟨q2,rfl⟩:=hhi.of_anyInt c3
       obtain ⟨q3,rfl⟩:=hmx.of_anyInt c3m
       have hr:=run_sliceAt_slice3 (w:=w) (A:=A) (n:=y.l.length) (c:=cap) (k1:=q1) (k2:=q2) (k3:=q3) hd hsz (l:=la.i.toNat) (h:=lb.i.toNat) (m:=mz.i.toNat) (by omega) (by omega) (by omega)
       rw [D9 c4,D9 (by omega),D9 (by omega)] at hr
       exact ⟨_,w,m1,G,hr,k1,by simp only [RA];exact list_cut3 k5 (by omega) (by omega) (by omega)⟩
    ·cases hh
   ·cases hh
 ·cases hh
end
theorem foldl_fill (off:Nat):∀ (cs:List Value) (k:Nat) (acc:Array Value),off+k+cs.length≤acc.size →
  ((cs.zipIdx k).foldl (fun (a:Array Value) (p:Value×Nat)=>a.setIfInBounds (off+p.2) p.1) acc).toList=acc.toList.take (off+k)++cs++acc.toList.drop (off+k+cs.length)
 | [],k,acc,_=>by simp
 | c::cs,k,acc,h=>by
  simp only [bJ] at h
  simp only [List.zipIdx_cons,List.foldl_cons]
  rw [foldl_fill off cs (k+1) _ (by simp;omega)]
  have e:=list_seg_step acc.toList (off+k) c cs (by simp;omega)
  simp only [Array.toList_setIfInBounds,←Nat.add_assoc,bJ]
  rw [←Nat.add_assoc] at e
  exact e
theorem fill_step (off:Nat) (v:Value) (cells:Array Value) (h:off+v.cells.size≤cells.size) :
  (v.cells.zipIdx.foldl (fun cs (p:Value×Nat)=>cs.setIfInBounds (off+p.2) p.1) cells).toList=cells.toList.take off++v.cells.toList++cells.toList.drop (off+v.cells.size):=by
 have:=foldl_fill off v.cells.toList 0 cells (by simpa using h)
 rw [←Array.foldl_toList,Array.toList_zipIdx]
 simpa using this
theorem madeCells_succ (z:Array Value) (n:Nat) (hz:0<z.size):(madeCells z ((n+1)*z.size)).toList=z.toList++(madeCells z (n*z.size)).toList:=by
 apply List.ext_getElem?
 intro j
 have e:(n+1)*z.size=z.size+n*z.size:=by rw [Nat.add_mul];omega
 rw [List.getElem?_append]
 simp only [Array.length_toList,Array.getElem?_toList,madeCells,Array.getElem?_map,Array.getElem?_range]
 by_cases h1:j<z.size
 ·rw [if_pos h1,if_pos (by omega)]
  simp [Nat.mod_eq_of_lt h1,h1]
 ·rw [if_neg h1]
  by_cases h2:j<(n+1)*z.size
  ·rw [if_pos h2,if_pos (by omega)]
   simp only [Option.map_some]
   rw [Nat.mod_eq_sub_mod (by omega)]
  ·rw [if_neg h2,if_neg (by omega)]
theorem RE_made {F:Fix} {d:D} {z:Value} (h:R F d z) (h1:∀ u∈z.cells.toList,u.oneCell'=true) (hz:0<z.cells.size):∀ n,RE F z.cells.size (List.replicate n d) (madeCells z.cells (n*z.cells.size)).toList
 | 0=>by simp [RE,madeCells]
 | n+1=>by
  rw [List.replicate_succ,madeCells_succ _ _ hz]
  simp only [RE]
  exact ⟨z,_,rfl,rfl,h1,h,RE_made h h1 hz n⟩
theorem zerosD_eq (d:D):∀ n,zerosD d n=List.replicate n d
 | 0=>rfl
 | n+1=>by rw [zerosD,List.replicate_succ,zerosD_eq d n]
inductive Parts (F:Fix) (s n:Nat):List (Nat×D)→List (Nat×Value)→Prop
 | nil:Parts F s n [] []
 | cons {i:Nat} {d:D} {v:Value} {ds:List (Nat×D)} {vs:List (Nat×Value)}:i<n→R F d v→v.cells.size=s→(∀ u∈v.cells.toList,u.oneCell'=true)→Parts F s n ds vs→Parts F s n ((i,d)::ds) ((i,v)::vs)
theorem fill_sound {F:Fix} {s n:Nat}:∀ {ds:List (Nat×D)} {vs:List (Nat×Value)},Parts F s n ds vs→∀ {els:List D} {cells:Array Value},els.length=n→RE F s els cells.toList →
  ∃ cells',Instr.fill (fun i=>some (i*s,s)) cells vs=some cells'∧RE F s (setAll els ds) cells'.toList
 | _,_,.nil,els,cells,_,h=>⟨cells,rfl,h⟩
 | _,_,.cons (i:=i) (d:=d) (v:=v) (ds:=ds) (vs:=vs) hi hr hs h1 hp,els,cells,hn,h=>by
  have hl:cells.size=n*s:=by
   have:=h.length
   rw [hn] at this
   simpa using this
  have his:(i+1)*s≤n*s:=Nat.mul_le_mul_right _ (by omega)
  have his1:(i+1)*s=i*s+s:=by rw [Nat.add_mul,Nat.one_mul]
  have hfit:i*s+v.cells.size≤cells.size:=by omega
  have hset:=RE.set (k:=i) h (by omega) hr hs h1
  obtain ⟨cells',e,g⟩:=fill_sound hp (els:=els.set i d) (cells:=v.cells.zipIdx.foldl (fun cs (p:Value×Nat)=>cs.setIfInBounds (i*s+p.2) p.1) cells) (by simpa using hn) (by
   rw [fill_step _ _ _ hfit,hs,←his1]
   exact hset)
  refine ⟨cells',?_,g⟩
  simp only [Instr.fill]
  rw [if_neg (by simp [hs];omega)]
  exact e
section
variable {P:Program} {C:Ctx} {G:Gh}
variable {base:Nat} {pass:Nat→Prop} {F0:Anc} {m:Nat→Nat} {st:AS} {a:Act} {w:World}
theorem row_fresh (h:SRg base pass F0 m G st a w) {k:Nat} (hk:lk st.objs k=none) {s e cap:Nat} {els:List D} {cs:Array Value} (hcs:cs.size=cap*s) (hcap:els.length≤cap) (hm:cap≤maxLen)
  (hre:RE ⟨w,m⟩ s els (cs.toList.take (els.length*s))) :
  ∃ G',Db G (lk st.objs) G' (lk (upd st.objs k (.row s els 0)))∧Fix.le ⟨w,m⟩ ⟨w.alloc (.cells cs e),m⟩∧SRg base pass F0 m G' ⟨st.tmps,upd st.objs k (.row s els 0)⟩ a (w.alloc (.cells cs e)) ∧
   RA ⟨w.alloc (.cells cs e),m⟩ G' (lk (upd st.objs k (.row s els 0))) (.sl k els.length) (.slice (some ⟨w.heap.size,0,none⟩) els.length cap):=by
 obtain ⟨q1,q2,q3⟩:=h.fresh hk (.row s els 0) (.cells cs e) (.slice (some ⟨w.heap.size,0,none⟩) els.length cap) (fun hg hF=>by
  simp only [Hd]
  exact .inr ⟨w.heap.size,cap,cs,e,by simp,by simp,hcap,hm,heap_alloc_new w _,hcs,RE.mono hF hre,by rw [Nat.zero_mul];exact h.new _ (cZ _),Nat.zero_le _⟩)
 refine ⟨_,q1,q2,q3,?_⟩
 simp only [RA,Bm,if_true]
 exact ⟨rfl,cZ _,fun _=>trivial⟩
theorem purParts_sound {s n:Nat}:∀ {l:List (Nat×AV)} {vs:List (Nat×Value)} {c:Prop} {ps:List (Nat×D)} {os:Gb} {st:AS} {m:Nat→Nat},SRg base pass F0 m G st a w→Dg C l st.objs=some (c,ps,os)→c →
  allLt n l=true→allFit s (ps.map (·.2))→l.length=vs.length→(∀ (j i:Nat) (x:AV),l[j]?=some (i,x)→∃ v,vs[j]?=some (i,v)∧RA ⟨w,m⟩ G (lk st.objs) x v) →
  ∃ m',SRg base pass F0 m' G ⟨st.tmps,os⟩ a w∧Fix.le ⟨w,m⟩ ⟨w,m'⟩∧Db G (lk st.objs) G (lk os)∧Parts ⟨w,m'⟩ s n ps vs
 | [],vs,c,ps,os,st,m,h,hp,_,_,_,hl,_=>by
  simp only [Dg,aZ,aJ] at hp
  obtain ⟨rfl,rfl,rfl⟩:=hp
  have:vs=[]:=List.eq_nil_of_length_eq_zero (by simpa using hl.symm)
  subst this
  exact ⟨m,h,Fix.le_refl _,Db.refl _ _,.nil⟩
 | (i,x)::l,vs,c,ps,os,st,m,h,hp,hc,hlt,hf,hl,hv=>by
  simp only [Dg] at hp
  split at hp
  ·next c1 y o1 hp1 =>
   split at hp
   ·next c2 ps2 o2 hp2 =>
    simp only [aZ,aJ] at hp
    obtain ⟨rfl,rfl,rfl⟩:=hp
    simp only [allLt,bX,decide_eq_true_eq] at hlt
    simp only [List.map_cons,allFit] at hf
    cases vs with
    | nil=>simp at hl
    | cons p vs =>
     obtain ⟨v,e1,g2⟩:=hv 0 i x rfl
     simp only [List.getElem?_cons_zero,aZ] at e1
     subst e1
     obtain ⟨m1,k1,k2,k3,k4⟩:=R8 h hp1 hc.1 g2
     obtain ⟨m2,j1,j2,j3,j4⟩:=purParts_sound (vs:=vs) (st:=⟨st.tmps,o1⟩) k1 hp2 hc.2 hlt.2 hf.2 (by simpa using hl) (fun j i x hj=>by
      obtain ⟨v',e,g⟩:=hv (j+1) i x (by simpa using hj)
      exact ⟨v',by simpa using e,RA.mono k2 k3 g⟩)
     obtain ⟨f1,f2⟩:=R.cellsD k4 hf.1
     refine ⟨m2,j1,Fix.le_trans k2 j2,?_,.cons hlt.1 (k4.mono j2) f1 f2 j4⟩
     intro j o hj
     obtain ⟨oa,a1,a2,a3⟩:=k3 j o hj
     obtain ⟨ob,b1,b2,b3⟩:=j3 j oa a1
     refine ⟨ob,b1,fun hb=>⟨(a2 (b2 hb).1).1,rfl⟩,fun s' els' k' he=>?_⟩
     obtain ⟨els1,kk1,e1,e2,_⟩:=b3 s' els' k' he
     obtain ⟨els2,kk2,f1,f2,_⟩:=a3 s' els1 kk1 e1
     exact ⟨els2,kk2,f1,Nat.le_trans f2 e2,fun _=>⟨rfl,rfl⟩⟩
   ·cases hp
  ·cases hp
theorem setAll_length:∀ (ps:List (Nat×D)) (l:List D),(setAll l ps).length=l.length
 | [],l=>rfl
 | (i,x)::r,l=>by rw [setAll,setAll_length r];simp
theorem buildSlice_sound (T : B8 P C.τ) (h : SRg base pass F0 m G st a w) {t n k : Nat} {l : List (Nat × AV)} {vs : List (Nat × Value)} {c : Prop} {z : AV} {os : Gb} (hl : l.length = vs.length)
    (hv : ∀ (j i : Nat) (x : AV), l[j]? = some (i, x) → ∃ v, vs[j]? = some (i, v) ∧ RA ⟨w, m⟩ G (lk st.objs) x v)
    (hh : Dq C t n l k st.objs = some (c, z, os)) (hc : c) : Rv P base pass F0 a st.tmps (Instr.buildSlice t n vs.toArray) w z os := by
  unfold Dq at hh
  split at hh
  · next e hk =>
    obtain ⟨d, hd, hkd⟩ := T.kind hk rfl
    simp only [TK.is] at hkd
    obtain ⟨rfl, he⟩ := hkd
    have te := T e he
    obtain ⟨i, zv, h1, h2, h3, h4, _, h5, h6, h7⟩ := te.info
    split at hh
    · next c1 ps o1 hp =>
      split at hh
      · next hk0 =>
        split at hh
        · next hs =>
          simp only [aZ, aJ] at hh
          obtain ⟨rfl, rfl, rfl⟩ := hh
          obtain ⟨m1, k1, k2, k3, k4⟩ := purParts_sound h hp hc.1 hs.2 hc.2 hl hv
          have hsz : C.size e = zv.cells.size := h6.symm
          have hz : 0 < zv.cells.size := by rw [h6]; exact te.pos
          have hmade := RE_made (h5 ⟨w, m1⟩) h7 hz n
          rw [← zerosD_eq] at hmade
          rw [hsz] at k4
          obtain ⟨cells, hf1, hf2⟩ := fill_sound k4 (by rw [zerosD_eq]; simp) hmade
          have hlen : (setAll (zerosD (C.τ e).zd n) ps).length = n := by rw [setAll_length, zerosD_eq]; simp
          have hcsz : cells.size = n * zv.cells.size := by
            have := hf2.length
            rw [hlen] at this
            simpa using this
          have hnb : n * zv.cells.size ≤ 16777216 := by rw [← hsz]; exact hs.1
          have hnm : n ≤ maxLen := by
            have : n * 1 ≤ n * zv.cells.size := Nat.mul_le_mul_left _ hz
            simp [maxLen]
            omega
          obtain ⟨G', q1, q2, q3, q4⟩ := row_fresh k1 hk0 (e := e) (cap := n) hcsz (by rw [hlen]; exact cZ _) hnm (by rw [hlen, ← hcsz, List.take_of_length_le (by simp)]; exact hf2)
          rw [hlen] at q4
          rw [← hsz] at q3 q4
          refine ⟨_, _, m1, G', ?_, q3, q4⟩
          have hi : i.size = zv.cells.size := by rw [h2, h6]
          have hz0 : (Instr.buildSlice t n vs.toArray).run P w = (match Instr.fill (fun i => some (i * zv.cells.size, zv.cells.size)) (madeCells zv.cells (n * zv.cells.size)) vs with
              | some cells => (do pure (.slice (some (← newRow e cells)) n n) : Sem Value)
              | none => stuck "buildSlice: a part of the wrong size").run P w := by
            have hlt : ¬ (16777216 < n * zv.cells.size) := by omega
            by_cases h0 : n * zv.cells.size = 0
            · have hn0 : n = 0 := by
                rcases Nat.mul_eq_zero.1 h0 with h | h
                · exact h
                · omega
              subst hn0
              have e0 : Array.range 0 = #[] := rfl
              simp [Instr.buildSlice,run_underlying hd,sizeOf,typeInfo,h1,hi,madeCells,e0]
              cases Instr.fill (fun i => some (i * zv.cells.size, zv.cells.size)) #[] vs <;> rfl
            · simp [Instr.buildSlice, run_underlying hd, sizeOf, typeInfo, zeroValue, h1, h4, hi, hlt, h0, madeCells]
              cases Instr.fill (fun i => some (i * zv.cells.size, zv.cells.size)) ((Array.range (n * zv.cells.size)).map fun x => zv.cells[x % zv.cells.size]!) vs <;> rfl
          rw [hz0, hf1]
          simp [newRow]
        · cases hh
      · cases hh
    · cases hh
  · cases hh
theorem makeSlice_sound (T:B8 P C.τ) (h:SRg base pass F0 m G st a w) {t k:Nat} {x y:AV} {vx vy:Value} {c:Prop} {z:AV} {os:Gb} (hx:RA ⟨w,m⟩ G (lk st.objs) x vx) (hy:RA ⟨w,m⟩ G (lk st.objs) y vy)
  (hh:E3 C t x y k st.objs=some (c,z,os)) (hc:c):Rv P base pass F0 a st.tmps (Instr.makeSlice t vx vy) w z os:=by
 unfold E3 at hh
 split at hh
 ·next e la lb hk =>
  obtain ⟨d,hd,hkd⟩:=T.kind hk rfl
  simp only [TK.is] at hkd
  obtain ⟨rfl,he⟩:=hkd
  have te:=T e he
  obtain ⟨i,zv,h1,h2,h3,h4,_,h5,h6,h7⟩:=te.info
  split at hh
  ·next hk0 =>
   simp only [aZ,aJ] at hh
   obtain ⟨rfl,rfl,rfl⟩:=hh
   obtain ⟨c1,c2,c3,c4,c5,c6⟩:=hc
   simp only [RA] at hx hy
   obtain ⟨k1,rfl⟩:=hx.of_anyInt c1
   obtain ⟨k2,rfl⟩:=hy.of_anyInt c2
   have hr:=run_make (P:=P) w t e i zv hd h1 h4 k1 k2 la.i lb.i c3 (by omega) (by rw [h3];exact c5) (by omega)
   have hi:i.size=zv.cells.size:=by rw [h2,h6]
   rw [hi,←c4] at hr
   have hz:0<zv.cells.size:=by rw [h6];exact te.pos
   have hmade:=RE_made (h5 ⟨w,m⟩) h7 hz la.i.toNat
   have hsz:C.size e=zv.cells.size:=h6.symm
   obtain ⟨G',q1,q2,q3,q4⟩:=row_fresh h hk0 (s:=zv.cells.size) (e:=e) (cap:=la.i.toNat) (els:=List.replicate la.i.toNat (C.τ e).zd) (cs:=madeCells zv.cells (la.i.toNat*zv.cells.size)) (size_madeCells _ _) (by simp) (by simp [maxLen];omega) (by
    rw [List.take_of_length_le (by simp [size_madeCells])]
    exact hmade)
   rw [←hsz] at q3 q4
   rw [←hsz] at hr
   simp only [List.length_replicate] at q4
   exact ⟨_,_,m,G',by rw [←c4];exact hr,q3,q4⟩
  ·cases hh
 ·cases hh
theorem run_append_room' {P:Program} {w:World} (t ty e tb:TypeId) (i:TypeInfo) (ht:P.underlying t=some (.slice e)) (hi:P.info? e=some i)
  (g sLen sCap:Nat) (cur:Array Value) (hg:w.heap[g]?=some (.cells cur tb (0,0)))
  (a:Addr) (m c:Nat) (news:List Value) (hl:news.length=m*i.size) (hnews:∀ j u,news[j]?=some u→w.cell? (a.add j)=some u) (h1:∀ u∈news,u.oneCell'=true)
  (hroom:sLen+m≤sCap) (hfit:sLen*i.size+news.length≤cur.size) :
  (Builtin.append_ #[t,t] ty #[.slice (some ⟨g,0,none⟩) sLen sCap,.slice (some a) m c]).run P w =
   .ok (.slice (some ⟨g,0,none⟩) (sLen+m) sCap) (w.setRow g (cur.toList.take (sLen*i.size)++news++cur.toList.drop (sLen*i.size+news.length)).toArray):=by
 have hf:=run_firstCells_some (P:=P) w i.size m a m c news hl hnews
 have hst:=run_storeCells_at P g (sLen*i.size) tb news 0 cur w hg (by simpa using hfit) h1
 simp only [Nat.add_zero] at hst
 simp [Builtin.append_,run_underlying ht,sizeOf,typeInfo,hi,Builtin.lenOf,hroom,hf,Addr.add_lit,hst]
theorem run_append_none {P:Program} {w:World} (t ty e:TypeId) (i:TypeInfo) (ht:P.underlying t=some (.slice e)) (hi:P.info? e=some i)
  (A:Option Addr) (n cap c:Nat) (B:Option Addr) (hn:n≤cap) :
  (Builtin.append_ #[t,t] ty #[.slice A n cap,.slice B 0 c]).run P w=.ok (.slice A n cap) w:=by
 cases A with
 | none=>cases B<;>simp [Builtin.append_,run_underlying ht,sizeOf,typeInfo,hi,Builtin.lenOf,hn,Builtin.firstCells,loadCells,loadCellsFrom]
 | some A=>cases B<;>simp [Builtin.append_,run_underlying ht,sizeOf,typeInfo,hi,Builtin.lenOf,hn,Builtin.firstCells,loadCells,loadCellsFrom,storeCells]
theorem source_sound (h:SRg base pass F0 m G st a w) {s:Nat} {x:AV} {v:Value} {c:Prop} {xs:List D} (hx:RA ⟨w,m⟩ G (lk st.objs) x v) (hh:De s x st.objs=some (c,xs)) (hc:c) :
  ∃ B cap,v=.slice B xs.length cap∧(xs=[]∨∃ b off vs,B=some ⟨b,off,none⟩∧RE ⟨w,m⟩ s xs vs∧∀ j u,vs[j]?=some u→w.cell? ⟨b,off+j,none⟩=some u):=by
 unfold De at hh
 split at hh
 ·next y =>
  simp only [aZ,aJ] at hh
  obtain ⟨rfl,rfl⟩:=hh
  simp only [RA] at hx
  have h2:=hx.of_list hc
  simp only [R] at h2
  obtain ⟨A,cap,rfl,_,_,g⟩:=h2
  refine ⟨A,cap,rfl,?_⟩
  by_cases hl:y.l=[]
  ·exact .inl hl
  ·obtain ⟨b,off,vs,rfl,q1,q2⟩:=g hl
   exact .inr ⟨b,off,vs,rfl,q1,q2.2⟩
 ·next k =>
  simp only [aZ,aJ] at hh
  obtain ⟨rfl,rfl⟩:=hh
  simp only [RA] at hx
  exact ⟨none,0,hx,.inl rfl⟩
 ·next i n =>
  split at hh
  ·next s' els k hi =>
   split at hh
   ·next hs =>
    simp only [aZ,aJ] at hh
    obtain ⟨rfl,rfl⟩:=hh
    simp only [RA,hi] at hx
    have hv:=hx.2.2 hc
    have hok:=h.objs i _ hi
    simp only [Hd] at hok
    rcases hok with ⟨_,h2,rfl,_⟩|⟨b,cap,cs,ty,h1,h2,h3,h4,h5,h6,h7,h8,h9⟩
    ·exact ⟨none,0,by rw [hv,h2];rfl,.inl rfl⟩
    ·subst hs
     refine ⟨_,cap,by rw [hv,h2],.inr ⟨b,0,_,rfl,h7,fun j u hu=>?_⟩⟩
     rw [Nat.zero_add,C3 h5]
     rw [List.getElem?_take] at hu
     split at hu
     ·simpa using hu
     ·cases hu
   ·cases hh
  ·cases hh
 ·cases hh
theorem RE.one_all {F:Fix} {s:Nat}:∀ {l:List D} {vs:List Value},RE F s l vs→∀ u∈vs,u.oneCell'=true
 | [],_,h,u,hu=>by simp only [RE] at h;subst h;cases hu
 | x::l,vs,h,u,hu=>by
  simp only [RE] at h
  obtain ⟨v,r,rfl,_,h3,_,h5⟩:=h
  rcases List.mem_append.1 hu with hu|hu
  ·exact h3 u hu
  ·exact RE.one_all h5 u hu
theorem Iw (z:Array Value) (n:Nat):(Builtin.zeroCells z n).size=n*z.size:=by simp [Builtin.zeroCells]
theorem append_sound (T:B8 P C.τ) (h:SRg base pass F0 m G st a w) {t k:Nat} {s x:AV} {vs vx:Value} {c:Prop} {z:AV} {os:Gb} (hs:RA ⟨w,m⟩ G (lk st.objs) s vs) (hx:RA ⟨w,m⟩ G (lk st.objs) x vx)
  (hh:hAppend C t s x k st.objs=some (c,z,os)) (hc:c) (ty:TypeId):Rv P base pass F0 a st.tmps (Builtin.append_ #[t,t] ty #[vs,vx]) w z os:=by
 unfold hAppend at hh
 split at hh
 ·next e hk =>
  obtain ⟨d,hd,hkd⟩:=T.kind hk rfl
  simp only [TK.is] at hkd
  obtain ⟨rfl,he⟩:=hkd
  have te:=T e he
  obtain ⟨ii,zv,i1,i2,i3,i4,_,i5,i6,i7⟩:=te.info
  have hsz:C.size e=ii.size:=i2.symm
  split at hh
  ·next c1 xs hsrc =>
   split at hh
   ·
    next s0 =>
    split at hh
    ·next hk0 =>
     simp only [aZ,aJ] at hh
     obtain ⟨rfl,rfl,rfl⟩:=hh
     obtain ⟨hc1,hc2,hc3⟩:=hc
     simp only [RA] at hs
     subst hs
     obtain ⟨B,cap,rfl,hB⟩:=source_sound h hx hsrc hc1
     by_cases hxs:xs=[]
     ·subst hxs
      have hr:=run_append_none (w:=w) t ty e ii hd i1 none 0 0 cap B (cZ _)
      obtain ⟨q1,q2⟩:=h.obj k (.row (C.size e) [] 0) (w':=w) (m':=m) (G':=⟨fun j=>if j=k then none else G.γ j,fun j=>if j=k then .slice none 0 0 else G.hd j⟩) (Fix.le_refl _)
       (fun j hj=>by simp [hj]) (fun o ho=>by rw [hk0] at ho;cases ho) (fun _=>by simp only [Hd];exact .inl (by simp))
       (fun _ _ _ _ _ _ _=>⟨rfl,rfl⟩) (fun _ b hb=>by simp at hb) (Frame.refl _ _ _) (fun _ _ _=>rfl) h.new
      refine ⟨_,w,m,_,hr,q2,?_⟩
      simp only [RA,Bm,if_true]
      exact ⟨rfl,cZ _,fun _=>trivial⟩
     ·rcases hB with hB|⟨b,off,us,rfl,g1,g2⟩
      ·exact absurd hB hxs
      have hpos:0<xs.length:=List.length_pos_iff.2 hxs
      rw [hsz] at g1
      have hul:=g1.length
      have hbytes:xs.length*ii.bytes≤281474976710656:=by rw [i3];omega
      have hr:=run_append_nil (P:=P) w t ty e ii zv hd i1 i4 ⟨b,off,none⟩ xs.length cap us hul (fun j u hu=>by rw [It];exact g2 j u hu) hpos (by omega) hbytes
      have hcapm:=grownCap_le_maxLen w xs.length 0 e (by simp [maxLen];omega)
      have hcapge:=grownCap_ge w xs.length 0 e
      obtain ⟨G',q1,q2,q3,q4⟩:=row_fresh h.drew hk0 (s:=ii.size) (e:=e) (cap:=grownCap w xs.length 0 e) (els:=xs) (cs:=us.toArray++Builtin.zeroCells zv.cells (grownCap w xs.length 0 e-xs.length))
       (by simp [Iw,hul,i6,←i2,←Nat.add_mul];congr 1;omega) hcapge hcapm (by
        rw [←hul]
        simp only [Array.toList_append,List.take_left']
        simpa using (RE.mono (F:=⟨w,m⟩) (F':=⟨w.drew,m⟩) ⟨fun _=>⟨cZ _,fun _ _=>rfl⟩,fun _ _ _ _ hq=>hq⟩ g1))
      rw [hsz]
      exact ⟨_,_,m,G',hr,q3,q4⟩
    ·cases hh
   ·next i n =>
    split at hh
    ·next s' els kk hi =>
     split at hh
     ·next hss =>
      simp only [aZ,aJ] at hh
      obtain ⟨rfl,rfl,rfl⟩:=hh
      obtain ⟨hc1,hc2,hc3,hc4⟩:=hc
      subst hss
      obtain ⟨B,cap,rfl,hB⟩:=source_sound h hx hsrc hc1
      simp only [RA,hi] at hs
      have hv:=hs.2.2 hc2
      have hok:=h.objs i _ hi
      simp only [Hd] at hok
      by_cases hxs:xs=[]
      ·
       subst hxs
       have hu:∀ j,lk (upd st.objs i (.row (C.size e) (els++[]) kk)) j=lk st.objs j:=fun j=>by
        rw [Bm]
        split
        ·next e=>subst e;rw [hi,List.append_nil]
        ·rfl
       have hL:lk (upd st.objs i (.row (C.size e) (els++[]) kk))=lk st.objs:=funext hu
       have hle:∃ A cap',vs=.slice A els.length cap'∧els.length≤cap':=by
        rcases hok with ⟨_,h2,rfl,_⟩|⟨b,cap',cs,tb,h1,h2,h3,_⟩
        ·exact ⟨none,0,by rw [hv,h2];rfl,cZ _⟩
        ·exact ⟨_,cap',by rw [hv,h2],h3⟩
       obtain ⟨A,cap',hvs,hle⟩:=hle
       have hr:=run_append_none (w:=w) t ty e ii hd i1 A els.length cap' cap B hle
       rw [←hvs] at hr
       refine ⟨_,w,m,G,hr,⟨h.defers,by simp only [hL];exact h.tmps,by simp only [hL];exact h.objs,by simp only [hL];exact h.apart,by simp only [hL];exact h.mine,h.frame,h.old,h.new,h.small,by simp only [hL];exact h.lent⟩,?_⟩
       rw [hL]
       simp only [RA,hi,List.append_nil]
       exact ⟨hs.1,cZ _,fun _=>hv⟩
      ·rcases hB with hB|⟨b,off,us,rfl,g1,g2⟩
       ·exact absurd hB hxs
       have hpos:0<xs.length:=List.length_pos_iff.2 hxs
       have g1':=g1
       rw [hsz] at g1'
       have hul:=g1'.length
       have hbytes:(els.length+xs.length)*ii.bytes≤140737488355328:=by rw [i3];exact hc3
       have hnews:∀ j u,us[j]?=some u→w.cell? ((⟨b,off,none⟩:Addr).add j)=some u:=fun j u hu=>by rw [It];exact g2 j u hu
       have grow:∀ (cap':Nat) (cs':Array Value),cs'.size=cap'*ii.size→(els++xs).length≤cap'→cap'≤maxLen→RE ⟨w,m⟩ ii.size (els++xs) (cs'.toList.take ((els++xs).length*ii.size))→kk=0∨0<els.length →
         ∃ G' m',SRg base pass F0 m' G' ⟨st.tmps,upd st.objs i (.row ii.size (els++xs) kk)⟩ a (w.drew.alloc (.cells cs' e)) ∧
          RA ⟨w.drew.alloc (.cells cs' e),m'⟩ G' (lk (upd st.objs i (.row ii.size (els++xs) kk))) (.sl i (els++xs).length) (.slice (some ⟨w.heap.size,0,none⟩) (els++xs).length cap'):=by
        intro cap' cs' hcs hcap' hm' hre hkk
        have hkn:kk≤els.length:=by
         rcases hok with ⟨_,_,rfl,rfl⟩|⟨_,_,_,_,_,_,_,_,_,_,_,_,h9⟩
         ·simp
         ·exact h9
        have hFa:=Fix.le_alloc (w:=w.drew) (m:=m) h.new (.cells cs' e)
        have hF0:Fix.le ⟨w,m⟩ ⟨w.drew.alloc (.cells cs' e),m⟩:=hFa
        have hF:Fix.le ⟨w,m⟩ ⟨w.drew.alloc (.cells cs' e),fun x=>if x=w.heap.size then kk*ii.size else m x⟩:=by
         refine ⟨fun x=>?_,hF0.2⟩
         by_cases hx:x=w.heap.size
         ·subst hx
          have:=h.new w.heap.size (cZ _)
          exact ⟨by simp [this],fun off ho=>by simp only [this] at ho;omega⟩
         ·exact ⟨by simp [hx],(hF0.1 x).2⟩
        obtain ⟨q1,q2⟩:=h.obj i (.row ii.size (els++xs) kk) (w':=w.drew.alloc (.cells cs' e)) (m':=fun x=>if x=w.heap.size then kk*ii.size else m x)
         (G':=⟨fun j=>if j=i then some w.heap.size else G.γ j,fun j=>if j=i then .slice (some ⟨w.heap.size,0,none⟩) (els++xs).length cap' else G.hd j⟩) hF
         (fun j hj=>by simp [hj]) (fun o ho=>by
          rw [hi] at ho
          injection ho with ho
          subst ho
          refine ⟨by simp [Obj.isBox],fun s2 els2 k2 he2=>?_⟩
          simp only [Obj.row.injEq] at he2
          obtain ⟨rfl,rfl,rfl⟩:=he2
          exact ⟨els,kk,by rw [hsz],by simp,fun hl=>by rw [bY] at hl;omega⟩)
         (fun hg=>by
          simp only [Hd]
          exact .inr ⟨w.heap.size,cap',cs',e,by simp,by simp,hcap',hm',heap_alloc_new w.drew _,hcs,RE.mono hF hre,by simp,by simp;omega⟩)
         (fun j o hj hl ho b' hb'=>by
          have hlt:=(h.mine j o b' hl ho hb').1
          exact ⟨Below.heap_alloc w.drew _ b' hlt,by simp;intro e;omega⟩)
         (fun _ b' hb'=>by
          simp only [if_true,aZ] at hb'
          subst hb'
          refine ⟨by simp,.inl h.small,fun j o hj hl ho hbj=>?_⟩
          have:=(h.mine j o _ hl ho hbj).1
          omega)
         ⟨rfl,rfl,rfl,by simp,fun b' hb' _=>Below.heap_alloc w.drew _ b' (Nat.lt_of_lt_of_le hb' h.small)⟩
         (fun b' hb' _=>by have:=h.small;simp;intro e;omega)
         (fun b' hb'=>by
          simp at hb'
          have:b'≠w.heap.size:=by omega
          simp [this]
          exact h.new b' (by omega))
        refine ⟨_,_,q2,?_⟩
        simp only [RA,Bm,if_true]
        exact ⟨rfl,cZ _,fun _=>trivial⟩
       rcases hok with ⟨h1,h2,rfl,rfl⟩|⟨bb,cap',cs,tb,h1,h2,h3,h4,h5,h6,h7,h8,h9⟩
       ·
        rw [h2] at hv
        subst hv
        have hr:=run_append_nil (P:=P) w t ty e ii zv hd i1 i4 ⟨b,off,none⟩ xs.length cap us hul hnews hpos (by omega) (by simp at hbytes;omega)
        have hcapm:=grownCap_le_maxLen w xs.length 0 e (by simp [maxLen];omega)
        have hcapge:=grownCap_ge w xs.length 0 e
        obtain ⟨G',m',q1,q2⟩:=grow (grownCap w xs.length 0 e) (us.toArray++Builtin.zeroCells zv.cells (grownCap w xs.length 0 e-xs.length))
         (by simp [Iw,hul,i6,←i2,←Nat.add_mul];congr 1;omega) (by simpa using hcapge) hcapm (by
          simp only [List.nil_append]
          rw [←hul]
          simpa using g1') (.inl rfl)
        rw [hsz]
        simp only [List.nil_append] at q1 q2 ⊢
        exact ⟨_,_,m',G',hr,q1,q2⟩
       ·rw [h2] at hv
        subst hv
        by_cases hroom:els.length+xs.length≤cap'
        ·
         rw [hsz] at h6 h7 h8
         have hfit:els.length*ii.size+us.length≤cs.size:=by rw [hul,h6,←Nat.add_mul];exact Nat.mul_le_mul_right _ hroom
         have hone:=RE.one_all g1
         have hr:=run_append_room' (w:=w) t ty e tb ii hd i1 bb els.length cap' cs h5 ⟨b,off,none⟩ xs.length cap us hul hnews hone hroom hfit
         have hmm:=h.mine i _ bb hi rfl h1
         have hks:kk*ii.size≤els.length*ii.size:=Nat.mul_le_mul_right _ h9
         have hF:Fix.le ⟨w,m⟩ ⟨w.setRow bb (cs.toList.take (els.length*ii.size)++us++cs.toList.drop (els.length*ii.size+us.length)).toArray,m⟩:=Fix.le_setRow h5 (fun o ho=>by
          rw [show m bb=kk*ii.size from h8] at ho
          rw [←Array.getElem?_toList]
          simp only [List.append_assoc]
          rw [List.getElem?_append_left (by simp;omega),List.getElem?_take,if_pos (by omega)]
          simp)
         obtain ⟨q1,q2⟩:=h.obj i (.row (C.size e) (els++xs) kk) (w':=w.setRow bb (cs.toList.take (els.length*ii.size)++us++cs.toList.drop (els.length*ii.size+us.length)).toArray) (m':=m)
          (G':=⟨G.γ,fun j=>if j=i then .slice (some ⟨bb,0,none⟩) (els++xs).length cap' else G.hd j⟩) hF
          (fun j hj=>by simp [hj]) (fun o ho=>by
           rw [hi] at ho
           injection ho with ho
           subst ho
           refine ⟨by simp [Obj.isBox],fun s2 els2 k2 he2=>?_⟩
           simp only [Obj.row.injEq] at he2
           obtain ⟨rfl,rfl,rfl⟩:=he2
           exact ⟨els,kk,rfl,by simp,fun hl=>by rw [bY] at hl;omega⟩)
          (fun hg=>by
           simp only [Hd]
           rw [hsz]
           refine .inr ⟨bb,cap',_,tb,h1,by simp,by simpa using hroom,h4,setRow_heap w bb cs _ tb (0,0) h5,?_,?_,h8,by simp;omega⟩
           ·simp
            rw [h6] at hfit ⊢
            omega
           ·have hl2:(els++xs).length*ii.size=(cs.toList.take (els.length*ii.size)++us).length:=by
             simp [Nat.add_mul,hul]
             omega
            rw [hl2]
            simp only [List.take_left']
            exact RE.append (RE.mono hF h7) (RE.mono hF g1'))
          (fun j o hj hl ho b' hb'=>by
           have:b'≠bb:=fun e=>hj (h.apart j i o _ bb hl hi ho rfl (e▸hb') h1)
           exact ⟨setRow_other w bb b' _ this,rfl⟩)
          (fun _ b' hb'=>by
           simp only [h1,aZ] at hb'
           subst hb'
           exact ⟨by simpa using hmm.1,hmm.2,fun j o hj hl ho hbj=>hj (h.apart j i o _ bb hl hi ho rfl hbj h1)⟩)
          ⟨rfl,rfl,rfl,by simp,fun b' hlt hp=>setRow_other w bb b' _ (fun e=>by
           subst e
           rcases hmm.2 with h1|h1
           ·omega
           ·exact hp h1)⟩
          (fun _ _ _=>rfl) (fun b' hge=>h.new b' (by simpa using hge))
         refine ⟨_,_,m,_,hr,q2,?_⟩
         simp only [RA,Bm,if_true]
         exact ⟨rfl,cZ _,fun _=>by simp⟩
        ·
         have hvl:=h7.length
         rw [hsz] at h7 hvl
         have hr:=run_append_grow (P:=P) w t ty e ii zv hd i1 i4 ⟨bb,0,none⟩ els.length cap' (cs.toList.take (els.length*ii.size)) hvl (fun j u hu=>by
           rw [It,Nat.zero_add,C3 h5]
           rw [List.getElem?_take] at hu
           split at hu
           ·simpa using hu
           ·cases hu) ⟨b,off,none⟩ xs.length cap us hul hnews (by omega) (by omega) (growslice_fits (by omega) hbytes)
         have hcapm:=grownCap_le_maxLen w (els.length+xs.length) cap' e (by simp [maxLen];omega)
         have hcapge:=grownCap_ge w (els.length+xs.length) cap' e
         have hpos':kk=0∨0<els.length:=by omega
         obtain ⟨G',m',q1,q2⟩:=grow (grownCap w (els.length+xs.length) cap' e) ((cs.toList.take (els.length*ii.size)).toArray++us.toArray++Builtin.zeroCells zv.cells (grownCap w (els.length+xs.length) cap' e-(els.length+xs.length)))
          (by
           simp only [Array.size_append,List.size_toArray,Iw,hvl,hul,i6,←i2,←Nat.add_mul]
           congr 1
           omega) (by simpa using hcapge) hcapm (by
           have hl2:(els++xs).length*ii.size=(cs.toList.take (els.length*ii.size)++us).length:=by
            rw [bY,bY,hvl,hul,Nat.add_mul]
           rw [hl2]
           simp only [Array.toList_append,List.take_left']
           exact RE.append h7 g1') hpos'
         rw [hsz]
         refine ⟨_,_,m',G',hr,q1,?_⟩
         simpa using q2
     ·cases hh
    ·cases hh
   ·cases hh
  ·cases hh
 ·cases hh
end
section
variable {P:Program} {C:Ctx} {G:Gh}
variable {base:Nat} {pass:Nat→Prop} {F0:Anc} {m:Nat→Nat} {st:AS} {a:Act} {w:World}
theorem mapM_of_at {α β:Type} (g:α→Option β):∀ (l:List α) (fs:List β),l.length=fs.length→(∀ (j:Nat) (f:α) (p:β),l[j]?=some f→fs[j]?=some p→g f=some p)→l.mapM g=some fs
 | [],[],_,_=>rfl
 | [],_::_,h,_=>by simp at h
 | _::_,[],h,_=>by simp at h
 | x::l,p::fs,h,hg=>by
  have h0:=hg 0 x p rfl rfl
  have ih:=mapM_of_at g l fs (by simpa using h) (fun j f q hj hq=>hg (j+1) f q (by simpa using hj) (by simpa using hq))
  simp [List.mapM_cons,h0,ih]
theorem buildGo_cond {o:Gb} {fs:List (Nat×Nat)}:∀ {Rw:List (Nat×AV)} {cells:List AV} {c c':Prop} {z:AV} {os:Gb},C1 o fs cells Rw c=some (c',z,os)→c'→c
 | [],cells,c,c',z,os,h,hc=>by
  simp only [C1,aZ,aJ] at h
  obtain ⟨rfl,_,_⟩:=h
  exact hc
 | (i,x)::Rw,cells,c,c',z,os,h,hc=>by
  simp only [C1] at h
  split at h
  ·split at h
   ·exact (buildGo_cond h hc).1
   ·cases h
  ·cases h
theorem one_part {F:Fix} {L:Nat→Option Obj} {x:AV} {v:Value} (g2:RA F G L x v) (hx:x.fits 1):∃ u,v.cells=#[u]∧u.oneCell'=true∧RA F G L ((x.cells false 1).getD 0 .dead) u:=by
 obtain ⟨k1,k2,k3⟩:=cells_sound (ag:=false) g2 hx
 obtain ⟨u,hu⟩:=Array.size_eq_one_iff.1 k2
 rw [hu] at k1 k3
 refine ⟨u,hu,k3 u (by simp),?_⟩
 have hlen:=RAs.length k1
 match hcx:x.cells false 1,hlen with
 | [y],_ =>
  rw [hcx] at k1
  simp only [RAs] at k1
  obtain ⟨v',r,e,g,_⟩:=k1
  simp only [List.cons.injEq] at e
  rw [e.1]
  simpa using g
theorem buildGo_sound {F:Fix} {L:Nat→Option Obj} {o:Gb} {fs:List (Nat×Nat)}:∀ {Rw:List (Nat×AV)} {pv:List (Nat×Value)} {cells:List AV} {vs:List Value} {c c':Prop} {z:AV} {os:Gb},
  C1 o fs cells Rw c=some (c',z,os)→c'→RAs F G L cells vs→(∀ u∈vs,u.oneCell'=true)→Rw.length=pv.length →
  (∀ (j i:Nat) (x:AV),Rw[j]?=some (i,x)→∃ v,pv[j]?=some (i,v)∧RA F G L x v) →
  os=o∧∃ cells',Instr.fill (fs.toArray[·]?) vs.toArray pv=some cells'∧RA F G L z (.agg cells')
 | [],pv,cells,vs,c,c',z,os,h,hc,hr,h1,hl,_=>by
  simp only [C1,aZ,aJ] at h
  obtain ⟨rfl,rfl,rfl⟩:=h
  have:pv=[]:=List.eq_nil_of_length_eq_zero (by simpa using hl.symm)
  subst this
  exact ⟨rfl,vs.toArray,rfl,mkAgg_sound hr h1⟩
 | (i,x)::Rw,pv,cells,vs,c,c',z,os,h,hc,hr,h1,hl,hv=>by
  simp only [C1] at h
  cases hf:fs[i]? with
  | none=>simp [hf] at h
  | some p =>
   obtain ⟨off,sz⟩:=p
   simp only [hf] at h
   split at h
   ·next hs =>
    have hx:=(buildGo_cond h hc).2
    cases pv with
    | nil=>simp at hl
    | cons p pv =>
     obtain ⟨v,e1,g2⟩:=hv 0 i x rfl
     simp only [List.getElem?_cons_zero,aZ] at e1
     subst e1
     obtain ⟨u,hu,hu1,hur⟩:=one_part g2 hx
     obtain ⟨hos,cells',hf',hz⟩:=buildGo_sound (pv:=pv) (vs:=vs.set off u) h hc (RAs.set hr hur) (fun y hy=>by
       rcases List.mem_or_eq_of_mem_set hy with hy|hy
       ·exact h1 y hy
       ·rw [hy];exact hu1) (by simpa using hl) (fun j i x hj=>by
       obtain ⟨v',e,g⟩:=hv (j+1) i x (by simpa using hj)
       exact ⟨v',by simpa using e,g⟩)
     refine ⟨hos,cells',?_,hz⟩
     have hvl:=RAs.length hr
     have hfs:fs.toArray[i]?=some (off,sz):=by simpa using hf
     simp only [Instr.fill,hfs]
     rw [if_neg (by simp [hu,hs.1,hvl];omega),hu]
     simpa using hf'
   ·cases h
theorem build_sound (T:B8 P C.τ) (h:SRg base pass F0 m G st a w) {t:Nat} {l:List (Nat×AV)} {vs:List (Nat×Value)} {c:Prop} {z:AV} {os:Gb} (hl:l.length=vs.length)
  (hv:∀ (j i:Nat) (x:AV),l[j]?=some (i,x)→∃ v,vs[j]?=some (i,v)∧RA ⟨w,m⟩ G (lk st.objs) x v)
  (hh:hBuild C t l st.objs=some (c,z,os)) (hc:c):Rv P base pass F0 a st.tmps (Instr.build t vs.toArray) w z os:=by
 unfold hBuild at hh
 split at hh
 ·next fs hk =>
  have tt:=T t (by rw [hk];rfl)
  obtain ⟨d,hd,hkd⟩:=T.kind hk rfl
  simp only [TK.is] at hkd
  obtain ⟨fields,rfl,hlen,hfs⟩:=hkd
  obtain ⟨i,zv,h1,h2,h3,h4,h5,_,h6,h7⟩:=tt.info
  have hfit:=buildGo_cond hh hc
  obtain ⟨g1,g2,g3⟩:=cells_sound (ag:=true) (h5 ⟨w,m⟩ G (lk st.objs)) hfit
  obtain ⟨rfl,cells',q1,q2⟩:=buildGo_sound (pv:=vs) hh hc g1 g3 hl hv
  have hmap:fields.toList.mapM (fun f=>(P.info? f.type).map fun i=>(f.offset,i.size))=some fs:=by
   refine mapM_of_at _ _ _ (by simpa using hlen.symm) (fun j f p hj hp=>?_)
   obtain ⟨e1,e2,_⟩:=hfs j f p (by simpa using hj) hp
   cases hi:P.info? f.type with
   | none=>simp [hi] at e2
   | some ii =>
    simp [hi] at e2
    simp [e1,e2]
  have hb:P.built t vs=some cells':=by
   unfold Program.built
   simp only [h1,hd,h4,hmap]
   simpa using q1
  exact Gv h (run_build w t vs.toArray cells' hb) q2
 ·cases hh
theorem D.eqb_key {k:TK} {x y:D} (hx:Dm k x) (hy:Dm k y) (h:D.eqb x y=true):x=y:=by
 unfold Dm at hx hy
 cases k<;>simp only at hx hy
 ·cases x<;>simp only [D.isInt] at hx
  cases y<;>simp only [D.isInt] at hy
  subst hx;subst hy
  simpa [D.eqb] using h
 ·cases x<;>simp only [D.isStr] at hx
  cases y<;>simp only [D.isStr] at hy
  simpa [D.eqb] using h
theorem D.eqb_self {k:TK} {x:D} (hx:Dm k x):D.eqb x x=true:=by
 unfold Dm at hx
 cases k<;>simp only at hx
 ·cases x<;>simp only [D.isInt] at hx
  simp [D.eqb]
 ·cases x<;>simp only [D.isStr] at hx
  simp [D.eqb]
def Ex:TK→TypeDesc
 | .int k=>.int k
 | _=>.string
theorem bytesBeq (s t:List UInt8):((⟨s.toArray⟩:ByteArray)==⟨t.toArray⟩)=(s==t):=by
 rw [Bool.eq_iff_iff]
 show (s.toArray==t.toArray)=true↔_
 simp
theorem sameNow_eq {k:TK} {x y:D} {vx vy:Value} (hx:Dm k x) (hy:Dm k y) {F:Fix} (rx:R F x vx) (ry:R F y vy) :
  Instr.sameNow (Ex k) vx vy=some (D.eqb x y)∧(D.eqb x y=true→vx=vy∧Instr.sameBits 10000 vy vx=true):=by
 unfold Dm at hx hy
 cases k<;>simp only at hx hy
 ·cases x<;>simp only [D.isInt] at hx
  cases y<;>simp only [D.isInt] at hy
  subst hx;subst hy
  simp only [R] at rx ry
  subst rx;subst ry
  refine ⟨by simp [Instr.sameNow,Ex,D.eqb],fun h=>?_⟩
  simp only [D.eqb,cQ] at h
  subst h
  exact ⟨rfl,by simp [Instr.sameBits]⟩
 ·cases x<;>simp only [D.isStr] at hx
  cases y<;>simp only [D.isStr] at hy
  simp only [R] at rx ry
  subst rx;subst ry
  refine ⟨by
   simp only [Instr.sameNow,Ex,D.eqb,aZ]
   exact bytesBeq _ _,fun h=>?_⟩
  simp only [D.eqb,cQ] at h
  subst h
  refine ⟨rfl,?_⟩
  show ((_:ByteArray)==_)=true
  rw [bytesBeq]
  exact beq_self_eq_true _
theorem R.key_fun {k:TK} {x:D} (hx:Dm k x) {F:Fix} {u v:Value} (h1:R F x u) (h2:R F x v):u=v:=by
 unfold Dm at hx
 cases k<;>simp only at hx
 ·exact (h1.of_int hx).trans (h2.of_int hx).symm
 ·exact (h1.of_str hx).trans (h2.of_str hx).symm
theorem mHas_key {k:TK} {x:D} {vx:Value} {F:Fix} (hx:Dm k x):∀ {es:List MapEntry} {ks:List D},D8 k ks→R F x vx→Rs F ks (es.map MapEntry.key)→mHas x ks=false→∀ e∈es,e.key≠vx
 | [],_,_,_,_,_,_,he=>by cases he
 | e::es,[],_,_,hr,_,_,_=>by simp [Rs] at hr
 | e::es,y::ks,hk,rx,hr,hh,e',he=>by
  simp only [D8] at hk
  simp only [List.map_cons,Rs] at hr
  obtain ⟨v,r,hvr,h1,h2⟩:=hr
  simp only [List.cons.injEq] at hvr
  obtain ⟨rfl,rfl⟩:=hvr
  simp only [mHas,Bool.or_eq_false_iff] at hh
  rcases List.mem_cons.1 he with rfl|he
  ·intro e0
   have hs:=(sameNow_eq hx hk.1 rx h1).1
   rw [hh.1,e0] at hs
   have:Instr.sameNow (Ex k) vx vx=some true:=(sameNow_eq hx hx rx rx).1.trans (by rw [D.eqb_self hx])
   rw [this] at hs
   cases hs
  ·exact mHas_key hx hk.2 rx h2 hh.2 e' he
theorem findNow_no {k:TK} {x:D} {vx:Value} {F:Fix} (hx:Dm k x) (rx:R F x vx):∀ {es:List MapEntry} {ks:List D} (n:Nat),D8 k ks→Rs F ks (es.map MapEntry.key)→mHas x ks=false→Instr.findNow (Ex k) vx es n=some none
 | [],_,_,_,_,_=>rfl
 | e::es,[],_,_,hr,_=>by simp [Rs] at hr
 | e::es,y::ks,n,hk,hr,hh=>by
  simp only [D8] at hk
  simp only [List.map_cons,Rs] at hr
  obtain ⟨v,r,hvr,h1,h2⟩:=hr
  simp only [List.cons.injEq] at hvr
  obtain ⟨rfl,rfl⟩:=hvr
  simp only [mHas,Bool.or_eq_false_iff] at hh
  have hs:=(sameNow_eq hx hk.1 rx h1).1
  rw [hh.1] at hs
  rw [Instr.findNow,hs]
  exact findNow_no hx rx (n+1) hk.2 h2 hh.2
theorem findNow_yes {k:TK} {x z y:D} {vx vy:Value} {F:Fix} (hx:Dm k x) (rx:R F x vx) (ry:R F y vy):∀ {es:List MapEntry} {ks vs:List D} (n:Nat),D8 k ks→Rs F ks (es.map MapEntry.key)→Rs F vs (es.map MapEntry.val)→mHas x ks=true →
  ∃ (j:Nat) (e:MapEntry),es[j]?=some e∧Instr.findNow (Ex k) vx es n=some (some (n+j,e.val))∧Instr.sameBits 10000 e.key vx=true∧R F (mGet x z ks vs) e.val ∧
   Rs F ks ((es.modify j fun e=>{ e with key:=vx,val:=vy }).map MapEntry.key)∧Rs F (mSetV x y ks vs) ((es.modify j fun e=>{ e with key:=vx,val:=vy }).map MapEntry.val)∧∀ e':MapEntry,es[j]?=some e'→vx=e'.key
 | [],[],_,_,_,_,_,hh=>by simp [mHas] at hh
 | [],_::_,_,_,_,hr,_,_=>by simp [Rs] at hr
 | e::es,[],_,_,_,hr,_,_=>by simp [Rs] at hr
 | e::es,d::ks,[],_,_,_,hv,_=>by simp [Rs] at hv
 | e::es,d::ks,u::vs,n,hk,hr,hv,hh=>by
  simp only [D8] at hk
  simp only [List.map_cons,Rs] at hr hv
  obtain ⟨v,r,hvr,h1,h2⟩:=hr
  obtain ⟨v',r',hvr',h1',h2'⟩:=hv
  simp only [List.cons.injEq] at hvr hvr'
  obtain ⟨rfl,rfl⟩:=hvr
  obtain ⟨rfl,rfl⟩:=hvr'
  obtain ⟨hs,hsame⟩:=sameNow_eq hx hk.1 rx h1
  cases hb:D.eqb x d with
  | true =>
   rw [hb] at hs
   obtain ⟨e1,e2⟩:=hsame hb
   have hxd:=D.eqb_key hx hk.1 hb
   refine ⟨0,e,rfl,by rw [Instr.findNow,hs];rfl,e2,?_,?_,?_,fun e'' he''=>by
    simp only [List.getElem?_cons_zero,aZ] at he''
    subst he''
    exact R.key_fun hx rx (by rw [hxd];exact h1)⟩
   ·simp only [mGet,hb,cond_true];exact h1'
   ·simp only [List.modify_zero_cons,List.map_cons,Rs]
    exact ⟨vx,_,rfl,hxd▸rx,h2⟩
   ·simp only [mSetV,hb,cond_true,List.modify_zero_cons,List.map_cons,Rs]
    exact ⟨vy,_,rfl,ry,h2'⟩
  | false =>
   rw [hb] at hs
   simp only [mHas,hb,Bool.false_or] at hh
   obtain ⟨j,e',q1,q2,q3,q4,q5,q6,q7⟩:=findNow_yes (z:=z) hx rx ry (n+1) hk.2 h2 h2' hh
   refine ⟨j+1,e',by simpa using q1,by rw [Instr.findNow,hs];simp only;rw [q2,show n+1+j=n+(j+1) by omega],q3,?_,?_,?_,fun e'' he''=>q7 e'' (by simpa using he'')⟩
   ·simp only [mGet,hb,cond_false];exact q4
   ·simp only [List.modify_succ_cons,List.map_cons,Rs]
    exact ⟨_,_,rfl,h1,q5⟩
   ·simp only [mSetV,hb,cond_false,List.modify_succ_cons,List.map_cons,Rs]
    exact ⟨_,_,rfl,h1',q6⟩
theorem mSetV_new {x v:D}:∀ {ks vs:List D},ks.length=vs.length→mHas x ks=false→mSetV x v ks vs=vs++[v]
 | [],[],_,_=>rfl
 | [],_::_,h,_=>by simp at h
 | _::_,[],h,_=>by simp at h
 | y::ks,u::vs,h,hh=>by
  simp only [mHas,Bool.or_eq_false_iff] at hh
  simp only [mSetV,hh.1,cond_false,mSetV_new (ks:=ks) (vs:=vs) (by simpa using h) hh.2,List.cons_append]
theorem mGet_none {x z:D}:∀ {ks vs:List D},mHas x ks=false→mGet x z ks vs=z
 | [],_,_=>by cases ‹List D›<;>rfl
 | _::_,[],_=>rfl
 | y::ks,u::vs,hh=>by
  simp only [mHas,Bool.or_eq_false_iff] at hh
  simp only [mGet,hh.1,cond_false]
  exact mGet_none hh.2
theorem key_under (T:B8 P C.τ) {kt:Nat} {x:D} (h:Dm (C.τ kt).kind x):P.underlying kt=some (Ex (C.τ kt).kind):=by
 cases hk:(C.τ kt).kind with
 | int k =>
  obtain ⟨d,hd,hkd⟩:=T.kind hk rfl
  simp only [TK.is] at hkd
  subst hkd
  exact hd
 | str =>
  obtain ⟨d,hd,hkd⟩:=T.kind hk rfl
  simp only [TK.is] at hkd
  subst hkd
  exact hd
 | _=>rw [hk] at h;exact h.elim
theorem I4 {kt:Nat} {k:TK} {x:D} {v:Value} {b:Bool} (hd:P.underlying kt=some (Ex k)) (hx:Dm k x) {F:Fix} (rx:R F x v):(Instr.checkKey b 10000 kt v).run P w=.ok () w:=by
 unfold Dm at hx
 unfold Instr.checkKey
 cases k<;>simp only at hx
 ·have:=rx.of_int hx
  subst this
  simp only [Sem.run_bind,run_underlying hd,Result.andThen_ok,Ex]
  rfl
 ·have:=rx.of_str hx
  subst this
  simp only [Sem.run_bind,run_underlying hd,Result.andThen_ok,Ex]
  rfl
theorem run_findKey {kt:Nat} {k:TK} {v:Value} {es:List MapEntry} {r:Option (Nat×Value)} (hd:P.underlying kt=some (Ex k)) (h:Instr.findNow (Ex k) v es 0=some r):(Instr.findKey kt v es).run P w=.ok r w:=by
 simp [Instr.findKey,run_underlying hd,h]
theorem run_mapRes (T:B8 P C.τ) {t kt et:Nat} (ht:P.underlying t=some (.map kt et)) (h:SRg base pass F0 m G st a w) {b:Nat} {es:Array MapEntry} {cl:Nat} (hb:w.heap[b]?=some (.map es cl)) {ks vs:List D} {i:D} {vi:Value} {ok:Bool} {c:Prop} {z:AV} {os:Gb}
  (rk:Rs ⟨w,m⟩ ks (es.toList.map MapEntry.key)) (rv:Rs ⟨w,m⟩ vs (es.toList.map MapEntry.val)) (ri:R ⟨w,m⟩ i vi) (hh:mapRes C kt et ks vs i ok st.objs=some (c,z,os)) (hc:c) :
  Rv P base pass F0 a st.tmps (Instr.lookup t (.map (some b)) vi ok) w z os:=by
 have common:∀ ag,C.ag et=some ag→Dm (C.τ kt).kind i→D8 (C.τ kt).kind ks→∃ u,(Instr.lookup t (.map (some b)) vi ok).run P w=.ok (if ok then .tuple #[u,.bool (mHas i ks)] else u) w∧R ⟨w,m⟩ (mGet i (C.τ et).zd ks vs) u:=by
  intro ag hag h1 h2
  have hd:=key_under T h1
  obtain ⟨ii,zv,z1,z2,z3,z4,_,z6,_⟩:=(Ctx.ag_some T hag).info
  have hz:(zeroValue et).run P w=.ok zv w:=by simp [zeroValue,typeInfo,z1,z4]
  cases hm:mHas i ks with
  | true =>
   obtain ⟨j,e,q1,q2,_,q4,_,_,_⟩:=findNow_yes (z:=(C.τ et).zd) (y:=i) h1 ri ri 0 h2 rk rv hm
   refine ⟨e.val,?_,q4⟩
   have hf:=run_findKey (w:=w) hd q2
   simp [Instr.lookup,run_underlying ht,getObj,hb,Sem.run,I4 hd h1 ri,hf]
  | false =>
   have hf:=run_findKey (w:=w) hd (findNow_no h1 ri 0 h2 rk hm)
   refine ⟨zv,?_,by rw [mGet_none hm];exact z6 _⟩
   simp [Instr.lookup,run_underlying ht,getObj,hb,Sem.run,I4 hd h1 ri,hf,hz]
 unfold mapRes at hh
 split at hh
 ·next ag hag =>
  cases ok with
  | true =>
   simp only [aZ,aJ] at hh
   obtain ⟨rfl,rfl,rfl⟩:=hh
   obtain ⟨u,r1,r2⟩:=common ag hag hc.1 hc.2
   refine Gv h r1 ?_
   simp only [RA,R,if_true]
   exact ⟨[u,.bool (mHas i ks)],by simp,by simp only [Rs,R];exact ⟨_,_,rfl,r2,_,_,rfl,rfl,rfl⟩⟩
  | false =>
   simp only [aZ,aJ] at hh
   obtain ⟨rfl,rfl,rfl⟩:=hh
   obtain ⟨u,r1,r2⟩:=common ag hag hc.1 hc.2
   exact Gv h (v:=u) (by simpa using r1) (by simpa only [RA] using r2)
 ·cases hh
theorem lookup_sound (T:B8 P C.τ) (h:SRg base pass F0 m G st a w) {t:Nat} {x ix:AV} {v vi:Value} {ok:Bool} {c:Prop} {z:AV} {os:Gb} (hx:RA ⟨w,m⟩ G (lk st.objs) x v) (hix:RA ⟨w,m⟩ G (lk st.objs) ix vi)
  (hh:hLookup C t x ix ok st.objs=some (c,z,os)) (hc:c):Rv P base pass F0 a st.tmps (Instr.lookup t v vi ok) w z os:=by
 unfold hLookup at hh
 split at hh
 ·next kt et i hk =>
  obtain ⟨d,hd,hkd⟩:=T.kind hk rfl
  simp only [TK.is] at hkd
  subst hkd
  simp only [RA] at hix
  split at hh
  ·next ks vs =>
   simp only [RA,R] at hx
   obtain ⟨b,es,cl,rfl,hb,_,rk,rv,_⟩:=hx
   exact run_mapRes T hd h hb rk rv hix hh hc
  ·next j =>
   split at hh
   ·next ks vs fr hl =>
    simp only [RA,hl] at hx
    obtain ⟨b,g1,rfl⟩:=hx.2 rfl
    have hob:=h.objs j _ hl
    simp only [Hd] at hob
    obtain ⟨b',es,cl,h1,hb,rk,rv,_⟩:=hob
    rw [g1] at h1
    injection h1 with h1
    subst h1
    exact run_mapRes T hd h hb rk rv hix hh hc
   ·cases hh
  ·cases hh
 ·cases hh
theorem SRg.putMap (h:SRg base pass F0 m G st a w) {i b:Nat} {ks vs ks' vs':List D} {es es':Array MapEntry} {cl cl':Nat} (hi:lk st.objs i=some (.mp ks vs false)) (hb:G.γ i=some b) (hg:w.heap[b]?=some (.map es cl)) (hm:m b=0)
  (hk:Rs ⟨w,m⟩ ks' (es'.toList.map MapEntry.key)) (hv:Rs ⟨w,m⟩ vs' (es'.toList.map MapEntry.val)) (hst:Go.MapKept.Stamped es' cl') :
  SRg base pass F0 m G ⟨st.tmps,upd st.objs i (.mp ks' vs' false)⟩ a { w with heap:=w.heap.setIfInBounds b (.map es' cl') }:=by
 have hlt:b<w.heap.size:=(Array.getElem?_eq_some_iff.1 hg).1
 have same:∀ b',b'≠b→(w.heap.setIfInBounds b (.map es' cl'))[b']?=w.heap[b']?:=fun b' hne=>by simp [Ne.symm hne]
 have here:(w.heap.setIfInBounds b (.map es' cl'))[b]?=some (.map es' cl'):=by simp [hlt]
 have hF:Fix.le ⟨w,m⟩ ⟨{ w with heap:=w.heap.setIfInBounds b (.map es' cl') },m⟩:=by
  refine ⟨fun b'=>⟨cZ _,fun off ho=>?_⟩,fun b' es2 c2 hmb hbb=>?_⟩
  ·by_cases hbb:b'=b
   ·subst hbb;simp only [hm] at ho;omega
   ·exact World.cell?_of_block (same b' hbb)
  ·by_cases hbb2:b'=b
   ·subst hbb2;simp only [hm] at hmb;omega
   ·show (w.heap.setIfInBounds b (.map es' cl'))[b']?=_
    rw [same b' hbb2];exact hbb
 have hmm:=h.mine i _ b hi rfl hb
 refine (h.obj i (.mp ks' vs' false) (G':=G) (m':=m) hF (fun _ _=>⟨rfl,rfl⟩) (fun o1 h1=>by
   rw [hi] at h1
   injection h1 with h1
   subst h1
   exact ⟨fun _=>⟨rfl,rfl⟩,fun s els' k' he=>by cases he⟩) (fun _=>by
   simp only [Hd]
   exact ⟨b,es',cl',hb,here,Rs.mono hF hk,Rs.mono hF hv,by simpa using hm,hst⟩)
  (fun j oj hji hj hoj b' hb'=>by
   have:b'≠b:=fun e=>hji (h.apart j i oj _ b hj hi hoj rfl (e▸hb') hb)
   exact ⟨same b' this,rfl⟩)
  (fun _ b' hb'=>by
   rw [hb] at hb'
   injection hb' with hb'
   subst hb'
   exact ⟨by simpa using hmm.1,hmm.2,fun j oj hji hj hoj e=>hji (h.apart j i oj _ b hj hi hoj rfl e hb)⟩)
  ⟨rfl,rfl,rfl,by simp,fun b' hlt' hp=>same b' (fun e=>by
   subst e
   rcases hmm.2 with h1|h1
   ·omega
   ·exact hp h1)⟩ (fun _ _ _=>rfl) (fun b' hge=>h.new b' (by simpa using hge))).2
theorem makeMap_sound (h:SRg base pass F0 m G st a w) {k t:Nat} {c:Prop} {z:AV} {os:Gb} (hh:hMakeMap k st.objs=some (c,z,os)):Rv P base pass F0 a st.tmps (Instr.makeMap t none) w z os:=by
 unfold hMakeMap at hh
 split at hh
 ·next hk =>
  simp only [aZ,aJ] at hh
  obtain ⟨rfl,rfl,rfl⟩:=hh
  obtain ⟨q1,q2,q3⟩:=h.fresh hk (.mp [] [] false) (.map #[] 0) undef (fun hg hF=>by
   simp only [Hd]
   exact ⟨w.heap.size,#[],0,by simp,heap_alloc_new w _,by simp [Rs],by simp [Rs],h.new _ (cZ _),Go.MapKept.stamped_empty 0⟩)
  refine ⟨.map (some w.heap.size),_,m,_,by simp [Instr.makeMap,newObj,Sem.run],q3,?_⟩
  simp only [RA,Bm,if_true]
  exact ⟨rfl,fun _=>⟨_,rfl,rfl⟩⟩
 ·cases hh
theorem mapUpdate_sound (T:B8 P C.τ) (h:SRg base pass F0 m G st a w) {t:Nat} {x ix y:AV} {v vi vy:Value} {c:Prop} {z:AV} {os:Gb} (hx:RA ⟨w,m⟩ G (lk st.objs) x v) (hix:RA ⟨w,m⟩ G (lk st.objs) ix vi) (hy:RA ⟨w,m⟩ G (lk st.objs) y vy)
  (hh:hMapUpdate C t x ix y st.objs=some (c,z,os)) (hc:c):z=.dead∧Stores P base pass F0 a st.tmps (Instr.mapUpdate t v vi vy) w os:=by
 unfold hMapUpdate at hh
 split at hh
 ·next kt et i j hk =>
  obtain ⟨d,hd,hkd⟩:=T.kind hk rfl
  simp only [TK.is] at hkd
  subst hkd
  simp only [RA] at hix
  split at hh
  ·next c1 yd o1 hpur =>
   split at hh
   ·next ks vs hl =>
    simp only [aZ,aJ] at hh
    obtain ⟨rfl,rfl,rfl⟩:=hh
    obtain ⟨hc1,h1,h2⟩:=hc
    obtain ⟨m1,k1,k2,k3,ry⟩:=R8 h hpur hc1 hy
    have hx':=RA.mono k2 k3 hx
    simp only [RA,hl] at hx'
    obtain ⟨b,g1,rfl⟩:=hx'.2 rfl
    have hob:=k1.objs j _ hl
    simp only [Hd] at hob
    obtain ⟨b',es,cl,e1,hb,rk,rv,hmb,hst⟩:=hob
    rw [g1] at e1
    injection e1 with e1
    subst e1
    have hmb':m1 b=0:=by simpa using hmb
    have ri:=R.mono k2 hix
    have hkd:=key_under T h1
    refine ⟨rfl,?_⟩
    have gobj:(getObj b).run P w=.ok (.map es cl) w:=by simp [getObj,Sem.run,hb]
    have sobj:∀ o,(setObj b o).run P w=.ok () { w with heap:=w.heap.setIfInBounds b o }:=fun o=>by simp [setObj,Sem.run,hb]
    cases hm:mHas i ks with
    | true =>
     obtain ⟨jj,e,q1,q2,q3,_,q5,q6,q7⟩:=findNow_yes (z:=yd) h1 ri ry 0 h2 rk rv hm
     have hf:=run_findKey (P:=P) (w:=w) hkd q2
     have hse:(es[jj]?).map MapEntry.key=some e.key:=by
      rw [←Array.getElem?_toList,q1];rfl
     have hput:=k1.putMap (es':=es.modify jj fun e=>{ e with key:=vi,val:=vy }) (cl':=cl) hl g1 hb hmb' (by rw [Array.toList_modify];exact q5) (by rw [Array.toList_modify];exact q6) (Go.MapKept.stamped_modify hst jj _ (fun _ _=>rfl) (fun e' _ he'=>q7 e' (by rw [Array.getElem?_toList];exact he')))
     refine ⟨_,m1,G,?_,by simpa only [mSetK,hm,cond_true] using hput⟩
     have hkt:(Instr.keyThatStays (((es[0+jj]?).map (·.key)).getD vi) vi).run P w=.ok vi w:=by
      rw [Nat.zero_add,show (es[jj]?).map (·.key)=some e.key from hse]
      simp [Instr.keyThatStays,q3]
     simp only [Nat.zero_add] at hf hkt
     simp [Instr.mapUpdate,run_underlying hd,gobj,I4 hkd h1 ri,hf,hkt,sobj,Result.andThen]
    | false =>
     have hf:=run_findKey (P:=P) (w:=w) hkd (findNow_no h1 ri 0 h2 rk hm)
     have hlen:ks.length=vs.length:=by
      have q1:=rk.length
      have q2:=rv.length
      simp only [bV] at q1 q2
      omega
     have hput:=k1.putMap (ks':=ks++[i]) (vs':=vs++[yd]) (es':=es.push { key:=vi,val:=vy,born:=cl }) (cl':=cl+1) hl g1 hb hmb' (by
      rw [Array.toList_push,List.map_append]
      exact Rs.append rk (by simp only [List.map_cons,List.map_nil,Rs];exact ⟨_,_,rfl,ri,rfl⟩)) (by
      rw [Array.toList_push,List.map_append]
      exact Rs.append rv (by simp only [List.map_cons,List.map_nil,Rs];exact ⟨_,_,rfl,ry,rfl⟩))
      (Go.MapKept.stamped_push hst fun x hxm=>mHas_key h1 h2 ri rk hm x hxm)
     refine ⟨_,m1,G,?_,by simpa only [mSetK,hm,cond_false,mSetV_new hlen hm] using hput⟩
     simp [Instr.mapUpdate,run_underlying hd,gobj,I4 hkd h1 ri,hf,sobj,Result.andThen]
   ·cases hh
  ·cases hh
 ·cases hh
end
def OwnV (F:Fix) (s:Nat) (l:List D) (v:Value):Prop :=
 (v=.slice none 0 0∧l=[])∨∃ (b cap:Nat) (cs:Array Value) (t:TypeId),v=.slice (some ⟨b,0,none⟩) l.length cap∧l.length≤cap∧cap≤maxLen ∧
  F.w.heap[b]?=some (.cells cs t (0,0))∧cs.size=cap*s∧RE F s l (cs.toList.take (l.length*s))∧F.m b=0∧0<s
def CVR (F:Fix):CV→Value→Prop
 | .d x,v=>R F x v
 | .own s l,v=>OwnV F s l v
 | .tup _,_=>False
def Dc (F:Fix):List CV→List Value→Prop
 | [],vs=>vs=[]
 | x::l,vs=>∃ v r,vs=v::r∧CVR F x v∧Dc F l r
def Hb:List CV→List Value→List Nat
 | .own _ _::l,v::vs=>v.ownBlock.toList++Hb l vs
 | _::l,_::vs=>Hb l vs
 | _,_=>[]
def Res (F:Fix) (base:Nat) (pass:Nat→Prop):CV→Value→Prop
 | .tup l,v=>∃ cs:List Value,v=.tuple cs.toArray∧Dc F l cs∧(Hb l cs).Nodup∧∀ b∈Hb l cs,base≤b∨pass b
 | x,v=>Dc F [x] [v]∧∀ b∈Hb [x] [v],base≤b∨pass b
def Sound (P:Program) (f:FuncId) (con:Con):Prop :=
 ∀ (m:Nat→Nat) (w:World) (cvs:List CV) (vs:List Value),con.pre cvs→Dc ⟨w,m⟩ cvs vs→(Hb cvs vs).Nodup→(∀ b,w.heap.size≤b→m b=0) →
  Calls P f vs.toArray w fun e w'=>∃ v m',e=.returned v∧Frame w.heap.size (·∈Hb cvs vs) w w'∧(∀ b,b<w.heap.size→b∉Hb cvs vs→m' b=m b)∧(∀ b,w'.heap.size≤b→m' b=0) ∧
   Res ⟨w',m'⟩ w.heap.size (·∈Hb cvs vs) (con.fn cvs) v
def Enters (P:Program) (f:FuncId):Prop:=∀ (args:Array Value) (w:World),(callFunc f args).run P w=.ok (.enter f args) w
def mkFrom:Nat→List Obj→Gb
 | _,[]=>[]
 | n,o::l=>(n,o)::mkFrom (n+1) l
def Bc (l:List Obj):Gb:=mkFrom 90000 l
def Obj.tied (o:Gb):Obj→Prop
 | .box _ cells=>keptAll o cells
 | .hole ..=>False
 | _=>True
def tiedAll (o:Gb):List Obj→Prop
 | []=>True
 | x::l=>x.tied o∧tiedAll o l
def Fv:List Obj→Prop
 | []=>True
 | .row _ _ k::l=>k=0∧Fv l
 | .mp _ _ f::l=>f=false∧Fv l
 | _::l=>Fv l
def Tied (args:List AV) (l:List Obj):Prop:=keptAll (Bc l) args∧tiedAll (Bc l) l
def passB (G:Gh) (l:List Obj) (b:Nat):Prop:=∃ i o,lk (Bc l) i=some o∧o.owns=true∧G.γ i=some b
def SoundB (P:Program) (f:FuncId) (bc:BCon):Prop:=∀ x,bc.ok x→Tied (bc.args x) (bc.objs x)∧Fv (bc.objs x)∧Tied [] (bc.post x)∧(bc.objs x).length≤(bc.post x).length ∧
 ∀ (m:Nat→Nat) (w:World) (G:Gh) (vs:List Value),SRg w.heap.size (passB G (bc.objs x)) ⟨⟨w,m⟩,G,lk (Bc (bc.objs x))⟩ m G ⟨bc.args x,Bc (bc.objs x)⟩ ⟨vs.toArray,[]⟩ w →
  Calls P f vs.toArray w fun e w'=>∃ v m' G',e=.returned v∧RA ⟨w',m'⟩ G' (lk (Bc (bc.post x))) (bc.rv x) v∧SRg w.heap.size (passB G (bc.objs x)) ⟨⟨w,m⟩,G,lk (Bc (bc.objs x))⟩ m' G' ⟨[],Bc (bc.post x)⟩ ⟨#[],[]⟩ w'
def Gu (P:Program) (C:Ctx):Prop:=B8 P C.τ∧(∀ f con,C.Γ f=some con→Enters P f∧Sound P f con)∧P.follows .mixedOrders=true∧∀ f bc,C.Δ f=some bc→Enters P f∧SoundB P f bc
section
variable {P:Program} {C:Ctx} {G:Gh}
variable {base:Nat} {pass:Nat→Prop} {F0:Anc} {m:Nat→Nat} {st:AS} {a:Act} {w:World}
theorem OwnV.lt {F:Fix} {s:Nat} {l:List D} {v:Value} (h:OwnV F s l v) {b:Nat} (hb:v.ownBlock=some b):b<F.w.heap.size∧F.m b=0:=by
 rcases h with ⟨rfl,_⟩|⟨b',cap,cs,t,rfl,_,_,h3,_,_,h6,_⟩
 ·simp [Value.ownBlock] at hb
 ·simp [Value.ownBlock] at hb
  subst hb
  refine ⟨?_,h6⟩
  rcases Nat.lt_or_ge b' F.w.heap.size with hlt|hge
  ·exact hlt
  ·rw [Array.getElem?_eq_none hge] at h3;cases h3
theorem SRg.behind (h:SRg base pass F0 m G st a w) {m':Nat→Nat} {w':World} (S:List Nat) (hf:Frame w.heap.size (·∈S) w w') (hm:∀ b,b<w.heap.size→b∉S→m' b=m b) (hnew:∀ b,w'.heap.size≤b→m' b=0)
  (hS:∀ b∈S,m b=0∧(base≤b∨pass b)∧∀ i oi,lk st.objs i=some oi→oi.owns=true→G.γ i≠some b) :
  Fix.le ⟨w,m⟩ ⟨w',m'⟩∧SRg base pass F0 m' G st a w':=by
 have hF:Fix.le ⟨w,m⟩ ⟨w',m'⟩:=by
  refine ⟨fun b=>?_,fun b es c hmb hbb=>?_⟩
  rotate_left
  ·have hbS:b∉S:=fun hbS=>by
    have:=(hS b hbS).1
    simp only at hmb
    omega
   rcases Nat.lt_or_ge b w.heap.size with hlt|hge
   ·rw [hf.block b hlt hbS];exact hbb
   ·have:=h.new b hge
    simp only at hmb
    omega
  by_cases hbS:b∈S
  ·have:=(hS b hbS).1
   exact ⟨by simp only [this];exact Nat.zero_le _,fun off ho=>by simp only [this] at ho;omega⟩
  ·rcases Nat.lt_or_ge b w.heap.size with hlt|hge
   ·exact ⟨by simp only;rw [hm b hlt hbS];exact cZ _,fun off _=>World.cell?_of_block (a:=⟨b,off,none⟩) (hf.block b hlt hbS)⟩
   ·have:=h.new b hge
    exact ⟨by simp only;omega,fun off ho=>by simp only at ho;omega⟩
 refine ⟨hF,?_⟩
 constructor
 ·exact h.defers
 ·exact RAs.mono hF (Db.refl _ _) h.tmps
 ·intro i o hi
  refine Hd.mono hF (Db.refl _ _) rfl rfl (fun ho b hbb=>?_) (h.objs i o hi)
  have hlt:=(h.mine i o b hi ho hbb).1
  have hnS:b∉S:=fun hbS=>(hS b hbS).2.2 i o hi ho hbb
  exact ⟨hf.block b hlt hnS,hm b hlt hnS⟩
 ·exact h.apart
 ·intro i o b hi ho hbb
  obtain ⟨q1,q2⟩:=h.mine i o b hi ho hbb
  exact ⟨Nat.lt_of_lt_of_le q1 hf.size,q2⟩
 ·refine h.frame.trans ⟨hf.os,hf.tape,hf.output,hf.size,fun b hbb hp=>hf.block b (Nat.lt_of_lt_of_le hbb h.small) (fun hbS=>?_)⟩
  rcases (hS b hbS).2.1 with h1|h1
  ·omega
  ·exact hp h1
 ·intro b hbb hp
  refine (hm b (Nat.lt_of_lt_of_le hbb h.small) (fun hbS=>?_)).trans (h.old b hbb hp)
  rcases (hS b hbS).2.1 with h1|h1
  ·omega
  ·exact hp h1
 ·exact hnew
 ·exact Nat.le_trans h.small hf.size
 ·exact h.lent
theorem SRg.adopt (h:SRg base pass F0 m G st a w) {k s:Nat} {l:List D} {v:Value} (hk:lk st.objs k=none) (hv:OwnV ⟨w,m⟩ s l v)
  (hb:∀ b,v.ownBlock=some b→(base≤b∨pass b)∧∀ i oi,lk st.objs i=some oi→oi.owns=true→G.γ i≠some b) :
  ∃ G',Db G (lk st.objs) G' (lk (upd st.objs k (.row s l 0)))∧SRg base pass F0 m G' ⟨st.tmps,upd st.objs k (.row s l 0)⟩ a w∧RA ⟨w,m⟩ G' (lk (upd st.objs k (.row s l 0))) (.sl k l.length) v ∧
   (∀ j,j≠k→G'.γ j=G.γ j)∧(∀ b,G'.γ k=some b→v.ownBlock=some b):=by
 have hlt:=fun b hbb=>hv.lt (b:=b) hbb
 have hone:v.oneCell'=true:=by
  rcases hv with ⟨rfl,_⟩|⟨_,_,_,_,rfl,_⟩<;>rfl
 obtain ⟨q1,q2⟩:=h.obj k (.row s l 0) (w':=w) (m':=m) (G':=⟨fun j=>if j=k then v.ownBlock else G.γ j,fun j=>if j=k then v else G.hd j⟩) (Fix.le_refl _)
  (fun j hj=>by simp [hj]) (fun o ho=>by rw [hk] at ho;cases ho) (fun _=>by
   simp only [Hd]
   rcases hv with ⟨rfl,rfl⟩|⟨b,cap,cs,t,rfl,h1,h2,h3,h4,h5,h6,_⟩
   ·exact .inl (by simp [Value.ownBlock])
   ·exact .inr ⟨b,cap,cs,t,by simp [Value.ownBlock],by simp,h1,h2,h3,h4,h5,by rw [Nat.zero_mul];exact h6,Nat.zero_le _⟩)
  (fun _ _ _ _ _ _ _=>⟨rfl,rfl⟩) (fun _ b hbb=>by
   simp only [if_true] at hbb
   obtain ⟨g1,g2⟩:=hb b hbb
   exact ⟨(hlt b hbb).1,g1,fun j o _ hj ho=>g2 j o hj ho⟩)
  (Frame.refl _ _ _) (fun _ _ _=>rfl) h.new
 refine ⟨_,q1,q2,?_,fun j hj=>by simp [hj],fun b hbb=>by simpa using hbb⟩
 simp only [RA,Bm,if_true]
 exact ⟨hone,cZ _,fun _=>trivial⟩
theorem R_of_OwnV_nil {F:Fix} {s:Nat}:OwnV F s [] (.slice none 0 0):=.inl ⟨rfl,rfl⟩
theorem OwnV.mono {F F':Fix} {s:Nat} {l:List D} {v:Value} (h:F.le F') (hb:∀ b,v.ownBlock=some b→F'.w.heap[b]?=F.w.heap[b]?∧F'.m b=F.m b) (hv:OwnV F s l v):OwnV F' s l v:=by
 rcases hv with h1|⟨b,cap,cs,t,rfl,h1,h2,h3,h4,h5,h6,h7⟩
 ·exact .inl h1
 ·obtain ⟨q1,q2⟩:=hb b (by simp [Value.ownBlock])
  exact .inr ⟨b,cap,cs,t,rfl,h1,h2,by rw [q1];exact h3,h4,RE.mono h h5,by rw [q2];exact h6,h7⟩
theorem inArgs_sound:∀ {ms:List Bool} {xs:List AV} {c:Prop} {cvs:List CV} {os:Gb} {st:AS} {m:Nat→Nat} {vs:List Value},SRg base pass F0 m G st a w→Sk C ms xs st.objs=some (c,cvs,os)→c →
  RAs ⟨w,m⟩ G (lk st.objs) xs vs→∃ m',SRg base pass F0 m' G ⟨st.tmps,os⟩ a w∧PurOk G st.objs os ⟨w,m⟩ ⟨w,m'⟩∧Dc ⟨w,m'⟩ cvs vs∧(Hb cvs vs).Nodup ∧
   ∀ b∈Hb cvs vs,(base≤b∨pass b)∧(∃ i oi,lk st.objs i=some oi∧oi.owns=true∧G.γ i=some b)∧∀ i oi,lk os i=some oi→oi.owns=true→G.γ i≠some b:=by
 intro ms xs
 induction xs generalizing ms with
 | nil =>
  intro c cvs os st m vs h hi hc hr
  have hi':some (True,([]:List CV),st.objs)=some (c,cvs,os):=by cases ms<;>simpa [Sk] using hi
  simp only [aZ,aJ] at hi'
  obtain ⟨rfl,rfl,rfl⟩:=hi'
  simp only [RAs] at hr
  subst hr
  exact ⟨m,h,PurOk.refl _ _ _,by simp [Dc],by simp [Hb],by simp [Hb]⟩
 | cons x xs ih =>
  intro c cvs os st m vs h hi hc hr
  simp only [RAs] at hr
  obtain ⟨v,r,rfl,hx,hxs⟩:=hr
  have datum:∀ {ms':List Bool} {c1 c2:Prop} {y:D} {o1:Gb} {l:List CV},pur C.dp x st.objs=some (c1,y,o1)→Sk C ms' xs o1=some (c2,l,os)→c1∧c2 →
    ∃ m',SRg base pass F0 m' G ⟨st.tmps,os⟩ a w∧PurOk G st.objs os ⟨w,m⟩ ⟨w,m'⟩∧Dc ⟨w,m'⟩ (.d y::l) (v::r)∧(Hb (.d y::l) (v::r)).Nodup ∧
     ∀ b∈Hb (.d y::l) (v::r),(base≤b∨pass b)∧(∃ i oi,lk st.objs i=some oi∧oi.owns=true∧G.γ i=some b)∧∀ i oi,lk os i=some oi→oi.owns=true→G.γ i≠some b:=by
   intro ms' c1 c2 y o1 l hp hi2 hcc
   obtain ⟨m1,k1,k2,k3⟩:=pur_sound' h hp hcc.1 hx
   obtain ⟨m2,j1,j2,j3,j4,j5⟩:=ih (st:=⟨st.tmps,o1⟩) k1 hi2 hcc.2 (RAs.mono k2.le k2.goes hxs)
   refine ⟨m2,j1,k2.trans j2,?_,by simpa [Hb] using j4,fun b hb=>?_⟩
   ·simp only [Dc,CVR]
    exact ⟨v,r,rfl,k3.mono j2.le,j3⟩
   ·obtain ⟨q1,⟨i,oi,q2,q3,q4⟩,q5⟩:=j5 b (by simpa [Hb] using hb)
    obtain ⟨oj,p1,p2⟩:=k2.sub i oi q2 q3
    exact ⟨q1,⟨i,oj,p1,p2,q4⟩,q5⟩
  cases ms with
  | nil=>simp [Sk] at hi
  | cons b0 ms =>
   cases b0 with
   | false =>
    simp only [Sk] at hi
    split at hi
    ·next c1 y o1 hp =>
     split at hi
     ·next c2 l o2 hi3 =>
      simp only [aZ,aJ] at hi
      obtain ⟨rfl,rfl,rfl⟩:=hi
      exact datum hp hi3 hc
     ·cases hi
    ·cases hi
   | true =>
    cases x with
    | sl i n =>
     simp only [Sk] at hi
     split at hi
     ·next s els k hl =>
      split at hi
      ·next c2 l o2 hi2 =>
       simp only [aZ,aJ] at hi
       obtain ⟨rfl,rfl,rfl⟩:=hi
       obtain ⟨hc2,hn,hk0,hs0⟩:=hc
       subst hk0
       simp only [RA,hl] at hx
       have hv:=hx.2.2 hn
       have hok:=h.objs i _ hl
       simp only [Hd] at hok
       obtain ⟨q1,q2⟩:=h.obj i .gone (w':=w) (m':=m) (G':=G) (Fix.le_refl _) (fun _ _=>⟨rfl,rfl⟩) (fun o ho=>⟨by simp [Obj.isBox],by simp⟩) (fun _=>trivial)
        (fun _ _ _ _ _ _ _=>⟨rfl,rfl⟩) (fun ho=>by simp [Obj.owns] at ho) (Frame.refl _ _ _) (fun _ _ _=>rfl) h.new
       have pk:PurOk G st.objs (upd st.objs i .gone) ⟨w,m⟩ ⟨w,m⟩:=⟨Fix.le_refl _,q1,sub_upd hl rfl,fun _ _=>rfl⟩
       obtain ⟨m2,j1,j2,j3,j4,j5⟩:=ih (st:=⟨st.tmps,upd st.objs i .gone⟩) q2 hi2 hc2 (RAs.mono (Fix.le_refl _) q1 hxs)
       have free:∀ b,G.γ i=some b→∀ j oj,lk (upd st.objs i .gone) j=some oj→oj.owns=true→G.γ j≠some b:=by
        intro b hb j oj hj hoj hbj
        rw [Bm] at hj
        by_cases hji:j=i
        ·subst hji
         rw [if_pos rfl] at hj
         injection hj with hj
         subst hj
         simp [Obj.owns] at hoj
        ·rw [if_neg hji] at hj
         exact hji (h.apart j i oj _ b hj hl hoj rfl hbj hb)
       have free2:∀ b,G.γ i=some b→∀ j oj,lk o2 j=some oj→oj.owns=true→G.γ j≠some b:=by
        intro b hb j oj hj hoj
        obtain ⟨ok,p1,p2⟩:=j2.sub j oj hj hoj
        exact free b hb j ok p1 p2
       rcases hok with ⟨h1,h2,rfl,_⟩|⟨b,cap,cs,t,h1,h2,h3,h4,h5,h6,h7,h8,h9⟩
       ·rw [h2] at hv
        subst hv
        refine ⟨m2,j1,pk.trans j2,?_,by simpa [Hb,Value.ownBlock] using j4,fun b hb=>?_⟩
        ·simp only [Dc,CVR]
         exact ⟨_,r,rfl,R_of_OwnV_nil,j3⟩
        ·obtain ⟨p1,⟨i',oi,p2,p3,p4⟩,p5⟩:=j5 b (by simpa [Hb,Value.ownBlock] using hb)
         obtain ⟨oj,u1,u2⟩:=pk.sub i' oi p2 p3
         exact ⟨p1,⟨i',oj,u1,u2,p4⟩,p5⟩
       ·rw [h2] at hv
        subst hv
        have hm2:m2 b=m b:=j2.same b (fun j oj hj hoj=>free b h1 j oj hj hoj)
        have hown:OwnV ⟨w,m2⟩ s els (.slice (some ⟨b,0,none⟩) els.length cap):=.inr ⟨b,cap,cs,t,rfl,h3,h4,h5,h6,RE.mono j2.le h7,by simp only [hm2];simpa using h8,hs0⟩
        have hmine:=h.mine i _ b hl rfl h1
        refine ⟨m2,j1,pk.trans j2,?_,?_,fun b' hb'=>?_⟩
        ·simp only [Dc,CVR]
         exact ⟨_,r,rfl,hown,j3⟩
        ·simp only [Hb,Value.ownBlock,Option.toList,List.singleton_append,List.nodup_cons]
         refine ⟨fun hmem=>?_,j4⟩
         obtain ⟨_,⟨i',oi,p2,p3,p4⟩,_⟩:=j5 b hmem
         exact free b h1 i' oi p2 p3 p4
        ·simp only [Hb,Value.ownBlock,Option.toList,List.singleton_append,bQ] at hb'
         rcases hb' with rfl|hb'
         ·exact ⟨hmine.2,⟨i,_,hl,rfl,h1⟩,free2 b' h1⟩
         ·obtain ⟨p1,⟨i',oi,p2,p3,p4⟩,p5⟩:=j5 b' hb'
          obtain ⟨oj,u1,u2⟩:=pk.sub i' oi p2 p3
          exact ⟨p1,⟨i',oj,u1,u2,p4⟩,p5⟩
      ·cases hi
     ·cases hi
    | nils s =>
     simp only [Sk] at hi
     split at hi
     ·next c2 l o2 hi2 =>
      simp only [aZ,aJ] at hi
      obtain ⟨rfl,rfl,rfl⟩:=hi
      simp only [RA] at hx
      subst hx
      obtain ⟨m2,j1,j2,j3,j4,j5⟩:=ih h hi2 hc hxs
      refine ⟨m2,j1,j2,?_,by simpa [Hb,Value.ownBlock] using j4,fun b hb=>j5 b (by simpa [Hb,Value.ownBlock] using hb)⟩
      simp only [Dc,CVR]
      exact ⟨_,r,rfl,R_of_OwnV_nil,j3⟩
     ·cases hi
    | _=>simp [Sk] at hi
theorem outOne_sound (h:SRg base pass F0 m G st a w) {k:Nat} {x:CV} {v:Value} {y:AV} {os:Gb} (hx:CVR ⟨w,m⟩ x v) (hh:R9 k x st.objs=some (y,os))
  (hb:∀ b∈Hb [x] [v],(base≤b∨pass b)∧∀ i oi,lk st.objs i=some oi→oi.owns=true→G.γ i≠some b) :
  ∃ G',Db G (lk st.objs) G' (lk os)∧SRg base pass F0 m G' ⟨st.tmps,os⟩ a w∧RA ⟨w,m⟩ G' (lk os) y v ∧
   ∀ i oi b,lk os i=some oi→oi.owns=true→G'.γ i=some b→(∃ oj,lk st.objs i=some oj∧oj.owns=true∧G.γ i=some b)∨b∈Hb [x] [v]:=by
 cases x with
 | d x =>
  simp only [R9,aZ,aJ] at hh
  obtain ⟨rfl,rfl⟩:=hh
  exact ⟨G,Db.refl _ _,h,by simpa only [RA,CVR] using hx,fun i oi b hi ho hg=>.inl ⟨oi,hi,ho,hg⟩⟩
 | own s l =>
  simp only [R9] at hh
  split at hh
  ·next hk =>
   simp only [aZ,aJ] at hh
   obtain ⟨rfl,rfl⟩:=hh
   obtain ⟨G',q1,q2,q3,q4,q5⟩:=h.adopt hk hx (fun b hbb=>hb b (by simp [Hb,hbb]))
   refine ⟨G',q1,q2,q3,fun i oi b hi ho hg=>?_⟩
   by_cases hik:i=k
   ·subst hik
    exact .inr (by simp [Hb,q5 b hg])
   ·rw [Bm,if_neg hik] at hi
    rw [q4 i hik] at hg
    exact .inl ⟨oi,hi,ho,hg⟩
  ·cases hh
 | tup l=>simp [R9] at hh
theorem outAll_sound:∀ {l:List CV} {k:Nat} {ys:List AV} {vs:List Value} {os:Gb} {G:Gh} {st:AS},SRg base pass F0 m G st a w→Dc ⟨w,m⟩ l vs→E1 k l st.objs=some (ys,os)→(Hb l vs).Nodup →
  (∀ b∈Hb l vs,(base≤b∨pass b)∧∀ i oi,lk st.objs i=some oi→oi.owns=true→G.γ i≠some b) →
  ∃ G',Db G (lk st.objs) G' (lk os)∧SRg base pass F0 m G' ⟨st.tmps,os⟩ a w∧RAs ⟨w,m⟩ G' (lk os) ys vs
 | [],k,ys,vs,os,G,st,h,hc,hh,_,_=>by
  simp only [E1,aZ,aJ] at hh
  obtain ⟨rfl,rfl⟩:=hh
  simp only [Dc] at hc
  exact ⟨G,Db.refl _ _,h,by simpa only [RAs] using hc⟩
 | x::l,k,ys,vs,os,G,st,h,hc,hh,hnd,hb=>by
  simp only [Dc] at hc
  obtain ⟨v,r,rfl,hx,hxs⟩:=hc
  simp only [E1] at hh
  split at hh
  ·next y o1 h1 =>
   split at hh
   ·next ys2 o2 h2 =>
    simp only [aZ,aJ] at hh
    obtain ⟨rfl,rfl⟩:=hh
    have hsplit:Hb (x::l) (v::r)=Hb [x] [v]++Hb l r:=by cases x<;>simp [Hb]
    rw [hsplit] at hnd hb
    obtain ⟨n1,n2,n3⟩:=List.nodup_append.1 hnd
    obtain ⟨G1,q1,q2,q3,q4⟩:=outOne_sound h hx h1 (fun b hbb=>hb b (List.mem_append_left _ hbb))
    obtain ⟨G2,p1,p2,p3⟩:=outAll_sound (st:=⟨st.tmps,o1⟩) q2 hxs h2 n2 (fun b hbb=>by
     refine ⟨(hb b (List.mem_append_right _ hbb)).1,fun i oi hi ho hg=>?_⟩
     rcases q4 i oi b hi ho hg with ⟨oj,w1,w2,w3⟩|hmem
     ·exact (hb b (List.mem_append_right _ hbb)).2 i oj w1 w2 w3
     ·exact n3 b hmem b hbb rfl)
    refine ⟨G2,?_,p2,?_⟩
    ·intro j o hj
     obtain ⟨oa,a1,a2,a3⟩:=q1 j o hj
     obtain ⟨ob,b1,b2,b3⟩:=p1 j oa a1
     refine ⟨ob,b1,fun hbx=>?_,fun s' els' k' he=>?_⟩
     ·obtain ⟨u1,u2⟩:=b2 hbx
      obtain ⟨u3,u4⟩:=a2 u1
      exact ⟨u3,u2.trans u4⟩
     ·obtain ⟨els1,kk1,e1,e2,e3⟩:=b3 s' els' k' he
      obtain ⟨els2,kk2,f1,f2,f3⟩:=a3 s' els1 kk1 e1
      refine ⟨els2,kk2,f1,Nat.le_trans f2 e2,fun hl=>?_⟩
      obtain ⟨u1,u2⟩:=e3 (by omega)
      obtain ⟨u3,u4⟩:=f3 (by omega)
      exact ⟨u1.trans u3,u2.trans u4⟩
    ·simp only [RAs]
     exact ⟨v,r,rfl,RA.mono (Fix.le_refl _) p1 q3,p3⟩
   ·cases hh
  ·cases hh
theorem call_sound (K:Gu P C) (h:SRg base pass F0 m G st a w) {f k:Nat} {xs:List AV} {vs:List Value} {c:Prop} {z:AV} {os:Gb} (hx:RAs ⟨w,m⟩ G (lk st.objs) xs vs)
  (hh:hCall C f xs k st.objs=some (c,z,os)) (hc:c) :
  Enters P f∧Calls P f vs.toArray w fun e w'=>∃ v m' G',e=.returned v∧SRg base pass F0 m' G' ⟨st.tmps,os⟩ a w'∧RA ⟨w',m'⟩ G' (lk os) z v:=by
 unfold hCall at hh
 split at hh
 ·next con hcon =>
  split at hh
  ·next c1 cvs o1 hin =>
   split at hh
   ·next y o2 hout =>
    simp only [aZ,aJ] at hh
    obtain ⟨rfl,rfl,rfl⟩:=hh
    obtain ⟨hent,hsnd⟩:=K.2.1 f con hcon
    refine ⟨hent,?_⟩
    obtain ⟨m1,k1,k2,k3,k4,k5⟩:=inArgs_sound h hin hc.1 hx
    refine (hsnd m1 w cvs vs hc.2 k3 k4 k1.new).mono fun e w' hw=>?_
    obtain ⟨v,m',rfl,g1,g2,g3,g4⟩:=hw
    have hz:∀ b∈Hb cvs vs,m1 b=0:=by
     have:∀ (l:List CV) (us:List Value),Dc ⟨w,m1⟩ l us→∀ b∈Hb l us,m1 b=0:=by
      intro l
      induction l with
      | nil=>intro us hu b hb;simp [Hb] at hb
      | cons x l ih =>
       intro us hu b hb
       simp only [Dc] at hu
       obtain ⟨u,r,rfl,hx1,hxs1⟩:=hu
       have hsplit:Hb (x::l) (u::r)=Hb [x] [u]++Hb l r:=by cases x<;>simp [Hb]
       rw [hsplit] at hb
       rcases List.mem_append.1 hb with hb|hb
       ·cases x with
        | own s els =>
         simp [Hb] at hb
         exact (OwnV.lt hx1 hb).2
        | _=>simp [Hb] at hb
       ·exact ih r hxs1 b hb
     exact this cvs vs k3
    obtain ⟨hF,hs⟩:=k1.behind (Hb cvs vs) g1 g2 g3 (fun b hb=>⟨hz b hb,(k5 b hb).1,(k5 b hb).2.2⟩)
    have hfree:∀ b,w.heap.size≤b∨b∈Hb cvs vs→(base≤b∨pass b)∧∀ i oi,lk o1 i=some oi→oi.owns=true→G.γ i≠some b:=by
     intro b hb
     rcases hb with hb|hb
     ·refine ⟨.inl (Nat.le_trans k1.small hb),fun i oi hi ho hg=>?_⟩
      have:=(k1.mine i oi b hi ho hg).1
      omega
     ·exact ⟨(k5 b hb).1,(k5 b hb).2.2⟩
    unfold outCV at hout
    split at hout
    ·next l hfn =>
     split at hout
     ·next ys o3 hall =>
      simp only [aZ,aJ] at hout
      obtain ⟨rfl,rfl⟩:=hout
      rw [hfn] at g4
      simp only [Res] at g4
      obtain ⟨cs,rfl,e1,e2,e3⟩:=g4
      obtain ⟨G',p1,p2,p3⟩:=outAll_sound hs e1 hall e2 (fun b hb=>hfree b (e3 b hb))
      exact ⟨_,m',G',rfl,p2,mkTup_sound p3⟩
     ·cases hout
    ·next x hnt =>
     have g4':Dc ⟨w',m'⟩ [con.fn cvs] [v]∧∀ b∈Hb [con.fn cvs] [v],w.heap.size≤b∨b∈Hb cvs vs:=by
      revert g4
      cases hq:con.fn cvs with
      | tup l=>exact absurd hq (hnt l)
      | _=>exact fun g=>g
     obtain ⟨e1,e2⟩:=g4'
     simp only [Dc] at e1
     obtain ⟨v',r,ev,hv',_⟩:=e1
     simp only [List.cons.injEq] at ev
     rw [←ev.1] at hv'
     obtain ⟨G',p1,p2,p3,_⟩:=outOne_sound hs hv' hout (fun b hb=>hfree b (e2 b hb))
     exact ⟨v,m',G',rfl,p2,p3⟩
   ·cases hh
  ·cases hh
 ·cases hh
end
theorem lk_mkFrom:∀ (l:List Obj) (n i:Nat),lk (mkFrom n l) i=if n≤i then l[i-n]? else none
 | [],n,i=>by simp [mkFrom,lk]
 | o::l,n,i=>by
  simp only [mkFrom,lk,lk_mkFrom l]
  by_cases h:i=n
  ·subst h
   simp
  ·rw [if_neg h]
   by_cases h1:n≤i
   ·rw [if_pos (by omega),if_pos h1,show i-n=(i-(n+1))+1 by omega,List.getElem?_cons_succ]
   ·rw [if_neg (by omega),if_neg h1]
theorem D7 {l:List Obj} {i:Nat} {o:Obj} (h:lk (Bc l) i=some o):∃ j,i=90000+j∧l[j]?=some o:=by
 unfold Bc at h
 rw [lk_mkFrom] at h
 by_cases h1:90000≤i
 ·rw [if_pos h1] at h
  exact ⟨i-90000,by omega,h⟩
 ·rw [if_neg h1] at h
  cases h
theorem D6 {l:List Obj} {j:Nat} {o:Obj} (h:l[j]?=some o):lk (Bc l) (90000+j)=some o:=by
 unfold Bc
 rw [lk_mkFrom,if_pos (by omega),show 90000+j-90000=j by omega]
 exact h
theorem rk_at {rs:List Nat} {j k:Nat} (h:rs[j]?=some k):rk rs (90000+j)=k:=by
 unfold rk
 rw [show 90000+j-90000=j by omega,aY,h]
 rfl
theorem Ez {rs0:List Nat}:∀ {ks:List Nat} {l:List Obj} {o:Gb},Cl rs0 ks l o→∀ {j:Nat} {x:Obj},l[j]?=some x→∃ k,ks[j]?=some k∧lk o k=some (rnO rs0 x)
 | _,[],_,_,j,x,hx=>by simp at hx
 | [],_::_,_,h,_,_,_=>h.elim
 | k::ks,y::l,o,h,j,x,hx=>by
  cases j with
  | zero=>simp at hx;subst hx;exact ⟨k,rfl,h.1⟩
  | succ j=>simp only [List.getElem?_cons_succ] at hx ⊢;exact Ez h.2 hx
theorem freeAt_at:∀ {ks:List Nat} {o:Gb},freeAt ks o→∀ {k:Nat},k∈ks→lk o k=none
 | [],_,_,_,hk=>by simp at hk
 | k::ks,o,h,k',hk=>by
  rcases List.mem_cons.1 hk with rfl|hk
  ·exact h.1
  ·exact freeAt_at h.2 hk
theorem Sa {rs0:List Nat}:∀ {ks:List Nat} {l:List Obj} {o:Gb} {k:Nat},k∉ks→lk (Sp rs0 ks l o) k=lk o k
 | [],l,o,k,_=>by simp [Sp]
 | q::ks,[],o,k,_=>by simp [Sp]
 | q::ks,x::l,o,k,h=>by
  simp only [bQ,not_or] at h
  simp only [Sp]
  rw [Sa h.2,Bm,if_neg h.1]
theorem backTo_in {rs0:List Nat}:∀ {ks:List Nat} {l:List Obj} {o:Gb} {j k:Nat} {x:Obj},ks.Nodup→ks[j]?=some k→l[j]?=some x→lk (Sp rs0 ks l o) k=some (rnO rs0 x)
 | [],_,_,_,_,_,_,h,_=>by simp at h
 | _::_,[],_,_,_,_,_,_,h=>by simp at h
 | q::ks,y::l,o,j,k,x,hn,hk,hx=>by
  obtain ⟨h1,h2⟩:=List.nodup_cons.1 hn
  simp only [Sp]
  cases j with
  | zero =>
   simp at hk hx
   subst hk;subst hx
   rw [Sa h1,Bm,if_pos rfl]
  | succ j =>
   simp only [List.getElem?_cons_succ] at hk hx
   exact backTo_in h2 hk hx
theorem rnO_isBox (rs:List Nat) (o:Obj):(rnO rs o).isBox=o.isBox:=by cases o<;>rfl
theorem A3 (rs:List Nat) (o:Obj):(rnO rs o).owns=o.owns:=by cases o<;>rfl
theorem rnO_row {rs:List Nat} {o:Obj} {s k:Nat} {els:List D}:rnO rs o=.row s els k↔o=.row s els k:=by cases o<;>simp [rnO]
structure Alike (rs:List Nat) (l:List Obj) (G Gc:Gh) (Lc:Nat→Option Obj):Prop where
 obj:∀ i o,lk (Bc l) i=some o→Lc (rk rs i)=some (rnO rs o)
 gam:∀ i o,lk (Bc l) i=some o→G.γ i=Gc.γ (rk rs i)∧G.hd i=Gc.hd (rk rs i)
mutual
theorem rn_RA {rs:List Nat} {l:List Obj} {F:Fix} {G Gc:Gh} {Lc:Nat→Option Obj} (h:Alike rs l G Gc Lc):∀ {x:AV} {v:Value},x.kept (Bc l)→(RA F G (lk (Bc l)) x v↔RA F Gc Lc (rnA rs x) v)
 | .d x,v,_=>by simp [RA,rnA]
 | .ref i f,v,hk=>by
  simp only [AV.kept] at hk
  simp only [RA,rnA]
  cases hi:lk (Bc l) i with
  | none=>rw [hi] at hk;cases hk
  | some o =>
   rw [h.obj i o hi,(h.gam i o hi).1]
   simp only [rnO_isBox]
 | .rref i n e f,v,hk=>by
  simp only [AV.kept] at hk
  simp only [RA,rnA]
  cases hi:lk (Bc l) i with
  | none=>rw [hi] at hk;cases hk
  | some o =>
   rw [h.obj i o hi,(h.gam i o hi).1]
   cases o<;>simp [rnO]
 | .sl i n,v,hk=>by
  simp only [AV.kept] at hk
  simp only [RA,rnA]
  cases hi:lk (Bc l) i with
  | none=>rw [hi] at hk;cases hk
  | some o =>
   rw [h.obj i o hi,(h.gam i o hi).2]
   cases o<;>simp [rnO]
 | .mpr i,v,hk=>by
  simp only [AV.kept] at hk
  simp only [RA,rnA]
  cases hi:lk (Bc l) i with
  | none=>rw [hi] at hk;cases hk
  | some o =>
   rw [h.obj i o hi,(h.gam i o hi).1]
   simp only [rnO_isBox]
 | .sb i n f,v,hk=>by
  simp only [AV.kept] at hk
  simp only [RA,rnA]
  cases hi:lk (Bc l) i with
  | none=>rw [hi] at hk;cases hk
  | some o =>
   rw [h.obj i o hi,(h.gam i o hi).2,(h.gam i o hi).1]
   cases o<;>simp [rnO]
 | .agg xs,v,hk=>by
  simp only [AV.kept] at hk
  simp only [RA,rnA]
  constructor
  ·rintro ⟨cs,h1,h2,h3⟩;exact ⟨cs,h1,(rn_RAs h hk).1 h2,h3⟩
  ·rintro ⟨cs,h1,h2,h3⟩;exact ⟨cs,h1,(rn_RAs h hk).2 h2,h3⟩
 | .tup xs,v,hk=>by
  simp only [AV.kept] at hk
  simp only [RA,rnA]
  constructor
  ·rintro ⟨cs,h1,h2⟩;exact ⟨cs,h1,(rn_RAs h hk).1 h2⟩
  ·rintro ⟨cs,h1,h2⟩;exact ⟨cs,h1,(rn_RAs h hk).2 h2⟩
 | .clo f xs,v,hk=>by
  simp only [AV.kept] at hk
  simp only [RA,rnA]
  constructor
  ·rintro ⟨cs,h1,h2⟩;exact ⟨cs,h1,(rn_RAs h hk).1 h2⟩
  ·rintro ⟨cs,h1,h2⟩;exact ⟨cs,h1,(rn_RAs h hk).2 h2⟩
 | .nils s,v,_=>by simp [RA,rnA]
 | .dead,v,_=>by simp [RA,rnA]
theorem rn_RAs {rs:List Nat} {l:List Obj} {F:Fix} {G Gc:Gh} {Lc:Nat→Option Obj} (h:Alike rs l G Gc Lc):∀ {xs:List AV} {vs:List Value},keptAll (Bc l) xs→(RAs F G (lk (Bc l)) xs vs↔RAs F Gc Lc (rnAs rs xs) vs)
 | [],vs,_=>by simp [RAs,rnAs]
 | x::xs,vs,hk=>by
  simp only [keptAll] at hk
  simp only [RAs,rnAs]
  constructor
  ·rintro ⟨v,r,h1,h2,h3⟩;exact ⟨v,r,h1,(rn_RA h hk.1).1 h2,(rn_RAs h hk.2).1 h3⟩
  ·rintro ⟨v,r,h1,h2,h3⟩;exact ⟨v,r,h1,(rn_RA h hk.1).2 h2,(rn_RAs h hk.2).2 h3⟩
end
theorem tiedAll_at {q:Gb}:∀ {l:List Obj},tiedAll q l→∀ {j:Nat} {o:Obj},l[j]?=some o→o.tied q
 | [],_,_,_,h=>by simp at h
 | x::l,ht,j,o,h=>by
  cases j with
  | zero=>simp at h;subst h;exact ht.1
  | succ j=>simp only [List.getElem?_cons_succ] at h;exact tiedAll_at ht.2 h
theorem noneFixed_at:∀ {l:List Obj},Fv l→∀ {j s k:Nat} {els:List D},l[j]?=some (.row s els k)→k=0
 | [],_,_,_,_,_,h=>by simp at h
 | x::l,ht,j,s,k,els,h=>by
  have htl:Fv l:=by cases x<;>first|exact ht.2|exact ht
  cases j with
  | zero=>simp at h;subst h;exact ht.1
  | succ j=>simp only [List.getElem?_cons_succ] at h;exact noneFixed_at htl h
theorem noneFixed_atM:∀ {l:List Obj},Fv l→∀ {j:Nat} {ks vs:List D} {f:Bool},l[j]?=some (.mp ks vs f)→f=false
 | [],_,_,_,_,_,h=>by simp at h
 | x::l,ht,j,ks,vs,f,h=>by
  have htl:Fv l:=by cases x<;>first|exact ht.2|exact ht
  cases j with
  | zero=>simp at h;subst h;exact ht.1
  | succ j=>simp only [List.getElem?_cons_succ] at h;exact noneFixed_atM htl h
theorem rn_ObjOk {rs:List Nat} {l:List Obj} {F:Fix} {G Gc:Gh} {Lc:Nat→Option Obj} (h:Alike rs l G Gc Lc) {i:Nat} {o:Obj} (hi:lk (Bc l) i=some o) (ht:o.tied (Bc l)) :
  Hd F G (lk (Bc l)) i o↔Hd F Gc Lc (rk rs i) (rnO rs o):=by
 obtain ⟨g1,g2⟩:=h.gam i o hi
 cases o with
 | box ag cells =>
  simp only [Obj.tied] at ht
  simp only [Hd,rnO,g1]
  constructor
  ·rintro ⟨b,cs,t,h1,h2,h3,h4⟩;exact ⟨b,cs,t,h1,h2,(rn_RAs h ht).1 h3,h4⟩
  ·rintro ⟨b,cs,t,h1,h2,h3,h4⟩;exact ⟨b,cs,t,h1,h2,(rn_RAs h ht).2 h3,h4⟩
 | fbox s x=>simp only [Hd,rnO,g1]
 | row s els k=>simp only [Hd,rnO,g1,g2]
 | mp ks vs f=>simp only [Hd,rnO,g1]
 | gone=>simp only [Hd,rnO]
 | slot e f=>simp only [Hd,rnO]
 | hole j n e f x=>exact ht.elim
section
variable {P:Program} {C:Ctx} {G:Gh}
variable {base:Nat} {pass:Nat→Prop} {F0:Anc} {m:Nat→Nat} {st:AS} {a:Act} {w:World}
theorem rv_RA {F:Fix} {rs:List Nat} {l:List Obj} {G1 G2:Gh} {L:Nat→Option Obj} (al:Alike rs l G1 G2 L) {j:Nat} {v:Value} (h:RA F G1 (lk (Bc l)) (.mpr (90000+j)) v):RA F G2 L (.mpr (rk rs (90000+j))) v:=by
 simp only [RA] at h ⊢
 obtain ⟨h1,h2⟩:=h
 refine ⟨h1,?_⟩
 cases hl:lk (Bc l) (90000+j) with
 | none=>rw [hl] at h2;exact h2.elim
 | some o =>
  rw [hl] at h2
  rw [al.obj _ _ hl]
  intro hb
  rw [rnO_isBox] at hb
  obtain ⟨b,e1,e2⟩:=h2 hb
  exact ⟨b,by rw [←(al.gam _ _ hl).1];exact e1,e2⟩
theorem bcall_sound (K:Gu P C) (h:SRg base pass F0 m G st a w) {f:FuncId} {bc:BCon} (hf:C.Δ f=some bc) {x:bc.X} {rs:List Nat} {vs:List Value} (hok:bc.ok x)
  (hx:RAs ⟨w,m⟩ G (lk st.objs) (rnAs rs (bc.args x)) vs) (hnd:rs.Nodup) (hlen:rs.length=(bc.post x).length) (hst:Cl rs rs (bc.objs x) st.objs) (hfr:freeAt (rs.drop (bc.objs x).length) st.objs) :
  Enters P f∧Calls P f vs.toArray w fun e w'=>∃ v m' G',e=.returned v∧SRg base pass F0 m' G' ⟨st.tmps,Sp rs rs (bc.post x) st.objs⟩ a w'∧RA ⟨w',m'⟩ G' (lk (Sp rs rs (bc.post x) st.objs)) (bc.rvr rs x) v:=by
 obtain ⟨hent,hsnd⟩:=K.2.2.2 f bc hf
 refine ⟨hent,?_⟩
 obtain ⟨ht1,hnf,ht2,hle,hcall⟩:=hsnd x hok
 have hinj:∀ {j j' k:Nat},rs[j]?=some k→rs[j']?=some k→j=j':=by
  intro j j' k h1 h2
  obtain ⟨hj,e1⟩:=List.getElem?_eq_some_iff.1 h1
  obtain ⟨hj',e2⟩:=List.getElem?_eq_some_iff.1 h2
  have hp:=List.pairwise_iff_getElem.1 hnd
  rcases Nat.lt_trichotomy j j' with hlt|heq|hgt
  ·exact absurd (e1.trans e2.symm) (hp j j' hj hj' hlt)
  ·exact heq
  ·exact absurd (e2.trans e1.symm) (hp j' j hj' hj hgt)
 let G1:Gh:=⟨fun i=>G.γ (rk rs i),fun i=>G.hd (rk rs i)⟩
 have al1:Alike rs (bc.objs x) G1 G (lk st.objs):=⟨fun i o hi=>by
  obtain ⟨j,rfl,hj⟩:=D7 hi
  obtain ⟨k,hk,hkk⟩:=Ez hst hj
  rw [rk_at hk];exact hkk,fun i o hi=>⟨rfl,rfl⟩⟩
 have own1:∀ {b:Nat},passB G1 (bc.objs x) b→∃ k o,k∈rs∧lk st.objs k=some o∧o.owns=true∧G.γ k=some b:=by
  rintro b ⟨i,o,hi,ho,hg⟩
  obtain ⟨j,rfl,hj⟩:=D7 hi
  obtain ⟨k,hk,hkk⟩:=Ez hst hj
  have hg':G.γ (rk rs (90000+j))=some b:=hg
  rw [rk_at hk] at hg'
  exact ⟨k,_,List.mem_of_getElem? hk,hkk,by rw [A3];exact ho,hg'⟩
 have zero1:∀ {b:Nat},passB G1 (bc.objs x) b→m b=0:=by
  rintro b ⟨i,o,hi,ho,hg⟩
  obtain ⟨j,rfl,hj⟩:=D7 hi
  obtain ⟨k,hk,hkk⟩:=Ez hst hj
  have hg':G.γ (rk rs (90000+j))=some b:=hg
  rw [rk_at hk] at hg'
  have hob:=h.objs k _ hkk
  cases o with
  | box ag cells =>
   simp only [Hd,rnO] at hob
   obtain ⟨b',cs,t,h1,_,_,_,h5⟩:=hob
   rw [hg'] at h1
   injection h1 with h1
   subst h1
   exact h5
  | row s els k0 =>
   have:=noneFixed_at hnf hj
   subst this
   simp only [Hd,rnO] at hob
   rcases hob with ⟨h1,_⟩|⟨b',cap,cs,t,h1,_,_,_,_,_,_,h8,_⟩
   ·rw [hg'] at h1;cases h1
   ·rw [hg'] at h1
    injection h1 with h1
    subst h1
    simpa using h8
  | mp ks vs fr =>
   have:=noneFixed_atM hnf hj
   subst this
   simp only [Hd,rnO] at hob
   obtain ⟨b',es,cl,h1,_,_,_,h5,_⟩:=hob
   rw [hg'] at h1
   injection h1 with h1
   subst h1
   simpa using h5
  | fbox s y=>simp [Obj.owns] at ho
  | gone=>simp [Obj.owns] at ho
  | slot e f=>simp [Obj.owns] at ho
  | hole j' n e f x=>simp [Obj.owns] at ho
 have hs1:SRg w.heap.size (passB G1 (bc.objs x)) ⟨⟨w,m⟩,G1,lk (Bc (bc.objs x))⟩ m G1 ⟨bc.args x,Bc (bc.objs x)⟩ ⟨vs.toArray,[]⟩ w:=by
  constructor
  ·rfl
  ·simpa using (rn_RAs al1 ht1.1).2 hx
  ·intro i o hi
   obtain ⟨j,rfl,hj⟩:=D7 hi
   exact (rn_ObjOk al1 hi (tiedAll_at ht1.2 hj)).2 (h.objs _ _ (al1.obj _ _ hi))
  ·intro i i' o o' b hi hi' ho ho' hb hb'
   have e:=h.apart _ _ _ _ b (al1.obj _ _ hi) (al1.obj _ _ hi') (by rw [A3];exact ho) (by rw [A3];exact ho') hb hb'
   obtain ⟨j,rfl,hj⟩:=D7 hi
   obtain ⟨j',rfl,hj'⟩:=D7 hi'
   obtain ⟨k,hk,_⟩:=Ez hst hj
   obtain ⟨k',hk',_⟩:=Ez hst hj'
   rw [rk_at hk,rk_at hk'] at e
   subst e
   rw [hinj hk hk']
  ·intro i o b hi ho hb
   exact ⟨(h.mine _ _ b (al1.obj _ _ hi) (by rw [A3];exact ho) hb).1,.inr ⟨i,o,hi,ho,hb⟩⟩
  ·exact Frame.refl _ _ _
  ·exact fun _ _ _=>rfl
  ·exact h.new
  ·exact cZ _
  ·intro i o hi
   obtain ⟨j,rfl,hj⟩:=D7 hi
   exact ⟨by omega,o,hi,Went.refl _ _ _⟩
 refine (hcall m w G1 vs hs1).mono ?_
 rintro e w' ⟨v,m',G2,rfl,hr,hs2⟩
 have old2:∀ b,b<w.heap.size→¬ passB G1 (bc.objs x) b→m' b=m b:=hs2.old
 have hF:Fix.le ⟨w,m⟩ ⟨w',m'⟩:=by
  refine ⟨fun b=>?_,fun b es c hmb hbb=>?_⟩
  rotate_left
  ·have hp:¬ passB G1 (bc.objs x) b:=fun hp=>by
    have hz:=zero1 hp
    simp only [hz] at hmb
    omega
   rcases Nat.lt_or_ge b w.heap.size with hlt|hge
   ·rw [hs2.frame.block b hlt hp];exact hbb
   ·have:=h.new b hge
    simp only at hmb
    omega
  by_cases hp:passB G1 (bc.objs x) b
  ·have hz:=zero1 hp
   exact ⟨by simp only [hz];exact Nat.zero_le _,fun off ho=>by simp only [hz] at ho;omega⟩
  ·rcases Nat.lt_or_ge b w.heap.size with hlt|hge
   ·exact ⟨by simp only;rw [old2 b hlt hp];exact cZ _,fun off _=>World.cell?_of_block (a:=⟨b,off,none⟩) (hs2.frame.block b hlt hp)⟩
   ·have:=h.new b hge
    exact ⟨by simp only;omega,fun off ho=>by simp only at ho;omega⟩
 let G':Gh:=⟨fun k=>if k∈rs then G2.γ (90000+rs.idxOf k) else G.γ k,fun k=>if k∈rs then G2.hd (90000+rs.idxOf k) else G.hd k⟩
 have hidx:∀ {j k:Nat},rs[j]?=some k→rs.idxOf k=j:=by
  intro j k hk
  have hmem:=List.mem_of_getElem? hk
  have h1:rs[rs.idxOf k]?=some k:=by
   rw [aK (List.idxOf_lt_length_of_mem hmem),List.getElem_idxOf]
  exact hinj h1 hk
 have gin:∀ {j k:Nat},rs[j]?=some k→G'.γ k=G2.γ (90000+j)∧G'.hd k=G2.hd (90000+j):=by
  intro j k hk
  have hmem:=List.mem_of_getElem? hk
  exact ⟨by show (if k∈rs then _ else _)=_;rw [if_pos hmem,hidx hk],by show (if k∈rs then _ else _)=_;rw [if_pos hmem,hidx hk]⟩
 have gout:∀ {k:Nat},k∉rs→G'.γ k=G.γ k∧G'.hd k=G.hd k:=by
  intro k hk
  exact ⟨by show (if k∈rs then _ else _)=_;rw [if_neg hk],by show (if k∈rs then _ else _)=_;rw [if_neg hk]⟩
 have hat:∀ {k:Nat},k∈rs→∃ (j:Nat) (o:Obj),rs[j]?=some k∧(bc.post x)[j]?=some o∧lk (Sp rs rs (bc.post x) st.objs) k=some (rnO rs o):=by
  intro k hk
  obtain ⟨j,hj,e⟩:=List.getElem_of_mem hk
  have hk':rs[j]?=some k:=by rw [aK hj,e]
  have hjp:j<(bc.post x).length:=by omega
  have ho:=aK (l:=bc.post x) hjp
  exact ⟨j,_,hk',ho,backTo_in hnd hk' ho⟩
 have al2:Alike rs (bc.post x) G2 G' (lk (Sp rs rs (bc.post x) st.objs)):=by
  constructor
  ·intro i o hi
   obtain ⟨j,rfl,hj⟩:=D7 hi
   have hjl:j<rs.length:=by rw [hlen];exact (List.getElem?_eq_some_iff.1 hj).1
   have hrs:=aK (l:=rs) hjl
   rw [rk_at hrs]
   exact backTo_in hnd hrs hj
  ·intro i o hi
   obtain ⟨j,rfl,hj⟩:=D7 hi
   have hjl:j<rs.length:=by rw [hlen];exact (List.getElem?_eq_some_iff.1 hj).1
   have hrs:=aK (l:=rs) hjl
   rw [rk_at hrs]
   obtain ⟨g1,g2⟩:=gin hrs
   exact ⟨g1.symm,g2.symm⟩
 have hgoes:Db G (lk st.objs) G' (lk (Sp rs rs (bc.post x) st.objs)):=by
  intro k o hk
  by_cases hkr:k∈rs
  ·obtain ⟨j,o1,hj,ho1,hb1⟩:=hat hkr
   have hjn:j<(bc.objs x).length:=by
    rcases Nat.lt_or_ge j (bc.objs x).length with hlt|hge
    ·exact hlt
    ·have:k∈rs.drop (bc.objs x).length:=by
      refine List.mem_iff_getElem?.2 ⟨j-(bc.objs x).length,?_⟩
      rw [List.getElem?_drop,show (bc.objs x).length+(j-(bc.objs x).length)=j by omega]
      exact hj
     rw [freeAt_at hfr this] at hk
     cases hk
   have hob:=aK (l:=bc.objs x) hjn
   obtain ⟨k',hk',hkk⟩:=Ez hst hob
   rw [hj] at hk'
   injection hk' with hk'
   subst hk'
   rw [hk] at hkk
   injection hkk with hkk
   subst hkk
   obtain ⟨_,o2,hl2,hwent⟩:=hs2.lent _ _ (D6 hob)
   rw [D6 ho1] at hl2
   injection hl2 with hl2
   subst hl2
   obtain ⟨g1,g2⟩:=gin hj
   have e1:G1.γ (90000+j)=G.γ k:=by show G.γ (rk rs (90000+j))=_;rw [rk_at hj]
   have e2:G1.hd (90000+j)=G.hd k:=by show G.hd (rk rs (90000+j))=_;rw [rk_at hj]
   refine ⟨_,hb1,fun hb=>?_,fun s els' k' he=>?_⟩
   ·rw [rnO_isBox] at hb
    obtain ⟨w1,w2⟩:=hwent.1 hb
    exact ⟨by rw [rnO_isBox];exact w1,by rw [g1,←e1];exact w2⟩
   ·rw [rnO_row] at he
    obtain ⟨els,k0,f1,f2,f3⟩:=hwent.2 s els' k' he
    refine ⟨els,k0,by rw [rnO_row];exact f1,f2,fun heq=>?_⟩
    obtain ⟨q1,q2⟩:=f3 heq
    exact ⟨by rw [g1,←e1];exact q1,by rw [g2,←e2];exact q2⟩
  ·obtain ⟨g1,g2⟩:=gout hkr
   refine ⟨o,by rw [Sa hkr];exact hk,fun hb=>⟨hb,g1⟩,fun s els' k' he=>⟨els',k',he,cZ _,fun _=>⟨g1,g2⟩⟩⟩
 have notB:∀ {k:Nat} {o:Obj} {b:Nat},k∉rs→lk st.objs k=some o→o.owns=true→G.γ k=some b→¬ passB G1 (bc.objs x) b:=by
  intro k o b hk ho hw hg hp
  obtain ⟨k',o',hm',ho',hw',hg'⟩:=own1 hp
  have:=h.apart k k' o o' b ho ho' hw hw' hg hg'
  subst this
  exact hk hm'
 refine ⟨v,m',G',rfl,?_,by
  unfold BCon.rv at hr
  unfold BCon.rvr
  cases ho:bc.out x with
  | none=>rw [ho] at hr;simpa only [RA] using hr
  | some j=>rw [ho] at hr;exact rv_RA al2 hr⟩
 constructor
 ·exact h.defers
 ·exact RAs.mono hF hgoes h.tmps
 ·intro k o hk
  by_cases hkr:k∈rs
  ·obtain ⟨j,o1,hj,ho1,hb1⟩:=hat hkr
   simp only at hk
   rw [hb1] at hk
   injection hk with hk
   subst hk
   have:=(rn_ObjOk al2 (D6 ho1) (tiedAll_at ht2.2 ho1)).1 (hs2.objs _ _ (D6 ho1))
   rw [rk_at hj] at this
   exact this
  ·simp only [Sa hkr] at hk
   obtain ⟨g1,g2⟩:=gout hkr
   refine Hd.mono hF hgoes g1 g2 (fun ho b hbb=>?_) (h.objs k o hk)
   have hlt:=(h.mine k o b hk ho hbb).1
   have hnp:=notB hkr hk ho hbb
   exact ⟨hs2.frame.block b hlt hnp,old2 b hlt hnp⟩
 ·intro k k' o o' b hk hk' ho ho' hb hb'
  simp only at hk hk'
  by_cases hkr:k∈rs
  ·obtain ⟨j,o1,hj,ho1,hb1⟩:=hat hkr
   rw [hb1] at hk
   injection hk with hk
   subst hk
   rw [A3] at ho
   rw [(gin hj).1] at hb
   by_cases hkr':k'∈rs
   ·obtain ⟨j',o1',hj',ho1',hb1'⟩:=hat hkr'
    rw [hb1'] at hk'
    injection hk' with hk'
    subst hk'
    rw [A3] at ho'
    rw [(gin hj').1] at hb'
    have:=hs2.apart _ _ _ _ b (D6 ho1) (D6 ho1') ho ho' hb hb'
    have e:j=j':=by omega
    subst e
    rw [hj] at hj'
    injection hj'
   ·rw [Sa hkr'] at hk'
    rw [(gout hkr').1] at hb'
    have hlt:=(h.mine k' o' b hk' ho' hb').1
    have hnp:=notB hkr' hk' ho' hb'
    rcases (hs2.mine _ _ b (D6 ho1) ho hb).2 with h1|h1
    ·omega
    ·exact absurd h1 hnp
  ·rw [Sa hkr] at hk
   rw [(gout hkr).1] at hb
   by_cases hkr':k'∈rs
   ·obtain ⟨j',o1',hj',ho1',hb1'⟩:=hat hkr'
    rw [hb1'] at hk'
    injection hk' with hk'
    subst hk'
    rw [A3] at ho'
    rw [(gin hj').1] at hb'
    have hlt:=(h.mine k o b hk ho hb).1
    have hnp:=notB hkr hk ho hb
    rcases (hs2.mine _ _ b (D6 ho1') ho' hb').2 with h1|h1
    ·omega
    ·exact absurd h1 hnp
   ·rw [Sa hkr'] at hk'
    rw [(gout hkr').1] at hb'
    exact h.apart k k' o o' b hk hk' ho ho' hb hb'
 ·intro k o b hk ho hb
  simp only at hk
  by_cases hkr:k∈rs
  ·obtain ⟨j,o1,hj,ho1,hb1⟩:=hat hkr
   rw [hb1] at hk
   injection hk with hk
   subst hk
   rw [A3] at ho
   rw [(gin hj).1] at hb
   obtain ⟨q1,q2⟩:=hs2.mine _ _ b (D6 ho1) ho hb
   refine ⟨q1,?_⟩
   rcases q2 with q2|q2
   ·exact .inl (Nat.le_trans h.small q2)
   ·obtain ⟨k',o',_,ho',hw',hg'⟩:=own1 q2
    exact (h.mine k' o' b ho' hw' hg').2
  ·rw [Sa hkr] at hk
   rw [(gout hkr).1] at hb
   obtain ⟨q1,q2⟩:=h.mine k o b hk ho hb
   exact ⟨Nat.lt_of_lt_of_le q1 hs2.frame.size,q2⟩
 ·refine h.frame.trans ⟨hs2.frame.os,hs2.frame.tape,hs2.frame.output,hs2.frame.size,fun b hbb hp=>hs2.frame.block b (Nat.lt_of_lt_of_le hbb h.small) (fun hB=>?_)⟩
  obtain ⟨k',o',_,ho',hw',hg'⟩:=own1 hB
  rcases (h.mine k' o' b ho' hw' hg').2 with h1|h1
  ·omega
  ·exact hp h1
 ·intro b hbb hp
  refine (old2 b (Nat.lt_of_lt_of_le hbb h.small) (fun hB=>?_)).trans (h.old b hbb hp)
  obtain ⟨k',o',_,ho',hw',hg'⟩:=own1 hB
  rcases (h.mine k' o' b ho' hw' hg').2 with h1|h1
  ·omega
  ·exact hp h1
 ·exact hs2.new
 ·exact Nat.le_trans h.small hs2.frame.size
 ·exact h.lent.goes hgoes
end
end Go.Am
