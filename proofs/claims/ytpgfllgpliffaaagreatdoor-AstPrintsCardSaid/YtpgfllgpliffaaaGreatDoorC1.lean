/- Contracts of functions that the law reaches, and plain laws. Conditions: those that each contract states. -/
import Derived.Shelf.Unicode.DecodeSlow
import Derived.Lib.LaidTab
import Derived.Shelf.Strconv.Itoa1
import Derived.WalkKit
import Derived.Laws.StructEq
import Derived.Shelf.Abstract
set_option maxHeartbeats 400000
set_option linter.unusedVariables false
set_option linter.unusedSimpArgs false
variable {p:Prop}
theorem Za:type_of% @beq_eq_false_iff_ne.{0}:=@beq_eq_false_iff_ne.{0}
theorem Zb:type_of% @List.length_append.{0}:=@List.length_append.{0}
theorem Zc:type_of% @Option.some.injEq.{0}:=@Option.some.injEq.{0}
theorem Zd:type_of% @List.length_cons.{0}:=@List.length_cons.{0}
theorem Zg:type_of% @Bool.and_eq_true:=@Bool.and_eq_true
theorem Zf:type_of% @Prod.mk.injEq.{0,0}:=@Prod.mk.injEq.{0,0}
theorem Z9:type_of% @And.intro:=@And.intro
theorem Zi:type_of% @beq_iff_eq.{0}:=@beq_iff_eq.{0}
theorem Zh:type_of% @List.getElem?_eq_getElem.{0}:=@List.getElem?_eq_getElem.{0}
theorem Zk:type_of% @List.getD_eq_getElem?_getD.{0}:=@List.getD_eq_getElem?_getD.{0}
theorem Zl:type_of% @Nat.le_refl:=@Nat.le_refl
theorem Zn:type_of% @Bool.false_eq_true:=@Bool.false_eq_true
theorem Zp:type_of% @Int.toNat_natCast:=@Int.toNat_natCast
theorem Z2:type_of% @List.mem_cons.{0}:=@List.mem_cons.{0}
theorem Qn:type_of% @List.length_map.{0,0}:=@List.length_map.{0,0}
theorem Qy:type_of% @List.mem_singleton.{0}:=@List.mem_singleton.{0}
theorem Jr:type_of% @List.set_cons_zero.{0}:=@List.set_cons_zero.{0}
theorem Jx:type_of% @List.set_cons_succ.{0}:=@List.set_cons_succ.{0}
theorem lR:type_of% @List.not_mem_nil.{0}:=@List.not_mem_nil.{0}
theorem exq {α : Type} (a : α) : ∃ x, a = x := ⟨a, rfl⟩
namespace Go.Am
open Go.Proofs
def glG:Nat:=3
def tabQ (W:World):Prop:=Lib.Utf8Tabs 1 2 W∧∃ t s,W.heap[0]?=some (.cells (Lib.pow10Tab.map fun z=>Value.int .u64 z).toArray t s)
inductive D where
 | int (k:IntKind) (n:Int)
 | bool (b:Bool)
 | str (s:List UInt8)
 | nilf
 | nilp
 | agg (l:List D)
 | tup (l:List D)
 | list (s:Nat) (l:List D)
 | ptr (s:Nat) (x:D)
 | clo (f:Nat) (l:List D)
 | nilm
 | map (ks vs:List D)
 | it (f:Nat) (ks vs:List D)
 | any
 deriving Inhabited
structure Fix where
 w:World
 m:Nat→Nat
def Zef (F:Fix) (b off:Nat) (vs:List Value):Prop :=
 off+vs.length≤F.m b∧∀ (j:Nat) (u:Value),vs[j]?=some u→F.w.cell? ⟨b,off+j,none⟩=some u
mutual
def R (F:Fix):D→Value→Prop
 | .int k n,v=>v=.int k n
 | .bool b,v=>v=.bool b
 | .str s,v=>v=.string ⟨s.toArray⟩
 | .nilf,v=>v=.nilFunc
 | .nilp,v=>v=.pointer none
 | .agg l,v=>∃ cs:List Value,v=.agg cs.toArray∧Rs F l cs∧∀ u∈cs,u.oneCell'=true
 | .tup l,v=>∃ cs:List Value,v=.tuple cs.toArray∧Rs F l cs
 | .list s l,v=>∃ (A:Option Addr) (c:Nat),v=.slice A l.length c∧l.length≤c∧c≤maxLen ∧
   (l≠[]→∃ (b off:Nat) (vs:List Value),A=some ⟨b,off,none⟩∧RE F s l vs∧Zef F b off vs)
 | .ptr s x,v=>∃ (b off:Nat) (u:Value),v=.pointer (some ⟨b,off,none⟩)∧R F x u∧u.cells.size=s∧(∀ y∈u.cells.toList,y.oneCell'=true)∧Zef F b off u.cells.toList
 | .clo f l,v=>∃ cs:List Value,v=.func (.func f) #[] cs.toArray∧Rs F l cs
 | .nilm,v=>v=.map none
 | .map ks vs,v=>∃ (b:Nat) (es:Array MapEntry) (c:Nat),v=.map (some b)∧F.w.heap[b]?=some (.map es c)∧0<F.m b∧Rs F ks (es.toList.map MapEntry.key)∧Rs F vs (es.toList.map MapEntry.val)∧Go.MapKept.Stamped es c
 | .it f ks vs,v=>∃ (bm b:Nat) (es:Array MapEntry) (c:Nat),v=.func (.func f) #[] #[.pointer (some ⟨bm,0,none⟩)]∧F.w.cell? ⟨bm,0,none⟩=some (.map (some b))∧0<F.m bm∧F.w.heap[b]?=some (.map es c)∧0<F.m b ∧
   Rs F ks (es.toList.map MapEntry.key)∧Rs F vs (es.toList.map MapEntry.val)∧Go.MapKept.Stamped es c
 | .any,v=>v.oneCell'=true
def Rs (F:Fix):List D→List Value→Prop
 | [],vs=>vs=[]
 | x::l,vs=>∃ v r,vs=v::r∧R F x v∧Rs F l r
def RE (F:Fix) (s:Nat):List D→List Value→Prop
 | [],vs=>vs=[]
 | x::l,vs=>∃ v r,vs=v.cells.toList++r∧v.cells.size=s∧(∀ u∈v.cells.toList,u.oneCell'=true)∧R F x v∧RE F s l r
end
def Fix.le (F F':Fix):Prop:=(∀ b,F.m b≤F'.m b∧∀ off,off<F.m b→F'.w.cell? ⟨b,off,none⟩=F.w.cell? ⟨b,off,none⟩) ∧
 ∀ (b:Nat) (es:Array MapEntry) (c:Nat),0<F.m b→F.w.heap[b]?=some (.map es c)→F'.w.heap[b]?=some (.map es c)
theorem Fix.le_refl (F:Fix):F.le F:=⟨fun _=>⟨Zl _,fun _ _=>rfl⟩,fun _ _ _ _ h=>h⟩
theorem Fix.le_trans {F G H:Fix} (h:F.le G) (k:G.le H):F.le H:=⟨fun b =>
 ⟨Nat.le_trans (h.1 b).1 (k.1 b).1,fun off ho=>((k.1 b).2 off (Nat.lt_of_lt_of_le ho (h.1 b).1)).trans ((h.1 b).2 off ho)⟩,
 fun b es c hm hb=>k.2 b es c (Nat.lt_of_lt_of_le hm (h.1 b).1) (h.2 b es c hm hb)⟩
theorem Zef.mono {F F':Fix} (h:F.le F') {b off:Nat} {vs:List Value} (hm:Zef F b off vs):Zef F' b off vs:=by
 obtain ⟨h1,h2⟩:=hm;refine ⟨Nat.le_trans h1 (h.1 b).1,fun j u hu=>?_⟩;have hj:j<vs.length:=(List.getElem?_eq_some_iff.1 hu).1;rw [(h.1 b).2 (off+j) (by omega)]
 exact h2 j u hu
mutual
theorem R.mono {F F':Fix} (h:F.le F'):∀ {x:D} {v:Value},R F x v→R F' x v
 | .int ..,_,hr=>by simpa [R] using hr
 | .bool ..,_,hr=>by simpa [R] using hr
 | .str ..,_,hr=>by simpa [R] using hr
 | .nilf,_,hr=>by simpa [R] using hr
 | .nilp,_,hr=>by simpa [R] using hr
 | .agg l,v,hr=>by
  simp only [R] at hr ⊢;obtain ⟨cs,h1,h2,h3⟩:=hr;exact ⟨cs,h1,Rs.mono h h2,h3⟩
 | .tup l,v,hr=>by
  simp only [R] at hr ⊢;obtain ⟨cs,h1,h2⟩:=hr;exact ⟨cs,h1,Rs.mono h h2⟩
 | .list s l,v,hr=>by
  simp only [R] at hr ⊢;obtain ⟨A,c,h1,h2,h3,h4⟩:=hr;refine ⟨A,c,h1,h2,h3,fun hl=>?_⟩;obtain ⟨b,off,vs,g1,g2,g3⟩:=h4 hl;exact ⟨b,off,vs,g1,RE.mono h g2,g3.mono h⟩
 | .ptr s x,v,hr=>by
  simp only [R] at hr ⊢;obtain ⟨b,off,u,h1,h2,h3,h4,h5⟩:=hr;exact ⟨b,off,u,h1,R.mono h h2,h3,h4,h5.mono h⟩
 | .clo f l,v,hr=>by
  simp only [R] at hr ⊢;obtain ⟨cs,h1,h2⟩:=hr;exact ⟨cs,h1,Rs.mono h h2⟩
 | .nilm,_,hr=>by simpa [R] using hr
 | .any,_,hr=>by simpa [R] using hr
 | .map ks vs,v,hr=>by
  simp only [R] at hr ⊢;obtain ⟨b,es,c,h1,h2,h3,h4,h5,h6⟩:=hr;exact ⟨b,es,c,h1,h.2 b es c h3 h2,Nat.lt_of_lt_of_le h3 (h.1 b).1,Rs.mono h h4,Rs.mono h h5,h6⟩
 | .it f ks vs,v,hr=>by
  simp only [R] at hr ⊢;obtain ⟨bm,b,es,c,h1,a1,a2,h2,h3,h4,h5,h6⟩:=hr;exact ⟨bm,b,es,c,h1,((h.1 bm).2 0 a2).trans a1,Nat.lt_of_lt_of_le a2 (h.1 bm).1,h.2 b es c h3 h2,Nat.lt_of_lt_of_le h3 (h.1 b).1,Rs.mono h h4,Rs.mono h h5,h6⟩
theorem Rs.mono {F F':Fix} (h:F.le F'):∀ {l:List D} {vs:List Value},Rs F l vs→Rs F' l vs
 | [],_,hr=>by simpa [Rs] using hr
 | x::l,vs,hr=>by
  simp only [Rs] at hr ⊢;obtain ⟨v,r,h1,h2,h3⟩:=hr;exact ⟨v,r,h1,R.mono h h2,Rs.mono h h3⟩
theorem RE.mono {F F':Fix} (h:F.le F'):∀ {s:Nat} {l:List D} {vs:List Value},RE F s l vs→RE F' s l vs
 | _,[],_,hr=>by simpa [RE] using hr
 | s,x::l,vs,hr=>by
  simp only [RE] at hr ⊢;obtain ⟨v,r,h1,h2,h3,h4,h5⟩:=hr;exact ⟨v,r,h1,h2,h3,R.mono h h4,RE.mono h h5⟩
end
theorem Rs.length {F:Fix}:∀ {l:List D} {vs:List Value},Rs F l vs→vs.length=l.length
 | [],_,h=>by simp only [Rs] at h;simp [h]
 | _::l,_,h=>by
  simp only [Rs] at h;obtain ⟨v,r,rfl,_,h3⟩:=h;simp [Rs.length h3]
theorem Rs.at {F:Fix}:∀ {l:List D} {vs:List Value},Rs F l vs→∀ {k:Nat} {x:D},l[k]?=some x→∃ u,vs[k]?=some u∧R F x u
 | [],_,_,k,x,hk=>by simp at hk
 | y::l,vs,h,k,x,hk=>by
  simp only [Rs] at h;obtain ⟨v,r,rfl,h2,h3⟩:=h;cases k with
  | zero=>simp at hk;subst hk;exact ⟨v,rfl,h2⟩
  | succ k=>simp only [List.getElem?_cons_succ] at hk ⊢;exact Rs.at h3 hk
theorem Rs.append {F:Fix}:∀ {l l':List D} {vs vs':List Value},Rs F l vs→Rs F l' vs'→Rs F (l++l') (vs++vs')
 | [],_,_,_,h,h'=>by simp only [Rs] at h;subst h;simpa using h'
 | x::l,l',vs,vs',h,h'=>by
  simp only [Rs] at h;obtain ⟨v,r,rfl,h2,h3⟩:=h;simp only [List.cons_append,Rs];exact ⟨v,r++vs',rfl,h2,Rs.append h3 h'⟩
theorem RE.length {F:Fix} {s:Nat}:∀ {l:List D} {vs:List Value},RE F s l vs→vs.length=l.length*s
 | [],_,h=>by simp only [RE] at h;simp [h]
 | _::l,_,h=>by
  simp only [RE] at h;obtain ⟨v,r,rfl,h2,_,_,h5⟩:=h;simp [RE.length h5,Nat.add_mul,h2];omega
theorem RE.append {F:Fix} {s:Nat}:∀ {l l':List D} {vs vs':List Value},RE F s l vs→RE F s l' vs'→RE F s (l++l') (vs++vs')
 | [],_,_,_,h,h'=>by simp only [RE] at h;subst h;simpa using h'
 | x::l,l',vs,vs',h,h'=>by
  simp only [RE] at h;obtain ⟨v,r,rfl,h2,h3,h4,h5⟩:=h;simp only [List.cons_append,RE];exact ⟨v,r++vs',by simp,h2,h3,h4,RE.append h5 h'⟩
theorem RE.split {F:Fix} {s:Nat}:∀ {l:List D} {vs:List Value} (k:Nat),RE F s l vs→RE F s (l.take k) (vs.take (k*s))∧RE F s (l.drop k) (vs.drop (k*s))
 | [],vs,k,h=>by simp only [RE] at h;subst h;simp [RE]
 | x::l,vs,0,h=>by simp only [List.take_zero,Nat.zero_mul,List.drop_zero];exact ⟨by simp [RE],h⟩
 | x::l,vs,k+1,h=>by
  simp only [RE] at h;obtain ⟨v,r,rfl,h2,h3,h4,h5⟩:=h;obtain ⟨g1,g2⟩:=RE.split k h5;have hl:v.cells.toList.length=s:=by simpa using h2
  have e:(k+1)*s=v.cells.toList.length+k*s:=by rw [hl,Nat.add_mul];omega
  constructor
  ·rw [e,List.take_length_add_append,List.take_succ_cons];simp only [RE];exact ⟨v,_,rfl,h2,h3,h4,g1⟩
  ·rw [e,List.drop_length_add_append,List.drop_succ_cons];exact g2
theorem RE.at {F:Fix} {s:Nat} {l:List D} {vs:List Value} (h:RE F s l vs) {k:Nat} {x:D} (hk:l[k]?=some x) :
  ∃ v:Value,R F x v∧v.cells.size=s∧(∀ u∈v.cells.toList,u.oneCell'=true)∧(vs.drop (k*s)).take s=v.cells.toList:=by
 have h2:=(h.split k).2;have Qg:k<l.length:=(List.getElem?_eq_some_iff.1 hk).1;rw [List.drop_eq_getElem_cons Qg] at h2;have e:l[k]=x:=by rw [Zh Qg] at hk;injection hk
 simp only [RE] at h2;obtain ⟨v,r,h3,h4,h5,h6,h7⟩:=h2;refine ⟨v,e▸h6,h4,h5,?_⟩;rw [h3,List.take_append_of_le_length (by simp [h4]),List.take_of_length_le (by simp [h4])]
theorem RE.one {F:Fix} {s:Nat} {x:D} {v:Value} (h:R F x v) (hs:v.cells.size=s) (h1:∀ u∈v.cells.toList,u.oneCell'=true):RE F s [x] v.cells.toList:=by
 simp only [RE];exact ⟨v,[],by simp,hs,h1,h,rfl⟩
theorem RE.set {F:Fix} {s:Nat}:∀ {l:List D} {vs:List Value} {k:Nat} {x:D} {v:Value},RE F s l vs→k<l.length→R F x v→v.cells.size=s →
  (∀ u∈v.cells.toList,u.oneCell'=true)→RE F s (l.set k x) (vs.take (k*s)++v.cells.toList++vs.drop ((k+1)*s))
 | [],_,_,_,_,_,hk,_,_,_=>by simp at hk
 | y::l,vs,0,x,v,h,_,hr,hs,h1=>by
  have h2:=(h.split 1).2;simp only [Jr,Nat.zero_mul,List.take_zero,List.nil_append,Nat.zero_add,RE];refine ⟨v,_,rfl,hs,h1,hr,?_⟩;simpa using h2
 | y::l,vs,k+1,x,v,h,hk,hr,hs,h1=>by
  simp only [RE] at h;obtain ⟨u,r,rfl,h2,h3,h4,h5⟩:=h;have g:=RE.set (k:=k) h5 (by simpa using hk) hr hs h1
  have hl:u.cells.toList.length=s:=by simpa using h2
  simp only [Jx,RE];refine ⟨u,_,?_,h2,h3,h4,g⟩;rw [show (k+1)*s=u.cells.toList.length+k*s by rw [hl,Nat.add_mul];omega,
   show (k+1+1)*s=u.cells.toList.length+(k+1)*s by rw [hl];simp only [Nat.add_mul];omega,
   List.take_length_add_append,List.drop_length_add_append]
  simp;rw [h2,Nat.succ_mul,Nat.add_comm]
open Go.RowKit (Below)
inductive AV where
 | d (x:D)
 | ref (i f:Nat)
 | rref (i n e f:Nat)
 | sl (i n:Nat)
 | sb (i n o:Nat)
 | mpr (i:Nat)
 | agg (l:List AV)
 | tup (l:List AV)
 | clo (f:Nat) (l:List AV)
 | nils (s:Nat)
 | dead
 | bad (t:Nat)
 deriving Inhabited
inductive Obj where
 | box (ag:Bool) (cells:List AV)
 | fbox (s:Nat) (x:D)
 | row (s:Nat) (els:List D) (k:Nat)
 | mp (ks vs:List D) (fr:Bool)
 | gone
 | hole (i n e f:Nat) (x:AV)
 | slot (e f:Nat)
 | brow (t:Nat) (l:List UInt8)
 deriving Inhabited
def Obj.owns:Obj→Bool
 | .box ..=>true
 | .row ..=>true
 | .mp ..=>true
 | .brow ..=>true
 | _=>false
def Obj.isBox:Obj→Bool
 | .box ..=>true
 | .fbox ..=>true
 | .mp ..=>true
 | _=>false
structure AS where
 tmps:List AV
 objs:List (Nat×Obj)
 deriving Inhabited
def lk:List (Nat×Obj)→Nat→Option Obj
 | [],_=>none
 | (j,o)::r,i=>if i=j then some o else lk r i
def upd:List (Nat×Obj)→Nat→Obj→List (Nat×Obj)
 | [],i,o=>[(i,o)]
 | (j,p)::r,i,o=>if i=j then (j,o)::r else (j,p)::upd r i o
theorem J2 (l:List (Nat×Obj)) (i:Nat) (o:Obj) (j:Nat):lk (upd l i o) j=if j=i then some o else lk l j:=by
 induction l with
 | nil=>simp [upd,lk]
 | cons p r ih =>
  obtain ⟨k,q⟩:=p;simp only [upd];by_cases h:i=k
  ·subst h;simp only [if_true,lk];split<;>rfl
  ·rw [if_neg h];simp only [lk,ih];by_cases h1:j=k
   ·subst h1;rw [if_pos rfl,if_pos rfl,if_neg (fun e=>h e.symm)]
   ·rw [if_neg h1,if_neg h1]
structure Gh where
 γ:Nat→Option Nat
 hd:Nat→Value
mutual
def RA (F:Fix) (G:Gh) (L:Nat→Option Obj):AV→Value→Prop
 | .d x,v=>R F x v
 | .ref i f,v=>v.oneCell'=true∧match L i with
  | some o=>o.isBox=true→∃ b,G.γ i=some b∧v=.pointer (some ⟨b,f,none⟩)
  | none=>False
 | .rref i n e f,v=>v.oneCell'=true∧match L i with
  | some (.row s els _)=>n≤els.length∧(n=els.length→∃ b,G.γ i=some b∧v=.pointer (some ⟨b,e*s+f,none⟩))
  | some _=>True
  | none=>False
 | .sl i n,v=>v.oneCell'=true∧match L i with
  | some (.row _ els _)=>n≤els.length∧(n=els.length→v=G.hd i)
  | some (.brow _ l)=>n≤l.length∧(n=l.length→v=G.hd i)
  | some _=>True
  | none=>False
 | .sb i n o,v=>v.oneCell'=true∧match L i with
  | some (.row s els _)=>n≤els.length∧(n=els.length→∃ b c,G.γ i=some b∧G.hd i=.slice (some ⟨b,0,none⟩) n c∧o<n∧v=.slice (some ⟨b,o*s,none⟩) (n-o) (c-o))
  | some _=>True
  | none=>False
 | .mpr i,v=>v.oneCell'=true∧match L i with
  | some o=>o.isBox=true→∃ b,G.γ i=some b∧v=.map (some b)
  | none=>False
 | .agg l,v=>∃ cs:List Value,v=.agg cs.toArray∧RAs F G L l cs∧∀ u∈cs,u.oneCell'=true
 | .tup l,v=>∃ cs:List Value,v=.tuple cs.toArray∧RAs F G L l cs
 | .clo f l,v=>∃ cs:List Value,v=.func (.func f) #[] cs.toArray∧RAs F G L l cs
 | .nils _,v=>v=.slice none 0 0
 | .dead,_=>True
 | .bad _,v=>v.oneCell'=true
def RAs (F:Fix) (G:Gh) (L:Nat→Option Obj):List AV→List Value→Prop
 | [],vs=>vs=[]
 | x::l,vs=>∃ v r,vs=v::r∧RA F G L x v∧RAs F G L l r
end
def Yo (G:Gh) (L:Nat→Option Obj) (G':Gh) (L':Nat→Option Obj):Prop :=
 ∀ i o,L i=some o→∃ o',L' i=some o'∧(o'.isBox=true→o.isBox=true∧G'.γ i=G.γ i) ∧
  (∀ s els' k',o'=.row s els' k'→∃ els k,o=.row s els k∧els.length≤els'.length∧(els'.length=els.length→G'.γ i=G.γ i∧G'.hd i=G.hd i)) ∧
  ∀ t l',o'=.brow t l'→∃ l,o=.brow t l∧l.length≤l'.length∧(l'.length=l.length→G'.γ i=G.γ i∧G'.hd i=G.hd i)
theorem Yo.refl (G:Gh) (L:Nat→Option Obj):Yo G L G L:=fun _ o h=>⟨o,h,fun hb=>⟨hb,rfl⟩,fun _ els' k' he=>⟨els',k',he,Zl _,fun _=>⟨rfl,rfl⟩⟩,fun _ l' he=>⟨l',he,Zl _,fun _=>⟨rfl,rfl⟩⟩⟩
mutual
theorem RA.mono {F F':Fix} {G G':Gh} {L L':Nat→Option Obj} (h:F.le F') (g:Yo G L G' L'):∀ {x:AV} {v:Value},RA F G L x v→RA F' G' L' x v
 | .d x,_,hr=>by simp only [RA] at hr ⊢;exact hr.mono h
 | .ref i f,v,hr=>by
  simp only [RA] at hr ⊢;cases hl:L i with
  | none=>simp [hl] at hr
  | some o =>
   obtain ⟨o',h1,h2,_⟩:=g i o hl;simp only [hl] at hr;simp only [h1];refine ⟨hr.1,fun hb=>?_⟩;obtain ⟨g1,g2⟩:=h2 hb;rw [g2];exact hr.2 g1
 | .mpr i,v,hr=>by
  simp only [RA] at hr ⊢;cases hl:L i with
  | none=>simp [hl] at hr
  | some o =>
   obtain ⟨o',h1,h2,_⟩:=g i o hl;simp only [hl] at hr;simp only [h1];refine ⟨hr.1,fun hb=>?_⟩;obtain ⟨g1,g2⟩:=h2 hb;rw [g2];exact hr.2 g1
 | .rref i n e f,v,hr=>by
  simp only [RA] at hr ⊢;cases hl:L i with
  | none=>simp [hl] at hr
  | some o =>
   obtain ⟨o',h1,_,h3,h4⟩:=g i o hl;simp only [hl] at hr;simp only [h1];cases o' with
   | row s els' k' =>
    obtain ⟨els,k,rfl,M8,Ky⟩:=h3 s els' k' rfl;simp only at hr ⊢;obtain ⟨a0,a1,a2⟩:=hr;refine ⟨a0,by omega,fun hn=>?_⟩
    obtain ⟨b,q1,q2⟩:=a2 (by omega)
    exact ⟨b,by rw [(Ky (by omega)).1];exact q1,q2⟩
   | _=>exact ⟨hr.1,trivial⟩
 | .sl i n,v,hr=>by
  simp only [RA] at hr ⊢;cases hl:L i with
  | none=>simp [hl] at hr
  | some o =>
   obtain ⟨o',h1,_,h3,h4⟩:=g i o hl;simp only [hl] at hr;simp only [h1];cases o' with
   | row s els' k' =>
    obtain ⟨els,k,rfl,M8,Ky⟩:=h3 s els' k' rfl;simp only at hr ⊢;obtain ⟨a0,a1,a2⟩:=hr;exact ⟨a0,by omega,fun hn=>by rw [(Ky (by omega)).2];exact a2 (by omega)⟩
   | brow t l' =>
    obtain ⟨l,rfl,M8,Ky⟩:=h4 t l' rfl;simp only at hr ⊢;obtain ⟨a0,a1,a2⟩:=hr;exact ⟨a0,by omega,fun hn=>by rw [(Ky (by omega)).2];exact a2 (by omega)⟩
   | _=>exact ⟨hr.1,trivial⟩
 | .sb i n o,v,hr=>by
  simp only [RA] at hr ⊢;cases hl:L i with
  | none=>simp [hl] at hr
  | some ob =>
   obtain ⟨o',h1,_,h3,h4⟩:=g i ob hl;simp only [hl] at hr;simp only [h1];cases o' with
   | row s els' k' =>
    obtain ⟨els,k,rfl,M8,Ky⟩:=h3 s els' k' rfl;simp only at hr ⊢;obtain ⟨a0,a1,a2⟩:=hr;exact ⟨a0,by omega,fun hn=>by rw [(Ky (by omega)).2,(Ky (by omega)).1];exact a2 (by omega)⟩
   | _=>exact ⟨hr.1,trivial⟩
 | .agg l,v,hr=>by
  simp only [RA] at hr ⊢;obtain ⟨cs,h1,h2,h3⟩:=hr;exact ⟨cs,h1,RAs.mono h g h2,h3⟩
 | .tup l,v,hr=>by
  simp only [RA] at hr ⊢;obtain ⟨cs,h1,h2⟩:=hr;exact ⟨cs,h1,RAs.mono h g h2⟩
 | .clo f l,v,hr=>by
  simp only [RA] at hr ⊢;obtain ⟨cs,h1,h2⟩:=hr;exact ⟨cs,h1,RAs.mono h g h2⟩
 | .nils _,_,hr=>by simpa [RA] using hr
 | .dead,_,_=>by simp [RA]
 | .bad _,_,hr=>by simpa only [RA] using hr
theorem RAs.mono {F F':Fix} {G G':Gh} {L L':Nat→Option Obj} (h:F.le F') (g:Yo G L G' L'):∀ {l:List AV} {vs:List Value},RAs F G L l vs→RAs F' G' L' l vs
 | [],_,hr=>by simpa [RAs] using hr
 | x::l,vs,hr=>by
  simp only [RAs] at hr ⊢;obtain ⟨v,r,h1,h2,h3⟩:=hr;exact ⟨v,r,h1,RA.mono h g h2,RAs.mono h g h3⟩
end
theorem RAs.length {F:Fix} {G:Gh} {L:Nat→Option Obj}:∀ {l:List AV} {vs:List Value},RAs F G L l vs→vs.length=l.length
 | [],_,h=>by simp only [RAs] at h;simp [h]
 | _::l,_,h=>by
  simp only [RAs] at h;obtain ⟨v,r,rfl,_,h3⟩:=h;simp [RAs.length h3]
theorem RAs.at {F:Fix} {G:Gh} {L:Nat→Option Obj}:∀ {l:List AV} {vs:List Value},RAs F G L l vs→∀ {k:Nat} {x:AV},l[k]?=some x→∃ u,vs[k]?=some u∧RA F G L x u
 | [],_,_,k,x,hk=>by simp at hk
 | y::l,vs,h,k,x,hk=>by
  simp only [RAs] at h;obtain ⟨v,r,rfl,h2,h3⟩:=h;cases k with
  | zero=>simp at hk;subst hk;exact ⟨v,rfl,h2⟩
  | succ k=>simp only [List.getElem?_cons_succ] at hk ⊢;exact RAs.at h3 hk
theorem RAs.set {F:Fix} {G:Gh} {L:Nat→Option Obj}:∀ {l:List AV} {vs:List Value} {k:Nat} {x:AV} {v:Value},RAs F G L l vs→RA F G L x v→RAs F G L (l.set k x) (vs.set k v)
 | [],_,_,_,_,h,_=>by simp only [RAs] at h;subst h;simp [RAs]
 | y::l,vs,k,x,v,h,hx=>by
  simp only [RAs] at h;obtain ⟨u,r,rfl,h2,h3⟩:=h;cases k with
  | zero=>simp only [Jr,RAs];exact ⟨v,r,rfl,hx,h3⟩
  | succ k=>simp only [Jx,RAs];exact ⟨u,_,rfl,h2,RAs.set h3 hx⟩
theorem RAs.append {F:Fix} {G:Gh} {L:Nat→Option Obj}:∀ {l l':List AV} {vs vs':List Value},RAs F G L l vs→RAs F G L l' vs'→RAs F G L (l++l') (vs++vs')
 | [],_,_,_,h,h'=>by simp only [RAs] at h;subst h;simpa using h'
 | x::l,l',vs,vs',h,h'=>by
  simp only [RAs] at h;obtain ⟨v,r,rfl,h2,h3⟩:=h;simp only [List.cons_append,RAs];exact ⟨v,r++vs',rfl,h2,RAs.append h3 h'⟩
theorem RAs.of_Rs {F:Fix} {G:Gh} {L:Nat→Option Obj}:∀ {l:List D} {vs:List Value},Rs F l vs→RAs F G L (l.map .d) vs
 | [],_,h=>by simp only [Rs] at h;simpa [RAs] using h
 | x::l,vs,h=>by
  simp only [Rs] at h;obtain ⟨v,r,h1,h2,h3⟩:=h;simp only [List.map_cons,RAs,RA];exact ⟨v,r,h1,h2,RAs.of_Rs h3⟩
theorem Rs.of_RAs {F:Fix} {G:Gh} {L:Nat→Option Obj}:∀ {l:List D} {vs:List Value},RAs F G L (l.map .d) vs→Rs F l vs
 | [],_,h=>by simp only [List.map_nil,RAs] at h;simpa [Rs] using h
 | x::l,vs,h=>by
  simp only [List.map_cons,RAs,RA] at h;obtain ⟨v,r,h1,h2,h3⟩:=h;simp only [Rs];exact ⟨v,r,h1,h2,Rs.of_RAs h3⟩
def yH (cells:List AV) (cs:List Value) (t b:Nat):Prop:=∀ T,cells.head?=some (.bad T)→t=T∧(cs.head?=some (.pointer none)∨cs.head?=some (.pointer (some ⟨b,0,none⟩)))
def Qf (F:Fix) (G:Gh) (L:Nat→Option Obj) (i:Nat):Obj→Prop
 | .box _ cells=>∃ (b:Nat) (cs:Array Value) (t:TypeId),G.γ i=some b∧F.w.heap[b]?=some (.cells cs t (0,0))∧RAs F G L cells cs.toList ∧
   (∀ u∈cs.toList,u.oneCell'=true)∧F.m b=0∧yH cells cs.toList t b
 | .fbox s x=>∃ (b:Nat) (u:Value),G.γ i=some b∧R F x u∧u.cells.size=s∧(∀ y∈u.cells.toList,y.oneCell'=true)∧Zef F b 0 u.cells.toList
 | .row s els k=>(G.γ i=none∧G.hd i=.slice none 0 0∧els=[]∧k=0) ∨
   ∃ (b cap:Nat) (cs:Array Value) (t:TypeId),G.γ i=some b∧G.hd i=.slice (some ⟨b,0,none⟩) els.length cap∧els.length≤cap∧cap≤maxLen ∧
    F.w.heap[b]?=some (.cells cs t (0,0))∧cs.size=cap*s∧RE F s els (cs.toList.take (els.length*s))∧F.m b=k*s∧k≤els.length
 | .mp ks vs fr=>∃ (b:Nat) (es:Array MapEntry) (c:Nat),G.γ i=some b∧F.w.heap[b]?=some (.map es c)∧Rs F ks (es.toList.map MapEntry.key)∧Rs F vs (es.toList.map MapEntry.val)∧F.m b=cond fr 1 0∧Go.MapKept.Stamped es c
 | .gone=>True
 | .brow t l=>(G.γ i=none∧G.hd i=.slice none 0 0∧l=[]) ∨
   ∃ (b cap:Nat) (cs:Array Value),G.γ i=some b∧G.hd i=.slice (some ⟨b,0,none⟩) l.length cap∧l.length≤cap∧cap≤maxLen ∧
    F.w.heap[b]?=some (.cells cs t (0,0))∧cs.size=cap∧cs.toList.take l.length=l.map (fun u=>Value.int .u8 u.toNat)∧F.m b=0
 | .hole j n e f x=>∃ (b off:Nat) (v:Value),RA F G L (.rref j n e f) (.pointer (some ⟨b,off,none⟩))∧off<F.m b∧F.w.cell? ⟨b,off,none⟩=some v∧RA F G L x v
 | .slot _ _=>True
structure Frame (base:Nat) (pass:Nat→Prop) (w w':World):Prop where
 os:w'.os=w.os
 tape:w'.tape=w.tape
 output:w'.output=w.output
 size:w.heap.size≤w'.heap.size
 block:∀ b,b<base→¬ pass b→w'.heap[b]?=w.heap[b]?
theorem Frame.refl (base:Nat) (pass:Nat→Prop) (w:World):Frame base pass w w:=⟨rfl,rfl,rfl,Zl _,fun _ _ _=>rfl⟩
theorem Frame.trans {base:Nat} {pass:Nat→Prop} {a b c:World} (h:Frame base pass a b) (k:Frame base pass b c):Frame base pass a c :=
 ⟨k.os.trans h.os,k.tape.trans h.tape,k.output.trans h.output,Nat.le_trans h.size k.size,fun i hi hp=>(k.block i hi hp).trans (h.block i hi hp)⟩
structure Glob (base:Nat) (pass:Nat→Prop) (w:World):Prop where
 le:glG≤base
 own:∀ b,pass b→glG≤b
 at_:∃ W,tabQ W∧∀ b,b<glG→w.heap[b]?=W.heap[b]?
structure FrameG (base:Nat) (pass:Nat→Prop) (w w':World):Prop extends Frame base pass w w' where
 glob:Glob base pass w
theorem FrameG.trans {base:Nat} {pass:Nat→Prop} {a b c:World} (h:FrameG base pass a b) (k:Frame base pass b c):FrameG base pass a c:=⟨h.toFrame.trans k,h.glob⟩
theorem FrameG.refl {base:Nat} {pass:Nat→Prop} {w:World} (h:Glob base pass w):FrameG base pass w w:=⟨Frame.refl _ _ _,h⟩
theorem FrameG.call {base:Nat} {pass:Nat→Prop} {w w':World} (h:FrameG base pass w w') {pass':Nat→Prop} (hs:base≤w'.heap.size) (hp:∀ b,pass' b→base≤b∨pass b):Glob w'.heap.size pass' w':=by
 obtain ⟨h1,h2,W,h3,h4⟩:=h.glob;refine ⟨Nat.le_trans h1 hs,fun b hb=>?_,W,h3,fun b hb=>?_⟩
 ·rcases hp b hb with h|h
  ·exact Nat.le_trans h1 h
  ·exact h2 b h
 ·rw [h.block b (Nat.lt_of_lt_of_le hb h1) (fun hp=>absurd (h2 b hp) (by omega)),h4 b hb]
def lB (G G':Gh) (i:Nat) (o o':Obj):Prop:=(o'.isBox=true→o.isBox=true∧G'.γ i=G.γ i) ∧
 (∀ s els' k',o'=.row s els' k'→∃ els k,o=.row s els k∧els.length≤els'.length∧(els'.length=els.length→G'.γ i=G.γ i∧G'.hd i=G.hd i)) ∧
 ∀ t l',o'=.brow t l'→∃ l,o=.brow t l∧l.length≤l'.length∧(l'.length=l.length→G'.γ i=G.γ i∧G'.hd i=G.hd i)
theorem lB.refl (G:Gh) (i:Nat) (o:Obj):lB G G i o o:=⟨fun hb=>⟨hb,rfl⟩,fun _ els' k' he=>⟨els',k',he,Zl _,fun _=>⟨rfl,rfl⟩⟩,fun _ l' he=>⟨l',he,Zl _,fun _=>⟨rfl,rfl⟩⟩⟩
theorem lB.trans {G G' G'':Gh} {i:Nat} {o o' o'':Obj} (h:lB G G' i o o') (k:lB G' G'' i o' o''):lB G G'' i o o'':=by
 refine ⟨fun hb=>?_,fun s els'' k'' he=>?_,fun t l'' he=>?_⟩;rotate_left 2
 ·obtain ⟨l',e1,e2,e3⟩:=k.2.2 t l'' he;obtain ⟨l,f1,f2,f3⟩:=h.2.2 t l' e1;refine ⟨l,f1,Nat.le_trans f2 e2,fun kI=>?_⟩;obtain ⟨a1,a2⟩:=e3 (by omega)
  obtain ⟨b1,b2⟩:=f3 (by omega)
  exact ⟨a1.trans b1,a2.trans b2⟩
 ·obtain ⟨h1,h2⟩:=k.1 hb;obtain ⟨h3,h4⟩:=h.1 h1;exact ⟨h3,h2.trans h4⟩
 ·obtain ⟨els',k',e1,e2,e3⟩:=k.2.1 s els'' k'' he;obtain ⟨els,k,f1,f2,f3⟩:=h.2.1 s els' k' e1;refine ⟨els,k,f1,Nat.le_trans f2 e2,fun kI=>?_⟩;obtain ⟨a1,a2⟩:=e3 (by omega)
  obtain ⟨b1,b2⟩:=f3 (by omega)
  exact ⟨a1.trans b1,a2.trans b2⟩
theorem Yo.trans {G G1 G2:Gh} {L L1 L2:Nat→Option Obj} (h:Yo G L G1 L1) (k:Yo G1 L1 G2 L2):Yo G L G2 L2:=fun i o hi=>by
 obtain ⟨oa,a1,a2⟩:=h i o hi;obtain ⟨ob,b1,b2⟩:=k i oa a1;have a3:lB G G1 i o oa:=a2;have b3:lB G1 G2 i oa ob:=b2;exact ⟨ob,b1,a3.trans b3⟩
structure Anc extends Fix where
 G0:Gh
 L0:Nat→Option Obj
def Zj8 (F0:Anc) (G:Gh) (L:Nat→Option Obj):Prop:=∀ i o,F0.L0 i=some o→90000≤i∧∃ o',L i=some o'∧lB F0.G0 G i o o'
theorem Zj8.goes {F0:Anc} {G G':Gh} {L L':Nat→Option Obj} (h:Zj8 F0 G L) (g:Yo G L G' L'):Zj8 F0 G' L':=fun i o ho=>by
 obtain ⟨h1,o',h2,h3⟩:=h i o ho;obtain ⟨o'',g1,g2,g3⟩:=g i o' h2;exact ⟨h1,o'',g1,h3.trans ⟨g2,g3⟩⟩
structure SRg (base:Nat) (pass:Nat→Prop) (F0:Anc) (m:Nat→Nat) (G:Gh) (st:AS) (a:Act) (w:World):Prop where
 defers:a.defers=[]
 tmps:RAs ⟨w,m⟩ G (lk st.objs) st.tmps a.tmps.toList
 objs:∀ i o,lk st.objs i=some o→Qf ⟨w,m⟩ G (lk st.objs) i o
 apart:∀ i j oi oj b,lk st.objs i=some oi→lk st.objs j=some oj→oi.owns=true→oj.owns=true→G.γ i=some b→G.γ j=some b→i=j
 mine:∀ i o b,lk st.objs i=some o→o.owns=true→G.γ i=some b→b<w.heap.size∧(base≤b∨pass b)
 frame:FrameG base pass F0.w w
 old:∀ b,b<base→¬ pass b→m b=F0.m b
 new:∀ b,w.heap.size≤b→m b=0
 small:base≤w.heap.size
 lent:Zj8 F0 G (lk st.objs)
def SR (base:Nat) (pass:Nat→Prop) (F0:Anc) (st:AS) (a:Act) (w:World):Prop:=∃ m G,SRg base pass F0 m G st a w
theorem Qf.mono {F F':Fix} {G G':Gh} {L L':Nat→Option Obj} (h:F.le F') (g:Yo G L G' L') {i:Nat} {o:Obj} (hγ:G'.γ i=G.γ i) (Zip:G'.hd i=G.hd i)
  (ho:o.owns=true→∀ b,G.γ i=some b→F'.w.heap[b]?=F.w.heap[b]?∧F'.m b=F.m b) (hk:Qf F G L i o):Qf F' G' L' i o:=by
 cases o with
 | box ag cells =>
  simp only [Qf] at hk ⊢;obtain ⟨b,cs,t,h1,h2,h3,h4,h5,h6⟩:=hk;obtain ⟨q1,q2⟩:=ho rfl b h1;exact ⟨b,cs,t,by rw [hγ];exact h1,by rw [q1];exact h2,RAs.mono h g h3,h4,by rw [q2];exact h5,h6⟩
 | fbox s x =>
  simp only [Qf] at hk ⊢;obtain ⟨b,u,h1,h2,h3,h4,h5⟩:=hk;exact ⟨b,u,by rw [hγ];exact h1,h2.mono h,h3,h4,h5.mono h⟩
 | row s els k =>
  simp only [Qf] at hk ⊢;rcases hk with ⟨h1,h2,h3,h4⟩|⟨b,cap,cs,t,h1,h2,h3,h4,h5,h6,h7,h8,h9⟩
  ·exact .inl ⟨by rw [hγ];exact h1,by rw [Zip];exact h2,h3,h4⟩
  ·obtain ⟨q1,q2⟩:=ho rfl b h1;exact .inr ⟨b,cap,cs,t,by rw [hγ];exact h1,by rw [Zip];exact h2,h3,h4,by rw [q1];exact h5,h6,RE.mono h h7,by rw [q2];exact h8,h9⟩
 | mp ks vs fr =>
  simp only [Qf] at hk ⊢;obtain ⟨b,es,c,h1,h2,h3,h4,h5,h6⟩:=hk;obtain ⟨q1,q2⟩:=ho rfl b h1;exact ⟨b,es,c,by rw [hγ];exact h1,by rw [q1];exact h2,Rs.mono h h3,Rs.mono h h4,by rw [q2];exact h5,h6⟩
 | gone=>trivial
 | brow t l =>
  simp only [Qf] at hk ⊢;rcases hk with ⟨h1,h2,h3⟩|⟨b,cap,cs,h1,h2,h3,h4,h5,h6,h7,h8⟩
  ·exact .inl ⟨by rw [hγ];exact h1,by rw [Zip];exact h2,h3⟩
  ·obtain ⟨q1,q2⟩:=ho rfl b h1;exact .inr ⟨b,cap,cs,by rw [hγ];exact h1,by rw [Zip];exact h2,h3,h4,by rw [q1];exact h5,h6,h7,by rw [q2];exact h8⟩
 | slot e f=>trivial
 | hole j n e f x =>
  simp only [Qf] at hk ⊢;obtain ⟨b,off,v,h1,h2,h3,h4⟩:=hk;exact ⟨b,off,v,RA.mono h g h1,Nat.lt_of_lt_of_le h2 (h.1 b).1,((h.1 b).2 off h2).trans h3,RA.mono h g h4⟩
section
variable {base:Nat} {pass:Nat→Prop} {F0:Anc} {m m':Nat→Nat} {G G':Gh} {st:AS} {a:Act} {w w':World}
theorem SRg.put (h:SRg base pass F0 m G st a w) {t:Nat} {x:AV} {v:Value} (hx:RA ⟨w,m⟩ G (lk st.objs) x v) :
  SRg base pass F0 m G { st with tmps:=st.tmps.set t x } (a.put (some t) v) w :=
 ⟨h.defers,by simpa [Act.put] using RAs.set h.tmps hx,h.objs,h.apart,h.mine,h.frame,h.old,h.new,h.small,h.lent⟩
theorem SRg.putO (h:SRg base pass F0 m G st a w) {t:Option Nat} {x:AV} {v:Value} (hx:RA ⟨w,m⟩ G (lk st.objs) x v) :
  SRg base pass F0 m G { st with tmps:=(match t with|some t=>st.tmps.set t x|none=>st.tmps) } (a.put t v) w:=by
 cases t with
 | none=>exact h
 | some t=>exact h.put hx
theorem SRg.objG (h:SRg base pass F0 m G st a w) (i:Nat) (o':Obj) (hF:Fix.le ⟨w,m⟩ ⟨w',m'⟩) (hG:∀ j,j≠i→G'.γ j=G.γ j∧G'.hd j=G.hd j)
  (Bd:∀ o,lk st.objs i=some o→(o'.isBox=true→o.isBox=true∧G'.γ i=G.γ i) ∧
   (∀ s els' k',o'=.row s els' k'→∃ els k,o=.row s els k∧els.length≤els'.length∧(els'.length=els.length→G'.γ i=G.γ i∧G'.hd i=G.hd i)) ∧
   ∀ t l',o'=.brow t l'→∃ l,o=.brow t l∧l.length≤l'.length∧(l'.length=l.length→G'.γ i=G.γ i∧G'.hd i=G.hd i))
  (X5:Yo G (lk st.objs) G' (lk (upd st.objs i o'))→Qf ⟨w',m'⟩ G' (lk (upd st.objs i o')) i o')
  (hother:∀ j o,j≠i→lk st.objs j=some o→o.owns=true→∀ b,G.γ j=some b→w'.heap[b]?=w.heap[b]?∧m' b=m b)
  (eK:o'.owns=true→∀ b,G'.γ i=some b→b<w'.heap.size∧(base≤b∨pass b)∧∀ j o,j≠i→lk st.objs j=some o→o.owns=true→G.γ j≠some b)
  (rY:Frame base pass w w') (hold:∀ b,b<base→¬ pass b→m' b=m b) (Vm:∀ b,w'.heap.size≤b→m' b=0) :
  Yo G (lk st.objs) G' (lk (upd st.objs i o'))∧SRg base pass F0 m' G' { st with objs:=upd st.objs i o' } a w':=by
 have Sw:Yo G (lk st.objs) G' (lk (upd st.objs i o')):=by
  intro j o hj;rw [J2];by_cases V8:j=i
  ·subst V8;rw [if_pos rfl];obtain ⟨g1,g2⟩:=Bd o hj;exact ⟨o',rfl,g1,g2⟩
  ·rw [if_neg V8];obtain ⟨q1,q2⟩:=hG j V8;exact ⟨o,hj,fun hb=>⟨hb,q1⟩,fun s els' k' he=>⟨els',k',he,Zl _,fun _=>⟨q1,q2⟩⟩,fun t l' he=>⟨l',he,Zl _,fun _=>⟨q1,q2⟩⟩⟩
 refine ⟨Sw,?_⟩;constructor
 ·exact h.defers
 ·exact RAs.mono hF Sw h.tmps
 ·intro j o hj;simp only [J2] at hj;by_cases V8:j=i
  ·subst V8;rw [if_pos rfl] at hj;injection hj with hj
   subst hj;exact X5 Sw
  ·rw [if_neg V8] at hj;obtain ⟨q1,q2⟩:=hG j V8;exact Qf.mono hF Sw q1 q2 (fun ho b hb=>hother j o V8 hj ho b hb) (h.objs j o hj)
 ·intro j k oj ok b hj hk C2 hok' Cr Qb8;simp only [J2] at hj hk;by_cases V8:j=i
  ·by_cases Zbs:k=i
   ·rw [V8,Zbs]
   ·rw [if_pos V8] at hj;rw [if_neg Zbs] at hk;injection hj with hj
    subst hj;subst V8;rw [(hG k Zbs).1] at Qb8;exact absurd Qb8 ((eK C2 b Cr).2.2 k ok Zbs hk hok')
  ·by_cases Zbs:k=i
   ·rw [if_neg V8] at hj;rw [if_pos Zbs] at hk;injection hk with hk
    subst hk;subst Zbs;rw [(hG j V8).1] at Cr;exact absurd Cr ((eK hok' b Qb8).2.2 j oj V8 hj C2)
   ·rw [if_neg V8] at hj;rw [if_neg Zbs] at hk;rw [(hG j V8).1] at Cr;rw [(hG k Zbs).1] at Qb8;exact h.apart j k oj ok b hj hk C2 hok' Cr Qb8
 ·intro j o b hj ho hb;simp only [J2] at hj;by_cases V8:j=i
  ·subst V8;rw [if_pos rfl] at hj;injection hj with hj
   subst hj;exact ⟨(eK ho b hb).1,(eK ho b hb).2.1⟩
  ·rw [if_neg V8] at hj;rw [(hG j V8).1] at hb;obtain ⟨q1,q2⟩:=h.mine j o b hj ho hb;exact ⟨Nat.lt_of_lt_of_le q1 rY.size,q2⟩
 ·exact h.frame.trans rY
 ·exact fun b hb hp=>(hold b hb hp).trans (h.old b hb hp)
 ·exact Vm
 ·exact Nat.le_trans h.small rY.size
 ·exact h.lent.goes Sw
theorem SRg.obj (h:SRg base pass F0 m G st a w) (i:Nat) (o':Obj) (hF:Fix.le ⟨w,m⟩ ⟨w',m'⟩) (hG:∀ j,j≠i→G'.γ j=G.γ j∧G'.hd j=G.hd j)
  (Bd:∀ o,lk st.objs i=some o→(o'.isBox=true→o.isBox=true∧G'.γ i=G.γ i) ∧
   ∀ s els' k',o'=.row s els' k'→∃ els k,o=.row s els k∧els.length≤els'.length∧(els'.length=els.length→G'.γ i=G.γ i∧G'.hd i=G.hd i))
  (X5:Yo G (lk st.objs) G' (lk (upd st.objs i o'))→Qf ⟨w',m'⟩ G' (lk (upd st.objs i o')) i o')
  (hother:∀ j o,j≠i→lk st.objs j=some o→o.owns=true→∀ b,G.γ j=some b→w'.heap[b]?=w.heap[b]?∧m' b=m b)
  (eK:o'.owns=true→∀ b,G'.γ i=some b→b<w'.heap.size∧(base≤b∨pass b)∧∀ j o,j≠i→lk st.objs j=some o→o.owns=true→G.γ j≠some b)
  (rY:Frame base pass w w') (hold:∀ b,b<base→¬ pass b→m' b=m b) (Vm:∀ b,w'.heap.size≤b→m' b=0) (H7:∀ t l,o'≠.brow t l:=by simp) :
  Yo G (lk st.objs) G' (lk (upd st.objs i o'))∧SRg base pass F0 m' G' { st with objs:=upd st.objs i o' } a w' :=
 h.objG i o' hF hG (fun o ho=>⟨(Bd o ho).1,(Bd o ho).2,fun t l he=>absurd he (H7 t l)⟩) X5 hother eK rY hold Vm
theorem SRg.grow (h:SRg base pass F0 m G st a w) (hb:Below w.heap.size w w') (hm:∀ b,b<w.heap.size→m' b=m b) (Vm:∀ b,w'.heap.size≤b→m' b=0) :
  Fix.le ⟨w,m⟩ ⟨w',m'⟩∧SRg base pass F0 m' G st a w':=by
 have hF:Fix.le ⟨w,m⟩ ⟨w',m'⟩:=by
  refine ⟨fun b=>?_,fun b es c Zh8 Gd=>?_⟩;rcases Nat.lt_or_ge b w.heap.size with Qg|Pj
  ·refine ⟨by simp only;rw [hm b Qg];exact Zl _,fun off _=>?_⟩
   exact hb.cell (p:=⟨b,off,none⟩) Qg
  ·have:=h.new b Pj;exact ⟨by simp only;omega,fun off ho=>by simp only at ho;omega⟩
  ·rcases Nat.lt_or_ge b w.heap.size with Qg|Pj
   ·rw [hb.block b Qg];exact Gd
   ·have:=h.new b Pj;simp only at Zh8;omega
 refine ⟨hF,?_⟩;constructor
 ·exact h.defers
 ·exact RAs.mono hF (Yo.refl _ _) h.tmps
 ·intro i o hi;refine Qf.mono hF (Yo.refl _ _) rfl rfl (fun ho b Gd=>?_) (h.objs i o hi);have Qg:=(h.mine i o b hi ho Gd).1;exact ⟨hb.block b Qg,hm b Qg⟩
 ·exact h.apart
 ·intro i o b hi ho Gd;obtain ⟨q1,q2⟩:=h.mine i o b hi ho Gd;exact ⟨Nat.lt_of_lt_of_le q1 hb.size,q2⟩
 ·exact h.frame.trans ⟨hb.os,hb.tape,hb.output,hb.size,fun b Gd _=>hb.block b (Nat.lt_of_lt_of_le Gd h.small)⟩
 ·exact fun b Gd hp=>(hm b (Nat.lt_of_lt_of_le Gd h.small)).trans (h.old b Gd hp)
 ·exact Vm
 ·exact Nat.le_trans h.small hb.size
 ·exact h.lent
theorem SRg.drew (h:SRg base pass F0 m G st a w):SRg base pass F0 m G st a w.drew :=
 (h.grow (m':=m) ((Below.refl _ _).drew) (fun _ _=>rfl) h.new).2
end
def D.i:D→Int
 | .int _ n=>n
 | _=>0
def D.b:D→Bool
 | .bool b=>b
 | _=>false
def D.s:D→List UInt8
 | .str s=>s
 | _=>[]
def D.l:D→List D
 | .list _ l=>l
 | _=>[]
def D.isInt (k:IntKind):D→Prop
 | .int k' _=>k'=k
 | _=>False
def D.isBool:D→Prop
 | .bool _=>True
 | _=>False
def D.isStr:D→Prop
 | .str _=>True
 | _=>False
def D.isList (s:Nat):D→Prop
 | .list s' _=>s'=s
 | _=>False
def D.fits (s:Nat):D→Prop
 | .agg l=>l.length=s
 | .tup _=>False
 | _=>s=1
def D.cell:D→Nat→D
 | .agg l,f=>l.getD f .nilp
 | x,_=>x
def D.asAgg:D→D
 | .agg l=>.agg l
 | x=>.agg [x]
def el (l:List D) (i:Nat):D:=l.getD i .nilp
inductive TK where
 | int (k:IntKind)
 | bool
 | str
 | slice (e:Nat)
 | struct (fs:List (Nat×Nat))
 | array (n e:Nat)
 | ptr (e:Nat)
 | map (k e:Nat)
 | func
 | other
 deriving Inhabited
inductive SK where
 | int (k:IntKind)
 | bool
 | str
def SK.is:SK→D→Prop
 | .int k,x=>x.isInt k
 | .bool,x=>x.isBool
 | .str,x=>x.isStr
structure TI where
 kind:TK
 size:Nat
 bytes:Nat
 zero:AV
 zd:D
 eqk:List SK:=[]
 deriving Inhabited
inductive CV where
 | d (x:D)
 | own (s:Nat) (l:List D)
 | tup (l:List CV)
 deriving Inhabited
structure Con where
 modes:List Bool
 outs:List Bool
 pre:List CV→Prop
 fn:List CV→CV
structure BCon where
 X:Type
 ok:X→Prop
 args:X→List AV
 objs:X→List Obj
 res:X→D
 post:X→List Obj
 out:X→Option Nat:=fun _=>none
def BCon.rv (bc:BCon) (x:bc.X):AV:=match bc.out x with
 | none=>.d (bc.res x)
 | some j=>.mpr (90000+j)
structure Ctx where
 τ:Nat→TI
 Γ:Nat→Option Con
 dp:Nat:=60
 Δ:Nat→Option BCon:=fun _=>none
 cuts:List Nat:=[]
 wr:Bool:=false
def TK.ag:TK→Option Bool
 | .struct _=>some true
 | .array ..=>some true
 | .other=>none
 | _=>some false
def Ctx.size (C:Ctx) (t:Nat):Nat:=(C.τ t).size
def Ctx.ag (C:Ctx) (t:Nat):Option Bool:=(C.τ t).kind.ag
def Ctx.esize (C:Ctx) (t:Nat):Nat:=match (C.τ t).kind with
 | .slice e=>C.size e
 | .array _ e=>C.size e
 | _=>0
def Lr:Value→Option D
 | .int k n=>some (.int k n)
 | .bool b=>some (.bool b)
 | .string s=>some (.str s.data.toList)
 | .nilFunc=>some .nilf
 | .pointer none=>some .nilp
 | .map none=>some .nilm
 | .nilIface=>some .any
 | _=>none
def Gu (C:Ctx) (hint:Nat):Value→AV
 | .slice none 0 0=>.nils (C.esize hint)
 | v=>match Lr v with
  | some x=>.d x
  | none=>.dead
def AS.ev (C:Ctx) (st:AS) (hint:Nat):Operand→AV
 | .tmp t=>st.tmps.getD t .dead
 | .const v=>Gu C hint v
 | .func f=>.d (.clo f [])
 | .global _=>.dead
def lK:List AV→Option (List D)
 | []=>some []
 | .d x::r=>match lK r with
  | some l=>some (x::l)
  | none=>none
 | _::_=>none
def dD (l:List AV):AV:=match lK l with
 | some ds=>.d (.agg ds)
 | none=>.agg l
def mL (l:List AV):AV:=match lK l with
 | some ds=>.d (.tup ds)
 | none=>.tup l
def sT (f:Nat) (l:List AV):AV:=match lK l with
 | some ds=>.d (.clo f ds)
 | none=>.clo f l
def He (x:D):(k n:Nat)→List AV
 | _,0=>[]
 | k,n+1=>.d (x.cell k)::He x (k+1) n
def Zur:List AV→List AV
 | .bad _::l=>.dead::l
 | l=>l
def AV.cells (ag:Bool) (s:Nat):AV→List AV
 | .agg l=>Zur l
 | .d (.agg l)=>l.map .d
 | .d x=>if ag then He x 0 s else [.d x]
 | x=>[x]
def AV.fits (s:Nat):AV→Prop
 | .d x=>x.fits s
 | .agg l=>l.length=s
 | .tup _=>False
 | .dead=>False
 | .bad _=>False
 | _=>s=1
abbrev Z5:=List (Nat×Obj)
abbrev A7:=Option (Prop×AV×Z5)
def jK:AV→Option D
 | .d x=>some x
 | .nils s=>some (.list s [])
 | _=>none
def Ed:List AV→Option (List D)
 | []=>some []
 | x::l=>match jK x with
  | some y=>match Ed l with
   | some ys=>some (y::ys)
   | none=>none
  | none=>none
def Cw:AV→Z5→Option (Prop×D×Z5)
 | .d x,o=>some (True,x,o)
 | .nils s,o=>some (True,.list s [],o)
 | .sl i n,o=>match lk o i with
  | some (.row s els _)=>some (n=els.length,.list s els,upd o i (.row s els els.length))
  | _=>none
 | _,_=>none
def P1:List AV→Z5→Option (Prop×List D×Z5)
 | [],o=>some (True,[],o)
 | x::l,o=>match Cw x o with
  | some (c,y,o')=>match P1 l o' with
   | some (c',ys,o'')=>some (c∧c',y::ys,o'')
   | none=>none
  | none=>none
mutual
def pur:Nat→AV→Z5→Option (Prop×D×Z5)
 | 0,_,_=>none
 | _+1,.d x,o=>some (True,x,o)
 | _+1,.nils s,o=>some (True,.list s [],o)
 | _+1,.sl i n,o=>match lk o i with
  | some (.row s els _)=>some (n=els.length,.list s els,upd o i (.row s els els.length))
  | _=>none
 | _+1,.mpr i,o=>match lk o i with
  | some (.mp ks vs _)=>some (True,.map ks vs,upd o i (.mp ks vs true))
  | _=>none
 | n+1,.ref i 0,o=>match lk o i with
  | some (.fbox s x)=>some (True,.ptr s x,o)
  | some (.box ag cells)=>match purs n cells o with
   | some (c,xs,o')=>match lk o' i with
    | some (.box _ _)=>match xs,ag with
     | xs,true=>some (c,.ptr xs.length (.agg xs),upd o' i (.fbox xs.length (.agg xs)))
     | [x],false=>some (c,.ptr 1 x,upd o' i (.fbox 1 x))
     | _,_=>none
    | _=>none
   | none=>none
  | _=>none
 | n+1,.agg l,o=>match Ed l with
  | some xs=>some (True,.agg xs,o)
  | none=>match P1 l o with
   | some (c,xs,o')=>some (c,.agg xs,o')
   | none=>match purs n l o with
    | some (c,xs,o')=>some (c,.agg xs,o')
    | none=>none
 | n+1,.tup l,o=>match purs n l o with
  | some (c,xs,o')=>some (c,.tup xs,o')
  | none=>none
 | n+1,.clo f l,o=>match purs n l o with
  | some (c,xs,o')=>some (c,.clo f xs,o')
  | none=>none
 | _+1,_,_=>none
def purs:Nat→List AV→Z5→Option (Prop×List D×Z5)
 | 0,_,_=>none
 | _+1,[],o=>some (True,[],o)
 | n+1,x::l,o=>match pur n x o with
  | some (c,y,o')=>match purs n l o' with
   | some (c',ys,o'')=>some (c∧c',y::ys,o'')
   | none=>none
  | none=>none
end
def Jw (a b:Int):Bool:=decide (a<b)
def Xn (a b:Int):Bool:=decide (a≤b)
def Zz7 (a b:Int):Int:=if b<a then b else a
def Mt (a b:Int):Int:=if a<b then b else a
def Aj (k:IntKind) (n:Int):Prop:=k.min≤n∧n≤k.max
def D.eqb:D→D→Bool
 | .int _ a,.int _ b=>a==b
 | .bool a,.bool b=>a==b
 | .str a,.str b=>a==b
 | _,_=>false
def Hv:List D→List D→Bool
 | [],[]=>true
 | x::l,y::l'=>D.eqb x y&&Hv l l'
 | _,_=>false
def Du:List SK→List D→Prop
 | [],[]=>True
 | k::ks,x::l=>k.is x∧Du ks l
 | _,_=>False
def gJ (ks:List SK):D→Prop
 | .agg l=>Du ks l
 | _=>False
def lA:D→List D
 | .agg l=>l
 | _=>[]
def Zz6:D→Prop
 | .list _ l=>l≠[]
 | _=>False
def Qcf (k:IntKind) (n:Int):Int:=k.wrap n
def bL (C:Ctx) (op:BinOp) (t:Nat):AV→AV→Option (Prop×D)
 | .d x,.d y=>match (C.τ t).kind,op with
  | .int k,.add=>match C.wr with
   | false=>some (x.isInt k∧y.isInt k∧Aj k (x.i+y.i),.int k (x.i+y.i))
   | true=>some (x.isInt k∧y.isInt k,.int k (Qcf k (x.i+y.i)))
  | .int k,.sub=>match C.wr with
   | false=>some (x.isInt k∧y.isInt k∧Aj k (x.i-y.i),.int k (x.i-y.i))
   | true=>some (x.isInt k∧y.isInt k,.int k (Qcf k (x.i-y.i)))
  | .int k,.mul=>some (x.isInt k∧y.isInt k∧Aj k (x.i*y.i),.int k (x.i*y.i))
  | .int k,.quo=>some (x.isInt k∧y.isInt k∧y.i≠0∧Aj k (x.i.tdiv y.i),.int k (x.i.tdiv y.i))
  | .int k,.rem=>some (x.isInt k∧y.isInt k∧y.i≠0,.int k (x.i.tmod y.i))
  | .int k,.eql=>some (x.isInt k∧y.isInt k,.bool (x.i==y.i))
  | .int k,.neq=>some (x.isInt k∧y.isInt k,.bool (x.i != y.i))
  | .int k,.lss=>some (x.isInt k∧y.isInt k,.bool (Jw x.i y.i))
  | .int k,.leq=>some (x.isInt k∧y.isInt k,.bool (Xn x.i y.i))
  | .int k,.gtr=>some (x.isInt k∧y.isInt k,.bool (Jw y.i x.i))
  | .int k,.geq=>some (x.isInt k∧y.isInt k,.bool (Xn y.i x.i))
  | .int k,.shr=>match y with
   | .int _ n=>some (x.isInt k∧0≤n∧n≤k.bits,.int k (x.i.fdiv (2 ^ n.toNat)))
   | _=>none
  | .str,.add=>some (x.isStr∧y.isStr∧x.s.length+y.s.length≤9223372036854775807,.str (x.s++y.s))
  | .str,.eql=>some (x.isStr∧y.isStr,.bool (x.s==y.s))
  | .str,.neq=>some (x.isStr∧y.isStr,.bool (!(x.s==y.s)))
  | .str,.lss=>some (x.isStr∧y.isStr,.bool (Op.bytesLess x.s y.s))
  | .str,.leq=>some (x.isStr∧y.isStr,.bool (Op.bytesLess x.s y.s||x.s==y.s))
  | .str,.gtr=>some (x.isStr∧y.isStr,.bool (!(Op.bytesLess x.s y.s||x.s==y.s)))
  | .str,.geq=>some (x.isStr∧y.isStr,.bool (!(Op.bytesLess x.s y.s)))
  | .struct _,.eql=>match (C.τ t).eqk with
   | []=>none
   | ks=>some (gJ ks x∧gJ ks y,.bool (Hv (lA x) (lA y)))
  | .struct _,.neq=>match (C.τ t).eqk with
   | []=>none
   | ks=>some (gJ ks x∧gJ ks y,.bool (!Hv (lA x) (lA y)))
  | .bool,.eql=>some (x.isBool∧y.isBool,.bool (x.b==y.b))
  | .bool,.neq=>some (x.isBool∧y.isBool,.bool (!(x.b==y.b)))
  | _,_=>none
 | .d x,.nils _=>match (C.τ t).kind,op with
  | .slice _,.eql=>some (Zz6 x,.bool false)
  | .slice _,.neq=>some (Zz6 x,.bool true)
  | _,_=>none
 | _,_=>none
def Zyi (C:Ctx) (op:UnOp) (t:Nat):AV→Option (Prop×D)
 | .d x=>match (C.τ t).kind,op with
  | .bool,.not=>some (x.isBool,.bool (!x.b))
  | .int k,.neg=>some (x.isInt k∧Aj k (0-x.i),.int k (0-x.i))
  | _,_=>none
 | _=>none
def Ww (o:Z5):Option (Prop×D)→A7
 | some (c,x)=>some (c,.d x,o)
 | none=>none
def Zas (c a b:AV):Option AV:=match c with
 | .d (.bool true)=>some a
 | .d (.bool false)=>some b
 | _=>none
def Po (cells:List AV) (f:Nat) (xs:List AV):List AV:=cells.take f++xs++cells.drop (f+xs.length)
def Th (C:Ctx) (e:Nat) (key:Nat) (x:AV) (o:Z5):A7 :=
 match C.ag e,lk o key with
 | some ag,none=>some (x.fits (C.size e),.ref key 0,upd o key (.box ag (x.cells ag (C.size e))))
 | _,_=>none
def G6 (C:Ctx) (t:Nat) (p:AV) (o:Z5):A7:=match p with
 | .d (.ptr s x)=>match C.ag t with
  | some true=>if s=C.size t then some (True,.d x.asAgg,o) else none
  | some false=>if s=1 then some (True,.d (x.cell 0),o) else none
  | none=>none
 | .ref i f=>match lk o i with
  | some (.box _ cells)=>match C.ag t with
   | some true=>if f+C.size t≤cells.length then some (True,dD ((cells.drop f).take (C.size t)),o) else none
   | some false=>if f<cells.length then some (True,cells.getD f .dead,o) else none
   | none=>none
  | some (.fbox s x)=>match C.ag t with
   | some true=>if f=0∧s=C.size t then some (True,.d x.asAgg,o) else none
   | some false=>if f<s then some (True,.d (x.cell f),o) else none
   | none=>none
  | _=>none
 | .rref i n e f=>match lk o i with
  | some (.row s els _)=>match C.ag t with
   | some true=>if f=0∧s=C.size t then some (n=els.length∧e<els.length,.d (el els e).asAgg,o) else none
   | some false=>if f<s then some (n=els.length∧e<els.length,.d ((el els e).cell f),o) else none
   | none=>none
  | _=>none
 | _=>none
def Rr (C:Ctx) (t:Nat) (p:AV) (o:Z5):A7:=match p with
 | .rref i n e f=>match lk o (50000+i) with
  | some (.hole i' n0 e0 f0 x)=>if i'=i∧f0=f then match lk o i,C.ag t with
    | some (.row _ els _),some false=>some (n=n0∧n=els.length∧e=e0,x,o)
    | _,_=>none
   else G6 C t (.rref i n e f) o
  | _=>G6 C t (.rref i n e f) o
 | p=>G6 C t p o
def D.setCell:D→Nat→D→D
 | .agg l,f,y=>.agg (l.set f y)
 | _,_,y=>y
def U2 (C:Ctx) (t:Nat) (p x:AV) (o:Z5):A7:=match p with
 | .ref i f=>match lk o i with
  | some (.box ag cells)=>match C.ag t with
   | some true=>if f+C.size t≤cells.length then some (x.fits (C.size t),.dead,upd o i (.box ag (Po cells f (x.cells true (C.size t))))) else none
   | some false=>if f<cells.length then some (x.fits 1∧C.size t=1,.dead,upd o i (.box ag (Po cells f (x.cells false 1)))) else none
   | none=>none
  | _=>none
 | .rref i n e f=>match lk o i,pur C.dp x o with
  | some (.row _ _ _),some (c,y,o')=>match lk o' i with
   | some (.row s els k)=>match C.ag t with
    | some true=>if f=0∧s=C.size t then some (c∧n=els.length∧e<els.length∧k≤e∧y.fits s,.dead,upd o' i (.row s (els.set e y) k)) else none
    | some false=>if f<s then some (c∧n=els.length∧e<els.length∧k≤e∧y.fits 1∧C.size t=1,.dead,upd o' i (.row s (els.set e ((el els e).setCell f (y.cell 0))) k)) else none
    | none=>none
   | _=>none
  | _,_=>none
 | _=>none
def Al (C:Ctx) (t:Nat) (p x:AV) (o:Z5):A7:=match p,x with
 | .rref i n e f,.sl j m=>match lk o (50000+i) with
  | some (.slot e0 f0)=>if f0=f then match lk o i,C.ag t with
    | some (.row s els k),some false=>if f<s then some (e=e0∧k≤e∧n=els.length∧e<els.length∧C.size t=1,.dead,upd (upd o i (.row s (els.set e ((el els e).setCell f .any)) (e+1))) (50000+i) (.hole i n e f (.sl j m))) else none
    | _,_=>none
   else U2 C t (.rref i n e f) (.sl j m) o
  | _=>U2 C t (.rref i n e f) (.sl j m) o
 | p,x=>U2 C t p x o
def Ctx.fieldAt (C:Ctx) (t f:Nat):Option (Nat×Nat):=match (C.τ t).kind with
 | .struct fs=>fs[f]?
 | _=>none
def Kh (C:Ctx) (t:Nat) (p:AV) (f:Nat) (o:Z5):A7:=match C.fieldAt t f with
 | some (off,sz)=>match p with
  | .ref i f0=>match lk o i with
   | some ob=>if ob.isBox=true then some (True,.ref i (f0+off),o) else none
   | none=>none
  | .rref i n e f0=>match lk o i with
   | some (.row _ els _)=>some (n=els.length,.rref i n e (f0+off),o)
   | _=>none
  | .d (.ptr s x)=>if s=C.size t∧sz=1∧off<s then some (True,.d (.ptr 1 (x.cell off)),o) else none
  | _=>none
 | none=>none
def D.isAgg (s:Nat):D→Prop
 | .agg l=>l.length=s
 | _=>False
def D6 (C:Ctx) (t:Nat) (x:AV) (f:Nat) (o:Z5):A7:=match C.fieldAt t f with
 | some (off,sz)=>if sz=1∧off<C.size t then match x with
   | .d y=>some (y.isAgg (C.size t),.d (y.cell off),o)
   | .agg l=>if l.length=C.size t then some (True,l.getD off .dead,o) else none
   | _=>none
  else none
 | none=>none
def D.isAnyInt:D→Prop
 | .int _ _=>True
 | _=>False
def Kg (C:Ctx) (t:Nat) (x ix:AV) (o:Z5):A7:=match (C.τ t).kind,ix with
 | .slice e,.d i=>match x with
  | .d y=>some (y.isList (C.size e)∧i.isAnyInt∧0≤i.i∧i.i<y.l.length,.d (.ptr (C.size e) (el y.l i.i.toNat)),o)
  | .sl k n=>match lk o k with
   | some (.row s els _)=>if s=C.size e then some (n=els.length∧i.isAnyInt∧0≤i.i∧i.i<els.length,.rref k n i.i.toNat 0,o) else none
   | _=>none
  | .sb k n f=>match lk o k with
   | some (.row s els _)=>if s=C.size e then some (n=els.length∧i.isAnyInt∧0≤i.i∧(f:Int)+i.i<els.length,.rref k n (f+i.i.toNat) 0,o) else none
   | _=>none
  | _=>none
 | .array n e,.d (.int _ j)=>if 0≤j∧j<n∧C.size e=1 then match x with
   | .ref i f0=>match lk o i with
    | some ob=>if ob.isBox=true then some (True,.ref i (f0+j.toNat),o) else none
    | none=>none
   | .d (.ptr s y)=>if s=n then some (True,.d (.ptr 1 (y.cell j.toNat)),o) else none
   | _=>none
  else none
 | _,_=>none
def D5 (C:Ctx) (t:Nat) (x ix:AV) (o:Z5):A7:=match (C.τ t).kind,x,ix with
 | .str,.d y,.d i=>some (y.isStr∧i.isAnyInt∧0≤i.i∧i.i<y.s.length,.d (.int .u8 ((y.s.getD i.i.toNat 0).toNat:Int)),o)
 | .array n e,.d (.agg l),.d i=>if C.size e=1 then some (l.length=n∧i.isAnyInt∧0≤i.i∧i.i<n,.d (el l i.i.toNat),o) else none
 | _,_,_=>none
def An (C:Ctx) (t:Nat) (x:AV) (lo hi:Option AV) (mx:Option AV) (o:Z5):A7:=match (C.τ t).kind,mx with
 | .str,none=>match x with
  | .d y=>match lo,hi with
   | some (.d a),some (.d b)=>some (y.isStr∧a.isAnyInt∧b.isAnyInt∧0≤a.i∧a.i≤b.i∧b.i≤y.s.length,.d (.str ((y.s.take b.i.toNat).drop a.i.toNat)),o)
   | some (.d a),none=>some (y.isStr∧a.isAnyInt∧0≤a.i∧a.i≤y.s.length,.d (.str (y.s.drop a.i.toNat)),o)
   | none,some (.d b)=>some (y.isStr∧b.isAnyInt∧0≤b.i∧b.i≤y.s.length,.d (.str (y.s.take b.i.toNat)),o)
   | _,_=>none
  | _=>none
 | .slice e,none=>match pur C.dp x o with
  | some (c,y,o')=>match lo,hi with
   | some (.d a),some (.d b)=>some (c∧y.isList (C.size e)∧a.isAnyInt∧b.isAnyInt∧0≤a.i∧a.i≤b.i∧b.i≤y.l.length,.d (.list (C.size e) ((y.l.take b.i.toNat).drop a.i.toNat)),o')
   | some (.d a),none=>some (c∧y.isList (C.size e)∧a.isAnyInt∧0≤a.i∧a.i≤y.l.length,.d (.list (C.size e) (y.l.drop a.i.toNat)),o')
   | none,some (.d b)=>some (c∧y.isList (C.size e)∧b.isAnyInt∧0≤b.i∧b.i≤y.l.length,.d (.list (C.size e) (y.l.take b.i.toNat)),o')
   | _,_=>none
  | none=>none
 | .slice e,some (.d m)=>match pur C.dp x o with
  | some (c,y,o')=>match lo,hi with
   | some (.d a),some (.d b)=>some (c∧y.isList (C.size e)∧a.isAnyInt∧b.isAnyInt∧m.isAnyInt∧0≤a.i∧a.i≤b.i∧b.i≤m.i∧m.i≤y.l.length,.d (.list (C.size e) ((y.l.take b.i.toNat).drop a.i.toNat)),o')
   | _,_=>none
  | none=>none
 | _,_=>none
def Pk (z:D):Nat→List D
 | 0=>[]
 | n+1=>z::Pk z n
def Lh:List D→List (Nat×D)→List D
 | l,[]=>l
 | l,(i,x)::r=>Lh (l.set i x) r
def Lx (s:Nat):List D→Prop
 | []=>True
 | x::l=>x.fits s∧Lx s l
def U9 (C:Ctx):List (Nat×AV)→Z5→Option (Prop×List (Nat×D)×Z5)
 | [],o=>some (True,[],o)
 | (i,x)::r,o=>match pur C.dp x o with
  | some (c,y,o')=>match U9 C r o' with
   | some (c',l,o'')=>some (c∧c',(i,y)::l,o'')
   | none=>none
  | none=>none
def eX (n:Nat):List (Nat×AV)→Bool
 | []=>true
 | (i,_)::r=>decide (i<n)&&eX n r
def Ki (C:Ctx) (t n:Nat) (parts:List (Nat×AV)) (key:Nat) (o:Z5):A7:=match (C.τ t).kind with
 | .slice e=>match U9 C parts o with
  | some (c,ps,o')=>match lk o' key with
   | none=>if n*C.size e≤16777216∧eX n parts=true then
     some (c∧Lx (C.size e) (ps.map (·.2)),.sl key n,upd o' key (.row (C.size e) (Lh (Pk (C.τ e).zd n) ps) 0)) else none
   | some _=>none
  | none=>none
 | _=>none
def Vh (o:Z5) (fs:List (Nat×Nat)):List AV→List (Nat×AV)→Prop→A7
 | cells,[],c=>some (c,dD cells,o)
 | cells,(i,x)::r,c=>match fs[i]? with
  | some (off,sz)=>if sz=1∧off<cells.length then Vh o fs (cells.set off ((x.cells false 1).getD 0 .dead)) r (c∧x.fits 1) else none
  | none=>none
def H4 (o:Z5):List AV→List (Nat×AV)→Prop→A7
 | cells,[],c=>some (c,dD cells,o)
 | cells,(i,x)::r,c=>if i<cells.length then H4 o (cells.set i ((x.cells false 1).getD 0 .dead)) r (c∧x.fits 1) else none
def Ao (C:Ctx) (t:Nat) (parts:List (Nat×AV)) (o:Z5):A7:=match (C.τ t).kind with
 | .struct fs=>Vh o fs ((C.τ t).zero.cells true (C.size t)) parts ((C.τ t).zero.fits (C.size t))
 | .array _ e=>if C.size e=1 then H4 o ((C.τ t).zero.cells true (C.size t)) parts ((C.τ t).zero.fits (C.size t)) else none
 | _=>none
def G5 (C:Ctx) (t:Nat) (l c:AV) (key:Nat) (o:Z5):A7:=match (C.τ t).kind,l,c with
 | .slice e,.d a,.d b=>match lk o key with
  | none=>some (a.isAnyInt∧b.isAnyInt∧0≤a.i∧a.i=b.i∧(C.τ e).bytes*b.i≤281474976710656∧b.i≤4294967296,
    .sl key a.i.toNat,upd o key (.row (C.size e) (List.replicate a.i.toNat (C.τ e).zd) 0))
  | some _=>none
 | _,_,_=>none
def U3 (s:Nat) (x:AV) (o:Z5):Option (Prop×List D):=match x with
 | .d y=>some (y.isList s,y.l)
 | .nils _=>some (True,[])
 | .sl i n=>match lk o i with
  | some (.row s' els _)=>if s'=s then some (n=els.length,els) else none
  | _=>none
 | _=>none
def Tg (C:Ctx) (t:Nat) (s x:AV) (key:Nat) (o:Z5):A7:=match (C.τ t).kind with
 | .slice e=>match U3 (C.size e) x o with
  | some (c,xs)=>match s with
   | .nils _=>match lk o key with
    | none=>some (c∧xs.length*(C.τ e).bytes≤140737488355328∧xs.length≤4611686018427387904,.sl key xs.length,upd o key (.row (C.size e) xs 0))
    | some _=>none
   | .sl i n=>match lk o i with
    | some (.row s' els k)=>if s'=C.size e then
      some (c∧n=els.length∧(els.length+xs.length)*(C.τ e).bytes≤140737488355328∧els.length+xs.length≤4611686018427387904,.sl i (els++xs).length,upd o i (.row s' (els++xs) k)) else none
    | _=>none
   | _=>none
  | none=>none
 | _=>none
def tH (C:Ctx) (t:Nat) (x:AV) (o:Z5):A7:=match (C.τ t).kind,x with
 | .str,.d y=>some (y.isStr,.d (.int .i64 y.s.length),o)
 | .slice e,.d y=>some (y.isList (C.size e),.d (.int .i64 y.l.length),o)
 | .slice _,.nils _=>some (True,.d (.int .i64 0),o)
 | .slice _,.sl i n=>match lk o i with
  | some (.row _ els _)=>some (n=els.length,.d (.int .i64 els.length),o)
  | _=>none
 | .slice _,.sb i n f=>match lk o i with
  | some (.row _ els _)=>some (n=els.length,.d (.int .i64 (els.length-f:Nat)),o)
  | _=>none
 | _,_=>none
def xF (C:Ctx) (t:Nat):AV→AV→Option (Prop×D)
 | .d x,.d y=>match (C.τ t).kind with
  | .int k=>some (x.isInt k∧y.isInt k,.int k (Zz7 x.i y.i))
  | _=>none
 | _,_=>none
def xG (C:Ctx) (t:Nat):AV→AV→Option (Prop×D)
 | .d x,.d y=>match (C.τ t).kind with
  | .int k=>some (x.isInt k∧y.isInt k,.int k (Mt x.i y.i))
  | _=>none
 | _,_=>none
def Rt (C:Ctx) (s t:Nat):AV→Option (Prop×D)
 | .d x=>match (C.τ s).kind,(C.τ t).kind with
  | .int k,.int k'=>some (x.isInt k∧Aj k' x.i,.int k' x.i)
  | .str,.str=>some (x.isStr,x)
  | _,_=>none
 | _=>none
def Ma (x:AV) (i:Nat) (o:Z5):A7:=match x with
 | .tup l=>if i<l.length then some (True,l.getD i .dead,o) else none
 | .d (.tup l)=>if i<l.length then some (True,.d (l.getD i .nilp),o) else none
 | _=>none
def Ul (k:TK) (x:D):Prop:=match k with
 | .int kk=>x.isInt kk
 | .str=>x.isStr
 | _=>False
def Uc (k:TK):List D→Prop
 | []=>True
 | x::l=>Ul k x∧Uc k l
def L9 (x:D):List D→Bool
 | []=>false
 | y::l=>D.eqb x y||L9 x l
def eM (x z:D):List D→List D→D
 | y::ks,v::vs=>cond (D.eqb x y) v (eM x z ks vs)
 | _,_=>z
def dE (x:D) (ks:List D):List D:=cond (L9 x ks) ks (ks++[x])
def Bt (x v:D):List D→List D→List D
 | y::ks,u::vs=>cond (D.eqb x y) (v::vs) (u::Bt x v ks vs)
 | _,_=>[v]
def Py (C:Ctx) (kt et:Nat) (ks vs:List D) (i:D) (ok:Bool) (o:Z5):A7:=match C.ag et with
 | some _=>match ok with
  | true=>some (Ul (C.τ kt).kind i∧Uc (C.τ kt).kind ks,.d (.tup [eM i (C.τ et).zd ks vs,.bool (L9 i ks)]),o)
  | false=>some (Ul (C.τ kt).kind i∧Uc (C.τ kt).kind ks,.d (eM i (C.τ et).zd ks vs),o)
 | none=>none
def B1 (C:Ctx) (t:Nat) (x ix:AV) (ok:Bool) (o:Z5):A7:=match (C.τ t).kind,ix with
 | .map kt et,.d i=>match x with
  | .d (.map ks vs)=>Py C kt et ks vs i ok o
  | .mpr j=>match lk o j with
   | some (.mp ks vs _)=>Py C kt et ks vs i ok o
   | _=>none
  | _=>none
 | _,_=>none
def G4 (C:Ctx) (t:Nat) (x ix v:AV) (o:Z5):A7:=match (C.τ t).kind,ix,x with
 | .map kt _,.d i,.mpr j=>match pur C.dp v o with
  | some (c,y,o')=>match lk o' j with
   | some (.mp ks vs false)=>some (c∧Ul (C.τ kt).kind i∧Uc (C.τ kt).kind ks,.dead,upd o' j (.mp (dE i ks) (Bt i y ks vs) false))
   | _=>none
  | none=>none
 | _,_,_=>none
def Se (key:Nat) (o:Z5):A7:=match lk o key with
 | none=>some (True,.mpr key,upd o key (.mp [] [] false))
 | some _=>none
def Ctx.mapE (C:Ctx) (t:Nat):Nat:=match (C.τ t).kind with
 | .map _ e=>e
 | _=>0
def Yj (C:Ctx):List Bool→List AV→Z5→Option (Prop×List CV×Z5)
 | _,[],o=>some (True,[],o)
 | [],_::_,_=>none
 | false::ms,x::r,o=>match pur C.dp x o with
  | some (c,y,o')=>match Yj C ms r o' with
   | some (c',l,o'')=>some (c∧c',.d y::l,o'')
   | none=>none
  | none=>none
 | true::ms,x::r,o=>match x with
  | .sl i n=>match lk o i with
   | some (.row s els k)=>match Yj C ms r (upd o i .gone) with
    | some (c,l,o')=>some (c∧n=els.length∧k=0∧0<s,.own s els::l,o')
    | none=>none
   | _=>none
  | .nils s=>match Yj C ms r o with
   | some (c,l,o')=>some (c,.own s []::l,o')
   | none=>none
  | _=>none
def Nq (key:Nat) (x:CV) (o:Z5):Option (AV×Z5):=match x with
 | .d y=>some (.d y,o)
 | .own s l=>match lk o key with
  | none=>some (.sl key l.length,upd o key (.row s l 0))
  | some _=>none
 | .tup _=>none
def Gy (key:Nat):List CV→Z5→Option (List AV×Z5)
 | [],o=>some ([],o)
 | x::r,o=>match Nq key x o with
  | some (y,o')=>match Gy (key+4096) r o' with
   | some (l,o'')=>some (y::l,o'')
   | none=>none
  | none=>none
def Il (key:Nat) (x:CV) (o:Z5):Option (AV×Z5):=match x with
 | .tup l=>match Gy key l o with
  | some (ys,o')=>some (mL ys,o')
  | none=>none
 | x=>Nq key x o
def I7 (C:Ctx) (f:Nat) (args:List AV) (key:Nat) (o:Z5):A7:=match C.Γ f with
 | some con=>match Yj C con.modes args o with
  | some (c,J0,o')=>match Il key (con.fn J0) o' with
   | some (y,o'')=>some (c∧con.pre J0,y,o'')
   | none=>none
  | none=>none
 | none=>none
def jZ (C:Ctx) (f:AV) (args:List AV) (key:Nat) (o:Z5):A7:=match f with
 | .d (.clo g caps)=>I7 C g (args++caps.map .d) key o
 | .clo g caps=>I7 C g (args++caps) key o
 | _=>none
def aF (C:Ctx) (st:AS):List Operand→List Nat→List AV
 | [],_=>[]
 | x::r,[]=>st.ev C 0 x::aF C st r []
 | x::r,t::ts=>st.ev C t x::aF C st r ts
def Zay (C:Ctx) (st:AS) (t:Nat):Option Operand→Option AV
 | some x=>some (st.ev C t x)
 | none=>none
def Wx (C:Ctx) (st:AS) (h:Nat):List (Nat×Operand)→List (Nat×AV)
 | []=>[]
 | (i,x)::r=>(i,st.ev C h x)::Wx C st h r
def Ctx.elemT (C:Ctx) (t:Nat):Nat:=match (C.τ t).kind with
 | .slice e=>e
 | .array _ e=>e
 | _=>0
def Zus:List D→Prop
 | []=>True
 | x::l=>x.isInt .u8∧Zus l
def Zev:List D→List UInt8
 | []=>[]
 | x::l=>UInt8.ofNat x.i.toNat::Zev l
def D7 (C:Ctx) (s t:Nat) (x:AV) (o:Z5):A7:=match (C.τ s).kind,(C.τ t).kind with
 | .slice e,.str=>match (C.τ e).kind,U3 1 x o with
  | .int .u8,some (c,xs)=>some (c∧Zus xs,.d (.str (Zev xs)),o)
  | _,_=>none
 | _,_=>Ww o (Rt C s t x)
def xE (x:AV) (o:Z5):A7:=match x with
 | .ref i f=>match lk o i with
  | some ob=>if ob.isBox=true then some (True,.ref i f,o) else none
  | none=>none
 | .d (.ptr s y)=>some (True,.d (.ptr s y),o)
 | _=>none
def Qjs (C:Ctx) (o:Oper) (st:AS):A7:=match o.op with
 | .move x=>some (True,st.ev C o.type x,st.objs)
 | .assign x=>some (True,st.ev C o.type x,st.objs)
 | .pick c a b=>match Zas (st.ev C 0 c) (st.ev C o.type a) (st.ev C o.type b) with
  | some x=>some (True,x,st.objs)
  | none=>none
 | .alloc e=>match o.dst with
  | some k=>Th C e k (C.τ e).zero st.objs
  | none=>none
 | .box e x=>match o.dst with
  | some k=>Th C e k (st.ev C e x) st.objs
  | none=>none
 | .build t ps=>Ao C t (Wx C st 0 ps.toList) st.objs
 | .buildSlice t n ps=>match o.dst with
  | some k=>Ki C t n (Wx C st (C.elemT t) ps.toList) k st.objs
  | none=>none
 | .load t p=>Rr C t (st.ev C 0 p) st.objs
 | .store t p x=>Al C t (st.ev C 0 p) (st.ev C t x) st.objs
 | .binOp op t x y _=>Ww st.objs (bL C op t (st.ev C t x) (st.ev C t y))
 | .unOp op t x=>Ww st.objs (Zyi C op t (st.ev C t x))
 | .convert s t x=>D7 C s t (st.ev C s x) st.objs
 | .makeFunc (.func f) first caps=>match first.toList with
  | []=>some (True,sT f (aF C st caps.toList []),st.objs)
  | _=>none
 | .makeSlice t l c=>match o.dst with
  | some k=>G5 C t (st.ev C 0 l) (st.ev C 0 c) k st.objs
  | none=>none
 | .slice t x lo hi mx=>An C t (st.ev C t x) (Zay C st 0 lo) (Zay C st 0 hi) (Zay C st 0 mx) st.objs
 | .makeMap _ none=>match o.dst with
  | some k=>Se k st.objs
  | none=>none
 | .lookup t x i ok=>B1 C t (st.ev C 0 x) (st.ev C 0 i) ok st.objs
 | .mapUpdate t x i v=>G4 C t (st.ev C 0 x) (st.ev C 0 i) (st.ev C (C.mapE t) v) st.objs
 | .fieldAddr t p f=>Kh C t (st.ev C 0 p) f st.objs
 | .field t x f=>D6 C t (st.ev C t x) f st.objs
 | .indexAddr t x i=>Kg C t (st.ev C t x) (st.ev C 0 i) st.objs
 | .index t x i=>D5 C t (st.ev C t x) (st.ev C 0 i) st.objs
 | .extract x i=>Ma (st.ev C 0 x) i st.objs
 | .call c=>match c.callee with
  | .builtin .len=>match c.args.toList,c.argTypes.toList with
   | [x],[t]=>tH C t (st.ev C t x) st.objs
   | _,_=>none
  | .builtin .append=>match c.args.toList,c.argTypes.toList,o.dst with
   | [s,x],[t,t'],some k=>if t=t' then Tg C t (st.ev C t s) (st.ev C t' x) k st.objs else none
   | _,_,_=>none
  | .builtin .min=>match c.args.toList,c.argTypes.toList with
   | [x,y],t::_=>Ww st.objs (xF C t (st.ev C t x) (st.ev C t y))
   | _,_=>none
  | .builtin .max=>match c.args.toList,c.argTypes.toList with
   | [x,y],t::_=>Ww st.objs (xG C t (st.ev C t x) (st.ev C t y))
   | _,_=>none
  | .value (.func f)=>match o.dst with
   | some k=>I7 C f (aF C st c.args.toList c.argTypes.toList) k st.objs
   | none=>none
  | .value (.tmp f)=>match o.dst with
   | some k=>jZ C (st.ev C 0 (.tmp f)) (aF C st c.args.toList c.argTypes.toList) k st.objs
   | none=>none
  | _=>none
 | .nilCheck x=>xE (st.ev C 0 x) st.objs
 | _=>none
def AS.put (st:AS) (dst:Option Tmp) (x:AV) (o:Z5):AS:=⟨match dst with|some t=>st.tmps.set t x|none=>st.tmps,o⟩
def qR (C:Ctx) (o:Oper) (K:AS→Prop) (st:AS):Prop:=match Qjs C o st with
 | some (c,x,os)=>c∧K (st.put o.dst x os)
 | none=>False
def rk (rs:List Nat) (i:Nat):Nat:=rs.getD (i-90000) 0
mutual
def rnA (rs:List Nat):AV→AV
 | .d x=>.d x
 | .ref i f=>.ref (rk rs i) f
 | .rref i n e f=>.rref (rk rs i) n e f
 | .sl i n=>.sl (rk rs i) n
 | .sb i n f=>.sb (rk rs i) n f
 | .mpr i=>.mpr (rk rs i)
 | .agg l=>.agg (rnAs rs l)
 | .tup l=>.tup (rnAs rs l)
 | .clo f l=>.clo f (rnAs rs l)
 | .nils s=>.nils s
 | .dead=>.dead
 | .bad t=>.bad t
def rnAs (rs:List Nat):List AV→List AV
 | []=>[]
 | x::l=>rnA rs x::rnAs rs l
end
def Q4 (rs:List Nat):Obj→Obj
 | .box ag cells=>.box ag (rnAs rs cells)
 | .fbox s x=>.fbox s x
 | .row s els k=>.row s els k
 | .mp ks vs f=>.mp ks vs f
 | .gone=>.gone
 | .hole i n e f x=>.hole i n e f x
 | .slot e f=>.slot e f
 | .brow t l=>.brow t l
def Ze (rs0:List Nat):List Nat→List Obj→Z5→Prop
 | _,[],_=>True
 | [],_::_,_=>False
 | k::ks,x::l,o=>lk o k=some (Q4 rs0 x)∧Ze rs0 ks l o
def Zj:List Nat→Z5→Prop
 | [],_=>True
 | k::ks,o=>lk o k=none∧Zj ks o
def Wl (rs0:List Nat):List Nat→List Obj→Z5→Z5
 | k::ks,x::l,o=>Wl rs0 ks l (upd o k (Q4 rs0 x))
 | _,_,o=>o
def BCon.rvr (bc:BCon) (rs:List Nat) (x:bc.X):AV:=match bc.out x with
 | none=>.d (bc.res x)
 | some j=>.mpr (rk rs (90000+j))
def Zhr (bc:BCon) (args:List AV) (dst:Option Tmp) (K:AS→Prop) (st:AS):Prop :=
 ∃ (x:bc.X) (rs:List Nat),bc.ok x∧rnAs rs (bc.args x)=args∧rs.Nodup∧rs.length=(bc.post x).length∧Ze rs rs (bc.objs x) st.objs∧Zj (rs.drop (bc.objs x).length) st.objs ∧
  K (AS.put st dst (bc.rvr rs x) (Wl rs rs (bc.post x) st.objs))
def Zik (C:Ctx) (o:Oper) (st:AS):Option (BCon×List AV):=match o.op with
 | .call c=>match c.callee with
  | .value (.func f)=>match C.Δ f with
   | some bc=>some (bc,aF C st c.args.toList c.argTypes.toList)
   | none=>none
  | .value (.tmp f)=>match st.ev C 0 (.tmp f) with
   | .d (.clo g caps)=>match C.Δ g with
    | some bc=>some (bc,aF C st c.args.toList c.argTypes.toList++caps.map .d)
    | none=>none
   | .clo g caps=>match C.Δ g with
    | some bc=>some (bc,aF C st c.args.toList c.argTypes.toList++caps)
    | none=>none
   | _=>none
  | _=>none
 | _=>none
mutual
def AV.off (i:Nat):AV→Bool
 | .d _=>true
 | .ref j _=>j != i
 | .rref j _ _ _=>j != i
 | .sl j _=>j != i
 | .sb j _ _=>j != i
 | .mpr j=>j != i
 | .agg l=>offAll i l
 | .tup l=>offAll i l
 | .clo _ l=>offAll i l
 | .nils _=>true
 | .dead=>true
 | .bad _=>true
def offAll (i:Nat):List AV→Bool
 | []=>true
 | x::l=>x.off i&&offAll i l
end
def Ke (i:Nat):List AV→List AV
 | []=>[]
 | x::l=>cond (x.off i) x .dead::Ke i l
def Vo (i:Nat):Z5→Bool
 | []=>true
 | (_,.box _ cells)::r=>offAll i cells&&Vo i r
 | (_,.hole j _ _ _ x)::r=>(j != i&&x.off i)&&Vo i r
 | _::r=>Vo i r
def lX:List Nat→Nat→Bool
 | [],_=>false
 | x::l,d=>if x=d then true else lX l d
def uA (C:Ctx) (o:Oper) (st:AS):Option (Nat×Nat×D×Nat×List D×Nat):=match o.op,o.dst with
 | .slice t x none (some hi) none,some d=>if lX C.cuts d=true then match (C.τ t).kind,st.ev C t x,st.ev C 0 hi with
   | .slice e,.sl i n,.d b=>match lk st.objs i with
    | some (.row s els k)=>if s=C.size e then some (i,n,b,s,els,k) else none
    | _=>none
   | _,_,_=>none
  else none
 | _,_=>none
def Zds:List Nat→Nat
 | []=>0
 | x::l=>if 300000≤x then x-300000 else Zds l
def tE:List AV→Option (List AV)
 | x::y::r=>match x,y with
  | .d .nilp,.nils s=>if s=1 then some r else none
  | _,_=>none
 | _=>none
def B2 (C:Ctx) (e key:Nat) (x:AV) (o:Z5):A7:=match C.ag e,lk o key with
 | some true,none=>match lk o (60000+key),tE (x.cells true (C.size e)) with
  | none,some r=>some (x.fits (C.size e)∧key<20000,.ref key 0,upd (upd o (60000+key) (.brow (Zds C.cuts) [])) key (.box true (.bad e::.sl (60000+key) 0::r)))
  | _,_=>none
 | _,_=>none
def On (C:Ctx) (o:Oper) (st:AS):A7:=match o.op with
 | .slice t x (some lo) none none=>match o.dst with
  | some d=>if lX C.cuts d=true then match (C.τ t).kind,st.ev C t x,st.ev C 0 lo with
    | .slice e,.sl i n,.d a=>match lk st.objs i with
     | some (.row s els _)=>if s=C.size e then some (n=els.length∧a.isAnyInt∧0≤a.i∧a.i<els.length,.sb i n a.i.toNat,st.objs) else none
     | _=>none
    | _,_,_=>none
   else none
  | none=>none
 | .slice t x none (some hi) none=>match o.dst with
  | some d=>if lX C.cuts (d+100000)=true then match (C.τ t).kind,st.ev C t x,st.ev C 0 hi with
    | .slice e,.sl i n,.d b=>match lk st.objs i,lk st.objs d with
     | some (.row s els k),none=>if s=C.size e then some (n=els.length∧b.isAnyInt∧0≤b.i∧b.i≤els.length∧(k:Int)≤b.i∧d<90000,.sl d b.i.toNat,upd (upd st.objs i .gone) d (.row s (els.take b.i.toNat) k)) else none
     | _,_=>none
    | _,_,_=>none
   else none
  | none=>none
 | .call c=>match c.callee with
  | .builtin .clear=>match c.args.toList,c.argTypes.toList with
   | [x],[t]=>match (C.τ t).kind,st.ev C t x with
    | .slice e,.sb i n f=>match lk st.objs i with
     | some (.row s els k)=>if s=C.size e∧s=1 then some (n=els.length∧k≤f,.d (.tup []),upd st.objs i (.row s (els.take f++List.replicate (els.length-f) (C.τ e).zd) k)) else none
     | _=>none
    | _,_=>none
   | _,_=>none
  | _=>none
 | .alloc e=>match o.dst with
  | some k=>if lX C.cuts (200000+e)=true then B2 C e k (C.τ e).zero st.objs else none
  | none=>none
 | .box e x=>match o.dst with
  | some k=>if lX C.cuts (200000+e)=true then B2 C e k (st.ev C e x) st.objs else none
  | none=>none
 | _=>none
def bV (C:Ctx) (t:Nat) (x y:AV) (o:Z5):Option (Prop×List D):=match (C.τ t).kind,x,y with
 | .slice e,.d d,.nils _=>some (d.isList (C.size e),d.l)
 | .slice _,.sl i n,.nils _=>match lk o i with
  | some (.row _ els _)=>some (n=els.length,els)
  | _=>none
 | _,_,_=>none
def sN (C:Ctx) (o:Oper) (st:AS):Option (Prop×List D×Bool):=match o.op with
 | .binOp .eql t x y _=>match o.dst with
  | some d=>if lX C.cuts d=true then match bV C t (st.ev C t x) (st.ev C t y) st.objs with
    | some (c,l)=>some (c,l,true)
    | none=>none
   else none
  | none=>none
 | .binOp .neq t x y _=>match o.dst with
  | some d=>if lX C.cuts d=true then match bV C t (st.ev C t x) (st.ev C t y) st.objs with
    | some (c,l)=>some (c,l,false)
    | none=>none
   else none
  | none=>none
 | _=>none
def aW (C:Ctx) (o:Oper) (K:AS→Prop) (st:AS):Prop:=match Zik C o st with
 | some (bc,args)=>Zhr bc args o.dst K st
 | none=>match uA C o st with
  | some (i,n,b,s,els,k)=>(n=els.length∧b.isAnyInt∧0≤b.i∧b.i≤els.length∧(k:Int)≤b.i∧Vo i st.objs=true∧i<90000) ∧
    K (AS.put ⟨Ke i st.tmps,st.objs⟩ o.dst (.sl i b.i.toNat) (upd st.objs i (.row s (els.take b.i.toNat) k)))
  | none=>match On C o st with
   | some (c,x,os)=>c∧K (st.put o.dst x os)
   | none=>match sN C o st with
    | some (c,l,b)=>c∧(l=[]→K (st.put o.dst (.d (.bool b)) st.objs))∧K (st.put o.dst (.d (.bool (!b))) st.objs)
    | none=>qR C o K st
inductive GV where
 | b (t:Nat) (v:Bool)
 | und
 | no
def Xe (ops:List Oper) (st:AS) (j:Nat):GV:=match ops[j]? with
 | some g=>match g.dst with
  | some t=>match st.tmps.getD t .dead with
   | .d (.bool b)=>.b t b
   | .d (.tup [])=>.und
   | _=>.no
  | none=>.no
 | none=>.no
def GV.skips:GV→Bool→Prop
 | .b _ v,want=>v≠want
 | .und,_=>True
 | .no,_=>False
def GV.runs:GV→Bool→Prop
 | .b _ v,want=>v=want
 | _,_=>False
def Qcl (b:Bool) (P Q:Prop):Prop:=(b=true→P)∧(b=false→Q)
def Qck (b want:Bool) (P Q:Prop):Prop:=(b=want→P)∧(b=(!want)→Q)
def Qcm (C:Ctx) (ops:List Oper) (o:Oper) (K:AS→Prop) (st:AS):Prop:=match o.guard with
 | none=>aW C o K st
 | some (j,want)=>match Xe ops st j with
  | .b t b=>Qck b want (aW C o K { st with tmps:=st.tmps.set t (.d (.bool want)) })
    (K (AS.put { st with tmps:=st.tmps.set t (.d (.bool (!want))) } o.dst (.d (.tup [])) st.objs))
  | .und=>K (AS.put st o.dst (.d (.tup [])) st.objs)
  | .no=>False
def qP (C:Ctx) (ops:List Oper):List Oper→(AS→Prop)→AS→Prop
 | [],K,st=>K st
 | o::r,K,st=>Qcm C ops o (qP C ops r K) st
mutual
def AV.keys:AV→List Nat
 | .d _=>[]
 | .ref i _=>[i]
 | .rref i _ _ _=>[i,50000+i]
 | .sl i _=>[i]
 | .sb i _ _=>[i]
 | .mpr i=>[i]
 | .agg l=>keysAll l
 | .tup l=>keysAll l
 | .clo _ l=>keysAll l
 | .nils _=>[]
 | .dead=>[]
 | .bad _=>[]
def keysAll:List AV→List Nat
 | []=>[]
 | x::l=>x.keys++keysAll l
end
def Jb:Op→List Operand
 | .move x=>[x]
 | .assign x=>[x]
 | .pick c a b=>[c,a,b]
 | .box _ x=>[x]
 | .build _ ps=>ps.toList.map (·.2)
 | .buildSlice _ _ ps=>ps.toList.map (·.2)
 | .load _ p=>[p]
 | .store _ p x=>[p,x]
 | .binOp _ _ x y _=>[x,y]
 | .unOp _ _ x=>[x]
 | .convert _ _ x=>[x]
 | .makeFunc _ _ caps=>caps.toList
 | .makeSlice _ l c=>[l,c]
 | .slice _ x lo hi mx=>x::(lo.toList++hi.toList++mx.toList)
 | .fieldAddr _ p _=>[p]
 | .field _ x _=>[x]
 | .indexAddr _ x i=>[x,i]
 | .index _ x i=>[x,i]
 | .lookup _ x i _=>[x,i]
 | .mapUpdate _ x i v=>[x,i,v]
 | .extract x _=>[x]
 | .nilCheck x=>[x]
 | .call c=>match c.callee with
  | .value f=>f::c.args.toList
  | _=>c.args.toList
 | _=>[]
def Wb:Op→List Operand
 | .move _=>[]
 | o=>Jb o
def L8:Op→Bool
 | .alloc _=>true
 | .box _ _=>true
 | .buildSlice _ _ _=>true
 | .makeSlice _ _ _=>true
 | .makeMap _ _=>true
 | .call c=>match c.callee with
  | .builtin .append=>true
  | .value _=>true
  | _=>false
 | _=>false
def Li:Op→Bool
 | .load ..=>true
 | .lookup ..=>true
 | .fieldAddr ..=>true
 | .indexAddr ..=>true
 | .move _=>true
 | .assign _=>true
 | .extract ..=>true
 | .nilCheck _=>true
 | .pick ..=>true
 | .build ..=>true
 | .field ..=>true
 | .index ..=>true
 | .binOp ..=>true
 | .unOp ..=>true
 | .convert ..=>true
 | .makeFunc ..=>true
 | .call c=>match c.callee with
  | .builtin .len=>true
  | _=>false
 | _=>false
def pW:Option Nat→Op→List Nat
 | some k,o=>if L8 o=true then [k] else []
 | none,_=>[]
def Mb (C:Ctx) (o:Oper) (st:AS):List Nat:=(keysAll ((Wb o.op).map (st.ev C 0))++pW o.dst o.op).map (· % 4096)
def Tb:List Edge→List Nat→Nat
 | [],_=>0
 | e::r,acc=>if Region.binds .any e=true then (2 ^ e.on ||| acc.getD e.on 0) ||| Tb r acc else Tb r acc
def Ir:List Oper→List Nat→List Nat
 | [],acc=>acc
 | o::r,acc=>Ir r (acc++[Tb o.after.toList acc])
def D1 (ops:List Oper):List Nat:=Ir ops []
def zI:Operand→List Nat
 | .tmp t=>[t]
 | _=>[]
def dF (ops:List Oper) (o:Oper):List Nat:=(Jb o.op).flatMap zI++(match o.guard with
 | some (j,_)=>match ops[j]? with
  | some g=>g.dst.toList
  | none=>[]
 | none=>[])
def Pp (ops:List Oper) (x y:Oper):Bool:=(match x.dst with
 | some d=>!(dF ops y).contains d&&y.dst != some d
 | none=>true)&&(match y.dst with
 | some d=>!(dF ops x).contains d
 | none=>true)
def Ot:Nat→List Oper→Bool
 | _,[]=>true
 | i,o::r=>o.after.toList.all (fun e=>!Region.binds .any e||decide (e.on<i))&&Ot (i+1) r
def oT (ops:List Oper):Bool:=(List.range ops.length).all fun i=>(List.range i).all fun k=>((D1 ops).getD i 0).testBit k||(match ops[k]?,ops[i]? with
 | some x,some y=>Pp ops x y
 | _,_=>true)
def Zav (ms:List Nat):List (Nat×List Nat×Bool)→Bool
 | []=>true
 | (i,fi,ri)::r=>r.all (fun q=>(ms.getD i 0).testBit q.1||fi.all (fun x=>!q.2.1.contains x)||(ri&&q.2.2))&&Zav ms r
def Zwa (ops:List Oper) (acc:List (Nat×List Nat×Bool)):Bool:=Ot 0 ops&&oT ops&&Zav (D1 ops) acc
def Zbi (bc:BCon) (args:List AV) (dst:Option Tmp) (K:List Nat→AS→Prop) (st:AS):Prop :=
 ∃ (x:bc.X) (rs:List Nat),bc.ok x∧rnAs rs (bc.args x)=args∧rs.Nodup∧rs.length=(bc.post x).length∧Ze rs rs (bc.objs x) st.objs∧Zj (rs.drop (bc.objs x).length) st.objs ∧
  K (rs.map (· % 4096)) (AS.put st dst (bc.rvr rs x) (Wl rs rs (bc.post x) st.objs))
def Cj (C:Ctx) (o:Oper) (K:List Nat→Bool→AS→Prop) (st:AS):Prop:=match Zik C o st with
 | some (bc,args)=>Zbi bc args o.dst (fun fp=>K fp false) st
 | none=>match Qjs C o st with
  | some (c,x,os)=>c∧K (Mb C o st) (Li o.op) (st.put o.dst x os)
  | none=>False
def Vz (C:Ctx) (ops:List Oper):Nat→List Oper→List (Nat×List Nat×Bool)→(AS→Prop)→AS→Prop
 | _,[],acc,K,st=>Zwa ops acc=true∧K st
 | i,o::r,acc,K,st=>match o.guard with
  | none=>Cj C o (fun fp ro=>Vz C ops (i+1) r ((i,fp,ro)::acc) K) st
  | some (j,want)=>match Xe ops st j with
   | .b t b=>Qck b want (Cj C o (fun fp ro=>Vz C ops (i+1) r ((i,fp,ro)::acc) K) { st with tmps:=st.tmps.set t (.d (.bool want)) })
     (Vz C ops (i+1) r acc K (AS.put { st with tmps:=st.tmps.set t (.d (.bool (!want))) } o.dst (.d (.tup [])) st.objs))
   | .und=>Vz C ops (i+1) r acc K (AS.put st o.dst (.d (.tup [])) st.objs)
   | .no=>False
def Ctx.one (C:Ctx):Ctx:=⟨C.τ,C.Γ,1,C.Δ,[],C.wr⟩
mutual
def AV.kept (o:Z5):AV→Prop
 | .d _=>True
 | .ref i _=>(lk o i).isSome=true
 | .rref i _ _ _=>(lk o i).isSome=true
 | .sl i _=>(lk o i).isSome=true
 | .sb i _ _=>(lk o i).isSome=true
 | .mpr i=>(lk o i).isSome=true
 | .agg l=>keptAll o l
 | .tup l=>keptAll o l
 | .clo _ l=>keptAll o l
 | .nils _=>True
 | .dead=>True
 | .bad _=>True
def keptAll (o:Z5):List AV→Prop
 | []=>True
 | x::l=>x.kept o∧keptAll o l
end
def kM (o1 o2:Z5):AV→AV→Prop
 | _,.dead=>True
 | .nils s,.sl i n=>n=0∧lk o1 i=none∧lk o2 i=some (.row s [] 0)
 | .nils s,.d (.list s' l)=>s'=s∧l=[]
 | x,y=>x=y∧y.kept o2
def R8 (o1 o2:Z5):List AV→List AV→Prop
 | [],[]=>True
 | x::l,y::l'=>kM o1 o2 x y∧R8 o1 o2 l l'
 | _,_=>False
def Wm (o1 o2:Z5):Option Obj→Obj→Prop
 | some (.box ag cs),.box ag' cs'=>ag=ag'∧R8 o1 o2 cs cs'
 | none,.row _ els k=>els=[]∧k=0
 | _,.slot _ _=>True
 | some (.hole i n e f x),.hole i' n' e' f' x'=>i=i'∧n=n'∧e=e'∧f=f'∧x=x'∧(lk o2 i).isSome=true∧x.kept o2
 | some o,o'=>o=o'
 | none,_=>False
def oM (o1 o2:Z5):Z5→Prop
 | []=>True
 | (i,o)::r=>Wm o1 o2 (lk o1 i) o∧oM o1 o2 r
def rF (o2:Z5):Z5→Prop
 | []=>True
 | (i,_)::r=>(90000≤i→(lk o2 i).isSome=true)∧rF o2 r
def Wk (s1 s2:AS):Prop:=R8 s1.objs s2.objs s1.tmps s2.tmps∧oM s1.objs s2.objs s2.objs∧rF s2.objs s1.objs
def Qa5:List Nat→AS→AS→Prop
 | [],s1,s2=>Wk s1 s2
 | k::ks,s1,s2=>match pur 60 (s1.tmps.getD k .dead) s1.objs with
  | some (c,y,os)=>c∧Qa5 ks ⟨s1.tmps.set k (.d y),os⟩ s2
  | none=>False
def Qf9 (s1 s2:AS):Prop:=∃ ks,Qa5 ks s1 s2
def ren (i j:Nat):Z5→Z5
 | []=>[]
 | (x,o)::r=>(if x=i then j else x,o)::ren i j r
def Gj (o:Z5):Z5→Prop
 | []=>True
 | (_,.box _ cs)::r=>keptAll o cs∧Gj o r
 | (_,.fbox _ _)::r=>Gj o r
 | (_,.row _ _ _)::r=>Gj o r
 | (_,.mp _ _ _)::r=>Gj o r
 | (_,.gone)::r=>Gj o r
 | (_,.hole i _ _ _ x)::r=>(lk o i).isSome=true∧x.kept o∧Gj o r
 | (_,.slot _ _)::r=>Gj o r
 | (_,.brow _ _)::r=>Gj o r
def nA:Option Obj→Prop
 | some (.row _ _ _)=>True
 | _=>False
def Qdh (k i j:Nat) (s1 s2:AS):Prop:=match s2.tmps.getD k .dead with
 | .sl i' n=>i'=i∧Wk s1 ⟨s2.tmps.set k (.sl j n),ren i j s2.objs⟩∧lk s2.objs j=none∧nA (lk s2.objs i)∧i<90000∧j<90000∧keptAll s2.objs (s2.tmps.set k .dead)∧Gj s2.objs s2.objs
 | _=>False
def Qdi (i:Nat) (s1 s2:AS):Prop:=match lk s1.objs (50000+i) with
 | some (.hole i' n e f x)=>match pur 60 x s1.objs with
  | some (c,d,os)=>match lk os i with
   | some (.row s els k)=>c∧i'=i∧n=els.length∧e<els.length∧f<s∧Wk ⟨s1.tmps,upd os i (.row s (els.set e ((el els e).setCell f d)) k)⟩ s2
   | _=>False
  | none=>False
 | _=>False
def Qa6 (q i j:Nat) (s1 s2:AS):Prop:=match lk s2.objs q with
 | some (.box ag [.sl i' n])=>i'=i∧Wk s1 ⟨s2.tmps,upd (ren i j s2.objs) q (.box ag [.sl j n])⟩∧lk s2.objs j=none∧nA (lk s2.objs i)∧i<90000∧j<90000∧keptAll s2.objs s2.tmps∧Gj s2.objs (upd s2.objs q .gone)
 | _=>False
def Qdj (s1 s2:AS):Prop:=Wk s1 s2∨(∃ k i j,Qdh k i j s1 s2)∨(∃ i,Qdi i s1 s2)∨∃ q i j,Qa6 q i j s1 s2
inductive AExit where
 | normal
 | exit (id:Nat)
 | ret
def eJ (K:AS→Prop) (Q:AExit→AS→Prop):AExit→AS→Prop
 | .normal,st=>K st
 | e,st=>Q e st
def kV (id:Nat) (Q:AExit→AS→Prop):AExit→AS→Prop
 | .exit id',st=>if id'=id then Q .normal st else Q (.exit id') st
 | e,st=>Q e st
def U6 (C:Ctx):Code→(AExit→AS→Prop)→AS→Prop
 | .skip,Q,st=>Q .normal st
 | .region _ ops false,Q,st=>qP C ops.toList ops.toList (Q .normal) st
 | .region _ ops true,Q,st=>Vz C.one ops.toList 0 ops.toList [] (Q .normal) st
 | .seq x y,Q,st=>U6 C x (eJ (U6 C y Q) Q) st
 | .cond c x y,Q,st=>match st.ev C 0 c with
  | .d b=>b.isBool∧Qcl b.b (U6 C x Q st) (U6 C y Q st)
  | _=>False
 | .block id c,Q,st=>U6 C c (kV id Q) st
 | .loop c,Q,st=>∃ (α:Type) (inv:α→AS) (ok:α→Prop) (μ:α→Nat) (rel:AS→AS→Prop),(∀ s s',rel s s'→Qdj s s')∧(∃ a,Qf9 st (inv a)∧ok a)∧∀ a,ok a→U6 C c (eJ (fun s'=>∃ a',rel s' (inv a')∧ok a'∧μ a'<μ a) Q) (inv a)
 | .exit id,Q,st=>Q (.exit id) st
 | .ret,Q,st=>Q .ret st
 | _,_,_=>False
def Zhq (C:Ctx) (c:Code) (Q:AExit→AS→Prop) (st:AS):Prop :=
 ∃ (α:Type) (inv:α→AS) (ok:α→Prop) (μ:α→Nat) (rel:AS→AS→Prop),(∀ s s',rel s s'→Qdj s s')∧(∃ a,Qf9 st (inv a)∧ok a)∧∀ a,ok a→U6 C c (eJ (fun s'=>∃ a',rel s' (inv a')∧ok a'∧μ a'<μ a) Q) (inv a)
section
variable (C:Ctx) (Q:AExit→AS→Prop) (st:AS)
theorem uN:U6 C .skip Q st=Q .normal st:=rfl
theorem kX (id:Nat) (ops:List Oper):U6 C (.region id ops.toArray false) Q st=qP C ops ops (Q .normal) st:=rfl
theorem uR (id:Nat) (ops:List Oper):U6 C (.region id ops.toArray true) Q st=Vz C.one ops 0 ops [] (Q .normal) st:=rfl
theorem Zbe (x y:Code):U6 C (.seq x y) Q st=U6 C x (eJ (U6 C y Q) Q) st:=rfl
theorem uS (c:Operand) (x y:Code):U6 C (.cond c x y) Q st=(match st.ev C 0 c with
  | .d b=>b.isBool∧Qcl b.b (U6 C x Q st) (U6 C y Q st)
  | _=>False):=rfl
theorem oB (id:Nat) (c:Code):U6 C (.block id c) Q st=U6 C c (kV id Q) st:=rfl
theorem uO (c:Code):U6 C (.loop c) Q st=Zhq C c Q st:=rfl
theorem uP (id:Nat):U6 C (.exit id) Q st=Q (.exit id) st:=rfl
theorem Zbf:U6 C .ret Q st=Q .ret st:=rfl
end
def Less (G:Gh) (L:Nat→Option Obj) (G':Gh) (L':Nat→Option Obj):Prop :=
 ∀ i o',L' i=some o'→∀ o,L i=some o→G'.γ i=G.γ i∧G'.hd i=G.hd i∧(o'.isBox=true→o.isBox=true)∧(∀ s els k,o'=.row s els k→o=.row s els k)∧∀ t l,o'=.brow t l→o=.brow t l
mutual
theorem RA.less {F:Fix} {G G':Gh} {L:Nat→Option Obj} {o2:Z5} (g:Less G L G' (lk o2)):∀ {x:AV} {v:Value},x.kept o2→RA F G L x v→RA F G' (lk o2) x v
 | .d x,_,_,hr=>by simpa only [RA] using hr
 | .ref i f,v,hk,hr=>by
  simp only [RA,AV.kept] at hr hk ⊢;cases hl:L i with
  | none=>simp [hl] at hr
  | some o =>
   cases h2:lk o2 i with
   | none=>simp [h2] at hk
   | some o' =>
    obtain ⟨q1,q2,q3,_⟩:=g i o' h2 o hl;simp only [hl] at hr;refine ⟨hr.1,fun hb=>?_⟩;rw [q1];exact hr.2 (q3 hb)
 | .mpr i,v,hk,hr=>by
  simp only [RA,AV.kept] at hr hk ⊢;cases hl:L i with
  | none=>simp [hl] at hr
  | some o =>
   cases h2:lk o2 i with
   | none=>simp [h2] at hk
   | some o' =>
    obtain ⟨q1,q2,q3,_⟩:=g i o' h2 o hl;simp only [hl] at hr;refine ⟨hr.1,fun hb=>?_⟩;rw [q1];exact hr.2 (q3 hb)
 | .rref i n e f,v,hk,hr=>by
  simp only [RA,AV.kept] at hr hk ⊢;cases hl:L i with
  | none=>simp [hl] at hr
  | some o =>
   cases h2:lk o2 i with
   | none=>simp [h2] at hk
   | some o' =>
    obtain ⟨q1,q2,_,q4,q5⟩:=g i o' h2 o hl;cases o' with
    | row s els k =>
     have:=q4 s els k rfl;subst this;simp only [hl] at hr;simp only [q1];exact hr
    | _=>exact ⟨hr.1,trivial⟩
 | .sl i n,v,hk,hr=>by
  simp only [RA,AV.kept] at hr hk ⊢;cases hl:L i with
  | none=>simp [hl] at hr
  | some o =>
   cases h2:lk o2 i with
   | none=>simp [h2] at hk
   | some o' =>
    obtain ⟨q1,q2,_,q4,q5⟩:=g i o' h2 o hl;cases o' with
    | row s els k =>
     have:=q4 s els k rfl;subst this;simp only [hl] at hr;simp only [q2];exact hr
    | brow t l =>
     have:=q5 t l rfl;subst this;simp only [hl] at hr;simp only [q2];exact hr
    | _=>exact ⟨hr.1,trivial⟩
 | .sb i n f,v,hk,hr=>by
  simp only [RA,AV.kept] at hr hk ⊢;cases hl:L i with
  | none=>simp [hl] at hr
  | some o =>
   cases h2:lk o2 i with
   | none=>simp [h2] at hk
   | some o' =>
    obtain ⟨q1,q2,_,q4,q5⟩:=g i o' h2 o hl;cases o' with
    | row s els k =>
     have:=q4 s els k rfl;subst this;simp only [hl] at hr;simp only [q1,q2];exact hr
    | _=>exact ⟨hr.1,trivial⟩
 | .agg l,v,hk,hr=>by
  simp only [RA,AV.kept] at hr hk ⊢;obtain ⟨cs,h1,h2,h3⟩:=hr;exact ⟨cs,h1,RAs.less g hk h2,h3⟩
 | .tup l,v,hk,hr=>by
  simp only [RA,AV.kept] at hr hk ⊢;obtain ⟨cs,h1,h2⟩:=hr;exact ⟨cs,h1,RAs.less g hk h2⟩
 | .clo f l,v,hk,hr=>by
  simp only [RA,AV.kept] at hr hk ⊢;obtain ⟨cs,h1,h2⟩:=hr;exact ⟨cs,h1,RAs.less g hk h2⟩
 | .nils _,_,_,hr=>by simpa only [RA] using hr
 | .dead,_,_,_=>by simp only [RA]
 | .bad _,_,_,hr=>by simpa only [RA] using hr
theorem RAs.less {F:Fix} {G G':Gh} {L:Nat→Option Obj} {o2:Z5} (g:Less G L G' (lk o2)):∀ {l:List AV} {vs:List Value},keptAll o2 l→RAs F G L l vs→RAs F G' (lk o2) l vs
 | [],_,_,hr=>by simpa only [RAs] using hr
 | x::l,vs,hk,hr=>by
  simp only [RAs,keptAll] at hr hk ⊢;obtain ⟨v,r,h1,h2,h3⟩:=hr;exact ⟨v,r,h1,RA.less g hk.1 h2,RAs.less g hk.2 h3⟩
end
theorem fP {o1 o2:Z5}:∀ {r:Z5},oM o1 o2 r→∀ {i:Nat} {o:Obj},lk r i=some o→Wm o1 o2 (lk o1 i) o
 | [],_,i,o,h=>by simp [lk] at h
 | (j,p)::r,hw,i,o,h=>by
  simp only [oM] at hw;simp only [lk] at h;by_cases eA:i=j
  ·rw [if_pos eA] at h;injection h with h
   subst h;subst eA;exact hw.1
  ·rw [if_neg eA] at h;exact fP hw.2 h
def Mh (G:Gh) (o1:Z5):Gh:=⟨fun i=>if lk o1 i=none then none else G.γ i,fun i=>if lk o1 i=none then .slice none 0 0 else G.hd i⟩
theorem nZ {G:Gh} {o1 o2:Z5} (h:oM o1 o2 o2):Less G (lk o1) (Mh G o1) (lk o2):=by
 intro i o' h2 o h1;have hw:=fP h h2;have hn:lk o1 i≠none:=by rw [h1];simp
 refine ⟨by simp [Mh,h1],by simp [Mh,h1],?_,?_,?_⟩
 ·intro hb;rw [h1] at hw;cases o'<;>cases o<;>simp_all [Wm,Obj.isBox]
 ·intro s els k he;subst he;rw [h1] at hw;cases o<;>simp_all [Wm]
 ·intro t l he;subst he;rw [h1] at hw;cases o<;>simp_all [Wm]
theorem Zeq {o1 o2:Z5} {l l':List AV} {T:Nat} (h:R8 o1 o2 l l') (hT:l'.head?=some (.bad T)):l.head?=some (.bad T):=by
 cases l' with
 | nil=>simp at hT
 | cons y l' =>
  cases l with
  | nil=>simp [R8] at h
  | cons x l =>
   simp only [R8] at h;simp only [List.head?_cons,Zc] at hT ⊢;subst hT;have h1:=h.1;cases x<;>first|exact (by simpa only [kM] using h1:_∧_).1|(simp [kM] at h1)
theorem aM {F:Fix} {G:Gh} {o1 o2:Z5} (h:oM o1 o2 o2):∀ {l l':List AV} {vs:List Value},R8 o1 o2 l l'→RAs F G (lk o1) l vs→RAs F (Mh G o1) (lk o2) l' vs
 | [],[],_,_,hr=>by simpa only [RAs] using hr
 | [],_::_,_,hw,_=>by simp [R8] at hw
 | _::_,[],_,hw,_=>by simp [R8] at hw
 | x::l,y::l',vs,hw,hr=>by
  simp only [R8] at hw;simp only [RAs] at hr ⊢;obtain ⟨v,r,h1,h2,h3⟩:=hr;refine ⟨v,r,h1,?_,aM h hw.2 h3⟩;have gen:∀ z:AV,x=z∧z.kept o2→RA F (Mh G o1) (lk o2) z v:=fun z hz=>by
   obtain ⟨rfl,hk⟩:=hz;exact RA.less (nZ h) hk h2
  have Zil:=hw.1;cases y with
  | dead=>simp [RA]
  | sl i n =>
   cases x with
   | nils s =>
    simp only [kM] at Zil;obtain ⟨rfl,g1,g2⟩:=Zil;simp only [RA] at h2;simp only [RA,g2];refine ⟨by rw [h2];rfl,Zl _,fun _=>?_⟩
    simp [Mh,g1,h2]
   | _=>exact gen _ (by simpa only [kM] using Zil)
  | d z =>
   cases x with
   | nils s =>
    cases z with
    | list s' l' =>
     simp only [kM] at Zil;obtain ⟨rfl,rfl⟩:=Zil;simp only [RA] at h2;simp only [RA,R];exact ⟨none,0,by simpa using h2,by simp,by simp [maxLen],by simp⟩
    | _=>exact gen _ (by simpa only [kM] using Zil)
   | _=>exact gen _ (by simpa only [kM] using Zil)
  | _=>cases x<;>exact gen _ (by simpa only [kM] using Zil)
section
variable {base:Nat} {pass:Nat→Prop} {F0:Anc} {m:Nat→Nat} {G:Gh} {st st':AS} {a:Act} {w:World}
theorem Zes {o2:Z5}:∀ {o1:Z5} {i:Nat} {o:Obj},rF o2 o1→lk o1 i=some o→90000≤i→(lk o2 i).isSome=true
 | [],_,_,_,h,_=>by simp [lk] at h
 | (j,p)::r,i,o,h,hi,hn=>by
  simp only [rF] at h;simp only [lk] at hi;by_cases eA:i=j
  ·subst eA;exact h.1 hn
  ·rw [if_neg eA] at hi;exact Zes h.2 hi hn
theorem SRg.weak (h:SRg base pass F0 m G st a w) (hw:Wk st st'):SRg base pass F0 m (Mh G st.objs) st' a w:=by
 obtain ⟨Zil,Zyk,Qhf⟩:=hw;have Lf:=nZ (G:=G) Zyk;have back:∀ i o',lk st'.objs i=some o'→o'.owns=true→∀ b,(Mh G st.objs).γ i=some b→∃ o,lk st.objs i=some o∧o.owns=true∧G.γ i=some b:=by
  intro i o' hi ho b hb;have F8:=fP Zyk hi;cases h1:lk st.objs i with
  | none=>simp [Mh,h1] at hb
  | some o =>
   refine ⟨o,rfl,?_,by simpa [Mh,h1] using hb⟩
   rw [h1] at F8;cases o<;>cases o'<;>simp_all [Wm,Obj.owns]
 constructor
 ·exact h.defers
 ·exact aM Zyk Zil h.tmps
 ·intro i o' hi;have F8:=fP Zyk hi;cases h1:lk st.objs i with
  | none =>
   rw [h1] at F8;cases o' with
   | slot e f=>trivial
   | row s els k =>
    simp only [Wm] at F8;obtain ⟨rfl,rfl⟩:=F8;exact .inl ⟨by simp [Mh,h1],by simp [Mh,h1],rfl,rfl⟩
   | _=>simp [Wm] at F8
  | some o =>
   obtain ⟨q1,q2,_,_⟩:=Lf i o' hi o h1;have hk:=h.objs i o h1;rw [h1] at F8;cases o' with
   | box ag' cs' =>
    cases o with
    | box ag cs =>
     simp only [Wm] at F8;simp only [Qf] at hk ⊢;obtain ⟨b,vs,t,g1,g2,g3,g4,g5⟩:=hk;exact ⟨b,vs,t,by rw [q1];exact g1,g2,aM Zyk F8.2 g3,g4,g5.1,fun T hT=>g5.2 T (Zeq F8.2 hT)⟩
    | _=>simp [Wm] at F8
   | fbox s x =>
    cases o with
    | fbox s' x' =>
     simp only [Wm,Obj.fbox.injEq] at F8;obtain ⟨rfl,rfl⟩:=F8;simp only [Qf] at hk ⊢;rw [q1];exact hk
    | _=>simp [Wm] at F8
   | row s els k =>
    cases o with
    | row s' els' k' =>
     simp only [Wm,Obj.row.injEq] at F8;obtain ⟨rfl,rfl,rfl⟩:=F8;simp only [Qf] at hk ⊢;rw [q1,q2];exact hk
    | _=>simp [Wm] at F8
   | mp ks vs f =>
    cases o with
    | mp ks' vs' f' =>
     simp only [Wm,Obj.mp.injEq] at F8;obtain ⟨rfl,rfl,rfl⟩:=F8;simp only [Qf] at hk ⊢;rw [q1];exact hk
    | _=>simp [Wm] at F8
   | gone=>trivial
   | slot e f=>trivial
   | brow t l =>
    cases o with
    | brow t' l' =>
     simp only [Wm,Obj.brow.injEq] at F8;obtain ⟨rfl,rfl⟩:=F8;simp only [Qf] at hk ⊢;rw [q1,q2];exact hk
    | _=>simp [Wm] at F8
   | hole j n e f x =>
    cases o with
    | hole j' n' e' f' x' =>
     simp only [Wm] at F8;obtain ⟨rfl,rfl,rfl,rfl,rfl,Qbu,Qh2⟩:=F8;simp only [Qf] at hk ⊢;obtain ⟨b,off,v,h1,h2,h3,h4⟩:=hk;exact ⟨b,off,v,RA.less Lf (by simpa only [AV.kept] using Qbu) h1,h2,h3,RA.less Lf Qh2 h4⟩
    | _=>simp [Wm] at F8
 ·intro i j oi oj b hi hj Qhs C2 Zir Cr;obtain ⟨pi,g1,g2,g3⟩:=back i oi hi Qhs b Zir;obtain ⟨pj,k1,k2,k3⟩:=back j oj hj C2 b Cr;exact h.apart i j pi pj b g1 k1 g2 k2 g3 k3
 ·intro i o b hi ho hb;obtain ⟨p,g1,g2,g3⟩:=back i o hi ho b hb;exact h.mine i p b g1 g2 g3
 ·exact h.frame
 ·exact h.old
 ·exact h.new
 ·exact h.small
 ·intro i o ho;obtain ⟨h1,o1,h2,h3⟩:=h.lent i o ho;have hs:=Zes Qhf h2 h1;cases Zh4:lk st'.objs i with
  | none=>rw [Zh4] at hs;cases hs
  | some o2 =>
   refine ⟨h1,o2,rfl,h3.trans ?_⟩;have F8:=fP Zyk Zh4;obtain ⟨q1,q2,_,_⟩:=Lf i o2 Zh4 o1 h2;rw [h2] at F8;refine ⟨fun hb=>⟨?_,q1⟩,fun s els' k' he=>?_,fun t l' he=>?_⟩;rotate_left 2
   ·subst he;cases o1 with
    | brow t' l =>
     simp only [Wm,Obj.brow.injEq] at F8;obtain ⟨rfl,rfl⟩:=F8;exact ⟨_,rfl,Zl _,fun _=>⟨q1,q2⟩⟩
    | _=>simp [Wm] at F8
   ·cases o1<;>cases o2<;>simp_all [Wm,Obj.isBox]
   ·subst he;cases o1 with
    | row s' els k =>
     simp only [Wm,Obj.row.injEq] at F8;obtain ⟨rfl,rfl,rfl⟩:=F8;exact ⟨_,_,rfl,Zl _,fun _=>⟨q1,q2⟩⟩
    | _=>simp [Wm] at F8
theorem xV {i j:Nat} (eA:i≠j):∀ {o:Z5},lk o j=none→∀ x,lk (ren i j o) x=if x=j then lk o i else if x=i then none else lk o x
 | [],_,x=>by simp [ren,lk]
 | (y,ob)::r,h,x=>by
  simp only [lk] at h;by_cases hy:j=y
  ·rw [if_pos hy] at h;cases h
  ·rw [if_neg hy] at h;have ih:=xV eA h x;simp only [ren,lk,ih];by_cases h1:y=i
   ·subst h1;rw [if_pos rfl];by_cases h2:x=j
    ·rw [if_pos h2,if_pos h2,if_pos rfl]
    ·rw [if_neg h2,if_neg h2];by_cases h3:x=y
     ·rw [if_pos h3,if_neg h2,if_pos h3]
     ·rw [if_neg h3,if_neg h2,if_neg h3,if_neg h3]
   ·rw [if_neg h1];by_cases h2:x=j
    ·subst h2;rw [if_neg hy,if_pos rfl,if_pos rfl,if_neg (fun e=>h1 e.symm)]
    ·rw [if_neg h2,if_neg h2];by_cases h3:x=i
     ·subst h3;rw [if_pos rfl,if_pos rfl,if_neg (fun e=>h1 e.symm)]
     ·rw [if_neg h3,if_neg h3]
def Ux (i j:Nat) (G:Gh):Gh:=⟨fun x=>if x=i then G.γ j else if x=j then none else G.γ x,fun x=>if x=i then G.hd j else if x=j then .slice none 0 0 else G.hd x⟩
theorem iO {o2:Z5} {j:Nat} {p:Obj} {r:Z5} (hk:Gj o2 ((j,p)::r)):Gj o2 r:=by
 cases p<;>simp only [Gj] at hk<;>first|exact hk|exact hk.2|exact hk.2.2
theorem iP {o2:Z5}:∀ {r:Z5},Gj o2 r→∀ {i:Nat} {ag:Bool} {cs:List AV},lk r i=some (.box ag cs)→keptAll o2 cs
 | [],_,i,ag,cs,h=>by simp [lk] at h
 | (j,p)::r,hk,i,ag,cs,h=>by
  simp only [lk] at h;by_cases eA:i=j
  ·rw [if_pos eA] at h;injection h with h
   subst h;simp only [Gj] at hk;exact hk.1
  ·rw [if_neg eA] at h;exact iP (iO hk) h
theorem Ag {o2:Z5}:∀ {r:Z5},Gj o2 r→∀ {i j n e f:Nat} {x:AV},lk r i=some (.hole j n e f x)→(lk o2 j).isSome=true∧x.kept o2
 | [],_,i,j,n,e,f,x,h=>by simp [lk] at h
 | (k,p)::r,hk,i,j,n,e,f,x,h=>by
  simp only [lk] at h;by_cases eA:i=k
  ·rw [if_pos eA] at h;injection h with h
   subst h;simp only [Gj] at hk;exact ⟨hk.1,hk.2.1⟩
  ·rw [if_neg eA] at h;exact Ag (iO hk) h
theorem Zbl {F:Fix} {G G':Gh} {L:Nat→Option Obj} {o2:Z5} (g:Less G L G' (lk o2)) {i j n:Nat} (hs:∀ v,RA F G L (.sl j n) v→RA F G' (lk o2) (.sl i n) v):∀ {l:List AV} {k:Nat} {vs:List Value},
  keptAll o2 (l.set k .dead)→l.getD k .dead=.sl i n→RAs F G L (l.set k (.sl j n)) vs→RAs F G' (lk o2) l vs
 | [],k,vs,_,h,_=>by simp at h
 | x::l,0,vs,hk,h,hr=>by
  simp only [List.getD_cons_zero] at h;subst h;simp only [Jr,keptAll,RAs] at hk hr ⊢;obtain ⟨v,r,h1,h2,h3⟩:=hr;exact ⟨v,r,h1,hs v h2,RAs.less g hk.2 h3⟩
 | x::l,k+1,vs,hk,h,hr=>by
  simp only [List.getD_cons_succ] at h;simp only [Jx,keptAll,RAs] at hk hr ⊢;obtain ⟨v,r,h1,h2,h3⟩:=hr;exact ⟨v,r,h1,RA.less g hk.1 h2,Zbl g hs hk.2 h h3⟩
theorem SRg.ren {k i j n:Nat} {s2:AS} (h:SRg base pass F0 m G ⟨s2.tmps.set k (.sl j n),ren i j s2.objs⟩ a w) (hk:s2.tmps.getD k .dead=.sl i n) (hj:lk s2.objs j=none) (hr:nA (lk s2.objs i))
  (hi9:i<90000) (hj9:j<90000) (rD:keptAll s2.objs (s2.tmps.set k .dead)) (hko:Gj s2.objs s2.objs):SRg base pass F0 m (Ux i j G) s2 a w:=by
 have eA:i≠j:=fun e=>by
  subst e;rw [hj] at hr;exact hr
 have hL:=xV eA hj;have γi:(Ux i j G).γ i=G.γ j:=by simp [Ux]
 have Zyb:(Ux i j G).hd i=G.hd j:=by simp [Ux]
 have γx:∀ x,x≠i→x≠j→(Ux i j G).γ x=G.γ x:=fun x h1 h2=>by simp [Ux,h1,h2]
 have Zen:∀ x,x≠i→x≠j→(Ux i j G).hd x=G.hd x:=fun x h1 h2=>by simp [Ux,h1,h2]
 have ne_j:∀ x o,lk s2.objs x=some o→x≠j:=fun x o hx e=>by rw [e,hj] at hx;cases hx
 have Zks:∀ x,x≠i→x≠j→lk (Go.Am.ren i j s2.objs) x=lk s2.objs x:=fun x h1 h2=>by rw [hL x,if_neg h2,if_neg h1]
 have Zyg:lk (Go.Am.ren i j s2.objs) j=lk s2.objs i:=by rw [hL j,if_pos rfl]
 have Lf:Less G (lk (Go.Am.ren i j s2.objs)) (Ux i j G) (lk s2.objs):=by
  intro x o' h2 o h1;have N5:=ne_j x o' h2;by_cases Na:x=i
  ·subst Na;rw [hL x,if_neg N5,if_pos rfl] at h1;cases h1
  ·rw [Zks x Na N5,h2] at h1;injection h1 with h1
   subst h1;exact ⟨γx x Na N5,Zen x Na N5,fun hb=>hb,fun s els k he=>he,fun t l he=>he⟩
 have cell:∀ v,RA ⟨w,m⟩ G (lk (Go.Am.ren i j s2.objs)) (.sl j n) v→RA ⟨w,m⟩ (Ux i j G) (lk s2.objs) (.sl i n) v:=by
  intro v hv;simp only [RA] at hv ⊢;rw [Zyg] at hv;rw [Zyb];exact hv
 obtain ⟨σ,hσ⟩:∃ σ:Nat→Nat,σ=fun x=>if x=i then j else x:=⟨_,rfl⟩
 have hσL:∀ x o,lk s2.objs x=some o→lk (Go.Am.ren i j s2.objs) (σ x)=some o∧(Ux i j G).γ x=G.γ (σ x):=by
  intro x o hx;have N5:=ne_j x o hx;by_cases Na:x=i
  ·subst Na;have:σ x=j:=by rw [hσ];simp
   rw [this,Zyg,γi];exact ⟨hx,rfl⟩
  ·have:σ x=x:=by rw [hσ];simp [Na]
   rw [this,Zks x Na N5,γx x Na N5];exact ⟨hx,rfl⟩
 constructor
 ·exact h.defers
 ·exact Zbl Lf cell rD hk h.tmps
 ·intro x o hx;have N5:=ne_j x o hx;by_cases Na:x=i
  ·subst Na;have Yd:=h.objs j o (by rw [Zyg];exact hx)
   rw [hx] at hr;cases o with
   | row s els k0 =>
    simp only [Qf] at Yd ⊢;rw [γi,Zyb];exact Yd
   | _=>exact hr.elim
  ·have Yd:=h.objs x o (by rw [Zks x Na N5];exact hx)
   cases o with
   | box ag cs =>
    simp only [Qf] at Yd ⊢;obtain ⟨b,vs,t,g1,g2,g3,g4,g5⟩:=Yd;exact ⟨b,vs,t,by rw [γx x Na N5];exact g1,g2,RAs.less Lf (iP hko hx) g3,g4,g5⟩
   | fbox s y =>
    simp only [Qf] at Yd ⊢;rw [γx x Na N5];exact Yd
   | row s els k0 =>
    simp only [Qf] at Yd ⊢;rw [γx x Na N5,Zen x Na N5];exact Yd
   | mp ks vs f =>
    simp only [Qf] at Yd ⊢;rw [γx x Na N5];exact Yd
   | gone=>trivial
   | slot e f=>trivial
   | brow t l =>
    simp only [Qf] at Yd ⊢;rw [γx x Na N5,Zen x Na N5];exact Yd
   | hole j' n' e f y =>
    simp only [Qf] at Yd ⊢;obtain ⟨h1,h2⟩:=Ag hko hx;obtain ⟨b,off,v,g1,g2,g3,g4⟩:=Yd;exact ⟨b,off,v,RA.less Lf (by simpa only [AV.kept] using h1) g1,g2,g3,RA.less Lf h2 g4⟩
 ·intro x y ox oy b hx hy Qed Qec Qb6 Qb5;obtain ⟨k1,k2⟩:=hσL x ox hx;obtain ⟨l1,l2⟩:=hσL y oy hy;rw [k2] at Qb6;rw [l2] at Qb5;have:=h.apart _ _ ox oy b k1 l1 Qed Qec Qb6 Qb5;have N5:=ne_j x ox hx;have Qdq:=ne_j y oy hy;rw [hσ] at this;simp only at this;by_cases h1:x=i
  ·by_cases h2:y=i
   ·rw [h1,h2]
   ·rw [if_pos h1,if_neg h2] at this;exact absurd this.symm Qdq
  ·by_cases h2:y=i
   ·rw [if_neg h1,if_pos h2] at this;exact absurd this N5
   ·rw [if_neg h1,if_neg h2] at this;exact this
 ·intro x o b hx ho hb;obtain ⟨k1,k2⟩:=hσL x o hx;exact h.mine _ o b k1 ho (by rw [←k2];exact hb)
 ·exact h.frame
 ·exact h.old
 ·exact h.new
 ·exact h.small
 ·intro x o ho;obtain ⟨h1,o1,h2,h3⟩:=h.lent x o ho;have Na:x≠i:=fun e=>by omega
  have N5:x≠j:=fun e=>by omega
  refine ⟨h1,o1,by rw [←Zks x Na N5];exact h2,h3.trans ?_⟩
  refine ⟨fun hb=>⟨hb,γx x Na N5⟩,fun s els' k' he=>⟨els',k',he,Zl _,fun _=>⟨γx x Na N5,Zen x Na N5⟩⟩,fun t l' he=>⟨l',he,Zl _,fun _=>⟨γx x Na N5,Zen x Na N5⟩⟩⟩
theorem SRg.renC {q i j n:Nat} {ag:Bool} {s2:AS} (h:SRg base pass F0 m G ⟨s2.tmps,upd (Go.Am.ren i j s2.objs) q (.box ag [.sl j n])⟩ a w) (hq:lk s2.objs q=some (.box ag [.sl i n])) (hj:lk s2.objs j=none) (hr:nA (lk s2.objs i))
  (hi9:i<90000) (hj9:j<90000) (rD:keptAll s2.objs s2.tmps) (hko:Gj s2.objs (upd s2.objs q .gone)):SRg base pass F0 m (Ux i j G) s2 a w:=by
 have eA:i≠j:=fun e=>by
  subst e;rw [hj] at hr;exact hr
 have Qd6:q≠i:=fun e=>by
  subst e;rw [hq] at hr;exact hr
 have Qhm:q≠j:=fun e=>by
  subst e;rw [hq] at hj;cases hj
 have hL:=xV eA hj;obtain ⟨L1,Qe5⟩:=exq (lk (upd (Go.Am.ren i j s2.objs) q (.box ag [.sl j n])));have Qc2:L1 q=some (.box ag [.sl j n]):=by rw [←Qe5,J2,if_pos rfl]
 have Qfc:∀ x,x≠q→L1 x=lk (Go.Am.ren i j s2.objs) x:=fun x hx=>by rw [←Qe5,J2,if_neg hx]
 have γi:(Ux i j G).γ i=G.γ j:=by simp [Ux]
 have Zyb:(Ux i j G).hd i=G.hd j:=by simp [Ux]
 have γx:∀ x,x≠i→x≠j→(Ux i j G).γ x=G.γ x:=fun x h1 h2=>by simp [Ux,h1,h2]
 have Zen:∀ x,x≠i→x≠j→(Ux i j G).hd x=G.hd x:=fun x h1 h2=>by simp [Ux,h1,h2]
 have ne_j:∀ x o,lk s2.objs x=some o→x≠j:=fun x o hx e=>by rw [e,hj] at hx;cases hx
 have Zks:∀ x,x≠i→x≠j→x≠q→L1 x=lk s2.objs x:=fun x h1 h2 h3=>by rw [Qfc x h3,hL x,if_neg h2,if_neg h1]
 have Zyg:L1 j=lk s2.objs i:=by rw [Qfc j (Ne.symm Qhm),hL j,if_pos rfl]
 have Qcd:L1 i=none:=by rw [Qfc i (Ne.symm Qd6),hL i,if_neg eA,if_pos rfl]
 have Lf:Less G L1 (Ux i j G) (lk s2.objs):=by
  intro x o' h2 o h1;have N5:=ne_j x o' h2;by_cases Na:x=i
  ·subst Na;rw [Qcd] at h1;cases h1
  ·by_cases Zeh:x=q
   ·subst Zeh;rw [Qc2] at h1;injection h1 with h1
    subst h1;rw [hq] at h2;injection h2 with h2
    subst h2;exact ⟨γx x Na N5,Zen x Na N5,fun _=>rfl,fun s els k he=>(by cases he),fun t l he=>(by cases he)⟩
   ·rw [Zks x Na N5 Zeh,h2] at h1;injection h1 with h1
    subst h1;exact ⟨γx x Na N5,Zen x Na N5,fun hb=>hb,fun s els k he=>he,fun t l he=>he⟩
 have cell:∀ v,RA ⟨w,m⟩ G L1 (.sl j n) v→RA ⟨w,m⟩ (Ux i j G) (lk s2.objs) (.sl i n) v:=by
  intro v hv;simp only [RA] at hv ⊢;rw [Zyg] at hv;rw [Zyb];exact hv
 obtain ⟨σ,hσ⟩:∃ σ:Nat→Nat,σ=fun x=>if x=i then j else x:=⟨_,rfl⟩
 have hσL:∀ x o,lk s2.objs x=some o→∃ o1,L1 (σ x)=some o1∧o1.owns=o.owns∧(Ux i j G).γ x=G.γ (σ x):=by
  intro x o hx;have N5:=ne_j x o hx;by_cases Na:x=i
  ·subst Na;have:σ x=j:=by rw [hσ];simp
   rw [this,Zyg,γi];exact ⟨o,hx,rfl,rfl⟩
  ·have:σ x=x:=by rw [hσ];simp [Na]
   rw [this,γx x Na N5];by_cases Zeh:x=q
   ·subst Zeh;rw [hq] at hx;injection hx with hx
    subst hx;exact ⟨_,Qc2,rfl,rfl⟩
   ·exact ⟨o,by rw [Zks x Na N5 Zeh];exact hx,rfl,rfl⟩
 have Zki:=h.tmps;have Zkk:=h.objs;have Qca:=h.apart;have Qbq:=h.mine;have M8:=h.lent;simp only [Qe5] at Zki Zkk Qca Qbq M8;constructor
 ·exact h.defers
 ·exact RAs.less Lf rD Zki
 ·intro x o hx;have N5:=ne_j x o hx;by_cases Na:x=i
  ·subst Na;have Yd:=Zkk j o (by rw [Zyg];exact hx)
   rw [hx] at hr;cases o with
   | row s els k0 =>
    simp only [Qf] at Yd ⊢;rw [γi,Zyb];exact Yd
   | _=>exact hr.elim
  ·by_cases Zeh:x=q
   ·subst Zeh;rw [hq] at hx;injection hx with hx
    subst hx;have Yd:=Zkk x _ Qc2;simp only [Qf] at Yd ⊢;obtain ⟨b,vs,t,g1,g2,g3,g4,g5⟩:=Yd;refine ⟨b,vs,t,by rw [γx x Na N5];exact g1,g2,?_,g4,g5.1,fun T hT=>by simp at hT⟩
    simp only [RAs] at g3 ⊢;obtain ⟨v,r,k1,k2,k3⟩:=g3;exact ⟨v,r,k1,cell v k2,k3⟩
   ·have Yd:=Zkk x o (by rw [Zks x Na N5 Zeh];exact hx)
    have Qgb:lk (upd s2.objs q .gone) x=some o:=by rw [J2,if_neg Zeh];exact hx
    cases o with
    | box ag cs =>
     simp only [Qf] at Yd ⊢;obtain ⟨b,vs,t,g1,g2,g3,g4,g5⟩:=Yd;exact ⟨b,vs,t,by rw [γx x Na N5];exact g1,g2,RAs.less Lf (iP hko Qgb) g3,g4,g5⟩
    | fbox s y =>
     simp only [Qf] at Yd ⊢;rw [γx x Na N5];exact Yd
    | row s els k0 =>
     simp only [Qf] at Yd ⊢;rw [γx x Na N5,Zen x Na N5];exact Yd
    | mp ks vs f =>
     simp only [Qf] at Yd ⊢;rw [γx x Na N5];exact Yd
    | gone=>trivial
    | slot e f=>trivial
    | brow t l =>
     simp only [Qf] at Yd ⊢;rw [γx x Na N5,Zen x Na N5];exact Yd
    | hole j' n' e f y =>
     simp only [Qf] at Yd ⊢;obtain ⟨h1,h2⟩:=Ag hko Qgb;obtain ⟨b,off,v,g1,g2,g3,g4⟩:=Yd;exact ⟨b,off,v,RA.less Lf (by simpa only [AV.kept] using h1) g1,g2,g3,RA.less Lf h2 g4⟩
 ·intro x y ox oy b hx hy Qed Qec Qb6 Qb5;obtain ⟨o1,k1,k3,k2⟩:=hσL x ox hx;obtain ⟨o2,l1,l3,l2⟩:=hσL y oy hy;rw [k2] at Qb6;rw [l2] at Qb5;have:=Qca _ _ o1 o2 b k1 l1 (k3.trans Qed) (l3.trans Qec) Qb6 Qb5;have N5:=ne_j x ox hx;have Qdq:=ne_j y oy hy;rw [hσ] at this;simp only at this;by_cases h1:x=i
  ·by_cases h2:y=i
   ·rw [h1,h2]
   ·rw [if_pos h1,if_neg h2] at this;exact absurd this.symm Qdq
  ·by_cases h2:y=i
   ·rw [if_neg h1,if_pos h2] at this;exact absurd this N5
   ·rw [if_neg h1,if_neg h2] at this;exact this
 ·intro x o b hx ho hb;obtain ⟨o1,k1,k3,k2⟩:=hσL x o hx;exact Qbq _ o1 b k1 (k3.trans ho) (by rw [←k2];exact hb)
 ·exact h.frame
 ·exact h.old
 ·exact h.new
 ·exact h.small
 ·intro x o ho;obtain ⟨h1,o1,h2,h3⟩:=M8 x o ho;have Na:x≠i:=fun e=>by omega
  have N5:x≠j:=fun e=>by omega
  by_cases Zeh:x=q
  ·subst Zeh;rw [Qc2] at h2;injection h2 with h2
   subst h2;refine ⟨h1,_,hq,h3.trans ⟨fun _=>⟨rfl,γx x Na N5⟩,fun s' els' k' he=>(by cases he),fun t l' he=>(by cases he)⟩⟩
  ·refine ⟨h1,o1,by rw [←Zks x Na N5 Zeh];exact h2,h3.trans ?_⟩
   refine ⟨fun hb=>⟨hb,γx x Na N5⟩,fun s els' k' he=>⟨els',k',he,Zl _,fun _=>⟨γx x Na N5,Zen x Na N5⟩⟩,fun t l' he=>⟨l',he,Zl _,fun _=>⟨γx x Na N5,Zen x Na N5⟩⟩⟩
end
def Ez:TypeDesc→Bool
 | .struct _=>false
 | .array ..=>false
 | _=>true
def TK.is (P:Program) (τ:Nat→TI):TK→TypeDesc→Prop
 | .int k,d=>d=.int k
 | .bool,d=>d=.bool
 | .str,d=>d=.string
 | .slice e,d=>d=.slice e∧(τ e).kind.ag.isSome=true
 | .struct fs,d=>∃ fields:Array Field,d=.struct fields∧fs.length=fields.size∧∀ (j:Nat) (f:Field) (p:Nat×Nat),fields[j]?=some f→fs[j]?=some p →
   f.offset=p.1∧(P.info? f.type).map (·.size)=some p.2∧0<p.2∧(p.2=1→∃ d',P.underlying f.type=some d'∧Ez d'=true)
 | .array n e,d=>d=.array n e∧(τ e).kind.ag=some false
 | .ptr e,d=>d=.pointer e
 | .map k e,d=>d=.map k e
 | .func,d=>∃ a b c,d=.func a b c
 | .other,_=>True
def SK.desc:SK→TypeDesc
 | .int k=>.int k
 | .bool=>.bool
 | .str=>.string
def Zjm (P : Program) : Nat → List Field → List SK → Prop
  | _, [], [] => True
  | j, f :: fs, k :: ks => f.name ≠ "_" ∧ f.offset = j ∧ P.underlying f.type = some k.desc ∧ Zjm P (j + 1) fs ks
  | _, _, _ => False
def Zxl (P:Program) (t:Nat) (ks:List SK):Prop:=P.underlying t=some (.struct (P.fieldsOf t))∧P.stoodInHeld t=false∧P.eqGuardType P.depth t=false∧Zjm P 0 (P.fieldsOf t).toList ks
structure TyOk (P:Program) (τ:Nat→TI) (t:Nat):Prop where
 und:∃ d,P.underlying t=some d∧(τ t).kind.is P τ d
 info:∃ i z,P.info? t=some i∧i.size=(τ t).size∧i.bytes=(τ t).bytes∧i.zero=some z∧(∀ F G L,RA F G L (τ t).zero z)∧(∀ F,R F (τ t).zd z)∧z.cells.size=(τ t).size ∧
  ∀ u∈z.cells.toList,u.oneCell'=true
 pos:0<(τ t).size
 eqs:(τ t).eqk≠[]→Zxl P t (τ t).eqk
def Xy (P:Program) (τ:Nat→TI):Prop:=∀ t,(τ t).kind.ag.isSome=true→TyOk P τ t
section
variable {P:Program} {C:Ctx} {F:Fix} {G:Gh} {L:Nat→Option Obj} {w:World}
theorem Xy.kind (h:Xy P C.τ) {t:Nat} {k:TK} (hk:(C.τ t).kind=k) (hs:k.ag.isSome=true):∃ d,P.underlying t=some d∧k.is P C.τ d:=by
 obtain ⟨d,h1,h2⟩:=(h t (by rw [hk];exact hs)).und
 exact ⟨d,h1,hk▸h2⟩
theorem uC {hint:Nat} {v:Value}:RA F G L (Gu C hint v) v:=by
 unfold Gu;split
 ·simp [RA]
 ·cases v with
  | int k n=>simp [Lr,RA,R]
  | bool b=>simp [Lr,RA,R]
  | string s=>simp [Lr,RA,R]
  | nilFunc=>simp [Lr,RA,R]
  | pointer a=>cases a<;>simp [Lr,RA,R]
  | map a=>cases a<;>simp [Lr,RA,R]
  | nilIface=>simp only [Lr,RA,R];rfl
  | _=>simp [Lr,RA]
theorem Wf {st:AS} {a:Act} (h:RAs F G L st.tmps a.tmps.toList) {hint:Nat} (x:Operand):RA F G L (st.ev C hint x) (a.eval x):=by
 cases x with
 | tmp t =>
  simp only [AS.ev,Act.eval];cases hx:st.tmps[t]? with
  | none=>rw [Zk,hx];simp [RA]
  | some y =>
   obtain ⟨u,hu,hr⟩:=h.at hx;rw [Zk,hx,Array.getD_eq_getD_getElem?];rw [Array.getElem?_toList] at hu;rw [hu];exact hr
 | const v=>exact uC
 | global g=>simp [AS.ev,RA]
 | func f=>simp [AS.ev,RA,R,Act.eval,Rs]
theorem R.of_int {x:D} {v:Value} {k:IntKind} (h:R F x v) (hk:x.isInt k):v=.int k x.i:=by
 cases x<;>simp_all [D.isInt,D.i,R]
theorem R.of_anyInt {x:D} {v:Value} (h:R F x v) (hk:x.isAnyInt):∃ k,v=.int k x.i:=by
 cases x<;>simp_all [D.isAnyInt,D.i,R]
theorem R.of_bool {x:D} {v:Value} (h:R F x v) (hk:x.isBool):v=.bool x.b:=by
 cases x<;>simp_all [D.isBool,D.b,R]
theorem R.of_str {x:D} {v:Value} (h:R F x v) (hk:x.isStr):v=.string ⟨x.s.toArray⟩:=by
 cases x<;>simp_all [D.isStr,D.s,R]
theorem R.of_list {x:D} {v:Value} {s:Nat} (h:R F x v) (hk:x.isList s):R F (.list s x.l) v:=by
 cases x<;>simp_all [D.isList,D.l]
theorem R.int {k:IntKind} {n:Int}:R F (.int k n) (.int k n):=by simp [R]
theorem R.bool {b:Bool}:R F (.bool b) (.bool b):=by simp [R]
theorem R.str {s:List UInt8}:R F (.str s) (.string ⟨s.toArray⟩):=by simp [R]
theorem Ew {k:IntKind} {n:Int} (h:Aj k n):k.wrap n=n:=by
 unfold Aj at h;cases k<;>simp [IntKind.min,IntKind.max,IntKind.signed,IntKind.bits] at h<;>simp [IntKind.wrap,IntKind.signed,IntKind.bits]<;>omega
theorem qN (a b:List UInt8):(⟨a.toArray⟩++⟨b.toArray⟩:ByteArray)=⟨(a++b).toArray⟩:=by
 apply ByteArray.ext;simp
def Wc (op:BinOp) (t:Nat) (ox oy:Operand) (vx vy:Value):Sem Value:=do
 eqGuard op t ox oy vx vy
 binOp op t vx vy
theorem Km {op:BinOp} {t:Nat} {ox oy:Operand} {k:IntKind} {a b:Int} {r:Value} (h:(binOp op t (.int k a) (.int k b)).run P w=.ok r w) :
  (Wc op t ox oy (.int k a) (.int k b)).run P w=.ok r w:=by
 unfold Wc eqGuard;cases op<;>simpa using h
theorem jU {op:BinOp} {t:Nat} {ox oy:Operand} {a b:ByteArray} {r:Value} (h:(binOp op t (.string a) (.string b)).run P w=.ok r w) :
  (Wc op t ox oy (.string a) (.string b)).run P w=.ok r w:=by
 unfold Wc eqGuard;cases op<;>simpa using h
theorem eQ {op:BinOp} {t:Nat} {ox oy:Operand} {a b:Bool} {r:Value} (h:(binOp op t (.bool a) (.bool b)).run P w=.ok r w) :
  (Wc op t ox oy (.bool a) (.bool b)).run P w=.ok r w:=by
 unfold Wc eqGuard;cases op<;>simpa using h
theorem pZ {t:Nat} {a b:Bool} (h:P.underlying t=some .bool):(binOp .eql t (.bool a) (.bool b)).run P w=.ok (.bool (a==b)) w:=by
 have he:∀ d:Nat,(Op.equalIn (d+1) t (.bool a) (.bool b)).run P w=.ok (a==b) w:=fun d=>by simp [Op.equalIn,run_underlying h]
 simp only [binOp];simp [Op.equal,Op.maxDepth,he 9999]
theorem pQ {t:Nat} {a b:Bool} (h:P.underlying t=some .bool):(binOp .neq t (.bool a) (.bool b)).run P w=.ok (.bool (!(a==b))) w:=by
 have he:∀ d:Nat,(Op.equalIn (d+1) t (.bool a) (.bool b)).run P w=.ok (a==b) w:=fun d=>by simp [Op.equalIn,run_underlying h]
 simp only [binOp];simp [Op.equal,Op.maxDepth,he 9999]
theorem S7 {t:Nat} {d:TypeDesc} (h:P.underlying t=some d) (hd:(match d with|.struct _|.array _ _=>true|_=>false)=false) {cs:Array Value} {off:Nat} {v:Value} (hv:cs[off]?=some v) (w:World) :
  (part t cs off).run P w=.ok v w:=by
 have hi:(isAgg t).run P w=.ok false w:=by
  simp only [isAgg,Sem.run_bind,run_underlying h,Result.andThen_ok];cases d<;>simp_all
 simp [part,hi,hv]
theorem Oq {F:Fix}:∀ {fs:List Field} {ks:List SK} {j:Nat} {pre pre':List Value} {l l':List D} {vs vs':List Value},Zjm P j fs ks→Du ks l→Du ks l'→Rs F l vs→Rs F l' vs'→pre.length=j→pre'.length=j →
  ∀ (d:Nat) (w:World),(Op.eqFields (d+1) (pre++vs).toArray (pre'++vs').toArray fs).run P w=.ok (Hv l l') w
 | [],[],j,pre,pre',l,l',vs,vs',_,h1,h2,_,_,_,_,d,w=>by
  cases l<;>simp only [Du] at h1;cases l'<;>simp only [Du] at h2;simp [Op.eqFields,Hv]
 | [],_::_,_,_,_,_,_,_,_,h,_,_,_,_,_,_,_,_=>h.elim
 | _::_,[],_,_,_,_,_,_,_,h,_,_,_,_,_,_,_,_=>h.elim
 | f::fs,k::ks,j,pre,pre',l,l',vs,vs',h,h1,h2,h3,h4,e1,e2,d,w=>by
  cases l with
  | nil=>simp only [Du] at h1
  | cons x l =>
   cases l' with
   | nil=>simp only [Du] at h2
   | cons y l' =>
    obtain ⟨hn,ho,hu,hr⟩:=h;simp only [Du] at h1 h2;simp only [Rs] at h3 h4;obtain ⟨v,r,rfl,hv,h3⟩:=h3;obtain ⟨v',r',rfl,hv',h4⟩:=h4;have ih:=Oq (pre:=pre++[v]) (pre':=pre'++[v']) hr h1.2 h2.2 h3 h4 (by simp [e1]) (by simp [e2]) d w
    have p1:(part f.type (pre++v::r).toArray f.offset).run P w=.ok v w:=S7 hu (by cases k<;>rfl) (by rw [ho];simp [←e1]) w
    have p2:(part f.type (pre'++v'::r').toArray f.offset).run P w=.ok v' w:=S7 hu (by cases k<;>rfl) (by rw [ho];simp [←e2]) w
    have pe:(Op.equalIn (d+1) f.type v v').run P w=.ok (D.eqb x y) w:=by
     cases k with
     | int k =>
      have g1:=h1.1;have g2:=h2.1;simp only [SK.is] at g1 g2;rw [hv.of_int g1,hv'.of_int g2];cases x<;>simp only [D.isInt] at g1;cases y<;>simp only [D.isInt] at g2;exact run_equalIn_int w d _ _ _ _ _ hu
     | bool =>
      have g1:=h1.1;have g2:=h2.1;simp only [SK.is] at g1 g2;rw [hv.of_bool g1,hv'.of_bool g2];cases x<;>simp only [D.isBool] at g1;cases y<;>simp only [D.isBool] at g2;exact run_equalIn_bool' w d _ _ _ hu
     | str =>
      have g1:=h1.1;have g2:=h2.1;simp only [SK.is] at g1 g2;rw [hv.of_str g1,hv'.of_str g2,run_equalIn_string (P:=P) w d f.type _ _ hu,ByteArray.toList_mk,ByteArray.toList_mk];cases x<;>simp only [D.isStr] at g1;cases y<;>simp only [D.isStr] at g2;simp [D.eqb,D.s]
    simp only [Op.eqFields,if_pos hn,Sem.run_bind,p1,p2,pe,Result.andThen_ok,Sem.run_ite];simp only [List.append_assoc,List.cons_append,List.nil_append] at ih;cases hb:D.eqb x y with
    | true=>simp [Hv,hb,ih]
    | false=>simp [Hv,hb]
theorem yF {t:Nat} {ks:List SK} (h:Zxl P t ks) {x y:D} {vx vy:Value} (hx:R F x vx) (hy:R F y vy) (h1:gJ ks x) (h2:gJ ks y) (ox oy:Operand) :
  (Wc .eql t ox oy vx vy).run P w=.ok (.bool (Hv (lA x) (lA y))) w∧(Wc .neq t ox oy vx vy).run P w=.ok (.bool (!Hv (lA x) (lA y))) w:=by
 obtain ⟨g1,g2,g3,g4⟩:=h;obtain ⟨l,rfl⟩:∃ l,x=.agg l:=by cases x<;>simp only [gJ] at h1;exact ⟨_,rfl⟩
 obtain ⟨l',rfl⟩:∃ l,y=.agg l:=by cases y<;>simp only [gJ] at h2;exact ⟨_,rfl⟩
 simp only [gJ] at h1 h2;simp only [R] at hx hy;obtain ⟨cs,rfl,hx,_⟩:=hx;obtain ⟨cs',rfl,hy,_⟩:=hy;have he:(Op.equalIn 10000 t (.agg cs.toArray) (.agg cs'.toArray)).run P w=.ok (Hv l l') w:=by
  rw [run_equalIn_struct w 9999 t _ _ g1 g2];have:=Oq (P:=P) (pre:=[]) (pre':=[]) g4 h1 h2 hx hy rfl rfl 9998 w;simpa using this
 constructor
 ·unfold Wc;rw [Sem.run_bind,run_eqGuard_agg w _ t ox oy _ _ g3,Result.andThen_ok,run_eql_struct,he];rfl
 ·unfold Wc;rw [Sem.run_bind,run_eqGuard_agg w _ t ox oy _ _ g3,Result.andThen_ok,run_neq_struct,he];rfl
theorem kQ {t e:Nat} {x:D} {v:Value} (h:P.underlying t=some (.slice e)) (hx:Zz6 x) (hr:R F x v) (ox oy:Operand) :
  (Wc .eql t ox oy v (.slice none 0 0)).run P w=.ok (.bool false) w∧(Wc .neq t ox oy v (.slice none 0 0)).run P w=.ok (.bool true) w:=by
 obtain ⟨s,l,rfl⟩:∃ s l,x=.list s l:=by cases x<;>simp only [Zz6] at hx;exact ⟨_,_,rfl⟩
 simp only [Zz6] at hx;simp only [R] at hr;obtain ⟨A,c,rfl,_,_,hA⟩:=hr;obtain ⟨b,off,vs,rfl,_,_⟩:=hA hx;have he:∀ d:Nat,(Op.equalIn (d+1) t (.slice (some ⟨b,off,none⟩) l.length c) (.slice none 0 0)).run P w=.ok false w:=fun d=>by simp [Op.equalIn,run_underlying h]
 constructor
 ·unfold Wc;simp only [binOp];simp [eqGuard,Op.equal,Op.maxDepth,he 9999]
 ·unfold Wc;simp only [binOp];simp [eqGuard,Op.equal,Op.maxDepth,he 9999]
theorem Zdz (T:Xy P C.τ) {op:BinOp} {t:Nat} {x y:AV} {ox oy:Operand} {vx vy:Value} {c:Prop} {z:D} (h:bL C op t x y=some (c,z)) (hc:c) (hx:RA F G L x vx) (hy:RA F G L y vy) :
  ∃ v,(Wc op t ox oy vx vy).run P w=.ok v w∧R F z v:=by
 cases x with
 | d x =>
  cases y with
  | d y =>
   simp only [RA] at hx hy;cases hk:(C.τ t).kind with
   | int k =>
    cases op<;>simp only [bL,hk,Zc,Zf,reduceCtorEq] at h
    case shr =>
     cases y with
     | int yk n =>
      simp only [Zc,Zf] at h;obtain ⟨rfl,rfl⟩:=h;obtain ⟨h1,h2,h3⟩:=hc;have e1:=hx.of_int h1;simp only [R] at hy;subst e1;subst hy;refine ⟨_,?_,R.int⟩;have hm:min n.toNat k.bits=n.toNat:=by omega
      have hn:¬ n<0:=by omega
      simp [Wc,eqGuard,binOp,Op.shift,hn,hm]
     | _=>simp at h
    case add =>
     cases hw:C.wr with
     | false =>
      rw [hw] at h;simp only [Zc,Zf] at h;obtain ⟨rfl,rfl⟩:=h;obtain ⟨h1,h2,h3⟩:=hc;rw [hx.of_int h1,hy.of_int h2];exact ⟨_,Km (by simp [binOp,Op.intArith,Ew h3]),R.int⟩
     | true =>
      rw [hw] at h;simp only [Zc,Zf] at h;obtain ⟨rfl,rfl⟩:=h;obtain ⟨h1,h2⟩:=hc;rw [hx.of_int h1,hy.of_int h2];exact ⟨_,Km (by simp [binOp,Op.intArith,Qcf]),R.int⟩
    case sub =>
     cases hw:C.wr with
     | false =>
      rw [hw] at h;simp only [Zc,Zf] at h;obtain ⟨rfl,rfl⟩:=h;obtain ⟨h1,h2,h3⟩:=hc;rw [hx.of_int h1,hy.of_int h2];exact ⟨_,Km (by simp [binOp,Op.intArith,Ew h3]),R.int⟩
     | true =>
      rw [hw] at h;simp only [Zc,Zf] at h;obtain ⟨rfl,rfl⟩:=h;obtain ⟨h1,h2⟩:=hc;rw [hx.of_int h1,hy.of_int h2];exact ⟨_,Km (by simp [binOp,Op.intArith,Qcf]),R.int⟩
    all_goals
     obtain ⟨rfl,rfl⟩:=h
    case mul =>
     obtain ⟨h1,h2,h3⟩:=hc;rw [hx.of_int h1,hy.of_int h2];exact ⟨_,Km (by simp [binOp,Op.intArith,Ew h3]),R.int⟩
    case quo =>
     obtain ⟨h1,h2,h3,h4⟩:=hc;rw [hx.of_int h1,hy.of_int h2];exact ⟨_,Km (by simp [binOp,Op.intDiv,h3,Ew h4]),R.int⟩
    case rem =>
     obtain ⟨h1,h2,h3⟩:=hc;rw [hx.of_int h1,hy.of_int h2];exact ⟨_,Km (by simp [binOp,Op.intDiv,h3]),R.int⟩
    all_goals
     obtain ⟨h1,h2⟩:=hc;rw [hx.of_int h1,hy.of_int h2];exact ⟨_,Km (by simp only [binOp,Op.intCmp];simp [Jw,Xn]),R.bool⟩
   | str =>
    cases op<;>simp only [bL,hk,Zc,Zf,reduceCtorEq] at h
    all_goals
     obtain ⟨rfl,rfl⟩:=h
    case add =>
     obtain ⟨h1,h2,h3⟩:=hc;rw [hx.of_str h1,hy.of_str h2];refine ⟨_,jU (r:=.string ⟨(x.s++y.s).toArray⟩) ?_,R.str⟩;have hs:¬ ((((⟨x.s.toArray⟩:ByteArray).size+(⟨y.s.toArray⟩:ByteArray).size:Nat):Int) > IntKind.i64.max):=by
      simp [ByteArray.size,IntKind.max,IntKind.signed,IntKind.bits];omega
     simp only [binOp,Op.stringOp];rw [if_neg hs,qN];rfl
    all_goals
     obtain ⟨h1,h2⟩:=hc;rw [hx.of_str h1,hy.of_str h2];exact ⟨_,jU (by simp only [binOp,Op.stringOp,ByteArray.toList_mk];simp),R.bool⟩
   | bool =>
    obtain ⟨d,hd,X4⟩:=T.kind hk rfl;simp only [TK.is] at X4;subst X4;cases op<;>simp only [bL,hk,Zc,Zf,reduceCtorEq] at h
    all_goals
     obtain ⟨rfl,rfl⟩:=h;obtain ⟨h1,h2⟩:=hc;rw [hx.of_bool h1,hy.of_bool h2]
    ·exact ⟨_,eQ (pZ hd),R.bool⟩
    ·exact ⟨_,eQ (pQ hd),R.bool⟩
   | struct fs =>
    have Hk:=(T t (by rw [hk];rfl)).eqs
    cases op<;>simp only [bL,hk,reduceCtorEq] at h
    all_goals
     split at h
     ·cases h
     ·next hq =>
      simp only [Zc,Zf] at h;obtain ⟨rfl,rfl⟩:=h;obtain ⟨h1,h2⟩:=hc;have hb:=yF (w:=w) (Hk (fun e=>by simp_all)) hx hy h1 h2 ox oy
      first|exact ⟨_,hb.1,R.bool⟩|exact ⟨_,hb.2,R.bool⟩
   | _=>simp [bL,hk] at h
  | nils q =>
   simp only [RA] at hx hy;subst hy;cases hk:(C.τ t).kind with
   | slice e =>
    obtain ⟨d,hd,X4⟩:=T.kind hk rfl;simp only [TK.is] at X4;obtain ⟨rfl,_⟩:=X4;cases op<;>simp only [bL,hk,Zc,Zf,reduceCtorEq] at h
    all_goals
     obtain ⟨rfl,rfl⟩:=h
    ·exact ⟨_,(kQ hd hc hx ox oy).1,R.bool⟩
    ·exact ⟨_,(kQ hd hc hx ox oy).2,R.bool⟩
   | _=>simp [bL,hk] at h
  | _=>simp [bL] at h
 | _=>simp [bL] at h
theorem Zeu {op:UnOp} {t:Nat} {x:AV} {vx:Value} {c:Prop} {z:D} (h:Zyi C op t x=some (c,z)) (hc:c) (hx:RA F G L x vx) :
  ∃ v,(Op.unary op vx).run P w=.ok v w∧R F z v:=by
 cases x with
 | d x =>
  simp only [RA] at hx;cases hk:(C.τ t).kind<;>cases op<;>simp only [Zyi,hk,Zc,Zf,reduceCtorEq] at h
  ·obtain ⟨rfl,rfl⟩:=h;obtain ⟨h1,h2⟩:=hc;rw [hx.of_int h1];have e:=Ew h2;rw [Int.zero_sub] at e;exact ⟨.int ‹IntKind› (-x.i),by simp [Op.unary,Op.intArith,e],by rw [Int.zero_sub];exact R.int⟩
  ·obtain ⟨rfl,rfl⟩:=h;rw [hx.of_bool hc];exact ⟨_,by simp [Op.unary],R.bool⟩
 | _=>simp [Zyi] at h
theorem Zcu {t:Nat} {x y:AV} {vx vy:Value} {c:Prop} {z:D} (h:xF C t x y=some (c,z)) (hc:c) (hx:RA F G L x vx) (hy:RA F G L y vy) (ts:Array TypeId) (ty:TypeId) :
  ∃ v,(Builtin.min_ ts ty #[vx,vy]).run P w=.ok v w∧R F z v:=by
 cases x with
 | d x =>
  cases y with
  | d y =>
   simp only [RA] at hx hy;cases hk:(C.τ t).kind<;>simp only [xF,hk,Zc,Zf,reduceCtorEq] at h;obtain ⟨rfl,rfl⟩:=h;obtain ⟨h1,h2⟩:=hc;rw [hx.of_int h1,hy.of_int h2];exact ⟨_,by simp [Builtin.min_,Builtin.min2,Zz7],R.int⟩
  | _=>simp [xF] at h
 | _=>simp [xF] at h
theorem Zcv {t:Nat} {x y:AV} {vx vy:Value} {c:Prop} {z:D} (h:xG C t x y=some (c,z)) (hc:c) (hx:RA F G L x vx) (hy:RA F G L y vy) (ts:Array TypeId) (ty:TypeId) :
  ∃ v,(Builtin.max_ ts ty #[vx,vy]).run P w=.ok v w∧R F z v:=by
 cases x with
 | d x =>
  cases y with
  | d y =>
   simp only [RA] at hx hy;cases hk:(C.τ t).kind<;>simp only [xG,hk,Zc,Zf,reduceCtorEq] at h;obtain ⟨rfl,rfl⟩:=h;obtain ⟨h1,h2⟩:=hc;rw [hx.of_int h1,hy.of_int h2];exact ⟨_,by simp [Builtin.max_,Builtin.max2,Mt],R.int⟩
  | _=>simp [xG] at h
 | _=>simp [xG] at h
theorem yC (T:Xy P C.τ) {s t:Nat} {x:AV} {vx:Value} {c:Prop} {z:D} (h:Rt C s t x=some (c,z)) (hc:c) (hx:RA F G L x vx) :
  ∃ v,(convert s t vx).run P w=.ok v w∧R F z v:=by
 cases x with
 | d x =>
  simp only [RA] at hx;cases hk:(C.τ s).kind with
  | int k =>
   cases hk':(C.τ t).kind with
   | int k' =>
    simp only [Rt,hk,hk',Zc,Zf] at h;obtain ⟨rfl,rfl⟩:=h;obtain ⟨h1,h2⟩:=hc;obtain ⟨d,hd,X4⟩:=T.kind hk rfl;obtain ⟨d',hd',hkd'⟩:=T.kind hk' rfl;simp only [TK.is] at X4 hkd';subst X4;subst hkd';rw [hx.of_int h1];exact ⟨_,by simp [convert,run_underlying hd,run_underlying hd',Conv.intToInt,Ew h2],R.int⟩
   | _=>simp [Rt,hk,hk'] at h
  | str =>
   cases hk':(C.τ t).kind with
   | str =>
    simp only [Rt,hk,hk',Zc,Zf] at h;obtain ⟨rfl,rfl⟩:=h;obtain ⟨d,hd,X4⟩:=T.kind hk rfl;obtain ⟨d',hd',hkd'⟩:=T.kind hk' rfl;simp only [TK.is] at X4 hkd';subst X4;subst hkd';have e:=hx.of_str hc;rw [e] at hx ⊢;exact ⟨_,by simp [convert,run_underlying hd,run_underlying hd'],hx⟩
   | _=>simp [Rt,hk,hk'] at h
  | _=>simp [Rt,hk] at h
 | _=>simp [Rt] at h
end
theorem Um {w:World} {b:Nat} {cs:Array Value} {t:TypeId} {f:Nat×Nat} (h:w.heap[b]?=some (.cells cs t f)) (j:Nat):w.cell? ⟨b,j,none⟩=cs[j]?:=by
 simp [World.cell?,h]
section
variable {base:Nat} {pass:Nat→Prop} {F0:Anc} {m:Nat→Nat} {G:Gh} {st:AS} {a:Act} {w:World}
theorem Fix.le_bump {b n:Nat} (h:m b≤n):Fix.le ⟨w,m⟩ ⟨w,fun x=>if x=b then n else m x⟩:=by
 refine ⟨fun x=>⟨?_,fun _ _=>rfl⟩,fun _ _ _ _ h=>h⟩;show m x≤if x=b then n else m x
 split
 ·next e=>subst e;exact h
 ·exact Zl _
theorem SRg.bump (h:SRg base pass F0 m G st a w) {i b n:Nat} {o o':Obj} (hi:lk st.objs i=some o) (ho:o.owns=true) (hb:G.γ i=some b) (hn:m b≤n)
  (hbox:o'.isBox=true→o.isBox=true) (aA:∀ s els' k',o'=.row s els' k'→∃ k,o=.row s els' k)
  (X5:Fix.le ⟨w,m⟩ ⟨w,fun x=>if x=b then n else m x⟩→Yo G (lk st.objs) G (lk (upd st.objs i o'))→Qf ⟨w,fun x=>if x=b then n else m x⟩ G (lk (upd st.objs i o')) i o') (H7:∀ t l,o'≠.brow t l:=by simp) :
  Yo G (lk st.objs) G (lk (upd st.objs i o'))∧SRg base pass F0 (fun x=>if x=b then n else m x) G { st with objs:=upd st.objs i o' } a w:=by
 have hF:=Fix.le_bump (w:=w) hn;have hm:=h.mine i o b hi ho hb;refine h.obj i o' hF (fun _ _=>⟨rfl,rfl⟩) ?_ (X5 hF) ?_ ?_ (Frame.refl _ _ _) ?_ ?_ H7
 ·intro o1 h1;rw [hi] at h1;injection h1 with h1
  subst h1;refine ⟨fun hx=>⟨hbox hx,rfl⟩,fun s els' k' he=>?_⟩;obtain ⟨k,hk⟩:=aA s els' k' he;exact ⟨els',k,hk,Zl _,fun _=>⟨rfl,rfl⟩⟩
 ·intro j oj V8 hj C2 b' hb';refine ⟨rfl,?_⟩;have:b'≠b:=fun e=>V8 (h.apart j i oj o b hj hi C2 ho (e▸hb') hb);simp only [if_neg this]
 ·intro _ b' hb';rw [hb] at hb';injection hb' with hb'
  subst hb';exact ⟨hm.1,hm.2,fun j oj V8 hj C2 e=>V8 (h.apart j i oj o b hj hi C2 ho e hb)⟩
 ·intro b' Qg hp;have:b'≠b:=fun e=>by
   subst e;rcases hm.2 with h1|h1
   ·omega
   ·exact hp h1
  simp only [if_neg this]
 ·intro b' Pj;have:b'≠b:=by have:=hm.1;omega
  simp only [if_neg this];exact h.new b' Pj
theorem Zxf {F:Fix} {xs:List D} {cs:Array Value} (h:Rs F xs cs.toList) (h1:∀ u∈cs.toList,u.oneCell'=true):R F (.agg xs) (.agg cs):=by
 simp only [R];exact ⟨cs.toList,by simp,h,h1⟩
structure PurOk (G:Gh) (o o':Z5) (F F':Fix):Prop where
 le:F.le F'
 goes:Yo G (lk o) G (lk o')
 sub:∀ i oi,lk o' i=some oi→oi.owns=true→∃ oj,lk o i=some oj∧oj.owns=true
 same:∀ b,(∀ i oi,lk o i=some oi→oi.owns=true→G.γ i≠some b)→F'.m b=F.m b
theorem PurOk.refl (G:Gh) (o:Z5) (F:Fix):PurOk G o o F F:=⟨Fix.le_refl _,Yo.refl _ _,fun i oi h ho=>⟨oi,h,ho⟩,fun _ _=>rfl⟩
theorem PurOk.trans {o o1 o2:Z5} {F F1 F2:Fix} (h:PurOk G o o1 F F1) (k:PurOk G o1 o2 F1 F2):PurOk G o o2 F F2:=by
 refine ⟨Fix.le_trans h.le k.le,?_,?_,?_⟩
 ·intro j o hj;obtain ⟨oa,a1,a2,a3⟩:=h.goes j o hj;obtain ⟨ob,b1,b2,b3⟩:=k.goes j oa a1;refine ⟨ob,b1,fun hb=>⟨(a2 (b2 hb).1).1,rfl⟩,fun s' els' k' he=>?_,fun t l' he=>?_⟩
  ·obtain ⟨els1,kk1,e1,e2,_⟩:=b3.1 s' els' k' he;obtain ⟨els2,kk2,f1,f2,_⟩:=a3.1 s' els1 kk1 e1;exact ⟨els2,kk2,f1,Nat.le_trans f2 e2,fun _=>⟨rfl,rfl⟩⟩
  ·obtain ⟨l1,e1,e2,_⟩:=b3.2 t l' he;obtain ⟨l2,f1,f2,_⟩:=a3.2 t l1 e1;exact ⟨l2,f1,Nat.le_trans f2 e2,fun _=>⟨rfl,rfl⟩⟩
 ·intro i oi hi ho;obtain ⟨oj,hj,C2⟩:=k.sub i oi hi ho;exact h.sub i oj hj C2
 ·intro b hb;rw [k.same b (fun i oi hi ho=>by
   obtain ⟨oj,hj,C2⟩:=h.sub i oi hi ho;exact hb i oj hj C2),h.same b hb]
theorem fK {o:Z5} {i:Nat} {oi o':Obj} (hi:lk o i=some oi) (ho:oi.owns=true):∀ j oj,lk (upd o i o') j=some oj→oj.owns=true→∃ ok,lk o j=some ok∧ok.owns=true:=by
 intro j oj hj C2;rw [J2] at hj;by_cases V8:j=i
 ·subst V8;exact ⟨oi,hi,ho⟩
 ·rw [if_neg V8] at hj;exact ⟨oj,hj,C2⟩
theorem aR {o:Z5} {i b n:Nat} {oi:Obj} (hi:lk o i=some oi) (ho:oi.owns=true) (hb:G.γ i=some b):∀ b',(∀ i oi,lk o i=some oi→oi.owns=true→G.γ i≠some b') →
  (fun x=>if x=b then n else m x) b'=m b':=by
 intro b' h;have:b'≠b:=fun e=>h i oi hi ho (e▸hb);simp [this]
theorem dO {F:Fix} {L:Nat→Option Obj} {x:AV} {d:D} {v:Value} (h:jK x=some d) (hr:RA F G L x v):R F d v:=by
 cases x with
 | d x =>
  simp only [jK,Zc] at h;subst h;simpa only [RA] using hr
 | nils s =>
  simp only [jK,Zc] at h;subst h;simp only [RA] at hr;simp only [R];exact ⟨none,0,by simpa using hr,by simp,by simp [maxLen],by simp⟩
 | _=>simp [jK] at h
theorem Og {F:Fix} {L:Nat→Option Obj}:∀ {l:List AV} {ds:List D} {vs:List Value},Ed l=some ds→RAs F G L l vs→Rs F ds vs
 | [],ds,vs,h,hr=>by
  simp only [Ed,Zc] at h;subst h;simpa only [Rs,RAs] using hr
 | x::l,ds,vs,h,hr=>by
  simp only [Ed] at h;split at h
  ·next y hy =>
   split at h
   ·next ys C1 =>
    simp only [Zc] at h;subst h;simp only [RAs] at hr;obtain ⟨v,r,rfl,g2,g3⟩:=hr;simp only [Rs];exact ⟨v,r,rfl,dO hy g2,Og C1 g3⟩
   ·cases h
  ·cases h
theorem sZ {i k:Nat} {c:Prop} {y:D} {os:Z5} {st:AS} {m:Nat→Nat} {v:Value} (h:SRg base pass F0 m G st a w) (hp:Cw (.sl i k) st.objs=some (c,y,os)) (hc:c) (hr:RA ⟨w,m⟩ G (lk st.objs) (.sl i k) v) :
  ∃ m',SRg base pass F0 m' G ⟨st.tmps,os⟩ a w∧PurOk G st.objs os ⟨w,m⟩ ⟨w,m'⟩∧R ⟨w,m'⟩ y v:=by
 simp only [Cw] at hp;split at hp
 ·next s els k0 hi =>
  simp only [Zc,Zf] at hp;obtain ⟨rfl,rfl,rfl⟩:=hp;simp only [RA,hi] at hr;have hv:=hr.2.2 hc;subst hv;have X5:=h.objs i _ hi;simp only [Qf] at X5;rcases X5 with ⟨h1,h2,rfl,rfl⟩|⟨b,cap,cs,t,h1,h2,h3,h4,h5,h6,h7,h8,h9⟩
  ·have hu:∀ j,lk (upd st.objs i (.row s [] ([]:List D).length)) j=lk st.objs j:=fun j=>by
    rw [J2];split
    ·next e=>subst e;simp [hi]
    ·rfl
   have hL:lk (upd st.objs i (.row s [] ([]:List D).length))=lk st.objs:=funext hu;refine ⟨m,⟨h.defers,by simp only [hL];exact h.tmps,by simp only [hL];exact h.objs,by simp only [hL];exact h.apart,by simp only [hL];exact h.mine,h.frame,h.old,h.new,h.small,by rw [hL];exact h.lent⟩,⟨Fix.le_refl _,by rw [hL];exact Yo.refl _ _,fun i oi h ho=>⟨oi,by rw [←hL];exact h,ho⟩,fun _ _=>rfl⟩,?_⟩
   simp only [R,h2];exact ⟨none,0,by simp,by simp,by simp [maxLen],by simp⟩
  ·have Z8:=RE.length h7;have Mg:m b≤els.length*s:=by rw [show m b=k0*s from h8];exact Nat.mul_le_mul_right _ h9
   obtain ⟨hg,hs⟩:=h.bump (o':=.row s els els.length) (n:=els.length*s) hi rfl h1 Mg (by simp [Obj.isBox]) (by
    intro s' els' k' he;simp only [Obj.row.injEq] at he;obtain ⟨rfl,rfl,_⟩:=he;exact ⟨k0,rfl⟩) (by
    intro hF _;simp only [Qf];exact .inr ⟨b,cap,cs,t,h1,h2,h3,h4,h5,h6,RE.mono hF h7,by simp,Zl _⟩)
   refine ⟨_,hs,⟨Fix.le_bump Mg,hg,fK hi rfl,aR hi rfl h1⟩,?_⟩;simp only [R,h2];refine ⟨_,cap,rfl,h3,h4,fun _=>⟨b,0,_,rfl,RE.mono (Fix.le_bump Mg) h7,?_⟩⟩;refine ⟨by simp only [if_true];omega,fun j u hu=>?_⟩
   rw [Nat.zero_add,Um h5];rw [List.getElem?_take] at hu;split at hu
   ·simpa using hu
   ·cases hu
 ·cases hp
theorem tV {x:AV} {c:Prop} {y:D} {os:Z5} {st:AS} {m:Nat→Nat} {v:Value} (h:SRg base pass F0 m G st a w) (hp:Cw x st.objs=some (c,y,os)) (hc:c) (hr:RA ⟨w,m⟩ G (lk st.objs) x v) :
  ∃ m',SRg base pass F0 m' G ⟨st.tmps,os⟩ a w∧PurOk G st.objs os ⟨w,m⟩ ⟨w,m'⟩∧R ⟨w,m'⟩ y v:=by
 cases x with
 | sl i k=>exact sZ h hp hc hr
 | d x =>
  simp only [Cw,Zc,Zf] at hp;obtain ⟨rfl,rfl,rfl⟩:=hp;exact ⟨m,h,PurOk.refl _ _ _,by simpa only [RA] using hr⟩
 | nils s =>
  simp only [Cw,Zc,Zf] at hp;obtain ⟨rfl,rfl,rfl⟩:=hp;exact ⟨m,h,PurOk.refl _ _ _,dO (x:=.nils s) rfl hr⟩
 | _=>simp [Cw] at hp
theorem Iu:∀ {l:List AV} {c:Prop} {ys:List D} {os:Z5} {st:AS} {m:Nat→Nat} {vs:List Value},SRg base pass F0 m G st a w→P1 l st.objs=some (c,ys,os)→c→RAs ⟨w,m⟩ G (lk st.objs) l vs →
  ∃ m',SRg base pass F0 m' G ⟨st.tmps,os⟩ a w∧PurOk G st.objs os ⟨w,m⟩ ⟨w,m'⟩∧Rs ⟨w,m'⟩ ys vs
 | [],c,ys,os,st,m,vs,h,hp,hc,hr=>by
  simp only [P1,Zc,Zf] at hp;obtain ⟨rfl,rfl,rfl⟩:=hp;exact ⟨m,h,PurOk.refl _ _ _,by simpa only [Rs,RAs] using hr⟩
 | x::l,c,ys,os,st,m,vs,h,hp,hc,hr=>by
  simp only [P1] at hp;split at hp
  ·next c1 y o1 vO =>
   split at hp
   ·next c2 ys2 o2 vC =>
    simp only [Zc,Zf] at hp;obtain ⟨rfl,rfl,rfl⟩:=hp;simp only [RAs] at hr;obtain ⟨v,r,rfl,g2,g3⟩:=hr;obtain ⟨m1,k1,k2,k4⟩:=tV h vO hc.1 g2;obtain ⟨m2,j1,j2,j4⟩:=Iu (st:=⟨st.tmps,o1⟩) k1 vC hc.2 (RAs.mono k2.le k2.goes g3);refine ⟨m2,j1,k2.trans j2,?_⟩;simp only [Rs];exact ⟨v,r,rfl,k4.mono j2.le,j4⟩
   ·cases hp
  ·cases hp
mutual
theorem pur_sound':∀ {n:Nat} {x:AV} {c:Prop} {y:D} {os:Z5} {st:AS} {m:Nat→Nat} {v:Value},SRg base pass F0 m G st a w→pur n x st.objs=some (c,y,os)→c→RA ⟨w,m⟩ G (lk st.objs) x v →
  ∃ m',SRg base pass F0 m' G ⟨st.tmps,os⟩ a w∧PurOk G st.objs os ⟨w,m⟩ ⟨w,m'⟩∧R ⟨w,m'⟩ y v
 | 0,x,c,y,os,st,m,v,_,hp,_,_=>by simp [pur] at hp
 | n+1,.d x,c,y,os,st,m,v,h,hp,hc,hr=>by
  simp only [pur,Zc,Zf] at hp;obtain ⟨rfl,rfl,rfl⟩:=hp;exact ⟨m,h,PurOk.refl _ _ _,by simpa only [RA] using hr⟩
 | n+1,.nils s,c,y,os,st,m,v,h,hp,hc,hr=>by
  simp only [pur,Zc,Zf] at hp;obtain ⟨rfl,rfl,rfl⟩:=hp;simp only [RA] at hr;refine ⟨m,h,PurOk.refl _ _ _,?_⟩;simp only [R];exact ⟨none,0,by simpa using hr,by simp,by simp [maxLen],by simp⟩
 | n+1,.sl i k,c,y,os,st,m,v,h,hp,hc,hr=>by
  simp only [pur] at hp;exact sZ h (by simpa only [Cw] using hp) hc hr
 | n+1,.ref i (k+1),c,y,os,st,m,v,_,hp,_,_=>by simp [pur] at hp
 | n+1,.rref i k e f,c,y,os,st,m,v,_,hp,_,_=>by simp [pur] at hp
 | n+1,.sb i k f,c,y,os,st,m,v,_,hp,_,_=>by simp [pur] at hp
 | n+1,.mpr i,c,y,os,st,m,v,h,hp,hc,hr=>by
  simp only [pur] at hp;split at hp
  ·next ks vs fr hi =>
   simp only [Zc,Zf] at hp;obtain ⟨rfl,rfl,rfl⟩:=hp;simp only [RA,hi] at hr;obtain ⟨b0,g1,rfl⟩:=hr.2 rfl;have X5:=h.objs i _ hi;simp only [Qf] at X5;obtain ⟨b,es,cl,h1,h2,h3,h4,h5,h6⟩:=X5;rw [g1] at h1;injection h1 with h1
   subst h1;have Mg:m b0≤1:=by rw [show m b0=cond fr 1 0 from h5];cases fr<;>simp
   obtain ⟨hg,hs⟩:=h.bump (o':=.mp ks vs true) (n:=1) hi rfl g1 Mg (fun _=>rfl) (by
    intro s' els' k' he;cases he) (by
    intro hF _;simp only [Qf];exact ⟨b0,es,cl,g1,h2,Rs.mono hF h3,Rs.mono hF h4,by simp,h6⟩)
   refine ⟨_,hs,⟨Fix.le_bump Mg,hg,fK hi rfl,aR hi rfl g1⟩,?_⟩;simp only [R];exact ⟨b0,es,cl,rfl,h2,by simp,Rs.mono (Fix.le_bump Mg) h3,Rs.mono (Fix.le_bump Mg) h4,h6⟩
  ·cases hp
 | n+1,.dead,c,y,os,st,m,v,_,hp,_,_=>by simp [pur] at hp
 | n+1,.ref i 0,c,y,os,st,m,v,h,hp,hc,hr=>by
  simp only [pur] at hp;split at hp
  ·next s x hi =>
   simp only [Zc,Zf] at hp;obtain ⟨rfl,rfl,rfl⟩:=hp;simp only [RA,hi] at hr;obtain ⟨b,g1,rfl⟩:=hr.2 rfl;have X5:=h.objs i _ hi;simp only [Qf] at X5;obtain ⟨b',u,q1,q2,q3,q4,q5⟩:=X5;rw [g1] at q1;injection q1 with q1
   subst q1;refine ⟨m,h,PurOk.refl _ _ _,?_⟩;simp only [R];exact ⟨b,0,u,rfl,q2,q3,q4,q5⟩
  ·next ag cells hi =>
   split at hp
   ·next c1 xs o1 vO =>
    simp only [RA,hi] at hr;obtain ⟨b,g1,rfl⟩:=hr.2 rfl;have X5:=h.objs i _ hi;simp only [Qf] at X5;obtain ⟨b',cs,t,q1,q2,q3,q4,q5⟩:=X5;rw [g1] at q1;injection q1 with q1
    subst q1;split at hp
    ·next ag1 cells1 Zbt =>
     have main:c1→∃ m1,SRg base pass F0 m1 G ⟨st.tmps,o1⟩ a w∧PurOk G st.objs o1 ⟨w,m⟩ ⟨w,m1⟩∧Rs ⟨w,m1⟩ xs cs.toList:=fun Eu=>purs_sound' h vO Eu q3;have fin:c1→∀ (s:Nat) (x:D) (u:Value),(∀ F,Rs F xs cs.toList→R F x u)→u.cells=cs→s=cs.size →
       ∃ m',SRg base pass F0 m' G ⟨st.tmps,upd o1 i (.fbox s x)⟩ a w∧PurOk G st.objs (upd o1 i (.fbox s x)) ⟨w,m⟩ ⟨w,m'⟩∧R ⟨w,m'⟩ (.ptr s x) (.pointer (some ⟨b,0,none⟩)):=by
      intro Eu s x u hu A3 hs;obtain ⟨m1,k1,k2,k4⟩:=main Eu;have lG:=k1.objs i _ Zbt;simp only [Qf] at lG;obtain ⟨b1,cs1,t1,w1,w2,w3,w4,w5⟩:=lG;rw [g1] at w1;injection w1 with w1
      subst w1;have hz:m1 b≤cs.size:=by rw [show m1 b=0 from w5.1];exact Nat.zero_le _
      have C4:∀ (j:Nat) (y:Value),cs.toList[j]?=some y→w.cell? ⟨b,0+j,none⟩=some y:=fun j y hy=>by
       rw [Nat.zero_add,Um q2];simpa using hy
      have Cn:Zef ⟨w,fun z=>if z=b then cs.size else m1 z⟩ b 0 u.cells.toList:=⟨by simp [A3],by rw [A3];exact C4⟩
      obtain ⟨hg,rB⟩:=k1.bump (o':=.fbox s x) (n:=cs.size) Zbt rfl g1 hz (fun _=>rfl) (by simp) (by
       intro hF _;simp only [Qf];exact ⟨b,u,g1,(hu _ k4).mono hF,by rw [A3];exact hs.symm,by rw [A3];exact q4,Cn⟩)
      refine ⟨_,rB,k2.trans ⟨Fix.le_bump hz,hg,fK Zbt rfl,aR Zbt rfl g1⟩,?_⟩;simp only [R];exact ⟨b,0,u,rfl,(hu _ k4).mono (Fix.le_bump hz),by rw [A3];exact hs.symm,by rw [A3];exact q4,Cn⟩
     split at hp
     ·simp only [Zc,Zf] at hp;obtain ⟨rfl,rfl,rfl⟩:=hp;obtain ⟨m1,_,_,k4⟩:=main hc;exact fin hc _ _ (.agg cs) (fun F hF=>Zxf hF q4) rfl (by have:=Rs.length k4;simp at this;exact this.symm)
     ·next x0 _ =>
      simp only [Zc,Zf] at hp;obtain ⟨rfl,rfl,rfl⟩:=hp;obtain ⟨m1,_,_,k4⟩:=main hc;have hl:=Rs.length k4;obtain ⟨l⟩:=cs
      match l,hl with
      | [v0],_ =>
       have h1:v0.oneCell'=true:=q4 v0 (by simp)
       refine fin hc _ _ v0 (fun F hF=>?_) ?_ rfl
       ·simp only [Rs] at hF;obtain ⟨v1,r,e1,e2,_⟩:=hF;simp only [List.cons.injEq] at e1;rw [e1.1];exact e2
       ·cases v0<;>simp_all [Value.oneCell',Value.cells]
     ·cases hp
    ·cases hp
   ·cases hp
  ·cases hp
 | n+1,.agg l,c,y,os,st,m,v,h,hp,hc,hr=>by
  simp only [pur] at hp;split at hp
  ·next xs hx =>
   simp only [Zc,Zf] at hp;obtain ⟨rfl,rfl,rfl⟩:=hp;simp only [RA] at hr;obtain ⟨cs,rfl,g2,g3⟩:=hr;exact ⟨m,h,PurOk.refl _ _ _,by simp only [R];exact ⟨cs,rfl,Og hx g2,g3⟩⟩
  split at hp
  ·next c1 xs o1 vO =>
   simp only [Zc,Zf] at hp;obtain ⟨rfl,rfl,rfl⟩:=hp;simp only [RA] at hr;obtain ⟨cs,rfl,g2,g3⟩:=hr;obtain ⟨m',k1,k2,k4⟩:=Iu h vO hc g2;exact ⟨m',k1,k2,by simp only [R];exact ⟨cs,rfl,k4,g3⟩⟩
  split at hp
  ·next c1 xs o1 vO =>
   simp only [Zc,Zf] at hp;obtain ⟨rfl,rfl,rfl⟩:=hp;simp only [RA] at hr;obtain ⟨cs,rfl,g2,g3⟩:=hr;obtain ⟨m',k1,k2,k4⟩:=purs_sound' h vO hc g2;exact ⟨m',k1,k2,by simp only [R];exact ⟨cs,rfl,k4,g3⟩⟩
  ·cases hp
 | n+1,.tup l,c,y,os,st,m,v,h,hp,hc,hr=>by
  simp only [pur] at hp;split at hp
  ·next c1 xs o1 vO =>
   simp only [Zc,Zf] at hp;obtain ⟨rfl,rfl,rfl⟩:=hp;simp only [RA] at hr;obtain ⟨cs,rfl,g2⟩:=hr;obtain ⟨m',k1,k2,k4⟩:=purs_sound' h vO hc g2;exact ⟨m',k1,k2,by simp only [R];exact ⟨cs,rfl,k4⟩⟩
  ·cases hp
 | n+1,.clo f l,c,y,os,st,m,v,h,hp,hc,hr=>by
  simp only [pur] at hp;split at hp
  ·next c1 xs o1 vO =>
   simp only [Zc,Zf] at hp;obtain ⟨rfl,rfl,rfl⟩:=hp;simp only [RA] at hr;obtain ⟨cs,rfl,g2⟩:=hr;obtain ⟨m',k1,k2,k4⟩:=purs_sound' h vO hc g2;exact ⟨m',k1,k2,by simp only [R];exact ⟨cs,rfl,k4⟩⟩
  ·cases hp
theorem purs_sound':∀ {n:Nat} {l:List AV} {c:Prop} {ys:List D} {os:Z5} {st:AS} {m:Nat→Nat} {vs:List Value},SRg base pass F0 m G st a w→purs n l st.objs=some (c,ys,os)→c→RAs ⟨w,m⟩ G (lk st.objs) l vs →
  ∃ m',SRg base pass F0 m' G ⟨st.tmps,os⟩ a w∧PurOk G st.objs os ⟨w,m⟩ ⟨w,m'⟩∧Rs ⟨w,m'⟩ ys vs
 | 0,l,c,ys,os,st,m,vs,_,hp,_,_=>by simp [purs] at hp
 | n+1,[],c,ys,os,st,m,vs,h,hp,hc,hr=>by
  simp only [purs,Zc,Zf] at hp;obtain ⟨rfl,rfl,rfl⟩:=hp;exact ⟨m,h,PurOk.refl _ _ _,by simpa only [Rs,RAs] using hr⟩
 | n+1,x::l,c,ys,os,st,m,vs,h,hp,hc,hr=>by
  simp only [purs] at hp;split at hp
  ·next c1 y o1 vO =>
   split at hp
   ·next c2 ys2 o2 vC =>
    simp only [Zc,Zf] at hp;obtain ⟨rfl,rfl,rfl⟩:=hp;simp only [RAs] at hr;obtain ⟨v,r,rfl,g2,g3⟩:=hr;obtain ⟨m1,k1,k2,k4⟩:=pur_sound' h vO hc.1 g2;obtain ⟨m2,j1,j2,j4⟩:=purs_sound' (st:=⟨st.tmps,o1⟩) k1 vC hc.2 (RAs.mono k2.le k2.goes g3);refine ⟨m2,j1,k2.trans j2,?_⟩;simp only [Rs];exact ⟨v,r,rfl,k4.mono j2.le,j4⟩
   ·cases hp
  ·cases hp
end
theorem Np {n:Nat} {x:AV} {c:Prop} {y:D} {os:Z5} {st:AS} {m:Nat→Nat} {v:Value} (h:SRg base pass F0 m G st a w) (hp:pur n x st.objs=some (c,y,os)) (hc:c) (hr:RA ⟨w,m⟩ G (lk st.objs) x v) :
  ∃ m',SRg base pass F0 m' G ⟨st.tmps,os⟩ a w∧Fix.le ⟨w,m⟩ ⟨w,m'⟩∧Yo G (lk st.objs) G (lk os)∧R ⟨w,m'⟩ y v:=by
 obtain ⟨m',k1,k2,k3⟩:=pur_sound' h hp hc hr;exact ⟨m',k1,k2.le,k2.goes,k3⟩
end
end Go.Am
