/- Contracts of functions that the law reaches, and plain laws. Conditions: those that each contract states. -/
import Derived.Test.YtpgfllgpliffaaaGreatDoorC6
import Derived.Shelf.Strings.BuilderRune
import Derived.Shelf.Strings.BuilderK
import Derived.Shelf.Unicode.DecodeAny
import Derived.Shelf.Strconv.Itoa4
import Derived.Lib.MapLaws
import Derived.Shelf.Strings.MapGrows
set_option maxHeartbeats 4000000
set_option linter.unusedVariables false
set_option linter.unusedSimpArgs false
variable {p:Prop}
set_option maxRecDepth 100000
namespace Go.Am.Ty
open Go.Proofs Go.RowKit
open Enc (enc dec)
def Zg5 (T n:Nat):Prop:=(T=56∧n=0)∨(T=96∧n=0)∨(T=58∧n=2)
def Xo (T:Nat) (l:List UInt8) (rest:List D):List Obj:=[.box true (.bad T::.sl 90001 l.length::rest.map .d),.brow 5 l]
structure BX where
 T:Nat
 l:List UInt8
 rest:List D
def Qc8 (b:BX):Prop:=Zg5 b.T b.rest.length
theorem iN {o:Z5}:∀ {l:List D},keptAll o (l.map .d)
 | []=>trivial
 | x::l=>⟨trivial,iN⟩
theorem Dd {T:Nat} {l:List UInt8} {rest:List D} {args:List AV} (h:keptAll (Zq (Xo T l rest)) args):Xg args (Xo T l rest):=by
 refine ⟨h,?_⟩;simp only [Xo,Jp,Obj.tied,keptAll,AV.kept,and_true,true_and];exact ⟨by simp [Zq,Jv,lk],iN⟩
theorem Zgd {T n:Nat} (h:Zg5 T n):liesAt Tryz.prog Tryz.prog.depth T ((n+2) / Tryz.prog.cellsOf T) 0 56 1=true:=by
 rcases h with ⟨rfl,rfl⟩|⟨rfl,rfl⟩|⟨rfl,rfl⟩<;>kernel_rfl
theorem F3 {T:Nat} {l:List UInt8} {rest:List D} {base:Nat} {pass:Nat→Prop} {F0:Anc} {m:Nat→Nat} {G:Gh} {tm:List AV} {a:Act} {w:World} (h:SRg base pass F0 m G ⟨tm,Zq (Xo T l rest)⟩ a w) :
  ∃ b p rs,G.γ 90000=some b∧w.heap[b]?=some (.cells (p::G.hd 90001::rs).toArray T (0,0))∧(p=.pointer none∨p=.pointer (some ⟨b,0,none⟩))∧RAs ⟨w,m⟩ G (lk (Zq (Xo T l rest))) (rest.map .d) rs ∧
   (∀ u∈p::G.hd 90001::rs,u.oneCell'=true)∧m b=0∧rs.length=rest.length:=by
 have hk:lk (Zq (Xo T l rest)) 90000=some (.box true (.bad T::.sl 90001 l.length::rest.map .d)):=rfl;have aI:lk (Zq (Xo T l rest)) 90001=some (.brow 5 l):=rfl;have Yd:=h.objs 90000 _ hk;simp only [Qf] at Yd;obtain ⟨b,cs,t,h1,h2,h3,h4,h5,h6⟩:=Yd;obtain ⟨rfl,h7⟩:=h6 T rfl;obtain ⟨cs⟩:=cs;simp only [RAs] at h3;obtain ⟨p,r,rfl,-,v,rs,rfl,hv,h3⟩:=h3;simp only [RA,aI] at hv;have hv:=hv.2.2 trivial;subst hv;have hl:=RAs.length h3;exact ⟨b,p,rs,h1,h2,by simpa using h7,h3,h4,h5,by simpa using hl⟩
def Ks:BCon where
 X:=BX
 ok x:=Qc8 x
 args x:=[.ref 90000 0]
 objs x:=Xo x.T x.l x.rest
 res x:=.tup []
 post x:=Xo x.T x.l x.rest
theorem Zdy {T:Nat} {l:List UInt8} {rest:List D} {base:Nat} {pass:Nat→Prop} {F0:Anc} {m:Nat→Nat} {G:Gh} {tm:List AV} {a:Act} {w:World} (h:SRg base pass F0 m G ⟨tm,Zq (Xo T l rest)⟩ a w) {b:Nat} {p:Value} {rs:List Value} (hb:G.γ 90000=some b)
  (hg:w.heap[b]?=some (.cells (p::G.hd 90001::rs).toArray T (0,0))) (hr:RAs ⟨w,m⟩ G (lk (Zq (Xo T l rest))) (rest.map .d) rs) (h1:∀ u∈p::G.hd 90001::rs,u.oneCell'=true) (hm:m b=0) :
  SRg base pass F0 m G ⟨tm,Zq (Xo T l rest)⟩ a (w.setCell ⟨b,0,none⟩ (.pointer (some ⟨b,0,none⟩))):=by
 have hk:lk (Zq (Xo T l rest)) 90000=some (.box true (.bad T::.sl 90001 l.length::rest.map .d)):=rfl;have aI:lk (Zq (Xo T l rest)) 90001=some (.brow 5 l):=rfl;rw [setCell_eq_setRow w b 0 _ T (0,0) _ hg];have he:((p::G.hd 90001::rs).toArray.setIfInBounds 0 (.pointer (some ⟨b,0,none⟩)))=(Value.pointer (some ⟨b,0,none⟩)::G.hd 90001::rs).toArray:=by simp
 rw [he];have hu:upd (Zq (Xo T l rest)) 90000 (.box true (.bad T::.sl 90001 l.length::rest.map .d))=Zq (Xo T l rest):=rfl;have:=(h.write (cs:=(Value.pointer (some ⟨b,0,none⟩)::G.hd 90001::rs).toArray) (o':=.box true (.bad T::.sl 90001 l.length::rest.map .d)) hk rfl hb hg (fun off ho=>by omega) (fun _=>rfl) (by simp) (fun hF Bd=>by
  simp only [Qf];refine ⟨b,_,T,hb,setRow_heap w b _ _ T (0,0) hg,?_,?_,hm,?_⟩
  ·simp only [RAs,RA];refine ⟨_,_,rfl,rfl,_,_,rfl,⟨h1 _ (by simp),?_⟩,RAs.mono hF Bd hr⟩
   rw [J2,if_neg (by omega),aI]
   exact ⟨Zl _,fun _=>rfl⟩
  ·intro u hu;simp only [Z2] at hu;rcases hu with rfl|rfl|hu
   ·rfl
   ·exact h1 _ (by simp)
   ·exact h1 _ (by simp [hu])
  ·intro T' hT;simp only [List.head?_cons,Zc,AV.bad.injEq] at hT;exact ⟨hT,.inr rfl⟩)).2.2
 rw [hu] at this;exact this
theorem hX {base:Nat} {pass:Nat→Prop} {F0:Anc} {m:Nat→Nat} {G:Gh} {tm:List AV} {o:Z5} {vs:Array Value} {w:World} (h:SRg base pass F0 m G ⟨tm,o⟩ ⟨vs,[]⟩ w):SRg base pass F0 m G ⟨[],o⟩ ⟨#[],[]⟩ w :=
 ⟨rfl,by simp [RAs],h.objs,h.apart,h.mine,h.frame,h.old,h.new,h.small,h.lent⟩
set_option maxHeartbeats 4000000 in
theorem qX:X9 Tryz.prog (107,Ks):=by
 refine ⟨J6 Tryz.func107 (by kernel_rfl) rfl,?_⟩
 rintro ⟨T,l,rest⟩ X5;have X5:Zg5 T rest.length:=X5;have Qce:keptAll (Zq (Xo T l rest)) [.ref 90000 0]:=by simp [Xo,keptAll,AV.kept,Zq,Jv,lk]
 refine ⟨Dd Qce,by simp [Ks,Xo,Zr],Dd trivial,by simp [Ks],?_⟩
 intro m w G vs hs
 change SRg w.heap.size (Hq G (Xo T l rest)) ⟨⟨w,m⟩,G,lk (Zq (Xo T l rest))⟩ m G ⟨[.ref 90000 0],Zq (Xo T l rest)⟩ ⟨vs.toArray,[]⟩ w at hs
 obtain ⟨b,p,rs,g1,g2,g3,g4,g5,g6,g7⟩:=F3 hs;have ht:=hs.tmps;have hk:lk (Zq (Xo T l rest)) 90000=some (.box true (.bad T::.sl 90001 l.length::rest.map .d)):=rfl;simp only [RAs,RA,hk] at ht;obtain ⟨v,r,vN,⟨_,hv⟩,rfl⟩:=ht;obtain ⟨b',e1,rfl⟩:=hv rfl;rw [g1] at e1;injection e1 with e1
 subst e1;have vN:vs=[.pointer (some ⟨b,0,none⟩)]:=vN;subst vN;have h0:w.cell? ⟨b,0,none⟩=some p:=by simp [World.cell?,g2]
 have Qcp:w.shape? b=some (T,rest.length+2):=by simp [World.shape?,g2,g7]
 have Qia:w.frozen? ⟨b,0,none⟩=false:=by simp [World.frozen?,g2]
 have oF:=hX hs;obtain ⟨j,hj,Zel⟩:∃ j,Tryz.prog.info? 56=some j∧j.size≠0:=by
  obtain ⟨d,-⟩:=(Qp 56 rfl).und;obtain ⟨j,z,h1,h2,-⟩:=(Qp 56 rfl).info;exact ⟨j,h1,by rw [h2];decide⟩
 show Calls Tryz.prog 107 #[.pointer (some ⟨b,0,none⟩)] w _;rcases g3 with rfl|rfl
 ·have key:Calls Tryz.prog 107 #[.pointer (some ⟨b,0,none⟩)] w fun e w'=>e=.returned (.tuple #[])∧w'=w.setCell ⟨b,0,none⟩ (.pointer (some ⟨b,0,none⟩)):=by
   go_enter Tryz.func107,Tryz.ntmps107
   go_wp2
   rw [Lib.run_to_unsafe w ⟨b,0,none⟩ Tryz.underlying53 Tryz.underlying138 hj Zel Qcp (Nat.succ_pos _)];simp only [Result.andThen];rw [Oper.upon_value]
   go_wp2
   rw [run_callFunc_extern Tryz.func141 (by kernel_rfl) (by kernel_rfl) (by kernel_rfl) (e:=Extern.AbiNoEscape.same) (by kernel_rfl)]
   rw [Lib.run_noEscape];simp only [Result.andThen];rw [Oper.upon_value]
   go_wp2
   rw [Lib.run_from_unsafe w ⟨b,0,none⟩ Tryz.underlying138 Tryz.underlying53 hj Qcp (Zgd X5)];simp only [Result.andThen];rw [Oper.upon_value]
   go_wp2
   go_end0
   exact ⟨rfl,rfl⟩
  refine key.mono ?_;rintro e w' ⟨rfl,rfl⟩;exact ⟨_,m,G,rfl,by simp only [BCon.rv,Ks,RA,R,Rs];exact ⟨[],rfl,rfl⟩,Zdy oF g1 g2 g4 g5 g6⟩
 ·have key:Calls Tryz.prog 107 #[.pointer (some ⟨b,0,none⟩)] w fun e w'=>e=.returned (.tuple #[])∧w'=w:=by
   go_enter Tryz.func107,Tryz.ntmps107
   go_wp2
   rw [Lib.run_neq_ptr_same w _ Tryz.underlying53 hj]
   go_wp2
   go_end0
   exact ⟨rfl,rfl⟩
  refine key.mono ?_;rintro e w' ⟨rfl,rfl⟩;exact ⟨_,m,G,rfl,by simp only [BCon.rv,Ks,RA,R,Rs];exact ⟨[],rfl,rfl⟩,oF⟩
theorem A8 {P:Program} {w:World} {ops:Array Oper} {rest:List Oper} {o:Oper} {a:Act} {Q:Exit→Act→World→Prop} (Bl:o.guard=none) (sl x:Operand) (t u:TypeId)
  (ho:o.op=.call { callee:=.builtin .append,args:=#[sl,x],argTypes:=#[t,u] }) {v v' vx:Value} {w':World} (hs:a.eval sl=v) (hx:a.eval x=vx) (hr:(Builtin.append_ #[t,u] o.type #[v,vx]).run P w=.ok v' w')
  (h:wpList P ops Q rest (a.put o.dst v') w'):wpList P ops Q (o::rest) a w:=by
 refine wpList_plain Bl fun K hK=>?_;unfold Oper.wp execOp;simp only [ho,resolve,invoke,builtin,Sem.run_bind,Sem.run_pure,Result.andThen_ok,List.map_toArray,List.map_cons,List.map_nil,hs,hx,hr];exact hK _ _ h
def Z7:BCon where
 X:=BX×List UInt8
 ok x:=Qc8 x.1∧x.1.l.length+x.2.length≤100000000000
 args x:=[.ref 90000 0,.d (.str x.2)]
 objs x:=Xo x.1.T x.1.l x.1.rest
 res x:=.tup [.int .i64 x.2.length,.any]
 post x:=Xo x.1.T (x.1.l++x.2) x.1.rest
theorem lP:type_of% @Z7.eq_def:=@Z7.eq_def
theorem Zdx:∃ ii,Tryz.prog.info? 5=some ii∧ii.size=1∧ii.bytes=1∧ii.zero=some (.int .u8 0):=by
 obtain ⟨j,z,h1,h2,h3,h4,-,h6,-⟩:=(Qp 5 rfl).info;have hz:=h6 ⟨default,fun _=>0⟩;rw [oR] at h2 h3 hz;simp only [R] at hz;subst hz;exact ⟨j,h1,h2,h3,h4⟩
theorem yE {T:Nat} {l l':List UInt8} {rest:List D} {base:Nat} {pass:Nat→Prop} {F0:Anc} {m:Nat→Nat} {G G':Gh} {a:Act} {w w':World} (h:SRg base pass F0 m G ⟨[],Zq (Xo T l rest)⟩ a w) {b:Nat} {p:Value} {rs:List Value} (hb:G.γ 90000=some b)
  (hg:w.heap[b]?=some (.cells (p::G.hd 90001::rs).toArray T (0,0))) (hp:p=.pointer none∨p=.pointer (some ⟨b,0,none⟩)) (hr:RAs ⟨w,m⟩ G (lk (Zq (Xo T l rest))) (rest.map .d) rs) (h1:∀ u∈p::G.hd 90001::rs,u.oneCell'=true) (hm:m b=0)
  (hF:Fix.le ⟨w,m⟩ ⟨w',m⟩) (hG:∀ j,j≠90001→G'.γ j=G.γ j∧G'.hd j=G.hd j) (h2:SRg base pass F0 m G' ⟨[],upd (Zq (Xo T l rest)) 90001 (.brow 5 l')⟩ a w') (Ky:∀ k,k<w.heap.size→G.γ 90001≠some k→w'.heap[k]?=w.heap[k]?) (ho:(G'.hd 90001).oneCell'=true) :
  SRg base pass F0 m G' ⟨[],Zq (Xo T l' rest)⟩ a (w'.setCell ⟨b,1,none⟩ (G'.hd 90001)):=by
 have hk:lk (Zq (Xo T l rest)) 90000=some (.box true (.bad T::.sl 90001 l.length::rest.map .d)):=rfl;have aI:lk (Zq (Xo T l rest)) 90001=some (.brow 5 l):=rfl;have Zif:b<w.heap.size:=(Array.getElem?_eq_some_iff.1 hg).1;have Hk:G.γ 90001≠some b:=fun e=>by
  have:=h.apart 90000 90001 _ _ b hk aI rfl rfl hb e;omega
 have Zko:w'.heap[b]?=some (.cells (p::G.hd 90001::rs).toArray T (0,0)):=(Ky b Zif Hk).trans hg;have Sy:G'.γ 90000=some b:=by rw [(hG 90000 (by omega)).1];exact hb
 rw [setCell_eq_setRow w' b 1 _ T (0,0) _ Zko];have he:((p::G.hd 90001::rs).toArray.setIfInBounds 1 (G'.hd 90001))=(p::G'.hd 90001::rs).toArray:=by simp
 rw [he];have Az:lk (upd (Zq (Xo T l rest)) 90001 (.brow 5 l')) 90000=some (.box true (.bad T::.sl 90001 l.length::rest.map .d)):=rfl;have hu:upd (upd (Zq (Xo T l rest)) 90001 (.brow 5 l')) 90000 (.box true (.bad T::.sl 90001 l'.length::rest.map .d))=Zq (Xo T l' rest):=rfl;have Cl:∀ {F:Fix} {G1:Gh} {L:Nat→Option Obj},Fix.le ⟨w,m⟩ F→RAs F G1 L (rest.map .d) rs:=fun hf=>RAs.of_Rs (Rs.mono hf (Rs.of_RAs hr));have:=(h2.write (cs:=(p::G'.hd 90001::rs).toArray) (o':=.box true (.bad T::.sl 90001 l'.length::rest.map .d)) Az rfl Sy Zko (fun off ho=>by omega) (fun _=>rfl) (by simp) (fun Zys Bd=>by
  simp only [Qf];refine ⟨b,_,T,Sy,setRow_heap w' b _ _ T (0,0) Zko,?_,?_,hm,?_⟩
  ·simp only [RAs,RA];refine ⟨_,_,rfl,h1 _ (by simp),_,_,rfl,⟨ho,?_⟩,Cl (Fix.le_trans hF Zys)⟩
   rw [hu,show lk (Zq (Xo T l' rest)) 90001=some (.brow 5 l') from rfl];exact ⟨Zl _,fun _=>rfl⟩
  ·intro u hu;simp only [Z2] at hu;rcases hu with rfl|rfl|hu
   ·exact h1 _ (by simp)
   ·exact ho
   ·exact h1 _ (by simp [hu])
  ·intro T' hT;simp only [List.head?_cons,Zc,AV.bad.injEq] at hT;exact ⟨hT,by simpa using hp⟩)).2.2
 rw [hu] at this;exact this
structure WSt (w:World) (G:Gh) (m:Nat→Nat) (b T:Nat) (l s:List UInt8) (rest:List D) (w1:World):Prop where
 ex:∃ (A:Option Addr) (n cp:Nat) (A':Option Addr) (n' cp':Nat) (m1:Nat→Nat) (G2:Gh) (w2:World),w1.cell? ⟨b,1,none⟩=some (.slice A n cp) ∧
  (Builtin.append_ #[54,9] 54 #[.slice A n cp,.string ⟨s.toArray⟩]).run Tryz.prog w1=.ok (.slice A' n' cp') w2∧w2.cell? ⟨b,1,none⟩=some (.slice A n cp)∧w2.frozen? ⟨b,1,none⟩=false ∧
  SRg w.heap.size (Hq G (Xo T l rest)) ⟨⟨w,m⟩,G,lk (Zq (Xo T l rest))⟩ m1 G2 ⟨[],Zq (Xo T (l++s) rest)⟩ ⟨#[],[]⟩ (w2.setCell ⟨b,1,none⟩ (.slice A' n' cp'))
theorem Zbc {base:Nat} {pass:Nat→Prop} {F0:Anc} {m:Nat→Nat} {G:Gh} {st:AS} {a:Act} {w:World} (h:SRg base pass F0 m G st a w) {i U:Nat} {l:List UInt8} (hi:lk st.objs i=some (.brow U l)):∃ A n cp,G.hd i=.slice A n cp:=by
 have Yd:=h.objs i _ hi;simp only [Qf] at Yd;rcases Yd with ⟨_,h2,_⟩|⟨_,_,_,_,h2,_⟩<;>exact ⟨_,_,_,h2⟩
theorem Zvq {w w1:World} {G G1:Gh} {m m1:Nat→Nat} {b T:Nat} {l s:List UInt8} {rest:List D} (Z8:l.length+s.length≤100000000000)
  (h1:SRg w.heap.size (Hq G (Xo T l rest)) ⟨⟨w,m⟩,G,lk (Zq (Xo T l rest))⟩ m1 G1 ⟨[],Zq (Xo T l rest)⟩ ⟨#[],[]⟩ w1) (g1:G.γ 90000=some b):WSt w G m b T l s rest w1:=by
 have hk:lk (Zq (Xo T l rest)) 90000=some (.box true (.bad T::.sl 90001 l.length::rest.map .d)):=rfl;have aI:lk (Zq (Xo T l rest)) 90001=some (.brow 5 l):=rfl;obtain ⟨b1,p1,rs1,k1,k2,k3,k4,k5,k6,k7⟩:=F3 h1;have Gd:b1=b:=by
  obtain ⟨_,o',q1,q2⟩:=h1.lent 90000 _ hk;rw [hk] at q1;injection q1 with q1
  subst q1;have:=(q2.1 rfl).2;have g1':(⟨⟨w,m⟩,G,lk (Zq (Xo T l rest))⟩:Anc).G0.γ 90000=some b:=g1;rw [g1',k1] at this;injection this
 subst Gd;obtain ⟨ii,i1,i2,i3,i4⟩:=Zdx;obtain ⟨v',w2,G2,r1,r2,r3,r4,r5,r6⟩:=Zj3 (P:=Tryz.prog) (s:=s) h1 aI Tryz.underlying54 Tryz.underlying9 i1 i2 i3 i4 (by omega) 54
 subst r2;have c1:w1.cell? ⟨b1,1,none⟩=some (G1.hd 90001):=by simp [World.cell?,k2]
 obtain ⟨A',n',cp',hA'⟩:=Zbc r4 (i:=90001) (U:=5) (l:=l++s) (by rw [J2,if_pos rfl])
 obtain ⟨A,n,cp,hA⟩:=Zbc h1 aI;have lI:=yE h1 k1 k2 k3 k4 k5 k6 r6 r3 r4 r5 (by rw [hA'];rfl)
 have Zif:b1<w1.heap.size:=(Array.getElem?_eq_some_iff.1 k2).1;have Hk:G1.γ 90001≠some b1:=fun e=>by
  have:=h1.apart 90000 90001 _ _ b1 hk aI rfl rfl k1 e;omega
 have Zko:w2.heap[b1]?=some (.cells (p1::G1.hd 90001::rs1).toArray T (0,0)):=(r5 b1 Zif Hk).trans k2;have d1:w2.cell? ⟨b1,1,none⟩=some (G1.hd 90001):=by simp [World.cell?,Zko]
 have f1:w2.frozen? ⟨b1,1,none⟩=false:=by simp [World.frozen?,Zko]
 rw [hA',hA] at r1;rw [hA'] at lI;rw [hA] at c1 d1;exact ⟨A,n,cp,A',n',cp',m1,G2,w2,c1,r1,d1,f1,lI⟩
theorem Vw:X9 Tryz.prog (87,Z7):=by
 refine ⟨J6 Tryz.func87 (by kernel_rfl) rfl,?_⟩
 rintro ⟨⟨T,l,rest⟩,s⟩ X5;obtain ⟨hT,Z8⟩:Zg5 T rest.length∧l.length+s.length≤100000000000:=X5;have Qce:keptAll (Zq (Xo T l rest)) [.ref 90000 0,.d (.str s)]:=by simp [Xo,keptAll,AV.kept,Zq,Jv,lk]
 refine ⟨Dd Qce,by simp [Z7,Xo,Zr],Dd trivial,by simp [Z7,Xo],?_⟩
 intro m w G vs hs
 change SRg w.heap.size (Hq G (Xo T l rest)) ⟨⟨w,m⟩,G,lk (Zq (Xo T l rest))⟩ m G ⟨[.ref 90000 0,.d (.str s)],Zq (Xo T l rest)⟩ ⟨vs.toArray,[]⟩ w at hs
 obtain ⟨b,p,rs,g1,g2,g3,g4,g5,g6,g7⟩:=F3 hs;have ht:=hs.tmps;have hk:lk (Zq (Xo T l rest)) 90000=some (.box true (.bad T::.sl 90001 l.length::rest.map .d)):=rfl;simp only [RAs,RA,R,hk] at ht;obtain ⟨v,r,vN,⟨_,hv⟩,v2,r2,rfl,rfl,rfl⟩:=ht;obtain ⟨b',e1,rfl⟩:=hv rfl;rw [g1] at e1;injection e1 with e1
 subst e1;have vN:vs=[.pointer (some ⟨b,0,none⟩),.string ⟨s.toArray⟩]:=vN;subst vN;have oF:=hX hs;have Qgx:=(qX.2 ⟨T,l,rest⟩ hT).2.2.2.2 m w G [.pointer (some ⟨b,0,none⟩)] ⟨rfl,by
  simp only [Ks,RAs,RA];exact ⟨_,_,rfl,⟨rfl,fun _=>⟨b,g1,rfl⟩⟩,rfl⟩,hs.objs,hs.apart,hs.mine,hs.frame,hs.old,hs.new,hs.small,hs.lent⟩
 change Calls Tryz.prog 107 #[.pointer (some ⟨b,0,none⟩)] w _ at Qgx
 have Qb1:Calls Tryz.prog 107 #[.pointer (some ⟨b,0,none⟩)] w fun e w1=>e=.returned (.tuple #[])∧WSt w G m b T l s rest w1:=by
  refine Qgx.mono ?_;rintro e w1 ⟨v1,m1,G1,rfl,Zxp,h1⟩;simp only [BCon.rv,Ks,RA,R,Rs] at Zxp;obtain ⟨cs0,rfl,rfl⟩:=Zxp;exact ⟨rfl,Zvq Z8 h1 g1⟩
 show Calls Tryz.prog 87 #[.pointer (some ⟨b,0,none⟩),.string ⟨s.toArray⟩] w _;have e240:∀ args w,(callFunc 107 args).run Tryz.prog w=.ok (.enter 107 args) w:=J6 Tryz.func107 (by kernel_rfl) rfl
 go_enter Tryz.func87,Tryz.ntmps87
 go_wp2_with (go_at_call 107;refine Qb1.mono ?_)
 rintro e w1 rfl hW;obtain ⟨A,n,cp,A',n',cp',m1,G2,w2,c1,r1,d1,f1,lI⟩:=hW
 go_wp2_with (at_builtin;refine A8 rfl _ _ _ _ rfl rfl rfl r1 ?_)
 go_wp2
 go_ret2
 refine ⟨_,m1,G2,rfl,?_,lI⟩;simp only [BCon.rv,Z7,RA,R,Rs];exact ⟨_,rfl,_,_,rfl,rfl,_,_,rfl,rfl,rfl⟩
theorem B0 (w:World) (g n k:Nat) (h:k≠g):(w.freeze ⟨g,0,none⟩ n).heap[k]?=w.heap[k]?:=by
 unfold World.freeze;split
 ·rfl
 ·simp only [Array.getElem?_modify];rw [if_neg (fun e=>h e.symm)]
theorem dY (w:World) (g n:Nat):(w.freeze ⟨g,0,none⟩ n).heap.size=w.heap.size:=by
 unfold World.freeze;split<;>simp
theorem uE (w:World) (g n:Nat) (p:Addr):(w.freeze ⟨g,0,none⟩ n).cell? p=w.cell? p:=by
 by_cases h:p.block=g
 ·unfold World.freeze;split
  ·rfl
  ·unfold World.cell?;simp only [Array.getElem?_modify];rw [if_pos h.symm];cases w.heap[p.block]? with
   | none=>rfl
   | some o=>cases o<;>rfl
 ·exact World.cell?_of_block (B0 w g n p.block h)
def X3:BCon where
 X:=BX
 ok x:=Qc8 x∧x.l≠[]
 args x:=[.ref 90000 0]
 objs x:=Xo x.T x.l x.rest
 res x:=.str x.l
 post x:=[.box true (.bad x.T::.sl 90001 x.l.length::x.rest.map .d),.gone]
theorem Zb2 {T n:Nat} {rest:List D}:Xg [] [.box true (.bad T::.sl 90001 n::rest.map .d),.gone]:=by
 refine ⟨trivial,?_⟩;simp only [Jp,Obj.tied,keptAll,AV.kept,and_true,true_and];exact ⟨by simp [Zq,Jv,lk],iN⟩
theorem Eb:X9 Tryz.prog (41,X3):=by
 refine ⟨J6 Tryz.func41 (by kernel_rfl) rfl,?_⟩
 rintro ⟨T,l,rest⟩ X5;obtain ⟨hT,Ni⟩:Zg5 T rest.length∧l≠[]:=X5;have Qce:keptAll (Zq (Xo T l rest)) [.ref 90000 0]:=by simp [Xo,keptAll,AV.kept,Zq,Jv,lk]
 refine ⟨Dd Qce,by simp [X3,Xo,Zr],Zb2,by simp [X3,Xo],?_⟩
 intro m w G vs hs
 change SRg w.heap.size (Hq G (Xo T l rest)) ⟨⟨w,m⟩,G,lk (Zq (Xo T l rest))⟩ m G ⟨[.ref 90000 0],Zq (Xo T l rest)⟩ ⟨vs.toArray,[]⟩ w at hs
 obtain ⟨b,p,rs,g1,g2,g3,g4,g5,g6,g7⟩:=F3 hs;have ht:=hs.tmps;have hk:lk (Zq (Xo T l rest)) 90000=some (.box true (.bad T::.sl 90001 l.length::rest.map .d)):=rfl;have aI:lk (Zq (Xo T l rest)) 90001=some (.brow 5 l):=rfl;simp only [RAs,RA,hk] at ht;obtain ⟨v,r,vN,⟨_,hv⟩,rfl⟩:=ht;obtain ⟨b',e1,rfl⟩:=hv rfl;rw [g1] at e1;injection e1 with e1
 subst e1;have vN:vs=[.pointer (some ⟨b,0,none⟩)]:=vN;subst vN;have oF:=hX hs;have Yd:=oF.objs 90001 _ aI;simp only [Qf] at Yd;rcases Yd with ⟨_,_,h3⟩|⟨g,cap,cs,h1,h2,h3,h4,h5,h6,h7,h8⟩
 ·exact absurd h3 Ni
 have Rc:0<l.length:=List.length_pos_iff.2 Ni;have hM:cap≤4294967296∨True:=.inr trivial;rw [h2] at g2;have Zif:b<w.heap.size:=(Array.getElem?_eq_some_iff.1 g2).1;have Qje:b≠g:=fun e=>by
  have:=oF.apart 90000 90001 _ _ b hk aI rfl rfl g1 (by rw [e];exact h1)
  omega
 have c1:w.drew.cell? ⟨b,1,none⟩=some (.slice (some ⟨g,0,none⟩) l.length cap):=by
  have:w.drew.heap[b]?=_:=g2;simp [World.cell?,this]
 have Qjh:(Builtin.unsafeSliceData_ #[54] 79 #[.slice (some ⟨g,0,none⟩) l.length cap]).run Tryz.prog w.drew=.ok (.pointer (some ⟨g,0,none⟩)) w.drew :=
  Lib.run_unsafeSliceData_row _ _ _ _ _ _ (by omega)
 have Qjf:(Builtin.unsafeString_ #[79,3] 9 #[.pointer (some ⟨g,0,none⟩),.int .i64 l.length]).run Tryz.prog w.drew=.ok (.string ⟨l.toArray⟩) (w.drew.freeze ⟨g,0,none⟩ l.length):=by
  refine Lib.run_unsafeString_row w.drew 79 3 9 5 Tryz.underlying79 (by kernel_rfl) g cap (by have hg':w.drew.heap[g]?=_:=h5;simp [World.shape?,hg',h6]) l Ni h3 (by unfold maxLen at h4;omega) ?_
  intro j x hx;exact Zg8 h7 (show w.drew.heap[g]?=_ from h5) j (.int .u8 x.toNat) (by simp [aX,hx])
 have Zia:g<w.heap.size:=(Array.getElem?_eq_some_iff.1 h5).1;have U4:=oF.mine 90001 _ g aI rfl h1;have lI:SRg w.heap.size (Hq G (Xo T l rest)) ⟨⟨w,m⟩,G,lk (Zq (Xo T l rest))⟩ m G ⟨[],Zq [.box true (.bad T::.sl 90001 l.length::rest.map .d),.gone]⟩ ⟨#[],[]⟩ (w.drew.freeze ⟨g,0,none⟩ l.length):=by
  have hF:Fix.le ⟨w,m⟩ ⟨w.drew.freeze ⟨g,0,none⟩ l.length,m⟩:=by
   refine ⟨fun k=>⟨Zl _,fun off _=>uE w.drew g l.length ⟨k,off,none⟩⟩,fun k es c Sv Az=>?_⟩;have:k≠g:=fun e=>by
    subst e;simp only at Sv Az;rw [h5] at Az;cases Az
   exact (B0 w.drew g l.length k this).trans Az
  have fin:SRg w.heap.size (Hq G (Xo T l rest)) ⟨⟨w,m⟩,G,lk (Zq (Xo T l rest))⟩ m G ⟨[],upd (Zq (Xo T l rest)) 90001 .gone⟩ ⟨#[],[]⟩ (w.drew.freeze ⟨g,0,none⟩ l.length):=by
   refine (oF.obj 90001 .gone (w':=w.drew.freeze ⟨g,0,none⟩ l.length) (m':=m) (G':=G) hF (fun _ _=>⟨rfl,rfl⟩) ?_ (fun _=>trivial) ?_ ?_ ?_ ?_ ?_).2
   ·intro o ho;exact ⟨fun e=>(by cases e),fun s' els' k' e=>(by cases e)⟩
   ·intro j o hj hl ho b' hb';exact ⟨B0 w.drew g l.length b' (fun e=>hj (oF.apart j 90001 o _ g hl aI ho rfl (e▸hb') h1)),rfl⟩
   ·intro e;cases e
   ·refine ⟨?_,?_,?_,?_,fun b' Qg hp=>B0 w.drew g l.length b' (fun e=>?_)⟩
    ·unfold World.freeze;split<;>rfl
    ·unfold World.freeze;split<;>rfl
    ·unfold World.freeze;split<;>rfl
    ·rw [dY];exact Zl _
    ·subst e;rcases U4.2 with h1|h1
     ·omega
     ·exact hp h1
   ·intro _ _ _;rfl
   ·intro b' Pj;rw [dY] at Pj;exact oF.new b' Pj
  exact fin
 show Calls Tryz.prog 41 #[.pointer (some ⟨b,0,none⟩)] w _;have key:Calls Tryz.prog 41 #[.pointer (some ⟨b,0,none⟩)] w fun e w'=>e=.returned (.string ⟨l.toArray⟩)∧w'=w.drew.freeze ⟨g,0,none⟩ l.length:=by
  go_enter Tryz.func41,Tryz.ntmps41
  go_wp2
  go_region
  all_goals (go_wp2;go_ret;exact ⟨rfl,rfl⟩)
 refine key.mono ?_;rintro e w' ⟨rfl,rfl⟩;refine ⟨_,m,G,rfl,?_,lI⟩;simp only [BCon.rv,X3,RA,R]
open Go.Proofs Go.Shelf Go.RowKit
def J9:Ren:=⟨fun x=>if x=129 then 132 else if x=166 then 87 else if x=167 then 110 else if x=168 then 112 else if x=169 then 41 else if x=173 then 88 else if x=197 then 111 else if x=240 then 107 else if x=242 then 147 else if x=246 then 108 else if x=260 then 146 else if x=276 then 141 else if x=278 then 165 else if x=283 then 142 else if x=284 then 143 else if x=285 then 144 else if x=286 then 145 else if x=317 then 161 else if x=318 then 162 else if x=319 then 163 else if x=320 then 164 else if x=337 then 173 else if x=338 then 174 else x,fun x=>if x=37 then 54 else if x=46 then 103 else if x=51 then 132 else if x=53 then 134 else if x=70 then 53 else if x=72 then 56 else if x=75 then 88 else if x=80 then 59 else if x=105 then 110 else if x=119 then 159 else if x=127 then 79 else if x=138 then 161 else if x=139 then 162 else if x=164 then 138 else if x=171 then 140 else if x=173 then 142 else if x=212 then 157 else if x=213 then 158 else if x=232 then 171 else if x=233 then 172 else x,fun x=>if x=3 then 1 else if x=4 then 2 else if x=17 then 0 else if x=18 then 4 else if x=19 then 5 else x⟩
theorem Zxa:Tryz.prog.funcs[J9.f 129]?=some (Body.n129 J9):=by show Tryz.prog.funcs[132]?=_;rw [Tryz.func132];kernel_rfl
theorem Zw9:Tryz.prog.funcs[J9.f 166]?=some (Body.n166 J9):=by show Tryz.prog.funcs[87]?=_;rw [Tryz.func87];kernel_rfl
theorem Zw8:Tryz.prog.funcs[J9.f 167]?=some (Body.n167 J9):=by show Tryz.prog.funcs[110]?=_;rw [Tryz.func110];kernel_rfl
theorem Zw7:Tryz.prog.funcs[J9.f 168]?=some (Body.n168 J9):=by show Tryz.prog.funcs[112]?=_;rw [Tryz.func112];kernel_rfl
theorem Zw6:Tryz.prog.funcs[J9.f 169]?=some (Body.n169 J9):=by show Tryz.prog.funcs[41]?=_;rw [Tryz.func41];kernel_rfl
theorem Zw5:Tryz.prog.funcs[J9.f 173]?=some (Body.n173 J9):=by show Tryz.prog.funcs[88]?=_;rw [Tryz.func88];kernel_rfl
theorem Zw4:Tryz.prog.funcs[J9.f 197]?=some (Body.n197 J9):=by show Tryz.prog.funcs[111]?=_;rw [Tryz.func111];kernel_rfl
theorem yL:Tryz.prog.funcs[J9.f 240]?=some (Body.n240 J9):=by show Tryz.prog.funcs[107]?=_;rw [Tryz.func107];kernel_rfl
theorem Zw3:Tryz.prog.funcs[J9.f 242]?=some (Body.n242 J9):=by show Tryz.prog.funcs[147]?=_;rw [Tryz.func147];kernel_rfl
theorem Zw2:Tryz.prog.funcs[J9.f 246]?=some (Body.n246 J9):=by show Tryz.prog.funcs[108]?=_;rw [Tryz.func108];kernel_rfl
theorem Zw1:Tryz.prog.funcs[J9.f 260]?=some (Body.n260 J9):=by show Tryz.prog.funcs[146]?=_;rw [Tryz.func146];kernel_rfl
theorem yI:Tryz.prog.funcs[J9.f 276]?=some (Body.n276 J9):=by show Tryz.prog.funcs[141]?=_;rw [Tryz.func141];kernel_rfl
theorem Zw0:Tryz.prog.funcs[J9.f 278]?=some (Body.n278 J9):=by show Tryz.prog.funcs[165]?=_;rw [Tryz.func165];kernel_rfl
theorem Zwz:Tryz.prog.funcs[J9.f 283]?=some (Body.n283 J9):=by show Tryz.prog.funcs[142]?=_;rw [Tryz.func142];kernel_rfl
theorem Zwy:Tryz.prog.funcs[J9.f 284]?=some (Body.n284 J9):=by show Tryz.prog.funcs[143]?=_;rw [Tryz.func143];kernel_rfl
theorem Zwx:Tryz.prog.funcs[J9.f 285]?=some (Body.n285 J9):=by show Tryz.prog.funcs[144]?=_;rw [Tryz.func144];kernel_rfl
theorem Zww:Tryz.prog.funcs[J9.f 286]?=some (Body.n286 J9):=by show Tryz.prog.funcs[145]?=_;rw [Tryz.func145];kernel_rfl
theorem Zwv:Tryz.prog.funcs[J9.f 317]?=some (Body.n317 J9):=by show Tryz.prog.funcs[161]?=_;rw [Tryz.func161];kernel_rfl
theorem Zwu:Tryz.prog.funcs[J9.f 318]?=some (Body.n318 J9):=by show Tryz.prog.funcs[162]?=_;rw [Tryz.func162];kernel_rfl
theorem Zwt:Tryz.prog.funcs[J9.f 319]?=some (Body.n319 J9):=by show Tryz.prog.funcs[163]?=_;rw [Tryz.func163];kernel_rfl
theorem Zws:Tryz.prog.funcs[J9.f 320]?=some (Body.n320 J9):=by show Tryz.prog.funcs[164]?=_;rw [Tryz.func164];kernel_rfl
theorem Zwr:Tryz.prog.funcs[J9.f 337]?=some (Body.n337 J9):=by show Tryz.prog.funcs[173]?=_;rw [Tryz.func173];kernel_rfl
theorem Zwq:Tryz.prog.funcs[J9.f 338]?=some (Body.n338 J9):=by show Tryz.prog.funcs[174]?=_;rw [Tryz.func174];kernel_rfl
theorem Zj0:Lays.n166 Tryz.prog J9:=⟨by kernel_rfl,Zw9,yL,yI,Tryz.underlying0,Tryz.isAgg0,Tryz.sizeOf0,Tryz.zeroValue0,Tryz.underlying3,Tryz.isAgg3,Tryz.sizeOf3,Tryz.zeroValue3,Tryz.underlying4,Tryz.isAgg4,Tryz.sizeOf4,Tryz.zeroValue4,Tryz.underlying9,Tryz.isAgg9,Tryz.sizeOf9,Tryz.zeroValue9,Tryz.underlying20,Tryz.isAgg20,Tryz.sizeOf20,Tryz.zeroValue20,Tryz.underlying54,Tryz.isAgg54,Tryz.sizeOf54,Tryz.zeroValue54,Tryz.underlying53,Tryz.isAgg53,Tryz.sizeOf53,Tryz.zeroValue53,Tryz.underlying56,Tryz.isAgg56,Tryz.sizeOf56,Tryz.zeroValue56,Tryz.underlying88,Tryz.isAgg88,Tryz.sizeOf88,Tryz.zeroValue88,Tryz.underlying138,Tryz.isAgg138,Tryz.sizeOf138,Tryz.zeroValue138⟩
theorem Zjz:Lays.n167 Tryz.prog J9:=⟨by kernel_rfl,Zw8,yL,yI,Tryz.underlying0,Tryz.isAgg0,Tryz.sizeOf0,Tryz.zeroValue0,Tryz.underlying4,Tryz.isAgg4,Tryz.sizeOf4,Tryz.zeroValue4,Tryz.underlying5,Tryz.isAgg5,Tryz.sizeOf5,Tryz.zeroValue5,Tryz.underlying9,Tryz.isAgg9,Tryz.sizeOf9,Tryz.zeroValue9,Tryz.underlying20,Tryz.isAgg20,Tryz.sizeOf20,Tryz.zeroValue20,Tryz.underlying54,Tryz.isAgg54,Tryz.sizeOf54,Tryz.zeroValue54,Tryz.underlying53,Tryz.isAgg53,Tryz.sizeOf53,Tryz.zeroValue53,Tryz.underlying56,Tryz.isAgg56,Tryz.sizeOf56,Tryz.zeroValue56,Tryz.underlying88,Tryz.isAgg88,Tryz.sizeOf88,Tryz.zeroValue88,Tryz.underlying138,Tryz.isAgg138,Tryz.sizeOf138,Tryz.zeroValue138⟩
theorem Zjy:Lays.n168 Tryz.prog J9:=⟨by kernel_rfl,Zw7,yL,Zw3,yI,Zw0,Tryz.underlying0,Tryz.isAgg0,Tryz.sizeOf0,Tryz.zeroValue0,Tryz.underlying3,Tryz.isAgg3,Tryz.sizeOf3,Tryz.zeroValue3,Tryz.underlying4,Tryz.isAgg4,Tryz.sizeOf4,Tryz.zeroValue4,Tryz.underlying5,Tryz.isAgg5,Tryz.sizeOf5,Tryz.zeroValue5,Tryz.underlying9,Tryz.isAgg9,Tryz.sizeOf9,Tryz.zeroValue9,Tryz.underlying20,Tryz.isAgg20,Tryz.sizeOf20,Tryz.zeroValue20,Tryz.underlying21,Tryz.isAgg21,Tryz.sizeOf21,Tryz.zeroValue21,Tryz.underlying54,Tryz.isAgg54,Tryz.sizeOf54,Tryz.zeroValue54,Tryz.underlying103,Tryz.isAgg103,Tryz.sizeOf103,Tryz.zeroValue103,Tryz.underlying132,Tryz.isAgg132,Tryz.sizeOf132,Tryz.zeroValue132,Tryz.underlying53,Tryz.isAgg53,Tryz.sizeOf53,Tryz.zeroValue53,Tryz.underlying56,Tryz.isAgg56,Tryz.sizeOf56,Tryz.zeroValue56,Tryz.underlying88,Tryz.isAgg88,Tryz.sizeOf88,Tryz.zeroValue88,Tryz.underlying138,Tryz.isAgg138,Tryz.sizeOf138,Tryz.zeroValue138⟩
theorem Zjx:Lays.n169 Tryz.prog J9:=⟨by kernel_rfl,Zw6,Tryz.underlying0,Tryz.isAgg0,Tryz.sizeOf0,Tryz.zeroValue0,Tryz.underlying3,Tryz.isAgg3,Tryz.sizeOf3,Tryz.zeroValue3,Tryz.underlying9,Tryz.isAgg9,Tryz.sizeOf9,Tryz.zeroValue9,Tryz.underlying54,Tryz.isAgg54,Tryz.sizeOf54,Tryz.zeroValue54,Tryz.underlying53,Tryz.isAgg53,Tryz.sizeOf53,Tryz.zeroValue53,Tryz.underlying56,Tryz.isAgg56,Tryz.sizeOf56,Tryz.zeroValue56,Tryz.underlying79,Tryz.isAgg79,Tryz.sizeOf79,Tryz.zeroValue79⟩
theorem Zjv:Lays.n197 Tryz.prog J9:=⟨by kernel_rfl,Zw4,Zw1,Tryz.underlying0,Tryz.isAgg0,Tryz.sizeOf0,Tryz.zeroValue0,Tryz.underlying3,Tryz.isAgg3,Tryz.sizeOf3,Tryz.zeroValue3,Tryz.underlying4,Tryz.isAgg4,Tryz.sizeOf4,Tryz.zeroValue4,Tryz.underlying5,Tryz.isAgg5,Tryz.sizeOf5,Tryz.zeroValue5,Tryz.underlying9,Tryz.isAgg9,Tryz.sizeOf9,Tryz.zeroValue9,Tryz.underlying21,Tryz.isAgg21,Tryz.sizeOf21,Tryz.zeroValue21,Tryz.underlying103,Tryz.isAgg103,Tryz.sizeOf103,Tryz.zeroValue103,Tryz.underlying110,Tryz.isAgg110,Tryz.sizeOf110,Tryz.zeroValue110,Tryz.underlying159,Tryz.isAgg159,Tryz.sizeOf159,Tryz.underlying161,Tryz.isAgg161,Tryz.sizeOf161,Tryz.zeroValue161,Tryz.underlying162,Tryz.isAgg162,Tryz.sizeOf162,Tryz.zeroValue162,by kernel_rfl,by kernel_rfl⟩
theorem Zjw:Lays.n173 Tryz.prog J9:=⟨by kernel_rfl,Zxa,Zw5,Zw2,Zwz,Zwy,Zwx,Zww,Zwv,Zwu,Zwt,Zws,Zwr,Zwq,Tryz.underlying0,Tryz.isAgg0,Tryz.sizeOf0,Tryz.zeroValue0,Tryz.underlying2,Tryz.isAgg2,Tryz.sizeOf2,Tryz.zeroValue2,Tryz.underlying3,Tryz.isAgg3,Tryz.sizeOf3,Tryz.zeroValue3,Tryz.underlying4,Tryz.isAgg4,Tryz.sizeOf4,Tryz.zeroValue4,Tryz.underlying5,Tryz.isAgg5,Tryz.sizeOf5,Tryz.zeroValue5,Tryz.underlying9,Tryz.isAgg9,Tryz.sizeOf9,Tryz.zeroValue9,Tryz.underlying20,Tryz.isAgg20,Tryz.sizeOf20,Tryz.zeroValue20,Tryz.underlying54,Tryz.isAgg54,Tryz.sizeOf54,Tryz.zeroValue54,Tryz.underlying103,Tryz.isAgg103,Tryz.sizeOf103,Tryz.zeroValue103,Tryz.underlying132,Tryz.isAgg132,Tryz.sizeOf132,Tryz.zeroValue132,Tryz.underlying134,Tryz.isAgg134,Tryz.sizeOf134,Tryz.zeroValue134,Tryz.underlying140,Tryz.isAgg140,Tryz.sizeOf140,Tryz.zeroValue140,Tryz.underlying142,Tryz.isAgg142,Tryz.sizeOf142,Tryz.zeroValue142,Tryz.underlying157,Tryz.isAgg157,Tryz.sizeOf157,Tryz.zeroValue157,Tryz.underlying158,Tryz.isAgg158,Tryz.sizeOf158,Tryz.underlying171,Tryz.isAgg171,Tryz.sizeOf171,Tryz.zeroValue171,Tryz.underlying172,Tryz.isAgg172,Tryz.sizeOf172,Tryz.zeroValue172,by kernel_rfl,by kernel_rfl,by kernel_rfl⟩
theorem Zg9:LaysM.n173 Tryz.prog J9:=⟨Zjw,by kernel_rfl,by kernel_rfl,by kernel_rfl,by kernel_rfl,by kernel_rfl,by kernel_rfl,by kernel_rfl,by kernel_rfl,by kernel_rfl,by kernel_rfl,by kernel_rfl,by kernel_rfl,by kernel_rfl,by kernel_rfl,by kernel_rfl,by kernel_rfl,by kernel_rfl,by kernel_rfl,by kernel_rfl⟩
theorem Zju:Builder.Extra Tryz.prog J9 where
 sizeBuilder:=by kernel_rfl
 liesBuilder:=by kernel_rfl
 t5:=Tryz.underlying5
 a5:=Tryz.isAgg5
 z5:=Tryz.sizeOf5
 v5:=Tryz.zeroValue5
 infoByte:=by kernel_rfl
 cellsByte:=by kernel_rfl
 sizeByte:=by kernel_rfl
 neB5:=by decide
theorem Pc (B b:Nat) (bs:List Value) (c:Int) (w:World) (h:Lib.IsBuilderF 56 5 B b bs w) (Z8:bs.length+1≤140737488355328) (hBw:B≤w.heap.size) :
  Calls Tryz.prog 110 #[.pointer (some ⟨b,0,none⟩),.int .u8 c] w fun e w'=>e=.returned .nilIface∧(Lib.BuilderAtF 56 5 B b (.pointer (some ⟨b,0,none⟩)) (bs++[.int .u8 c]) w'∧Below B w w'∧Lib.OthersKept 5 (some b) w w'):=Any.Builder_WriteByte_k Zjz Zju B b bs c w h Z8 hBw
theorem aU (B b:Nat) (bs:List Value) (s:ByteArray) (w:World) (h:Lib.IsBuilderF 56 5 B b bs w) (Z8:bs.length+s.size≤140737488355328) (hBw:B≤w.heap.size) :
  Calls Tryz.prog 87 #[.pointer (some ⟨b,0,none⟩),.string s] w fun e w'=>e=.returned (.tuple #[.int .i64 s.size,.nilIface])∧(Lib.BuilderAtF 56 5 B b (.pointer (some ⟨b,0,none⟩)) (bs++Lib.strCells s) w'∧Below B w w'∧Lib.OthersKept 5 (some b) w w'):=Any.Builder_WriteString_k Zj0 Zju B b bs s w h Z8 hBw
theorem bQ (B b:Nat) (bs:List Value) (r:Int) (Zym:-2147483648≤r) (St:r≤2147483647) (w:World) (h:Lib.IsBuilderF 56 5 B b bs w) (Z8:bs.length+4≤140737488355328) (hBw:B≤w.heap.size) :
  Calls Tryz.prog 112 #[.pointer (some ⟨b,0,none⟩),.int .i32 r] w fun e w'=>e=.returned (.tuple #[.int .i64 (Lib.runeCells r).length,.nilIface])∧(Lib.BuilderAtF 56 5 B b (.pointer (some ⟨b,0,none⟩)) (bs++Lib.runeCells r) w'∧Below B w w'∧Lib.OthersKept 5 (some b) w w'):=Any.Builder_WriteRune_k Zjy Zju B b bs r Zym St w h Z8 hBw
theorem Zch (B b:Nat) (l:List UInt8) (w:World) (h:Lib.IsBuilderF 56 5 B b (Lib.byteCells l) w) (hBw:B≤w.heap.size) :
  Calls Tryz.prog 41 #[.pointer (some ⟨b,0,none⟩)] w fun e w'=>e=.returned (.string ⟨l.toArray⟩)∧(Lib.IsBuilderF 56 5 B b (Lib.byteCells l) w'∧Below B w w'∧Lib.OthersKept 5 (some b) w w'):=Any.Builder_String_any_k Zjx Zju B b l w h hBw
theorem Zcj (s:ByteArray) (w:World) (hT:Lib.Utf8Tabs 1 2 w) :
  Calls Tryz.prog 111 #[.string s] w fun e w'=>e=.returned (.tuple #[.int .i32 (Lib.decodeGo s).1,.int .i64 (Lib.decodeGo s).2])∧Below w.heap.size w w':=Any.utf8_DecodeRuneInString Zjv s w hT
theorem Zci (n : Int) (h0 : -9223372036854775808 ≤ n) (h1 : n ≤ 9223372036854775807) (w : World) (htab : Lib.TabIs Tryz.prog w "internal/strconv.uint64pow10" .u64 Lib.pow10Tab) :
    Calls Tryz.prog 88 #[.int .i64 n, .int .i64 10] w fun e w' => e = .returned (.string ⟨(Lib.itoa n).toArray⟩) ∧ ∃ k os, w' = Sort.grow (w.drewN k) os := Any.strconv_FormatInt_10 Zg9 n h0 h1 w htab
open Lib (decodeL encodeRune)
def bI (n:Nat):UInt8:=([48,49,50,51,52,53,54,55,56,57,97,98,99,100,101,102]:List UInt8).getD n 0
def Mp (r n:Nat) (c:UInt8):List UInt8 :=
 if r=92 then [92,92] else if r=34 then [92,34] else if r=10 then [92,110] else if r=9 then [92,116]
 else if (r=65533∧n=1)∨r<32∨r=127 then [92,120,bI (c.toNat / 16),bI (c.toNat % 16)] else encodeRune r
def Ii:Nat→List UInt8→List UInt8
 | 0,_=>[34]
 | k+1,l=>if l=[] then [34] else Mp (decodeL l).1 (decodeL l).2 (l.getD 0 0)++Ii k (l.drop (decodeL l).2)
def Nn (l:List UInt8):List UInt8:=34::Ii l.length l
theorem Zfh {k:Nat}:Ii k []=[34]:=by cases k<;>simp [Ii]
theorem Zu8 (s:ByteArray):s.size=s.data.toList.length:=Array.length_toList.symm
theorem Zg0 (s:ByteArray) (pos:Nat):(s.extract pos s.size).data.toList=s.data.toList.drop pos:=by
 have h:(s.extract pos s.size).data=s.data.extract pos s.size:=by simp
 rw [h,Array.toList_extract,Zu8 s,List.extract];exact List.take_of_length_le (by rw [List.length_drop];exact Zl _)
theorem uK {s:ByteArray} {pos:Nat} (hp:pos<s.size) {s':ByteArray} (h:s'.data.toList=s.data.toList.drop pos):Lib.decodeGo s'=Utf8.decode s pos:=by
 have hz:s'.size≠0:=by
  have e2:=Zu8 s;rw [Zu8 s',h,List.length_drop];omega
 unfold Lib.decodeGo;rw [if_neg hz,←Lib.decodeL_drop s pos,←h];rfl
theorem Zi0 {s:ByteArray} {pos k:Nat} (hp:pos<s.size):Ii (k+1) (s.data.toList.drop pos)=Mp (Utf8.decode s pos).1 (Utf8.decode s pos).2 s.data[pos]!++Ii k (s.data.toList.drop (pos+(Utf8.decode s pos).2)):=by
 have e2:=Zu8 s;have Hk:s.data.toList.drop pos≠[]:=by
  intro e;have:=congrArg List.length e;rw [List.length_drop] at this;simp only [List.length_nil] at this;omega
 rw [Ii,if_neg Hk,Lib.decodeL_drop,List.drop_drop]
 congr 2
 rw [e2] at hp;simp at hp;simp [hp]
theorem Zjr {s:ByteArray} {pos:Nat} (hp:pos<s.size):pos+(Utf8.decode s pos).2≤s.size:=by
 have h:s.data.toList.drop pos≠[]:=by
  intro e;have:=congrArg List.length e;rw [List.length_drop,←Zu8] at this;simp only [List.length_nil] at this;omega
 have:=Lib.decodeL_le _ h;rw [Lib.decodeL_drop,List.length_drop,←Zu8] at this;omega
structure QI (s:ByteArray) (w:World) (k pos fuel:Nat) (acc:List UInt8) (wr:World):Prop where
 bd:Lib.IsBuilderF 56 5 w.heap.size w.heap.size (Lib.byteCells acc) wr
 it:wr.heap[k]?=some (.stringIter s pos)
 bl:Below w.heap.size w wr
 eq:acc++Ii fuel (s.data.toList.drop pos)=Nn s.data.toList
 fu:s.size≤pos+fuel
 ln:acc.length≤4*pos+1
 kk:w.heap.size<k
 pl:pos≤s.size
def Zfr (r n:Nat):Bool:=(r==65533&&n==1)||(decide (r<32)||r==127)
theorem dT (r n:Nat) (W:World):Calls Tryz.prog 113 #[.int .i32 r,.int .i64 n] W fun e W'=>e=.returned (.bool (Zfr r n))∧W'=W:=by
 have e1:((r:Int)==65533)=(r==65533):=by rw [Bool.eq_iff_iff];simp;omega
 have e2:((n:Int)==1)=(n==1):=by rw [Bool.eq_iff_iff];simp;omega
 have e3:((r:Int)==127)=(r==127):=by rw [Bool.eq_iff_iff];simp;omega
 have e4:(decide ((r:Int)<32))=decide (r<32):=by rw [Bool.eq_iff_iff];simp;omega
 go_enter Tryz.func113,Tryz.ntmps113
 go_wp2
 all_goals go_ret
 all_goals refine ⟨?_,rfl⟩
 all_goals refine congrArg Ending.returned ?_
 all_goals show Value.bool _=Value.bool _
 all_goals refine congrArg Value.bool ?_
 all_goals rw [Bool.eq_iff_iff]
 all_goals simp [Zfr]
 all_goals omega
theorem tG (n:Nat) (h:n<({ data:=#[48,49,50,51,52,53,54,55,56,57,97,98,99,100,101,102] }:ByteArray).size):[Value.int .u8 ((({ data:=#[48,49,50,51,52,53,54,55,56,57,97,98,99,100,101,102] }:ByteArray)[n]'h).toNat:Int)]=Lib.byteCells [bI n]:=by
 match n,h with
 | 0,_=>rfl
 | 1,_=>rfl
 | 2,_=>rfl
 | 3,_=>rfl
 | 4,_=>rfl
 | 5,_=>rfl
 | 6,_=>rfl
 | 7,_=>rfl
 | 8,_=>rfl
 | 9,_=>rfl
 | 10,_=>rfl
 | 11,_=>rfl
 | 12,_=>rfl
 | 13,_=>rfl
 | 14,_=>rfl
 | 15,_=>rfl
 | k+16,h=>exact absurd (show k+16<16 from h) (by omega)
structure QW (s:ByteArray) (w:World) (k p:Nat) (acc:List UInt8) (W:World):Prop where
 bd:Lib.IsBuilderF 56 5 w.heap.size w.heap.size (Lib.byteCells acc) W
 it:W.heap[k]?=some (.stringIter s p)
 bl:Below w.heap.size w W
section
variable {s:ByteArray} {w W W':World} {k p:Nat} {acc:List UInt8}
theorem Za0 (r:Int):(encodeRune r).length≤4:=by
 have:=Lib.runeCells_le r;rw [Lib.runeCells_length] at this;exact this.2
theorem QW.sz (h:QW s w k p acc W):w.heap.size≤W.heap.size:=h.bl.size
theorem QW.wr (h:QW s w k p acc W) (hk:w.heap.size<k) {x:List UInt8} {cs:List Value} (h1:Lib.BuilderAtF 56 5 w.heap.size w.heap.size (.pointer (some ⟨w.heap.size,0,none⟩)) (Lib.byteCells acc++cs) W')
  (b1:Below w.heap.size W W') (k1:Lib.OthersKept 5 (some w.heap.size) W W') (hc:cs=Lib.byteCells x):QW s w k p (acc++x) W':=by
 refine ⟨.inr ?_,k1.iter h.it (by omega),h.bl.trans b1⟩
 rw [Lib.byteCells_append,←hc];exact h1
theorem QW.round (h:QW s w k p acc W) {fuel:Nat} (hk:w.heap.size<k) (he:acc++Ii fuel (s.data.toList.drop p)=Nn s.data.toList) (hf:s.size≤p+fuel) (hl:acc.length≤4*p+1) (hp:p≤s.size):QI s w k p fuel acc W:=⟨h.bd,h.it,h.bl,he,hf,hl,hk,hp⟩
theorem QW.meas (h:QW s w k p acc W) (wr:World) {pos:Nat} (h0:wr.iterPos k=pos) (hp:pos<p) (hs:pos<s.size):s.size-W.iterPos k<s.size-wr.iterPos k:=by
 rw [iterPos_of h.it,h0];omega
end
set_option maxRecDepth 1000000 in
theorem wG (s:ByteArray) (w:World) (hs:s.size≤35000000000000) (hT:∀ w',Below w.heap.size w w'→Lib.Utf8Tabs 1 2 w') :
  Calls Tryz.prog 90 #[.string s] w fun e w'=>e=.returned (.string ⟨(Nn s.data.toList).toArray⟩)∧Below w.heap.size w w':=by
 go_enter Tryz.func90,Tryz.ntmps90
 go_wp2_with (go_at_call 110;refine (Pc w.heap.size w.heap.size [] 34 _ (Lib.IsBuilderF.of (Lib.fresh_isBuilder 56 5 w)) (by simp) (by simp)).mono ?_)
 rintro e W0 ⟨rfl,g1,g2,g3⟩;have V7:w.heap.size<W0.heap.size:=(Array.getElem?_eq_some_iff.1 (show W0.heap[w.heap.size]?=some _ from g1.2.choose_spec.1)).1;have b0:Below w.heap.size w W0:=((Below.refl w.heap.size w).alloc (Zl _) _).trans g2;have i0:Lib.IsBuilderF 56 5 w.heap.size w.heap.size (Lib.byteCells [34]) W0:=.inr g1;clear g1 g2 g3
 go_wp2
 go_loopw [] (fun wr=>∃ (pos fuel:Nat) (acc:List UInt8),QI s w W0.heap.size pos fuel acc wr) (fun wr=>s.size-wr.iterPos W0.heap.size)
 case atStart=>exact ⟨0,s.size,[34],i0.alloc _,World.iter_heap W0 s 0,b0.alloc (by omega) _,by rw [Nn,Zu8 s];rfl,by omega,Zl _,V7,Nat.zero_le _⟩
 case round =>
  obtain ⟨pos,fuel,acc,hI,C3,Zie,kL,Qjc,Zyr,Yg,zJ⟩:=hrel;have Su:=iterPos_of C3;obtain ⟨k,hk⟩:=exq (W0.heap.size);rw [hk] at C3 Su Yg;have K5:k<wr.heap.size:=lt_of_block C3;by_cases hp:pos<s.size
  ·have fJ:∀ ty,(Instr.next (.pointer (some ⟨k,0,none⟩)) true ty).run Tryz.prog wr=_:=fun ty=>Lib.run_next_any_at wr k s pos ty C3 hp;have Qdu:=aN s pos hp;have fY:=decode_le s pos;have zX:=Zjr hp;obtain ⟨fuel,rfl⟩:∃ f',fuel=f'+1:=⟨fuel-1,by omega⟩
   rw [Zi0 hp] at kL;have Qe8:=hI.iterAt C3 (pos+(Utf8.decode s pos).2);have Cp:=Lib.iterAt_heap wr k s pos (pos+(Utf8.decode s pos).2) C3;have Re:=Lib.below_iterAt Zie (k:=k) (by omega) s (pos+(Utf8.decode s pos).2)
   obtain ⟨W1,Zvm⟩:∃ W1,W1=wr.iterAt k s (pos+(Utf8.decode s pos).2):=⟨_,rfl⟩;rw [←Zvm] at fJ Cp Re Qe8;have Qg:k<W1.heap.size:=lt_of_block Cp;clear Zvm C3 Zie hI;rw [hk]
   go_wp2_with (go_at_call 111;refine (Zcj _ _ (hT _ Re)).mono ?_)
   rintro e W2 ⟨rfl,Sy⟩;rw [uK hp (Zg0 s pos)];have Qg0:=Lib.IsBuilderF.below Qe8 Sy;have A1:W2.heap[k]?=some (.stringIter s (pos+(Utf8.decode s pos).2)):=(Sy.block k Qg).trans Cp;have Qb7:=Re.trans (H5 Sy (by omega))
   have Qhh:w.heap.size≤W2.heap.size:=Nat.le_trans (Nat.le_of_lt (Nat.lt_trans Yg Qg)) Sy.size;clear Qe8 Cp Re Sy fJ;obtain ⟨R,hR⟩:=exq ((Utf8.decode s pos).1);obtain ⟨N,hN⟩:=exq ((Utf8.decode s pos).2);rw [hR,hN] at kL;rw [hN] at Qdu A1 zX;rw [hR] at fY;rw [hR,hN];have q0:QW s w k (pos+N) acc W2:=⟨Qg0,A1,Qb7⟩;clear Qg0 A1 Qb7;by_cases zE:R=92
   ·subst zE
    go_wp2_with (go_at_call 110;refine (Pc w.heap.size w.heap.size _ 92 _ q0.bd (by rw [Lib.byteCells_length];(try simp only [Zb,Zd,List.length_nil]);omega) q0.sz).mono ?_)
    rintro e W3 ⟨rfl,h1,b1,k1⟩;have q1:=q0.wr Yg (x:=[92]) h1 b1 k1 rfl
    go_wp2_with (go_at_call 112;refine (bQ w.heap.size w.heap.size _ _ (by omega) (by omega) _ q1.bd (by rw [Lib.byteCells_length];(try simp only [Zb,Zd,List.length_nil]);omega) q1.sz).mono ?_)
    rintro e W4 ⟨rfl,h2,b2,k2⟩;have q2:=q1.wr Yg (x:=[92]) h2 b2 k2 rfl
    go_wp2
    go_roundw
    case rel=>exact ⟨pos+N,fuel,_,q2.round Yg (by rw [←kL];simp [Mp]) (by omega) (by simp only [Zb,Zd,List.length_nil];omega) zX⟩
    case measure=>exact q2.meas wr Su (by omega) hp
   by_cases Zvp:R=34
   ·subst Zvp
    go_wp2_with (go_at_call 110;refine (Pc w.heap.size w.heap.size _ 92 _ q0.bd (by rw [Lib.byteCells_length];(try simp only [Zb,Zd,List.length_nil]);omega) q0.sz).mono ?_)
    rintro e W3 ⟨rfl,h1,b1,k1⟩;have q1:=q0.wr Yg (x:=[92]) h1 b1 k1 rfl
    go_wp2_with (go_at_call 112;refine (bQ w.heap.size w.heap.size _ _ (by omega) (by omega) _ q1.bd (by rw [Lib.byteCells_length];(try simp only [Zb,Zd,List.length_nil]);omega) q1.sz).mono ?_)
    rintro e W4 ⟨rfl,h2,b2,k2⟩;have q2:=q1.wr Yg (x:=[34]) h2 b2 k2 rfl
    go_wp2
    go_roundw
    case rel=>exact ⟨pos+N,fuel,_,q2.round Yg (by rw [←kL];simp [Mp]) (by omega) (by simp only [Zb,Zd,List.length_nil];omega) zX⟩
    case measure=>exact q2.meas wr Su (by omega) hp
   by_cases Bf:R=10
   ·subst Bf
    go_wp2_with (go_at_call 87;refine (aU w.heap.size w.heap.size _ _ _ q0.bd (by rw [Lib.byteCells_length];show _+2≤_;omega) q0.sz).mono ?_)
    rintro e W3 ⟨rfl,h1,b1,k1⟩;have q1:=q0.wr Yg (x:=[92,110]) h1 b1 k1 rfl
    go_wp2
    go_roundw
    case rel=>exact ⟨pos+N,fuel,_,q1.round Yg (by rw [←kL];simp [Mp]) (by omega) (by simp only [Zb,Zd,List.length_nil];omega) zX⟩
    case measure=>exact q1.meas wr Su (by omega) hp
   by_cases h9:R=9
   ·subst h9
    go_wp2_with (go_at_call 87;refine (aU w.heap.size w.heap.size _ _ _ q0.bd (by rw [Lib.byteCells_length];show _+2≤_;omega) q0.sz).mono ?_)
    rintro e W3 ⟨rfl,h1,b1,k1⟩;have q1:=q0.wr Yg (x:=[92,116]) h1 b1 k1 rfl
    go_wp2
    go_roundw
    case rel=>exact ⟨pos+N,fuel,_,q1.round Yg (by rw [←kL];simp [Mp]) (by omega) (by simp only [Zb,Zd,List.length_nil];omega) zX⟩
    case measure=>exact q1.meas wr Su (by omega) hp
   have e92:((R:Int)==92)=false:=by rw [Za];omega
   have e34:((R:Int)==34)=false:=by rw [Za];omega
   have e10:((R:Int)==10)=false:=by rw [Za];omega
   have e9:((R:Int)==9)=false:=by rw [Za];omega
   cases Er:Zfr R N with
   | false =>
    go_wp2_with (first|(go_at_call 113;refine (dT _ _ _).mono ?_;rintro e w' ⟨rfl,rfl⟩;simp only [Er])|(go_at_call 112;refine (bQ w.heap.size w.heap.size _ _ (by omega) (by omega) _ q0.bd (by rw [Lib.byteCells_length];omega) q0.sz).mono ?_))
    rintro e W3 ⟨rfl,h1,b1,k1⟩;have q1:=q0.wr Yg (x:=encodeRune R) h1 b1 k1 (Lib.byteCells_encodeRune _).symm;have hx:Mp R N s.data[pos]! =encodeRune R:=by
     unfold Zfr at Er;unfold Mp;rw [if_neg zE,if_neg Zvp,if_neg Bf,if_neg h9,if_neg (by simp at Er;omega)]
    have Zbv:=Za0 R
    go_wp2
    go_roundw
    case rel=>exact ⟨pos+N,fuel,_,q1.round Yg (by rw [←kL,hx];simp) (by omega) (by simp only [Zb];omega) zX⟩
    case measure=>exact q1.meas wr Su (by omega) hp
   | true =>
    go_wp2_with (first|(go_at_call 113;refine (dT _ _ _).mono ?_;rintro e w' ⟨rfl,rfl⟩;simp only [Er])|(go_at_call 87;refine (aU w.heap.size w.heap.size _ _ _ q0.bd (by rw [Lib.byteCells_length];show _+2≤_;omega) q0.sz).mono ?_))
    rintro e W3 ⟨rfl,h1,b1,k1⟩;have q1:=q0.wr Yg (x:=[92,120]) h1 b1 k1 rfl;obtain ⟨c,hc⟩:=exq (s[pos]'hp);have Qii:s.data[pos]! =c:=by
     rw [←hc];exact getElem!_pos s.data pos hp
    have Qb4:=c.toNat_lt;have Qh8:(0:Int)≤(c.toNat:Int) / 16∧(c.toNat:Int) / 16<16:=by omega
    have Qh5:(0:Int)≤(c.toNat:Int) % 16∧(c.toNat:Int) % 16<16:=by omega
    have hx:Mp R N c=[92,120,bI (c.toNat / 16),bI (c.toNat % 16)]:=by
     unfold Zfr at Er;unfold Mp;rw [if_neg zE,if_neg Zvp,if_neg Bf,if_neg h9,if_pos (by simp at Er;omega)]
    rw [Qii] at kL
    go_wp2_with (go_at_call 110;refine (Pc w.heap.size w.heap.size _ _ _ q1.bd (by rw [Lib.byteCells_length];(try simp only [Zb,Zd,List.length_nil]);omega) q1.sz).mono ?_)
    rintro e W5 ⟨rfl,h2,b2,k2⟩;have q2:=q1.wr Yg (x:=[bI (c.toNat / 16)]) h2 b2 k2 (tG _ _)
    go_wp2_with (go_at_call 110;refine (Pc w.heap.size w.heap.size _ _ _ q2.bd (by rw [Lib.byteCells_length];(try simp only [Zb,Zd,List.length_nil]);omega) q2.sz).mono ?_)
    rintro e W6 ⟨rfl,h3,b3,k3⟩;have q3:=q2.wr Yg (x:=[bI (c.toNat % 16)]) h3 b3 k3 (tG _ _)
    go_wp2
    go_roundw
    case rel=>exact ⟨pos+N,fuel,_,q3.round Yg (by rw [←kL,hx];simp) (by omega) (by simp only [Zb,Zd,List.length_nil];omega) zX⟩
    case measure=>exact q3.meas wr Su (by omega) hp
  ·have fJ:∀ ty,(Instr.next (.pointer (some ⟨k,0,none⟩)) true ty).run Tryz.prog wr=_:=fun ty=>Lib.run_next_end_at wr k s pos ty C3 hp;rw [hk];have q0:QW s w k pos acc wr:=⟨hI,C3,Zie⟩
   go_wp2_with (go_at_call 110;refine (Pc w.heap.size w.heap.size _ 34 _ q0.bd (by rw [Lib.byteCells_length];(try simp only [Zb,Zd,List.length_nil]);omega) q0.sz).mono ?_)
   rintro e W3 ⟨rfl,h1,b1,k1⟩;have q1:=q0.wr Yg (x:=[34]) h1 b1 k1 rfl
   go_wp2_with (go_at_call 41;refine (Zch w.heap.size w.heap.size _ _ q1.bd q1.sz).mono ?_)
   rintro e W4 ⟨rfl,_,b2,_⟩
   go_wp2
   go_ret
   have hd:s.data.toList.drop pos=[]:=List.drop_of_length_le (by rw [←Zu8];omega)
   rw [hd,Zfh] at kL;rw [kL];exact ⟨rfl,q1.bl.trans b2⟩
def Zbj (w : World) : Prop := ∀ w', Below w.heap.size w w' → Lib.Utf8Tabs 1 2 w' ∧ Lib.TabIs Tryz.prog w' "internal/strconv.uint64pow10" .u64 Lib.pow10Tab
theorem Ziu {w : World} {pass : Nat → Prop} (h : Glob w.heap.size pass w) : Zbj w := by
  obtain ⟨h1, h2, W, ⟨⟨h3, h4⟩, t, s, h5⟩, h6⟩ := h
  intro w' hb
  have hg : glG = 3 := rfl
  have he : ∀ b, b < 3 → w'.heap[b]? = W.heap[b]? := fun b Qg => (hb.block b (by omega)).trans (h6 b (by omega))
  have hc : ∀ b off, b < 3 → w'.cell? ⟨b, off, none⟩ = W.cell? ⟨b, off, none⟩ := fun b off Qg => World.cell?_of_block (a := ⟨b, off, none⟩) (he b Qg)
  refine ⟨⟨fun c Qc0 => by rw [hc 1 _ (by omega)]; exact h3 c Qc0, fun i hi => by rw [hc 2 _ (by omega), hc 2 _ (by omega)]; exact h4 i hi⟩, ?_⟩
  have hn : Tryz.prog.globalNamed "internal/strconv.uint64pow10" = some 0 := by kernel_rfl
  unfold Lib.TabIs World.var?
  rw [hn]
  show (match w'.heap[0]? with
    | some (.cells cs _ _) => some cs
    | _ => none) = _
  rw [he 0 (by omega), h5]
theorem nD {f:FuncId} {con:Con} (he:Mm Tryz.prog f)
  (h:∀ J0,con.pre J0→∃ (xs:List D) (d:D),J0=xs.map .d∧con.fn J0=.d d∧∀ (F:Fix) (vs:List Value) (w:World),Yk F (xs.map .d) vs→Zbj w →
   Calls Tryz.prog f vs.toArray w fun e w'=>∃ v,e=.returned v∧(∀ F',R F' d v)∧Below w.heap.size w w'):Jd Tryz.prog (f,con):=by
 refine ⟨he,?_⟩;intro m w J0 vs Zo aD F9 Vm Zia;obtain ⟨xs,d,rfl,Zib,hc⟩:=h J0 Zo;refine (hc _ vs w aD (Ziu Zia)).mono ?_;rintro e w' ⟨v,rfl,hv,hb⟩;refine ⟨_,m,rfl,⟨hb.os,hb.tape,hb.output,hb.size,fun k hk _=>hb.block k hk⟩,fun _ _ _=>rfl,fun k hk=>Vm k (by have:=hb.size;omega),?_⟩
 change rA _ _ _ (con.fn (xs.map .d)) _
 rw [Zib];simp only [rA,Yk,kD];refine ⟨⟨_,[],rfl,hv _,rfl⟩,fun k hk=>?_⟩;have:Qr ([d].map .d) [v]=[]:=L7 _ _
 change k∈Qr ([d].map .d) [v] at hk
 rw [this] at hk;cases hk
def jI:Con:=Xh (fun (s:List UInt8)=>s.length≤35000000000000) (fun s=>Nn s)
theorem tM:Jd Tryz.prog (90,jI):=by
 refine nD (J6 Tryz.func90 (by kernel_rfl) rfl) fun J0 Zo=>?_
 obtain ⟨s,rfl,hs⟩:=Qs Zo;refine ⟨[.str s],.str (Nn s),rfl,rfl,fun F vs w aD hT=>?_⟩;simp only [List.map,Yk,kD,R] at aD;obtain ⟨v1,r1,rfl,rfl,rfl⟩:=aD;refine (wG ⟨s.toArray⟩ w (by show s.toArray.size≤_;simpa using hs) (fun w' hb=>(hT w' hb).1)).mono ?_
 rintro e w' ⟨rfl,hb⟩;exact ⟨_,rfl,fun F'=>by simp only [R],hb⟩
theorem Zg7 {w:World} {k:Nat} {os:Array Go.Obj}:Below w.heap.size w (Sort.grow (w.drewN k) os):=by
 refine ⟨rfl,rfl,rfl,by simp [Sort.grow,World.drewN],fun b hb=>?_⟩
 show (w.heap++os)[b]?=_;rw [Array.getElem?_append_left hb]
def Rx:Con:=Vx (fun (n:Int) (b:Int)=>Aj .i64 n∧b=10) (fun n _=>Lib.itoa n)
theorem jY:Jd Tryz.prog (88,Rx):=by
 refine nD (J6 Tryz.func88 (by kernel_rfl) rfl) fun J0 Zo=>?_
 obtain ⟨n,b,rfl,hn,rfl⟩:=Jh Zo;rw [Xx] at hn;refine ⟨[.int .i64 n,.int .i64 10],.str (Lib.itoa n),rfl,rfl,fun F vs w aD hT=>?_⟩;simp only [List.map,Yk,kD,R] at aD;obtain ⟨v1,r1,rfl,rfl,v2,r2,rfl,rfl,rfl⟩:=aD;refine (Zci n (by omega) (by omega) w (hT w (Below.refl _ _)).2).mono ?_
 rintro e w' ⟨rfl,k,os,rfl⟩;exact ⟨_,rfl,fun F'=>by simp only [R],Zg7⟩
def dU (b:Bool):List UInt8:=cond b [116,114,117,101] [102,97,108,115,101]
def Gw:Con:=Xh (fun (_:Bool)=>True) (fun b=>dU b)
theorem bO:Jd Tryz.prog (109,Gw):=by
 obtain ⟨Kx,Kt,Kc,Kd,Kb,Ku,Kw,K,_⟩:=Yc Qp Z0 [] false Yb;have Ko:=Gw.eq_def;refine Ve K Tryz.func109 [.tmp 2] rfl 4 rfl (fun c hc J0 Zo=>?_);unfold Gw at Zo;obtain ⟨b,rfl,-⟩:=Qs Zo;have Qz:dU true=[116,114,117,101]:=rfl;have Q2:dU false=[102,97,108,115,101]:=rfl;cases hc;cases b with
 | true =>
  exact A4
 | false =>
  exact A4
def Hz:Con:=Xh (fun (_:Bool)=>True) (fun b=>dU b)
theorem eP:Jd Tryz.prog (89,Hz):=by
 obtain ⟨Kx,Kt,Kc,Kd,Kb,Ku,Kw,K,Y0,_⟩:=Yc Qp Z0 [] false (Xu bO Gw.eq_def Yb);have Ko:=Hz.eq_def;refine Ve K Tryz.func89 [.tmp 2] rfl 5 rfl (fun c hc J0 Zo=>?_);unfold Hz at Zo;obtain ⟨b,rfl,-⟩:=Qs Zo;cases hc;exact A4
open Go.Proofs
def Zij {A B C E R:Type} [Enc A] [Enc B] [Enc C] [Enc E] [Enc R] (p:A→B→C→E→Prop) (f:A→B→C→E→R):Con:=⟨[false,false,false,false],[false],fun c=>match c with
 | [.d x,.d y,.d z,.d w]=>C5 A x∧C5 B y∧C5 C z∧C5 E w∧p (dec x) (dec y) (dec z) (dec w)
 | _=>False,fun c=>match c with
 | [.d x,.d y,.d z,.d w]=>.d (enc (f (dec x) (dec y) (dec z) (dec w)))
 | _=>.d .nilp⟩
theorem Zjs {A B C E R:Type} [Enc A] [Enc B] [Enc C] [Enc E] [Enc R] {p:A→B→C→E→Prop} {f:A→B→C→E→R} {c:List CV} (h:(Zij p f).pre c):∃ a b d e,c=[.d (enc a),.d (enc b),.d (enc d),.d (enc e)]∧p a b d e:=by
 unfold Zij at h;simp only at h;split at h
 ·next x y z w=>exact ⟨dec x,dec y,dec z,dec w,by rw [←h.1,←h.2.1,←h.2.2.1,←h.2.2.2.1],h.2.2.2.2⟩
 ·exact h.elim
def Hb (s:List UInt8) (i:Int) (a b:UInt8):Bool:=Jw i s.length&&Vq (s.getD i.toNat 0) a b
def Fn:Con:=Zij (fun (s:List UInt8) (i:Int) (_ _:UInt8)=>s.length≤1000000∧0≤i∧i≤2000000) (fun s i a b=>Hb s i a b)
theorem xP:Jd Tryz.prog (150,Fn):=by
 obtain ⟨Kx,Kt,Kc,Kd,Kb,Ku,Kw,K,Y0,_⟩:=Yc Qp Z0 [] false (Xu good_within Zku Yb);have Ko:=Fn.eq_def;refine Ve K Tryz.func150 [.tmp 8] rfl 21 rfl (fun c hc J0 Zo=>?_);unfold Fn at Zo;obtain ⟨s,i,a,b,rfl,hs,Zio,Zbt⟩:=Zjs Zo;obtain ⟨i,rfl⟩:∃ n:Nat,i=n:=⟨i.toNat,by omega⟩
 obtain ⟨R,Qx⟩:=exq (Hb s i a b);have Q2:=Qx;unfold Hb at Q2;rw [Zp] at Q2;rcases Qh i s.length with ⟨Qg,Qz⟩|⟨Qg,Qz⟩
 ·rw [Qz,Bool.true_and] at Q2;cases hc;have Ql:=@Zij.eq_def;exact Ng
 ·rw [Qz,Bool.false_and] at Q2;subst Q2;cases hc;have Ql:=@Zij.eq_def;exact A4
def iK (s:List UInt8) (i:Nat) (c:UInt8):Nat :=
 if c<128 then 1
 else if (Vq c 194 223&&Hb s (i+1) 128 191)=true then 2
 else if (Vq c 224 239&&(Hb s (i+1) (if c=224 then 160 else 128) (if c=237 then 159 else 191)&&Hb s (i+2) 128 191))=true then 3
 else if (Vq c 240 244&&(Hb s (i+1) (if c=240 then 144 else 128) (if c=244 then 143 else 191)&&(Hb s (i+2) 128 191&&Hb s (i+3) 128 191)))=true then 4
 else 0
def P0 (s:List UInt8) (i:Nat):Nat:=iK s i (s.getD i 0)
theorem jF {s:List UInt8} {i:Int} {a b:UInt8} (h:Hb s i a b=true):i<s.length:=by
 unfold Hb at h;rw [Zg,Je] at h;exact h.1
theorem Zf5 {s:List UInt8} {i:Nat} (hi:i<s.length):i+P0 s i≤s.length:=by
 unfold P0 iK;obtain ⟨a,ha⟩:=exq ((if s.getD i 0=224 then (160:UInt8) else 128))
 obtain ⟨b,hb⟩:=exq ((if s.getD i 0=237 then (159:UInt8) else 191))
 obtain ⟨c,hc⟩:=exq ((if s.getD i 0=240 then (144:UInt8) else 128))
 obtain ⟨d,hd⟩:=exq ((if s.getD i 0=244 then (143:UInt8) else 191))
 rw [ha,hb,hc,hd];split
 ·omega
 split
 ·rename_i h;rw [Zg] at h;have:=jF h.2;omega
 split
 ·rename_i h;simp only [Zg] at h;have:=jF h.2.2;omega
 split
 ·rename_i h;simp only [Zg] at h;have:=jF h.2.2.2;omega
 ·omega
theorem Zf0 {a b:UInt8}:Jw (a.toNat:Int) (b.toNat:Int)=decide (a<b):=by
 unfold Jw
 congr 1
 rw [UInt8.lt_iff_toNat_lt];exact propext (by omega)
theorem Zhk:D.int .u8 128=enc (128:UInt8):=rfl
theorem Zhf:D.int .u8 191=enc (191:UInt8):=rfl
theorem Zhg:D.int .u8 160=enc (160:UInt8):=rfl
theorem Zhh:D.int .u8 159=enc (159:UInt8):=rfl
theorem Zhi:D.int .u8 144=enc (144:UInt8):=rfl
theorem Zhj:D.int .u8 143=enc (143:UInt8):=rfl
theorem Zhe:D.int .u8 194=enc (194:UInt8):=rfl
theorem Zhd:D.int .u8 223=enc (223:UInt8):=rfl
theorem Zhc:D.int .u8 224=enc (224:UInt8):=rfl
theorem Zhb:D.int .u8 239=enc (239:UInt8):=rfl
theorem Zha:D.int .u8 240=enc (240:UInt8):=rfl
theorem uM:D.int .u8 244=enc (244:UInt8):=rfl
def Ft:Con:=Vx (fun (s:List UInt8) (i:Int)=>s.length≤1000000∧0≤i∧i<s.length) (fun s i=>(P0 s i.toNat:Int))
class KcV:Prop
theorem KcV.k (_:KcV) (h:p:=by
 first|(rw [Xx];omega)|(symm;rw [←Qj];clear Qj Q3 K;simp_all;done)|(rw [←Qj];clear Qj Q3 K;simp_all;done)|skip):p:=h
class KcW:Prop
theorem KcW.k (_:KcW) (h:p:=by
 first|(rw [Xx];omega)|(symm;rw [←Qj];clear Qj Q3 K;simp_all;done)|(rw [←Qj];clear Qj Q3 K;simp_all;done)|skip):p:=h
class KcX:Prop
theorem KcX.k (_:KcX) (h:p:=by
 first|(rw [Xx];omega)|(symm;rw [←Qj];clear Qj Q3 K;simp_all;done)|(rw [←Qj];clear Qj Q3 K;simp_all;done)|skip):p:=h
class KcY:Prop
theorem KcY.k (_:KcY) (h:p:=by
 first|(rw [Xx];omega)|(symm;rw [←Qj];clear Qj Q3 K;simp_all;done)|(rw [←Qj];clear Qj Q3 K;simp_all;done)|skip):p:=h
class KcZ:Prop
theorem KcZ.k (_:KcZ) (h:p:=by
 first|(rw [Xx];omega)|(symm;rw [←Qj];clear Qj Q3 K;simp_all;done)|(rw [←Qj];clear Qj Q3 K;simp_all;done)|skip):p:=h
theorem good_Long1:Jd Tryz.prog (120,Ft):=by
 obtain ⟨Kx,Kt,Kc,Kd,Kb,Ku,Kw,K,Y0,Xr,_⟩:=Yc Qp Z0 [] false (Xu good_within Zku (Xu xP Fn.eq_def Yb));have Ko:=Ft.eq_def;refine Ve K Tryz.func120 [.tmp 4] rfl 67 rfl (fun c hc J0 Zo=>?_);unfold Ft at Zo;obtain ⟨s,i,rfl,hs,Zio,Zbt⟩:=Jh Zo;obtain ⟨i,rfl⟩:∃ n:Nat,i=n:=⟨i.toNat,by omega⟩
 have Qz:Jw (i:Int) (s.length:Int)=true:=by rw [Je];exact Zbt
 clear Zo;obtain ⟨R,Q3⟩:=exq (P0 s i);have Qj:=Q3;unfold P0 iK at Qj;obtain ⟨c,Q2⟩:=exq (s.getD i 0);rw [Q2] at Qj;have Qx:Jw (c.toNat:Int) 128=decide (c<128):=Zf0 (b:=128);have Ji:((c.toNat:Int)==224)=(c==224):=C0 (b:=224);have Jl:((c.toNat:Int)==237)=(c==237):=C0 (b:=237);have Js:((c.toNat:Int)==240)=(c==240):=C0 (b:=240);have Jk:((c.toNat:Int)==244)=(c==244):=C0 (b:=244);have Q7:Jw (c.toNat:Int) ((128:UInt8).toNat:Int)=decide (c<128):=Zf0;have Zz:((c.toNat:Int)==((224:UInt8).toNat:Int))=(c==224):=C0;have Qi:((c.toNat:Int)==((240:UInt8).toNat:Int))=(c==240):=C0;by_cases Zkt:c<128
 ·rw [if_pos Zkt] at Qj;subst Qj;have Ql:decide (c<128)=true:=decide_eq_true Zkt;cases hc;refine Ym 4 ?_;exact Ng
 rw [if_neg Zkt] at Qj;have Ql:decide (c<128)=false:=decide_eq_false Zkt;obtain ⟨p2,Z6⟩:=exq (Vq c 194 223);obtain ⟨q2,Qb⟩:=exq (Hb s ((i:Int)+1) 128 191);obtain ⟨p3,Qk⟩:=exq (Vq c 224 239);obtain ⟨r3,Q0⟩:=exq (Hb s ((i:Int)+2) 128 191);obtain ⟨p4,Q1⟩:=exq (Vq c 240 244);obtain ⟨t4,Jg⟩:=exq (Hb s ((i:Int)+3) 128 191);rw [Z6,Qb,Qk,Q0,Q1,Jg] at Qj;by_cases lO:c=224
 ·have Qo:(c==224)=true:=Zi.2 lO;have Qt:(c==237)=false:=Za.2 (by rw [lO];decide)
  have Qq:(c==240)=false:=Za.2 (by rw [lO];decide)
  have Qe:(c==244)=false:=Za.2 (by rw [lO];decide)
  rw [if_pos lO] at Qj;rw [if_neg (show ¬ c=237 by rw [lO];decide)] at Qj
  rw [if_neg (show ¬ c=240 by rw [lO];decide)] at Qj
  rw [if_neg (show ¬ c=244 by rw [lO];decide)] at Qj
  obtain ⟨q3,Jo⟩:=exq (Hb s ((i:Int)+1) 160 191);rw [Jo] at Qj;try rw [Qb] at Qj
  cases hc;refine Ym 4 ?_;have Ju:=@Zij.eq_def;have J1:=@Zhk;have P7:=@Zhf;have Sh:=@Zhg;have Lp:=@Zhh;have Sg:=@Zhi;have Bj:=@Zhj;have Tt:=@Zhe;have Ts:=@Zhd;have Tq:=@Zhc;have Tp:=@Zhb;have To:=@Zha;have Tn:=@uM;have Kq:KcV:=⟨⟩;exact Qa
 by_cases lN:c=237
 ·have Qo:(c==224)=false:=Za.2 (by rw [lN];decide)
  have Qt:(c==237)=true:=Zi.2 lN;have Qq:(c==240)=false:=Za.2 (by rw [lN];decide)
  have Qe:(c==244)=false:=Za.2 (by rw [lN];decide)
  rw [if_neg (show ¬ c=224 by rw [lN];decide)] at Qj
  rw [if_pos lN] at Qj;rw [if_neg (show ¬ c=240 by rw [lN];decide)] at Qj
  rw [if_neg (show ¬ c=244 by rw [lN];decide)] at Qj
  obtain ⟨q3,Jo⟩:=exq (Hb s ((i:Int)+1) 128 159);rw [Jo] at Qj;try rw [Qb] at Qj
  cases hc;refine Ym 4 ?_;have Ju:=@Zij.eq_def;have J1:=@Zhk;have P7:=@Zhf;have Sh:=@Zhg;have Lp:=@Zhh;have Sg:=@Zhi;have Bj:=@Zhj;have Tt:=@Zhe;have Ts:=@Zhd;have Tq:=@Zhc;have Tp:=@Zhb;have To:=@Zha;have Tn:=@uM;have Kq:KcW:=⟨⟩;exact Qa
 by_cases lM:c=240
 ·have Qo:(c==224)=false:=Za.2 (by rw [lM];decide)
  have Qt:(c==237)=false:=Za.2 (by rw [lM];decide)
  have Qq:(c==240)=true:=Zi.2 lM;have Qe:(c==244)=false:=Za.2 (by rw [lM];decide)
  rw [if_neg (show ¬ c=224 by rw [lM];decide)] at Qj
  rw [if_neg (show ¬ c=237 by rw [lM];decide)] at Qj
  rw [if_pos lM] at Qj;rw [if_neg (show ¬ c=244 by rw [lM];decide)] at Qj
  obtain ⟨q4,Q9⟩:=exq (Hb s ((i:Int)+1) 144 191);rw [Q9] at Qj;try rw [Qb] at Qj
  cases hc;refine Ym 4 ?_;have Ju:=@Zij.eq_def;have J1:=@Zhk;have P7:=@Zhf;have Sh:=@Zhg;have Lp:=@Zhh;have Sg:=@Zhi;have Bj:=@Zhj;have Tt:=@Zhe;have Ts:=@Zhd;have Tq:=@Zhc;have Tp:=@Zhb;have To:=@Zha;have Tn:=@uM;have Kq:KcX:=⟨⟩;exact Qa
 by_cases lL:c=244
 ·have Qo:(c==224)=false:=Za.2 (by rw [lL];decide)
  have Qt:(c==237)=false:=Za.2 (by rw [lL];decide)
  have Qq:(c==240)=false:=Za.2 (by rw [lL];decide)
  have Qe:(c==244)=true:=Zi.2 lL;rw [if_neg (show ¬ c=224 by rw [lL];decide)] at Qj
  rw [if_neg (show ¬ c=237 by rw [lL];decide)] at Qj
  rw [if_neg (show ¬ c=240 by rw [lL];decide)] at Qj
  rw [if_pos lL] at Qj;obtain ⟨q4,Q9⟩:=exq (Hb s ((i:Int)+1) 128 143);rw [Q9] at Qj;try rw [Qb] at Qj
  cases hc;refine Ym 4 ?_;have Ju:=@Zij.eq_def;have J1:=@Zhk;have P7:=@Zhf;have Sh:=@Zhg;have Lp:=@Zhh;have Sg:=@Zhi;have Bj:=@Zhj;have Tt:=@Zhe;have Ts:=@Zhd;have Tq:=@Zhc;have Tp:=@Zhb;have To:=@Zha;have Tn:=@uM;have Kq:KcY:=⟨⟩;exact Qa
 have Qo:(c==224)=false:=Za.2 lO;have Qt:(c==237)=false:=Za.2 lN;have Qq:(c==240)=false:=Za.2 lM;have Qe:(c==244)=false:=Za.2 lL;rw [if_neg lO] at Qj;rw [if_neg lN] at Qj;rw [if_neg lM] at Qj;rw [if_neg lL] at Qj;try rw [Qb] at Qj
 cases hc;refine Ym 4 ?_;have Ju:=@Zij.eq_def;have J1:=@Zhk;have P7:=@Zhf;have Sh:=@Zhg;have Lp:=@Zhh;have Sg:=@Zhi;have Bj:=@Zhj;have Tt:=@Zhe;have Ts:=@Zhd;have Tq:=@Zhc;have Tp:=@Zhb;have To:=@Zha;have Tn:=@uM;have Kq:KcZ:=⟨⟩;exact Qa
theorem Mk {n:Int}:Aj .u8 n↔0≤n∧n≤255:=by
 unfold Aj;have h1:IntKind.min .u8=0:=by decide
 have h2:IntKind.max .u8=255:=by decide
 rw [h1,h2]
theorem Zjq:∀ (u:Nat),(Lib.decDigits u).length≤u+1:=by
 intro u
 induction u using Nat.strongRecOn with
 | ind u ih =>
  rw [Lib.decDigits];split
  ·simp
  ·rw [Zb];have:=ih (u / 10) (by omega)
   simp only [Zd,List.length_nil];omega
theorem uW {q:Nat} (h:¬ q<10):Lib.decDigits q=Lib.decDigits (q / 10)++[UInt8.ofNat (48+q % 10)]:=by rw [Lib.decDigits,dif_neg h]
theorem qB {q:Nat} (h:q<10):Lib.decDigits q=[UInt8.ofNat (48+q)]:=Lib.decDigits_one h
theorem Zvx {q:Nat}:(q:Int).tmod 10=((q % 10:Nat):Int):=(Int.ofNat_tmod q 10).symm
theorem Zvy {q:Nat}:(q:Int).tdiv 10=((q / 10:Nat):Int):=(Int.ofNat_tdiv q 10).symm
def M3:Con:=Xh (fun (n:Int)=>0≤n∧n≤999999999999999999) (fun n=>Lib.decDigits n.toNat)
class Kdb:Prop
theorem Kdb.k (_:Kdb) (h:p:=by
 repeat' first|exact Cg|with_reducible apply Z9|intro _
 all_goals first|contradiction|with_reducible exact Zz5|omega|(rw [Xx];omega)|(rw [Mk];omega)|(simp only [Zb,Zd,List.length_nil];omega)|exact ⟨(m,c::s),by exact Xa,hq,by show m≤_;omega,by show m<q;omega⟩|skip):p:=h
class Kdc:Prop
theorem Kdc.k (_:Kdc) (h:p:=by
 repeat' first|exact Cg|with_reducible apply Z9|intro _
 all_goals first|contradiction|with_reducible exact Zz5|omega|(rw [Mk];omega)|exact hq|(simp only [Zb,Zd,List.length_nil];omega)|skip):p:=h
class Kda:Prop
theorem Kda.k (_:Kda) (h:p:=by
 repeat' first|exact Cg|with_reducible apply Z9|intro _
 refine Z4 [4,5,6,7,8,9,10,11,12,13,14,15] (fun q:Nat×List UInt8=>[(0,.d (.int .i64 q.1)),(3,.d (.str q.2))]) (fun q:Nat×List UInt8=>[]) (fun q:Nat×List UInt8=>Lib.decDigits q.1++q.2=R∧q.1≤999999999999999999) (fun q:Nat×List UInt8=>q.1) (N,[]) ?_ ?_ ?_
 ·exact ⟨by simp only [List.append_nil];exact Qz,hN⟩
 ·exact Xa
 rintro ⟨q,s⟩ ⟨hq,Qcq⟩;simp only at hq Qcq;have zZ:s.length≤1000000000000000000:=by rw [←hq,Zb] at Qis;omega
 rcases Ub 9 (q:Int) with ⟨h2,Q2⟩|⟨h2,Q2⟩
 ·rw [uW (by omega),List.append_assoc] at hq
  have Qx:=Zvx (q:=q);have Ql:=Zvy (q:=q);obtain ⟨d,hd⟩:=exq (q % 10);have Qih:d<10:=by omega
  rw [hd] at Qx hq;have Q3:(48:Int)+(d:Int)=((48+d:Nat):Int):=by omega
  have Ji:Zev [.int .u8 ((48+d:Nat):Int)]=[UInt8.ofNat (48+d)]:=rfl;obtain ⟨c,Jl⟩:=exq (UInt8.ofNat (48+d));rw [Jl] at Ji hq;obtain ⟨m,hm⟩:=exq (q / 10);rw [hm] at Ql hq;have Kq:Kdb:=⟨⟩;exact rT
 ·rw [qB (by omega)] at hq
  have Q3:(48:Int)+(q:Int)=((48+q:Nat):Int):=by omega
  have Ji:Zev [.int .u8 ((48+q:Nat):Int)]=[UInt8.ofNat (48+q)]:=rfl;obtain ⟨c,Jl⟩:=exq (UInt8.ofNat (48+q));rw [Jl] at Ji hq;have Kq:Kdc:=⟨⟩;exact rT):p:=h
theorem good_figures5:Jd Tryz.prog (93,M3):=by
 obtain ⟨Kx,Kt,Kc,Kd,Kb,Ku,Kw,K,_⟩:=Yc Qp Z0 [] false Yb;have Ko:=M3.eq_def;refine Ve K Tryz.func93 [.tmp 2] rfl 23 rfl (fun c Jl J0 Zo=>?_);unfold M3 at Zo;obtain ⟨n,rfl,h0,h1⟩:=Qs Zo;obtain ⟨N,rfl⟩:∃ N:Nat,n=N:=⟨n.toNat,by omega⟩
 have hN:N≤999999999999999999:=by omega
 obtain ⟨R,Qz⟩:=exq (Lib.decDigits N);have Qis:R.length≤1000000000000000000:=by rw [←Qz];have:=Zjq N;omega
 clear Zo h0 h1;cases Jl;have Kq:Kda:=⟨⟩;exact rT
def Zwh:List UInt8:=[48,49,50,51,52,53,54,55,56,57,97,98,99,100,101,102]
theorem Zwg:∀ n:Nat,n<16→(Zwh.take (n+1)).drop n=[bI n]
 | 0,_|1,_|2,_|3,_|4,_|5,_|6,_|7,_|8,_|9,_|10,_|11,_|12,_|13,_|14,_|15,_=>rfl
 | n+16,h=>absurd h (by omega)
def B8:Con:=Xh (fun (n:UInt8)=>n.toNat<16) (fun n=>[bI n.toNat])
class Kdd:Prop
theorem Kdd.k (_:Kdd) (h:p:=by
 first|contradiction|(rw [Mk];omega)|(show D.isAnyInt (.int .u8 _);trivial)|skip):p:=h
theorem good_figure1:Jd Tryz.prog (121,B8):=by
 obtain ⟨Kx,Kt,Kc,Kd,Kb,Ku,Kw,K,_⟩:=Yc Qp Z0 [] false Yb;have Ko:=B8.eq_def;refine Ve K Tryz.func121 [.tmp 2] rfl 7 rfl (fun c hc J0 Zo=>?_);unfold B8 at Zo;obtain ⟨n,rfl,h0⟩:=Qs Zo;obtain ⟨m,Qz⟩:=exq (n.toNat);rw [Qz] at h0;have Ql:=Zwg m h0;have Q3:((m:Int)+1).toNat=m+1:=by omega
 obtain ⟨H,hH⟩:=exq (Zwh);have Qx:H.length=16:=by rw [←hH];rfl
 have Q2:=hH;unfold Zwh at Q2;rw [hH] at Ql;clear Zo;cases hc;have Kq:Kdd:=⟨⟩;exact Qa
def zS (s:List UInt8) (i:Nat):List UInt8 :=
 if s.getD i 0=92∨s.getD i 0=34 then [92,s.getD i 0]
 else if s.getD i 0=10 then [92,110]
 else if s.getD i 0=9 then [92,116]
 else if P0 s i=0∨s.getD i 0<32∨s.getD i 0=127 then [92,120,bI ((s.getD i 0).toNat / 16),bI ((s.getD i 0).toNat % 16)]
 else (s.take (i+P0 s i)).drop i
def sB:Nat→List UInt8→Nat→List UInt8
 | 0,_,_=>[34]
 | k+1,s,i=>if i<s.length then zS s i++sB k s (i+max (P0 s i) 1) else [34]
def gL (s:List UInt8):List UInt8:=34::sB s.length s 0
theorem Zfi {k:Nat} {s:List UInt8} {i:Nat} (h:¬ i<s.length):sB k s i=[34]:=by
 cases k with
 | zero=>rfl
 | succ k=>rw [sB,if_neg h]
theorem rM:∀ {s:List UInt8} {i:Nat},i<s.length→(s.take (i+1)).drop i=[s.getD i 0]
 | x::s,0,h=>by simp
 | x::s,i+1,h=>by
  rw [List.take_succ_cons,List.drop_succ_cons,rM (by simpa using h)]
  simp
theorem Zf3 {s:List UInt8} {i:Nat}:P0 s i≤4:=by
 unfold P0 iK;repeat' split
 all_goals omega
theorem Zvw {c:UInt8}:(c.toNat:Int).tdiv 16=(((c.toNat / 16:Nat)):Int):=(Int.ofNat_tdiv _ 16).symm
theorem Zvv {c:UInt8}:(c.toNat:Int).tmod 16=(((c.toNat % 16:Nat)):Int):=(Int.ofNat_tmod _ 16).symm
theorem fT {n:Nat} (h:n<256):(UInt8.ofNat n).toNat=n:=by
 rw [UInt8.toNat_ofNat'];omega
theorem Zut {n:Nat} (h:n<256):(.int .u8 ((n:Nat):Int):D)=enc (UInt8.ofNat n):=by
 show _=D.int .u8 ((UInt8.ofNat n).toNat:Int);rw [fT h]
def T6:Con:=Xh (fun (s:List UInt8)=>s.length≤1000000) (fun s=>gL s)
class Kdf:Prop
theorem Kdf.k (_:Kdf) (h:p:=by
 first|contradiction|(rw [Mk];omega)|(simp only [Zb,Zd,List.length_nil];omega)|exact ⟨(j,o2,k),by exact Xa,hk,by show s.length≤j+k;omega,Zel,fX,by show s.length-j<s.length-i;omega⟩|skip):p:=h
class Kdg:Prop
theorem Kdg.k (_:Kdg) (h:p:=by
 first|contradiction|(rw [Mk];omega)|(simp only [Zb,Zd,List.length_nil];omega)|exact ⟨(j,o2,k),by exact Xa,hk,by show s.length≤j+k;omega,Zel,fX,by show s.length-j<s.length-i;omega⟩|skip):p:=h
class Kdh:Prop
theorem Kdh.k (_:Kdh) (h:p:=by
 first
  | contradiction
   | (rw [Mk];omega)
  | (simp only [Zb,Zd,List.length_nil];omega)
  | exact ⟨(j,o2,k),by exact Xa,hk,by show s.length≤j+k;omega,Zel,fX,by show s.length-j<s.length-i;omega⟩
  | skip):p:=h
class Kdi:Prop
theorem Kdi.k (_:Kdi) (h:p:=by
 first
  | contradiction
   | (rw [Mk];omega)
  | (simp only [Zb,Zd,List.length_nil];omega)
  | exact ⟨(j,o2,k),by exact Xa,hk,by show s.length≤j+k;omega,Zel,fX,by show s.length-j<s.length-i;omega⟩
  | skip):p:=h
class Kdj:Prop
theorem Kdj.k (_:Kdj) (h:p:=by
 first|contradiction|(rw [Mk];omega)|(simp only [Zb,Zd,List.length_nil];omega)|exact ⟨(j,o2,k),by exact Xa,hk,by show s.length≤j+k;omega,Zel,fX,by show s.length-j<s.length-i;omega⟩|skip):p:=h
class Kdk:Prop
theorem Kdk.k (_:Kdk) (h:p:=by
 first|contradiction|(rw [Mk];omega)|(simp only [Zb,Zd,List.length_nil];omega)|exact ⟨(j,o2,k),by exact Xa,hk,by show s.length≤j+k;omega,Zel,fX,by show s.length-j<s.length-i;omega⟩|skip):p:=h
class Kdl:Prop
theorem Kdl.k (_:Kdl) (h:p:=by
 first
  | contradiction
   | (rw [Mk];omega)
  | (simp only [Zb,Zd,List.length_nil];omega)
  | exact ⟨(j,o2,k),by exact Xa,hk,by show s.length≤j+k;omega,Zel,fX,by show s.length-j<s.length-i;omega⟩
  | skip):p:=h
class Kdm:Prop
theorem Kdm.k (_:Kdm) (h:p:=by
 first
  | contradiction
    | (rw [Mk];omega)
  | exact ⟨(j,o2,k),by exact Xa,hk,by show s.length≤j+k;omega,Zel,fX,by show s.length-j<s.length-i;omega⟩
  | skip):p:=h
class Kdn:Prop
theorem Kdn.k (_:Kdn) (h:p:=by
 first
  | contradiction
    | (rw [Mk];omega)
  | exact hk
  | skip):p:=h
class Kde:Prop
theorem Kde.k (_:Kde) (h:p:=by
 refine Z4 [5,6,7,8,9,10,11,12,13,14,15,16,17,18,19,20,21,22,23,24,25,26,27,28,29,30,31,32,33,34,35,36,37,38,39,40,41,42,43,44,45,46,47,48,49,50,51,52,53,54,55,56,57,58,59,60,61,62,63,64,65,66,67,68,69,70] (fun q:Nat×List UInt8×Nat=>[(4,.d (.int .i64 q.1)),(3,.d (.str q.2.1))]) (fun q:Nat×List UInt8×Nat=>[]) (fun q:Nat×List UInt8×Nat=>q.2.1++sB q.2.2 s q.1=R∧s.length≤q.1+q.2.2∧q.1≤s.length∧q.2.1.length≤4*q.1+1) (fun q:Nat×List UInt8×Nat=>s.length-q.1) (0,[34],s.length) ?_ ?_ ?_
 ·exact ⟨Qj,by simp,Nat.zero_le _,Zl _⟩
 ·exact Xa
 rintro ⟨i,o,k⟩ ⟨hk,hf,hi,ho⟩;simp only at hk hf hi ho;rcases Qh i s.length with ⟨h2,Q2⟩|⟨h2,Q2⟩
 ·obtain ⟨k,rfl⟩:∃ k',k=k'+1:=⟨k-1,by omega⟩
  rw [sB,if_pos h2] at hk;unfold zS at hk;have M8:=Zf5 h2;have Qh0:=Zf3 (s:=s) (i:=i);have Q3:=rM h2;obtain ⟨n,Qx⟩:=exq (P0 s i);rw [Qx] at hk M8 Qh0;obtain ⟨c,Ql⟩:=exq (s.getD i 0);rw [Ql] at hk Q3;obtain ⟨j,hj⟩:=exq (i+max n 1);rw [hj] at hk;have eA:i<j:=by omega
  have Zel:j≤s.length:=by omega
  have Ji:Mt (n:Int) 1=((max n 1:Nat):Int):=by unfold Mt;split<;>omega
  have Jl:(i:Int)+((max n 1:Nat):Int)=(j:Int):=by omega
  have Js:(i:Int)+1=((i+1:Nat):Int):=by omega
  have Jk:((c.toNat:Int)==92)=(c==92):=C0 (b:=92);have Qi:((c.toNat:Int)==34)=(c==34):=C0 (b:=34);have Qt:((c.toNat:Int)==10)=(c==10):=C0 (b:=10);have Z6:((c.toNat:Int)==9)=(c==9):=C0 (b:=9);have Sh:((c.toNat:Int)==127)=(c==127):=C0 (b:=127);have J1:Jw (c.toNat:Int) 32=decide (c<32):=Zf0 (b:=32);by_cases zE:c=92∨c=34
  ·rw [if_pos zE,←List.append_assoc] at hk;have Zz:(o++[92])++[c]=o++[92,c]:=by simp
   obtain ⟨o2,Qe⟩:=exq (o++[92,c]);rw [Qe] at hk Zz;have fX:o2.length≤4*j+1:=by rw [←Qe,Zb];simp only [Zd,List.length_nil];omega
   rcases zE with h|h
   ·have Q7:(c==92)=true:=Zi.2 h;have Kq:Kdf:=⟨⟩;exact Qa
   ·have Q7:(c==92)=false:=Za.2 (by rw [h];decide)
    have Qo:(c==34)=true:=Zi.2 h;have Kq:Kdg:=⟨⟩;exact Qa
  rw [if_neg zE] at hk;have Q7:(c==92)=false:=Za.2 (fun h=>zE (.inl h));have Qo:(c==34)=false:=Za.2 (fun h=>zE (.inr h));by_cases Bf:c=10
  ·rw [if_pos Bf,←List.append_assoc] at hk;have Qq:(c==10)=true:=Zi.2 Bf;obtain ⟨o2,Qe⟩:=exq (o++[92,110]);rw [Qe] at hk;have fX:o2.length≤4*j+1:=by rw [←Qe,Zb];simp only [Zd,List.length_nil];omega
   have Kq:Kdh:=⟨⟩;exact Qa
  rw [if_neg Bf] at hk;have Qq:(c==10)=false:=Za.2 Bf;by_cases h9:c=9
  ·rw [if_pos h9,←List.append_assoc] at hk;have Qb:(c==9)=true:=Zi.2 h9;obtain ⟨o2,Qe⟩:=exq (o++[92,116]);rw [Qe] at hk;have fX:o2.length≤4*j+1:=by rw [←Qe,Zb];simp only [Zd,List.length_nil];omega
   have Kq:Kdi:=⟨⟩;exact Qa
  rw [if_neg h9] at hk;have Qb:(c==9)=false:=Za.2 h9;by_cases Er:n=0∨c<32∨c=127
  ·rw [if_pos Er] at hk;have Q0:=Zvw (c:=c);have Q1:=Zvv (c:=c);have Qb4:=c.toNat_lt;have Jg:=Zut (n:=c.toNat / 16) (by omega)
   have Jo:=Zut (n:=c.toNat % 16) (by omega)
   have Qcq:(UInt8.ofNat (c.toNat / 16)).toNat=c.toNat / 16:=fT (by omega)
   have Qgg:(UInt8.ofNat (c.toNat % 16)).toNat=c.toNat % 16:=fT (by omega)
   obtain ⟨a,ha⟩:=exq (UInt8.ofNat (c.toNat / 16));obtain ⟨b,hb⟩:=exq (UInt8.ofNat (c.toNat % 16));rw [ha] at Jg Qcq;rw [hb] at Jo Qgg;have Qio:a.toNat<16:=by omega
   have Qik:b.toNat<16:=by omega
   obtain ⟨A,Q9⟩:=exq (bI a.toNat);obtain ⟨B,Ju⟩:=exq (bI b.toNat);rw [←Qcq,←Qgg,Q9,Ju,←List.append_assoc] at hk;have Zz:((o++[92,120])++[A])++[B]=o++[92,120,A,B]:=by simp
   obtain ⟨o2,Qe⟩:=exq (o++[92,120,A,B]);rw [Qe] at hk Zz;have fX:o2.length≤4*j+1:=by rw [←Qe,Zb];simp only [Zd,List.length_nil];omega
   rcases Nat.eq_zero_or_pos n with h0|h0
   ·have Qk:((n:Int)==0)=true:=by rw [Zi];omega
    have Kq:Kdj:=⟨⟩;exact Qa
   have Qk:((n:Int)==0)=false:=by rw [Za];omega
   by_cases Qfb:c<32
   ·have P7:decide (c<32)=true:=decide_eq_true Qfb;have Kq:Kdk:=⟨⟩;exact Qa
   have P7:decide (c<32)=false:=decide_eq_false Qfb;have Lp:(c==127)=true:=by
    rw [Zi];rcases Er with h|h|h
    ·omega
    ·exact absurd h Qfb
    ·exact h
   have Kq:Kdl:=⟨⟩;exact Qa
  rw [if_neg Er] at hk;have Qk:((n:Int)==0)=false:=by rw [Za];intro h;exact Er (.inl (by omega))
  have P7:decide (c<32)=false:=decide_eq_false (fun h=>Er (.inr (.inl h)));have Lp:(c==127)=false:=Za.2 (fun h=>Er (.inr (.inr h)));have Zx2:i+n=j:=by
   rw [←hj];have:n≠0:=fun h=>Er (.inl h);omega
  rw [Zx2,←List.append_assoc] at hk;have Sg:(i:Int)+(n:Int)=(j:Int):=by omega
  obtain ⟨P,Bj⟩:=exq ((s.take j).drop i);have Qji:P.length≤4*(j-i):=by rw [←Bj,List.length_drop,List.length_take];omega
  rw [Bj] at hk;obtain ⟨o2,Qe⟩:=exq (o++P);rw [Qe] at hk;have fX:o2.length≤4*j+1:=by rw [←Qe,Zb];omega
  have Kq:Kdm:=⟨⟩;exact Qa
 ·rw [Zfi (by omega)] at hk
  have Kq:Kdn:=⟨⟩;exact Qa):p:=h
theorem good_Quote1:Jd Tryz.prog (94,T6):=by
 obtain ⟨Kx,Kt,Kc,Kd,Kb,Ku,Kw,K,Y0,Xr,_⟩:=Yc Qp Z0 [] false (Xu good_Long1 Ft.eq_def (Xu good_figure1 B8.eq_def Yb));have Ko:=T6.eq_def;refine Ve K Tryz.func94 [.tmp 2] rfl 73 rfl (fun c Ql J0 Zo=>?_);unfold T6 at Zo;obtain ⟨s,rfl,hs⟩:=Qs Zo;obtain ⟨R,Qz⟩:=exq (gL s);have Qj:=Qz;unfold gL at Qj;clear Zo;cases Ql;refine Ym 4 ?_;have Kq:Kde:=⟨⟩;exact Qa
open Lib (decodeL encodeRune decodeN)
def dG (n b0 b1 b2 b3:Nat):Nat :=
 if b0<128 then 1
 else if (194≤b0∧b0≤223)∧(1<n∧128≤b1∧b1≤191) then 2
 else if (224≤b0∧b0≤239)∧(1<n∧(if b0=224 then 160 else 128)≤b1∧b1≤(if b0=237 then 159 else 191))∧(2<n∧128≤b2∧b2≤191) then 3
 else if (240≤b0∧b0≤244)∧(1<n∧(if b0=240 then 144 else 128)≤b1∧b1≤(if b0=244 then 143 else 191))∧(2<n∧128≤b2∧b2≤191)∧(3<n∧128≤b3∧b3≤191) then 4
 else 0
theorem Zcx {n b0 b1 b2 b3:Nat} (h:b0<128):dG n b0 b1 b2 b3=1∧decodeN n b0 b1 b2 b3=(b0,1):=by
 constructor
 ·unfold dG;rw [if_pos h]
 ·unfold decodeN;rw [if_pos h]
theorem xJ {n b0 b1 b2 b3:Nat} (h:¬ b0<128) (h0:b0<256) (h1:b1<256) (h2:b2<256) (h3:b3<256) :
  (dG n b0 b1 b2 b3=0∧decodeN n b0 b1 b2 b3=(65533,1))∨(2≤dG n b0 b1 b2 b3∧(decodeN n b0 b1 b2 b3).2=dG n b0 b1 b2 b3∧128≤(decodeN n b0 b1 b2 b3).1):=by
 unfold dG decodeN;rw [if_neg h,if_neg h];repeat' split
 all_goals first|omega|(left;exact ⟨rfl,rfl⟩)|(right;refine ⟨by omega,rfl,?_⟩;show 128≤_;omega)|(exfalso;simp_all;omega)
theorem rG {c a b:UInt8}:Vq c a b=decide (a.toNat≤c.toNat∧c.toNat≤b.toNat):=by
 unfold Vq;rw [Bool.eq_iff_iff];simp [UInt8.le_iff_toNat_le]
theorem qC {s:List UInt8} {i k:Nat} {a b:UInt8} (hk:0<k) (hi:i≤s.length):Hb s ((i:Int)+(k:Int)) a b=decide (k<(s.drop i).length∧a.toNat≤((s.drop i).getD k 0).toNat∧((s.drop i).getD k 0).toNat≤b.toNat):=by
 unfold Hb;rw [show ((i:Int)+(k:Int)).toNat=i+k by omega,rG,Lib.getD_dropU,List.length_drop,Bool.eq_iff_iff,Zg,Je]
 simp only [decide_eq_true_eq];omega
theorem Zwe {c d a b:UInt8}:(if c=d then a else b).toNat=if c.toNat=d.toNat then a.toNat else b.toNat:=by
 by_cases h:c=d
 ·rw [if_pos h,if_pos (by rw [h])]
 ·rw [if_neg h,if_neg (fun e=>h (UInt8.toNat_inj.1 e))]
theorem Zi7 {s:List UInt8} {i:Nat} (hi:i<s.length):P0 s i=dG (s.drop i).length ((s.drop i).getD 0 0).toNat ((s.drop i).getD 1 0).toNat ((s.drop i).getD 2 0).toNat ((s.drop i).getD 3 0).toNat:=by
 have h0:s.getD i 0=(s.drop i).getD 0 0:=by rw [Lib.getD_dropU,Nat.add_zero]
 have k1:=fun a b=>qC (s:=s) (i:=i) (k:=1) (a:=a) (b:=b) (by omega) (by omega)
 have k2:=fun a b=>qC (s:=s) (i:=i) (k:=2) (a:=a) (b:=b) (by omega) (by omega)
 have k3:=fun a b=>qC (s:=s) (i:=i) (k:=3) (a:=a) (b:=b) (by omega) (by omega)
 simp only [Int.natCast_one,Int.cast_ofNat_Int] at k1 k2 k3;unfold P0 iK dG;rw [h0];have k1':=fun a b=>k1 a b;simp only [k1,k2,k3,rG,Zwe,←Bool.decide_and,decide_eq_true_eq,Zg,UInt8.lt_iff_toNat_lt];rfl
theorem Zfv:UInt8.toNat 92=92:=rfl
theorem Zfw:UInt8.toNat 34=34:=rfl
theorem Zfy:UInt8.toNat 10=10:=rfl
theorem Zwc:UInt8.toNat 9=9:=rfl
theorem Zfx:UInt8.toNat 32=32:=rfl
theorem xZ:UInt8.toNat 127=127:=rfl
theorem Ziy {s:List UInt8} {i:Nat} (hi:i<s.length):zS s i=Mp (decodeL (s.drop i)).1 (decodeL (s.drop i)).2 ((s.drop i).getD 0 0)∧max (P0 s i) 1=(decodeL (s.drop i)).2:=by
 have h0:s.getD i 0=(s.drop i).getD 0 0:=by rw [Lib.getD_dropU,Nat.add_zero]
 have Hk:s.drop i≠[]:=by
  intro e;have:=congrArg List.length e;rw [List.length_drop] at this;simp only [List.length_nil] at this;omega
 have hL:=Zi7 hi;have hD:=Lib.decodeL_N (s.drop i);have Zkq:=Lib.encode_decode (s.drop i) Hk;unfold zS;rw [h0];obtain ⟨l,hl⟩:=exq (s.drop i);have Zyl:∀ n,(s.take (i+n)).drop i=l.take n:=fun n=>by rw [←hl,List.drop_take,Nat.add_sub_cancel_left]
 rw [hl] at hL hD Zkq ⊢;obtain ⟨c,hc⟩:=exq (l.getD 0 0);rw [hc] at hL hD ⊢;have Qb4:=c.toNat_lt;have e1:∀ d:UInt8,(c=d)↔c.toNat=d.toNat:=fun d=>UInt8.toNat_inj.symm;by_cases Qbs:c.toNat<128
 ·obtain ⟨q1,q2⟩:=Zcx (n:=l.length) (b1:=(l.getD 1 0).toNat) (b2:=(l.getD 2 0).toNat) (b3:=(l.getD 3 0).toNat) Qbs;rw [q1] at hL;rw [q2] at hD;rw [hD] at Zkq ⊢;rw [hL];refine ⟨?_,rfl⟩;have Zbu:=Zkq (by simp;omega)
  simp only at Zbu;unfold Mp;simp only [e1,UInt8.lt_iff_toNat_lt,Zyl,Zbu,Zfv,Zfw,Zfy,Zwc,Zfx,xZ];by_cases zE:c.toNat=92
  ·rw [if_pos (.inl zE),if_pos zE];have:c=92:=UInt8.toNat_inj.1 zE;rw [this]
  by_cases Zvp:c.toNat=34
  ·rw [if_pos (.inr Zvp),if_neg zE,if_pos Zvp];have:c=34:=UInt8.toNat_inj.1 Zvp;rw [this]
  rw [if_neg (by show ¬ (c.toNat=92∨c.toNat=34);omega),if_neg zE,if_neg Zvp]
  by_cases Bf:c.toNat=10
  ·rw [if_pos Bf,if_pos Bf]
  rw [if_neg Bf,if_neg Bf];by_cases h9:c.toNat=9
  ·rw [if_pos h9,if_pos h9]
  rw [if_neg h9,if_neg h9];by_cases Er:c.toNat<32∨c.toNat=127
  ·rw [if_pos (.inr Er),if_pos (.inr Er)]
  ·rw [if_neg (by show ¬ (1=0∨c.toNat<32∨c.toNat=127);omega),if_neg (by omega)]
 ·have rK:=(l.getD 1 0).toNat_lt;have Sy:=(l.getD 2 0).toNat_lt;have Qe1:=(l.getD 3 0).toNat_lt;have Qgo:∀ d:UInt8,d.toNat<128→¬ c.toNat=d.toNat:=fun d hd=>by omega
  rcases xJ (n:=l.length) Qbs Qb4 rK Sy Qe1 with ⟨q1,q2⟩|⟨q1,q2,q3⟩
  ·rw [q1] at hL;rw [q2] at hD;rw [hD,hL];refine ⟨?_,rfl⟩;unfold Mp;simp only [e1,UInt8.lt_iff_toNat_lt,Zfv,Zfw,Zfy,Zwc,Zfx,xZ];rw [if_neg (by show ¬ (c.toNat=92∨c.toNat=34);omega),if_neg (by show ¬ c.toNat=10;omega),if_neg (by show ¬ c.toNat=9;omega),if_pos (by simp)]
   simp
  ·rw [←hL] at q1 q2;rw [←hD] at q2 q3;refine ⟨?_,by omega⟩
   have hv:¬ ((decodeL l).1=65533∧(decodeL l).2=1):=by omega
   have Zbu:=Zkq hv;unfold Mp;simp only [e1,UInt8.lt_iff_toNat_lt,Zfv,Zfw,Zfy,Zwc,Zfx,xZ];rw [if_neg (by show ¬ (c.toNat=92∨c.toNat=34);omega),if_neg (by show ¬ c.toNat=10;omega),if_neg (by show ¬ c.toNat=9;omega),if_neg (by show ¬ (P0 s i=0∨c.toNat<32∨c.toNat=127);omega)]
   rw [if_neg (by omega),if_neg (by omega),if_neg (by omega),if_neg (by omega),if_neg (by omega),Zbu,Zyl,q2]
theorem Zfg:∀ (k:Nat) (s:List UInt8) (i:Nat),sB k s i=Ii k (s.drop i)
 | 0,s,i=>rfl
 | k+1,s,i=>by
  rw [sB,Ii];by_cases h:i<s.length
  ·have Hk:s.drop i≠[]:=by
    intro e;have:=congrArg List.length e;rw [List.length_drop] at this;simp only [List.length_nil] at this;omega
   obtain ⟨h1,h2⟩:=Ziy h;rw [if_pos h,if_neg Hk,h1,h2,Zfg k s,List.drop_drop]
  ·rw [if_neg h,if_pos (List.drop_of_length_le (by omega))]
theorem Zff (s:List UInt8):gL s=Nn s:=by
 unfold gL Nn;rw [Zfg];rfl
open Go.Proofs Go.Rose Go.Rose.Rose
def Bm (k:Int):List UInt8:=if k=0 then [63] else if k=1 then [105,110,116] else if k=2 then [98,111,111,108] else if k=3 then [115,116,114,105,110,103] else [117,110,105,116]
def L4 (sep:List UInt8):Bool→List (List UInt8)→List (List UInt8)→List UInt8
 | b,r::rs,p::ps=>(if b then [] else sep)++(r++[58,32]++p)++L4 sep false rs ps
 | _,_,_=>[]
def El (k:Int) (a b:List UInt8):List UInt8:=(if k=5 then [40]++a++[41] else a)++[32,45,62,32]++b
def dB (n:Node) (rs:List Node) (ps:List (List UInt8)):List UInt8 :=
 if n.kind=5 then El (rs.getD 0 n0).kind (ps.getD 0 []) (ps.getD 1 [])
 else if n.kind=6 then [123]++L4 [44,32] true (rs.map (·.name)) ps++[125]
 else if n.kind=7 then [91]++L4 [32,124,32] true (rs.map (·.name)) ps++[93]
 else Bm n.kind
mutual
def prN:Rose Node→List UInt8
 | mk n ks=>dB n (ks.map root) (prNs ks)
def prNs:List (Rose Node)→List (List UInt8)
 | []=>[]
 | x::xs=>prN x::prNs xs
end
def vH (n:Node):Prop:=0≤n.kind∧n.kind≤7∧Va n=true
theorem pA {n:Node} (h:vH n) (hk:n.kind=6∨n.kind=7):0≤n.n∧n.n≤50:=by
 have h1:=Pw h.2.2;unfold Yf at h1;rw [if_neg (by omega),if_pos hk] at h1
 exact h1
theorem Zhn {n:Node} (h:n.kind=6∨n.kind=7):ar n=n.n.toNat:=by
 unfold ar;rw [if_neg (by omega),if_pos h]
theorem vZ {n:Node} (h:n.kind=5):ar n=2:=by
 unfold ar;rw [if_pos h]
theorem Zbg {n:Node} (h:n.kind≤4):ar n=0:=by
 unfold ar;rw [if_neg (by omega),if_neg (by omega)]
theorem Zwp {T:Nat} {l:List UInt8}:Xo T l []=[.box true [.bad T,.sl 90001 l.length],.brow 5 l]:=rfl
theorem J5 {x:BX} {s:List UInt8}:Z7.res (x,s)=.tup [.int .i64 s.length,.any]:=rfl
theorem zL {T:Nat} {l:List UInt8} {rest:List D}:X3.res ⟨T,l,rest⟩=.str l:=rfl
structure KS where
 l:List (List UInt8)
instance encKS:Enc KS:=⟨fun a=>.agg (a.l.map enc),fun x=>match x with
 | .agg l=>⟨l.map dec⟩
 | _=>⟨[]⟩,fun a=>by
  have h1:∀ l:List (List UInt8),(l.map (enc:List UInt8→D)).map dec=l:=fun l=>Vd;cases a;simp [h1]⟩
def vU:KS:=⟨[[63],[105,110,116],[98,111,111,108],[115,116,114,105,110,103],[117,110,105,116]]⟩
theorem fO:(enc vU:D)=.agg [.str [63],.str [105,110,116],.str [98,111,111,108],.str [115,116,114,105,110,103],.str [117,110,105,116]]:=rfl
def Tw:Con:=Lu vU
theorem tI:Jd Tryz.prog (117,Tw):=by
 obtain ⟨Kx,Kt,Kc,Kd,Kb,Ku,Kw,K,_⟩:=Yc Qp Z0 [] false Yb;have Ko:=Tw.eq_def;refine Ve K Tryz.func117 [.cell 0 116] rfl 2 rfl (fun c hc J0 Zo=>?_);unfold Tw at Zo;obtain rfl:=jM Zo;have Q2:=fO;obtain ⟨k,Qz⟩:=exq (vU);rw [Qz] at Q2;cases hc;exact Ng
theorem J3:aZ 2 [90000,90001]:=by
 intro j hj
 match j,hj with
 | 0,_=>rfl
 | 1,_=>rfl
theorem Qag {x:D} {l:List D}:el (x::l) 0=x:=rfl
structure NX where
 t:List Node
 i:Nat
 l:List UInt8
def V6 (l:List UInt8):List Obj:=Xo 96 l []
theorem Qv (l:List UInt8):V6 l=[.box true [.bad 96,.sl 90001 l.length],.brow 5 l]:=rfl
theorem Xw {l s V:List UInt8} (h:l++s=V):Z7.post (⟨96,l,[]⟩,s)=V6 V:=by rw [←h];rfl
def Qbb (x:NX) (n:Nat) (ks:List (Rose Node)):Prop:=x.t.length≤1000000∧Ss ar x.t x.i ks∧∀ y∈ks,(nds y).length<n∧∀ p∈nds y,vH p
def Xf (n:Nat):BCon where
 X:=NX×Rose Node
 ok x:=Qbb x.1 n [x.2]∧(x.1.l++prN x.2).length≤10000000000
 args x:=[.ref 90000 0,.d (.list 3 (x.1.t.map enc)),.d (.int .i64 x.1.i)]
 objs x:=V6 x.1.l
 res x:=.int .i64 ((x.1.i+(nds x.2).length:Nat):Int)
 post x:=V6 (x.1.l++prN x.2)
theorem fQ:∀ x,¬ (Xf 0).ok x:=by
 rintro x ⟨⟨_,_,h⟩,_⟩;have:=(h x.2 (by simp)).1
 omega
def Vi (n:Nat):BCon where
 X:=NX×Rose Node×Rose Node
 ok x:=Qbb x.1 n [x.2.1,x.2.2]∧(x.1.l++El x.2.1.root.kind (prN x.2.1) (prN x.2.2)).length≤10000000000
 args x:=[.ref 90000 0,.d (.list 3 (x.1.t.map enc)),.d (.int .i64 x.1.i)]
 objs x:=V6 x.1.l
 res x:=.int .i64 ((x.1.i+(nds x.2.1).length+(nds x.2.2).length:Nat):Int)
 post x:=V6 (x.1.l++El x.2.1.root.kind (prN x.2.1) (prN x.2.2))
structure RX where
 o:List UInt8
 b:List UInt8
 e:List UInt8
def gF (r:RX) (ks:List (Rose Node)):List UInt8:=r.o++L4 r.b true ((ks.map root).map (·.name)) (prNs ks)++r.e
def Vl (n:Nat):BCon where
 X:=NX×RX×Node×List (Rose Node)
 ok x:=x.1.t.length≤1000000∧At ar x.1.t x.1.i (mk x.2.2.1 x.2.2.2)∧(x.2.2.1.kind=6∨x.2.2.1.kind=7)∧vH x.2.2.1∧(∀ y∈x.2.2.2,(nds y).length<n∧∀ p∈nds y,vH p)∧(x.1.l++gF x.2.1 x.2.2.2).length≤10000000000
 args x:=[.ref 90000 0,.d (.list 3 (x.1.t.map enc)),.d (.int .i64 x.1.i),.d (.str x.2.1.o),.d (.str x.2.1.b),.d (.str x.2.1.e)]
 objs x:=V6 x.1.l
 res x:=.int .i64 ((x.1.i+1+(ndss x.2.2.2).length:Nat):Int)
 post x:=V6 (x.1.l++gF x.2.1 x.2.2.2)
theorem G3 {n:Nat} {a:NX} {y:Rose Node} {V:List UInt8} (hV:a.l++prN y=V):(Xf n).post (a,y)=V6 V:=by rw [←hV];rfl
theorem Pe {n:Nat} {a:NX} {y:Rose Node} {j:Nat} (hj:a.i+(nds y).length=j):(Xf n).res (a,y)=.int .i64 (j:Int):=by rw [←hj];rfl
theorem Px {n:Nat} {t:List Node} {i:Nat} {l V:List UInt8} {y:Rose Node} (ht:t.length≤1000000) (hy:At ar t i y) (ha:(nds y).length<n∧∀ p∈nds y,vH p) (hV:l++prN y=V) (hl:V.length≤10000000000):(Xf n).ok (⟨t,i,l⟩,y):=by
 refine ⟨⟨ht,⟨⟨hy.1,trivial⟩,?_⟩,fun z hz=>?_⟩,?_⟩
 ·obtain ⟨r,hr⟩:=hy.2;exact ⟨r,by rw [show (⟨t,i,l⟩:NX).t=t from rfl,show (⟨t,i,l⟩:NX).i=i from rfl,hr];simp [ndss]⟩
 ·rw [Qy] at hz;subst hz;exact ha
 ·show (l++prN y).length≤_;rw [hV];exact hl
theorem Wu {l:List UInt8} {s:List UInt8} {V:List UInt8} (hV:l++s=V) (hl:V.length≤10000000000):Z7.ok (⟨96,l,[]⟩,s):=by
 rw [←hV,Zb] at hl;exact ⟨.inr (.inl ⟨rfl,rfl⟩),by show l.length+s.length≤_;omega⟩
theorem Zxc {a b:List UInt8} {l:List UInt8}:l++El 5 a b=((((l++[40])++a)++[41])++[32,45,62,32])++b:=by simp [El]
theorem Zxb {k:Int} (h:k≠5) {a b:List UInt8} {l:List UInt8}:l++El k a b=((l++a)++[32,45,62,32])++b:=by unfold El;rw [if_neg h];simp
theorem Yi {a b V:List UInt8} (h:a++b=V) (hl:V.length≤10000000000):a.length≤10000000000:=by
 rw [←h,Zb] at hl;omega
class Kdt:Prop
theorem Kdt.k (_:Kdt) (h:p:=by
 refine ⟨[90000,90001],by simp,rfl,J3,?_⟩
 simp [Ze,lk,Q4,rnA,rnAs,rk]):p:=h
class Kds:Prop
theorem Kds.k (_:Kds) (h:p:=by
 refine Zm (bc:=Xf n) (⟨t,j,V4⟩,b) [90000,90001] (Px ht hb H7 hV Z8) rfl (by simp) (by rw [Js];rfl) ?_ ?_ ?_
 ·show Ze _ _ (V6 V4) _;rw [Qv];simp [Ze,lk,Q4,rnA,rnAs,rk]
 ·show Zj (List.drop (V6 V4).length _) _;rw [Qv];simp [Zj]
 have Y0:=Kt;have Xr:=Kt;have Q7:=@Qv;have Kq:Kdt:=⟨⟩;exact Qa):p:=h
class Kdr:Prop
theorem Kdr.k (_:Kdr) (h:p:=by
 refine Zm (bc:=Z7) (⟨96,V3,[]⟩,[32,45,62,32]) [90000,90001] (Wu h4 l4) rfl (by simp) (by rw [Jl];rfl) ?_ ?_ ?_
 ·show Ze _ _ (V6 V3) _;rw [Qv];simp [Ze,lk,Q4,rnA,rnAs,rk]
 ·show Zj (List.drop (V6 V3).length _) _;rw [Qv];simp [Zj]
 have Y0:=Kt;have Xr:=Kt;have Q7:=@Qv;have Zz:=@J5;have Kq:Kds:=⟨⟩;exact Qa):p:=h
class Kdq:Prop
theorem Kdq.k (_:Kdq) (h:p:=by
 refine Zm (bc:=Z7) (⟨96,V2,[]⟩,[41]) [90000,90001] (Wu h3 l3) rfl (by simp) (by rw [Ji];rfl) ?_ ?_ ?_
 ·show Ze _ _ (V6 V2) _;rw [Qv];simp [Ze,lk,Q4,rnA,rnAs,rk]
 ·show Zj (List.drop (V6 V2).length _) _;rw [Qv];simp [Zj]
 have Y0:=Kt;have Xr:=Kt;have Q7:=@Qv;have Zz:=@J5;have Kq:Kdr:=⟨⟩;exact Qa):p:=h
class Kdp:Prop
theorem Kdp.k (_:Kdp) (h:p:=by
 refine Zm (bc:=Xf n) (⟨t,i,V1⟩,a) [90000,90001] (Px ht ha Nh h2 l2) rfl (by simp) (by rw [Ql];rfl) ?_ ?_ ?_
 ·show Ze _ _ (V6 V1) _;rw [Qv];simp [Ze,lk,Q4,rnA,rnAs,rk]
 ·show Zj (List.drop (V6 V1).length _) _;rw [Qv];simp [Zj]
 have Y0:=Kt;have Xr:=Kt;have Q7:=@Qv;have Kq:Kdq:=⟨⟩;exact Qa):p:=h
class Kdo:Prop
theorem Kdo.k (_:Kdo) (h:p:=by
 refine Zm (bc:=Z7) (⟨96,l,[]⟩,[40]) [90000,90001] (Wu h1 l1) rfl (by simp) (by rw [Qx];rfl) ?_ ?_ ?_
 ·show Ze _ _ (V6 l) _;rw [Qv];simp [Ze,lk,Q4,rnA,rnAs,rk]
 ·show Zj (List.drop (V6 l).length _) _;rw [Qv];simp [Zj]
 have Y0:=Kt;have Xr:=Kt;have Q7:=@Qv;have Zz:=@J5;have Kq:Kdp:=⟨⟩;exact Qa):p:=h
class Kdx:Prop
theorem Kdx.k (_:Kdx) (h:p:=by
 refine ⟨[90000,90001],by simp,rfl,J3,?_⟩
 simp [Ze,lk,Q4,rnA,rnAs,rk]):p:=h
class Kdw:Prop
theorem Kdw.k (_:Kdw) (h:p:=by
 refine Zm (bc:=Xf n) (⟨t,j,V4⟩,b) [90000,90001] (Px ht hb H7 hV Z8) rfl (by simp) (by rw [Js];rfl) ?_ ?_ ?_
 ·show Ze _ _ (V6 V4) _;rw [Qv];simp [Ze,lk,Q4,rnA,rnAs,rk]
 ·show Zj (List.drop (V6 V4).length _) _;rw [Qv];simp [Zj]
 have Y0:=Kt;have Xr:=Kt;have Q7:=@Qv;have Kq:Kdx:=⟨⟩;exact Qa):p:=h
class Kdv:Prop
theorem Kdv.k (_:Kdv) (h:p:=by
 refine Zm (bc:=Z7) (⟨96,V2,[]⟩,[32,45,62,32]) [90000,90001] (Wu h4 l4) rfl (by simp) (by rw [Jl];rfl) ?_ ?_ ?_
 ·show Ze _ _ (V6 V2) _;rw [Qv];simp [Ze,lk,Q4,rnA,rnAs,rk]
 ·show Zj (List.drop (V6 V2).length _) _;rw [Qv];simp [Zj]
 have Y0:=Kt;have Xr:=Kt;have Q7:=@Qv;have Zz:=@J5;have Kq:Kdw:=⟨⟩;exact Qa):p:=h
class Kdu:Prop
theorem Kdu.k (_:Kdu) (h:p:=by
 refine Zm (bc:=Xf n) (⟨t,i,l⟩,a) [90000,90001] (Px ht ha Nh h2 l2) rfl (by simp) (by rw [Ql];rfl) ?_ ?_ ?_
 ·show Ze _ _ (V6 l) _;rw [Qv];simp [Ze,lk,Q4,rnA,rnAs,rk]
 ·show Zj (List.drop (V6 l).length _) _;rw [Qv];simp [Zj]
 have Y0:=Kt;have Xr:=Kt;have Q7:=@Qv;have Kq:Kdv:=⟨⟩;exact Qa):p:=h
theorem stepbm_PArrowT (n:Nat) (ih:X9 Tryz.prog (91,Xf n)):X9 Tryz.prog (114,(Vi n)):=by
 obtain ⟨Kx,Kt,Kc,Kd,Kb,Ku,Kw,K,Y0,Xr,_⟩:=Yc Qp Z0 [] false (A6 ih (Xf.eq_def n) (A6 Vw lP Yb));refine bR K Tryz.func114 [.tmp 6] rfl 37 rfl (fun c hc x X5=>?_);obtain ⟨⟨t,i,l⟩,a,b⟩:=x;obtain ⟨⟨ht,Qgz,J8⟩,Z8⟩:=X5;simp only at ht Qgz J8 Z8;obtain ⟨ha,hb⟩:=Qgz.head;obtain ⟨hb,-⟩:=hb.head;have Nh:=J8 a (by simp)
 have H7:=J8 b (by simp)
 have Zkr:=ha.lt;have Zyr:=ha.le;have Zif:=hb.le;have Qz:=Qc n0 Zkr;rw [ha.root n0] at Qz;obtain ⟨V,hV⟩:=exq (l++El a.root.kind (prN a) (prN b));rw [hV] at Z8;have Jc:(Vi n).post (⟨t,i,l⟩,a,b)=V6 V:=by rw [←hV];rfl
 refine ⟨?_,?_,?_,?_,?_⟩
 ·show Xg [.ref 90000 0,.d (.list 3 (t.map enc)),.d (.int .i64 i)] (V6 l);rw [Qv];simp [Xg,Jp,Obj.tied,Zr,keptAll,AV.kept,Zq,Jv,lk]
 ·show Zr (V6 l);rw [Qv];simp [Zr]
 ·rw [Jc];rw [Qv];simp [Xg,Jp,Obj.tied,Zr,keptAll,AV.kept,Zq,Jv,lk]
 ·rw [Jc];show (V6 l).length≤(V6 V).length;rw [Qv,Qv];simp
 show U6 Kx c (V5 _ _ (V6 l).length (.int .i64 ((i+(nds a).length+(nds b).length:Nat):Int)) ((Vi n).post (⟨t,i,l⟩,a,b))) ⟨[.ref 90000 0,.d (.list 3 (t.map enc)),.d (.int .i64 i)]++Vf 34,Zq (V6 l)⟩;rw [Jc,Qv,Qv];obtain ⟨j,hj⟩:=exq (i+(nds a).length);obtain ⟨j2,lH⟩:=exq (j+(nds b).length);rw [hj] at hb Zif Zyr ⊢;rw [lH] at Zif ⊢;by_cases h5:a.root.kind=5
 ·have Q2:(a.root.kind != 5)=false:=by rw [bne_eq_false_iff_eq];exact h5
  rw [h5,Zxc] at hV;obtain ⟨V1,h1⟩:=exq (l++[40]);rw [h1] at hV;obtain ⟨V2,h2⟩:=exq (V1++prN a);rw [h2] at hV;obtain ⟨V3,h3⟩:=exq (V2++[41]);rw [h3] at hV;obtain ⟨V4,h4⟩:=exq (V3++[32,45,62,32]);rw [h4] at hV;have l4:=Yi hV Z8;have l3:=Yi h4 l4;have l2:=Yi h3 l3;have l1:=Yi h2 l2;have Qx:=Xw h1;have Ql:=G3 (n:=n) (a:=⟨t,i,V1⟩) h2;have Q3:=Pe (n:=n) (a:=⟨t,i,V1⟩) hj;have Ji:=Xw h3;have Jl:=Xw h4;have Js:=G3 (n:=n) (a:=⟨t,j,V4⟩) hV;have Jk:=Pe (n:=n) (a:=⟨t,j,V4⟩) lH;cases hc;refine Ym 2 ?_;have Y0:=Kt;have Xr:=Kt;have Kq:Kdo:=⟨⟩;exact Qa
 ·have Q2:(a.root.kind != 5)=true:=by rw [bne_iff_ne];exact h5
  rw [Zxb h5] at hV;obtain ⟨V2,h2⟩:=exq (l++prN a);rw [h2] at hV;obtain ⟨V4,h4⟩:=exq (V2++[32,45,62,32]);rw [h4] at hV;have l4:=Yi hV Z8;have l2:=Yi h4 l4;have Ql:=G3 (n:=n) (a:=⟨t,i,l⟩) h2;have Q3:=Pe (n:=n) (a:=⟨t,i,l⟩) hj;have Jl:=Xw h4;have Js:=G3 (n:=n) (a:=⟨t,j,V4⟩) hV;have Jk:=Pe (n:=n) (a:=⟨t,j,V4⟩) lH;cases hc;refine Ym 2 ?_;have Y0:=Kt;have Xr:=Kt;have Kq:Kdu:=⟨⟩;exact Qa
theorem wC {b nm p e cur:List UInt8} {rs ps:List (List UInt8)}:cur++(L4 b true (nm::rs) (p::ps)++e)=((cur++(nm++[58,32]))++p)++(L4 b false rs ps++e):=by simp [L4]
theorem wD {b nm p e cur:List UInt8} {rs ps:List (List UInt8)}:cur++(L4 b false (nm::rs) (p::ps)++e)=(((cur++b)++(nm++[58,32]))++p)++(L4 b false rs ps++e):=by simp [L4]
theorem gG {b e cur:List UInt8} {f:Bool}:cur++(L4 b f [] []++e)=cur++e:=by simp [L4]
theorem xD {n:Node} (h:vH n):(n.kind != 9)=true:=by
 rw [bne_iff_ne];have:=h.2.1;omega
class KdB:Prop
theorem KdB.k (_:KdB) (h:p:=by
 repeat' first|exact Cg|with_reducible apply Z9|intro _
 all_goals first|contradiction|with_reducible exact Zz5|omega|skip
 refine ⟨[90000,90001],by simp,rfl,J3,?_⟩
 simp [Ze,lk,Q4,rnA,rnAs,rk]):p:=h
class KdA:Prop
theorem KdA.k (_:KdA) (h:p:=by
 repeat' first|exact Cg|with_reducible apply Z9|intro _
 refine Zm (bc:=Z7) (⟨96,cur,[]⟩,re) [90000,90001] (Wu Ph Z8) rfl (by simp) (by rw [Q3];rfl) ?_ ?_ ?_
 ·show Ze _ _ (V6 cur) _;rw [Qv];simp [Ze,lk,Q4,rnA,rnAs,rk]
 ·show Zj (List.drop (V6 cur).length _) _;rw [Qv];simp [Zj]
 have Y0:=Kt;have Xr:=Kt;have Qt:=@Qv;have Qq:=@J5;have Kq:KdB:=⟨⟩;exact rT):p:=h
class KdE:Prop
theorem KdE.k (_:KdE) (h:p:=by
 repeat' first|exact Cg|with_reducible apply Z9|intro _
 all_goals first|contradiction|with_reducible exact Zz5|omega|skip
 exact ⟨(k+1,j,V2,zs),by exact Xa,by simp at hk;simp only;omega,En,fun y hy=>fN y (List.mem_cons_of_mem _ hy),lH,by simp only;rw [hf];exact Ph,by simp only;omega⟩):p:=h
class KdD:Prop
theorem KdD.k (_:KdD) (h:p:=by
 repeat' first|exact Cg|with_reducible apply Z9|intro _
 all_goals first|contradiction|with_reducible exact Zz5|omega|skip
 refine Zm (bc:=Xf n) (⟨t,at_,V1⟩,z) [90000,90001] (Px ht hz Zek h2 l2) rfl (by simp) (by rw [Zz];rfl) ?_ ?_ ?_
 ·show Ze _ _ (V6 V1) _;rw [Qv];simp [Ze,lk,Q4,rnA,rnAs,rk]
 ·show Zj (List.drop (V6 V1).length _) _;rw [Qv];simp [Zj]
 have Y0:=Kt;have Xr:=Kt;have Qt:=@Qv;have Kq:KdE:=⟨⟩;exact rT):p:=h
class KdC:Prop
theorem KdC.k (_:KdC) (h:p:=by
 repeat' first|exact Cg|with_reducible apply Z9|intro _
 all_goals first|contradiction|with_reducible exact Zz5|omega|(rw [Jk];omega)|skip
 refine J7 (bc:=Z7) (⟨96,cur,[]⟩,L) [90000,90001] (Wu h1 l1) rfl (by simp) (by rw [Q7];rfl) ?_ ?_ ?_
 ·show Ze _ _ (V6 cur) _;rw [Qv];simp [Ze,lk,Q4,rnA,rnAs,rk]
 ·show Zj (List.drop (V6 cur).length _) _;rw [Qv];simp [Zj]
 have Y0:=Kt;have Xr:=Kt;have Qt:=@Qv;have Qq:=@J5;have Kq:KdD:=⟨⟩;exact rT):p:=h
class KdI:Prop
theorem KdI.k (_:KdI) (h:p:=by
 repeat' first|exact Cg|with_reducible apply Z9|intro _
 all_goals first|contradiction|with_reducible exact Zz5|omega|skip
 exact ⟨(k+1,j,V2,zs),by exact Xa,by simp at hk;simp only;omega,En,fun y hy=>fN y (List.mem_cons_of_mem _ hy),lH,by simp only;rw [hf];exact Ph,by simp only;omega⟩):p:=h
class KdH:Prop
theorem KdH.k (_:KdH) (h:p:=by
 repeat' first|exact Cg|with_reducible apply Z9|intro _
 all_goals first|contradiction|with_reducible exact Zz5|omega|skip
 refine Zm (bc:=Xf n) (⟨t,at_,V1⟩,z) [90000,90001] (Px ht hz Zek h2 l2) rfl (by simp) (by rw [Zz];rfl) ?_ ?_ ?_
 ·show Ze _ _ (V6 V1) _;rw [Qv];simp [Ze,lk,Q4,rnA,rnAs,rk]
 ·show Zj (List.drop (V6 V1).length _) _;rw [Qv];simp [Zj]
 have Y0:=Kt;have Xr:=Kt;have Qt:=@Qv;have Kq:KdI:=⟨⟩;exact rT):p:=h
class KdG:Prop
theorem KdG.k (_:KdG) (h:p:=by
 repeat' first|exact Cg|with_reducible apply Z9|intro _
 all_goals first|contradiction|with_reducible exact Zz5|omega|(rw [Jk];omega)|skip
 refine J7 (bc:=Z7) (⟨96,Vb,[]⟩,L) [90000,90001] (Wu h1 l1) rfl (by simp) (by rw [Q7];rfl) ?_ ?_ ?_
 ·show Ze _ _ (V6 Vb) _;rw [Qv];simp [Ze,lk,Q4,rnA,rnAs,rk]
 ·show Zj (List.drop (V6 Vb).length _) _;rw [Qv];simp [Zj]
 have Y0:=Kt;have Xr:=Kt;have Qt:=@Qv;have Qq:=@J5;have Kq:KdH:=⟨⟩;exact rT):p:=h
class KdF:Prop
theorem KdF.k (_:KdF) (h:p:=by
 repeat' first|exact Cg|with_reducible apply Z9|intro _
 refine Zm (bc:=Z7) (⟨96,cur,[]⟩,rb) [90000,90001] (Wu hb lb) rfl (by simp) (by rw [Qo];rfl) ?_ ?_ ?_
 ·show Ze _ _ (V6 cur) _;rw [Qv];simp [Ze,lk,Q4,rnA,rnAs,rk]
 ·show Zj (List.drop (V6 cur).length _) _;rw [Qv];simp [Zj]
 have Y0:=Kt;have Xr:=Kt;have Qt:=@Qv;have Qq:=@J5;have Kq:KdG:=⟨⟩;exact rT):p:=h
class Kdz:Prop
theorem Kdz.k (_:Kdz) (h:p:=by
 repeat' first|exact Cg|with_reducible apply Z9|intro _
 all_goals first|contradiction|with_reducible exact Zz5|omega|skip
 refine Z4 [14,29,30,31,32,33,34,35,36,37,38,39,40,41,42,43,44,45,46,47,48,49,50,51,52,53,54,55,56,57,58] (fun q:Nat×Nat×List UInt8×List (Rose Node)=>[(28,.d (.int .i64 q.1)),(2,.d (.int .i64 q.2.1))]) (fun q:Nat×Nat×List UInt8×List (Rose Node)=>[(90000,.box true [.bad 96,.sl 90001 q.2.2.1.length]),(90001,.brow 5 q.2.2.1)]) (fun q:Nat×Nat×List UInt8×List (Rose Node)=>q.1+q.2.2.2.length=ks.length∧Ss ar t q.2.1 q.2.2.2∧(∀ y∈q.2.2.2,(nds y).length<n∧∀ p∈nds y,vH p)∧q.2.1+(ndss q.2.2.2).length=J∧q.2.2.1++(L4 rb (q.1==0) ((q.2.2.2.map root).map (·.name)) (prNs q.2.2.2)++re)=V) (fun q:Nat×Nat×List UInt8×List (Rose Node)=>ks.length-q.1) (0,i+1,V0,ks) ?_ ?_ ?_
 ·exact ⟨Nat.zero_add _,Qeo,J8,hJ,hV⟩
 ·exact Xa
 rintro ⟨k,at_,cur,zs⟩ ⟨hk,yS,fN,yU,Ph⟩;simp only at hk yS fN yU Ph;cases zs with
 | nil =>
  have Yg:k=ks.length:=by simpa using hk
  subst Yg;have Ql:Jw (ks.length:Int) (ks.length:Int)=false:=by rw [Jj];omega
  rw [ndss,List.length_nil,Nat.add_zero] at yU;subst yU;simp only [List.map_nil,prNs] at Ph;rw [gG] at Ph;have Q3:=Xw Ph;have Y0:=Kt;have Xr:=Kt;have Kq:KdA:=⟨⟩;exact rT
 | cons z zs =>
  obtain ⟨hz,En⟩:=yS.head;have Zek:=fN z (by simp)
  have Qg:k<ks.length:=by simp at hk;omega
  have Ql:Jw (k:Int) (ks.length:Int)=true:=by rw [Je];omega
  have Zkr:=hz.lt;have Jl:=Qc n0 Zkr;rw [hz.root n0] at Jl;have Zh3:=Zek.2 z.root (by rw [E0];exact List.mem_cons_self ..)
  have Js:=xD Zh3;rw [List.map_cons,List.map_cons,prNs] at Ph;rw [ndss,Zb] at yU;obtain ⟨⟨zk,nm,zn⟩,Zke⟩:=exq (z.root);rw [Zke] at Jl Js Ph;simp only at Js Ph;obtain ⟨A,hA⟩:=exq (prN z);obtain ⟨j,hj⟩:=exq (at_+(nds z).length);rw [hj] at En;have lH:j+(ndss zs).length=J:=by omega
  have Zyr:=hz.le;rw [hj] at Zyr;have hf:(k+1==0)=false:=by rw [Za];omega
  obtain ⟨L,Jk⟩:=exq (nm++[58,32]);have fV:([58,32]:List UInt8)=[58,32]:=rfl;rcases Nat.eq_zero_or_pos k with Zii|Zii
  ·have Ji:Jw 0 (k:Int)=false:=by rw [Jj];omega
   have kG:(k==0)=true:=by rw [Zi];exact Zii
   rw [kG,wC,Jk] at Ph;obtain ⟨V1,h1⟩:=exq (cur++L);rw [h1] at Ph;obtain ⟨V2,h2⟩:=exq (V1++prN z);rw [h2] at Ph;have l2:=Yi Ph Z8;have l1:=Yi h2 l2;have Qcc:L.length≤10000000000:=by rw [←h1,Zb] at l1;omega
   have Zyo:nm.length+2≤10000000000:=by rw [←Jk,Zb] at Qcc;simpa using Qcc
   have Q7:=Xw h1;have Zz:=G3 (n:=n) (a:=⟨t,at_,V1⟩) h2;have Qi:=Pe (n:=n) (a:=⟨t,at_,V1⟩) hj;have Y0:=Kt;have Xr:=Kt;have Kq:KdC:=⟨⟩;exact rT
  ·have Ji:Jw 0 (k:Int)=true:=by rw [Je];omega
   have kG:(k==0)=false:=by rw [Za];omega
   rw [kG,wD,Jk] at Ph;obtain ⟨Vb,hb⟩:=exq (cur++rb);rw [hb] at Ph;obtain ⟨V1,h1⟩:=exq (Vb++L);rw [h1] at Ph;obtain ⟨V2,h2⟩:=exq (V1++prN z);rw [h2] at Ph;have l2:=Yi Ph Z8;have l1:=Yi h2 l2;have lb:=Yi h1 l1;have Qcc:L.length≤10000000000:=by rw [←h1,Zb] at l1;omega
   have Zyo:nm.length+2≤10000000000:=by rw [←Jk,Zb] at Qcc;simpa using Qcc
   have Qo:=Xw hb;have Q7:=Xw h1;have Zz:=G3 (n:=n) (a:=⟨t,at_,V1⟩) h2;have Qi:=Pe (n:=n) (a:=⟨t,at_,V1⟩) hj;have Y0:=Kt;have Xr:=Kt;have Kq:KdF:=⟨⟩;exact rT):p:=h
class Kdy:Prop
theorem Kdy.k (_:Kdy) (h:p:=by
 repeat' first|exact Cg|with_reducible apply Z9|intro _
 refine Zm (bc:=Z7) (⟨96,l,[]⟩,ro) [90000,90001] (Wu h0 l0) rfl (by simp) (by rw [Q2];rfl) ?_ ?_ ?_
 ·show Ze _ _ (V6 l) _;rw [Qv];simp [Ze,lk,Q4,rnA,rnAs,rk]
 ·show Zj (List.drop (V6 l).length _) _;rw [Qv];simp [Zj]
 have Y0:=Kt;have Xr:=Kt;have Qt:=@Qv;have Qq:=@J5;have Kq:Kdz:=⟨⟩;exact rT):p:=h
theorem stepbm_PRowT (n:Nat) (ih:X9 Tryz.prog (91,Xf n)):X9 Tryz.prog (115,(Vl n)):=by
 obtain ⟨Kx,Kt,Kc,Kd,Kb,Ku,Kw,K,Y0,Xr,_⟩:=Yc Qp Z0 [] false (A6 ih (Xf.eq_def n) (A6 Vw lP Yb));refine bR K Tryz.func115 [.tmp 12] rfl 65 rfl (fun c hc x X5=>?_);obtain ⟨⟨t,i,l⟩,⟨ro,rb,re⟩,nd,ks⟩:=x;obtain ⟨ht,hy,Zh9,Qei,J8,Z8⟩:=X5;simp only at ht hy Zh9 Qei J8 Z8;have Qha:=hy.lt;have Qz:=Qc n0 Qha;rw [hy.root n0] at Qz;obtain ⟨Xs,Wa⟩:=hy.kids;simp only [kids,root] at Xs Wa Qz;rw [Zhn Zh9] at Wa;have Qgp:nd.n=(ks.length:Int):=by rw [Wa];have:=(pA Qei Zh9).1;omega
 have Mg:ks.length≤1000000:=by rw [Wa];have:=(pA Qei Zh9).2;omega
 obtain ⟨V,hV⟩:=exq (l++gF ⟨ro,rb,re⟩ ks);rw [hV] at Z8;have Jc:(Vl n).post (⟨t,i,l⟩,⟨ro,rb,re⟩,nd,ks)=V6 V:=by rw [←hV];rfl
 refine ⟨?_,?_,?_,?_,?_⟩
 ·show Xg [.ref 90000 0,.d (.list 3 (t.map enc)),.d (.int .i64 i),.d (.str ro),.d (.str rb),.d (.str re)] (V6 l);rw [Qv];simp [Xg,Jp,Obj.tied,Zr,keptAll,AV.kept,Zq,Jv,lk]
 ·show Zr (V6 l);rw [Qv];simp [Zr]
 ·rw [Jc];rw [Qv];simp [Xg,Jp,Obj.tied,Zr,keptAll,AV.kept,Zq,Jv,lk]
 ·rw [Jc];show (V6 l).length≤(V6 V).length;rw [Qv,Qv];simp
 show U6 Kx c (V5 _ _ (V6 l).length (.int .i64 ((i+1+(ndss ks).length:Nat):Int)) ((Vl n).post (⟨t,i,l⟩,⟨ro,rb,re⟩,nd,ks))) ⟨[.ref 90000 0,.d (.list 3 (t.map enc)),.d (.int .i64 i),.d (.str ro),.d (.str rb),.d (.str re)]++Vf 59,Zq (V6 l)⟩;rw [Jc,Qv,Qv];obtain ⟨J,hJ⟩:=exq (i+1+(ndss ks).length);rw [hJ];unfold gF at hV;simp only [List.append_assoc] at hV;rw [←List.append_assoc] at hV;obtain ⟨V0,h0⟩:=exq (l++ro);rw [h0] at hV;have l0:=Yi hV Z8;have Q2:=Xw h0;have Qeo:Ss ar t (i+1) ks:=Xs;obtain ⟨nk,nnm,nnn⟩:=nd;simp only at Qgp Zh9 Qz;subst Qgp;have Qx:(i:Int)+1=((i+1:Nat):Int):=by omega
 cases hc;refine Ym 4 ?_;have Y0:=Kt;have Xr:=Kt;have Kq:Kdy:=⟨⟩;exact rT
theorem Qaf {x y:D} {l:List D}:el (x::y::l) 1=y:=rfl
theorem Qae {x y z:D} {l:List D}:el (x::y::z::l) 2=z:=rfl
theorem Qad {x y z u:D} {l:List D}:el (x::y::z::u::l) 3=u:=rfl
theorem Qac {x y z u v:D} {l:List D}:el (x::y::z::u::v::l) 4=v:=rfl
theorem Hs {α:Type} {z:Rose α}:∀ {ks:List (Rose α)},z∈ks→(nds z).length≤(ndss ks).length
 | x::ks,h=>by
  rw [ndss,Zb];rcases Z2.1 h with rfl|h
  ·omega
  ·have:=Hs h;omega
theorem iZ {α:Type} {z:Rose α} {q:α}:∀ {ks:List (Rose α)},z∈ks→q∈nds z→q∈ndss ks
 | x::ks,h,hq=>by
  rw [ndss,List.mem_append];rcases Z2.1 h with rfl|h
  ·exact .inl hq
  ·exact .inr (iZ h hq)
theorem uU {n:Nat} {a:NX} {y z:Rose Node} {V:List UInt8} (hV:a.l++El y.root.kind (prN y) (prN z)=V):(Vi n).post (a,y,z)=V6 V:=by rw [←hV];rfl
theorem yN {n:Nat} {a:NX} {y z:Rose Node} {j:Nat} (hj:a.i+(nds y).length+(nds z).length=j):(Vi n).res (a,y,z)=.int .i64 (j:Int):=by rw [←hj];rfl
theorem gE {n:Nat} {a:NX} {r:RX} {nd:Node} {ks:List (Rose Node)} {V:List UInt8} (hV:a.l++gF r ks=V):(Vl n).post (a,r,nd,ks)=V6 V:=by rw [←hV];rfl
theorem mY {n:Nat} {a:NX} {r:RX} {nd:Node} {ks:List (Rose Node)} {j:Nat} (hj:a.i+1+(ndss ks).length=j):(Vl n).res (a,r,nd,ks)=.int .i64 (j:Int):=by rw [←hj];rfl
theorem mD {p:Node} {a b:Rose Node} (h:p.kind=5):prN (mk p [a,b])=El a.root.kind (prN a) (prN b):=by
 rw [prN,dB,if_pos h];rfl
theorem Zac {p:Node} {ks:List (Rose Node)} (h:p.kind=6):prN (mk p ks)=gF ⟨[123],[44,32],[125]⟩ ks:=by
 rw [prN,dB,if_neg (by omega),if_pos h]
 rfl
theorem Zab {p:Node} {ks:List (Rose Node)} (h:p.kind=7):prN (mk p ks)=gF ⟨[91],[32,124,32],[93]⟩ ks:=by
 rw [prN,dB,if_neg (by omega),if_neg (by omega),if_pos h]
 rfl
theorem gN {p:Node} {ks:List (Rose Node)} (h:p.kind≤4):prN (mk p ks)=Bm p.kind:=by
 rw [prN,dB,if_neg (by omega),if_neg (by omega),if_neg (by omega)]
class KdK:Prop
theorem KdK.k (_:KdK) (h:p:=by
 first|contradiction|skip
 refine ⟨[90000,90001],by simp,rfl,J3,?_⟩
 simp [Ze,lk,Q4,rnA,rnAs,rk]):p:=h
class KdJ:Prop
theorem KdJ.k (_:KdJ) (h:p:=by
 refine Zm (bc:=Vi n) (⟨t,i+1,l⟩,a,b) [90000,90001] lG rfl (by simp) (by rw [Qx];rfl) ?_ ?_ ?_
 ·show Ze _ _ (V6 l) _;rw [Qv];simp [Ze,lk,Q4,rnA,rnAs,rk]
 ·show Zj (List.drop (V6 l).length _) _;rw [Qv];simp [Zj]
 have Xr:=Kt;have eV:=Kt;have kB:=Kt;have Js:=@Qv;have Kq:KdK:=⟨⟩;exact Qa):p:=h
class KdM:Prop
theorem KdM.k (_:KdM) (h:p:=by
 first|contradiction|skip
 refine ⟨[90000,90001],by simp,rfl,J3,?_⟩
 simp [Ze,lk,Q4,rnA,rnAs,rk]):p:=h
class KdL:Prop
theorem KdL.k (_:KdL) (h:p:=by
 refine Zm (bc:=Vl n) (⟨t,i,l⟩,⟨[123],[44,32],[125]⟩,⟨6,pn,pm⟩,ks) [90000,90001] lG rfl (by simp) (by rw [Qx];rfl) ?_ ?_ ?_
 ·show Ze _ _ (V6 l) _;rw [Qv];simp [Ze,lk,Q4,rnA,rnAs,rk]
 ·show Zj (List.drop (V6 l).length _) _;rw [Qv];simp [Zj]
 have Xr:=Kt;have eV:=Kt;have kB:=Kt;have Js:=@Qv;have Kq:KdM:=⟨⟩;exact Qa):p:=h
class KdO:Prop
theorem KdO.k (_:KdO) (h:p:=by
 first|contradiction|skip
 refine ⟨[90000,90001],by simp,rfl,J3,?_⟩
 simp [Ze,lk,Q4,rnA,rnAs,rk]):p:=h
class KdN:Prop
theorem KdN.k (_:KdN) (h:p:=by
 refine Zm (bc:=Vl n) (⟨t,i,l⟩,⟨[91],[32,124,32],[93]⟩,⟨7,pn,pm⟩,ks) [90000,90001] lG rfl (by simp) (by rw [Qx];rfl) ?_ ?_ ?_
 ·show Ze _ _ (V6 l) _;rw [Qv];simp [Ze,lk,Q4,rnA,rnAs,rk]
 ·show Zj (List.drop (V6 l).length _) _;rw [Qv];simp [Zj]
 have Xr:=Kt;have eV:=Kt;have kB:=Kt;have Js:=@Qv;have Kq:KdO:=⟨⟩;exact Qa):p:=h
class KdQ:Prop
theorem KdQ.k (_:KdQ) (h:p:=by
 first|contradiction|skip
 refine ⟨[90000,90001],by simp,rfl,J3,?_⟩
 simp [Ze,lk,Q4,rnA,rnAs,rk]):p:=h
class KdP:Prop
theorem KdP.k (_:KdP) (h:p:=by
 refine J7 (bc:=Z7) (⟨96,l,[]⟩,[63]) [90000,90001] (Wu hV Z8) rfl (by simp) (by rw [Ji];rfl) ?_ ?_ ?_
 ·show Ze _ _ (V6 l) _;rw [Qv];simp [Ze,lk,Q4,rnA,rnAs,rk]
 ·show Zj (List.drop (V6 l).length _) _;rw [Qv];simp [Zj]
 have Xr:=Kt;have eV:=Kt;have kB:=Kt;have Js:=@Qv;have Jk:=@J5;have Kq:KdQ:=⟨⟩;exact Qa):p:=h
class KdS:Prop
theorem KdS.k (_:KdS) (h:p:=by
 first|contradiction|skip
 refine ⟨[90000,90001],by simp,rfl,J3,?_⟩
 simp [Ze,lk,Q4,rnA,rnAs,rk]):p:=h
class KdR:Prop
theorem KdR.k (_:KdR) (h:p:=by
 refine J7 (bc:=Z7) (⟨96,l,[]⟩,[105,110,116]) [90000,90001] (Wu hV Z8) rfl (by simp) (by rw [Ji];rfl) ?_ ?_ ?_
 ·show Ze _ _ (V6 l) _;rw [Qv];simp [Ze,lk,Q4,rnA,rnAs,rk]
 ·show Zj (List.drop (V6 l).length _) _;rw [Qv];simp [Zj]
 have Xr:=Kt;have eV:=Kt;have kB:=Kt;have Js:=@Qv;have Jk:=@J5;have Kq:KdS:=⟨⟩;exact Qa):p:=h
class KdU:Prop
theorem KdU.k (_:KdU) (h:p:=by
 first|contradiction|skip
 refine ⟨[90000,90001],by simp,rfl,J3,?_⟩
 simp [Ze,lk,Q4,rnA,rnAs,rk]):p:=h
class KdT:Prop
theorem KdT.k (_:KdT) (h:p:=by
 refine J7 (bc:=Z7) (⟨96,l,[]⟩,[98,111,111,108]) [90000,90001] (Wu hV Z8) rfl (by simp) (by rw [Ji];rfl) ?_ ?_ ?_
 ·show Ze _ _ (V6 l) _;rw [Qv];simp [Ze,lk,Q4,rnA,rnAs,rk]
 ·show Zj (List.drop (V6 l).length _) _;rw [Qv];simp [Zj]
 have Xr:=Kt;have eV:=Kt;have kB:=Kt;have Js:=@Qv;have Jk:=@J5;have Kq:KdU:=⟨⟩;exact Qa):p:=h
class KdW:Prop
theorem KdW.k (_:KdW) (h:p:=by
 first|contradiction|skip
 refine ⟨[90000,90001],by simp,rfl,J3,?_⟩
 simp [Ze,lk,Q4,rnA,rnAs,rk]):p:=h
class KdV:Prop
theorem KdV.k (_:KdV) (h:p:=by
 refine J7 (bc:=Z7) (⟨96,l,[]⟩,[115,116,114,105,110,103]) [90000,90001] (Wu hV Z8) rfl (by simp) (by rw [Ji];rfl) ?_ ?_ ?_
 ·show Ze _ _ (V6 l) _;rw [Qv];simp [Ze,lk,Q4,rnA,rnAs,rk]
 ·show Zj (List.drop (V6 l).length _) _;rw [Qv];simp [Zj]
 have Xr:=Kt;have eV:=Kt;have kB:=Kt;have Js:=@Qv;have Jk:=@J5;have Kq:KdW:=⟨⟩;exact Qa):p:=h
class KdY:Prop
theorem KdY.k (_:KdY) (h:p:=by
 first|contradiction|skip
 refine ⟨[90000,90001],by simp,rfl,J3,?_⟩
 simp [Ze,lk,Q4,rnA,rnAs,rk]):p:=h
class KdX:Prop
theorem KdX.k (_:KdX) (h:p:=by
 refine J7 (bc:=Z7) (⟨96,l,[]⟩,[117,110,105,116]) [90000,90001] (Wu hV Z8) rfl (by simp) (by rw [Ji];rfl) ?_ ?_ ?_
 ·show Ze _ _ (V6 l) _;rw [Qv];simp [Ze,lk,Q4,rnA,rnAs,rk]
 ·show Zj (List.drop (V6 l).length _) _;rw [Qv];simp [Zj]
 have Xr:=Kt;have eV:=Kt;have kB:=Kt;have Js:=@Qv;have Jk:=@J5;have Kq:KdY:=⟨⟩;exact Qa):p:=h
theorem stepb_NodeT (n:Nat) (ih:X9 Tryz.prog (91,Xf n)):X9 Tryz.prog (91,(Xf (n+1))):=by
 obtain ⟨Kx,Kt,Kc,Kd,Kb,Ku,Kw,K,Y0,Xr,eV,kB,_⟩:=Yc Qp Z0 [] false (Xu tI Tw.eq_def (A6 Vw lP (A6 (stepbm_PArrowT n ih) (Vi.eq_def n) (A6 (stepbm_PRowT n ih) (Vl.eq_def n) Yb))));refine bR K Tryz.func91 [.tmp 6] rfl 63 rfl (fun c hc x X5=>?_);obtain ⟨⟨t,i,l⟩,y⟩:=x;obtain ⟨⟨ht,C1,J8⟩,Z8⟩:=X5;simp only at ht C1 J8 Z8;obtain ⟨hy,-⟩:=C1.head;obtain ⟨R5,F7⟩:=J8 y (by simp)
 obtain ⟨p,ks⟩:=y;obtain ⟨V,hV⟩:=exq (l++prN (mk p ks));obtain ⟨J,hJ⟩:=exq (i+(nds (mk p ks)).length);have Jc:=G3 (n:=n+1) (a:=⟨t,i,l⟩) hV;rw [hV] at Z8;have Bk:=hy.lt;have M8:=hy.le;have Qz:=Qc n0 Bk;rw [hy.root n0] at Qz;obtain ⟨Xs,Wa⟩:=hy.kids;simp only [kids,root] at Xs Wa Qz;have Ja:=F7 p (by rw [Jt];exact List.mem_cons_self ..)
 have Gn:i+1+(ndss ks).length=J:=by rw [←hJ,Jt,Zd];omega
 have Jy:∀ z∈ks,(nds z).length<n∧∀ q∈nds z,vH q:=fun z hz=>⟨by
  have:=Hs hz;rw [Jt,Zd] at R5;omega,fun q hq=>F7 q (by rw [Jt];exact List.mem_cons_of_mem _ (iZ hz hq))⟩
 refine ⟨?_,?_,?_,?_,?_⟩
 ·show Xg [.ref 90000 0,.d (.list 3 (t.map enc)),.d (.int .i64 i)] (V6 l);rw [Qv];simp [Xg,Jp,Obj.tied,Zr,keptAll,AV.kept,Zq,Jv,lk]
 ·show Zr (V6 l);rw [Qv];simp [Zr]
 ·rw [Jc];rw [Qv];simp [Xg,Jp,Obj.tied,Zr,keptAll,AV.kept,Zq,Jv,lk]
 ·rw [Jc];show (V6 l).length≤(V6 V).length;rw [Qv,Qv];simp
 show U6 Kx c (V5 _ _ (V6 l).length (.int .i64 ((i+(nds (mk p ks)).length:Nat):Int)) ((Xf (n+1)).post (⟨t,i,l⟩,mk p ks))) ⟨[.ref 90000 0,.d (.list 3 (t.map enc)),.d (.int .i64 i)]++Vf 60,Zq (V6 l)⟩;rw [Jc,Qv,Qv,hJ];rw [hJ] at M8;have Q2:(i:Int)+1=((i+1:Nat):Int):=by omega
 obtain ⟨pk,pn,pm⟩:=p;have h0:0≤pk:=Ja.1;have h7:pk≤7:=Ja.2.1;by_cases h5:pk=5
 ·subst h5;rw [vZ rfl] at Wa;obtain ⟨a,b,rfl⟩:∃ a b,ks=[a,b]:=by
   match ks,Wa with
   | [a,b],_=>exact ⟨a,b,rfl⟩
  rw [mD rfl] at hV;simp only [ndss,List.append_nil,Zb] at Gn;have Qiv:i+1+(nds a).length+(nds b).length=J:=by omega
  have Qx:=uU (n:=n) (a:=⟨t,i+1,l⟩) hV;have Ql:=yN (n:=n) (a:=⟨t,i+1,l⟩) Qiv;have lG:(Vi n).ok (⟨t,i+1,l⟩,a,b):=⟨⟨ht,Xs,Jy⟩,by show (l++El a.root.kind (prN a) (prN b)).length≤_;rw [hV];exact Z8⟩
  cases hc;refine Ym 3 ?_;have Xr:=Kt;have eV:=Kt;have kB:=Kt;have Kq:KdJ:=⟨⟩;exact Qa
 by_cases h6:pk=6
 ·subst h6;rw [Zac rfl] at hV;have Qx:=gE (n:=n) (a:=⟨t,i,l⟩) (nd:=⟨6,pn,pm⟩) hV;have Ql:=mY (n:=n) (a:=⟨t,i,l⟩) (r:=⟨[123],[44,32],[125]⟩) (nd:=⟨6,pn,pm⟩) Gn;have lG:(Vl n).ok (⟨t,i,l⟩,⟨[123],[44,32],[125]⟩,⟨6,pn,pm⟩,ks):=⟨ht,hy,.inl rfl,Ja,Jy,by show (l++gF ⟨[123],[44,32],[125]⟩ ks).length≤_;rw [hV];exact Z8⟩
  cases hc;refine Ym 3 ?_;have Xr:=Kt;have eV:=Kt;have kB:=Kt;have Kq:KdL:=⟨⟩;exact Qa
 by_cases h7:pk=7
 ·subst h7;rw [Zab rfl] at hV;have Qx:=gE (n:=n) (a:=⟨t,i,l⟩) (nd:=⟨7,pn,pm⟩) hV;have Ql:=mY (n:=n) (a:=⟨t,i,l⟩) (r:=⟨[91],[32,124,32],[93]⟩) (nd:=⟨7,pn,pm⟩) Gn;have lG:(Vl n).ok (⟨t,i,l⟩,⟨[91],[32,124,32],[93]⟩,⟨7,pn,pm⟩,ks):=⟨ht,hy,.inr rfl,Ja,Jy,by show (l++gF ⟨[91],[32,124,32],[93]⟩ ks).length≤_;rw [hV];exact Z8⟩
  cases hc;refine Ym 3 ?_;have Xr:=Kt;have eV:=Kt;have kB:=Kt;have Kq:KdN:=⟨⟩;exact Qa
 have h4:pk≤4:=by omega
 rw [gN (show (⟨pk,pn,pm⟩:Node).kind≤4 from h4)] at hV;rw [Zbg (show (⟨pk,pn,pm⟩:Node).kind≤4 from h4)] at Wa;have V7:ks=[]:=List.length_eq_zero_iff.1 Wa;subst V7;simp only [ndss,List.length_nil,Nat.add_zero] at Gn;have Jl:(i:Int)+1=(J:Int):=by omega
 have Q3:=fO;simp only at hV;have Yg:pk=0∨pk=1∨pk=2∨pk=3∨pk=4:=by omega
 rcases Yg with rfl|rfl|rfl|rfl|rfl
 ·have Zkg:Bm 0=[63]:=rfl;rw [Zkg] at hV;have Ji:=Xw hV;cases hc;refine Ym 3 ?_;have Xr:=Kt;have eV:=Kt;have kB:=Kt;have Js:=@Qag;have Kq:KdP:=⟨⟩;exact Qa
 ·have Zkg:Bm 1=[105,110,116]:=rfl;rw [Zkg] at hV;have Ji:=Xw hV;cases hc;refine Ym 3 ?_;have Xr:=Kt;have eV:=Kt;have kB:=Kt;have Js:=@Qaf;have Kq:KdR:=⟨⟩;exact Qa
 ·have Zkg:Bm 2=[98,111,111,108]:=rfl;rw [Zkg] at hV;have Ji:=Xw hV;cases hc;refine Ym 3 ?_;have Xr:=Kt;have eV:=Kt;have kB:=Kt;have Js:=@Qae;have Kq:KdT:=⟨⟩;exact Qa
 ·have Zkg:Bm 3=[115,116,114,105,110,103]:=rfl;rw [Zkg] at hV;have Ji:=Xw hV;cases hc;refine Ym 3 ?_;have Xr:=Kt;have eV:=Kt;have kB:=Kt;have Js:=@Qad;have Kq:KdV:=⟨⟩;exact Qa
 ·have Zkg:Bm 4=[117,110,105,116]:=rfl;rw [Zkg] at hV;have Ji:=Xw hV;cases hc;refine Ym 3 ?_;have Xr:=Kt;have eV:=Kt;have kB:=Kt;have Js:=@Qac;have Kq:KdX:=⟨⟩;exact Qa
theorem Ob:∀ n,X9 Tryz.prog (91,Xf n)
 | 0=>P5 (J6 Tryz.func91 (by kernel_rfl) rfl) fQ
 | n+1=>stepb_NodeT n (Ob n)
noncomputable def eE (t:List Node):List UInt8:=prN (Vs ar t 0)
def TyOk (t:List Node):Prop:=t.length≤1000000∧∃ x,t=nds x∧wf ar x∧(∀ p∈nds x,vH p)∧(prN x).length≤1000000
theorem oO {x:Rose Node} (h:wf ar x):eE (nds x)=prN x:=by
 unfold eE;rw [Xp (Yz h)]
theorem zT {s e:List UInt8} {b:Bool} {rs ps:List (List UInt8)} {c:UInt8}:[c]++L4 s b rs ps++e≠[]:=by simp
theorem Zfl (x:Rose Node):prN x≠[]:=by
 obtain ⟨n,ks⟩:=x;rw [prN,dB];split
 ·unfold El;simp
 split
 ·exact zT
 split
 ·exact zT
 unfold Bm;repeat' split
 all_goals simp
noncomputable def T7:Con:=Xh (fun (t:Sl Node)=>TyOk t.l) (fun t=>eE t.l)
noncomputable def Hh:BCon:=Xf 2000000
theorem qZ:X9 Tryz.prog (91,Hh):=Ob _
theorem sL {a:NX} {y:Rose Node} {V:List UInt8} (hV:a.l++prN y=V):Hh.post (a,y)=V6 V:=by rw [←hV];rfl
theorem xQ {a:NX} {y:Rose Node} {j:Nat} (hj:a.i+(nds y).length=j):Hh.res (a,y)=.int .i64 (j:Int):=by rw [←hj];rfl
theorem Zb5 {T:Nat} {l:List UInt8}:X3.post ⟨T,l,[]⟩=[.box true [.bad T,.sl 90001 l.length],.gone]:=rfl
class Kea:Prop
theorem Kea.k (_:Kea) (h:p:=by
 repeat' first|exact Cg|with_reducible apply Z9|intro _
 refine Zm (bc:=X3) ⟨96,S,[]⟩ [5,60005] ⟨.inr (.inl ⟨rfl,rfl⟩),Qc1⟩ rfl (by simp) rfl ?_ ?_ ?_
 ·show Ze _ _ (V6 S) _;rw [Qv];simp [Ze,lk,Q4,rnA,rnAs,rk]
 ·show Zj (List.drop (V6 S).length _) _;rw [Qv];simp [Zj]
 have Y0:=Kt;have Xr:=Kt;have Ql:=@Zb5;have Q3:=@zL;have Ji:=@Zwp;exact A4):p:=h
class KdZ:Prop
theorem KdZ.k (_:KdZ) (h:p:=by
 repeat' first|exact Cg|with_reducible apply Z9|intro _
 refine Zm (bc:=Hh) (⟨t,0,[]⟩,x) [5,60005] lG rfl (by simp) (by rw [Q2];rfl) ?_ ?_ ?_
 ·show Ze _ _ (V6 []) _;rw [Qv];simp [Ze,lk,Q4,rnA,rnAs,rk]
 ·show Zj (List.drop (V6 []).length _) _;rw [Qv];simp [Zj]
 have Y0:=Kt;have Xr:=Kt;have Ql:=@Qv;have Kq:Kea:=⟨⟩;exact rT):p:=h
theorem good_PrintT:Jd Tryz.prog (65,T7):=by
 obtain ⟨Kx,Kt,Kc,Kd,Kb,Ku,Kw,K,Y0,Xr,_⟩:=Yc Qp Z0 [300005,200096] false (A6 qZ Hh.eq_def (A6 Eb X3.eq_def Yb));have Ko:=T7.eq_def;refine Ve K Tryz.func65 [.tmp 2] rfl 13 rfl (fun c hc J0 Zo=>?_);unfold T7 at Zo;obtain ⟨⟨t⟩,rfl,ht⟩:=Qs Zo;simp only at ht;clear Zo;obtain ⟨vA,x,hx,hw,J8,Z8⟩:=ht;obtain ⟨S,Qz⟩:=exq (eE t);have Zvo:prN x=S:=by rw [←Qz,hx,oO hw]
 have Qc1:S≠[]:=by rw [←Zvo];exact Zfl x
 have eC:At ar t 0 x:=by rw [hx];exact Yz hw
 have Qel:(nds x).length=t.length:=by rw [hx]
 have Q2:=sL (a:=⟨t,0,[]⟩) (y:=x) (V:=S) (by rw [Zvo];rfl)
 have Qx:=xQ (a:=⟨t,0,[]⟩) (y:=x) (j:=t.length) (by show 0+(nds x).length=_;omega)
 have lG:Hh.ok (⟨t,0,[]⟩,x):=Px vA eC ⟨by omega,J8⟩ (V:=S) (by rw [Zvo];rfl) (by rw [←Zvo];omega)
 cases hc;have Y0:=Kt;have Xr:=Kt;have Kq:KdZ:=⟨⟩;exact rT
def Jf:List (List UInt8)→List (List UInt8)→List UInt8
 | [],_=>[]
 | s::r,ks=>if s=[] then ks.headD []++Jf r ks.tail else s++Jf r ks
def W8 (sep:List UInt8):Bool→List (List UInt8)→List UInt8
 | _,[]=>[]
 | b,p::ps=>(if b then [] else sep)++p++W8 sep false ps
def Vg:List (List UInt8)→Nat
 | []=>0
 | s::r=>(if s=[] then 1 else 0)+Vg r
noncomputable def Xz (p:Part):List (List UInt8) :=
 if p.kind=1 then [p.name]
 else if p.kind=2 then [[40,102,117,110,32,40],p.bind,[58,32],eE p.t,[41,32,45,62,32],[],[41]]
 else if p.kind=3 then [[40],[],[32],[],[41]]
 else if p.kind=4 then [[40,108,101,116,32],p.bind,[58,32],eE p.t,[32,61,32],[],[32,105,110,32],[],[41]]
 else if p.kind=5 then [[40,114,101,99,32],p.name,[32,40],p.bind,[58,32],eE p.t,[41,58,32],eE p.u,[32,61,32],[],[32,105,110,32],[],[41]]
 else if p.kind=6 then [[40,105,102,32],[],[32,116,104,101,110,32],[],[32,101,108,115,101,32],[],[41]]
 else if p.kind=8 then [p.label,[32],p.bind,[32,45,62,32],[]]
 else if p.kind=9 then [[40],[],[32],p.name,[32],[],[41]]
 else if p.kind=11 then [[],[46],p.name]
 else if p.kind=12 then [[91],p.name,[32,61,32],[],[58,32],eE p.t,[93]]
 else if p.kind=13 then [[40],[],[58,32],eE p.t,[41]]
 else [[60],[],[58,32],eE p.t,[32,61,62,32],eE p.u,[62]]
def D2 (p:Part):List UInt8 :=
 if (p.t.getD 0 n0).kind=1 then Lib.itoa p.num
 else if (p.t.getD 0 n0).kind=2 then dU (p.num==1)
 else if (p.t.getD 0 n0).kind=3 then Nn p.name
 else [40,41]
noncomputable def Q5 (p:Part) (ps:List (List UInt8)):List UInt8 :=
 if p.kind=0 then D2 p
 else if p.kind=7 then [40,99,97,115,101,32]++ps.headD []++[32,111,102,32]++W8 [32,124,32] true ps.tail++[32,101,110,100,41]
 else if p.kind=10 then [123]++W8 [44,32] true ps++[125]
 else Jf (Xz p) ps
def kU (p:Part):List UInt8:=if p.label=[]∨p.kind=8 then [] else p.label++[32,61,32]
mutual
noncomputable def prT:Rose Part→List UInt8
 | mk p ks=>kU p++Q5 p (prTs ks)
noncomputable def prTs:List (Rose Part)→List (List UInt8)
 | []=>[]
 | x::xs=>prT x::prTs xs
end
theorem Dx:∀ {ks:List (Rose Part)},prTs ks=ks.map prT
 | []=>rfl
 | x::ks=>by rw [prTs,Dx];rfl
def fB (p:Part):Prop :=
 (0≤p.kind∧p.kind≤14)∧(p.kind=0→p.t.length=1∧Aj .i64 p.num∧p.name.length≤1000000) ∧
 (p.kind=1∨p.kind=5∨p.kind=9∨p.kind=11∨p.kind=12→p.name≠[]) ∧
 (p.kind=2∨p.kind=4∨p.kind=5∨p.kind=8→p.bind≠[])∧(p.kind=8→p.label≠[]) ∧
 (p.kind=2∨p.kind=4∨p.kind=5∨p.kind=12∨p.kind=13∨p.kind=14→TyOk p.t)∧(p.kind=5∨p.kind=14→TyOk p.u) ∧
 (p.kind=7∨p.kind=10→0≤p.many∧p.many≤1000000)
theorem Wz {t:List Node} (h:TyOk t):eE t≠[]:=by
 obtain ⟨_,x,rfl,hw,_⟩:=h;rw [oO hw];exact Zfl x
theorem nW {r ks:List (List UInt8)} {k:List UInt8}:Jf ([]::r) (k::ks)=k++Jf r ks:=rfl
theorem Ai {s:List UInt8} {r ks:List (List UInt8)} (h:s≠[]):Jf (s::r) ks=s++Jf r ks:=by rw [Jf,if_neg h]
structure AX where
 e:List Part
 i:Nat
 l:List UInt8
def Uu (a:AX):List Obj:=Xo 58 a.l [.list 8 (a.e.map enc),.int .i64 a.i]
theorem Jm (e:List Part) (i:Nat) (l:List UInt8):Uu ⟨e,i,l⟩=[.box true [.bad 58,.sl 90001 l.length,.d (.list 8 (e.map enc)),.d (.int .i64 i)],.brow 5 l]:=rfl
def Jq (a:AX) (txt:List (List UInt8)):List Obj:=[.box true [.bad 58,.sl 90001 a.l.length,.d (.list 8 (a.e.map enc)),.d (.int .i64 a.i)],.brow 5 a.l,.row 1 (txt.map enc) 0]
theorem Zt (e:List Part) (i:Nat) (l:List UInt8) (txt:List (List UInt8)):Jq ⟨e,i,l⟩ txt=[.box true [.bad 58,.sl 90001 l.length,.d (.list 8 (e.map enc)),.d (.int .i64 i)],.brow 5 l,.row 1 (txt.map enc) 0]:=rfl
def Zxh (a:AX) (n:Nat) (ks:List (Rose Part)):Prop:=a.e.length≤1000000∧Ss Xj a.e a.i ks∧∀ y∈ks,(nds y).length<n∧∀ p∈nds y,fB p
noncomputable def Xv (n:Nat):BCon where
 X:=AX×Rose Part
 ok x:=Zxh x.1 n [x.2]∧(x.1.l++prT x.2).length≤10000000000
 args x:=[.ref 90000 0]
 objs x:=Uu x.1
 res x:=.tup []
 post x:=Uu ⟨x.1.e,x.1.i+(nds x.2).length,x.1.l++prT x.2⟩
theorem eU:∀ x,¬ (Xv 0).ok x:=by
 rintro x ⟨⟨_,_,h⟩,_⟩;have:=(h x.2 (by simp)).1
 omega
noncomputable def Zs (n:Nat):BCon where
 X:=AX×List (List UInt8)×List (Rose Part)
 ok x:=Zxh x.1 n x.2.2∧Vg x.2.1=x.2.2.length∧x.2.1.length≤1000∧(x.1.l++Jf x.2.1 (prTs x.2.2)).length≤10000000000
 args x:=[.ref 90000 0,.sl 90002 x.2.1.length]
 objs x:=Jq x.1 x.2.1
 res x:=.tup []
 post x:=Jq ⟨x.1.e,x.1.i+(ndss x.2.2).length,x.1.l++Jf x.2.1 (prTs x.2.2)⟩ x.2.1
theorem Pu {n:Nat} {a:AX} {y:Rose Part} {j:Nat} {V:List UInt8} (hj:a.i+(nds y).length=j) (hV:a.l++prT y=V):(Xv n).post (a,y)=Uu ⟨a.e,j,V⟩:=by rw [←hj,←hV];rfl
theorem bZ {n:Nat} {a:AX×Rose Part}:(Xv n).res a=.tup []:=rfl
theorem Q8 {n:Nat} {a:AX} {txt:List (List UInt8)} {ks:List (Rose Part)} {j:Nat} {V:List UInt8} (hj:a.i+(ndss ks).length=j) (hV:a.l++Jf txt (prTs ks)=V):(Zs n).post (a,txt,ks)=Jq ⟨a.e,j,V⟩ txt:=by rw [←hj,←hV];rfl
theorem Qw {n:Nat} {a:AX×List (List UInt8)×List (Rose Part)}:(Zs n).res a=.tup []:=rfl
theorem Nj {l s:List UInt8} {e:List Part} {i:Nat} {V:List UInt8} (hV:l++s=V):Z7.post (⟨58,l,[.list 8 (e.map enc),.int .i64 i]⟩,s)=Uu ⟨e,i,V⟩:=by rw [←hV];rfl
theorem Zjt:aZ 3 [90000,90001,90002]:=by
 intro j hj
 match j,hj with
 | 0,_=>rfl
 | 1,_=>rfl
 | 2,_=>rfl
theorem Zwm {txt:List (List UInt8)} {k:Nat} (h:k<txt.length):txt.drop k=txt.getD k []::txt.drop (k+1):=by
 rw [List.drop_eq_getElem_cons h];simp [h]
class Kee:Prop
theorem Kee.k (_:Kee) (h:p:=by
 refine ⟨(k+1,zs,at_+(nds y).length,c2),by exact Xa,by show k+1≤_;omega,En,fun z hz=>fN z (List.mem_cons_of_mem _ hz),by show Vg (txt.drop (k+1))=zs.length;omega,by show at_+(nds y).length+(ndss zs).length=J;omega,Ph,by show txt.length-(k+1)<txt.length-k;omega⟩):p:=h
class Ked:Prop
theorem Ked.k (_:Ked) (h:p:=by
 refine Zm (bc:=Z7) (⟨58,c2,[.list 8 (e.map enc),.int .i64 ((at_+(nds y).length:Nat):Int)]⟩,[]) [90000,90001] ⟨.inr (.inr ⟨rfl,rfl⟩),?_⟩ rfl (by simp) (by rw [Q3];rfl) ?_ ?_ ?_
 ·show c2.length+0≤_;omega
 ·show Ze _ _ (Uu ⟨e,at_+(nds y).length,c2⟩) _;rw [Jm];simp [Ze,lk,Q4,rnA,rnAs,rk]
 ·show Zj (List.drop (Uu ⟨e,at_+(nds y).length,c2⟩).length _) _;rw [Jm];simp [Zj]
 have Y0:=Kt;have Xr:=Kt;have Ji:=@J5;have Jl:=@Jm;have Kq:Kee:=⟨⟩;exact Qa):p:=h
class Kec:Prop
theorem Kec.k (_:Kec) (h:p:=by
 refine Zm (bc:=Xv n) (⟨e,at_,cur⟩,y) [90000,90001] ⟨⟨he,⟨⟨hy.1,trivial⟩,?_⟩,fun z hz=>?_⟩,?_⟩ rfl (by simp) (by rw [Ql];rfl) ?_ ?_ ?_
 ·obtain ⟨r,hr⟩:=hy.2;exact ⟨r,by rw [hr];simp [ndss]⟩
 ·rw [Qy] at hz;subst hz;exact fN _ (by simp)
 ·show (cur++prT y).length≤_;rw [oH];exact Ziq
 ·show Ze _ _ (Uu ⟨e,at_,cur⟩) _;rw [Jm];simp [Ze,lk,Q4,rnA,rnAs,rk]
 ·show Zj (List.drop (Uu ⟨e,at_,cur⟩).length _) _;rw [Jm];simp [Zj]
 have Y0:=Kt;have Xr:=Kt;have Ji:=@bZ;have Jl:=@Jm;have Kq:Ked:=⟨⟩;exact Qa):p:=h
class Keg:Prop
theorem Keg.k (_:Keg) (h:p:=by
 refine ⟨(k+1,zs,at_,c2),by exact Xa,by show k+1≤_;omega,yS,fN,yT,yU,Ph,by show txt.length-(k+1)<txt.length-k;omega⟩):p:=h
class Kef:Prop
theorem Kef.k (_:Kef) (h:p:=by
 refine Zm (bc:=Z7) (⟨58,cur,[.list 8 (e.map enc),.int .i64 at_]⟩,s) [90000,90001] ⟨.inr (.inr ⟨rfl,rfl⟩),?_⟩ rfl (by simp) (by rw [Q3];rfl) ?_ ?_ ?_
 ·show cur.length+s.length≤_;rw [←oH,Zb] at Ziq;omega
 ·show Ze _ _ (Uu ⟨e,at_,cur⟩) _;rw [Jm];simp [Ze,lk,Q4,rnA,rnAs,rk]
 ·show Zj (List.drop (Uu ⟨e,at_,cur⟩).length _) _;rw [Jm];simp [Zj]
 have Y0:=Kt;have Xr:=Kt;have Ji:=@J5;have Jl:=@Jm;have Kq:Keg:=⟨⟩;exact Qa):p:=h
class Keh:Prop
theorem Keh.k (_:Keh) (h:p:=by
 refine ⟨[90000,90001,90002],by simp,rfl,Zjt,?_⟩
 simp [Ze,lk,Q4,rnA,rnAs,rk]):p:=h
class Keb:Prop
theorem Keb.k (_:Keb) (h:p:=by
 refine Z4 [5,9,10,11,12,13,14,15,16,17,18,19,20,21] (fun q:Nat×List (Rose Part)×Nat×List UInt8=>[(8,.d (.int .i64 q.1))]) (fun q:Nat×List (Rose Part)×Nat×List UInt8=>[(90000,.box true [.bad 58,.sl 90001 q.2.2.2.length,.d (.list 8 (e.map enc)),.d (.int .i64 q.2.2.1)]),(90001,.brow 5 q.2.2.2)]) (fun q:Nat×List (Rose Part)×Nat×List UInt8=>q.1≤txt.length∧Ss Xj e q.2.2.1 q.2.1∧(∀ y∈q.2.1,(nds y).length<n∧∀ p∈nds y,fB p)∧Vg (txt.drop q.1)=q.2.1.length∧q.2.2.1+(ndss q.2.1).length=J∧q.2.2.2++Jf (txt.drop q.1) (prTs q.2.1)=V) (fun q:Nat×List (Rose Part)×Nat×List UInt8=>txt.length-q.1) (0,ks,i,l) ?_ ?_ ?_
 ·exact ⟨Nat.zero_le _,Xs,J8,Qgy,hJ,hV⟩
 ·exact Xa
 rintro ⟨k,zs,at_,cur⟩ ⟨hk,yS,fN,yT,yU,Ph⟩;simp only at hk yS fN yT yU Ph;rcases Qh k txt.length with ⟨Qg,Qz⟩|⟨Qg,Qz⟩
 ·have Q2:=Qc ([]:List UInt8) Qg;rw [Zwm Qg] at yT Ph;obtain ⟨s,hs⟩:=exq (txt.getD k []);rw [hs] at Q2 yT Ph;by_cases oF:s=[]
  ·subst oF;cases zs with
   | nil=>simp [Vg] at yT
   | cons y zs =>
    obtain ⟨hy,En⟩:=yS.head;rw [prTs,nW,←List.append_assoc] at Ph;rw [Vg,if_pos rfl,Zd] at yT;rw [ndss,Zb] at yU;obtain ⟨c2,oH⟩:=exq (cur++prT y);rw [oH] at Ph;have Ziq:c2.length≤10000000000:=by rw [←Ph,Zb] at Z8;omega
    have Ql:=Pu (n:=n) (a:=⟨e,at_,cur⟩) (y:=y) rfl oH;have Q3:=Nj (e:=e) (i:=at_+(nds y).length) (List.append_nil c2);have Qx:(([]:List UInt8)==[])=true:=rfl;have Y0:=Kt;have Xr:=Kt;have Kq:Kec:=⟨⟩;exact Qa
  ·rw [Ai oF,←List.append_assoc] at Ph;rw [Vg,if_neg oF,Nat.zero_add] at yT;obtain ⟨c2,oH⟩:=exq (cur++s);rw [oH] at Ph;have Ziq:c2.length≤10000000000:=by rw [←Ph,Zb] at Z8;omega
   have Q3:=Nj (e:=e) (i:=at_) oH;have Qx:(s==[])=false:=by rw [Za];exact oF
   have Y0:=Kt;have Xr:=Kt;have Kq:Kef:=⟨⟩;exact Qa
 ·have Az:txt.drop k=[]:=List.drop_of_length_le Qg;rw [Az] at yT Ph;have Qdo:zs=[]:=List.length_eq_zero_iff.1 yT.symm;subst Qdo;rw [Jf,List.append_nil] at Ph;rw [ndss,List.length_nil,Nat.add_zero] at yU;subst Ph;subst yU;have Y0:=Kt;have Xr:=Kt;have Kq:Keh:=⟨⟩;exact Qa):p:=h
theorem stepbm_SayA (n:Nat) (ih:X9 Tryz.prog (40,Xv n)):X9 Tryz.prog (63,(Zs n)):=by
 obtain ⟨Kx,Kt,Kc,Kd,Kb,Ku,Kw,K,Y0,Xr,_⟩:=Yc Qp Z0 [] false (A6 ih (Xv.eq_def n) (A6 Vw lP Yb));refine bR K Tryz.func63 [] rfl 22 rfl (fun c hc x X5=>?_);obtain ⟨⟨e,i,l⟩,txt,ks⟩:=x;obtain ⟨⟨he,Xs,J8⟩,Qgy,Zxq,Z8⟩:=X5;simp only at he Xs J8 Qgy Zxq Z8;obtain ⟨V,hV⟩:=exq (l++Jf txt (prTs ks));obtain ⟨J,hJ⟩:=exq (i+(ndss ks).length);have Jc:=Q8 (n:=n) (a:=⟨e,i,l⟩) hJ hV;rw [hV] at Z8;refine ⟨?_,?_,?_,?_,?_⟩
 ·show Xg [.ref 90000 0,.sl 90002 txt.length] (Jq ⟨e,i,l⟩ txt);rw [Zt];simp [Xg,Jp,Obj.tied,Zr,keptAll,AV.kept,Zq,Jv,lk]
 ·show Zr (Jq ⟨e,i,l⟩ txt);rw [Zt];simp [Zr]
 ·rw [Jc];show Xg [] (Jq ⟨e,J,V⟩ txt);rw [Zt];simp [Xg,Jp,Obj.tied,Zr,keptAll,AV.kept,Zq,Jv,lk]
 ·rw [Jc];show (Jq ⟨e,i,l⟩ txt).length≤(Jq ⟨e,J,V⟩ txt).length;rw [Zt,Zt];simp
 show U6 Kx c (V5 _ _ (Jq ⟨e,i,l⟩ txt).length (.tup []) ((Zs n).post (⟨e,i,l⟩,txt,ks))) ⟨[.ref 90000 0,.sl 90002 txt.length]++Vf 20,Zq (Jq ⟨e,i,l⟩ txt)⟩;rw [Jc];show U6 _ c (V5 _ _ (Jq ⟨e,i,l⟩ txt).length (.tup []) (Jq ⟨e,J,V⟩ txt)) _;rw [Zt,Zt];cases hc;have Y0:=Kt;have Xr:=Kt;have Kq:Keb:=⟨⟩;exact Qa
end Go.Am.Ty
