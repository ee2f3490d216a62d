/- Contracts of functions that the law reaches, and plain laws. Conditions: those that each contract states. -/
import Derived.Test.YtpgfllgpliffaaaGreatDoorA6
import Derived.Shelf.SlIter.Nil
import Derived.Shelf.SlIterI.Nil
import Derived.Shelf.SortM.Plain
import Derived.Shelf.SortM.SortNone
set_option maxHeartbeats 4000000
set_option linter.unusedVariables false
set_option linter.unusedSimpArgs false
variable {p:Prop}
set_option maxRecDepth 100000
namespace Go.Am.Ty
open Go.Proofs Go.RowKit
open Enc (enc dec)
def Zal (T n:Nat):Prop:=(T=56∧n=0)∨(T=96∧n=0)∨(T=58∧n=2)
def Jh (T:Nat) (l:List UInt8) (rest:List D):List Obj:=[.box true (.bad T::.sl 90001 l.length::rest.map .d),.brow 5 l]
structure BX where
 T:Nat
 l:List UInt8
 rest:List D
def Zub (b:BX):Prop:=Zal b.T b.rest.length
theorem bU {o:Zz}:∀ {l:List D},keptAll o (l.map .d)
 | []=>trivial
 | x::l=>⟨trivial,bU⟩
theorem Ni {T:Nat} {l:List UInt8} {rest:List D} {args:List AV} (h:keptAll (Zq (Jh T l rest)) args):Xg args (Jh T l rest):=by
 refine ⟨h,?_⟩;simp only [Jh,Jm,Obj.tied,keptAll,AV.kept,and_true,true_and];exact ⟨by simp [Zq,Jn,lk],bU⟩
theorem zC {T n:Nat} (h:Zal T n):liesAt Tryz.prog Tryz.prog.depth T ((n+2) / Tryz.prog.cellsOf T) 0 56 1=true:=by
 rcases h with ⟨rfl,rfl⟩|⟨rfl,rfl⟩|⟨rfl,rfl⟩<;>kernel_rfl
theorem Cr {T:Nat} {l:List UInt8} {rest:List D} {base:Nat} {pass:Nat→Prop} {F0:Anc} {m:Nat→Nat} {G:Gh} {tm:List AV} {a:Act} {w:World} (h:SRg base pass F0 m G ⟨tm,Zq (Jh T l rest)⟩ a w) :
  ∃ b p rs,G.γ 90000=some b∧w.heap[b]?=some (.cells (p::G.hd 90001::rs).toArray T (0,0))∧(p=.pointer none∨p=.pointer (some ⟨b,0,none⟩))∧RAs ⟨w,m⟩ G (lk (Zq (Jh T l rest))) (rest.map .d) rs ∧
   (∀ u∈p::G.hd 90001::rs,u.oneCell'=true)∧m b=0∧rs.length=rest.length:=by
 have hk:lk (Zq (Jh T l rest)) 90000=some (.box true (.bad T::.sl 90001 l.length::rest.map .d)):=rfl;have aK:lk (Zq (Jh T l rest)) 90001=some (.brow 5 l):=rfl;have X3:=h.objs 90000 _ hk;simp only [Z8] at X3;obtain ⟨b,cs,t,h1,h2,h3,h4,h5,h6⟩:=X3;obtain ⟨rfl,h7⟩:=h6 T rfl;obtain ⟨cs⟩:=cs;simp only [RAs] at h3;obtain ⟨p,r,rfl,-,v,rs,rfl,hv,h3⟩:=h3;simp only [RA,aK] at hv;have hv:=hv.2.2 trivial;subst hv;have hl:=RAs.length h3;exact ⟨b,p,rs,h1,h2,by simpa using h7,h3,h4,h5,by simpa using hl⟩
def Vq:BCon where
 X:=BX
 ok x:=Zub x
 args x:=[.ref 90000 0]
 objs x:=Jh x.T x.l x.rest
 res x:=.tup []
 post x:=Jh x.T x.l x.rest
theorem xZ {T:Nat} {l:List UInt8} {rest:List D} {base:Nat} {pass:Nat→Prop} {F0:Anc} {m:Nat→Nat} {G:Gh} {tm:List AV} {a:Act} {w:World} (h:SRg base pass F0 m G ⟨tm,Zq (Jh T l rest)⟩ a w) {b:Nat} {p:Value} {rs:List Value} (hb:G.γ 90000=some b)
  (hg:w.heap[b]?=some (.cells (p::G.hd 90001::rs).toArray T (0,0))) (hr:RAs ⟨w,m⟩ G (lk (Zq (Jh T l rest))) (rest.map .d) rs) (h1:∀ u∈p::G.hd 90001::rs,u.oneCell'=true) (hm:m b=0) :
  SRg base pass F0 m G ⟨tm,Zq (Jh T l rest)⟩ a (w.setCell ⟨b,0,none⟩ (.pointer (some ⟨b,0,none⟩))):=by
 have hk:lk (Zq (Jh T l rest)) 90000=some (.box true (.bad T::.sl 90001 l.length::rest.map .d)):=rfl;have aK:lk (Zq (Jh T l rest)) 90001=some (.brow 5 l):=rfl;rw [setCell_eq_setRow w b 0 _ T (0,0) _ hg];have he:((p::G.hd 90001::rs).toArray.setIfInBounds 0 (.pointer (some ⟨b,0,none⟩)))=(Value.pointer (some ⟨b,0,none⟩)::G.hd 90001::rs).toArray:=by simp
 rw [he];have hu:upd (Zq (Jh T l rest)) 90000 (.box true (.bad T::.sl 90001 l.length::rest.map .d))=Zq (Jh T l rest):=rfl;have:=(h.write (cs:=(Value.pointer (some ⟨b,0,none⟩)::G.hd 90001::rs).toArray) (o':=.box true (.bad T::.sl 90001 l.length::rest.map .d)) hk rfl hb hg (fun off ho=>by omega) (fun _=>rfl) (by simp) (fun hF N9=>by
  simp only [Z8];refine ⟨b,_,T,hb,setRow_heap w b _ _ T (0,0) hg,?_,?_,hm,?_⟩
  ·simp only [RAs,RA];refine ⟨_,_,rfl,rfl,_,_,rfl,⟨h1 _ (by simp),?_⟩,RAs.mono hF N9 hr⟩
   rw [Jb,if_neg (by omega),aK]
   exact ⟨Zk _,fun _=>rfl⟩
  ·intro u hu;simp only [Zm] at hu;rcases hu with rfl|rfl|hu
   ·rfl
   ·exact h1 _ (by simp)
   ·exact h1 _ (by simp [hu])
  ·intro T' hT;simp only [List.head?_cons,Zb,AV.bad.injEq] at hT;exact ⟨hT,.inr rfl⟩)).2.2
 rw [hu] at this;exact this
theorem bK {base:Nat} {pass:Nat→Prop} {F0:Anc} {m:Nat→Nat} {G:Gh} {tm:List AV} {o:Zz} {vs:Array Value} {w:World} (h:SRg base pass F0 m G ⟨tm,o⟩ ⟨vs,[]⟩ w):SRg base pass F0 m G ⟨[],o⟩ ⟨#[],[]⟩ w :=
 ⟨rfl,by simp [RAs],h.objs,h.apart,h.mine,h.frame,h.old,h.new,h.small,h.lent⟩
set_option maxHeartbeats 4000000 in
theorem jR:Wm Tryz.prog (107,Vq):=by
 refine ⟨Xc Tryz.func107 (by kernel_rfl) rfl,?_⟩
 rintro ⟨T,l,rest⟩ Xr;have Xr:Zal T rest.length:=Xr;have Ztf:keptAll (Zq (Jh T l rest)) [.ref 90000 0]:=by simp [Jh,keptAll,AV.kept,Zq,Jn,lk]
 refine ⟨Ni Ztf,by simp [Vq,Jh,Zx],Ni trivial,by simp [Vq],?_⟩
 intro m w G vs hs
 change SRg w.heap.size (U5 G (Jh T l rest)) ⟨⟨w,m⟩,G,lk (Zq (Jh T l rest))⟩ m G ⟨[.ref 90000 0],Zq (Jh T l rest)⟩ ⟨vs.toArray,[]⟩ w at hs
 obtain ⟨b,p,rs,g1,g2,g3,g4,g5,g6,g7⟩:=Cr hs;have ht:=hs.tmps;have hk:lk (Zq (Jh T l rest)) 90000=some (.box true (.bad T::.sl 90001 l.length::rest.map .d)):=rfl;simp only [RAs,RA,hk] at ht;obtain ⟨v,r,pQ,⟨_,hv⟩,rfl⟩:=ht;obtain ⟨b',e1,rfl⟩:=hv rfl;rw [g1] at e1;injection e1 with e1
 subst e1;have pQ:vs=[.pointer (some ⟨b,0,none⟩)]:=pQ;subst pQ;have h0:w.cell? ⟨b,0,none⟩=some p:=by simp [World.cell?,g2]
 have Ztt:w.shape? b=some (T,rest.length+2):=by simp [World.shape?,g2,g7]
 have Zzd:w.frozen? ⟨b,0,none⟩=false:=by simp [World.frozen?,g2]
 have iN:=bK hs;obtain ⟨j,hj,Zvu⟩:∃ j,Tryz.prog.info? 56=some j∧j.size≠0:=by
  obtain ⟨d,-⟩:=(Qj 56 rfl).und;obtain ⟨j,z,h1,h2,-⟩:=(Qj 56 rfl).info;exact ⟨j,h1,by rw [h2];decide⟩
 show Calls Tryz.prog 107 #[.pointer (some ⟨b,0,none⟩)] w _;rcases g3 with rfl|rfl
 ·have key:Calls Tryz.prog 107 #[.pointer (some ⟨b,0,none⟩)] w fun e w'=>e=.returned (.tuple #[])∧w'=w.setCell ⟨b,0,none⟩ (.pointer (some ⟨b,0,none⟩)):=by
   go_enter Tryz.func107,Tryz.ntmps107
   go_wp2
   rw [Lib.run_to_unsafe w ⟨b,0,none⟩ Tryz.underlying53 Tryz.underlying138 hj Zvu Ztt (Nat.succ_pos _)];simp only [Result.andThen];rw [Oper.upon_value]
   go_wp2
   rw [run_callFunc_extern Tryz.func141 (by kernel_rfl) (by kernel_rfl) (by kernel_rfl) (e:=Extern.AbiNoEscape.same) (by kernel_rfl)]
   rw [Lib.run_noEscape];simp only [Result.andThen];rw [Oper.upon_value]
   go_wp2
   rw [Lib.run_from_unsafe w ⟨b,0,none⟩ Tryz.underlying138 Tryz.underlying53 hj Ztt (zC Xr)];simp only [Result.andThen];rw [Oper.upon_value]
   go_wp2
   go_end0
   exact ⟨rfl,rfl⟩
  refine key.mono ?_;rintro e w' ⟨rfl,rfl⟩;exact ⟨_,m,G,rfl,by simp only [BCon.rv,Vq,RA,R,Rs];exact ⟨[],rfl,rfl⟩,xZ iN g1 g2 g4 g5 g6⟩
 ·have key:Calls Tryz.prog 107 #[.pointer (some ⟨b,0,none⟩)] w fun e w'=>e=.returned (.tuple #[])∧w'=w:=by
   go_enter Tryz.func107,Tryz.ntmps107
   go_wp2
   rw [Lib.run_neq_ptr_same w _ Tryz.underlying53 hj]
   go_wp2
   go_end0
   exact ⟨rfl,rfl⟩
  refine key.mono ?_;rintro e w' ⟨rfl,rfl⟩;exact ⟨_,m,G,rfl,by simp only [BCon.rv,Vq,RA,R,Rs];exact ⟨[],rfl,rfl⟩,iN⟩
theorem Ep {P:Program} {w:World} {ops:Array Oper} {rest:List Oper} {o:Oper} {a:Act} {Q:Exit→Act→World→Prop} (Mf:o.guard=none) (sl x:Operand) (t u:TypeId)
  (ho:o.op=.call { callee:=.builtin .append,args:=#[sl,x],argTypes:=#[t,u] }) {v v' vx:Value} {w':World} (hs:a.eval sl=v) (hx:a.eval x=vx) (hr:(Builtin.append_ #[t,u] o.type #[v,vx]).run P w=.ok v' w')
  (h:wpList P ops Q rest (a.put o.dst v') w'):wpList P ops Q (o::rest) a w:=by
 refine wpList_plain Mf fun K hK=>?_;unfold Oper.wp execOp;simp only [ho,resolve,invoke,builtin,Sem.run_bind,Sem.run_pure,Result.andThen_ok,List.map_toArray,List.map_cons,List.map_nil,hs,hx,hr];exact hK _ _ h
def Jy:BCon where
 X:=BX×List UInt8
 ok x:=Zub x.1∧x.1.l.length+x.2.length≤100000000000
 args x:=[.ref 90000 0,.d (.str x.2)]
 objs x:=Jh x.1.T x.1.l x.1.rest
 res x:=.tup [.int .i64 x.2.length,.any]
 post x:=Jh x.1.T (x.1.l++x.2) x.1.rest
theorem wU:∃ ii,Tryz.prog.info? 5=some ii∧ii.size=1∧ii.bytes=1∧ii.zero=some (.int .u8 0):=by
 obtain ⟨j,z,h1,h2,h3,h4,-,h6,-⟩:=(Qj 5 rfl).info;have hz:=h6 ⟨default,fun _=>0⟩;rw [jX] at h2 h3 hz;simp only [R] at hz;subst hz;exact ⟨j,h1,h2,h3,h4⟩
theorem rK {T:Nat} {l l':List UInt8} {rest:List D} {base:Nat} {pass:Nat→Prop} {F0:Anc} {m:Nat→Nat} {G G':Gh} {a:Act} {w w':World} (h:SRg base pass F0 m G ⟨[],Zq (Jh T l rest)⟩ a w) {b:Nat} {p:Value} {rs:List Value} (hb:G.γ 90000=some b)
  (hg:w.heap[b]?=some (.cells (p::G.hd 90001::rs).toArray T (0,0))) (hp:p=.pointer none∨p=.pointer (some ⟨b,0,none⟩)) (hr:RAs ⟨w,m⟩ G (lk (Zq (Jh T l rest))) (rest.map .d) rs) (h1:∀ u∈p::G.hd 90001::rs,u.oneCell'=true) (hm:m b=0)
  (hF:Fix.le ⟨w,m⟩ ⟨w',m⟩) (hG:∀ j,j≠90001→G'.γ j=G.γ j∧G'.hd j=G.hd j) (h2:SRg base pass F0 m G' ⟨[],upd (Zq (Jh T l rest)) 90001 (.brow 5 l')⟩ a w') (W3:∀ k,k<w.heap.size→G.γ 90001≠some k→w'.heap[k]?=w.heap[k]?) (ho:(G'.hd 90001).oneCell'=true) :
  SRg base pass F0 m G' ⟨[],Zq (Jh T l' rest)⟩ a (w'.setCell ⟨b,1,none⟩ (G'.hd 90001)):=by
 have hk:lk (Zq (Jh T l rest)) 90000=some (.box true (.bad T::.sl 90001 l.length::rest.map .d)):=rfl;have aK:lk (Zq (Jh T l rest)) 90001=some (.brow 5 l):=rfl;have Zc2:b<w.heap.size:=(Array.getElem?_eq_some_iff.1 hg).1;have Gk:G.γ 90001≠some b:=fun e=>by
  have:=h.apart 90000 90001 _ _ b hk aK rfl rfl hb e;omega
 have Zcz:w'.heap[b]?=some (.cells (p::G.hd 90001::rs).toArray T (0,0)):=(W3 b Zc2 Gk).trans hg;have Dq:G'.γ 90000=some b:=by rw [(hG 90000 (by omega)).1];exact hb
 rw [setCell_eq_setRow w' b 1 _ T (0,0) _ Zcz];have he:((p::G.hd 90001::rs).toArray.setIfInBounds 1 (G'.hd 90001))=(p::G'.hd 90001::rs).toArray:=by simp
 rw [he];have eT:lk (upd (Zq (Jh T l rest)) 90001 (.brow 5 l')) 90000=some (.box true (.bad T::.sl 90001 l.length::rest.map .d)):=rfl;have hu:upd (upd (Zq (Jh T l rest)) 90001 (.brow 5 l')) 90000 (.box true (.bad T::.sl 90001 l'.length::rest.map .d))=Zq (Jh T l' rest):=rfl;have Le:∀ {F:Fix} {G1:Gh} {L:Nat→Option Obj},Fix.le ⟨w,m⟩ F→RAs F G1 L (rest.map .d) rs:=fun hf=>RAs.of_Rs (Rs.mono hf (Rs.of_RAs hr));have:=(h2.write (cs:=(p::G'.hd 90001::rs).toArray) (o':=.box true (.bad T::.sl 90001 l'.length::rest.map .d)) eT rfl Dq Zcz (fun off ho=>by omega) (fun _=>rfl) (by simp) (fun Zp2 N9=>by
  simp only [Z8];refine ⟨b,_,T,Dq,setRow_heap w' b _ _ T (0,0) Zcz,?_,?_,hm,?_⟩
  ·simp only [RAs,RA];refine ⟨_,_,rfl,h1 _ (by simp),_,_,rfl,⟨ho,?_⟩,Le (Fix.le_trans hF Zp2)⟩
   rw [hu,show lk (Zq (Jh T l' rest)) 90001=some (.brow 5 l') from rfl];exact ⟨Zk _,fun _=>rfl⟩
  ·intro u hu;simp only [Zm] at hu;rcases hu with rfl|rfl|hu
   ·exact h1 _ (by simp)
   ·exact ho
   ·exact h1 _ (by simp [hu])
  ·intro T' hT;simp only [List.head?_cons,Zb,AV.bad.injEq] at hT;exact ⟨hT,by simpa using hp⟩)).2.2
 rw [hu] at this;exact this
structure WSt (w:World) (G:Gh) (m:Nat→Nat) (b T:Nat) (l s:List UInt8) (rest:List D) (w1:World):Prop where
 ex:∃ (A:Option Addr) (n cp:Nat) (A':Option Addr) (n' cp':Nat) (m1:Nat→Nat) (G2:Gh) (w2:World),w1.cell? ⟨b,1,none⟩=some (.slice A n cp) ∧
  (Builtin.append_ #[54,9] 54 #[.slice A n cp,.string ⟨s.toArray⟩]).run Tryz.prog w1=.ok (.slice A' n' cp') w2∧w2.cell? ⟨b,1,none⟩=some (.slice A n cp)∧w2.frozen? ⟨b,1,none⟩=false ∧
  SRg w.heap.size (U5 G (Jh T l rest)) ⟨⟨w,m⟩,G,lk (Zq (Jh T l rest))⟩ m1 G2 ⟨[],Zq (Jh T (l++s) rest)⟩ ⟨#[],[]⟩ (w2.setCell ⟨b,1,none⟩ (.slice A' n' cp'))
theorem tE {base:Nat} {pass:Nat→Prop} {F0:Anc} {m:Nat→Nat} {G:Gh} {st:AS} {a:Act} {w:World} (h:SRg base pass F0 m G st a w) {i U:Nat} {l:List UInt8} (hi:lk st.objs i=some (.brow U l)):∃ A n cp,G.hd i=.slice A n cp:=by
 have X3:=h.objs i _ hi;simp only [Z8] at X3;rcases X3 with ⟨_,h2,_⟩|⟨_,_,_,_,h2,_⟩<;>exact ⟨_,_,_,h2⟩
theorem Znu {w w1:World} {G G1:Gh} {m m1:Nat→Nat} {b T:Nat} {l s:List UInt8} {rest:List D} (Js:l.length+s.length≤100000000000)
  (h1:SRg w.heap.size (U5 G (Jh T l rest)) ⟨⟨w,m⟩,G,lk (Zq (Jh T l rest))⟩ m1 G1 ⟨[],Zq (Jh T l rest)⟩ ⟨#[],[]⟩ w1) (g1:G.γ 90000=some b):WSt w G m b T l s rest w1:=by
 have hk:lk (Zq (Jh T l rest)) 90000=some (.box true (.bad T::.sl 90001 l.length::rest.map .d)):=rfl;have aK:lk (Zq (Jh T l rest)) 90001=some (.brow 5 l):=rfl;obtain ⟨b1,p1,rs1,k1,k2,k3,k4,k5,k6,k7⟩:=Cr h1;have V3:b1=b:=by
  obtain ⟨_,o',q1,q2⟩:=h1.lent 90000 _ hk;rw [hk] at q1;injection q1 with q1
  subst q1;have:=(q2.1 rfl).2;have g1':(⟨⟨w,m⟩,G,lk (Zq (Jh T l rest))⟩:Anc).G0.γ 90000=some b:=g1;rw [g1',k1] at this;injection this
 subst V3;obtain ⟨ii,i1,i2,i3,i4⟩:=wU;obtain ⟨v',w2,G2,r1,r2,r3,r4,r5,r6⟩:=Zcj (P:=Tryz.prog) (s:=s) h1 aK Tryz.underlying54 Tryz.underlying9 i1 i2 i3 i4 (by omega) 54
 subst r2;have c1:w1.cell? ⟨b1,1,none⟩=some (G1.hd 90001):=by simp [World.cell?,k2]
 obtain ⟨A',n',cp',hA'⟩:=tE r4 (i:=90001) (U:=5) (l:=l++s) (by rw [Jb,if_pos rfl])
 obtain ⟨A,n,cp,hA⟩:=tE h1 aK;have eU:=rK h1 k1 k2 k3 k4 k5 k6 r6 r3 r4 r5 (by rw [hA'];rfl)
 have Zc2:b1<w1.heap.size:=(Array.getElem?_eq_some_iff.1 k2).1;have Gk:G1.γ 90001≠some b1:=fun e=>by
  have:=h1.apart 90000 90001 _ _ b1 hk aK rfl rfl k1 e;omega
 have Zcz:w2.heap[b1]?=some (.cells (p1::G1.hd 90001::rs1).toArray T (0,0)):=(r5 b1 Zc2 Gk).trans k2;have d1:w2.cell? ⟨b1,1,none⟩=some (G1.hd 90001):=by simp [World.cell?,Zcz]
 have f1:w2.frozen? ⟨b1,1,none⟩=false:=by simp [World.frozen?,Zcz]
 rw [hA',hA] at r1;rw [hA'] at eU;rw [hA] at c1 d1;exact ⟨A,n,cp,A',n',cp',m1,G2,w2,c1,r1,d1,f1,eU⟩
theorem S2:Wm Tryz.prog (87,Jy):=by
 refine ⟨Xc Tryz.func87 (by kernel_rfl) rfl,?_⟩
 rintro ⟨⟨T,l,rest⟩,s⟩ Xr;obtain ⟨hT,Js⟩:Zal T rest.length∧l.length+s.length≤100000000000:=Xr;have Ztf:keptAll (Zq (Jh T l rest)) [.ref 90000 0,.d (.str s)]:=by simp [Jh,keptAll,AV.kept,Zq,Jn,lk]
 refine ⟨Ni Ztf,by simp [Jy,Jh,Zx],Ni trivial,by simp [Jy,Jh],?_⟩
 intro m w G vs hs
 change SRg w.heap.size (U5 G (Jh T l rest)) ⟨⟨w,m⟩,G,lk (Zq (Jh T l rest))⟩ m G ⟨[.ref 90000 0,.d (.str s)],Zq (Jh T l rest)⟩ ⟨vs.toArray,[]⟩ w at hs
 obtain ⟨b,p,rs,g1,g2,g3,g4,g5,g6,g7⟩:=Cr hs;have ht:=hs.tmps;have hk:lk (Zq (Jh T l rest)) 90000=some (.box true (.bad T::.sl 90001 l.length::rest.map .d)):=rfl;simp only [RAs,RA,R,hk] at ht;obtain ⟨v,r,pQ,⟨_,hv⟩,v2,r2,rfl,rfl,rfl⟩:=ht;obtain ⟨b',e1,rfl⟩:=hv rfl;rw [g1] at e1;injection e1 with e1
 subst e1;have pQ:vs=[.pointer (some ⟨b,0,none⟩),.string ⟨s.toArray⟩]:=pQ;subst pQ;have iN:=bK hs;have Zx4:=(jR.2 ⟨T,l,rest⟩ hT).2.2.2.2 m w G [.pointer (some ⟨b,0,none⟩)] ⟨rfl,by
  simp only [Vq,RAs,RA];exact ⟨_,_,rfl,⟨rfl,fun _=>⟨b,g1,rfl⟩⟩,rfl⟩,hs.objs,hs.apart,hs.mine,hs.frame,hs.old,hs.new,hs.small,hs.lent⟩
 change Calls Tryz.prog 107 #[.pointer (some ⟨b,0,none⟩)] w _ at Zx4
 have Zs6:Calls Tryz.prog 107 #[.pointer (some ⟨b,0,none⟩)] w fun e w1=>e=.returned (.tuple #[])∧WSt w G m b T l s rest w1:=by
  refine Zx4.mono ?_;rintro e w1 ⟨v1,m1,G1,rfl,Zay,h1⟩;simp only [BCon.rv,Vq,RA,R,Rs] at Zay;obtain ⟨cs0,rfl,rfl⟩:=Zay;exact ⟨rfl,Znu Js h1 g1⟩
 show Calls Tryz.prog 87 #[.pointer (some ⟨b,0,none⟩),.string ⟨s.toArray⟩] w _;have e240:∀ args w,(callFunc 107 args).run Tryz.prog w=.ok (.enter 107 args) w:=Xc Tryz.func107 (by kernel_rfl) rfl
 go_enter Tryz.func87,Tryz.ntmps87
 go_wp2_with (go_at_call 107;refine Zs6.mono ?_)
 rintro e w1 rfl hW;obtain ⟨A,n,cp,A',n',cp',m1,G2,w2,c1,r1,d1,f1,eU⟩:=hW
 go_wp2_with (at_builtin;refine Ep rfl _ _ _ _ rfl rfl rfl r1 ?_)
 go_wp2
 go_ret2
 refine ⟨_,m1,G2,rfl,?_,eU⟩;simp only [BCon.rv,Jy,RA,R,Rs];exact ⟨_,rfl,_,_,rfl,rfl,_,_,rfl,rfl,rfl⟩
theorem Mq (w:World) (g n k:Nat) (h:k≠g):(w.freeze ⟨g,0,none⟩ n).heap[k]?=w.heap[k]?:=by
 unfold World.freeze;split
 ·rfl
 ·simp only [Array.getElem?_modify];rw [if_neg (fun e=>h e.symm)]
theorem Iu (w:World) (g n:Nat):(w.freeze ⟨g,0,none⟩ n).heap.size=w.heap.size:=by
 unfold World.freeze;split<;>simp
theorem nP (w:World) (g n:Nat) (p:Addr):(w.freeze ⟨g,0,none⟩ n).cell? p=w.cell? p:=by
 by_cases h:p.block=g
 ·unfold World.freeze;split
  ·rfl
  ·unfold World.cell?;simp only [Array.getElem?_modify];rw [if_pos h.symm];cases w.heap[p.block]? with
   | none=>rfl
   | some o=>cases o<;>rfl
 ·exact World.cell?_of_block (Mq w g n p.block h)
def J6:BCon where
 X:=BX
 ok x:=Zub x∧x.l≠[]
 args x:=[.ref 90000 0]
 objs x:=Jh x.T x.l x.rest
 res x:=.str x.l
 post x:=[.box true (.bad x.T::.sl 90001 x.l.length::x.rest.map .d),.gone]
theorem uA {T n:Nat} {rest:List D}:Xg [] [.box true (.bad T::.sl 90001 n::rest.map .d),.gone]:=by
 refine ⟨trivial,?_⟩;simp only [Jm,Obj.tied,keptAll,AV.kept,and_true,true_and];exact ⟨by simp [Zq,Jn,lk],bU⟩
theorem S3:Wm Tryz.prog (41,J6):=by
 refine ⟨Xc Tryz.func41 (by kernel_rfl) rfl,?_⟩
 rintro ⟨T,l,rest⟩ Xr;obtain ⟨hT,Zcw⟩:Zal T rest.length∧l≠[]:=Xr;have Ztf:keptAll (Zq (Jh T l rest)) [.ref 90000 0]:=by simp [Jh,keptAll,AV.kept,Zq,Jn,lk]
 refine ⟨Ni Ztf,by simp [J6,Jh,Zx],uA,by simp [J6,Jh],?_⟩
 intro m w G vs hs
 change SRg w.heap.size (U5 G (Jh T l rest)) ⟨⟨w,m⟩,G,lk (Zq (Jh T l rest))⟩ m G ⟨[.ref 90000 0],Zq (Jh T l rest)⟩ ⟨vs.toArray,[]⟩ w at hs
 obtain ⟨b,p,rs,g1,g2,g3,g4,g5,g6,g7⟩:=Cr hs;have ht:=hs.tmps;have hk:lk (Zq (Jh T l rest)) 90000=some (.box true (.bad T::.sl 90001 l.length::rest.map .d)):=rfl;have aK:lk (Zq (Jh T l rest)) 90001=some (.brow 5 l):=rfl;simp only [RAs,RA,hk] at ht;obtain ⟨v,r,pQ,⟨_,hv⟩,rfl⟩:=ht;obtain ⟨b',e1,rfl⟩:=hv rfl;rw [g1] at e1;injection e1 with e1
 subst e1;have pQ:vs=[.pointer (some ⟨b,0,none⟩)]:=pQ;subst pQ;have iN:=bK hs;have X3:=iN.objs 90001 _ aK;simp only [Z8] at X3;rcases X3 with ⟨_,_,h3⟩|⟨g,cap,cs,h1,h2,h3,h4,h5,h6,h7,h8⟩
 ·exact absurd h3 Zcw
 have Ax:0<l.length:=List.length_pos_iff.2 Zcw;have hM:cap≤4294967296∨True:=.inr trivial;rw [h2] at g2;have Zc2:b<w.heap.size:=(Array.getElem?_eq_some_iff.1 g2).1;have Qad:b≠g:=fun e=>by
  have:=iN.apart 90000 90001 _ _ b hk aK rfl rfl g1 (by rw [e];exact h1)
  omega
 have c1:w.drew.cell? ⟨b,1,none⟩=some (.slice (some ⟨g,0,none⟩) l.length cap):=by
  have:w.drew.heap[b]?=_:=g2;simp [World.cell?,this]
 have Qaf:(Builtin.unsafeSliceData_ #[54] 79 #[.slice (some ⟨g,0,none⟩) l.length cap]).run Tryz.prog w.drew=.ok (.pointer (some ⟨g,0,none⟩)) w.drew :=
  Lib.run_unsafeSliceData_row _ _ _ _ _ _ (by omega)
 have Qae:(Builtin.unsafeString_ #[79,3] 9 #[.pointer (some ⟨g,0,none⟩),.int .i64 l.length]).run Tryz.prog w.drew=.ok (.string ⟨l.toArray⟩) (w.drew.freeze ⟨g,0,none⟩ l.length):=by
  refine Lib.run_unsafeString_row w.drew 79 3 9 5 Tryz.underlying79 (by kernel_rfl) g cap (by have hg':w.drew.heap[g]?=_:=h5;simp [World.shape?,hg',h6]) l Zcw h3 (by unfold maxLen at h4;omega) ?_
  intro j x hx;exact Zam h7 (show w.drew.heap[g]?=_ from h5) j (.int .u8 x.toNat) (by simp [Rl,hx])
 have Zv3:g<w.heap.size:=(Array.getElem?_eq_some_iff.1 h5).1;have aW:=iN.mine 90001 _ g aK rfl h1;have eU:SRg w.heap.size (U5 G (Jh T l rest)) ⟨⟨w,m⟩,G,lk (Zq (Jh T l rest))⟩ m G ⟨[],Zq [.box true (.bad T::.sl 90001 l.length::rest.map .d),.gone]⟩ ⟨#[],[]⟩ (w.drew.freeze ⟨g,0,none⟩ l.length):=by
  have hF:Fix.le ⟨w,m⟩ ⟨w.drew.freeze ⟨g,0,none⟩ l.length,m⟩:=by
   refine ⟨fun k=>⟨Zk _,fun off _=>nP w.drew g l.length ⟨k,off,none⟩⟩,fun k es c Zvp eT=>?_⟩;have:k≠g:=fun e=>by
    subst e;simp only at Zvp eT;rw [h5] at eT;cases eT
   exact (Mq w.drew g l.length k this).trans eT
  have fin:SRg w.heap.size (U5 G (Jh T l rest)) ⟨⟨w,m⟩,G,lk (Zq (Jh T l rest))⟩ m G ⟨[],upd (Zq (Jh T l rest)) 90001 .gone⟩ ⟨#[],[]⟩ (w.drew.freeze ⟨g,0,none⟩ l.length):=by
   refine (iN.obj 90001 .gone (w':=w.drew.freeze ⟨g,0,none⟩ l.length) (m':=m) (G':=G) hF (fun _ _=>⟨rfl,rfl⟩) ?_ (fun _=>trivial) ?_ ?_ ?_ ?_ ?_).2
   ·intro o ho;exact ⟨fun e=>(by cases e),fun s' els' k' e=>(by cases e)⟩
   ·intro j o hj hl ho b' hb';exact ⟨Mq w.drew g l.length b' (fun e=>hj (iN.apart j 90001 o _ g hl aK ho rfl (e▸hb') h1)),rfl⟩
   ·intro e;cases e
   ·refine ⟨?_,?_,?_,?_,fun b' Qd hp=>Mq w.drew g l.length b' (fun e=>?_)⟩
    ·unfold World.freeze;split<;>rfl
    ·unfold World.freeze;split<;>rfl
    ·unfold World.freeze;split<;>rfl
    ·rw [Iu];exact Zk _
    ·subst e;rcases aW.2 with h1|h1
     ·omega
     ·exact hp h1
   ·intro _ _ _;rfl
   ·intro b' Nd;rw [Iu] at Nd;exact iN.new b' Nd
  exact fin
 show Calls Tryz.prog 41 #[.pointer (some ⟨b,0,none⟩)] w _;have key:Calls Tryz.prog 41 #[.pointer (some ⟨b,0,none⟩)] w fun e w'=>e=.returned (.string ⟨l.toArray⟩)∧w'=w.drew.freeze ⟨g,0,none⟩ l.length:=by
  go_enter Tryz.func41,Tryz.ntmps41
  go_wp2
  go_region
  all_goals (go_wp2;go_ret;exact ⟨rfl,rfl⟩)
 refine key.mono ?_;rintro e w' ⟨rfl,rfl⟩;refine ⟨_,m,G,rfl,?_,eU⟩;simp only [BCon.rv,J6,RA,R]
theorem N7 {T:Nat} {l:List UInt8}:Jh T l []=[.box true [.bad T,.sl 90001 l.length],.brow 5 l]:=rfl
theorem lW {T:Nat} {l s:List UInt8} {rest:List D}:Jy.post (⟨T,l,rest⟩,s)=Jh T (l++s) rest:=rfl
theorem Dr {x:BX} {s:List UInt8}:Jy.res (x,s)=.tup [.int .i64 s.length,.any]:=rfl
theorem rT {T:Nat} {l:List UInt8} {rest:List D}:J6.res ⟨T,l,rest⟩=.str l:=rfl
structure KS where
 l:List (List UInt8)
instance encKS:Enc KS:=⟨fun a=>.agg (a.l.map enc),fun x=>match x with
 | .agg l=>⟨l.map dec⟩
 | _=>⟨[]⟩,fun a=>by
  have h1:∀ l:List (List UInt8),(l.map (enc:List UInt8→D)).map dec=l:=fun l=>Wv;cases a;simp [h1]⟩
def pY:KS:=⟨[[63],[105,110,116],[98,111,111,108],[115,116,114,105,110,103],[117,110,105,116]]⟩
theorem aA:(enc pY:D)=.agg [.str [63],.str [105,110,116],.str [98,111,111,108],.str [115,116,114,105,110,103],.str [117,110,105,116]]:=rfl
def Bx:Con:=Pd pY
theorem nX:Jc Tryz.prog (117,Bx):=by
 obtain ⟨Kx,Kt,Kc,Kd,Kb,Ku,Kw,K,_⟩:=W5 Qj Z0 [] false W4;have Ko:=Bx.eq_def;refine Yv K Tryz.func117 [.cell 0 116] rfl 2 rfl (fun c hc Jj Zo=>?_);unfold Bx at Zo;obtain rfl:=cN Zo;have Qz:=aA;obtain ⟨k,Qu⟩:=exq (pY);rw [Qu] at Qz;cases hc;exact Uy
structure NX where
 t:List Node
 i:Nat
 l:List UInt8
def Vp:BCon where
 X:=NX
 ok x:=x.i<x.t.length∧x.t.length≤1000000∧(x.t.getD x.i n0).kind=0∧x.l.length≤10000000000
 args x:=[.ref 90000 0,.d (.list 3 (x.t.map enc)),.d (.int .i64 x.i)]
 objs x:=Jh 96 x.l []
 res x:=.int .i64 ((x.i:Int)+1)
 post x:=Jh 96 (x.l++[63]) []
theorem kV:Rk 2 [90000,90001]:=by
 intro j hj
 match j,hj with
 | 0,_=>rfl
 | 1,_=>rfl
theorem Zb5 {n:Node} (h:n.kind=0):n=⟨0,n.name,n.n⟩:=by
 cases n;simp_all
theorem Zrl {x:D} {l:List D}:el (x::l) 0=x:=rfl
class KcT:Prop
theorem KcT.k (_:KcT) (h:p:=by
 refine ⟨[90000,90001],by simp,rfl,kV,?_⟩
 simp [Zh,lk,J7,rnA,rnAs,rk]):p:=h
class KcS:Prop
theorem KcS.k (_:KcS) (h:p:=by
 refine dB (bc:=Jy) (⟨96,l,[]⟩,[63]) [90000,90001] ⟨.inr (.inl ⟨rfl,rfl⟩),by show l.length+1≤_;omega⟩ rfl (by simp) rfl ?_ ?_ ?_
 ·show Zh _ _ (Jh 96 l []) _;rw [N7];simp [Zh,lk,J7,rnA,rnAs,rk]
 ·show Zy (List.drop (Jh 96 l []).length _) _;rw [N7];simp [Zy]
 have P7:=Kt;have Qs:=@lW;have Q0:=@Dr;have Q6:=@N7;have Kq:KcT:=⟨⟩;exact Qw):p:=h
theorem goodb_NodeT:Wm Tryz.prog (91,Vp):=by
 obtain ⟨Kx,Kt,Kc,Kd,Kb,Ku,Kw,K,Y6,P7,_⟩:=W5 Qj Z0 [] false (Xa nX Bx.eq_def (kW S2 Jy.eq_def W4));refine jU K Tryz.func91 [.tmp 6] rfl 63 rfl (fun c hc x Xr=>?_);obtain ⟨t,i,l⟩:=x;obtain ⟨hi,ht,hk,hl⟩:=Xr;simp only at hi ht hk hl;have Qu:=Z9 n0 hi;rw [Zb5 hk] at Qu;obtain ⟨nm,lZ⟩:=exq ((t.getD i n0).name);obtain ⟨nn,Zy2⟩:=exq ((t.getD i n0).n);rw [lZ,Zy2] at Qu;have Qz:=aA;refine ⟨?_,?_,?_,?_,?_⟩
 ·exact Ni (by simp [Vp,Jh,keptAll,AV.kept,Zq,Jn,lk])
 ·simp [Vp,Jh,Zx]
 ·exact Ni trivial
 ·simp [Vp,Jh]
 show V4 _ c (V9 _ _ (Jh 96 l []).length (.int .i64 ((i:Int)+1)) (Jh 96 (l++[63]) [])) ⟨[.ref 90000 0,.d (.list 3 (t.map enc)),.d (.int .i64 i)]++Yp 60,Zq (Jh 96 l [])⟩;rw [N7,N7];cases hc;refine Kn 3 ?_;have P7:=Kt;have Qs:=@Zrl;have Kq:KcS:=⟨⟩;exact Qw
def B4:Con:=Xd (fun (t:Sl Node)=>t.l.length=1∧(t.l.getD 0 n0).kind=0) (fun _=>([63]:List UInt8))
theorem qQ {t:List Node} {i:Nat} {l:List UInt8}:Vp.post ⟨t,i,l⟩=Jh 96 (l++[63]) []:=rfl
theorem vJ {t:List Node} {i:Nat} {l:List UInt8}:Vp.res ⟨t,i,l⟩=.int .i64 ((i:Int)+1):=rfl
theorem uE {T:Nat} {l:List UInt8}:J6.post ⟨T,l,[]⟩=[.box true [.bad T,.sl 90001 l.length],.gone]:=rfl
class KcV:Prop
theorem KcV.k (_:KcV) (h:p:=by
 refine Z6 (bc:=J6) ⟨96,[63],[]⟩ [5,60005] ⟨.inr (.inl ⟨rfl,rfl⟩),by simp⟩ rfl (by simp) rfl ?_ ?_ ?_
 ·show Zh _ _ (Jh 96 [63] []) _;rw [N7];simp [Zh,lk,J7,rnA,rnAs,rk]
 ·show Zy (List.drop (Jh 96 [63] []).length _) _;rw [N7];simp [Zy]
 have Y6:=Kt;have P7:=Kt;have Qu:=@uE;have Qz:=@rT;have Qs:=@N7;exact fK):p:=h
class KcU:Prop
theorem KcU.k (_:KcU) (h:p:=by
 refine Z6 (bc:=Vp) ⟨t,0,[]⟩ [5,60005] ⟨by show 0<t.length;omega,by show t.length≤_;omega,hk,by simp⟩ rfl (by simp) rfl ?_ ?_ ?_
 ·show Zh _ _ (Jh 96 [] []) _;rw [N7];simp [Zh,lk,J7,rnA,rnAs,rk]
 ·show Zy (List.drop (Jh 96 [] []).length _) _;rw [N7];simp [Zy]
 have Y6:=Kt;have P7:=Kt;have Qu:=@qQ;have Qz:=@vJ;have Qs:=@N7;have Kq:KcV:=⟨⟩;exact Qw):p:=h
theorem good_PrintT:Jc Tryz.prog (65,B4):=by
 obtain ⟨Kx,Kt,Kc,Kd,Kb,Ku,Kw,K,Y6,P7,_⟩:=W5 Qj Z0 [300005,200096] false (kW goodb_NodeT Vp.eq_def (kW S3 J6.eq_def W4));have Ko:=B4.eq_def;refine Yv K Tryz.func65 [.tmp 2] rfl 13 rfl (fun c hc Jj Zo=>?_);unfold B4 at Zo;obtain ⟨⟨t⟩,rfl,ht,hk⟩:=Qp Zo;simp only at ht hk;clear Zo;cases hc;have Y6:=Kt;have P7:=Kt;have Kq:KcU:=⟨⟩;exact Qw
open Go.Proofs Go.Rose Go.Rose.Rose
def Hp:List (List UInt8)→List (List UInt8)→List UInt8
 | [],_=>[]
 | s::r,ks=>if s=[] then ks.headD []++Hp r ks.tail else s++Hp r ks
def cO:List (List UInt8)→Nat
 | []=>0
 | s::r=>(if s=[] then 1 else 0)+cO r
def eJ (p:Part):List (List UInt8) :=
 if p.kind=1 then [p.name]
 else if p.kind=2 then [[40,102,117,110,32,40],p.bind,[58,32],[63],[41,32,45,62,32],[],[41]]
 else [[40],[],[32],p.name,[32],[],[41]]
mutual
def prT:Rose Part→List UInt8
 | mk p ks=>Hp (eJ p) (prTs ks)
def prTs:List (Rose Part)→List (List UInt8)
 | []=>[]
 | x::xs=>prT x::prTs xs
end
def Zpp (p:Part):Prop:=p.label=[]∧((p.kind=1∧p.name≠[])∨(p.kind=2∧p.bind≠[]∧p.t.length=1∧(p.t.getD 0 n0).kind=0)∨(p.kind=9∧p.name≠[]))
theorem vM {r ks:List (List UInt8)} {k:List UInt8}:Hp ([]::r) (k::ks)=k++Hp r ks:=rfl
theorem qC {s:List UInt8} {r ks:List (List UInt8)} (h:s≠[]):Hp (s::r) ks=s++Hp r ks:=by rw [Hp,if_neg h]
structure AX where
 e:List Part
 i:Nat
 l:List UInt8
def Ol (a:AX):List Obj:=Jh 58 a.l [.list 8 (a.e.map enc),.int .i64 a.i]
theorem V6 (e:List Part) (i:Nat) (l:List UInt8):Ol ⟨e,i,l⟩=[.box true [.bad 58,.sl 90001 l.length,.d (.list 8 (e.map enc)),.d (.int .i64 i)],.brow 5 l]:=rfl
def Pn (a:AX) (txt:List (List UInt8)):List Obj:=[.box true [.bad 58,.sl 90001 a.l.length,.d (.list 8 (a.e.map enc)),.d (.int .i64 a.i)],.brow 5 a.l,.row 1 (txt.map enc) 0]
theorem Vz (e:List Part) (i:Nat) (l:List UInt8) (txt:List (List UInt8)):Pn ⟨e,i,l⟩ txt=[.box true [.bad 58,.sl 90001 l.length,.d (.list 8 (e.map enc)),.d (.int .i64 i)],.brow 5 l,.row 1 (txt.map enc) 0]:=rfl
def Zsf (a:AX) (n:Nat) (ks:List (Rose Part)):Prop:=a.e.length≤1000000∧Rx Wr a.e a.i ks∧∀ y∈ks,(nds y).length<n∧∀ p∈nds y,Zpp p
def Wl (n:Nat):BCon where
 X:=AX×Rose Part
 ok x:=Zsf x.1 n [x.2]∧(x.1.l++prT x.2).length≤10000000000
 args x:=[.ref 90000 0]
 objs x:=Ol x.1
 res x:=.tup []
 post x:=Ol ⟨x.1.e,x.1.i+(nds x.2).length,x.1.l++prT x.2⟩
theorem Ox:∀ x,¬ (Wl 0).ok x:=by
 rintro x ⟨⟨_,_,h⟩,_⟩;have:=(h x.2 (by simp)).1
 omega
def Yw (n:Nat):BCon where
 X:=AX×List (List UInt8)×List (Rose Part)
 ok x:=Zsf x.1 n x.2.2∧cO x.2.1=x.2.2.length∧x.2.1.length≤1000∧(x.1.l++Hp x.2.1 (prTs x.2.2)).length≤10000000000
 args x:=[.ref 90000 0,.sl 90002 x.2.1.length]
 objs x:=Pn x.1 x.2.1
 res x:=.tup []
 post x:=Pn ⟨x.1.e,x.1.i+(ndss x.2.2).length,x.1.l++Hp x.2.1 (prTs x.2.2)⟩ x.2.1
theorem Dx {n:Nat} {a:AX} {y:Rose Part} {j:Nat} {V:List UInt8} (hj:a.i+(nds y).length=j) (hV:a.l++prT y=V):(Wl n).post (a,y)=Ol ⟨a.e,j,V⟩:=by rw [←hj,←hV];rfl
theorem uT {n:Nat} {a:AX×Rose Part}:(Wl n).res a=.tup []:=rfl
theorem fA {n:Nat} {a:AX} {txt:List (List UInt8)} {ks:List (Rose Part)} {j:Nat} {V:List UInt8} (hj:a.i+(ndss ks).length=j) (hV:a.l++Hp txt (prTs ks)=V):(Yw n).post (a,txt,ks)=Pn ⟨a.e,j,V⟩ txt:=by rw [←hj,←hV];rfl
theorem aO {n:Nat} {a:AX×List (List UInt8)×List (Rose Part)}:(Yw n).res a=.tup []:=rfl
theorem fZ {l s:List UInt8} {e:List Part} {i:Nat} {V:List UInt8} (hV:l++s=V):Jy.post (⟨58,l,[.list 8 (e.map enc),.int .i64 i]⟩,s)=Ol ⟨e,i,V⟩:=by rw [←hV];rfl
theorem Zch:Rk 3 [90000,90001,90002]:=by
 intro j hj
 match j,hj with
 | 0,_=>rfl
 | 1,_=>rfl
 | 2,_=>rfl
theorem Zoc {txt:List (List UInt8)} {k:Nat} (h:k<txt.length):txt.drop k=txt.getD k []::txt.drop (k+1):=by
 rw [List.drop_eq_getElem_cons h];simp [h]
class KcZ:Prop
theorem KcZ.k (_:KcZ) (h:p:=by
 refine ⟨(k+1,zs,at_+(nds y).length,c2),by exact J0,by show k+1≤_;omega,Zup,fun z hz=>Ztr z (List.mem_cons_of_mem _ hz),by show cO (txt.drop (k+1))=zs.length;omega,by show at_+(nds y).length+(ndss zs).length=J;omega,tP,by show txt.length-(k+1)<txt.length-k;omega⟩):p:=h
class KcY:Prop
theorem KcY.k (_:KcY) (h:p:=by
 refine Z6 (bc:=Jy) (⟨58,c2,[.list 8 (e.map enc),.int .i64 ((at_+(nds y).length:Nat):Int)]⟩,[]) [90000,90001] ⟨.inr (.inr ⟨rfl,rfl⟩),?_⟩ rfl (by simp) (by rw [Q6];rfl) ?_ ?_ ?_
 ·show c2.length+0≤_;omega
 ·show Zh _ _ (Ol ⟨e,at_+(nds y).length,c2⟩) _;rw [V6];simp [Zh,lk,J7,rnA,rnAs,rk]
 ·show Zy (List.drop (Ol ⟨e,at_+(nds y).length,c2⟩).length _) _;rw [V6];simp [Zy]
 have Y6:=Kt;have P7:=Kt;have Q5:=@Dr;have Ja:=@V6;have Kq:KcZ:=⟨⟩;exact Qw):p:=h
class KcX:Prop
theorem KcX.k (_:KcX) (h:p:=by
 refine Z6 (bc:=Wl n) (⟨e,at_,cur⟩,y) [90000,90001] ⟨⟨he,⟨⟨hy.1,trivial⟩,?_⟩,fun z hz=>?_⟩,?_⟩ rfl (by simp) (by rw [Q0];rfl) ?_ ?_ ?_
 ·obtain ⟨r,hr⟩:=hy.2;exact ⟨r,by rw [hr];simp [ndss]⟩
 ·rw [Qo] at hz;subst hz;exact Ztr _ (by simp)
 ·show (cur++prT y).length≤_;rw [kS];exact oS
 ·show Zh _ _ (Ol ⟨e,at_,cur⟩) _;rw [V6];simp [Zh,lk,J7,rnA,rnAs,rk]
 ·show Zy (List.drop (Ol ⟨e,at_,cur⟩).length _) _;rw [V6];simp [Zy]
 have Y6:=Kt;have P7:=Kt;have Q5:=@uT;have Ja:=@V6;have Kq:KcY:=⟨⟩;exact Qw):p:=h
class Kdb:Prop
theorem Kdb.k (_:Kdb) (h:p:=by
 refine ⟨(k+1,zs,at_,c2),by exact J0,by show k+1≤_;omega,Zuq,Ztr,rL,Zsj,tP,by show txt.length-(k+1)<txt.length-k;omega⟩):p:=h
class Kda:Prop
theorem Kda.k (_:Kda) (h:p:=by
 refine Z6 (bc:=Jy) (⟨58,cur,[.list 8 (e.map enc),.int .i64 at_]⟩,s) [90000,90001] ⟨.inr (.inr ⟨rfl,rfl⟩),?_⟩ rfl (by simp) (by rw [Q6];rfl) ?_ ?_ ?_
 ·show cur.length+s.length≤_;rw [←kS,Zj] at oS;omega
 ·show Zh _ _ (Ol ⟨e,at_,cur⟩) _;rw [V6];simp [Zh,lk,J7,rnA,rnAs,rk]
 ·show Zy (List.drop (Ol ⟨e,at_,cur⟩).length _) _;rw [V6];simp [Zy]
 have Y6:=Kt;have P7:=Kt;have Q5:=@Dr;have Ja:=@V6;have Kq:Kdb:=⟨⟩;exact Qw):p:=h
class Kdc:Prop
theorem Kdc.k (_:Kdc) (h:p:=by
 refine ⟨[90000,90001,90002],by simp,rfl,Zch,?_⟩
 simp [Zh,lk,J7,rnA,rnAs,rk]):p:=h
class KcW:Prop
theorem KcW.k (_:KcW) (h:p:=by
 refine Z1 [5,9,10,11,12,13,14,15,16,17,18,19,20,21] (fun q:Nat×List (Rose Part)×Nat×List UInt8=>[(8,.d (.int .i64 q.1))]) (fun q:Nat×List (Rose Part)×Nat×List UInt8=>[(90000,.box true [.bad 58,.sl 90001 q.2.2.2.length,.d (.list 8 (e.map enc)),.d (.int .i64 q.2.2.1)]),(90001,.brow 5 q.2.2.2)]) (fun q:Nat×List (Rose Part)×Nat×List UInt8=>q.1≤txt.length∧Rx Wr e q.2.2.1 q.2.1∧(∀ y∈q.2.1,(nds y).length<n∧∀ p∈nds y,Zpp p)∧cO (txt.drop q.1)=q.2.1.length∧q.2.2.1+(ndss q.2.1).length=J∧q.2.2.2++Hp (txt.drop q.1) (prTs q.2.1)=V) (fun q:Nat×List (Rose Part)×Nat×List UInt8=>txt.length-q.1) (0,ks,i,l) ?_ ?_ ?_
 ·exact ⟨Nat.zero_le _,Pk,Up,Zx5,hJ,hV⟩
 ·exact J0
 rintro ⟨k,zs,at_,cur⟩ ⟨hk,Zuq,Ztr,rL,Zsj,tP⟩;simp only at hk Zuq Ztr rL Zsj tP;rcases Z5 k txt.length with ⟨Qd,Qu⟩|⟨Qd,Qu⟩
 ·have Qz:=Z9 ([]:List UInt8) Qd;rw [Zoc Qd] at rL tP;obtain ⟨s,hs⟩:=exq (txt.getD k []);rw [hs] at Qz rL tP;by_cases iN:s=[]
  ·subst iN;cases zs with
   | nil=>simp [cO] at rL
   | cons y zs =>
    obtain ⟨hy,Zup⟩:=Zuq.head;rw [prTs,vM,←List.append_assoc] at tP;rw [cO,if_pos rfl,Zf] at rL;rw [ndss,Zj] at Zsj;obtain ⟨c2,kS⟩:=exq (cur++prT y);rw [kS] at tP;have oS:c2.length≤10000000000:=by rw [←tP,Zj] at Js;omega
    have Q0:=Dx (n:=n) (a:=⟨e,at_,cur⟩) (y:=y) rfl kS;have Q6:=fZ (e:=e) (i:=at_+(nds y).length) (List.append_nil c2);have Qs:(([]:List UInt8)==[])=true:=rfl;have Y6:=Kt;have P7:=Kt;have Kq:KcX:=⟨⟩;exact Qw
  ·rw [qC iN,←List.append_assoc] at tP;rw [cO,if_neg iN,Nat.zero_add] at rL;obtain ⟨c2,kS⟩:=exq (cur++s);rw [kS] at tP;have oS:c2.length≤10000000000:=by rw [←tP,Zj] at Js;omega
   have Q6:=fZ (e:=e) (i:=at_) kS;have Qs:(s==[])=false:=by rw [Za];exact iN
   have Y6:=Kt;have P7:=Kt;have Kq:Kda:=⟨⟩;exact Qw
 ·have eT:txt.drop k=[]:=List.drop_of_length_le Qd;rw [eT] at rL tP;have Zur:zs=[]:=List.length_eq_zero_iff.1 rL.symm;subst Zur;rw [Hp,List.append_nil] at tP;rw [ndss,List.length_nil,Nat.add_zero] at Zsj;subst tP;subst Zsj;have Y6:=Kt;have P7:=Kt;have Kq:Kdc:=⟨⟩;exact Qw):p:=h
theorem stepbm_SayA (n:Nat) (ih:Wm Tryz.prog (40,Wl n)):Wm Tryz.prog (63,(Yw n)):=by
 obtain ⟨Kx,Kt,Kc,Kd,Kb,Ku,Kw,K,Y6,P7,_⟩:=W5 Qj Z0 [] false (kW ih (Wl.eq_def n) (kW S2 Jy.eq_def W4));refine jU K Tryz.func63 [] rfl 22 rfl (fun c hc x Xr=>?_);obtain ⟨⟨e,i,l⟩,txt,ks⟩:=x;obtain ⟨⟨he,Pk,Up⟩,Zx5,Zcs,Js⟩:=Xr;simp only at he Pk Up Zx5 Zcs Js;obtain ⟨V,hV⟩:=exq (l++Hp txt (prTs ks));obtain ⟨J,hJ⟩:=exq (i+(ndss ks).length);have Wy:=fA (n:=n) (a:=⟨e,i,l⟩) hJ hV;rw [hV] at Js;refine ⟨?_,?_,?_,?_,?_⟩
 ·show Xg [.ref 90000 0,.sl 90002 txt.length] (Pn ⟨e,i,l⟩ txt);rw [Vz];simp [Xg,Jm,Obj.tied,Zx,keptAll,AV.kept,Zq,Jn,lk]
 ·show Zx (Pn ⟨e,i,l⟩ txt);rw [Vz];simp [Zx]
 ·rw [Wy];show Xg [] (Pn ⟨e,J,V⟩ txt);rw [Vz];simp [Xg,Jm,Obj.tied,Zx,keptAll,AV.kept,Zq,Jn,lk]
 ·rw [Wy];show (Pn ⟨e,i,l⟩ txt).length≤(Pn ⟨e,J,V⟩ txt).length;rw [Vz,Vz];simp
 show V4 Kx c (V9 _ _ (Pn ⟨e,i,l⟩ txt).length (.tup []) ((Yw n).post (⟨e,i,l⟩,txt,ks))) ⟨[.ref 90000 0,.sl 90002 txt.length]++Yp 20,Zq (Pn ⟨e,i,l⟩ txt)⟩;rw [Wy];show V4 _ c (V9 _ _ (Pn ⟨e,i,l⟩ txt).length (.tup []) (Pn ⟨e,J,V⟩ txt)) _;rw [Vz,Vz];cases hc;have Y6:=Kt;have P7:=Kt;have Kq:KcW:=⟨⟩;exact Qw
theorem C9 {α:Type} {z:Rose α}:∀ {ks:List (Rose α)},z∈ks→(nds z).length≤(ndss ks).length
 | x::ks,h=>by
  rw [ndss,Zj];rcases Zm.1 h with rfl|h
  ·omega
  ·have:=C9 h;omega
theorem mE {α:Type} {z:Rose α} {q:α}:∀ {ks:List (Rose α)},z∈ks→q∈nds z→q∈ndss ks
 | x::ks,h,hq=>by
  rw [ndss,List.mem_append];rcases Zm.1 h with rfl|h
  ·exact .inl hq
  ·exact .inr (mE h hq)
theorem pS {p:Part} {k:Int} (h:p.kind=k) (hl:p.label=[]):p=⟨k,[],p.name,p.bind,p.many,p.num,p.t,p.u⟩:=by
 cases p;simp_all
class Kde:Prop
theorem Kde.k (_:Kde) (h:p:=by
 refine ⟨[90000,90001],by simp,rfl,kV,?_⟩
 simp [Zh,lk,J7,rnA,rnAs,rk]):p:=h
class Kdd:Prop
theorem Kdd.k (_:Kdd) (h:p:=by
 refine Z6 (bc:=Yw n) (⟨e,i+1,l⟩,[nm],ks) [90000,90001,45] Oy rfl (by simp) (by rw [Qs];rfl) ?_ ?_ ?_
 ·show Zh _ _ (Pn ⟨e,i+1,l⟩ [nm]) _;rw [Vz];simp [Zh,lk,J7,rnA,rnAs,rk]
 ·show Zy (List.drop (Pn ⟨e,i+1,l⟩ [nm]).length _) _;rw [Vz];simp [Zy]
 have P7:=Kt;have Q0:=@aO;have Q6:=@Vz;have Kq:Kde:=⟨⟩;exact Qw):p:=h
class Kdg:Prop
theorem Kdg.k (_:Kdg) (h:p:=by
 refine ⟨[90000,90001],by simp,rfl,kV,?_⟩
 simp [Zh,lk,J7,rnA,rnAs,rk]):p:=h
class Kdf:Prop
theorem Kdf.k (_:Kdf) (h:p:=by
 refine dB (bc:=Yw n) (⟨e,i+1,l⟩,[[40,102,117,110,32,40],bd,[58,32],[63],[41,32,45,62,32],[],[41]],ks) [90000,90001,55] Oy rfl (by simp) (by rw [Qs];rfl) ?_ ?_ ?_
 ·show Zh _ _ (Pn ⟨e,i+1,l⟩ [[40,102,117,110,32,40],bd,[58,32],[63],[41,32,45,62,32],[],[41]]) _;rw [Vz];simp [Zh,lk,J7,rnA,rnAs,rk]
 ·show Zy (List.drop (Pn ⟨e,i+1,l⟩ [[40,102,117,110,32,40],bd,[58,32],[63],[41,32,45,62,32],[],[41]]).length _) _;rw [Vz];simp [Zy]
 have P7:=Kt;have Q0:=@aO;have Q6:=@Vz;have Kq:Kdg:=⟨⟩;exact Qw):p:=h
class Kdi:Prop
theorem Kdi.k (_:Kdi) (h:p:=by
 refine ⟨[90000,90001],by simp,rfl,kV,?_⟩
 simp [Zh,lk,J7,rnA,rnAs,rk]):p:=h
class Kdh:Prop
theorem Kdh.k (_:Kdh) (h:p:=by
 refine Z6 (bc:=Yw n) (⟨e,i+1,l⟩,[[40],[],[32],nm,[32],[],[41]],ks) [90000,90001,118] Oy rfl (by simp) (by rw [Qs];rfl) ?_ ?_ ?_
 ·show Zh _ _ (Pn ⟨e,i+1,l⟩ [[40],[],[32],nm,[32],[],[41]]) _;rw [Vz];simp [Zh,lk,J7,rnA,rnAs,rk]
 ·show Zy (List.drop (Pn ⟨e,i+1,l⟩ [[40],[],[32],nm,[32],[],[41]]).length _) _;rw [Vz];simp [Zy]
 have P7:=Kt;have Q0:=@aO;have Q6:=@Vz;have Kq:Kdi:=⟨⟩;exact Qw):p:=h
theorem stepb_PartA (n:Nat) (ih:Wm Tryz.prog (40,Wl n)):Wm Tryz.prog (40,(Wl (n+1))):=by
 obtain ⟨Kx,Kt,Kc,Kd,Kb,Ku,Kw,K,Y6,P7,_⟩:=W5 Qj Z0 [] false (Xa good_PrintT B4.eq_def (kW (stepbm_SayA n ih) (Yw.eq_def n) W4));refine jU K Tryz.func40 [] rfl 168 rfl (fun c hc x Xr=>?_);obtain ⟨⟨e,i,l⟩,y⟩:=x;obtain ⟨⟨he,Zpt,Up⟩,Js⟩:=Xr;simp only at he Zpt Up Js;obtain ⟨hy,-⟩:=Zpt.head;obtain ⟨Zyj,Zxi⟩:=Up y (by simp)
 obtain ⟨p,ks⟩:=y;obtain ⟨V,hV⟩:=exq (l++prT (mk p ks));obtain ⟨J,hJ⟩:=exq (i+(nds (mk p ks)).length);have Wy:=Dx (n:=n+1) (a:=⟨e,i,l⟩) hJ hV;rw [hV] at Js;have L4:=hy.lt;have Qu:=Z9 e0 L4;rw [hy.root e0] at Qu;obtain ⟨Pk,eS⟩:=hy.kids;simp only [kids,root] at Pk eS Qu;have Zvd:=Zxi p (by rw [Jt];exact List.mem_cons_self ..)
 obtain ⟨oN,eZ⟩:=Zvd;have Zzv:i+1+(ndss ks).length=J:=by rw [←hJ,Jt,Zf];omega
 have Zsz:∀ z∈ks,(nds z).length<n∧∀ q∈nds z,Zpp q:=fun z hz=>⟨by
  have:=C9 hz;rw [Jt,Zf] at Zyj;omega,fun q hq=>Zxi q (by rw [Jt];exact List.mem_cons_of_mem _ (mE hz hq))⟩
 rw [prT] at hV;have Zot:∀ TX:List (List UInt8),eJ p=TX→cO TX=ks.length→TX.length≤1000→(Yw n).ok (⟨e,i+1,l⟩,TX,ks):=fun TX h1 h2 h3=>⟨⟨he,Pk,Zsz⟩,h2,h3,by
  show (l++Hp TX (prTs ks)).length≤_;rw [←h1,hV];exact Js⟩
 have pZ:∀ TX:List (List UInt8),eJ p=TX→(Yw n).post (⟨e,i+1,l⟩,TX,ks)=Pn ⟨e,J,V⟩ TX:=fun TX h1=>fA (n:=n) (a:=⟨e,i+1,l⟩) Zzv (by rw [←h1];exact hV)
 refine ⟨?_,?_,?_,?_,?_⟩
 ·show Xg [.ref 90000 0] (Ol ⟨e,i,l⟩);rw [V6];simp [Xg,Jm,Obj.tied,Zx,keptAll,AV.kept,Zq,Jn,lk]
 ·show Zx (Ol ⟨e,i,l⟩);rw [V6];simp [Zx]
 ·rw [Wy];show Xg [] (Ol ⟨e,J,V⟩);rw [V6];simp [Xg,Jm,Obj.tied,Zx,keptAll,AV.kept,Zq,Jn,lk]
 ·rw [Wy];show (Ol ⟨e,i,l⟩).length≤(Ol ⟨e,J,V⟩).length;rw [V6,V6];simp
 show V4 Kx c (V9 _ _ (Ol ⟨e,i,l⟩).length (.tup []) ((Wl (n+1)).post (⟨e,i,l⟩,mk p ks))) ⟨[.ref 90000 0]++Yp 167,Zq (Ol ⟨e,i,l⟩)⟩;rw [Wy];show V4 _ c (V9 _ _ (Ol ⟨e,i,l⟩).length (.tup []) (Ol ⟨e,J,V⟩)) _;rw [V6,V6];have Qz:(([]:List UInt8)==[])=true:=rfl;rcases eZ with ⟨h1,lZ⟩|⟨h2,Zzm,Zts,Zu5⟩|⟨h9,lZ⟩
 ·rw [pS h1 oN] at Qu;have Zns:eJ p=[p.name]:=by unfold eJ;rw [if_pos h1]
  have Lf:ks.length=0:=by rw [eS];unfold Wr Jk;simp [h1]
  have Oy:=Zot _ Zns (by rw [Lf];simp [cO,lZ]) (by simp)
  have Qs:=pZ _ Zns;obtain ⟨nm,Zo0⟩:=exq (p.name);rw [Zo0] at Qu Oy Qs;cases hc;refine Kn 10 ?_;have P7:=Kt;have Kq:Kdd:=⟨⟩;exact Qw
 ·rw [pS h2 oN] at Qu;have Zns:eJ p=[[40,102,117,110,32,40],p.bind,[58,32],[63],[41,32,45,62,32],[],[41]]:=by unfold eJ;rw [if_neg (by omega),if_pos h2]
  have Lf:ks.length=1:=by rw [eS];unfold Wr Jk;simp [h2]
  have Oy:=Zot _ Zns (by rw [Lf];simp [cO,Zzm]) (by simp)
  have Qs:=pZ _ Zns;obtain ⟨bd,Zzl⟩:=exq (p.bind);obtain ⟨tt,Zyq⟩:=exq (p.t);rw [Zzl] at Qu Oy Qs;rw [Zyq] at Qu Zts Zu5;cases hc;refine Kn 10 ?_;have P7:=Kt;have Kq:Kdf:=⟨⟩;exact Qw
 ·rw [pS h9 oN] at Qu;have Zns:eJ p=[[40],[],[32],p.name,[32],[],[41]]:=by unfold eJ;rw [if_neg (by omega),if_neg (by omega)]
  have Lf:ks.length=2:=by rw [eS];unfold Wr Jk;simp [h9]
  have Oy:=Zot _ Zns (by rw [Lf];simp [cO,lZ]) (by simp)
  have Qs:=pZ _ Zns;obtain ⟨nm,Zo0⟩:=exq (p.name);rw [Zo0] at Qu Oy Qs;cases hc;refine Kn 10 ?_;have P7:=Kt;have Kq:Kdh:=⟨⟩;exact Qw
theorem Fq:∀ n,Wm Tryz.prog (40,Wl n)
 | 0=>Br (Xc Tryz.func40 (by kernel_rfl) rfl) Ox
 | n+1=>stepb_PartA n (Fq n)
def Ur (k:Int) (nm bd:List UInt8) (t:List Node):Part:=⟨k,[],nm,bd,0,0,t,[]⟩
def K0:Rose Part:=mk (Ur 2 [] [120] [⟨0,[],0⟩]) [mk (Ur 9 [43] [] []) [mk (Ur 1 [120] [] []) [],mk (Ur 1 [121] [] []) []]]
def Wf:List Part:=[Ur 2 [] [120] [⟨0,[],0⟩],Ur 9 [43] [] [],Ur 1 [120] [] [],Ur 1 [121] [] []]
theorem Nv:nds K0=Wf:=by simp [K0,Wf,Jt,ndss]
def gY:List UInt8:=[40,102,117,110,32,40,120,58,32,63,41,32,45,62,32,40,120,32,43,32,121,41,41]
theorem sD:prT K0=gY:=by simp [K0,gY,prT,prTs,eJ,Hp,Ur]
theorem E7:At Wr Wf 0 K0:=by
 rw [←Nv];refine Wx ?_;simp [K0,wf,wfs,Wr,Jk,Ur]
theorem Zb1:∀ p∈Wf,Zpp p:=by
 intro p hp;simp only [Wf,Zm,Wp,or_false] at hp;rcases hp with rfl|rfl|rfl|rfl<;>simp [Zpp,Ur]
noncomputable def Uw:BCon:=Wl 10
theorem jP:Wm Tryz.prog (40,Uw):=Fq _
theorem vD:Uw.post (⟨Wf,0,[]⟩,K0)=Ol ⟨Wf,4,gY⟩:=Dx (n:=10) (a:=⟨Wf,0,[]⟩) (by rw [Nv];rfl) (by rw [sD];rfl)
theorem zY:Uw.ok (⟨Wf,0,[]⟩,K0):=by
 refine ⟨⟨by show (4:Nat)≤_;omega,⟨⟨E7.1,trivial⟩,?_⟩,fun z hz=>?_⟩,?_⟩
 ·obtain ⟨r,hr⟩:=E7.2;exact ⟨r,by rw [show (⟨Wf,0,[]⟩:AX).e=Wf from rfl,show (⟨Wf,0,[]⟩:AX).i=0 from rfl,hr];simp [ndss]⟩
 ·rw [Qo] at hz;subst hz;show (nds K0).length<10∧∀ p∈nds K0,Zpp p;rw [Nv];exact ⟨by show (4:Nat)<10;omega,Zb1⟩
 ·show ([]++prT K0).length≤_;rw [sD];decide
theorem pT {a:AX×Rose Part}:Uw.res a=.tup []:=rfl
theorem uD {l:List UInt8} {x y:D}:J6.post ⟨58,l,[x,y]⟩=[.box true [.bad 58,.sl 90001 l.length,.d x,.d y],.gone]:=rfl
def B5:Con:=Xd (fun (e:Sl Part)=>e.l=Wf) (fun _=>gY)
class Kdk:Prop
theorem Kdk.k (_:Kdk) (h:p:=by
 refine Z6 (bc:=J6) ⟨58,S,[.list 8 (e.map enc),.int .i64 ((4:Nat):Int)]⟩ [6,60006] ⟨.inr (.inr ⟨rfl,rfl⟩),Zzs⟩ rfl (by simp) rfl ?_ ?_ ?_
 ·show Zh _ _ (Ol ⟨e,4,S⟩) _;rw [V6];simp [Zh,lk,J7,rnA,rnAs,rk]
 ·show Zy (List.drop (Ol ⟨e,4,S⟩).length _) _;rw [V6];simp [Zy]
 have Y6:=Kt;have P7:=Kt;have Qs:=@uD;have Q0:=@rT;exact fK):p:=h
class Kdj:Prop
theorem Kdj.k (_:Kdj) (h:p:=by
 first|rfl|skip
 refine Z6 (bc:=Uw) (⟨e,0,[]⟩,K0) [6,60006] Xr rfl (by simp) (by rw [Qz];rfl) ?_ ?_ ?_
 ·show Zh _ _ (Ol ⟨e,0,[]⟩) _;rw [V6];simp [Zh,lk,J7,rnA,rnAs,rk];rfl
 ·show Zy (List.drop (Ol ⟨e,0,[]⟩).length _) _;rw [V6];simp [Zy]
 have Y6:=Kt;have P7:=Kt;have Qs:=@pT;have Q0:=@V6;have Kq:Kdk:=⟨⟩;exact Qw):p:=h
theorem good_PrintA:Jc Tryz.prog (21,B5):=by
 obtain ⟨Kx,Kt,Kc,Kd,Kb,Ku,Kw,K,Y6,P7,_⟩:=W5 Qj Z0 [300005,200058] false (kW jP Uw.eq_def (kW S3 J6.eq_def W4));have Ko:=B5.eq_def;refine Yv K Tryz.func21 [.tmp 2] rfl 13 rfl (fun c hc Jj Zo=>?_);unfold B5 at Zo;obtain ⟨⟨e⟩,rfl,he⟩:=Qp Zo;simp only at he;clear Zo;obtain ⟨e0,hE⟩:=exq (Wf);have Qz:=vD;have Xr:=zY;rw [hE] at he Qz Xr;subst he;obtain ⟨S,Qu⟩:=exq (gY);have Zzs:S≠[]:=by rw [←Qu];decide
 rw [Qu] at Qz;cases hc;have Y6:=Kt;have P7:=Kt;have Kq:Kdj:=⟨⟩;exact Qw
section
variable {α:Type} {ar:α→Nat}
theorem tJ:∀ {l:List α} {o k:Nat},Ka ar l o=some k→o≤k∧k≤l.length
 | l,0,k,h=>by cases l<;>(simp only [Ka,Zb] at h;omega)
 | [],o+1,k,h=>by simp [Ka] at h
 | n::l,o+1,k,h=>by
  rw [Ka,Option.map_eq_some_iff] at h;obtain ⟨k',h1,rfl⟩:=h;have:=tJ h1;simp only [Zf];omega
theorem wE {l:List α} {k o r:Nat} (d:α) (h:Ka ar (l.drop k) o=some r) (ho:0<o):k<l.length∧∃ r',r=r'+1∧Ka ar (l.drop (k+1)) (o-1+ar (l.getD k d))=some r':=by
 obtain ⟨o,rfl⟩:∃ p,o=p+1:=⟨o-1,by omega⟩
 rcases Nat.lt_or_ge k l.length with hk|hk
 ·refine ⟨hk,?_⟩;rw [List.drop_eq_getElem_cons hk,Ka,Option.map_eq_some_iff] at h;obtain ⟨k',h1,rfl⟩:=h;refine ⟨k',rfl,?_⟩;rw [←h1];simp [hk]
 ·rw [List.drop_eq_nil_of_le hk] at h;simp [Ka] at h
theorem wD {l:List α} {r:Nat} (h:Ka ar l 0=some r):r=0:=by
 cases l<;>(simp only [Ka,Zb] at h;exact h.symm)
end
def Av (t:List Part) (i:Int):Prop:=0≤i→i<t.length→∃ x,At Wr t i.toNat x
def Ha:Con:=Vy (fun (t:Sl Part) (i:Int)=>P5 t.l∧eD .i64 i∧Av t.l i) (fun t i=>M9 t.l i)
theorem Zz6:type_of% @Ha.eq_def:=@Ha.eq_def
class Kdm:Prop
theorem Kdm.k (_:Kdm) (h:p:=by
 first|exact Zo1|exact ⟨(k+1,o-1+Wr y),by exact J0,⟨r',hr',by simp only;omega⟩,by simp only;omega⟩|skip):p:=h
class Kdl:Prop
theorem Kdl.k (_:Kdl) (h:p:=by
 refine Z1 [14,15,16,17,18,19,20,21,22,23,24,25] (fun p:Nat×Nat=>[(1,.d (.int .i64 p.1)),(5,.d (.int .i64 p.2))]) (fun p:Nat×Nat=>[]) (fun p:Nat×Nat=>∃ r,Ka Wr (t.drop p.1) p.2=some r∧p.1+r=i+(nds x).length) (fun p:Nat×Nat=>t.length-p.1) (i,1) ?_ ?_ ?_
 ·exact ⟨_,hn,rfl⟩
 ·exact J0
 rintro ⟨k,o⟩ ⟨r,hr,Rz⟩;simp only at hr Rz;rcases Xy 0 o with ⟨h2,Q0⟩|⟨h2,Q0⟩
 ·obtain ⟨Qd,r',rfl,hr'⟩:=wE e0 hr (by omega)
  have Q6:=Z9 e0 Qd;have Pj:=tJ hr';rw [List.length_drop] at Pj;obtain ⟨y,hy⟩:=exq (t.getD k e0);have Zsv:=hm y (by rw [←hy];simp [Qd])
  rw [hy] at Q6 Pj hr';have Q5:=Gz y;have Ja:(o:Int)+((Wr y:Int)-1)=((o-1+Wr y:Nat):Int):=by omega
  have Zo1:=Zsv.2.2;have Zzp:Wr y≤60:=by have:=Zsv.2.1;omega
  have Kq:Kdm:=⟨⟩;exact Qw
 ·have ho:o=0:=by omega
  have Ztv:r=0:=by rw [ho] at hr;exact wD hr
  have Jq:(k:Int)=R:=by rw [L5];omega
  exact fK):p:=h
theorem good_EndA:Jc Tryz.prog (16,Ha):=by
 obtain ⟨Kx,Kt,Kc,Kd,Kb,Ku,Kw,K,Y6,_⟩:=W5 Qj Z0 [] false (Xa Bs Gb.eq_def W4);have Ko:=Zz6;refine Yv K Tryz.func16 [.tmp 4] rfl 27 rfl (fun c hc Jj Zo=>?_);unfold Ha at Zo;obtain ⟨⟨t⟩,i,rfl,⟨ht,hm⟩,hi,hx⟩:=Jd Zo;simp only at ht hm hx;rw [Qn] at hi;clear Zo;obtain ⟨R,Qz⟩:=exq (M9 t i);have Ql:=Qz;unfold M9 at Ql;cases hc;rcases Xy i 0 with ⟨h0,Qu⟩|⟨h0,Qu⟩
 ·rw [if_pos (.inl h0)] at Ql;subst Ql;exact fK
 rcases Vv t.length i.toNat with ⟨h1,Qs⟩|⟨h1,Qs⟩
 ·rw [if_pos (.inr (by omega))] at Ql
  subst Ql;rw [show ((i.toNat:Nat):Int)=i by omega] at Qs
  exact fK
 obtain ⟨x,hx⟩:=hx (by omega) (by omega)
 obtain ⟨i,rfl⟩:∃ n:Nat,i=n:=⟨i.toNat,by omega⟩
 simp only [Zn] at hx h1 Qs;have hn:=kB hx;have L5:R=((i+(nds x).length:Nat):Int):=by rw [←Qz];exact Bt hx
 have Kq:Kdl:=⟨⟩;exact Qw
theorem Nx:∀ {q k:Nat} {ks:List (Rose Part)},k<ks.length→(W7 q ks).getD k 0=((q+(ndss (ks.take k)).length:Nat):Int)
 | q,k,[],h=>by simp at h
 | q,0,x::ks,h=>by simp [W7,ndss]
 | q,k+1,x::ks,h=>by
  have:=Nx (q:=q+(nds x).length) (k:=k) (ks:=ks) (by simpa using h)
  rw [W7,List.getD_cons_succ,this,List.take_succ_cons,ndss,Zj];omega
theorem aJ {t:List Part}:∀ {xs:List (Rose Part)} {i j:Nat},Rx Wr t i xs→∀ h:j<xs.length,At Wr t (i+(ndss (xs.take j)).length) xs[j]
 | [],i,j,_,h=>by simp at h
 | x::xs,i,0,ha,h=>by simpa [ndss] using ha.head.1
 | x::xs,i,j+1,ha,h=>by
  have:=aJ (j:=j) ha.head.2 (by simpa using h)
  rw [List.take_succ_cons,ndss,Zj,←Nat.add_assoc];exact this
theorem Tq:∀ {xs:List (Rose Part)},xs.length≤(ndss xs).length
 | []=>by simp [ndss]
 | x::xs=>by
  have h1:=Bi x;have h2:=Tq (xs:=xs);simp only [ndss,Zj,Zf];omega
theorem Ss:∀ {xs:List (Rose Part)} {j:Nat} (h:j<xs.length),(nds xs[j]).length≤(ndss xs).length
 | x::xs,0,h=>by simp [ndss]
 | x::xs,j+1,h=>by
  have:=Ss (xs:=xs) (j:=j) (by simpa using h)
  simp only [List.getElem_cons_succ,ndss,Zj];omega
theorem Zsa {b c:List (List UInt8)}:b.map (enc:List UInt8→D)++c.map enc=(b++c).map enc:=by rw [List.map_append]
def Lp (P:List Int) (k:Nat):List D:=(P.take k).map enc++List.replicate (P.length-k) (.int .i64 0)
theorem Zca {P:List Int}:Lp P 0=List.replicate P.length (.int .i64 0):=by simp [Lp]
theorem iQ {P:List Int} {k:Nat} (h:k≤P.length):(Lp P k).length=P.length:=by
 simp [Lp];omega
theorem wW {P:List Int}:Lp P P.length=P.map enc:=by simp [Lp]
theorem wV {P:List Int} {k:Nat} (h:k<P.length):(Lp P k).set k (.int .i64 (P.getD k 0))=Lp P (k+1):=by
 have hp:P.getD k 0=P[k]:=by simp [h]
 have e1:P.length-k=(P.length-(k+1))+1:=by omega
 have e2:((P.take k).map (enc:Int→D)).length=k:=by simp;omega
 unfold Lp;rw [e1,List.replicate_succ,List.set_append_right k _ (by omega),e2,Nat.sub_self,Q2,List.take_succ_eq_append_getElem h,List.map_append,List.append_assoc,hp]
 rfl
theorem Zaf {P:List Int} {k:Nat} (h:k<P.length):el (Lp P k) k=.int .i64 0:=by
 unfold Lp el;have e2:((P.take k).map (enc:Int→D)).length=k:=by simp;omega
 rw [Zg,List.getElem?_append_right (by omega),e2,Nat.sub_self]
 rw [show P.length-k=(P.length-k-1)+1 by omega,List.replicate_succ]
 rfl
def Nb:Con:=Vy (fun (t:Sl Part) (i:Int)=>P5 t.l∧eD .i64 i∧Av t.l i) (fun t i=>Sl.mk (Ve t.l i))
class Kdo:Prop
theorem Kdo.k (_:Kdo) (h:p:=by
 first|exact hT|exact Hg|exact ⟨k+1,by exact J0,by omega,by omega⟩|skip):p:=h
class Kdn:Prop
theorem Kdn.k (_:Kdn) (h:p:=by
 first|exact Zo1|skip
 refine Z1 [7,27,28,29,30,31,32,33,34,35,36] (fun k:Nat=>[(26,.d (.int .i64 k)),(6,.d (.int .i64 (i+1+(ndss (x.kids.take k)).length:Nat)))]) (fun k:Nat=>[(21,.row 1 (Lp R k) 0)]) (fun k:Nat=>k≤R.length) (fun k:Nat=>R.length-k) 0 ?_ ?_ ?_
 ·omega
 ·have En:=xS;have xN:=@ndss.eq_1;have yY:=@ndss.eq_2;exact J0
 rintro k hk;have Ja:=iQ hk;rcases Z5 k R.length with ⟨h2,Q5⟩|⟨h2,Q5⟩
 ·have Jq:=Zaf h2;have Je:=wV h2;rw [Znr k h2] at Je;have Zze:=iQ (P:=R) (k:=k+1) h2;have eT:k<x.kids.length:=by omega
  have ha:=aJ Pk eT;have Qe:=Bt ha;have eR:i+1+(ndss (x.kids.take k)).length+(nds x.kids[k]).length=i+1+(ndss (x.kids.take (k+1))).length:=by
   rw [List.take_succ_eq_append_getElem eT,Ye,Zj];simp [ndss];omega
  rw [eR] at Qe;have Zx8:=ha.lt;obtain ⟨q,Q9⟩:=exq (i+1+(ndss (x.kids.take k)).length);rw [Q9] at Je Qe ha Zx8;have Hg:Av t ((q:Nat):Int):=fun _ _=>⟨_,by rw [Zn];exact ha⟩
  have Kq:Kdo:=⟨⟩;exact Qw
 ·have eZ:k=R.length:=by omega
  subst eZ;have Qc:=wW (P:=R);exact Uy):p:=h
theorem good_KidsA:Jc Tryz.prog (19,Nb):=by
 obtain ⟨Kx,Kt,Kc,Kd,Kb,Ku,Kw,K,Y6,P7,_⟩:=W5 Qj Z0 [] false (Xa Bs Gb.eq_def (Xa good_EndA Zz6 W4));have Ko:=Nb.eq_def;refine Yv K Tryz.func19 [.tmp 4] rfl 38 rfl (fun c hc Jj Zo=>?_);unfold Nb at Zo;obtain ⟨⟨t⟩,i,rfl,⟨ht,hm⟩,hi,hx⟩:=Jd Zo;simp only at ht hm hx;have hT:P5 t:=⟨ht,hm⟩;rw [Qn] at hi;clear Zo;obtain ⟨R,Qz⟩:=exq (Ve t i);have Ql:=Qz;unfold Ve at Ql;cases hc;refine Kn 2 ?_;rcases Xy i 0 with ⟨h0,Qu⟩|⟨h0,Qu⟩
 ·rw [if_pos (.inl h0)] at Ql;subst Ql;exact Uy
 rcases Vv t.length i.toNat with ⟨h1,Qs⟩|⟨h1,Qs⟩
 ·rw [if_pos (.inr (by omega))] at Ql
  subst Ql;rw [show ((i.toNat:Nat):Int)=i by omega] at Qs
  exact Uy
 obtain ⟨x,hx⟩:=hx (by omega) (by omega)
 obtain ⟨i,rfl⟩:∃ n:Nat,i=n:=⟨i.toNat,by omega⟩
 simp only [Zn] at hx h1 Qs;have L5:R=W7 (i+1) x.kids:=by rw [←Qz];exact Ff hx
 obtain ⟨Pk,eS⟩:=hx.kids;have h1:i<t.length:=by omega
 have Q0:=Z9 e0 h1;rw [hx.root e0] at Q0;obtain ⟨y,hy⟩:=exq (x.root);rw [hy] at Q0 eS;have Zsv:=hm y (by rw [←hy,←hx.root e0];simp [h1])
 have Zo1:=Zsv.2.2;have hP:R.length=x.kids.length:=by rw [L5,G5]
 have Q6:Jk y=((R.length:Nat):Int):=by rw [Gz y,hP,eS]
 have Qaa:R.length≤60:=by have:=Zsv.2.1;omega
 have Znr:∀ k,k<R.length→R.getD k 0=((i+1+(ndss (x.kids.take k)).length:Nat):Int):=fun k hk=>by rw [L5];exact Nx (by omega)
 have xS:=Zca (P:=R);have Kq:Kdn:=⟨⟩;exact Qw
open Go.Proofs
namespace Gr
end Gr
section
variable {α β:Type} [BEq α]
def Yy (x:α):List α→Bool
 | []=>false
 | y::l=>(x==y)||Yy x l
def Zaa (x:α) (z:β):List α→List β→β
 | y::ks,v::vs=>cond (x==y) v (Zaa x z ks vs)
 | _,_=>z
def Us (x:α) (ks:List α):List α:=cond (Yy x ks) ks (ks++[x])
def nY (x:α) (v:β):List α→List β→List β
 | y::ks,u::vs=>cond (x==y) (v::vs) (u::nY x v ks vs)
 | _,_=>[v]
theorem gN {x y:α}:∀ {l:List α},Yy x (l++[y])=(Yy x l||(x==y))
 | []=>by simp [Yy]
 | z::l=>by simp only [List.cons_append,Yy,gN (l:=l),Bool.or_assoc]
variable [LawfulBEq α]
theorem zU {x y:α} {ks:List α}:Yy x (Us y ks)=(Yy x ks||(x==y)):=by
 unfold Us;cases h:Yy y ks with
 | false=>rw [cond_false,gN]
 | true =>
  rw [cond_true];cases Zsk:(x==y) with
  | false=>rw [Bool.or_false]
  | true=>rw [eq_of_beq Zsk,h];rfl
end
theorem Znd {x y:List UInt8}:D.eqb (.str x) (.str y)=(x==y):=rfl
theorem H9:∀ {ks:List (List UInt8)},Yi .str (ks.map enc)=True
 | []=>rfl
 | k::ks=>by
  show (True∧Yi .str (ks.map enc))=True;rw [H9,true_and]
theorem zQ {x:List UInt8}:∀ {ks:List (List UInt8)},Pr (.str x) (ks.map enc)=Yy x ks
 | []=>rfl
 | k::ks=>by
  show (D.eqb (.str x) (.str k)||Pr (.str x) (ks.map enc))=_;rw [zQ,Znd,Yy]
theorem Zbw {x:List UInt8} {ks:List (List UInt8)}:I2 (.str x) (ks.map enc)=(Us x ks).map enc:=by
 unfold I2 Us;rw [zQ];cases Yy x ks
 ·simp only [cond_false,List.map_append,List.map_cons,List.map_nil];rfl
 ·rfl
open Go.Proofs
open Enc (enc dec)
theorem kY:Rk 1 [90000]:=fun j hj=>by
 have:j=0:=by omega
 subst this;rfl
theorem tD:Rk 0 []:=fun j hj=>by omega
def eB (v:List UInt8) (x:List UInt8):Bool:=v==x
abbrev Zsg:=Option (List (List UInt8))×List UInt8
def Zrd:Option (List (List UInt8))→AV
 | none=>.nils 1
 | some l=>.sl 90000 l.length
def Zbs:Option (List (List UInt8))→List Obj
 | none=>[]
 | some l=>[.row 1 (l.map enc) 0]
def U6:Option (List (List UInt8))→List (List UInt8)
 | none=>[]
 | some l=>l
def Yk:BCon where
 X:=Zsg
 ok:=fun p=>(U6 p.1).length≤1000000000
 args:=fun p=>[Zrd p.1,.d (.str p.2)]
 objs:=fun p=>Zbs p.1
 res:=fun p=>.int .i64 (Fl (eB p.2) (U6 p.1))
 post:=fun p=>Zbs p.1
class Kdq:Prop
theorem Kdq.k (_:Kdq) (h:p:=by
 first|exact ⟨[],by simp,rfl,tD⟩|skip):p:=h
class Kdp:Prop
theorem Kdp.k (_:Kdp) (h:p:=by
 refine Z1 [4,5,9,10,11,12,13,14,15,16,17,18] (fun k:Nat=>[(8,.d (.int .i64 k))]) (fun k:Nat=>[]) (fun k:Nat=>k=0) (fun k:Nat=>0) 0 ?_ ?_ ?_
 ·rfl
 ·exact J0
 rintro k rfl;have Kq:Kdq:=⟨⟩;exact Qw):p:=h
class Kds:Prop
theorem Kds.k (_:Kds) (h:p:=by
 first|exact ⟨k+1,by exact J0,by omega,h2,by omega⟩|skip):p:=h
class Kdt:Prop
theorem Kdt.k (_:Kdt) (h:p:=by
 first|exact ⟨[90000],by simp,rfl,kY,rfl,trivial⟩|skip):p:=h
class Kdu:Prop
theorem Kdu.k (_:Kdu) (h:p:=by
 first|exact ⟨[90000],by simp,rfl,kY,rfl,trivial⟩|skip):p:=h
class Kdr:Prop
theorem Kdr.k (_:Kdr) (h:p:=by
 refine Z1 [4,5,9,10,11,12,13,14,15,16,17,18] (fun k:Nat=>[(8,.d (.int .i64 k))]) (fun k:Nat=>[]) (fun k:Nat=>k≤l.length∧∀ j,j<k→eB v (l.getD j [])=false) (fun k:Nat=>l.length-k) 0 ?_ ?_ ?_
 ·simp
 ·exact J0
 rintro k ⟨hk,Yx⟩;rcases Z5 k l.length with ⟨Qd,Qs⟩|⟨Qd,Qs⟩
 ·have Q0:=Z9 ([]:List UInt8) Qd;have Uf:eB v (l.getD k [])=false→∀ j,j<k+1→eB v (l.getD j [])=false:=fun h=>Nh Yx h;have O0:eB v (l.getD k [])=true→Fl (eB v) l=k:=fun h=>jL [] Qd Yx h;obtain ⟨y,hy⟩:=exq (l.getD k []);rw [hy] at Q0 Uf O0;cases hs:eB v y with
  | false =>
   have h2:=Uf hs;have Q6:(v==y)=false:=hs;have Kq:Kds:=⟨⟩;exact Qw
  | true =>
   have Qz:=O0 hs;have Q6:(v==y)=true:=hs;have Kq:Kdt:=⟨⟩;exact Qw
 ·have Qz:=Al (p:=eB v) (l:=l) [] (fun j hj=>Yx j (by omega))
  have Kq:Kdu:=⟨⟩;exact Qw):p:=h
theorem goodb_indexSt:Wm Tryz.prog (69,Yk):=by
 obtain ⟨Kx,Kt,Kc,Kd,Kb,Ku,Kw,K,_⟩:=W5 Qj Z0 [] false W4;refine jU K Tryz.func69 [.tmp 4] rfl 19 rfl (fun c hc x Xr=>?_);obtain ⟨o,v⟩:=x
 change (U6 o).length≤1000000000 at Xr
 cases o with
 | none =>
  refine ⟨?_,?_,?_,?_,?_⟩
  ·show Xg [.nils 1,.d (.str v)] [];simp [Xg,Jm,Obj.tied,Zx,keptAll,AV.kept,Zq,Jn,lk]
  ·show Zx [];simp [Zx]
  ·show Xg [] [];simp [Xg,Jm,Obj.tied,Zx,keptAll,AV.kept,Zq,Jn,lk]
  ·exact Zk _
  ·show V4 _ _ (V9 _ _ 0 (.int .i64 (Fl (eB v) [])) []) ⟨[.nils 1,.d (.str v)]++Yp 17,Zq []⟩;have Qu:Jw (0:Int) 0=false:=rfl;have Qz:Fl (eB v) ([]:List (List UInt8))=-1:=rfl;cases hc;have Kq:Kdp:=⟨⟩;exact Qw
 | some l =>
  change l.length≤1000000000 at Xr
  refine ⟨?_,?_,?_,?_,?_⟩
  ·show Xg [.sl 90000 l.length,.d (.str v)] [.row 1 (l.map enc) 0];simp [Xg,Jm,Obj.tied,Zx,keptAll,AV.kept,Zq,Jn,lk]
  ·show Zx [.row 1 (l.map enc) 0];simp [Zx]
  ·show Xg [] [.row 1 (l.map enc) 0];simp [Xg,Jm,Obj.tied,Zx,keptAll,AV.kept,Zq,Jn,lk]
  ·exact Zk _
  ·show V4 _ _ (V9 _ _ [Obj.row 1 (l.map (enc:List UInt8→D)) 0].length (.int .i64 (Fl (eB v) l)) [Obj.row 1 (l.map enc) 0]) ⟨[.sl 90000 l.length,.d (.str v)]++Yp 17,Zq [Obj.row 1 (l.map enc) 0]⟩;cases hc;have Kq:Kdr:=⟨⟩;exact Qw
def J9:BCon where
 X:=Zsg
 ok:=fun p=>(U6 p.1).length≤1000000000
 args:=fun p=>[Zrd p.1,.d (.str p.2)]
 objs:=fun p=>Zbs p.1
 res:=fun p=>.bool ((U6 p.1).any (eB p.2))
 post:=fun p=>Zbs p.1
class Kdw:Prop
theorem Kdw.k (_:Kdw) (h:p:=by
 first|exact ⟨[],by simp,rfl,tD⟩|skip):p:=h
class Kdv:Prop
theorem Kdv.k (_:Kdv) (h:p:=by
 refine Z6 (bc:=Yk) (none,v) [] Xr rfl (by simp) rfl ?_ ?_ ?_
 ·exact trivial
 ·exact trivial
 have Kq:Kdw:=⟨⟩;exact Qw):p:=h
class Kdy:Prop
theorem Kdy.k (_:Kdy) (h:p:=by
 first|exact ⟨[90000],by simp,rfl,kY,rfl,trivial⟩|skip):p:=h
class Kdx:Prop
theorem Kdx.k (_:Kdx) (h:p:=by
 refine Z6 (bc:=Yk) (some l,v) [90000] Xr rfl (by simp) rfl ?_ ?_ ?_
 ·show Zh _ _ [Obj.row 1 (l.map (enc:List UInt8→D)) 0] _;simp [Zh,lk,J7,rnA,rnAs,rk]
 ·exact trivial
 have Kq:Kdy:=⟨⟩;exact Qw):p:=h
theorem goodb_containsSt:Wm Tryz.prog (45,J9):=by
 obtain ⟨Kx,Kt,Kc,Kd,Kb,Ku,Kw,K,Y6,_⟩:=W5 Qj Z0 [] false (kW goodb_indexSt Yk.eq_def W4);refine jU K Tryz.func45 [.tmp 4] rfl 9 rfl (fun c hc x Xr=>?_);obtain ⟨o,v⟩:=x
 change (U6 o).length≤1000000000 at Xr
 have Qs:=cY (p:=eB v) (l:=U6 o);obtain ⟨R,hR⟩:=exq (Fl (eB v) (U6 o));have Qz:Yk.res (o,v)=.int .i64 R:=by rw [←hR];rfl
 rw [hR] at Qs;obtain ⟨B,hB⟩:=exq ((U6 o).any (eB v));rw [hB] at Qs;cases o with
 | none =>
  have Qu:Yk.post (none,v)=[]:=rfl;refine ⟨?_,?_,?_,?_,?_⟩
  ·show Xg [.nils 1,.d (.str v)] [];simp [Xg,Jm,Obj.tied,Zx,keptAll,AV.kept,Zq,Jn,lk]
  ·show Zx [];simp [Zx]
  ·show Xg [] [];simp [Xg,Jm,Obj.tied,Zx,keptAll,AV.kept,Zq,Jn,lk]
  ·exact Zk _
  ·show V4 _ _ (V9 _ _ 0 (.bool ((U6 none).any (eB v))) []) ⟨[.nils 1,.d (.str v)]++Yp 7,Zq []⟩;rw [hB];cases hc;have Kq:Kdv:=⟨⟩;exact Qw
 | some l =>
  have Qu:Yk.post (some l,v)=[.row 1 (l.map enc) 0]:=rfl;refine ⟨?_,?_,?_,?_,?_⟩
  ·show Xg [.sl 90000 l.length,.d (.str v)] [.row 1 (l.map enc) 0];simp [Xg,Jm,Obj.tied,Zx,keptAll,AV.kept,Zq,Jn,lk]
  ·show Zx [.row 1 (l.map enc) 0];simp [Zx]
  ·show Xg [] [.row 1 (l.map enc) 0];simp [Xg,Jm,Obj.tied,Zx,keptAll,AV.kept,Zq,Jn,lk]
  ·exact Zk _
  ·show V4 _ _ (V9 _ _ [Obj.row 1 (l.map (enc:List UInt8→D)) 0].length (.bool ((U6 (some l)).any (eB v))) [Obj.row 1 (l.map enc) 0]) ⟨[.sl 90000 l.length,.d (.str v)]++Yp 7,Zq [Obj.row 1 (l.map enc) 0]⟩;rw [hB];cases hc;have Kq:Kdx:=⟨⟩;exact Qw
open Go.Proofs Go.Rose Go.Rose.Rose Gr
def Cx (C:List (List UInt8)):List Bool:=C.map fun _=>true
theorem E6 {x:List UInt8} {v:Bool}:∀ {ks:List (List UInt8)} {vs:List Bool},Ml (.str x) (.bool v) (ks.map enc) (vs.map enc)=(nY x v ks vs).map enc
 | [],_=>rfl
 | y::ks,[]=>rfl
 | y::ks,z::vs=>by
  show cond (D.eqb (.str x) (.str y)) (.bool v::vs.map enc) (enc z::Ml (.str x) (.bool v) (ks.map enc) (vs.map enc))=(cond (x==y) (v::vs) (z::nY x v ks vs)).map enc;rw [E6,show D.eqb (.str x) (.str y)=(x==y) from rfl];cases x==y<;>rfl
theorem Tw {x:List UInt8}:∀ {S:List (List UInt8)},nY x true S (Cx S)=Cx (Us x S)
 | []=>rfl
 | y::S=>by
  show cond (x==y) (true::Cx S) (true::nY x true S (Cx S))=Cx (Us x (y::S));rw [Tw];unfold Us;show _=Cx (cond ((x==y)||Yy x S) (y::S) (y::S++[x]));cases x==y
  ·cases Yy x S<;>rfl
  ·rfl
def Su (p:Part) (k:Nat) (b:List (List UInt8)):List (List UInt8) :=
 if p.kind=2∨p.kind=8∨(p.kind=4∧k=1) then b++[p.bind] else if p.kind=5 then (if k=0 then b++[p.name,p.bind] else b++[p.name]) else b
mutual
def partT:Rose Part→List (List UInt8)→List (List UInt8)→List (List UInt8)
 | mk p ks,b,S=>if p.kind=1 then (if Uc b p.name=true then S else Us p.name S) else partTs p ks 0 b S
def partTs (p:Part):List (Rose Part)→Nat→List (List UInt8)→List (List UInt8)→List (List UInt8)
 | [],_,_,S=>S
 | x::xs,k,b,S=>partTs p xs (k+1) b (partT x (Su p k b) S)
end
mutual
def hasB:Rose Part→Bool
 | mk p ks=>(p.kind==2||p.kind==8||p.kind==4||p.kind==5)||hasBs ks
def hasBs:List (Rose Part)→Bool
 | []=>false
 | x::xs=>hasB x||hasBs xs
end
theorem gM {x:List UInt8} {S:List (List UInt8)}:(Us x S).length≤S.length+1:=by
 unfold Us;cases Yy x S<;>simp
mutual
theorem partT_len:∀ (x:Rose Part) (b S:List (List UInt8)),(partT x b S).length≤S.length+(nds x).length
 | mk p ks,b,S=>by
  rw [partT,Jt,Zf];split
  ·split
   ·omega
   ·have:=gM (x:=p.name) (S:=S);omega
  ·have:=partTs_len p ks 0 b S;omega
theorem partTs_len (p:Part):∀ (xs:List (Rose Part)) (k:Nat) (b S:List (List UInt8)),(partTs p xs k b S).length≤S.length+(ndss xs).length
 | [],_,_,_=>by simp [partTs,ndss]
 | x::xs,k,b,S=>by
  have h1:=partT_len x (Su p k b) S;have h2:=partTs_len p xs (k+1) b (partT x (Su p k b) S);rw [partTs,ndss,Zj];omega
end
structure PX where
 t:List Part
 i:Nat
 bd:Option (List (List UInt8))
 S:List (List UInt8)
noncomputable def PX.x (a:PX):Rose Part:=M1 Wr a.t a.i
def PX.Ok (n m:Nat) (a:PX):Prop:=P5 a.t∧∃ y,At Wr a.t a.i y∧(nds y).length<n∧(U6 a.bd).length+m+2*(nds y).length≤900000∧a.S.length+(nds y).length≤900000
def pN (t:List Part) (i:Nat) (S:List (List UInt8)):List Obj:=[.box false [.d (.list 8 (t.map enc))],.box false [.d (.int .i64 i)],.box false [.nils 1],.box false [.mpr 90006],.box false [.clo 43 [.ref 90002 0,.ref 90005 0]],.box false [.clo 44 [.ref 90000 0,.ref 90001 0,.ref 90002 0,.ref 90003 0,.ref 90004 0,.ref 90005 0]],.mp (S.map enc) ((Cx S).map enc) false]
def pB (t:List Part) (i:Nat) (b:List (List UInt8)) (S:List (List UInt8)):List Obj:=[.box false [.d (.list 8 (t.map enc))],.box false [.d (.int .i64 i)],.box false [.sl 90007 b.length],.box false [.mpr 90006],.box false [.clo 43 [.ref 90002 0,.ref 90005 0]],.box false [.clo 44 [.ref 90000 0,.ref 90001 0,.ref 90002 0,.ref 90003 0,.ref 90004 0,.ref 90005 0]],.mp (S.map enc) ((Cx S).map enc) false,.row 1 (b.map enc) 0]
def pM (t:List Part) (i:Nat) (b:List (List UInt8)) (S:List (List UInt8)):List Obj:=[.box false [.d (.list 8 (t.map enc))],.box false [.d (.int .i64 i)],.box false [.sl 90008 b.length],.box false [.mpr 90006],.box false [.clo 43 [.ref 90002 0,.ref 90005 0]],.box false [.clo 44 [.ref 90000 0,.ref 90001 0,.ref 90002 0,.ref 90003 0,.ref 90004 0,.ref 90005 0]],.mp (S.map enc) ((Cx S).map enc) false,.gone,.row 1 (b.map enc) 0]
def wN (t:List Part) (i:Nat) (ns:List (List UInt8)) (S:List (List UInt8)):List Obj:=[.row 1 (ns.map enc) 0,.box false [.nils 1],.box false [.clo 44 [.ref 90003 0,.ref 90004 0,.ref 90001 0,.ref 90005 0,.ref 90006 0,.ref 90002 0]],.box false [.d (.list 8 (t.map enc))],.box false [.d (.int .i64 i)],.box false [.mpr 90007],.box false [.clo 43 [.ref 90001 0,.ref 90002 0]],.mp (S.map enc) ((Cx S).map enc) false]
def wB (t:List Part) (i:Nat) (b:List (List UInt8)) (ns:List (List UInt8)) (S:List (List UInt8)):List Obj:=[.row 1 (ns.map enc) 0,.box false [.sl 90008 b.length],.box false [.clo 44 [.ref 90003 0,.ref 90004 0,.ref 90001 0,.ref 90005 0,.ref 90006 0,.ref 90002 0]],.box false [.d (.list 8 (t.map enc))],.box false [.d (.int .i64 i)],.box false [.mpr 90007],.box false [.clo 43 [.ref 90001 0,.ref 90002 0]],.mp (S.map enc) ((Cx S).map enc) false,.row 1 (b.map enc) 0]
def wM (t:List Part) (i:Nat) (b:List (List UInt8)) (ns:List (List UInt8)) (S:List (List UInt8)):List Obj:=[.row 1 (ns.map enc) 0,.box false [.sl 90009 b.length],.box false [.clo 44 [.ref 90003 0,.ref 90004 0,.ref 90001 0,.ref 90005 0,.ref 90006 0,.ref 90002 0]],.box false [.d (.list 8 (t.map enc))],.box false [.d (.int .i64 i)],.box false [.mpr 90007],.box false [.clo 43 [.ref 90001 0,.ref 90002 0]],.mp (S.map enc) ((Cx S).map enc) false,.gone,.row 1 (b.map enc) 0]
theorem Hr (t:List Part) (i:Nat) (S:List (List UInt8)):pN t i S=[.box false [.d (.list 8 (t.map enc))],.box false [.d (.int .i64 i)],.box false [.nils 1],.box false [.mpr 90006],.box false [.clo 43 [.ref 90002 0,.ref 90005 0]],.box false [.clo 44 [.ref 90000 0,.ref 90001 0,.ref 90002 0,.ref 90003 0,.ref 90004 0,.ref 90005 0]],.mp (S.map enc) ((Cx S).map enc) false]:=rfl
theorem X7 (t:List Part) (i:Nat) (b:List (List UInt8)) (S:List (List UInt8)):pB t i b S=[.box false [.d (.list 8 (t.map enc))],.box false [.d (.int .i64 i)],.box false [.sl 90007 b.length],.box false [.mpr 90006],.box false [.clo 43 [.ref 90002 0,.ref 90005 0]],.box false [.clo 44 [.ref 90000 0,.ref 90001 0,.ref 90002 0,.ref 90003 0,.ref 90004 0,.ref 90005 0]],.mp (S.map enc) ((Cx S).map enc) false,.row 1 (b.map enc) 0]:=rfl
theorem Ac (t:List Part) (i:Nat) (b:List (List UInt8)) (S:List (List UInt8)):pM t i b S=[.box false [.d (.list 8 (t.map enc))],.box false [.d (.int .i64 i)],.box false [.sl 90008 b.length],.box false [.mpr 90006],.box false [.clo 43 [.ref 90002 0,.ref 90005 0]],.box false [.clo 44 [.ref 90000 0,.ref 90001 0,.ref 90002 0,.ref 90003 0,.ref 90004 0,.ref 90005 0]],.mp (S.map enc) ((Cx S).map enc) false,.gone,.row 1 (b.map enc) 0]:=rfl
theorem Oh (t:List Part) (i:Nat) (ns:List (List UInt8)) (S:List (List UInt8)):wN t i ns S=[.row 1 (ns.map enc) 0,.box false [.nils 1],.box false [.clo 44 [.ref 90003 0,.ref 90004 0,.ref 90001 0,.ref 90005 0,.ref 90006 0,.ref 90002 0]],.box false [.d (.list 8 (t.map enc))],.box false [.d (.int .i64 i)],.box false [.mpr 90007],.box false [.clo 43 [.ref 90001 0,.ref 90002 0]],.mp (S.map enc) ((Cx S).map enc) false]:=rfl
theorem K4 (t:List Part) (i:Nat) (b:List (List UInt8)) (ns:List (List UInt8)) (S:List (List UInt8)):wB t i b ns S=[.row 1 (ns.map enc) 0,.box false [.sl 90008 b.length],.box false [.clo 44 [.ref 90003 0,.ref 90004 0,.ref 90001 0,.ref 90005 0,.ref 90006 0,.ref 90002 0]],.box false [.d (.list 8 (t.map enc))],.box false [.d (.int .i64 i)],.box false [.mpr 90007],.box false [.clo 43 [.ref 90001 0,.ref 90002 0]],.mp (S.map enc) ((Cx S).map enc) false,.row 1 (b.map enc) 0]:=rfl
theorem aC (t:List Part) (i:Nat) (b:List (List UInt8)) (ns:List (List UInt8)) (S:List (List UInt8)):wM t i b ns S=[.row 1 (ns.map enc) 0,.box false [.sl 90009 b.length],.box false [.clo 44 [.ref 90003 0,.ref 90004 0,.ref 90001 0,.ref 90005 0,.ref 90006 0,.ref 90002 0]],.box false [.d (.list 8 (t.map enc))],.box false [.d (.int .i64 i)],.box false [.mpr 90007],.box false [.clo 43 [.ref 90001 0,.ref 90002 0]],.mp (S.map enc) ((Cx S).map enc) false,.gone,.row 1 (b.map enc) 0]:=rfl
def pO (t:List Part) (i:Nat) (o:Option (List (List UInt8))) (S:List (List UInt8)):List Obj:=match o with
 | none=>pN t i S
 | some b=>pB t i b S
def pP (t:List Part) (i:Nat) (o:Option (List (List UInt8))) (h:Bool) (S:List (List UInt8)):List Obj:=match o,h with
 | none,false=>pN t i S
 | none,true=>pB t i [] S
 | some b,false=>pB t i b S
 | some b,true=>pM t i b S
def wO (t:List Part) (i:Nat) (o:Option (List (List UInt8))) (ns S:List (List UInt8)):List Obj:=match o with
 | none=>wN t i ns S
 | some b=>wB t i b ns S
def wP (t:List Part) (i:Nat) (o:Option (List (List UInt8))) (ns S:List (List UInt8)):List Obj:=match o with
 | none=>wB t i [] ns S
 | some b=>wM t i b ns S
noncomputable def Zv (n:Nat):BCon where
 X:=PX
 ok:=fun a=>a.Ok n 0
 args:=fun a=>[.ref 90000 0,.ref 90001 0,.ref 90002 0,.ref 90003 0,.ref 90004 0,.ref 90005 0]
 objs:=fun a=>pO a.t a.i a.bd a.S
 res:=fun a=>.tup []
 post:=fun a=>pP a.t (a.i+(nds a.x).length) a.bd (hasB a.x) (partT a.x (U6 a.bd) a.S)
theorem Eg:∀ x,¬ (Zv 0).ok x:=by
 rintro x ⟨_,_,_,h,_⟩;omega
noncomputable def Zw (n:Nat):BCon where
 X:=PX×List (List UInt8)
 ok:=fun a=>a.1.Ok n a.2.length
 args:=fun a=>[.sl 90000 a.2.length,.ref 90001 0,.ref 90002 0]
 objs:=fun a=>wO a.1.t a.1.i a.1.bd a.2 a.1.S
 res:=fun a=>.tup []
 post:=fun a=>wP a.1.t (a.1.i+(nds a.1.x).length) a.1.bd a.2 (partT a.1.x (U6 a.1.bd++a.2) a.1.S)
theorem W0 {m:Nat} {l:List Nat} (h:decide (∀ j,j<m→l[j]?=some (90000+j))=true):Rk m l:=fun j hj=>of_decide_eq_true h j hj
theorem Yt {n:Nat} {t:List Part} {i:Nat} {o:Option (List (List UInt8))} {S:List (List UInt8)} {y:Rose Part} {j:Nat} {H:Bool} {V:List (List UInt8)} (hy:At Wr t i y) (hj:i+(nds y).length=j) (hH:hasB y=H) (hV:partT y (U6 o) S=V) :
  (Zv n).post ⟨t,i,o,S⟩=pP t j o H V:=by
 have hx:(PX.mk t i o S).x=y:=Wq hy;show pP t (i+(nds (PX.mk t i o S).x).length) o (hasB (PX.mk t i o S).x) (partT (PX.mk t i o S).x (U6 o) S)=_;rw [hx,hj,hH,hV]
theorem Wb {n:Nat} {t:List Part} {i:Nat} {o:Option (List (List UInt8))} {ns S:List (List UInt8)} {y:Rose Part} {j:Nat} {V:List (List UInt8)} (hy:At Wr t i y) (hj:i+(nds y).length=j) (hV:partT y (U6 o++ns) S=V) :
  (Zw n).post (⟨t,i,o,S⟩,ns)=wP t j o ns V:=by
 have hx:(PX.mk t i o S).x=y:=Wq hy;show wP t (i+(nds (PX.mk t i o S).x).length) o ns (partT (PX.mk t i o S).x (U6 o++ns) S)=_;rw [hx,hj,hV]
theorem X4 {n:Nat} {a:PX}:(Zv n).res a=.tup []:=rfl
theorem Ym {n:Nat} {a:PX×List (List UInt8)}:(Zw n).res a=.tup []:=rfl
theorem Oe {C:Ctx} {c:Code} {Q:AExit→AS→Prop} {st:AS} (q i j:Nat) (kills:List Nat) {α:Type} (vals:α→List (Nat×AV)) (objs:α→List (Nat×Obj)) (ok:α→Prop) (μ:α→Nat) (a0:α) (h0:ok a0)
  (hw:Wk st (Pf st kills (vals a0) (objs a0))) (h:∀ a,ok a→Shut (V4 C c (Od (fun s'=>∃ a',(Wk s' (Pf st kills (vals a') (objs a'))∨Zsc q i j s' (Pf st kills (vals a') (objs a')))∧ok a'∧μ a'<μ a) Q) (Pf st kills (vals a) (objs a)))):Zaq C c Q st :=
 ⟨α,fun a=>Pf st kills (vals a) (objs a),ok,μ,fun s t=>Wk s t∨Zsc q i j s t,fun _ _ h=>h.elim (fun h=>.inl h) (fun h=>.inr (.inr (.inr ⟨q,i,j,h⟩))),⟨a0,⟨[],hw⟩,h0⟩,fun a ha=>(h a ha).out⟩
class KdA:Prop
theorem KdA.k (_:KdA) (h:p:=by
 refine ⟨[90000,90001,90002,90003,90004,90005,90006,90007,14],by simp,rfl,W0 (by decide),?_⟩
 simp [Zh,lk,J7,rnA,rnAs,rk]):p:=h
class KdB:Prop
theorem KdB.k (_:KdB) (h:p:=by
 refine ⟨[90000,90001,90002,90003,90004,90005,90006,90007,14],by simp,rfl,W0 (by decide),?_⟩
 simp [Zh,lk,J7,rnA,rnAs,rk]):p:=h
class Kdz:Prop
theorem Kdz.k (_:Kdz) (h:p:=by
 cases H with
 | false =>
  have Qu:(Zv n).post ⟨t,i,some ns,S⟩=pB t j ns V:=pX;refine Z6 (bc:=Zv n) ⟨t,i,some ns,S⟩ [90003,90004,90001,90005,90006,90002,90007,9] Yr rfl (by simp) (by rw [Qu];rfl) ?_ ?_ ?_
  ·show Zh _ _ (pB t i ns S) _;rw [X7];simp [Zh,lk,J7,rnA,rnAs,rk]
  ·show Zy (List.drop (pB t i ns S).length _) _;rw [X7];simp [Zy,lk]
  have Q0:=@X4;have Q6:=@X7;have Kq:KdA:=⟨⟩;exact Qw
 | true =>
  have Qu:(Zv n).post ⟨t,i,some ns,S⟩=pM t j ns V:=pX;refine Z6 (bc:=Zv n) ⟨t,i,some ns,S⟩ [90003,90004,90001,90005,90006,90002,90007,9,60000] Yr rfl (by simp) (by rw [Qu];rfl) ?_ ?_ ?_
  ·show Zh _ _ (pB t i ns S) _;rw [X7];simp [Zh,lk,J7,rnA,rnAs,rk]
  ·show Zy (List.drop (pB t i ns S).length _) _;rw [X7];simp [Zy,lk]
  have Q0:=@X4;have Q6:=@Ac;have Kq:KdB:=⟨⟩;exact Qw):p:=h
class KdD:Prop
theorem KdD.k (_:KdD) (h:p:=by
 refine ⟨[90000,90001,90002,90003,90004,90005,90006,90007,90008,14],by simp,rfl,W0 (by decide),?_⟩
 simp [Zh,lk,J7,rnA,rnAs,rk]):p:=h
class KdE:Prop
theorem KdE.k (_:KdE) (h:p:=by
 refine ⟨[90000,90001,90002,90003,90004,90005,90006,90007,90008,14],by simp,rfl,W0 (by decide),?_⟩
 simp [Zh,lk,J7,rnA,rnAs,rk]):p:=h
class KdC:Prop
theorem KdC.k (_:KdC) (h:p:=by
 cases H with
 | false =>
  have Qu:(Zv n).post ⟨t,i,some (b++ns),S⟩=pB t j (b++ns) V:=pX;refine Z6 (bc:=Zv n) ⟨t,i,some (b++ns),S⟩ [90003,90004,90001,90005,90006,90002,90007,90008] Yr rfl (by simp) (by rw [Qu];rfl) ?_ ?_ ?_
  ·show Zh _ _ (pB t i (b++ns) S) _;rw [X7];simp [Zh,lk,J7,rnA,rnAs,rk]
  ·show Zy (List.drop (pB t i (b++ns) S).length _) _;rw [X7];simp [Zy,lk]
  have Q0:=@X4;have Q6:=@X7;have Kq:KdD:=⟨⟩;exact Qw
 | true =>
  have Qu:(Zv n).post ⟨t,i,some (b++ns),S⟩=pM t j (b++ns) V:=pX;refine Z6 (bc:=Zv n) ⟨t,i,some (b++ns),S⟩ [90003,90004,90001,90005,90006,90002,90007,90008,60000] Yr rfl (by simp) (by rw [Qu];rfl) ?_ ?_ ?_
  ·show Zh _ _ (pB t i (b++ns) S) _;rw [X7];simp [Zh,lk,J7,rnA,rnAs,rk]
  ·show Zy (List.drop (pB t i (b++ns) S).length _) _;rw [X7];simp [Zy,lk]
  have Q0:=@X4;have Q6:=@Ac;have Kq:KdE:=⟨⟩;exact Qw):p:=h
theorem stepbm_FreeWith (n:Nat) (ih:Wm Tryz.prog (44,Zv n)):Wm Tryz.prog (43,(Zw n)):=by
 obtain ⟨Kx,Kt,Kc,Kd,Kb,Ku,Kw,K,Y6,_⟩:=W5 Qj Z0 [100014] false (kW ih (Zv.eq_def n) W4);refine jU K Tryz.func43 [] rfl 15 rfl (fun c hc x Xr=>?_);obtain ⟨⟨t,i,bd,S⟩,ns⟩:=x;obtain ⟨hT,y,hy,hn,hb,hS⟩:=Xr;simp only at hT hy hb hS;obtain ⟨V,hV⟩:=exq (partT y (U6 bd++ns) S);obtain ⟨j,hj⟩:=exq (i+(nds y).length);obtain ⟨H,hH⟩:=exq (hasB y);have Wy:=Wb (n:=n) hy hj hV;cases bd with
 | none =>
  simp only [U6,List.nil_append,List.length_nil] at hb hV;refine ⟨?_,?_,?_,?_,?_⟩
  ·show Xg [.sl 90000 ns.length,.ref 90001 0,.ref 90002 0] (wN t i ns S);rw [Oh];simp [Xg,Jm,Obj.tied,Zx,keptAll,AV.kept,Zq,Jn,lk]
  ·show Zx (wN t i ns S);rw [Oh];simp [Zx]
  ·rw [Wy];show Xg [] (wB t j [] ns V);rw [K4];simp [Xg,Jm,Obj.tied,Zx,keptAll,AV.kept,Zq,Jn,lk]
  ·rw [Wy];show (wN t i ns S).length≤(wB t j [] ns V).length;rw [Oh,K4];simp
  show V4 Kx c (V9 _ _ (wN t i ns S).length (.tup []) ((Zw n).post (⟨t,i,none,S⟩,ns))) ⟨[.sl 90000 ns.length,.ref 90001 0,.ref 90002 0]++Yp 12,Zq (wN t i ns S)⟩;rw [Wy];show V4 _ c (V9 _ _ (wN t i ns S).length (.tup []) (wB t j [] ns V)) _;rw [Oh,K4];have Yr:(PX.mk t i (some ns) S).Ok n 0:=⟨hT,y,hy,hn,by show ns.length+0+_≤_;omega,hS⟩
  have pX:=Yt (n:=n) (o:=some ns) hy hj hH hV;cases hc;have Kq:Kdz:=⟨⟩;exact Qw
 | some b =>
  simp only [U6] at hb hV;refine ⟨?_,?_,?_,?_,?_⟩
  ·show Xg [.sl 90000 ns.length,.ref 90001 0,.ref 90002 0] (wB t i b ns S);rw [K4];simp [Xg,Jm,Obj.tied,Zx,keptAll,AV.kept,Zq,Jn,lk]
  ·show Zx (wB t i b ns S);rw [K4];simp [Zx]
  ·rw [Wy];show Xg [] (wM t j b ns V);rw [aC];simp [Xg,Jm,Obj.tied,Zx,keptAll,AV.kept,Zq,Jn,lk]
  ·rw [Wy];show (wB t i b ns S).length≤(wM t j b ns V).length;rw [K4,aC];simp
  show V4 Kx c (V9 _ _ (wB t i b ns S).length (.tup []) ((Zw n).post (⟨t,i,(some b),S⟩,ns))) ⟨[.sl 90000 ns.length,.ref 90001 0,.ref 90002 0]++Yp 12,Zq (wB t i b ns S)⟩;rw [Wy];show V4 _ c (V9 _ _ (wB t i b ns S).length (.tup []) (wM t j b ns V)) _;rw [K4,aC];have Yr:(PX.mk t i (some (b++ns)) S).Ok n 0:=⟨hT,y,hy,hn,by show (b++ns).length+0+_≤_;simp only [Zj];omega,hS⟩
  have pX:=Yt (n:=n) (o:=some (b++ns)) hy hj hH hV;have Qz:b.map (enc:List UInt8→D)++ns.map enc=(b++ns).map enc:=Zsa;have Qs:((b++ns).map (enc:List UInt8→D)).take b.length=b.map enc:=by rw [List.map_append,List.take_left' (by simp)]
  cases hc;have Kq:KdC:=⟨⟩;exact Qw
theorem bG {x:List UInt8} {ks vs:List (List UInt8)} (h:Us x ks=vs):I2 (.str x) (ks.map enc)=vs.map enc:=by rw [Zbw,h]
theorem Zcl {l:List (List UInt8)} {v:List UInt8}:l.any (eB v)=Uc l v:=by
 unfold Uc
 induction l with
 | nil=>rfl
 | cons x l ih =>
  rw [List.any_cons,List.any_cons,ih];have:eB v x=(x==v):=by
   unfold eB;rw [Bool.eq_iff_iff,Zi,Zi];exact eq_comm
  rw [this]
theorem Bw {o:Option (List (List UInt8))} {v:List UInt8}:J9.res (o,v)=.bool (Uc (U6 o) v):=by
 show D.bool ((U6 o).any (eB v))=_;rw [Zcl]
theorem rV {v:List UInt8}:J9.post (none,v)=[]:=rfl
theorem Ee {b:List (List UInt8)} {v:List UInt8}:J9.post (some b,v)=[.row 1 (b.map enc) 0]:=rfl
theorem jZ {α:Type}:∀ {l:List α},l.length=2→∃ a b,l=[a,b]
 | [a,b],_=>⟨a,b,rfl⟩
 | [],h=>by simp at h
 | [_],h=>by simp at h
 | _::_::_::_,h=>by simp at h
theorem Iz {p:Part} {ks:List (Rose Part)} {k:Nat} {b S:List (List UInt8)} (h:k<ks.length):partTs p (ks.drop k) k b S=partTs p (ks.drop (k+1)) (k+1) b (partT ks[k] (Su p k b) S):=by
 rw [List.drop_eq_getElem_cons h,partTs]
theorem cW {ks:List (Rose Part)} {k:Nat} (h:k<ks.length):hasBs (ks.drop k)=(hasB ks[k]||hasBs (ks.drop (k+1))):=by
 rw [List.drop_eq_getElem_cons h,hasBs]
theorem Af {ks:List (Rose Part)} {k:Nat} (h:k<ks.length):(ndss (ks.take (k+1))).length=(ndss (ks.take k)).length+(nds ks[k]).length:=by
 rw [List.take_add_one,Zd h,Ye,Zj];simp [ndss]
def Zt7:Bool→List (Nat×Obj)
 | false=>[(90002,.box false [.nils 1])]
 | true=>[(90002,.box false [.sl 60000 0]),(60000,.row 1 [] 0)]
theorem bA:Zt7 false=[(90002,.box false [.nils 1])]:=rfl
theorem fM:Zt7 true=[(90002,.box false [.sl 60000 0]),(60000,.row 1 [] 0)]:=rfl
theorem L3 {a b:Nat×Obj} {l:List (Nat×Obj)}:[a,b]++l=a::b::l:=rfl
def Zt8 (b:List (List UInt8)):Bool→List (Nat×Obj)
 | false=>[(90002,.box false [.sl 90007 b.length]),(90007,.row 1 (b.map enc) 0)]
 | true=>[(90002,.box false [.sl 60000 b.length]),(90007,.gone),(60000,.row 1 (b.map enc) 0)]
theorem bB {b:List (List UInt8)}:Zt8 b false=[(90002,.box false [.sl 90007 b.length]),(90007,.row 1 (b.map enc) 0)]:=rfl
theorem fN {b:List (List UInt8)}:Zt8 b true=[(90002,.box false [.sl 60000 b.length]),(90007,.gone),(60000,.row 1 (b.map enc) 0)]:=rfl
class KdG:Prop
theorem KdG.k (_:KdG) (h:p:=by
 first|contradiction|skip
 refine ⟨[90000,90001,90002,90003,90004,90005,90006],by simp,rfl,W0 (by decide),?_⟩
 simp [Zh,lk,J7,rnA,rnAs,rk]):p:=h
class KdF:Prop
theorem KdF.k (_:KdF) (h:p:=by
 first|contradiction|skip
 refine Z6 (bc:=J9) (none,pn) [] (by show (([]:List (List UInt8))).length≤1000000000;simp) rfl (by simp) rfl ?_ ?_ ?_
 ·exact trivial
 ·exact trivial
 have Qs:=Bw (o:=none) (v:=pn);rw [show U6 none=([]:List (List UInt8)) from rfl] at Qs;cases Em:Uc ([]:List (List UInt8)) pn with
 | true =>
  exact absurd Em (by simp [Uc])
 | false =>
  simp only [Em,Zl,if_false] at hV;have Q6:Ml (.str pn) (.bool true) (S.map enc) ((Cx S).map enc)=(Cx V).map enc:=by rw [E6,Tw,hV]
  have Q5:=bG hV;rw [Em] at Qs;have Z2:=@rV;have Z7:=@H9;have Kq:KdG:=⟨⟩;exact Qw):p:=h
class KdI:Prop
theorem KdI.k (_:KdI) (h:p:=by
 first|contradiction|skip
 refine ⟨[90000,90001,90002,90003,90004,90005,90006,60000],by simp,rfl,W0 (by decide),?_⟩
 simp [Zh,lk,J7,rnA,rnAs,rk]):p:=h
class KdH:Prop
theorem KdH.k (_:KdH) (h:p:=by
 first|contradiction|skip
 refine Z6 (bc:=Zw n) (⟨t,i+1,none,S⟩,[pb]) [38,90002,90005,90000,90001,90003,90004,90006,60000] Yr rfl (by simp) (by rw [Q9];rfl) ?_ ?_ ?_
 ·show Zh _ _ (wN t (i+1) [pb] S) _;rw [Oh];simp [Zh,lk,J7,rnA,rnAs,rk]
 ·show Zy (List.drop (wN t (i+1) [pb] S).length _) _;rw [Oh];simp [Zy,lk]
 have Ja:(Zw n).post (⟨t,i+1,none,S⟩,[pb])=wB t j [] [pb] V:=Q9;have Z2:=@Ym;have Z7:=@K4;have Kq:KdI:=⟨⟩;exact Qw):p:=h
class KdK:Prop
theorem KdK.k (_:KdK) (h:p:=by
 first|contradiction|skip
 refine ⟨[90000,90001,90002,90003,90004,90005,90006,60000],by simp,rfl,W0 (by decide),?_⟩
 simp [Zh,lk,J7,rnA,rnAs,rk]):p:=h
class KdJ:Prop
theorem KdJ.k (_:KdJ) (h:p:=by
 first|contradiction|skip
 refine Z6 (bc:=Zw n) (⟨t,i+1,none,S⟩,[pb]) [38,90002,90005,90000,90001,90003,90004,90006,60000] Yr rfl (by simp) (by rw [Q9];rfl) ?_ ?_ ?_
 ·show Zh _ _ (wN t (i+1) [pb] S) _;rw [Oh];simp [Zh,lk,J7,rnA,rnAs,rk]
 ·show Zy (List.drop (wN t (i+1) [pb] S).length _) _;rw [Oh];simp [Zy,lk]
 have Ja:(Zw n).post (⟨t,i+1,none,S⟩,[pb])=wB t j [] [pb] V:=Q9;have Z2:=@Ym;have Z7:=@K4;have Kq:KdK:=⟨⟩;exact Qw):p:=h
class KdN:Prop
theorem KdN.k (_:KdN) (h:p:=by
 first|contradiction|skip
 refine ⟨[90000,90001,90002,90003,90004,90005,90006,60000],by simp,rfl,W0 (by decide),?_⟩
 simp [Zh,lk,J7,rnA,rnAs,rk]):p:=h
class KdM:Prop
theorem KdM.k (_:KdM) (h:p:=by
 first|contradiction|skip
 have Jq:(Zw n).post (⟨t,j1,none,V1⟩,[pb])=wB t j [] [pb] V:=Wb (n:=n) (o:=none) a2 (show j1+(nds x2).length=j by omega) Zc4
 have dN:(Zw n).ok (⟨t,j1,none,V1⟩,[pb]):=⟨hT,x2,a2,by omega,by show (([]:List (List UInt8))).length+1+_≤_;simp;omega,by show V1.length+_≤_;omega⟩
 refine Z6 (bc:=Zw n) (⟨t,j1,none,V1⟩,[pb]) [47,90002,90005,90000,90001,90003,90004,90006,60000] dN rfl (by simp) (by rw [Jq];rfl) ?_ ?_ ?_
 ·show Zh _ _ (wN t j1 [pb] V1) _;rw [Oh];simp [Zh,lk,J7,rnA,rnAs,rk]
 ·show Zy (List.drop (wN t j1 [pb] V1).length _) _;rw [Oh];simp [Zy,lk]
 have Z2:=@Ym;have Z7:=@K4;have Kq:KdN:=⟨⟩;exact Qw):p:=h
class KdP:Prop
theorem KdP.k (_:KdP) (h:p:=by
 first|contradiction|skip
 refine ⟨[90000,90001,90002,90003,90004,90005,90006,60001],by simp,rfl,W0 (by decide),?_⟩
 simp [Zh,lk,J7,rnA,rnAs,rk]):p:=h
class KdO:Prop
theorem KdO.k (_:KdO) (h:p:=by
 first|contradiction|skip
 have Jq:(Zw n).post (⟨t,j1,(some ([]:List (List UInt8))),V1⟩,[pb])=wM t j ([]:List (List UInt8)) [pb] V:=Wb (n:=n) (o:=(some ([]:List (List UInt8)))) a2 (show j1+(nds x2).length=j by omega) Zc4
 have dN:(Zw n).ok (⟨t,j1,(some ([]:List (List UInt8))),V1⟩,[pb]):=⟨hT,x2,a2,by omega,by show (([]:List (List UInt8))).length+1+_≤_;simp;omega,by show V1.length+_≤_;omega⟩
 refine Z6 (bc:=Zw n) (⟨t,j1,(some ([]:List (List UInt8))),V1⟩,[pb]) [47,90002,90005,90000,90001,90003,90004,90006,60000,60001] dN rfl (by simp) (by rw [Jq];rfl) ?_ ?_ ?_
 ·show Zh _ _ (wB t j1 ([]:List (List UInt8)) [pb] V1) _;rw [K4];simp [Zh,lk,J7,rnA,rnAs,rk]
 ·show Zy (List.drop (wB t j1 ([]:List (List UInt8)) [pb] V1).length _) _;rw [K4];simp [Zy,lk]
 have Z2:=@Ym;have Z7:=@aC;have Kq:KdP:=⟨⟩;exact Qw):p:=h
class KdL:Prop
theorem KdL.k (_:KdL) (h:p:=by
 first|contradiction|skip
 cases H1 with
 | false =>
  have Ja:(Zv n).post ⟨t,i+1,none,S⟩=pN t j1 V1:=Q9;refine Z6 (bc:=Zv n) ⟨t,i+1,none,S⟩ [90000,90001,90002,90003,90004,90005,90006] Yr rfl (by simp) (by rw [Ja];rfl) ?_ ?_ ?_
  ·show Zh _ _ (pN t (i+1) S) _;rw [Hr];simp [Zh,lk,J7,rnA,rnAs,rk]
  ·show Zy (List.drop (pN t (i+1) S).length _) _;rw [Hr];simp [Zy,lk]
  have Z2:=@X4;have Z7:=@Hr;have Kq:KdM:=⟨⟩;exact Qw
 | true =>
  have Ja:(Zv n).post ⟨t,i+1,none,S⟩=pB t j1 [] V1:=Q9;refine Z6 (bc:=Zv n) ⟨t,i+1,none,S⟩ [90000,90001,90002,90003,90004,90005,90006,60000] Yr rfl (by simp) (by rw [Ja];rfl) ?_ ?_ ?_
  ·show Zh _ _ (pN t (i+1) S) _;rw [Hr];simp [Zh,lk,J7,rnA,rnAs,rk]
  ·show Zy (List.drop (pN t (i+1) S).length _) _;rw [Hr];simp [Zy,lk]
  have Z2:=@X4;have Z7:=@X7;have Kq:KdO:=⟨⟩;exact Qw):p:=h
class KdS:Prop
theorem KdS.k (_:KdS) (h:p:=by
 first|contradiction|skip
 refine ⟨[90000,90001,90002,90003,90004,90005,90006,60001],by simp,rfl,W0 (by decide),?_⟩
 simp [Zh,lk,J7,rnA,rnAs,rk]):p:=h
class KdR:Prop
theorem KdR.k (_:KdR) (h:p:=by
 first|contradiction|skip
 have Jq:(Zw n).post (⟨t,j1,some ([]:List (List UInt8)),V1⟩,[pn])=wM t j ([]:List (List UInt8)) [pn] V:=Wb (n:=n) (o:=some ([]:List (List UInt8))) a2 (show j1+(nds x2).length=j by omega) Zc4
 have dN:(Zw n).ok (⟨t,j1,some ([]:List (List UInt8)),V1⟩,[pn]):=⟨hT,x2,a2,by omega,by show (([]:List (List UInt8))).length+1+_≤_;simp;omega,by show V1.length+_≤_;omega⟩
 refine Z6 (bc:=Zw n) (⟨t,j1,some ([]:List (List UInt8)),V1⟩,[pn]) [61,90002,90005,90000,90001,90003,90004,90006,60000,60001] dN rfl (by simp) (by rw [Jq];rfl) ?_ ?_ ?_
 ·show Zh _ _ (wB t j1 ([]:List (List UInt8)) [pn] V1) _;rw [K4];simp [Zh,lk,J7,rnA,rnAs,rk]
 ·show Zy (List.drop (wB t j1 ([]:List (List UInt8)) [pn] V1).length _) _;rw [K4];simp [Zy,lk]
 have Z2:=@Ym;have Z7:=@aC;have Kq:KdS:=⟨⟩;exact Qw):p:=h
class KdQ:Prop
theorem KdQ.k (_:KdQ) (h:p:=by
 first|contradiction|skip
 refine Z6 (bc:=Zw n) (⟨t,i+1,none,S⟩,[pn,pb]) [56,90002,90005,90000,90001,90003,90004,90006,60000] Yr rfl (by simp) (by rw [Q9];rfl) ?_ ?_ ?_
 ·show Zh _ _ (wN t (i+1) [pn,pb] S) _;rw [Oh];simp [Zh,lk,J7,rnA,rnAs,rk]
 ·show Zy (List.drop (wN t (i+1) [pn,pb] S).length _) _;rw [Oh];simp [Zy,lk]
 have Z2:=@Ym;have Z7:=@K4;have Kq:KdR:=⟨⟩;exact Qw):p:=h
class KdU:Prop
theorem KdU.k (_:KdU) (h:p:=by
 first|contradiction|skip
 refine ⟨[90000,90001,90002,90003,90004,90005,90006],by simp,rfl,W0 (by decide),?_⟩
 simp [Zh,lk,J7,rnA,rnAs,rk]):p:=h
class KdV:Prop
theorem KdV.k (_:KdV) (h:p:=by
 first|contradiction|skip
 refine ⟨[90000,90001,90002,90003,90004,90005,90006,60000],by simp,rfl,W0 (by decide),?_⟩
 simp [Zh,lk,J7,rnA,rnAs,rk]):p:=h
class KdX:Prop
theorem KdX.k (_:KdX) (h:p:=by
 first|contradiction|skip
 refine ⟨(k+1,U1,false),.inl (by rw [eR];simp only [bA,fM,L3];exact J0),by simp only;omega,hU,hM,by simp only;omega,by simp only;omega⟩):p:=h
class KdY:Prop
theorem KdY.k (_:KdY) (h:p:=by
 first|contradiction|skip
 refine ⟨(k+1,U1,true),.inl (by rw [eR];simp only [bA,fM,L3];exact J0),by simp only;omega,hU,hM,by simp only;omega,by simp only;omega⟩):p:=h
class KdW:Prop
theorem KdW.k (_:KdW) (h:p:=by
 first|contradiction|skip
 cases H1 with
 | false =>
  have Ja:(Zv n).post ⟨t,c0,none,U⟩=pN t c1 U1:=Q9;refine Z6 (bc:=Zv n) ⟨t,c0,none,U⟩ [90000,90001,90002,90003,90004,90005,90006] Yr rfl (by simp) (by rw [Ja];rfl) ?_ ?_ ?_
  ·show Zh _ _ (pN t c0 U) _;rw [Hr];simp [Zh,lk,J7,rnA,rnAs,rk]
  ·show Zy (List.drop (pN t c0 U).length _) _;rw [Hr];simp [Zy,lk]
  have Z2:=@X4;have Z7:=@Hr;have Kq:KdX:=⟨⟩;exact Qw
 | true =>
  have Ja:(Zv n).post ⟨t,c0,none,U⟩=pB t c1 [] U1:=Q9;refine Z6 (bc:=Zv n) ⟨t,c0,none,U⟩ [90000,90001,90002,90003,90004,90005,90006,60000] Yr rfl (by simp) (by rw [Ja];rfl) ?_ ?_ ?_
  ·show Zh _ _ (pN t c0 U) _;rw [Hr];simp [Zh,lk,J7,rnA,rnAs,rk]
  ·show Zy (List.drop (pN t c0 U).length _) _;rw [Hr];simp [Zy,lk]
  have Z2:=@X4;have Z7:=@X7;have Kq:KdY:=⟨⟩;exact Qw):p:=h
class Kea:Prop
theorem Kea.k (_:Kea) (h:p:=by
 first|contradiction|skip
 refine ⟨(k+1,U1,true),.inl (by rw [eR];simp only [bA,fM,L3];exact J0),by simp only;omega,hU,hM,by simp only;omega,by simp only;omega⟩):p:=h
class Keb:Prop
theorem Keb.k (_:Keb) (h:p:=by
 first|contradiction|skip
 refine ⟨(k+1,U1,true),.inr (by rw [eR];simp only [bA,fM,L3];exact Zwj),by simp only;omega,hU,hM,by simp only;omega,by simp only;omega⟩):p:=h
class KdZ:Prop
theorem KdZ.k (_:KdZ) (h:p:=by
 first|contradiction|skip
 cases H1 with
 | false =>
  have Ja:(Zv n).post ⟨t,c0,(some []),U⟩=pB t c1 [] U1:=Q9;refine Z6 (bc:=Zv n) ⟨t,c0,(some []),U⟩ [90000,90001,90002,90003,90004,90005,90006,60000] Yr rfl (by simp) (by rw [Ja];rfl) ?_ ?_ ?_
  ·show Zh _ _ (pB t c0 [] U) _;rw [X7];simp [Zh,lk,J7,rnA,rnAs,rk]
  ·show Zy (List.drop (pB t c0 [] U).length _) _;rw [X7];simp [Zy,lk]
  have Z2:=@X4;have Z7:=@X7;have Kq:Kea:=⟨⟩;exact Qw
 | true =>
  have Ja:(Zv n).post ⟨t,c0,(some []),U⟩=pM t c1 [] U1:=Q9;refine Z6 (bc:=Zv n) ⟨t,c0,(some []),U⟩ [90000,90001,90002,90003,90004,90005,90006,60000,60001] Yr rfl (by simp) (by rw [Ja];rfl) ?_ ?_ ?_
  ·show Zh _ _ (pB t c0 [] U) _;rw [X7];simp [Zh,lk,J7,rnA,rnAs,rk]
  ·show Zy (List.drop (pB t c0 [] U).length _) _;rw [X7];simp [Zy,lk]
  have Z2:=@X4;have Z7:=@Ac;have Kq:Keb:=⟨⟩;exact Qw):p:=h
class KdT:Prop
theorem KdT.k (_:KdT) (h:p:=by
 first|contradiction|skip
 refine Oe 90002 60000 60001 [18,19,20,21] (fun q:Nat×List (List UInt8)×Bool=>[(17,.d (.int .i64 q.1))]) (fun q:Nat×List (List UInt8)×Bool=>[(90001,.box false [.d (.int .i64 (i+1+(ndss (ks.take q.1)).length:Nat))]),(90006,.mp (q.2.1.map enc) ((Cx q.2.1).map enc) false)]++Zt7 q.2.2) (fun q:Nat×List (List UInt8)×Bool=>q.1≤ks.length∧partTs ⟨pk,pl,pn,pb,pm,pq,pt,pu⟩ (ks.drop q.1) q.1 ([]:List (List UInt8)) q.2.1=V∧(q.2.2||hasBs (ks.drop q.1))=H∧q.2.1.length≤S.length+(ndss (ks.take q.1)).length) (fun q:Nat×List (List UInt8)×Bool=>ks.length-q.1) (0,S,false) ?_ ?_ ?_
 ·exact ⟨Nat.zero_le _,hV,by simpa using Zwf,by simp⟩
 ·simp only [bA,L3,List.take_zero,ndss];exact J0
 rintro ⟨k,U,mv⟩ ⟨hk,hU,hM,Zwc⟩;simp only at hk hU hM Zwc;rcases Z5 k ks.length with ⟨Qd,Qa⟩|⟨Qd,Qa⟩
 rotate_left
 ·have xG:k=ks.length:=by omega
  rw [xG,List.drop_length] at hU hM;rw [partTs] at hU;rw [hasBs,Bool.or_false] at hM;subst hU hM;rw [xG,List.take_length];have Qz:i+1+(ndss ks).length=j:=by omega
  rw [Qz];rw [xG] at Qa;cases mv with
  | false =>
   have Q0:pP t j none false U=_:=(show pP t j none false U=pN t j U from rfl).trans (Hr _ _ _);have Z2:=@bA;have Z7:=@L3;have Kq:KdU:=⟨⟩;exact Qw
  | true =>
   have Q0:pP t j none true U=_:=(show pP t j none true U=pB t j [] U from rfl).trans (X7 _ _ _ _);have Z2:=@fM;have Z7:=@L3;have Kq:KdV:=⟨⟩;exact Qw
 have ax:=aJ Pk Qd;have V2:=Ss Qd;have Zu4:=Af Qd;rw [Iz Qd,Zvn] at hU;rw [cW Qd,←Bool.or_assoc] at hM;obtain ⟨c0,Zc1⟩:=exq (i+1+(ndss (ks.take k)).length);rw [Zc1] at ax ⊢;have eR:i+1+(ndss (ks.take (k+1))).length=c0+(nds ks[k]).length:=by omega
 have Za8:=Ye (ks.take (k+1)) (ks.drop (k+1));have Za9:=congrArg List.length Za8;rw [List.take_append_drop,Zj] at Za9;have tT:=partT_len ks[k] ([]:List (List UInt8)) U;obtain ⟨y,Zus⟩:=exq (ks[k]);rw [Zus] at ax V2 Zu4 hU hM eR tT;obtain ⟨U1,Zpm⟩:=exq (partT y ([]:List (List UInt8)) U);obtain ⟨H1,Zba⟩:=exq (hasB y);obtain ⟨c1,A0⟩:=exq (c0+(nds y).length);rw [Zpm] at hU tT;rw [Zba] at hM;rw [A0] at eR;clear Za8;cases mv with
 | false =>
  have Yr:(PX.mk t c0 none U).Ok n 0:=⟨hT,y,ax,by omega,by show (([]:List (List UInt8))).length+0+_≤_;simp;omega,by show U.length+_≤_;omega⟩
  have Q9:=Yt (n:=n) (o:=none) ax A0 Zba Zpm;have Z2:=@bA;have Z7:=@L3;have Kq:KdW:=⟨⟩;exact Qw
 | true =>
  have Yr:(PX.mk t c0 (some []) U).Ok n 0:=⟨hT,y,ax,by omega,by show (([]:List (List UInt8))).length+0+_≤_;simp;omega,by show U.length+_≤_;omega⟩
  have Q9:=Yt (n:=n) (o:=(some [])) ax A0 Zba Zpm;have Z2:=@fM;have Z7:=@L3;have Kq:KdZ:=⟨⟩;exact Qw):p:=h
class Ked:Prop
theorem Ked.k (_:Ked) (h:p:=by
 first|contradiction|skip
 refine ⟨[90000,90001,90002,90003,90004,90005,90006,90007],by simp,rfl,W0 (by decide),?_⟩
 simp [Zh,lk,J7,rnA,rnAs,rk]):p:=h
class Kee:Prop
theorem Kee.k (_:Kee) (h:p:=by
 first|contradiction|skip
 refine ⟨[90000,90001,90002,90003,90004,90005,90006,90007],by simp,rfl,W0 (by decide),?_⟩
 simp [Zh,lk,J7,rnA,rnAs,rk]):p:=h
class Kec:Prop
theorem Kec.k (_:Kec) (h:p:=by
 first|contradiction|skip
 refine Z6 (bc:=J9) (some b,pn) [90007] (by show (b).length≤1000000000;omega) rfl (by simp) rfl ?_ ?_ ?_
 ·show Zh _ _ [Obj.row 1 (b.map (enc:List UInt8→D)) 0] _;simp [Zh,lk,J7,rnA,rnAs,rk]
 ·exact trivial
 have Qs:=Bw (o:=(some b)) (v:=pn);rw [show U6 (some b)=b from rfl] at Qs;cases Em:Uc b pn with
 | true =>
  simp only [Em,if_true] at hV;subst hV;rw [Em] at Qs;have Z2:=@Ee;have Kq:Ked:=⟨⟩;exact Qw
 | false =>
  simp only [Em,Zl,if_false] at hV;have Q6:Ml (.str pn) (.bool true) (S.map enc) ((Cx S).map enc)=(Cx V).map enc:=by rw [E6,Tw,hV]
  have Q5:=bG hV;rw [Em] at Qs;have Z2:=@Ee;have Z7:=@H9;have Kq:Kee:=⟨⟩;exact Qw):p:=h
class Keg:Prop
theorem Keg.k (_:Keg) (h:p:=by
 first|contradiction|skip
 refine ⟨[90000,90001,90002,90003,90004,90005,90006,90007,60000],by simp,rfl,W0 (by decide),?_⟩
 simp [Zh,lk,J7,rnA,rnAs,rk]):p:=h
class Kef:Prop
theorem Kef.k (_:Kef) (h:p:=by
 first|contradiction|skip
 refine Z6 (bc:=Zw n) (⟨t,i+1,(some b),S⟩,[pb]) [38,90002,90005,90000,90001,90003,90004,90006,90007,60000] Yr rfl (by simp) (by rw [Q9];rfl) ?_ ?_ ?_
 ·show Zh _ _ (wB t (i+1) b [pb] S) _;rw [K4];simp [Zh,lk,J7,rnA,rnAs,rk]
 ·show Zy (List.drop (wB t (i+1) b [pb] S).length _) _;rw [K4];simp [Zy,lk]
 have Ja:(Zw n).post (⟨t,i+1,(some b),S⟩,[pb])=wM t j b [pb] V:=Q9;have Z2:=@Ym;have Z7:=@aC;have Kq:Keg:=⟨⟩;exact Qw):p:=h
class Kei:Prop
theorem Kei.k (_:Kei) (h:p:=by
 first|contradiction|skip
 refine ⟨[90000,90001,90002,90003,90004,90005,90006,90007,60000],by simp,rfl,W0 (by decide),?_⟩
 simp [Zh,lk,J7,rnA,rnAs,rk]):p:=h
class Keh:Prop
theorem Keh.k (_:Keh) (h:p:=by
 first|contradiction|skip
 refine Z6 (bc:=Zw n) (⟨t,i+1,(some b),S⟩,[pb]) [38,90002,90005,90000,90001,90003,90004,90006,90007,60000] Yr rfl (by simp) (by rw [Q9];rfl) ?_ ?_ ?_
 ·show Zh _ _ (wB t (i+1) b [pb] S) _;rw [K4];simp [Zh,lk,J7,rnA,rnAs,rk]
 ·show Zy (List.drop (wB t (i+1) b [pb] S).length _) _;rw [K4];simp [Zy,lk]
 have Ja:(Zw n).post (⟨t,i+1,(some b),S⟩,[pb])=wM t j b [pb] V:=Q9;have Z2:=@Ym;have Z7:=@aC;have Kq:Kei:=⟨⟩;exact Qw):p:=h
class Kel:Prop
theorem Kel.k (_:Kel) (h:p:=by
 first|contradiction|skip
 refine ⟨[90000,90001,90002,90003,90004,90005,90006,90007,60000],by simp,rfl,W0 (by decide),?_⟩
 simp [Zh,lk,J7,rnA,rnAs,rk]):p:=h
class Kek:Prop
theorem Kek.k (_:Kek) (h:p:=by
 first|contradiction|skip
 have Jq:(Zw n).post (⟨t,j1,(some b),V1⟩,[pb])=wM t j b [pb] V:=Wb (n:=n) (o:=(some b)) a2 (show j1+(nds x2).length=j by omega) Zc4
 have dN:(Zw n).ok (⟨t,j1,(some b),V1⟩,[pb]):=⟨hT,x2,a2,by omega,by show (b).length+1+_≤_;omega,by show V1.length+_≤_;omega⟩
 refine Z6 (bc:=Zw n) (⟨t,j1,(some b),V1⟩,[pb]) [47,90002,90005,90000,90001,90003,90004,90006,90007,60000] dN rfl (by simp) (by rw [Jq];rfl) ?_ ?_ ?_
 ·show Zh _ _ (wB t j1 b [pb] V1) _;rw [K4];simp [Zh,lk,J7,rnA,rnAs,rk]
 ·show Zy (List.drop (wB t j1 b [pb] V1).length _) _;rw [K4];simp [Zy,lk]
 have Z2:=@Ym;have Z7:=@aC;have Kq:Kel:=⟨⟩;exact Qw):p:=h
class Ken:Prop
theorem Ken.k (_:Ken) (h:p:=by
 first|contradiction|skip
 refine ⟨[90000,90001,90002,90003,90004,90005,90006,90007,60001],by simp,rfl,W0 (by decide),?_⟩
 simp [Zh,lk,J7,rnA,rnAs,rk]):p:=h
class Kem:Prop
theorem Kem.k (_:Kem) (h:p:=by
 first|contradiction|skip
 have Jq:(Zw n).post (⟨t,j1,(some b),V1⟩,[pb])=wM t j b [pb] V:=Wb (n:=n) (o:=(some b)) a2 (show j1+(nds x2).length=j by omega) Zc4
 have dN:(Zw n).ok (⟨t,j1,(some b),V1⟩,[pb]):=⟨hT,x2,a2,by omega,by show (b).length+1+_≤_;omega,by show V1.length+_≤_;omega⟩
 refine Z6 (bc:=Zw n) (⟨t,j1,(some b),V1⟩,[pb]) [47,90002,90005,90000,90001,90003,90004,90006,60000,60001] dN rfl (by simp) (by rw [Jq];rfl) ?_ ?_ ?_
 ·show Zh _ _ (wB t j1 b [pb] V1) _;rw [K4];simp [Zh,lk,J7,rnA,rnAs,rk]
 ·show Zy (List.drop (wB t j1 b [pb] V1).length _) _;rw [K4];simp [Zy,lk]
 have Z2:=@Ym;have Z7:=@aC;have Kq:Ken:=⟨⟩;exact Qw):p:=h
class Kej:Prop
theorem Kej.k (_:Kej) (h:p:=by
 first|contradiction|skip
 cases H1 with
 | false =>
  have Ja:(Zv n).post ⟨t,i+1,(some b),S⟩=pB t j1 b V1:=Q9;refine Z6 (bc:=Zv n) ⟨t,i+1,(some b),S⟩ [90000,90001,90002,90003,90004,90005,90006,90007] Yr rfl (by simp) (by rw [Ja];rfl) ?_ ?_ ?_
  ·show Zh _ _ (pB t (i+1) b S) _;rw [X7];simp [Zh,lk,J7,rnA,rnAs,rk]
  ·show Zy (List.drop (pB t (i+1) b S).length _) _;rw [X7];simp [Zy,lk]
  have Z2:=@X4;have Z7:=@X7;have Kq:Kek:=⟨⟩;exact Qw
 | true =>
  have Ja:(Zv n).post ⟨t,i+1,(some b),S⟩=pM t j1 b V1:=Q9;refine Z6 (bc:=Zv n) ⟨t,i+1,(some b),S⟩ [90000,90001,90002,90003,90004,90005,90006,90007,60000] Yr rfl (by simp) (by rw [Ja];rfl) ?_ ?_ ?_
  ·show Zh _ _ (pB t (i+1) b S) _;rw [X7];simp [Zh,lk,J7,rnA,rnAs,rk]
  ·show Zy (List.drop (pB t (i+1) b S).length _) _;rw [X7];simp [Zy,lk]
  have Z2:=@X4;have Z7:=@Ac;have Kq:Kem:=⟨⟩;exact Qw):p:=h
class Keq:Prop
theorem Keq.k (_:Keq) (h:p:=by
 first|contradiction|skip
 refine ⟨[90000,90001,90002,90003,90004,90005,90006,90007,60001],by simp,rfl,W0 (by decide),?_⟩
 simp [Zh,lk,J7,rnA,rnAs,rk]):p:=h
class Kep:Prop
theorem Kep.k (_:Kep) (h:p:=by
 first|contradiction|skip
 have Jq:(Zw n).post (⟨t,j1,some b,V1⟩,[pn])=wM t j b [pn] V:=Wb (n:=n) (o:=some b) a2 (show j1+(nds x2).length=j by omega) Zc4
 have dN:(Zw n).ok (⟨t,j1,some b,V1⟩,[pn]):=⟨hT,x2,a2,by omega,by show (b).length+1+_≤_;omega,by show V1.length+_≤_;omega⟩
 refine Z6 (bc:=Zw n) (⟨t,j1,some b,V1⟩,[pn]) [61,90002,90005,90000,90001,90003,90004,90006,60000,60001] dN rfl (by simp) (by rw [Jq];rfl) ?_ ?_ ?_
 ·show Zh _ _ (wB t j1 b [pn] V1) _;rw [K4];simp [Zh,lk,J7,rnA,rnAs,rk]
 ·show Zy (List.drop (wB t j1 b [pn] V1).length _) _;rw [K4];simp [Zy,lk]
 have Z2:=@Ym;have Z7:=@aC;have Kq:Keq:=⟨⟩;exact Qw):p:=h
class Keo:Prop
theorem Keo.k (_:Keo) (h:p:=by
 first|contradiction|skip
 refine Z6 (bc:=Zw n) (⟨t,i+1,(some b),S⟩,[pn,pb]) [56,90002,90005,90000,90001,90003,90004,90006,90007,60000] Yr rfl (by simp) (by rw [Q9];rfl) ?_ ?_ ?_
 ·show Zh _ _ (wB t (i+1) b [pn,pb] S) _;rw [K4];simp [Zh,lk,J7,rnA,rnAs,rk]
 ·show Zy (List.drop (wB t (i+1) b [pn,pb] S).length _) _;rw [K4];simp [Zy,lk]
 have Z2:=@Ym;have Z7:=@aC;have Kq:Kep:=⟨⟩;exact Qw):p:=h
class Kes:Prop
theorem Kes.k (_:Kes) (h:p:=by
 first|contradiction|skip
 refine ⟨[90000,90001,90002,90003,90004,90005,90006,90007],by simp,rfl,W0 (by decide),?_⟩
 simp [Zh,lk,J7,rnA,rnAs,rk]):p:=h
class Ket:Prop
theorem Ket.k (_:Ket) (h:p:=by
 first|contradiction|skip
 refine ⟨[90000,90001,90002,90003,90004,90005,90006,90007,60000],by simp,rfl,W0 (by decide),?_⟩
 simp [Zh,lk,J7,rnA,rnAs,rk]):p:=h
class Kev:Prop
theorem Kev.k (_:Kev) (h:p:=by
 first|contradiction|skip
 refine ⟨(k+1,U1,false),.inl (by rw [eR];simp only [bB,fN,L3];exact J0),by simp only;omega,hU,hM,by simp only;omega,by simp only;omega⟩):p:=h
class Kew:Prop
theorem Kew.k (_:Kew) (h:p:=by
 first|contradiction|skip
 refine ⟨(k+1,U1,true),.inl (by rw [eR];simp only [bB,fN,L3];exact J0),by simp only;omega,hU,hM,by simp only;omega,by simp only;omega⟩):p:=h
class Keu:Prop
theorem Keu.k (_:Keu) (h:p:=by
 first|contradiction|skip
 cases H1 with
 | false =>
  have Ja:(Zv n).post ⟨t,c0,(some b),U⟩=pB t c1 b U1:=Q9;refine Z6 (bc:=Zv n) ⟨t,c0,(some b),U⟩ [90000,90001,90002,90003,90004,90005,90006,90007] Yr rfl (by simp) (by rw [Ja];rfl) ?_ ?_ ?_
  ·show Zh _ _ (pB t c0 b U) _;rw [X7];simp [Zh,lk,J7,rnA,rnAs,rk]
  ·show Zy (List.drop (pB t c0 b U).length _) _;rw [X7];simp [Zy,lk]
  have Z2:=@X4;have Z7:=@X7;have Kq:Kev:=⟨⟩;exact Qw
 | true =>
  have Ja:(Zv n).post ⟨t,c0,(some b),U⟩=pM t c1 b U1:=Q9;refine Z6 (bc:=Zv n) ⟨t,c0,(some b),U⟩ [90000,90001,90002,90003,90004,90005,90006,90007,60000] Yr rfl (by simp) (by rw [Ja];rfl) ?_ ?_ ?_
  ·show Zh _ _ (pB t c0 b U) _;rw [X7];simp [Zh,lk,J7,rnA,rnAs,rk]
  ·show Zy (List.drop (pB t c0 b U).length _) _;rw [X7];simp [Zy,lk]
  have Z2:=@X4;have Z7:=@Ac;have Kq:Kew:=⟨⟩;exact Qw):p:=h
class Key:Prop
theorem Key.k (_:Key) (h:p:=by
 first|contradiction|skip
 refine ⟨(k+1,U1,true),.inl (by rw [eR];simp only [bB,fN,L3];exact J0),by simp only;omega,hU,hM,by simp only;omega,by simp only;omega⟩):p:=h
class Kez:Prop
theorem Kez.k (_:Kez) (h:p:=by
 first|contradiction|skip
 refine ⟨(k+1,U1,true),.inr (by rw [eR];simp only [bB,fN,L3];exact Zwj),by simp only;omega,hU,hM,by simp only;omega,by simp only;omega⟩):p:=h
class Kex:Prop
theorem Kex.k (_:Kex) (h:p:=by
 first|contradiction|skip
 cases H1 with
 | false =>
  have Ja:(Zv n).post ⟨t,c0,(some b),U⟩=pB t c1 b U1:=Q9;refine Z6 (bc:=Zv n) ⟨t,c0,(some b),U⟩ [90000,90001,90002,90003,90004,90005,90006,60000] Yr rfl (by simp) (by rw [Ja];rfl) ?_ ?_ ?_
  ·show Zh _ _ (pB t c0 b U) _;rw [X7];simp [Zh,lk,J7,rnA,rnAs,rk]
  ·show Zy (List.drop (pB t c0 b U).length _) _;rw [X7];simp [Zy,lk]
  have Z2:=@X4;have Z7:=@X7;have Kq:Key:=⟨⟩;exact Qw
 | true =>
  have Ja:(Zv n).post ⟨t,c0,(some b),U⟩=pM t c1 b U1:=Q9;refine Z6 (bc:=Zv n) ⟨t,c0,(some b),U⟩ [90000,90001,90002,90003,90004,90005,90006,60000,60001] Yr rfl (by simp) (by rw [Ja];rfl) ?_ ?_ ?_
  ·show Zh _ _ (pB t c0 b U) _;rw [X7];simp [Zh,lk,J7,rnA,rnAs,rk]
  ·show Zy (List.drop (pB t c0 b U).length _) _;rw [X7];simp [Zy,lk]
  have Z2:=@X4;have Z7:=@Ac;have Kq:Kez:=⟨⟩;exact Qw):p:=h
class Ker:Prop
theorem Ker.k (_:Ker) (h:p:=by
 first|contradiction|skip
 refine Oe 90002 60000 60001 [18,19,20,21] (fun q:Nat×List (List UInt8)×Bool=>[(17,.d (.int .i64 q.1))]) (fun q:Nat×List (List UInt8)×Bool=>[(90001,.box false [.d (.int .i64 (i+1+(ndss (ks.take q.1)).length:Nat))]),(90006,.mp (q.2.1.map enc) ((Cx q.2.1).map enc) false)]++(Zt8 b) q.2.2) (fun q:Nat×List (List UInt8)×Bool=>q.1≤ks.length∧partTs ⟨pk,pl,pn,pb,pm,pq,pt,pu⟩ (ks.drop q.1) q.1 b q.2.1=V∧(q.2.2||hasBs (ks.drop q.1))=H∧q.2.1.length≤S.length+(ndss (ks.take q.1)).length) (fun q:Nat×List (List UInt8)×Bool=>ks.length-q.1) (0,S,false) ?_ ?_ ?_
 ·exact ⟨Nat.zero_le _,hV,by simpa using Zwf,by simp⟩
 ·simp only [bB,L3,List.take_zero,ndss];exact J0
 rintro ⟨k,U,mv⟩ ⟨hk,hU,hM,Zwc⟩;simp only at hk hU hM Zwc;rcases Z5 k ks.length with ⟨Qd,Qa⟩|⟨Qd,Qa⟩
 rotate_left
 ·have xG:k=ks.length:=by omega
  rw [xG,List.drop_length] at hU hM;rw [partTs] at hU;rw [hasBs,Bool.or_false] at hM;subst hU hM;rw [xG,List.take_length];have Qz:i+1+(ndss ks).length=j:=by omega
  rw [Qz];rw [xG] at Qa;cases mv with
  | false =>
   have Q0:pP t j (some b) false U=_:=(show pP t j (some b) false U=pB t j b U from rfl).trans (X7 _ _ _ _);have Z2:=@bB;have Z7:=@L3;have Kq:Kes:=⟨⟩;exact Qw
  | true =>
   have Q0:pP t j (some b) true U=_:=(show pP t j (some b) true U=pM t j b U from rfl).trans (Ac _ _ _ _);have Z2:=@fN;have Z7:=@L3;have Kq:Ket:=⟨⟩;exact Qw
 have ax:=aJ Pk Qd;have V2:=Ss Qd;have Zu4:=Af Qd;rw [Iz Qd,Zvn] at hU;rw [cW Qd,←Bool.or_assoc] at hM;obtain ⟨c0,Zc1⟩:=exq (i+1+(ndss (ks.take k)).length);rw [Zc1] at ax ⊢;have eR:i+1+(ndss (ks.take (k+1))).length=c0+(nds ks[k]).length:=by omega
 have Za8:=Ye (ks.take (k+1)) (ks.drop (k+1));have Za9:=congrArg List.length Za8;rw [List.take_append_drop,Zj] at Za9;have tT:=partT_len ks[k] b U;obtain ⟨y,Zus⟩:=exq (ks[k]);rw [Zus] at ax V2 Zu4 hU hM eR tT;obtain ⟨U1,Zpm⟩:=exq (partT y b U);obtain ⟨H1,Zba⟩:=exq (hasB y);obtain ⟨c1,A0⟩:=exq (c0+(nds y).length);rw [Zpm] at hU tT;rw [Zba] at hM;rw [A0] at eR;clear Za8;cases mv with
 | false =>
  have Yr:(PX.mk t c0 (some b) U).Ok n 0:=⟨hT,y,ax,by omega,by show (b).length+0+_≤_;omega,by show U.length+_≤_;omega⟩
  have Q9:=Yt (n:=n) (o:=(some b)) ax A0 Zba Zpm;have Z2:=@bB;have Z7:=@L3;have Kq:Keu:=⟨⟩;exact Qw
 | true =>
  have Yr:(PX.mk t c0 (some b) U).Ok n 0:=⟨hT,y,ax,by omega,by show (b).length+0+_≤_;omega,by show U.length+_≤_;omega⟩
  have Q9:=Yt (n:=n) (o:=(some b)) ax A0 Zba Zpm;have Z2:=@fN;have Z7:=@L3;have Kq:Kex:=⟨⟩;exact Qw):p:=h
theorem stepb_FreePart (n:Nat) (ih:Wm Tryz.prog (44,Zv n)):Wm Tryz.prog (44,(Zv (n+1))):=by
 obtain ⟨Kx,Kt,Kc,Kd,Kb,Ku,Kw,K,Y6,P7,aV,dF,_⟩:=W5 Qj Z0 [] false (Xa Bs Gb.eq_def (kW goodb_containsSt J9.eq_def (kW (stepbm_FreeWith n ih) (Zw.eq_def n) (kW ih (Zv.eq_def n) W4))));refine jU K Tryz.func44 [] rfl 63 rfl (fun c hc x Xr=>?_);obtain ⟨t,i,bd,S⟩:=x;obtain ⟨hT,y,hy,hn,hb,hS⟩:=Xr;simp only at hT hy hb hS;obtain ⟨V,hV⟩:=exq (partT y (U6 bd) S);obtain ⟨j,hj⟩:=exq (i+(nds y).length);obtain ⟨H,hH⟩:=exq (hasB y);have Wy:=Yt (n:=n+1) (o:=bd) hy hj hH hV;have L4:=hy.lt;have Qu:=Z9 e0 L4;have hr:=hy.root e0;have Pk:=hy.kids;have Zvc:=(hT.2 (t.getD i e0) (by simp [L4])).2.2
 have Pj:=hy.le;have Zpv:=hT.1;obtain ⟨p,ks⟩:=y;rw [show (mk p ks).kids=ks from rfl,show (mk p ks).root=p from rfl] at Pk;rw [show (mk p ks).root=p from rfl] at hr;obtain ⟨Pk,dO⟩:=Pk;rw [hr] at Qu Zvc;rw [Jt,Zf] at hn hb hS hj Pj;rw [partT] at hV;rw [hasB] at hH;have Qh:=Gz p;have eS:=Tq (xs:=ks);obtain ⟨pk,pl,pn,pb,pm,pq,pt,pu⟩:=p;simp only at hV hH Zvc;rw [←dO] at Qh;clear hy hr;cases bd with
 | none =>
  simp only [U6,List.length_nil] at hb hV;refine ⟨?_,?_,?_,?_,?_⟩
  ·show Xg [.ref 90000 0,.ref 90001 0,.ref 90002 0,.ref 90003 0,.ref 90004 0,.ref 90005 0] (pN t i S);rw [Hr];simp [Xg,Jm,Obj.tied,Zx,keptAll,AV.kept,Zq,Jn,lk]
  ·show Zx (pN t i S);rw [Hr];simp [Zx]
  ·rw [Wy];cases H with
   | false =>
    show Xg [] (pN t j V);rw [Hr];simp [Xg,Jm,Obj.tied,Zx,keptAll,AV.kept,Zq,Jn,lk]
   | true =>
    show Xg [] (pB t j [] V);rw [X7];simp [Xg,Jm,Obj.tied,Zx,keptAll,AV.kept,Zq,Jn,lk]
  ·rw [Wy];cases H with
   | false =>
    show (pN t i S).length≤(pN t j V).length;rw [Hr,Hr];simp
   | true =>
    show (pN t i S).length≤(pB t j [] V).length;rw [Hr,X7];simp
  show V4 Kx c (V9 _ _ (pN t i S).length (.tup []) ((Zv (n+1)).post ⟨t,i,none,S⟩)) ⟨[.ref 90000 0,.ref 90001 0,.ref 90002 0,.ref 90003 0,.ref 90004 0,.ref 90005 0]++Yp 57,Zq (pN t i S)⟩;rw [Wy,Hr];cases hc;refine Kn 3 ?_;by_cases h1:pk=1
  ·subst h1;have hz:ks=[]:=List.length_eq_zero_iff.1 (by rw [dO];rfl)
   subst hz;rw [if_pos rfl] at hV;obtain rfl:H=false:=by rw [←hH];rfl
   have Zza:i+1=j:=by rw [←hj];simp [ndss]
   have Qz:(i:Int)+1=(j:Int):=by omega
   have Q0:pP t j none false V=_:=(show pP t j none false V=pN t j V from rfl).trans (Hr _ _ _);have Kq:KdF:=⟨⟩;exact Qw
  rw [if_neg h1] at hV;have Je:(pk==1)=false:=Za.2 h1;by_cases h2:pk=2
  ·subst h2;obtain ⟨x1,rfl⟩:∃ x1,ks=[x1]:=List.length_eq_one_iff.1 (by rw [dO];rfl)
   have a1:=Pk.head.1;simp only [ndss,List.append_nil] at hn hb hS hj;obtain rfl:H=true:=by rw [←hH];rfl
   have dT:partT x1 (([]:List (List UInt8))++[pb]) S=V:=by rw [←hV,partTs,partTs];rfl
   have Q9:=Wb (n:=n) (o:=none) a1 (show i+1+(nds x1).length=j by omega) dT
   have Yr:(Zw n).ok (⟨t,i+1,none,S⟩,[pb]):=⟨hT,x1,a1,by omega,by show (([]:List (List UInt8))).length+1+_≤_;simp;omega,by show S.length+_≤_;omega⟩
   have Q0:pP t j none true V=_:=(show pP t j none true V=pB t j [] V from rfl).trans (X7 _ _ _ _);have Kq:KdH:=⟨⟩;exact Qw
  have Qe:(pk==2)=false:=Za.2 h2;by_cases h8:pk=8
  ·subst h8;obtain ⟨x1,rfl⟩:∃ x1,ks=[x1]:=List.length_eq_one_iff.1 (by rw [dO];rfl)
   have a1:=Pk.head.1;simp only [ndss,List.append_nil] at hn hb hS hj;obtain rfl:H=true:=by rw [←hH];rfl
   have dT:partT x1 (([]:List (List UInt8))++[pb]) S=V:=by rw [←hV,partTs,partTs];rfl
   have Q9:=Wb (n:=n) (o:=none) a1 (show i+1+(nds x1).length=j by omega) dT
   have Yr:(Zw n).ok (⟨t,i+1,none,S⟩,[pb]):=⟨hT,x1,a1,by omega,by show (([]:List (List UInt8))).length+1+_≤_;simp;omega,by show S.length+_≤_;omega⟩
   have Q0:pP t j none true V=_:=(show pP t j none true V=pB t j [] V from rfl).trans (X7 _ _ _ _);have Kq:KdJ:=⟨⟩;exact Qw
  have Qc:(pk==8)=false:=Za.2 h8;by_cases h4:pk=4
  ·subst h4;obtain ⟨x1,x2,rfl⟩:∃ x1 x2,ks=[x1,x2]:=jZ (by rw [dO];rfl)
   have a1:=Pk.head.1;have a2:=Pk.head.2.head.1;simp only [ndss,List.append_nil,Zj] at hn hb hS hj;obtain rfl:H=true:=by rw [←hH];rfl
   obtain ⟨j1,Az⟩:=exq (i+1+(nds x1).length);rw [Az] at a2;obtain ⟨V1,dT⟩:=exq (partT x1 ([]:List (List UInt8)) S);have oO:=partT_len x1 ([]:List (List UInt8)) S;rw [dT] at oO;have Zc4:partT x2 (([]:List (List UInt8))++[pb]) V1=V:=by rw [←hV,partTs,partTs,partTs,←dT];rfl
   obtain ⟨H1,Zba⟩:=exq (hasB x1);have Q9:=Yt (n:=n) (o:=none) a1 Az Zba dT;have Yr:(PX.mk t (i+1) none S).Ok n 0:=⟨hT,x1,a1,by omega,by show (([]:List (List UInt8))).length+0+_≤_;simp;omega,by show S.length+_≤_;omega⟩
   have Q0:pP t j none true V=_:=(show pP t j none true V=pB t j [] V from rfl).trans (X7 _ _ _ _);have Kq:KdL:=⟨⟩;exact Qw
  have Qg:(pk==4)=false:=Za.2 h4;by_cases h5:pk=5
  ·subst h5;obtain ⟨x1,x2,rfl⟩:∃ x1 x2,ks=[x1,x2]:=jZ (by rw [dO];rfl)
   have a1:=Pk.head.1;have a2:=Pk.head.2.head.1;simp only [ndss,List.append_nil,Zj] at hn hb hS hj;obtain rfl:H=true:=by rw [←hH];rfl
   obtain ⟨j1,Az⟩:=exq (i+1+(nds x1).length);rw [Az] at a2;obtain ⟨V1,dT⟩:=exq (partT x1 (([]:List (List UInt8))++[pn,pb]) S);have oO:=partT_len x1 (([]:List (List UInt8))++[pn,pb]) S;rw [dT] at oO;have Zc4:partT x2 (([]:List (List UInt8))++[pn]) V1=V:=by rw [←hV,partTs,partTs,partTs,←dT];rfl
   have Q9:(Zw n).post (⟨t,i+1,none,S⟩,[pn,pb])=wB t j1 [] [pn,pb] V1:=Wb (n:=n) (o:=none) a1 Az dT;have Yr:(Zw n).ok (⟨t,i+1,none,S⟩,[pn,pb]):=⟨hT,x1,a1,by omega,by show (([]:List (List UInt8))).length+2+_≤_;simp;omega,by show S.length+_≤_;omega⟩
   have Q0:pP t j none true V=_:=(show pP t j none true V=pB t j [] V from rfl).trans (X7 _ _ _ _);have Kq:KdQ:=⟨⟩;exact Qw
  have Qi:(pk==5)=false:=Za.2 h5;have Zvn:∀ k,Su ⟨pk,pl,pn,pb,pm,pq,pt,pu⟩ k ([]:List (List UInt8))=([]:List (List UInt8)):=fun k=>by unfold Su;rw [if_neg (by simp only;omega),if_neg h5]
  have Zwf:hasBs ks=H:=by rw [←hH,Qe,Qc,Qg,Qi];rfl
  have Kq:KdT:=⟨⟩;exact Qw
 | some b =>
  simp only [U6] at hb hV;refine ⟨?_,?_,?_,?_,?_⟩
  ·show Xg [.ref 90000 0,.ref 90001 0,.ref 90002 0,.ref 90003 0,.ref 90004 0,.ref 90005 0] (pB t i b S);rw [X7];simp [Xg,Jm,Obj.tied,Zx,keptAll,AV.kept,Zq,Jn,lk]
  ·show Zx (pB t i b S);rw [X7];simp [Zx]
  ·rw [Wy];cases H with
   | false =>
    show Xg [] (pB t j b V);rw [X7];simp [Xg,Jm,Obj.tied,Zx,keptAll,AV.kept,Zq,Jn,lk]
   | true =>
    show Xg [] (pM t j b V);rw [Ac];simp [Xg,Jm,Obj.tied,Zx,keptAll,AV.kept,Zq,Jn,lk]
  ·rw [Wy];cases H with
   | false =>
    show (pB t i b S).length≤(pB t j b V).length;rw [X7,X7];simp
   | true =>
    show (pB t i b S).length≤(pM t j b V).length;rw [X7,Ac];simp
  show V4 Kx c (V9 _ _ (pB t i b S).length (.tup []) ((Zv (n+1)).post ⟨t,i,(some b),S⟩)) ⟨[.ref 90000 0,.ref 90001 0,.ref 90002 0,.ref 90003 0,.ref 90004 0,.ref 90005 0]++Yp 57,Zq (pB t i b S)⟩;rw [Wy,X7];cases hc;refine Kn 3 ?_;by_cases h1:pk=1
  ·subst h1;have hz:ks=[]:=List.length_eq_zero_iff.1 (by rw [dO];rfl)
   subst hz;rw [if_pos rfl] at hV;obtain rfl:H=false:=by rw [←hH];rfl
   have Zza:i+1=j:=by rw [←hj];simp [ndss]
   have Qz:(i:Int)+1=(j:Int):=by omega
   have Q0:pP t j (some b) false V=_:=(show pP t j (some b) false V=pB t j b V from rfl).trans (X7 _ _ _ _);have Kq:Kec:=⟨⟩;exact Qw
  rw [if_neg h1] at hV;have Je:(pk==1)=false:=Za.2 h1;by_cases h2:pk=2
  ·subst h2;obtain ⟨x1,rfl⟩:∃ x1,ks=[x1]:=List.length_eq_one_iff.1 (by rw [dO];rfl)
   have a1:=Pk.head.1;simp only [ndss,List.append_nil] at hn hb hS hj;obtain rfl:H=true:=by rw [←hH];rfl
   have dT:partT x1 (b++[pb]) S=V:=by rw [←hV,partTs,partTs];rfl
   have Q9:=Wb (n:=n) (o:=(some b)) a1 (show i+1+(nds x1).length=j by omega) dT
   have Yr:(Zw n).ok (⟨t,i+1,(some b),S⟩,[pb]):=⟨hT,x1,a1,by omega,by show (b).length+1+_≤_;omega,by show S.length+_≤_;omega⟩
   have Q0:pP t j (some b) true V=_:=(show pP t j (some b) true V=pM t j b V from rfl).trans (Ac _ _ _ _);have Kq:Kef:=⟨⟩;exact Qw
  have Qe:(pk==2)=false:=Za.2 h2;by_cases h8:pk=8
  ·subst h8;obtain ⟨x1,rfl⟩:∃ x1,ks=[x1]:=List.length_eq_one_iff.1 (by rw [dO];rfl)
   have a1:=Pk.head.1;simp only [ndss,List.append_nil] at hn hb hS hj;obtain rfl:H=true:=by rw [←hH];rfl
   have dT:partT x1 (b++[pb]) S=V:=by rw [←hV,partTs,partTs];rfl
   have Q9:=Wb (n:=n) (o:=(some b)) a1 (show i+1+(nds x1).length=j by omega) dT
   have Yr:(Zw n).ok (⟨t,i+1,(some b),S⟩,[pb]):=⟨hT,x1,a1,by omega,by show (b).length+1+_≤_;omega,by show S.length+_≤_;omega⟩
   have Q0:pP t j (some b) true V=_:=(show pP t j (some b) true V=pM t j b V from rfl).trans (Ac _ _ _ _);have Kq:Keh:=⟨⟩;exact Qw
  have Qc:(pk==8)=false:=Za.2 h8;by_cases h4:pk=4
  ·subst h4;obtain ⟨x1,x2,rfl⟩:∃ x1 x2,ks=[x1,x2]:=jZ (by rw [dO];rfl)
   have a1:=Pk.head.1;have a2:=Pk.head.2.head.1;simp only [ndss,List.append_nil,Zj] at hn hb hS hj;obtain rfl:H=true:=by rw [←hH];rfl
   obtain ⟨j1,Az⟩:=exq (i+1+(nds x1).length);rw [Az] at a2;obtain ⟨V1,dT⟩:=exq (partT x1 b S);have oO:=partT_len x1 b S;rw [dT] at oO;have Zc4:partT x2 (b++[pb]) V1=V:=by rw [←hV,partTs,partTs,partTs,←dT];rfl
   obtain ⟨H1,Zba⟩:=exq (hasB x1);have Q9:=Yt (n:=n) (o:=(some b)) a1 Az Zba dT;have Yr:(PX.mk t (i+1) (some b) S).Ok n 0:=⟨hT,x1,a1,by omega,by show (b).length+0+_≤_;omega,by show S.length+_≤_;omega⟩
   have Q0:pP t j (some b) true V=_:=(show pP t j (some b) true V=pM t j b V from rfl).trans (Ac _ _ _ _);have Kq:Kej:=⟨⟩;exact Qw
  have Qg:(pk==4)=false:=Za.2 h4;by_cases h5:pk=5
  ·subst h5;obtain ⟨x1,x2,rfl⟩:∃ x1 x2,ks=[x1,x2]:=jZ (by rw [dO];rfl)
   have a1:=Pk.head.1;have a2:=Pk.head.2.head.1;simp only [ndss,List.append_nil,Zj] at hn hb hS hj;obtain rfl:H=true:=by rw [←hH];rfl
   obtain ⟨j1,Az⟩:=exq (i+1+(nds x1).length);rw [Az] at a2;obtain ⟨V1,dT⟩:=exq (partT x1 (b++[pn,pb]) S);have oO:=partT_len x1 (b++[pn,pb]) S;rw [dT] at oO;have Zc4:partT x2 (b++[pn]) V1=V:=by rw [←hV,partTs,partTs,partTs,←dT];rfl
   have Q9:(Zw n).post (⟨t,i+1,(some b),S⟩,[pn,pb])=wM t j1 b [pn,pb] V1:=Wb (n:=n) (o:=(some b)) a1 Az dT;have Yr:(Zw n).ok (⟨t,i+1,(some b),S⟩,[pn,pb]):=⟨hT,x1,a1,by omega,by show (b).length+2+_≤_;omega,by show S.length+_≤_;omega⟩
   have Q0:pP t j (some b) true V=_:=(show pP t j (some b) true V=pM t j b V from rfl).trans (Ac _ _ _ _);have Kq:Keo:=⟨⟩;exact Qw
  have Qi:(pk==5)=false:=Za.2 h5;have Zvn:∀ k,Su ⟨pk,pl,pn,pb,pm,pq,pt,pu⟩ k b=b:=fun k=>by unfold Su;rw [if_neg (by simp only;omega),if_neg h5]
  have Zwf:hasBs ks=H:=by rw [←hH,Qe,Qc,Qg,Qi];rfl
  have Kq:Ker:=⟨⟩;exact Qw
theorem Ln:∀ n,Wm Tryz.prog (44,Zv n)
 | 0=>Br (Xc Tryz.func44 (by kernel_rfl) rfl) Eg
 | n+1=>stepb_FreePart n (Ln n)
open Go.Proofs Go.Shelf Go.RowKit
def fD:Ren:=⟨fun x=>if x=7 then 47 else if x=10 then 72 else x,fun x=>if x=3 then 4 else if x=23 then 46 else if x=26 then 9 else if x=27 then 64 else if x=28 then 65 else if x=33 then 68 else x,fun x=>x⟩
theorem Zui : Bears Tryz.prog (fD.f 7) (SlBodyZ.n7 fD) := ⟨"maps.Keys[map[string]bool,string,bool]", by decide, by show Tryz.prog.funcs[47]? = _; rw [Tryz.func47]; kernel_rfl⟩
theorem Zr8 : Bears Tryz.prog (fD.f 10) (SlBodyZ.n10 fD) := ⟨"maps.Keys[map[string]bool,string,bool]$1", by decide, by show Tryz.prog.funcs[72]? = _; rw [Tryz.func72]; kernel_rfl⟩
theorem Zr7:SlLaysZ.n7 Tryz.prog fD:=⟨by kernel_rfl,Zui,Zr8,Tryz.underlying0,Tryz.isAgg0,Tryz.sizeOf0,Tryz.zeroValue0,Tryz.underlying4,Tryz.isAgg4,Tryz.sizeOf4,Tryz.zeroValue4,Tryz.underlying46,Tryz.isAgg46,Tryz.sizeOf46,Tryz.zeroValue46,Tryz.underlying9,Tryz.isAgg9,Tryz.sizeOf9,Tryz.zeroValue9,Tryz.underlying64,Tryz.isAgg64,Tryz.sizeOf64,Tryz.zeroValue64,Tryz.underlying65,Tryz.isAgg65,Tryz.sizeOf65,Tryz.zeroValue65,Tryz.underlying68,Tryz.isAgg68,Tryz.sizeOf68,Tryz.zeroValue68⟩
def Iy:Ren:=⟨fun x=>if x=6 then 46 else if x=8 then 70 else if x=9 then 71 else if x=11 then 95 else x,fun x=>if x=24 then 34 else if x=26 then 9 else if x=28 then 65 else if x=33 then 68 else x,fun x=>x⟩
theorem Zue : Bears Tryz.prog (Iy.f 6) (SlBodyZ.n6 Iy) := ⟨"slices.Sorted[string]", by decide, by show Tryz.prog.funcs[46]? = _; rw [Tryz.func46]; kernel_rfl⟩
theorem Zud : Bears Tryz.prog (Iy.f 8) (SlBodyZ.n8 Iy) := ⟨"slices.Collect[string]", by decide, by show Tryz.prog.funcs[70]? = _; rw [Tryz.func70]; kernel_rfl⟩
theorem Zrn : Bears Tryz.prog (Iy.f 11) (SlBodyZ.n11 Iy) := ⟨"slices.AppendSeq[[]string,string]", by decide, by show Tryz.prog.funcs[95]? = _; rw [Tryz.func95]; kernel_rfl⟩
theorem Zuc:SlLaysZ.n6 Tryz.prog Iy:=⟨by kernel_rfl,Zue,Zud,Zrn,Tryz.underlying0,Tryz.isAgg0,Tryz.sizeOf0,Tryz.zeroValue0,Tryz.underlying34,Tryz.isAgg34,Tryz.sizeOf34,Tryz.zeroValue34,Tryz.underlying9,Tryz.isAgg9,Tryz.sizeOf9,Tryz.zeroValue9,Tryz.underlying65,Tryz.isAgg65,Tryz.sizeOf65,Tryz.zeroValue65,by kernel_rfl⟩
def J2:Ren:=⟨fun x=>if x=6 then 71 else if x=8 then 97 else if x=9 then 96 else if x=19 then 131 else if x=20 then 132 else if x=21 then 122 else if x=22 then 123 else if x=23 then 124 else if x=24 then 125 else if x=25 then 126 else if x=26 then 127 else if x=27 then 128 else if x=28 then 129 else if x=29 then 130 else if x=31 then 152 else if x=32 then 153 else if x=36 then 151 else if x=37 then 154 else if x=38 then 155 else if x=39 then 156 else if x=41 then 166 else x,fun x=>if x=26 then 34 else if x=27 then 34 else if x=29 then 9 else if x=32 then 103 else if x=35 then 123 else if x=36 then 124 else if x=41 then 129 else if x=44 then 132 else if x=46 then 134 else if x=53 then 146 else if x=57 then 150 else if x=63 then 163 else if x=64 then 164 else x,fun x=>x⟩
theorem Zuh : Bears Tryz.prog (J2.f 6) (SlBodyM.n6 J2) := ⟨"slices.Sort[[]string,string]", by decide, by show Tryz.prog.funcs[71]? = _; rw [Tryz.func71]; kernel_rfl⟩
theorem Zug:Tryz.prog.funcs[J2.f 8]?=some (SlBodyM.n8 J2):=by show Tryz.prog.funcs[97]?=_;rw [Tryz.func97];kernel_rfl
theorem Zuf : Bears Tryz.prog (J2.f 9) (SlBodyM.n9 J2) := ⟨"slices.pdqsortOrdered[string]", by decide, by show Tryz.prog.funcs[96]? = _; rw [Tryz.func96]; kernel_rfl⟩
theorem Zr6:Tryz.prog.funcs[J2.f 19]?=some (SlBodyM.n19 J2):=by show Tryz.prog.funcs[131]?=_;rw [Tryz.func131];kernel_rfl
theorem Zr5:Tryz.prog.funcs[J2.f 20]?=some (SlBodyM.n20 J2):=by show Tryz.prog.funcs[132]?=_;rw [Tryz.func132];kernel_rfl
theorem Zr4 : Bears Tryz.prog (J2.f 21) (SlBodyM.n21 J2) := ⟨"slices.insertionSortOrdered[string]", by decide, by show Tryz.prog.funcs[122]? = _; rw [Tryz.func122]; kernel_rfl⟩
theorem Zr3 : Bears Tryz.prog (J2.f 22) (SlBodyM.n22 J2) := ⟨"slices.heapSortOrdered[string]", by decide, by show Tryz.prog.funcs[123]? = _; rw [Tryz.func123]; kernel_rfl⟩
theorem Zr2 : Bears Tryz.prog (J2.f 23) (SlBodyM.n23 J2) := ⟨"slices.breakPatternsOrdered[string]", by decide, by show Tryz.prog.funcs[124]? = _; rw [Tryz.func124]; kernel_rfl⟩
theorem Zr1 : Bears Tryz.prog (J2.f 24) (SlBodyM.n24 J2) := ⟨"slices.choosePivotOrdered[string]", by decide, by show Tryz.prog.funcs[125]? = _; rw [Tryz.func125]; kernel_rfl⟩
theorem Zr0 : Bears Tryz.prog (J2.f 25) (SlBodyM.n25 J2) := ⟨"slices.reverseRangeOrdered[string]", by decide, by show Tryz.prog.funcs[126]? = _; rw [Tryz.func126]; kernel_rfl⟩
theorem Zrz : Bears Tryz.prog (J2.f 26) (SlBodyM.n26 J2) := ⟨"slices.partialInsertionSortOrdered[string]", by decide, by show Tryz.prog.funcs[127]? = _; rw [Tryz.func127]; kernel_rfl⟩
theorem Zry : Bears Tryz.prog (J2.f 27) (SlBodyM.n27 J2) := ⟨"cmp.Less[string]", by decide, by show Tryz.prog.funcs[128]? = _; rw [Tryz.func128]; kernel_rfl⟩
theorem Zrx : Bears Tryz.prog (J2.f 28) (SlBodyM.n28 J2) := ⟨"slices.partitionEqualOrdered[string]", by decide, by show Tryz.prog.funcs[129]? = _; rw [Tryz.func129]; kernel_rfl⟩
theorem Zrw : Bears Tryz.prog (J2.f 29) (SlBodyM.n29 J2) := ⟨"slices.partitionOrdered[string]", by decide, by show Tryz.prog.funcs[130]? = _; rw [Tryz.func130]; kernel_rfl⟩
theorem Zrv:Tryz.prog.funcs[J2.f 31]?=some (SlBodyM.n31 J2):=by show Tryz.prog.funcs[152]?=_;rw [Tryz.func152];kernel_rfl
theorem Zru:Tryz.prog.funcs[J2.f 32]?=some (SlBodyM.n32 J2):=by show Tryz.prog.funcs[153]?=_;rw [Tryz.func153];kernel_rfl
theorem Zrt : Bears Tryz.prog (J2.f 36) (SlBodyM.n36 J2) := ⟨"slices.siftDownOrdered[string]", by decide, by show Tryz.prog.funcs[151]? = _; rw [Tryz.func151]; kernel_rfl⟩
theorem Zrs : Bears Tryz.prog (J2.f 37) (SlBodyM.n37 J2) := ⟨"slices.medianAdjacentOrdered[string]", by decide, by show Tryz.prog.funcs[154]? = _; rw [Tryz.func154]; kernel_rfl⟩
theorem Zrr : Bears Tryz.prog (J2.f 38) (SlBodyM.n38 J2) := ⟨"slices.medianOrdered[string]", by decide, by show Tryz.prog.funcs[155]? = _; rw [Tryz.func155]; kernel_rfl⟩
theorem Zrq : Bears Tryz.prog (J2.f 39) (SlBodyM.n39 J2) := ⟨"cmp.isNaN[string]", by decide, by show Tryz.prog.funcs[156]? = _; rw [Tryz.func156]; kernel_rfl⟩
theorem Zrp : Bears Tryz.prog (J2.f 41) (SlBodyM.n41 J2) := ⟨"slices.order2Ordered[string]", by decide, by show Tryz.prog.funcs[166]? = _; rw [Tryz.func166]; kernel_rfl⟩
theorem Zro:SlLaysM.n6 Tryz.prog J2:=⟨by kernel_rfl,Zuh,Zug,Zuf,Zr6,Zr5,Zr4,Zr3,Zr2,Zr1,Zr0,Zrz,Zry,Zrx,Zrw,Zrv,Zru,Zrt,Zrs,Zrr,Zrq,Zrp,Tryz.underlying0,Tryz.isAgg0,Tryz.sizeOf0,Tryz.zeroValue0,Tryz.underlying3,Tryz.isAgg3,Tryz.sizeOf3,Tryz.zeroValue3,Tryz.underlying4,Tryz.isAgg4,Tryz.sizeOf4,Tryz.zeroValue4,Tryz.underlying5,Tryz.isAgg5,Tryz.sizeOf5,Tryz.zeroValue5,Tryz.underlying9,Tryz.isAgg9,Tryz.sizeOf9,Tryz.zeroValue9,Tryz.underlying34,Tryz.isAgg34,Tryz.sizeOf34,Tryz.zeroValue34,Tryz.underlying34,Tryz.isAgg34,Tryz.sizeOf34,Tryz.zeroValue34,Tryz.underlying9,Tryz.isAgg9,Tryz.sizeOf9,Tryz.zeroValue9,Tryz.underlying103,Tryz.isAgg103,Tryz.sizeOf103,Tryz.zeroValue103,Tryz.underlying123,Tryz.isAgg123,Tryz.sizeOf123,Tryz.zeroValue123,Tryz.underlying124,Tryz.isAgg124,Tryz.sizeOf124,Tryz.zeroValue124,Tryz.underlying129,Tryz.isAgg129,Tryz.sizeOf129,Tryz.zeroValue129,Tryz.underlying132,Tryz.isAgg132,Tryz.sizeOf132,Tryz.zeroValue132,Tryz.underlying134,Tryz.isAgg134,Tryz.sizeOf134,Tryz.zeroValue134,Tryz.underlying146,Tryz.isAgg146,Tryz.sizeOf146,Tryz.zeroValue146,Tryz.underlying150,Tryz.isAgg150,Tryz.sizeOf150,Tryz.zeroValue150,Tryz.underlying163,Tryz.isAgg163,Tryz.sizeOf163,Tryz.zeroValue163,Tryz.underlying164,Tryz.isAgg164,Tryz.sizeOf164,Tryz.zeroValue164⟩
open Go.Proofs Go.Shelf Go.RowKit Go.Maps Go.Sort
theorem yG {w w':World} {m:Nat→Nat} {t n:Nat} {v:Value} {xs:List Value} {l:List D} (dI:w'.ownsRow w.heap.size t 1 v n xs) (hn:n=l.length) (hR:∀ F:Fix,RE F 1 l xs) (Yl:∀ b,w.heap.size≤b→m b=0) (V2:w.heap.size≤w'.heap.size) :
  ∃ m':Nat→Nat,(∀ b,b<w.heap.size→m' b=m b)∧(∀ b,w'.heap.size≤b→m' b=0)∧R ⟨w',m'⟩ (.list 1 l) v:=by
 subst hn;rcases dI.2 with ⟨rfl,h0⟩|⟨g,cap,cur,rfl,hb,hg,h1,h2,h3,h4⟩
 ·have hl:l=[]:=List.eq_nil_of_length_eq_zero h0;subst hl;refine ⟨m,fun _ _=>rfl,fun b hb=>Yl b (by omega),?_⟩
  simp only [R];exact ⟨none,0,rfl,Zk _,Nat.zero_le _,by simp⟩
 ·have Zv3:g<w'.heap.size:=(Array.getElem?_eq_some_iff.1 hg).1;refine ⟨fun k=>if k=g then l.length else m k,fun b hb'=>?_,fun b hb'=>?_,?_⟩
  ·simp only [if_neg (show b≠g by omega)]
  ·simp only [if_neg (show b≠g by omega)]
   exact Yl b (by omega)
  ·simp only [R];refine ⟨_,cap,rfl,h1,h2,fun _=>⟨g,0,_,rfl,hR _,?_⟩⟩;have hl:=RE.length (hR ⟨w',m⟩);refine ⟨by simp [hl],fun j u hj=>?_⟩
   rw [Nat.zero_add];rw [←h4] at hj;rw [List.getElem?_take] at hj;split at hj
   ·simp only [World.cell?,hg];simpa using hj
   ·cases hj
structure MSB where
 ks:List (List UInt8)
 vs:List Bool
instance encMSB:Enc MSB:=⟨fun a=>.map (a.ks.map enc) (a.vs.map enc),fun x=>match x with
 | .map a b=>⟨a.map dec,b.map dec⟩
 | _=>⟨[],[]⟩,fun a=>by
  obtain ⟨k,v⟩:=a;simp only [List.map_map];have h1:(dec∘enc:List UInt8→List UInt8)=id:=funext fun x=>Enc.dec_enc x;have h2:(dec∘enc:Bool→Bool)=id:=funext fun x=>Enc.dec_enc x;rw [h1,h2,List.map_id,List.map_id]⟩
theorem sI {ks:List (List UInt8)} {vs:List Bool}:Tu MSB (.map (ks.map enc) (vs.map enc))=True:=eq_true (Xi (⟨ks,vs⟩:MSB))
theorem tW {ks:List (List UInt8)} {vs:List Bool}:(dec (.map (ks.map enc) (vs.map enc)):MSB)=⟨ks,vs⟩:=Enc.dec_enc (⟨ks,vs⟩:MSB)
structure ItS where
 b:Bool
 ks:List (List UInt8)
 vs:List D
instance encItS:Enc ItS:=⟨fun a=>.it (cond a.b 72 999999) (a.ks.map enc) a.vs,fun x=>match x with
 | .it f a v=>⟨f==72,a.map dec,v⟩
 | _=>⟨true,[],[]⟩,fun a=>by
  obtain ⟨b,k,v⟩:=a;simp only [List.map_map];have h1:(dec∘enc:List UInt8→List UInt8)=id:=funext fun x=>Enc.dec_enc x;rw [h1,List.map_id];cases b<;>rfl⟩
theorem Zcc {a:ItS}:(enc a:D)=.it (cond a.b 72 999999) (a.ks.map enc) a.vs:=rfl
theorem tX {ks:List (List UInt8)} {vs:List D}:(enc (ItS.mk true ks vs):D)=.it 72 (ks.map enc) vs:=rfl
theorem sL {ks:List (List UInt8)} {vs:List D}:Tu ItS (.it 72 (ks.map enc) vs)=True:=eq_true (Xi (⟨true,ks,vs⟩:ItS))
theorem tK {ks:List (List UInt8)} {vs:List D}:(dec (.it 72 (ks.map enc) vs):ItS)=⟨true,ks,vs⟩:=Enc.dec_enc (⟨true,ks,vs⟩:ItS)
theorem yL {F:Fix} {base:Nat} {pass:Nat→Prop} {x:D} {v:Value} (h:R F x v):oC F base pass (.d x) v:=by
 simp only [oC,Wn,eP];refine ⟨⟨_,[],rfl,h,rfl⟩,fun k hk=>?_⟩;simp [Qf] at hk
theorem Zb6 {w:World} {m:Nat→Nat} {f t:Nat} {ks vs:List D} {v:Value} (hv:R ⟨w,m⟩ (.map ks vs) v) (Yl:∀ b,w.heap.size≤b→m b=0) :
  ∃ m':Nat→Nat,(∀ b,b<w.heap.size→m' b=m b)∧(∀ b,(w.alloc (.cells #[v] t)).heap.size≤b→m' b=0)∧R ⟨w.alloc (.cells #[v] t),m'⟩ (.it f ks vs) (.func (.func f) #[] #[.pointer (some ⟨w.heap.size,0,none⟩)]):=by
 simp only [R] at hv;obtain ⟨b,es,c,rfl,h1,h2,h3,h4,h5⟩:=hv;have Zc2:b<w.heap.size:=(Array.getElem?_eq_some_iff.1 h1).1;have Pj:Fix.le ⟨w,m⟩ ⟨w.alloc (.cells #[.map (some b)] t),fun k=>if k=w.heap.size then 1 else m k⟩:=by
  refine ⟨fun k=>?_,fun k es' c' hk eZ=>?_⟩
  ·by_cases hk:k=w.heap.size
   ·have h0:=Yl k (by omega)
    refine ⟨by simp only;rw [h0];exact Nat.zero_le _,fun off ho=>by simp only at ho;omega⟩
   ·refine ⟨by simp only [if_neg hk];exact Zk _,fun off ho=>?_⟩
    rcases Nat.lt_or_ge k w.heap.size with Qd|Nd
    ·exact World.cell?_of_block (Below.heap_alloc _ _ k Qd)
    ·have:=Yl k Nd;simp only at ho;omega
  ·have Qd:k<w.heap.size:=(Array.getElem?_eq_some_iff.1 eZ).1;exact (Below.heap_alloc _ _ k Qd).trans eZ
 refine ⟨fun k=>if k=w.heap.size then 1 else m k,fun k hk=>by simp only [if_neg (show k≠w.heap.size by omega)],fun k hk=>?_,?_⟩
 ·have hs:(w.alloc (.cells #[.map (some b)] t)).heap.size=w.heap.size+1:=by simp
  rw [hs] at hk;simp only [if_neg (show k≠w.heap.size by omega)]
  exact Yl k (by omega)
 ·simp only [R];refine ⟨w.heap.size,b,es,c,rfl,by simp,by simp,(Below.heap_alloc _ _ b Zc2).trans h1,?_,Rs.mono Pj h3,Rs.mono Pj h4,h5⟩
  simp only [if_neg (show b≠w.heap.size by omega)]
  exact h2
def iK:Con:=Xd (fun (_:MSB)=>True) (fun m=>ItS.mk true m.ks (m.vs.map enc))
theorem qO:Jc Tryz.prog (47,iK):=by
 refine ⟨Xc Tryz.func47 (by kernel_rfl) rfl,?_⟩
 intro m w Jj vs Zo kR Ek Yl;obtain ⟨a,rfl,-⟩:=Qp (id Zo:(Xd (fun (_:MSB)=>True) (fun m=>ItS.mk true m.ks (m.vs.map enc))).pre Jj);simp only [Wn,eP] at kR;obtain ⟨v,r,rfl,hv,rfl⟩:=kR;obtain ⟨m',q1,q2,q3⟩:=Zb6 (f:=72) (t:=46) (m:=m) hv Yl;have hm:∃ b,v=.map (some b):=by
  have hv':=hv
  change R _ (.map _ _) _ at hv'
  simp only [R] at hv';obtain ⟨b,_,_,e,_⟩:=hv';exact ⟨b,e⟩
 obtain ⟨b,rfl⟩:=hm;have hk:=(callsIn_wide (n:=5)).1 (AnyZ.keys_in Zr7 Fence.wide 5 trivial rfl (some b) w);refine Calls.mono hk ?_;rintro e w' ⟨rfl,rfl⟩;have hb:=(Below.refl w.heap.size w).alloc (Zk _) (.cells #[.map (some b)] 46);exact ⟨_,m',rfl,⟨hb.os,hb.tape,hb.output,hb.size,fun k hk _=>hb.block k hk⟩,fun b hb _=>q1 b hb,q2,by
  show oC _ _ _ (.d (enc (ItS.mk true (dec (enc a):MSB).ks ((dec (enc a):MSB).vs.map enc)))) _;rw [Enc.dec_enc];exact yL q3⟩
def Sm (l:List (List UInt8)):List (List UInt8):=l.mergeSort fun x y=>decide (x≤y)
def mW (_:Value):Option (DataW Unit×List MemPlace):=some (.nil,[])
theorem jC {F:Fix} {P:Program} {k:TypeId} {es:List MapEntry} {α:Type} {f:α→Value} {g:Lit→α} {ks:List α} (hk:es.map MapEntry.key=ks.map f) (hr:∀ x∈ks,∃ kl,keyOf P k (f x)=some kl∧g kl=x) :
  ((es.map (WideElems.rg P k mW)).map fun p=>g p.1)=ks:=by
 induction es generalizing ks with
 | nil=>cases ks with
  | nil=>rfl
  | cons x ks=>simp at hk
 | cons e es ih =>
  cases ks with
  | nil=>simp at hk
  | cons x ks =>
   simp only [List.map_cons,List.cons.injEq] at hk;obtain ⟨kl,h1,h2⟩:=hr x (List.mem_cons_self ..);have e1:WideElems.rg P k mW e=(kl,.nil):=by
    refine WideElems.rg_of ?_;obtain ⟨key,val,born⟩:=e;simp only at hk;rw [hk.1];exact WideElems.rd_mk (yv:=(.nil,[])) h1 rfl
   rw [List.map_cons,List.map_cons,e1,ih hk.2 fun y hy=>hr y (List.mem_cons_of_mem _ hy)];rw [←h2]
theorem nC {P:Program} {k:TypeId} {es:Array MapEntry} {c:Nat} {α:Type} {f:α→Value} {ks:List α} (V2:es.size≤maxLen) (Uf:Go.MapKept.Stamped es c) (hk:es.toList.map MapEntry.key=ks.map f) (hr:∀ x∈ks,∃ kl,keyOf P k (f x)=some kl):WideElems.Fit P k mW es c:=by
 refine ⟨V2,Uf,fun e he=>?_⟩;have h1:e.key∈ks.map f:=by rw [←hk];exact List.mem_map_of_mem he
 obtain ⟨x,hx,e1⟩:=List.mem_map.1 h1;obtain ⟨kl,h2⟩:=hr x hx;obtain ⟨key,val,born⟩:=e;simp only at e1;refine ⟨(kl,.nil),?_⟩;rw [←e1];exact WideElems.rd_mk (yv:=(.nil,[])) h2 rfl
theorem Zsd {F:Fix}:∀ {ks:List (List UInt8)} {vs:List Value},Rs F (ks.map enc) vs→vs=ks.map Go.Proofs.encStr
 | [],_,h=>by simpa [Rs] using h
 | k::ks,vs,h=>by
  simp only [List.map_cons,Rs] at h;obtain ⟨v,r,rfl,h1,h2⟩:=h;rw [List.map_cons,←Zsd h2];rw [show v=Go.Proofs.encStr k from h1]
theorem Zse {F:Fix}:∀ {ks:List (List UInt8)},RE F 1 (ks.map enc) (ks.map Go.Proofs.encStr)
 | []=>rfl
 | k::ks=>by
  simp only [List.map_cons,RE];refine ⟨Go.Proofs.encStr k,ks.map Go.Proofs.encStr,rfl,rfl,fun u hu=>?_,rfl,Zse⟩;have:u=Go.Proofs.encStr k:=by simpa [Value.cells,Go.Proofs.encStr] using hu
  subst this;rfl
theorem Znz (m:Nat):AnyZ.SortsIn Tryz.prog Iy Fence.wide m :=
 ⟨fun blk off cap ss W hH Zwa V2=>callsIn_wide.2 (AnyM.slices_Sort_string Zro blk off cap ss W hH Zwa V2),
  fun p cap W=>callsIn_wide.2 (AnyM.slices_Sort_string_none Zro p cap W)⟩
def My:Con:=Xd (fun (a:ItS)=>a.b=true∧a.ks.length≤1000000∧∀ s∈a.ks,s.length≤3000000) (fun a=>Sl.mk (Sm a.ks))
theorem jT:Jc Tryz.prog (46,My):=by
 refine ⟨Xc Tryz.func46 (by kernel_rfl) rfl,?_⟩
 intro m w Jj vs Zo kR Ek Yl
 change Con.pre My Jj at Zo
 unfold My at Zo;obtain ⟨⟨tg,ks,us⟩,rfl,Zsm,eS,Pk⟩:=Qp Zo;simp only at Zsm eS Pk;subst Zsm;simp only [Wn,eP] at kR;obtain ⟨v,r,rfl,hv,rfl⟩:=kR;rw [Zcc] at hv;simp only [R] at hv;obtain ⟨bm,b,es,c,rfl,a1,a2,h1,h2,h3,h4,h5⟩:=hv;have Zo6:=Zsd h3;have tR:∀ x∈ks,∃ kl,keyOf Tryz.prog 9 (Go.Proofs.encStr x)=some kl∧strOf kl=x:=fun x hx=>by
  refine ⟨_,WideMaps.keyOf_string_mk Tryz.underlying9 ?_,?_⟩
  ·have:=Pk x hx;show x.toArray.size≤maxLen;rw [List.size_toArray];unfold maxLen;omega
  ·show (x.toArray).toList=x;simp
 have Zc0:es.size=ks.length:=by
  have:=congrArg List.length Zo6;simpa using this
 have Zc2:bm<w.heap.size:=by
  rcases Nat.lt_or_ge bm w.heap.size with h|h
  ·exact h
  ·have:=Yl bm h;omega
 have oI:w.ownsMap Tryz.prog 9 mW b es.size (.map ((es.toList.map (WideElems.rg Tryz.prog 9 mW)).foldr DataW.insert [])) :=
  ⟨es,c,h1,nC (by rw [Zc0];unfold maxLen;omega) h5 Zo6 (fun x hx=>(tR x hx).imp fun kl h=>h.1),Zk _,rfl⟩
 have Za0:Maps.size (DataW.map ((es.toList.map (WideElems.rg Tryz.prog 9 mW)).foldr DataW.insert []))=ks.length:=by
  rw [size_eq,length_read,Zc0]
 have Za1:(strKeys (DataW.map ((es.toList.map (WideElems.rg Tryz.prog 9 mW)).foldr DataW.insert []))).Perm ks:=by
  have:=jC (F:=⟨w,m⟩) (P:=Tryz.prog) (k:=9) (g:=strOf) Zo6 tR;show (List.map (fun p:Lit×DataW Unit=>strOf p.1) _).Perm ks;refine List.Perm.trans ?_ (List.Perm.of_eq this);exact (Go.WideShapes.sorted_perm _).map _
 obtain ⟨D0,Zz0⟩:∃ D0:DataW Unit,DataW.map ((es.toList.map (WideElems.rg Tryz.prog 9 mW)).foldr DataW.insert [])=D0:=⟨_,rfl⟩;rw [Zz0] at oI Za0 Za1;obtain ⟨f,hf⟩:∃ f:Nat,cond true 72 999999=f:=⟨_,rfl⟩;rw [hf];have Tk:Ph Tryz.prog f:=by
  rw [←hf];exact Xc Tryz.func72 (by kernel_rfl) rfl
 have Zu7:SeqGives Fence.wide 2 Tryz.prog f #[.pointer (some ⟨bm,0,none⟩)] Go.Proofs.encStr (fun ss=>ss.Perm (strKeys D0)) (Maps.size D0) w:=by
  rw [←hf];exact AnyZ.keys_gives (ρ:=fD) { Zr7 with } Fence.wide _ trivial rfl (by omega) bm b _ _ _ Zc2 a1 oI
 have cS:=AnyZ.sorted_in Zuc Fence.wide 5 trivial trivial trivial trivial rfl (by omega) (Znz _) (Xc Tryz.func71 (by kernel_rfl) rfl) f #[.pointer (some ⟨bm,0,none⟩)] trivial Tk _ _ (by rw [Za0];unfold maxLen;omega) (by rw [Za0];omega) _ Zu7
 refine Calls.mono (callsIn_wide.1 cS) ?_;rintro e w' ⟨v,ss,rfl,hp,dI,Zcv,hb⟩;have Zu6:(ss.mergeSort fun x y=>decide (x≤y))=Sm ks:=mergeSort_of_perm (hp.trans Za1);rw [Zu6] at dI;have Js:ss.length=((Sm ks).map (enc:List UInt8→D)).length:=by
  rw [Qq];unfold Sm;rw [List.length_mergeSort,(hp.trans Za1).length_eq]
 obtain ⟨m',q1,q2,q3⟩:=yG (m:=m) dI Js (fun F=>Zse) Yl hb.size;exact ⟨_,m',rfl,⟨hb.os,hb.tape,hb.output,hb.size,fun k hk _=>hb.block k hk⟩,fun b hb _=>q1 b hb,q2,by
  show oC _ _ _ (.d (enc (Sl.mk (Sm (dec (enc (ItS.mk true ks us)):ItS).ks)))) _;rw [Enc.dec_enc];exact yL q3⟩
theorem Zbx {x y:List UInt8}:Op.bytesLess x y=true↔x<y:=by rw [bytesLess_eq,decide_eq_true_eq]
theorem Ps {a b c:List UInt8} (h1:Op.bytesLess a b=true) (h2:Op.bytesLess b c=true):Op.bytesLess a c=true:=by
 rw [Zbx] at *;exact List.lt_trans h1 h2
theorem Nu (a:List UInt8):Op.bytesLess a a=false:=by
 rw [bytesLess_eq,decide_eq_false_iff_not];exact List.lt_irrefl a
theorem Ag {a b:List UInt8} (h1:a≠b) (h2:Op.bytesLess b a=false):Op.bytesLess a b=true:=by
 have h:=mN a b;rw [h2] at h;cases hb:Op.bytesLess a b with
 | true=>rfl
 | false=>rw [hb,Za.2 h1] at h;cases h
end Go.Am.Ty
